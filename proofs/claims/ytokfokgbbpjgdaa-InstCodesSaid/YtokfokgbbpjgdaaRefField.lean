
/-
  The document's fields, bit by bit (mintmarkref01), function by function: each makes what package field makes.
-/
import Derived.Test.YtokfokgbbpjgdaaField
namespace Go.Proofs.Ytokfokgbbpjgdaa
open Go Go.RowKit
set_option linter.unusedVariables false
set_option linter.unusedSimpArgs false

theorem rmay_any (a n : Int) (w : World) :
    Calls Try.prog 39 #[.int .i64 a, .int .i64 n] w fun e w' => e = .returned (.bool (mayF a n)) ∧ w = w' := by
  go_enter Try.func39, Try.ntmps39
  go_wp2
  all_goals go_ret
  all_goals exact ⟨ret_bool (by unfold mayF; rw [Bool.eq_iff_iff]; simp; try omega), rfl⟩

theorem rget_any (x : BitVec 64) (a n : Int) (w : World) :
    Calls Try.prog 36 #[.int .u64 (U x), .int .i64 a, .int .i64 n] w fun e w' => e = .returned (.int .u64 (U (getF x a n))) ∧ w = w' := by
  cases hm : mayF a n
  · have Hm := Lib.hid hm
    go_enter Try.func36, Try.ntmps36
    go_wp2_with fail
    refine wp_loop_rounds 1 ?_
    rw [rounds_succ]
    go_wp2_with (go_at_call 39; (with_reducible refine (rmay_any _ _ _).mono ?_); rintro e w' ⟨rfl, rfl⟩)
    go_ret
    exact ⟨ret_lit (by rw [get_not _ _ _ Hm.out]; rfl) (by omega), rfl⟩
  · obtain ⟨h1, h2, h3, h4⟩ := (mayF_iff a n).1 hm
    go_enter Try.func36, Try.ntmps36
    go_wp2_with fail
    go_loop [7, 8] (fun m i => ∃ k : Nat, (k : Int) ≤ n ∧ i = .int .i64 k ∧ m = .int .u64 (U (getF x a k))) (fun _ i => 64 - (intOf i).toNat)
    case atStart =>
      refine ⟨0, by omega, rfl, ?_⟩
      have : getF x a ((0 : Nat) : Int) = 0#64 := by
        apply ext64
        intro j hj
        rw [get_lsb _ _ _ ((mayF_iff _ _).2 (by omega))]
        simp
      rw [this]; rfl
    case round =>
      obtain ⟨k, hk, rfl, rfl⟩ := hrel
      by_cases h5 : (k : Int) < n
      · have h0 : 0 ≤ (k : Int) := by omega
        have h6 : (k : Int) < 64 := by omega
        have h7 : 0 ≤ a + k := by omega
        have h8 : a + k < 64 := by omega
        have HM := Lib.hid (get_succ x a k h3 h8)
        go_wp2_with (go_at_call 39; (with_reducible refine (rmay_any _ _ _).mono ?_); rintro e w' ⟨rfl, rfl⟩)
        go_round
        case rel => exact ⟨k + 1, by omega, by go_num, congrArg (fun y => Value.int IntKind.u64 (U y)) HM.out.symm⟩
        case measure => simp [intOf]; omega
      · go_wp2_with (go_at_call 39; (with_reducible refine (rmay_any _ _ _).mono ?_); rintro e w' ⟨rfl, rfl⟩)
        go_ret
        exact ⟨ret_U (by rw [show n = (k : Int) by omega]), rfl⟩

theorem rsign_any (x : BitVec 64) (n : Int) (w : World) :
    Calls Try.prog 37 #[.int .u64 (U x), .int .i64 n] w fun e w' => e = .returned (.int .u64 (U (sgnF x n))) ∧ w = w' := by
  by_cases h1 : n < 1
  · go_enter Try.func37, Try.ntmps37
    go_wp2
    go_ret
    exact ⟨ret_lit (by unfold sgnF; rw [if_neg (by omega)]; rfl) (by omega), rfl⟩
  · by_cases h2 : 64 < n
    · go_enter Try.func37, Try.ntmps37
      go_wp2
      go_ret
      exact ⟨ret_lit (by unfold sgnF; rw [if_neg (by omega)]; rfl) (by omega), rfl⟩
    · have hn : 1 ≤ n ∧ n ≤ 64 := by omega
      go_enter Try.func37, Try.ntmps37
      go_wp2_with fail
      go_loop [5, 6, 7] (fun m i _ => ∃ k : Nat, k ≤ 64 ∧ i = .int .i64 k ∧ m = .int .u64 (U (sgnF x n &&& maskF k))) (fun _ i _ => 64 - (intOf i).toNat)
      case atStart => exact ⟨0, by omega, rfl, congrArg (fun y => Value.int IntKind.u64 (U y)) (low_0 _).symm⟩
      case round =>
        obtain ⟨k, hk, rfl, rfl⟩ := hrel
        by_cases h5 : (k : Int) < 64
        · have h0 : 0 ≤ (k : Int) := by omega
          by_cases h6 : (k : Int) < n
          · have HM := Lib.hid (sgn_bit x n hn k (by omega) k (by rw [if_pos h6]))
            go_wp2
            go_round
            case rel => exact ⟨k + 1, by omega, by go_num, congrArg (fun y => Value.int IntKind.u64 (U y)) HM.out.symm⟩
            case measure => simp [intOf]; omega
          · have h7 : 0 ≤ n - 1 := by omega
            have h8 : n - 1 < 64 := by omega
            have HM := Lib.hid (sgn_bit x n hn k (by omega) (n - 1) (by rw [if_neg h6]))
            go_wp2
            go_round
            case rel => exact ⟨k + 1, by omega, by go_num, congrArg (fun y => Value.int IntKind.u64 (U y)) (by have e := HM.out; rw [show (n - 1).toNat = n.toNat - 1 by omega] at e; exact e.symm)⟩
            case measure => simp [intOf]; omega
        · go_wp2
          go_ret
          have e : (k : Int) = 64 := by omega
          exact ⟨ret_U (by rw [e, low_64]), rfl⟩

theorem rfits_any (x : BitVec 64) (n : Int) (s : Bool) (w : World) :
    Calls Try.prog 26 #[.int .i64 (S x), .int .i64 n, .bool s] w fun e w' => e = .returned (.bool (fitsF x n s)) ∧ w = w' := by
  by_cases h1 : n < 1
  · go_enter Try.func26, Try.ntmps26
    go_wp2
    go_ret
    exact ⟨ret_bool (by unfold fitsF; rw [if_pos (by omega)]), rfl⟩
  · by_cases h2 : 64 < n
    · go_enter Try.func26, Try.ntmps26
      go_wp2
      go_ret
      exact ⟨ret_bool (by unfold fitsF; rw [if_pos (by omega)]), rfl⟩
    · have hn : ¬ (n < 1 ∨ 64 < n) := by omega
      have Hg := Lib.hid (get_is_mask x n (by omega))
      cases s
      · by_cases h3 : 0 ≤ S x
        · go_enter Try.func26, Try.ntmps26
          go_wp2_with (first | (go_at_call 37; (with_reducible refine (rsign_any _ _ _).mono ?_); rintro e w' ⟨rfl, rfl⟩) | (go_at_call 36; (with_reducible refine (rget_any _ _ _ _).mono ?_); rintro e w' ⟨rfl, rfl⟩))
          go_ret
          refine ⟨ret_bool ?_, rfl⟩
          unfold fitsF
          rw [if_neg hn, if_neg (by decide), ← and_mask_self, ← Hg.out, decide_eq_true h3]
          rfl
        · go_enter Try.func26, Try.ntmps26
          go_wp2_with (first | (go_at_call 37; (with_reducible refine (rsign_any _ _ _).mono ?_); rintro e w' ⟨rfl, rfl⟩) | (go_at_call 36; (with_reducible refine (rget_any _ _ _ _).mono ?_); rintro e w' ⟨rfl, rfl⟩))
          go_ret
          refine ⟨ret_bool ?_, rfl⟩
          unfold fitsF
          rw [if_neg hn, if_neg (by decide), decide_eq_false (by omega)]
          rfl
      · go_enter Try.func26, Try.ntmps26
        go_wp2_with (first | (go_at_call 37; (with_reducible refine (rsign_any _ _ _).mono ?_); rintro e w' ⟨rfl, rfl⟩) | (go_at_call 36; (with_reducible refine (rget_any _ _ _ _).mono ?_); rintro e w' ⟨rfl, rfl⟩))
        go_ret
        refine ⟨ret_bool ?_, rfl⟩
        unfold fitsF
        rw [if_neg hn, if_pos rfl]
end Go.Proofs.Ytokfokgbbpjgdaa
