/-
  The document's fields, bit by bit (mintmarkref01), function by function: each makes what package field makes.
-/
import Derived.Test.YthocdmcopalgdaaFieldBits
namespace Go.Proofs.Ythocdmcopalgdaa
open Go Go.RowKit

theorem mask_succ (k : Nat) (h : k < 64) : maskF ((k : Int) + 1) = maskF k ||| 1#64 <<< k := by
  apply ext64
  intro j hj
  rw [BitVec.getLsbD_or, mask_lsb _ (by omega), mask_lsb _ (by omega), BitVec.getLsbD_shiftLeft, BitVec.getLsbD_one, decide_eq_true hj]
  rw [show ((k : Int) + 1).toNat = k + 1 by omega, show (k : Int).toNat = k by omega]
  by_cases c : j < k
  · rw [decide_eq_true c, decide_eq_true (show j < k + 1 by omega)]; simp
  · by_cases c2 : j = k
    · subst c2; simp
    · rw [decide_eq_false c, decide_eq_false (show ¬ j < k + 1 by omega)]
      simp; omega
theorem bit_lsb (x : BitVec 64) (p k j : Nat) (hk : k < 64) (hj : j < 64) : ((x >>> p &&& 1#64) <<< k).getLsbD j = (decide (j = k) && x.getLsbD p) := by
  rw [BitVec.getLsbD_shiftLeft, BitVec.getLsbD_and, BitVec.getLsbD_ushiftRight, BitVec.getLsbD_one, decide_eq_true hj]
  by_cases c : j = k
  · subst c; simp
  · rw [decide_eq_false c]
    by_cases c2 : j < k
    · simp [c2]
    · simp; omega
theorem low_succ (y b : BitVec 64) (k : Nat) (h : k < 64) (hb : ∀ j, j < 64 → (b <<< k).getLsbD j = (decide (j = k) && y.getLsbD k)) : y &&& maskF ((k : Int) + 1) = (y &&& maskF k) ||| b <<< k := by
  apply ext64
  intro j hj
  rw [BitVec.getLsbD_or, BitVec.getLsbD_and, BitVec.getLsbD_and, mask_lsb _ (by omega), mask_lsb _ (by omega), hb j hj]
  rw [show ((k : Int) + 1).toNat = k + 1 by omega, show (k : Int).toNat = k by omega]
  by_cases c : j < k
  · rw [decide_eq_true c, decide_eq_true (show j < k + 1 by omega), decide_eq_false (show ¬ j = k by omega)]; simp
  · by_cases c2 : j = k
    · subst c2; simp
    · rw [decide_eq_false c, decide_eq_false (show ¬ j < k + 1 by omega), decide_eq_false c2]; simp
theorem low_64 (y : BitVec 64) : y &&& maskF 64 = y := by
  apply ext64
  intro j hj
  rw [BitVec.getLsbD_and, mask_lsb 64 (by omega), decide_eq_true (show j < (64 : Int).toNat by omega), Bool.and_true]
theorem low_0 (y : BitVec 64) : y &&& maskF 0 = 0#64 := by
  have : maskF 0 = 0#64 := rfl
  rw [this]; simp
theorem get_succ (x : BitVec 64) (a : Int) (k : Nat) (h0 : 0 ≤ a) (h1 : a + k < 64) : getF x a ((k : Int) + 1) = getF x a k ||| (x >>> (a + k).toNat &&& 1#64) <<< k := by
  have g1 : mayF a ((k : Int) + 1) = true := (mayF_iff _ _).2 (by omega)
  have g2 : mayF a k = true := (mayF_iff _ _).2 (by omega)
  apply ext64
  intro j hj
  rw [BitVec.getLsbD_or, get_lsb _ _ _ g1, get_lsb _ _ _ g2, bit_lsb _ _ _ _ (by omega) hj]
  rw [show ((k : Int) + 1).toNat = k + 1 by omega, show (k : Int).toNat = k by omega]
  by_cases c : j < k
  · rw [decide_eq_true c, decide_eq_true (show j < k + 1 by omega), decide_eq_false (show ¬ j = k by omega)]; simp
  · by_cases c2 : j = k
    · subst c2
      rw [show (a + j).toNat = a.toNat + j by omega]
      simp
    · rw [decide_eq_false c, decide_eq_false (show ¬ j < k + 1 by omega), decide_eq_false c2]; simp

theorem rmask_any (n : Int) (w : World) :
    Calls Try.prog 15 #[.int .i64 n] w fun e w' => e = .returned (.int .u64 (U (maskF n))) ∧ w = w' := by
  go_enter Try.func15, Try.ntmps15
  go_wp2_with fail
  go_loop [3, 4] (fun m i => ∃ k : Nat, k ≤ 64 ∧ ((k : Int) ≤ n ∨ k = 0) ∧ i = .int .i64 k ∧ m = .int .u64 (U (maskF k))) (fun _ i => 64 - (intOf i).toNat)
  case atStart => exact ⟨0, by omega, .inr rfl, rfl, rfl⟩
  case round =>
    obtain ⟨k, hk, hkn, rfl, rfl⟩ := hrel
    by_cases h1 : (k : Int) < n
    · by_cases h2 : (k : Int) < 64
      · have h0 : 0 ≤ (k : Int) := by omega
        have HM := Lib.hid (mask_succ k (by omega))
        go_wp2
        go_round
        case rel => exact ⟨k + 1, by omega, .inl (by omega), by go_num, congrArg (fun y => Value.int IntKind.u64 (U y)) HM.out.symm⟩
        case measure => simp [intOf]; omega
      · have hk' : k = 64 := by omega
        have HM := Lib.hid hk'
        clear hk' hkn
        go_wp2
        go_ret
        refine ⟨ret_U ?_, rfl⟩
        rw [HM.out]
        unfold maskF
        rw [if_neg (by omega), if_pos (by omega), if_neg (by omega), if_pos (by omega)]
    · go_wp2
      go_ret
      refine ⟨ret_U ?_, rfl⟩
      rcases hkn with h | h
      · rw [show n = (k : Int) by omega]
      · rw [h]; unfold maskF
        rw [if_pos (by omega), if_pos (by omega)]

theorem rmay_any (a n : Int) (w : World) :
    Calls Try.prog 20 #[.int .i64 a, .int .i64 n] w fun e w' => e = .returned (.bool (mayF a n)) ∧ w = w' := by
  go_enter Try.func20, Try.ntmps20
  go_wp2
  all_goals go_ret
  all_goals exact ⟨ret_bool (by unfold mayF; rw [Bool.eq_iff_iff]; simp; try omega), rfl⟩

theorem rget_any (x : BitVec 64) (a n : Int) (w : World) :
    Calls Try.prog 16 #[.int .u64 (U x), .int .i64 a, .int .i64 n] w fun e w' => e = .returned (.int .u64 (U (getF x a n))) ∧ w = w' := by
  cases hm : mayF a n
  · have Hm := Lib.hid hm
    go_enter Try.func16, Try.ntmps16
    go_wp2_with fail
    refine wp_loop_rounds 1 ?_
    rw [rounds_succ]
    go_wp2_with (go_at_call 20; (with_reducible refine (rmay_any _ _ _).mono ?_); rintro e w' ⟨rfl, rfl⟩)
    go_ret
    exact ⟨ret_lit (by rw [get_not _ _ _ Hm.out]; rfl) (by omega), rfl⟩
  · obtain ⟨h1, h2, h3, h4⟩ := (mayF_iff a n).1 hm
    go_enter Try.func16, Try.ntmps16
    go_wp2_with fail
    go_loop [7, 8] (fun m i => ∃ k : Nat, (k : Int) ≤ n ∧ i = .int .i64 k ∧ m = .int .u64 (U (getF x a k))) (fun _ i => 64 - (intOf i).toNat)
    case atStart =>
      refine ⟨0, by omega, rfl, ?_⟩
      have : getF x a ((0 : Nat) : Int) = 0#64 := by
        apply ext64
        intro j hj
        rw [get_lsb _ _ _ ((mayF_iff _ _).2 (by omega))]
        simp
      rw [this]; rfl
    case round =>
      obtain ⟨k, hk, rfl, rfl⟩ := hrel
      by_cases h5 : (k : Int) < n
      · have h0 : 0 ≤ (k : Int) := by omega
        have h6 : (k : Int) < 64 := by omega
        have h7 : 0 ≤ a + k := by omega
        have h8 : a + k < 64 := by omega
        have HM := Lib.hid (get_succ x a k h3 h8)
        go_wp2_with (go_at_call 20; (with_reducible refine (rmay_any _ _ _).mono ?_); rintro e w' ⟨rfl, rfl⟩)
        go_round
        case rel => exact ⟨k + 1, by omega, by go_num, congrArg (fun y => Value.int IntKind.u64 (U y)) HM.out.symm⟩
        case measure => simp [intOf]; omega
      · go_wp2_with (go_at_call 20; (with_reducible refine (rmay_any _ _ _).mono ?_); rintro e w' ⟨rfl, rfl⟩)
        go_ret
        exact ⟨ret_U (by rw [show n = (k : Int) by omega]), rfl⟩

theorem put_bit (x v : BitVec 64) (a n : Int) (hm : mayF a n = true) (k : Nat) (h : k < 64) (hin : a ≤ k ∧ k - a < n) :
    putF x a n v &&& maskF ((k : Int) + 1) = (putF x a n v &&& maskF k) ||| (v >>> ((k : Int) - a).toNat &&& 1#64) <<< k := by
  have h' := (mayF_iff a n).1 hm
  refine low_succ _ _ k h fun j hj => ?_
  rw [bit_lsb _ _ _ _ h hj, put_lsb _ _ _ _ hm _ h, if_pos (by omega)]
  congr 2
  omega
theorem put_bit_not (x v : BitVec 64) (a n : Int) (hm : mayF a n = true) (k : Nat) (h : k < 64) (hin : ¬ (a ≤ k ∧ k - a < n)) :
    putF x a n v &&& maskF ((k : Int) + 1) = (putF x a n v &&& maskF k) ||| (x >>> (k : Int).toNat &&& 1#64) <<< k := by
  have h' := (mayF_iff a n).1 hm
  refine low_succ _ _ k h fun j hj => ?_
  rw [bit_lsb _ _ _ _ h hj, put_lsb _ _ _ _ hm _ h, if_neg (by omega)]
  rfl

theorem rput_any (x v : BitVec 64) (a n : Int) (w : World) :
    Calls Try.prog 11 #[.int .u64 (U x), .int .i64 a, .int .i64 n, .int .u64 (U v)] w fun e w' => e = .returned (.int .u64 (U (putF x a n v))) ∧ w = w' := by
  cases hm : mayF a n
  · have Hm := Lib.hid hm
    go_enter Try.func11, Try.ntmps11
    go_wp2_with (go_at_call 20; (with_reducible refine (rmay_any _ _ _).mono ?_); rintro e w' ⟨rfl, rfl⟩)
    go_ret
    exact ⟨ret_U (by rw [put_not _ _ _ _ Hm.out]), rfl⟩
  · obtain ⟨h1, h2, h3, h4⟩ := (mayF_iff a n).1 hm
    have Hm := Lib.hid hm
    go_enter Try.func11, Try.ntmps11
    go_wp2_with (go_at_call 20; (with_reducible refine (rmay_any _ _ _).mono ?_); rintro e w' ⟨rfl, rfl⟩)
    clear hm
    go_loop [9, 10, 11] (fun m i _ => ∃ k : Nat, k ≤ 64 ∧ i = .int .i64 k ∧ m = .int .u64 (U (putF x a n v &&& maskF k))) (fun _ i _ => 64 - (intOf i).toNat)
    case atStart => exact ⟨0, by omega, rfl, congrArg (fun y => Value.int IntKind.u64 (U y)) (low_0 _).symm⟩
    case round =>
      obtain ⟨k, hk, rfl, rfl⟩ := hrel
      by_cases h5 : (k : Int) < 64
      · have h0 : 0 ≤ (k : Int) := by omega
        by_cases h6 : a ≤ (k : Int)
        · by_cases h7 : (k : Int) - a < n
          · have h8 : 0 ≤ (k : Int) - a := by omega
            have h9 : (k : Int) - a < 64 := by omega
            have HM := Lib.hid (put_bit x v a n Hm.out k (by omega) ⟨h6, h7⟩)
            go_wp2
            go_round
            case rel => exact ⟨k + 1, by omega, by go_num, congrArg (fun y => Value.int IntKind.u64 (U y)) HM.out.symm⟩
            case measure => simp [intOf]; omega
          · have HM := Lib.hid (put_bit_not x v a n Hm.out k (by omega) (by omega))
            go_wp2
            go_round
            case rel => exact ⟨k + 1, by omega, by go_num, congrArg (fun y => Value.int IntKind.u64 (U y)) HM.out.symm⟩
            case measure => simp [intOf]; omega
        · have HM := Lib.hid (put_bit_not x v a n Hm.out k (by omega) (by omega))
          go_wp2
          go_round
          case rel => exact ⟨k + 1, by omega, by go_num, congrArg (fun y => Value.int IntKind.u64 (U y)) HM.out.symm⟩
          case measure => simp [intOf]; omega
      · go_wp2
        go_ret
        have e : (k : Int) = 64 := by omega
        exact ⟨ret_U (by rw [e, low_64]), rfl⟩

theorem sgn_bit (x : BitVec 64) (n : Int) (hn : 1 ≤ n ∧ n ≤ 64) (k : Nat) (h : k < 64) (p : Int) (hp : p = if (k : Int) < n then (k : Int) else n - 1) :
    sgnF x n &&& maskF ((k : Int) + 1) = (sgnF x n &&& maskF k) ||| (x >>> p.toNat &&& 1#64) <<< k := by
  refine low_succ _ _ k h fun j hj => ?_
  rw [bit_lsb _ _ _ _ h hj, sgn_lsb _ _ hn _ h]
  congr 2
  rw [hp]
  split <;> split <;> omega
theorem rsign_any (x : BitVec 64) (n : Int) (w : World) :
    Calls Try.prog 17 #[.int .u64 (U x), .int .i64 n] w fun e w' => e = .returned (.int .u64 (U (sgnF x n))) ∧ w = w' := by
  by_cases h1 : n < 1
  · go_enter Try.func17, Try.ntmps17
    go_wp2
    go_ret
    exact ⟨ret_lit (by unfold sgnF; rw [if_neg (by omega)]; rfl) (by omega), rfl⟩
  · by_cases h2 : 64 < n
    · go_enter Try.func17, Try.ntmps17
      go_wp2
      go_ret
      exact ⟨ret_lit (by unfold sgnF; rw [if_neg (by omega)]; rfl) (by omega), rfl⟩
    · have hn : 1 ≤ n ∧ n ≤ 64 := by omega
      go_enter Try.func17, Try.ntmps17
      go_wp2_with fail
      go_loop [5, 6, 7] (fun m i _ => ∃ k : Nat, k ≤ 64 ∧ i = .int .i64 k ∧ m = .int .u64 (U (sgnF x n &&& maskF k))) (fun _ i _ => 64 - (intOf i).toNat)
      case atStart => exact ⟨0, by omega, rfl, congrArg (fun y => Value.int IntKind.u64 (U y)) (low_0 _).symm⟩
      case round =>
        obtain ⟨k, hk, rfl, rfl⟩ := hrel
        by_cases h5 : (k : Int) < 64
        · have h0 : 0 ≤ (k : Int) := by omega
          by_cases h6 : (k : Int) < n
          · have HM := Lib.hid (sgn_bit x n hn k (by omega) k (by rw [if_pos h6]))
            go_wp2
            go_round
            case rel => exact ⟨k + 1, by omega, by go_num, congrArg (fun y => Value.int IntKind.u64 (U y)) HM.out.symm⟩
            case measure => simp [intOf]; omega
          · have h7 : 0 ≤ n - 1 := by omega
            have h8 : n - 1 < 64 := by omega
            have HM := Lib.hid (sgn_bit x n hn k (by omega) (n - 1) (by rw [if_neg h6]))
            go_wp2
            go_round
            case rel => exact ⟨k + 1, by omega, by go_num, congrArg (fun y => Value.int IntKind.u64 (U y)) (by have e := HM.out; rw [show (n - 1).toNat = n.toNat - 1 by omega] at e; exact e.symm)⟩
            case measure => simp [intOf]; omega
        · go_wp2
          go_ret
          have e : (k : Int) = 64 := by omega
          exact ⟨ret_U (by rw [e, low_64]), rfl⟩

theorem get_is_mask (x : BitVec 64) (n : Int) (h : 1 ≤ n ∧ n ≤ 64) : getF x 0 n = x &&& maskF n := by
  have g : mayF 0 n = true := (mayF_iff _ _).2 (by omega)
  apply ext64
  intro j hj
  rw [get_lsb _ _ _ g, BitVec.getLsbD_and, mask_lsb n h.2, Bool.and_comm]
  rw [show (0 : Int).toNat + j = j by omega]
theorem and_mask_self (x m : BitVec 64) : (x &&& m == x) = (x &&& ~~~ m == 0#64) := by
  rw [Bool.eq_iff_iff, beq_iff_eq, beq_iff_eq]
  constructor
  · intro e
    apply ext64
    intro j hj
    have := congrArg (fun y => y.getLsbD j) e
    simp only [BitVec.getLsbD_and] at this
    rw [BitVec.getLsbD_and, BitVec.getLsbD_not]
    cases h1 : x.getLsbD j <;> cases h2 : m.getLsbD j <;> simp_all
  · intro e
    apply ext64
    intro j hj
    have := congrArg (fun y => y.getLsbD j) e
    simp only [BitVec.getLsbD_and, BitVec.getLsbD_not, BitVec.getLsbD_zero] at this
    rw [BitVec.getLsbD_and]
    cases h1 : x.getLsbD j <;> cases h2 : m.getLsbD j <;> simp_all
theorem rfits_any (x : BitVec 64) (n : Int) (s : Bool) (w : World) :
    Calls Try.prog 18 #[.int .i64 (S x), .int .i64 n, .bool s] w fun e w' => e = .returned (.bool (fitsF x n s)) ∧ w = w' := by
  by_cases h1 : n < 1
  · go_enter Try.func18, Try.ntmps18
    go_wp2
    go_ret
    exact ⟨ret_bool (by unfold fitsF; rw [if_pos (by omega)]), rfl⟩
  · by_cases h2 : 64 < n
    · go_enter Try.func18, Try.ntmps18
      go_wp2
      go_ret
      exact ⟨ret_bool (by unfold fitsF; rw [if_pos (by omega)]), rfl⟩
    · have hn : ¬ (n < 1 ∨ 64 < n) := by omega
      have Hg := Lib.hid (get_is_mask x n (by omega))
      cases s
      · by_cases h3 : 0 ≤ S x
        · go_enter Try.func18, Try.ntmps18
          go_wp2_with (first | (go_at_call 17; (with_reducible refine (rsign_any _ _ _).mono ?_); rintro e w' ⟨rfl, rfl⟩) | (go_at_call 16; (with_reducible refine (rget_any _ _ _ _).mono ?_); rintro e w' ⟨rfl, rfl⟩))
          go_ret
          refine ⟨ret_bool ?_, rfl⟩
          unfold fitsF
          rw [if_neg hn, if_neg (by decide), ← and_mask_self, ← Hg.out, decide_eq_true h3]
          rfl
        · go_enter Try.func18, Try.ntmps18
          go_wp2_with (first | (go_at_call 17; (with_reducible refine (rsign_any _ _ _).mono ?_); rintro e w' ⟨rfl, rfl⟩) | (go_at_call 16; (with_reducible refine (rget_any _ _ _ _).mono ?_); rintro e w' ⟨rfl, rfl⟩))
          go_ret
          refine ⟨ret_bool ?_, rfl⟩
          unfold fitsF
          rw [if_neg hn, if_neg (by decide), decide_eq_false (by omega)]
          rfl
      · go_enter Try.func18, Try.ntmps18
        go_wp2_with (first | (go_at_call 17; (with_reducible refine (rsign_any _ _ _).mono ?_); rintro e w' ⟨rfl, rfl⟩) | (go_at_call 16; (with_reducible refine (rget_any _ _ _ _).mono ?_); rintro e w' ⟨rfl, rfl⟩))
        go_ret
        refine ⟨ret_bool ?_, rfl⟩
        unfold fitsF
        rw [if_neg hn, if_pos rfl]
end Go.Proofs.Ythocdmcopalgdaa
