/-
  The document's powers of two (mintmarkref02), function by function.
-/
import Derived.Test.YtbjffaiokljbdaaLog
namespace Go.Proofs.Ytbjffaiokljbdaa
open Go Go.RowKit
set_option linter.unusedVariables false

theorem rlog_any (x : BitVec 64) (w : World) : Calls Try.prog 20 #[.int .u64 (U x)] w fun e w' => e = .returned (.int .i64 (logF x)) ∧ w = w' := by
  go_enter Try.func20, Try.ntmps20
  go_wp2_with fail
  go_loop [3] (fun i => ∃ k : Nat, k ≤ 64 ∧ i = .int .i64 ((k : Int) - 1) ∧ ∀ j, k ≤ j → x.getLsbD j = false) (fun i => (intOf i + 1).toNat)
  case atStart => exact ⟨64, by omega, rfl, fun j hj => lsb_ge x j hj⟩
  case round =>
    obtain ⟨k, hk, rfl, hl⟩ := hrel
    have HL := Lib.hid hl
    clear hl
    by_cases h0 : 0 ≤ (k : Int) - 1
    · have h1 : (k : Int) - 1 < 64 := by omega
      cases hb : x.getLsbD (k - 1)
      · have ht : (x >>> (k - 1) &&& 1#64 == 1#64) = false := by rw [bit_test, hb]
        have Hb := Lib.hid hb
        clear hb
        go_wp2
        go_round
        case rel =>
          refine ⟨k - 1, by omega, congrArg (Value.int IntKind.i64) (by omega), fun j hj => ?_⟩
          by_cases c : j = k - 1
          · rw [c]; exact Hb.out
          · exact HL.out j (by omega)
        case measure => simp [intOf]; omega
      · have ht : (x >>> (k - 1) &&& 1#64 == 1#64) = true := by rw [bit_test, hb]
        have Hb := Lib.hid hb
        clear hb
        go_wp2
        go_ret
        refine ⟨ret_int ?_, rfl⟩
        rw [logF_of x (k - 1) (by omega) Hb.out (fun i hi => HL.out i (by omega))]
        omega
    · go_wp2
      go_ret
      refine ⟨ret_int ?_, rfl⟩
      rw [logF_none x (fun i => HL.out i (by omega))]

theorem rzeros_any (x : BitVec 64) (w : World) : Calls Try.prog 21 #[.int .u64 (U x)] w fun e w' => e = .returned (.int .i64 (zerosF x : Int)) ∧ w = w' := by
  go_enter Try.func21, Try.ntmps21
  go_wp2_with fail
  go_loop [3] (fun i => ∃ k : Nat, k ≤ 64 ∧ i = .int .i64 k ∧ ∀ j, j < k → x.getLsbD j = false) (fun i => 64 - (intOf i).toNat)
  case atStart => exact ⟨0, by omega, rfl, fun j hj => by omega⟩
  case round =>
    obtain ⟨k, hk, rfl, hl⟩ := hrel
    have HL := Lib.hid hl
    clear hl
    by_cases h1 : (k : Int) < 64
    · have h0 : 0 ≤ (k : Int) := by omega
      cases hb : x.getLsbD k
      · have ht : (x >>> k &&& 1#64 == 1#64) = false := by rw [bit_test, hb]
        have Hb := Lib.hid hb
        clear hb
        go_wp2
        go_round
        case rel =>
          refine ⟨k + 1, by omega, by go_num, fun j hj => ?_⟩
          by_cases c : j = k
          · rw [c]; exact Hb.out
          · exact HL.out j (by omega)
        case measure => simp [intOf]; omega
      · have ht : (x >>> k &&& 1#64 == 1#64) = true := by rw [bit_test, hb]
        have Hb := Lib.hid hb
        clear hb
        go_wp2
        go_ret
        refine ⟨ret_int ?_, rfl⟩
        rw [zerosF_of x k (by omega) Hb.out (fun i hi => HL.out i (by omega))]
    · go_wp2
      go_ret
      refine ⟨ret_int ?_, rfl⟩
      rw [zerosF_none x (fun i hi => HL.out i (by omega))]
      rfl

theorem down_succ (x : BitVec 64) (k : Nat) (h : k < 64) : downF x ((k : Int) + 1) = downF x k &&& ~~~ (1#64 <<< k) := by
  unfold downF
  rw [mask_succ k h]
  apply ext64
  intro j hj
  simp only [BitVec.getLsbD_and, BitVec.getLsbD_not, BitVec.getLsbD_or, decide_eq_true hj]
  cases x.getLsbD j <;> cases (maskF k).getLsbD j <;> simp
theorem down_0 (x : BitVec 64) : downF x 0 = x := by
  unfold downF
  show x &&& ~~~ 0#64 = x
  rw [BitVec.not_zero, BitVec.and_allOnes]
theorem rdown_any (x : BitVec 64) (n : Int) (w : World) : Calls Try.prog 22 #[.int .u64 (U x), .int .i64 n] w fun e w' => e = .returned (.int .u64 (U (downF x n))) ∧ w = w' := by
  go_enter Try.func22, Try.ntmps22
  go_wp2_with fail
  go_loop [0, 5] (fun y i => ∃ k : Nat, k ≤ 64 ∧ ((k : Int) ≤ n ∨ k = 0) ∧ i = .int .i64 k ∧ y = .int .u64 (U (downF x k))) (fun _ i => 64 - (intOf i).toNat)
  case atStart => exact ⟨0, by omega, .inr rfl, rfl, congrArg (fun y => Value.int IntKind.u64 (U y)) (down_0 x).symm⟩
  case round =>
    obtain ⟨k, hk, hkn, rfl, rfl⟩ := hrel
    by_cases h1 : (k : Int) < n
    · by_cases h2 : (k : Int) < 64
      · have h0 : 0 ≤ (k : Int) := by omega
        have HM := Lib.hid (down_succ x k (by omega))
        go_wp2
        go_round
        case rel => exact ⟨k + 1, by omega, .inl (by omega), by go_num, congrArg (fun y => Value.int IntKind.u64 (U y)) HM.out.symm⟩
        case measure => simp [intOf]; omega
      · have hk' : k = 64 := by omega
        have HM := Lib.hid hk'
        clear hk' hkn
        go_wp2
        go_ret
        refine ⟨ret_U ?_, rfl⟩
        rw [HM.out]
        unfold downF
        have e : maskF n = maskF ((64 : Nat) : Int) := by
          unfold maskF
          rw [if_neg (by omega), if_pos (by omega), if_neg (by omega), if_pos (by omega)]
        rw [e]
    · go_wp2
      go_ret
      refine ⟨ret_U ?_, rfl⟩
      rcases hkn with h | h
      · rw [show n = (k : Int) by omega]
      · rw [h]; unfold downF
        have e : maskF n = maskF ((0 : Nat) : Int) := by
          unfold maskF
          rw [if_pos (by omega), if_pos (by omega)]
        rw [e]

theorem down_eq (x : BitVec 64) (n : Int) : (downF x n == x) = (x &&& maskF n == 0#64) := by
  unfold downF
  have := and_mask_self x (~~~ maskF n)
  rw [this]
  simp
theorem neg_mask (n : Int) (h : n ≤ 0) : maskF n = 0#64 := by unfold maskF; rw [if_pos (by omega)]
theorem big_mask (n : Int) (h : 64 ≤ n) : maskF n = 18446744073709551615#64 := by unfold maskF; rw [if_neg (by omega), if_pos h]
theorem rup_any (x : BitVec 64) (n : Int) (w : World) : Calls Try.prog 19 #[.int .u64 (U x), .int .i64 n] w fun e w' => e = .returned (.tuple #[.int .u64 (U (upF x n)), .bool (upOk x n)]) ∧ w = w' := by
  have hd := down_eq x n
  cases h1 : (x &&& maskF n == 0#64)
  · rw [h1] at hd
    by_cases h2 : 63 < n
    · have ho : overF x (maskF n) = true := by
        rw [big_mask n (by omega)] at h1 ⊢
        unfold overF
        have hx : x ≠ 0#64 := by rintro rfl; simp at h1
        have : x.toNat ≠ 0 := fun h => hx (BitVec.eq_of_toNat_eq (by rw [h]; rfl))
        exact decide_eq_true (by show 18446744073709551616 ≤ x.toNat + 18446744073709551615; omega)
      have H1 := Lib.hid h1
      clear h1
      go_enter Try.func19, Try.ntmps19
      go_wp2_with (go_at_call 22; (with_reducible refine (rdown_any _ _ _).mono ?_); rintro e w' ⟨rfl, rfl⟩)
      go_ret2
      exact ⟨by unfold upF upOk; rw [H1.out, ho]; rfl, rfl⟩
    · have hn1 : 1 ≤ n := by
        by_cases c : 1 ≤ n
        · exact c
        · rw [neg_mask n (by omega)] at h1; simp at h1
      obtain ⟨m, rfl⟩ := Int.eq_ofNat_of_zero_le (show 0 ≤ n by omega)
      have hm : x.toNat % 2 ^ m ≠ 0 := by
        rw [zero_iff x m (by omega)] at h1
        simpa using h1
      have hu := up_more x m (by omega) hm
      have hdn := up_lsb x m (by omega)
      have h64 : (m : Int) < 64 := by omega
      have h00 : 0 ≤ (m : Int) := by omega
      have hp : (1#64 <<< m).toNat = 2 ^ m := by
        rw [BitVec.toNat_shiftLeft, Nat.shiftLeft_eq]
        show 1 * 2 ^ m % 2 ^ 64 = 2 ^ m
        rw [Nat.one_mul, Nat.mod_eq_of_lt (Nat.pow_lt_pow_right (by omega) (by omega))]
      have hpl : 2 ^ m ≤ 2 ^ 63 := Nat.pow_le_pow_right (by omega) (by omega)
      have hsum : (downF x m + 1#64 <<< m).toNat = (x.toNat / 2 ^ m * 2 ^ m + 2 ^ m) % 2 ^ 64 := by
        rw [BitVec.toNat_add, hdn, hp]
      have hdl : x.toNat / 2 ^ m * 2 ^ m < 2 ^ 64 := by rw [← hdn]; exact (downF x m).isLt
      have HU := Lib.hid hu
      have H1 := Lib.hid h1
      clear hu h1 hm
      cases ho : overF x (maskF m)
      · have hlt : x.toNat / 2 ^ m * 2 ^ m + 2 ^ m < 2 ^ 64 := by
          have := HU.out.1
          rw [ho] at this
          have := of_decide_eq_false this.symm
          omega
        have hnl : ¬ U (downF x m + 1#64 <<< m) < U (downF x m) := by
          unfold U
          rw [hsum, hdn, Nat.mod_eq_of_lt hlt]
          omega
        have Hv : Hid (downF x m + 1#64 <<< m = (x + maskF m) &&& ~~~ maskF m) := Lib.hid (by
          apply BitVec.eq_of_toNat_eq
          rw [HU.out.2 ho, hsum, Nat.mod_eq_of_lt hlt])
        clear hsum hdl hp hpl hlt hdn
        go_enter Try.func19, Try.ntmps19
        go_wp2_with (go_at_call 22; (with_reducible refine (rdown_any _ _ _).mono ?_); rintro e w' ⟨rfl, rfl⟩)
        go_ret2
        refine ⟨?_, rfl⟩
        unfold upF upOk
        rw [H1.out, ho, ← Hv.out]
        rfl
      · have hge : 2 ^ 64 ≤ x.toNat / 2 ^ m * 2 ^ m + 2 ^ m := by
          have := HU.out.1
          rw [ho] at this
          have := of_decide_eq_true this.symm
          omega
        have hl : U (downF x m + 1#64 <<< m) < U (downF x m) := by
          unfold U
          rw [hsum, hdn]
          omega
        clear hsum hdl hp hpl hge hdn
        go_enter Try.func19, Try.ntmps19
        go_wp2_with (go_at_call 22; (with_reducible refine (rdown_any _ _ _).mono ?_); rintro e w' ⟨rfl, rfl⟩)
        go_ret2
        refine ⟨?_, rfl⟩
        unfold upF upOk
        rw [H1.out, ho]
        rfl
  · rw [h1] at hd
    have H1 := Lib.hid h1
    clear h1
    go_enter Try.func19, Try.ntmps19
    go_wp2_with (go_at_call 22; (with_reducible refine (rdown_any _ _ _).mono ?_); rintro e w' ⟨rfl, rfl⟩)
    go_ret2
    exact ⟨by unfold upF upOk; rw [H1.out]; rfl, rfl⟩
end Go.Proofs.Ytbjffaiokljbdaa
