
/-
  The document's answers for instructions (mintmarkref15), function by function.
-/
import Derived.Test.YtfnniojgcmnloaaAlu
import Derived.Test.YtfnniojgcmnloaaRefField
namespace Go.Proofs.Ytfnniojgcmnloaa
open Go Go.RowKit
set_option linter.unusedVariables false

theorem flip_toNat (a : BitVec 64) : (U (a ^^^ 9223372036854775808#64)) = S a + 9223372036854775808 := by
  have h : a ^^^ 9223372036854775808#64 = a + 9223372036854775808#64 := by
    apply ext64
    intro j hj
    rw [BitVec.getLsbD_xor, BitVec.getLsbD_add hj]
    have e : (9223372036854775808#64).getLsbD j = decide (j = 63) := by
      have : (9223372036854775808#64) = BitVec.twoPow 64 63 := rfl
      rw [this, BitVec.getLsbD_twoPow]
      by_cases c : j = 63
      · subst c; rfl
      · simp [c]; omega
    rw [e]
    have hc : BitVec.carry j a 9223372036854775808#64 false = false := by
      unfold BitVec.carry
      have h2 : (9223372036854775808#64).toNat % 2 ^ j = 0 := by
        show 2 ^ 63 % 2 ^ j = 0
        exact Nat.mod_eq_zero_of_dvd (Nat.pow_dvd_pow 2 (by omega))
      rw [h2]
      have := Nat.mod_lt a.toNat (Nat.two_pow_pos j)
      exact decide_eq_false (by simp; omega)
    rw [hc]
    simp
  rw [h]
  unfold U S
  rw [BitVec.toNat_add, BitVec.toInt_eq_toNat_bmod, Int.bmod_def]
  have := a.isLt
  show (((a.toNat + 9223372036854775808) % 2 ^ 64 : Nat) : Int) = _
  simp
  split <;> omega
theorem below_any (a b : BitVec 64) (w : World) : Calls Try.prog 27 #[.int .u64 (U a), .int .u64 (U b)] w fun e w' => e = .returned (.bool (decide (S a < S b))) ∧ w = w' := by
  have h1 := Lib.hid (flip_toNat a)
  have h2 := Lib.hid (flip_toNat b)
  go_enter Try.func27, Try.ntmps27
  go_wp2
  go_ret
  refine ⟨ret_bool ?_, rfl⟩
  rw [h1.out, h2.out]
  exact decide_eq_decide.2 (by omega)
theorem rone_any (b : Bool) (w : World) : Calls Try.prog 26 #[.bool b] w fun e w' => e = .returned (.int .u64 (U (toldF b))) ∧ w = w' := by
  cases b
  all_goals go_enter Try.func26, Try.ntmps26
  all_goals go_wp2
  all_goals go_ret
  all_goals exact ⟨rfl, rfl⟩
theorem sra_is (a : BitVec 64) (n : Nat) (h : n < 64) : sgnF (a >>> n) (64 - n) = a.sshiftRight n := by
  apply ext64
  intro j hj
  rw [sgn_lsb _ _ (by omega) _ hj, BitVec.getLsbD_ushiftRight, BitVec.getLsbD_sshiftRight, decide_eq_false (show ¬ 64 ≤ j by omega), BitVec.msb_eq_getLsbD_last]
  rw [show ((64 : Int) - (n : Int)).toNat = 64 - n by omega]
  by_cases c : n + j < 64
  · rw [if_pos c, if_pos (by omega)]; simp
  · rw [if_neg c, if_neg (by omega), show n + (64 - n - 1) = 64 - 1 by omega]; simp
set_option maxHeartbeats 4000000 in
theorem rdo_any (op : Int) (a b : BitVec 64) (w : World) :
    Calls Try.prog 13 #[.int .i64 op, .int .u64 (U a), .int .u64 (U b)] w fun e w' => e = .returned (.tuple #[.int .u64 (U (doV op a b)), .bool (doOk op)]) ∧ w = w' := by
  have hU : U (b % 64#64) = ((b.toNat % 64 : Nat) : Int) := by unfold U; rw [BitVec.toNat_umod]; rfl
  have hs : Hid (sgnF (a >>> (U (b % 64#64)).toNat) (wrap64 (64 - S (b % 64#64))) = a.sshiftRight (U (b % 64#64)).toNat) := Lib.hid (by
    have e : S (b % 64#64) = U (b % 64#64) := by
      rw [← wrap_S]
      rw [hU]
      exact IntWalk.i64_in _ (by omega)
    have hl : (U (b % 64#64)).toNat < 64 := by rw [hU]; omega
    have := sra_is a (U (b % 64#64)).toNat hl
    rw [e]
    rw [show wrap64 (64 - U (b % 64#64)) = 64 - U (b % 64#64) from IntWalk.wrap64_in _ (by rw [hU]; omega)]
    rw [show ((64 : Int) - U (b % 64#64)) = 64 - ((U (b % 64#64)).toNat : Int) by rw [hU]; omega]
    exact this)
  clear hU
  go_enter Try.func13, Try.ntmps13
  go_wp2_with (first | (go_at_call 26; (with_reducible refine (rone_any _ _).mono ?_); rintro e w' ⟨rfl, rfl⟩) | (go_at_call 27; (with_reducible refine (below_any _ _ _).mono ?_); rintro e w' ⟨rfl, rfl⟩) | (go_at_call 25; (with_reducible refine (rsign_any _ _ _).mono ?_); rintro e w' ⟨rfl, rfl⟩))
  all_goals go_ret2
  all_goals refine ⟨?_, rfl⟩
  all_goals simp only [beq_iff_eq, beq_eq_false_iff_ne] at *
  all_goals first | (subst op; rfl) | (subst op; rw [hs.out]; rfl) | (have e : doOk op = false := (by rw [Bool.eq_false_iff]; unfold doOk; simp; omega); rw [e]; unfold doV; (repeat rw [if_neg (by omega)]); rfl)
set_option maxHeartbeats 4000000 in
theorem rtakes_any (op : Int) (a b : BitVec 64) (w : World) :
    Calls Try.prog 14 #[.int .i64 op, .int .u64 (U a), .int .u64 (U b)] w fun e w' => e = .returned (.tuple #[.bool (takesV op a b), .bool (takesOk op)]) ∧ w = w' := by
  have hle := Lib.hid (show decide (U b ≤ U a) = !decide (U a < U b) by by_cases c : U a < U b <;> simp [c] <;> omega)
  go_enter Try.func14, Try.ntmps14
  go_wp2_with (first | (go_at_call 27; (with_reducible refine (below_any _ _ _).mono ?_); rintro e w' ⟨rfl, rfl⟩))
  all_goals go_ret2
  all_goals refine ⟨?_, rfl⟩
  all_goals simp only [beq_iff_eq, beq_eq_false_iff_ne] at *
  all_goals first | (subst op; rfl) | (subst op; rw [hle.out]; rfl) | (have e : takesOk op = false := (by rw [Bool.eq_false_iff]; unfold takesOk; simp; omega); rw [e]; unfold takesV; (repeat rw [if_neg (by omega)]); rfl)
set_option maxHeartbeats 4000000 in
theorem rwidth_any (op : Int) (w : World) : Calls Try.prog 15 #[.int .i64 op] w fun e w' => e = .returned (.int .i64 (widthF op)) ∧ w = w' := by
  go_enter Try.func15, Try.ntmps15
  go_wp2
  all_goals go_ret
  all_goals refine ⟨?_, rfl⟩
  all_goals simp only [beq_iff_eq, beq_eq_false_iff_ne] at *
  all_goals first | (subst op; rfl) | (unfold widthF; (repeat rw [if_neg (by omega)]); rfl)
set_option maxHeartbeats 4000000 in
theorem rextend_any (op : Int) (v : BitVec 64) (w : World) : Calls Try.prog 16 #[.int .i64 op, .int .u64 (U v)] w fun e w' => e = .returned (.int .u64 (U (extendF op v))) ∧ w = w' := by
  have hw := widthF_le op
  have hc : (op = 11 ∨ op = 12 ∨ op = 13 ∨ op = 14) ∨ (op = 15 ∨ op = 16 ∨ op = 17) ∨ (op < 11 ∨ 17 < op) := by omega
  go_enter Try.func16, Try.ntmps16
  go_wp2_with (first | (go_at_call 15; (with_reducible refine (rwidth_any _ _).mono ?_); rintro e w' ⟨rfl, rfl⟩) | (go_at_call 25; (with_reducible refine (rsign_any _ _ _).mono ?_); rintro e w' ⟨rfl, rfl⟩) | (go_at_call 28; (with_reducible refine (rget_any _ _ _ _).mono ?_); rintro e w' ⟨rfl, rfl⟩))
  all_goals go_ret
  all_goals refine ⟨?_, rfl⟩
  all_goals first | (unfold extendF; rw [if_neg (by omega), if_neg (by omega)]; rfl) | (unfold extendF; rw [if_pos (by omega)]; rfl) | (unfold extendF; rw [if_neg (by omega), if_pos (by omega)]; rfl)
end Go.Proofs.Ytfnniojgcmnloaa
