
/-
  An address: its page, its place, its indices (pte, mintmarkref09).
-/
import Derived.Test.YtnfaalknhcenpaaField
namespace Go.Proofs.Ytnfaalknhcenpaa
open Go Go.RowKit
set_option linter.unusedVariables false

theorem number_any (a : BitVec 64) (w : World) : Calls Try.prog 9 #[.int .u64 (U a)] w fun e w' => e = .returned (.int .u64 (U (a / 4096#64))) ∧ w = w' := by
  go_enter Try.func9, Try.ntmps9
  go_wp2
  go_ret
  exact ⟨rfl, rfl⟩
theorem offset_any (a : BitVec 64) (w : World) : Calls Try.prog 10 #[.int .u64 (U a)] w fun e w' => e = .returned (.int .u64 (U (a % 4096#64))) ∧ w = w' := by
  go_enter Try.func10, Try.ntmps10
  go_wp2
  go_ret
  exact ⟨rfl, rfl⟩
theorem address_any (a : BitVec 64) (w : World) : Calls Try.prog 11 #[.int .u64 (U a)] w fun e w' => e = .returned (.int .u64 (U (a * 4096#64))) ∧ w = w' := by
  go_enter Try.func11, Try.ntmps11
  go_wp2
  go_ret
  exact ⟨rfl, rfl⟩
theorem maybe_any (a : BitVec 64) (w : World) : Calls Try.prog 12 #[.int .u64 (U a)] w fun e w' => e = .returned (.bool (decide (U a < 274877906944))) ∧ w = w' := by
  go_enter Try.func12, Try.ntmps12
  go_wp2
  go_ret
  exact ⟨rfl, rfl⟩

/-- Which entry of a table an address is in. -/
def indexF (a : BitVec 64) (l : Int) : Int := if l = 0 then S (getF a 12 9) else if l = 1 then S (getF a 21 9) else if l = 2 then S (getF a 30 9) else 0
theorem index_any (a : BitVec 64) (l : Int) (w : World) : Calls Try.prog 7 #[.int .u64 (U a), .int .i64 l] w fun e w' => e = .returned (.int .i64 (indexF a l)) ∧ ∃ k, w.drewN k = w' := by
  have hc : l = 0 ∨ l = 1 ∨ l = 2 ∨ l < 0 ∨ (0 ≤ l ∧ 3 ≤ l) := by omega
  rcases hc with rfl | rfl | rfl | h | ⟨h1, h2⟩
  · go_enter Try.func7, Try.ntmps7
    go_wp2_with (go_at_call 21; (with_reducible refine (get_any _ _ _ _).mono ?_); rintro e w' ⟨rfl, kd, rfl⟩)
    go_ret
    exact ⟨rfl, _, rfl⟩
  · go_enter Try.func7, Try.ntmps7
    go_wp2_with (go_at_call 21; (with_reducible refine (get_any _ _ _ _).mono ?_); rintro e w' ⟨rfl, kd, rfl⟩)
    go_ret
    exact ⟨rfl, _, rfl⟩
  · go_enter Try.func7, Try.ntmps7
    go_wp2_with (go_at_call 21; (with_reducible refine (get_any _ _ _ _).mono ?_); rintro e w' ⟨rfl, kd, rfl⟩)
    go_ret
    exact ⟨rfl, _, rfl⟩
  · have e : indexF a l = 0 := by unfold indexF; rw [if_neg (by omega), if_neg (by omega), if_neg (by omega)]
    rw [e]
    clear e
    go_enter Try.func7, Try.ntmps7
    go_wp2_with fail
    go_ret
    exact ⟨rfl, 0, rfl⟩
  · have e : indexF a l = 0 := by unfold indexF; rw [if_neg (by omega), if_neg (by omega), if_neg (by omega)]
    rw [e]
    clear e
    go_enter Try.func7, Try.ntmps7
    go_wp2_with fail
    go_ret
    exact ⟨rfl, 0, rfl⟩
theorem index_three (w : World) : Calls Try.prog 7 #[.int .u64 12288, .int .i64 0] w fun e w' => e = .returned (.int .i64 3) ∧ ∃ k, w.drewN k = w' :=
  (index_any 12288#64 0 w).mono fun _ _ h => ⟨by rw [h.1]; rfl, h.2⟩

theorem quo_is (a : BitVec 64) (k : Nat) (n : BitVec 64) (h : n.toNat = 2 ^ k) : a / n = a >>> k := by
  apply BitVec.eq_of_toNat_eq
  rw [BitVec.toNat_udiv, BitVec.toNat_ushiftRight, h, Nat.shiftRight_eq_div_pow]
theorem rem_is (a : BitVec 64) (k : Nat) (n : BitVec 64) (hk : k < 64) (h : n.toNat = 2 ^ k) : a % n = a &&& maskF k := by
  apply BitVec.eq_of_toNat_eq
  rw [BitVec.toNat_umod, BitVec.toNat_and, h, mask_toNat _ (by omega)]
  rw [show (k : Int).toNat = k by omega, Nat.and_two_pow_sub_one_eq_mod]
theorem rindex_any (a : BitVec 64) (l : Int) (w : World) : Calls Try.prog 8 #[.int .u64 (U a), .int .i64 l] w fun e w' => e = .returned (.int .i64 (indexF a l)) ∧ w = w' := by
  have hc : l = 0 ∨ l = 1 ∨ l = 2 ∨ l < 0 ∨ (0 ≤ l ∧ 2 < l) := by omega
  have q12 : ∀ x : BitVec 64, x / 4096#64 = x >>> 12 := fun x => quo_is x 12 _ rfl
  have q9 : ∀ x : BitVec 64, x / 512#64 = x >>> 9 := fun x => quo_is x 9 _ rfl
  have r9 : ∀ x : BitVec 64, x % 512#64 = x &&& maskF 9 := fun x => rem_is x 9 _ (by omega) rfl
  have Q12 := Lib.hid q12
  have Q9 := Lib.hid q9
  have R9 := Lib.hid r9
  clear q12 q9 r9
  rcases hc with rfl | rfl | rfl | h | ⟨h1, h2⟩
  · go_enter Try.func8, Try.ntmps8
    go_wp2_with fail
    refine wp_loop_rounds 1 ?_
    rw [rounds_succ]
    go_wp2_with fail
    go_ret
    refine ⟨ret_int ?_, rfl⟩
    rw [Q12.out, R9.out]
    rfl
  · go_enter Try.func8, Try.ntmps8
    go_wp2_with fail
    refine wp_loop_rounds 2 ?_
    rw [rounds_succ]
    go_wp2_with fail
    rw [rounds_succ]
    go_wp2_with fail
    go_ret
    refine ⟨ret_int ?_, rfl⟩
    rw [Q12.out, Q9.out, R9.out, ← BitVec.shiftRight_add]
    rfl
  · go_enter Try.func8, Try.ntmps8
    go_wp2_with fail
    refine wp_loop_rounds 3 ?_
    rw [rounds_succ]
    go_wp2_with fail
    rw [rounds_succ]
    go_wp2_with fail
    rw [rounds_succ]
    go_wp2_with fail
    go_ret
    refine ⟨ret_int ?_, rfl⟩
    rw [Q12.out, Q9.out, Q9.out, R9.out, ← BitVec.shiftRight_add, ← BitVec.shiftRight_add]
    rfl
  · have e : indexF a l = 0 := by unfold indexF; rw [if_neg (by omega), if_neg (by omega), if_neg (by omega)]
    rw [e]
    clear e
    go_enter Try.func8, Try.ntmps8
    go_wp2_with fail
    go_ret
    exact ⟨rfl, rfl⟩
  · have e : indexF a l = 0 := by unfold indexF; rw [if_neg (by omega), if_neg (by omega), if_neg (by omega)]
    rw [e]
    clear e
    go_enter Try.func8, Try.ntmps8
    go_wp2_with fail
    go_ret
    exact ⟨rfl, rfl⟩
end Go.Proofs.Ytnfaalknhcenpaa
