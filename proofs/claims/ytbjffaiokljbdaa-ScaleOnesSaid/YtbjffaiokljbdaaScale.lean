
/-
  Package scale, function by function: sums, spans, multiples of powers of two.
-/
import Derived.Test.YtbjffaiokljbdaaProg
import Derived.Test.YtbjffaiokljbdaaChecked
import Derived.Test.YtbjffaiokljbdaaBits
import Derived.Deep.QuietTactic
import Derived.BigQuiet
namespace Go.Proofs.Ytbjffaiokljbdaa
open Go Go.RowKit
set_option linter.unusedVariables false
set_option linter.unusedSimpArgs false

/-- Is the sum of two words 2^64 or above? -/
def overF (x y : BitVec 64) : Bool := decide (18446744073709551616 ≤ x.toNat + y.toNat)
def carryW (x y : BitVec 64) : BitVec 64 := if overF x y = true then 1#64 else 0#64
theorem carryW_bne (x y : BitVec 64) : (carryW x y != 0#64) = overF x y := by
  unfold carryW; cases overF x y <;> rfl
theorem add64_name : (Try.f23.name == "runtime.NumGoroutine") = false := by kernel_rfl
theorem add64_body : Try.f23.body.isNone = true := by kernel_rfl
theorem add64_next : Extern.findNext Try.f23 = none := by kernel_rfl
theorem add64_find : Extern.find Try.f23 = some add64Entry := by kernel_rfl
theorem add64_run (x y : BitVec 64) (w : World) : (callFunc 23 #[.int .u64 (U x), .int .u64 (U y), .int .u64 0]).run Try.prog w =
    .ok (.value (.tuple #[.int .u64 (U (x + y)), .int .u64 (U (carryW x y))])) w := by
  rw [run_callFunc_extern Try.func23 add64_name add64_body add64_next add64_find, run_add64 _ _ _ (U_nonneg x) (U_nonneg y) (by omega) (by omega)]
  have h1 : (U x + U y + 0) % 18446744073709551616 = U (x + y) := by
    rw [Int.add_zero]
    unfold U
    rw [BitVec.toNat_add]
    omega
  have h2 : (U x + U y + 0) / 18446744073709551616 = U (carryW x y) := by
    have := x.isLt
    have := y.isLt
    unfold carryW
    cases ho : overF x y
    · have hl : ¬ 18446744073709551616 ≤ x.toNat + y.toNat := by simpa [overF] using ho
      rw [if_neg (by decide)]
      show (U x + U y + 0) / 18446744073709551616 = 0
      unfold U; omega
    · have hl : 18446744073709551616 ≤ x.toNat + y.toNat := by simpa [overF] using ho
      rw [if_pos rfl]
      show (U x + U y + 0) / 18446744073709551616 = 1
      unfold U; omega
  rw [h1, h2]
  rfl

theorem add_any (x y : BitVec 64) (w : World) :
    Calls Try.prog 8 #[.int .u64 (U x), .int .u64 (U y)] w fun e w' => e = .returned (.tuple #[.int .u64 (U (x + y)), .bool (overF x y)]) ∧ w = w' := by
  have ha := add64_run x y
  have hc := carryW_bne x y
  go_enter Try.func8, Try.ntmps8
  go_wp2
  go_ret2
  exact ⟨rfl, rfl⟩

/-- Are some numbers from one on all within a span? -/
def inF (a n b t : BitVec 64) : Bool := decide (b.toNat ≤ a.toNat) && decide (a.toNat + n.toNat ≤ t.toNat)
theorem in_any (a n b t : BitVec 64) (w : World) :
    Calls Try.prog 9 #[.int .u64 (U a), .int .u64 (U n), .int .u64 (U b), .int .u64 (U t)] w fun e w' => e = .returned (.bool (inF a n b t)) ∧ w = w' := by
  have hs : overF a n = false → U (a + n) = U a + U n := fun h => by
    have hl : ¬ 18446744073709551616 ≤ a.toNat + n.toNat := by simpa [overF] using h
    unfold U
    rw [BitVec.toNat_add]
    omega
  cases ho : overF a n
  · have Hs := Lib.hid (hs ho)
    clear hs
    go_enter Try.func9, Try.ntmps9
    go_wp2_with (go_at_call 8; (with_reducible refine (add_any _ _ _).mono ?_); rintro e w' ⟨rfl, rfl⟩)
    · go_ret
      refine ⟨ret_bool ?_, rfl⟩
      have hb : U b ≤ U a := by assumption
      unfold inF
      rw [Hs.out, decide_eq_true (show b.toNat ≤ a.toNat by unfold U at hb; omega), Bool.true_and]
      exact decide_eq_decide.2 (by unfold U; omega)
    · go_ret
      refine ⟨ret_bool ?_, rfl⟩
      have hb : U a < U b := by assumption
      unfold inF
      rw [decide_eq_false (show ¬ b.toNat ≤ a.toNat by unfold U at hb; omega), Bool.false_and]
  · have hl : 18446744073709551616 ≤ a.toNat + n.toNat := by simpa [overF] using ho
    clear hs
    go_enter Try.func9, Try.ntmps9
    go_wp2_with (go_at_call 8; (with_reducible refine (add_any _ _ _).mono ?_); rintro e w' ⟨rfl, rfl⟩)
    go_ret
    refine ⟨ret_bool ?_, rfl⟩
    unfold inF
    have := t.isLt
    rw [decide_eq_false (show ¬ a.toNat + n.toNat ≤ t.toNat by omega), Bool.and_false]

theorem rin_any (a n b t : BitVec 64) (w : World) :
    Calls Try.prog 10 #[.int .u64 (U a), .int .u64 (U n), .int .u64 (U b), .int .u64 (U t)] w fun e w' => e = .returned (.bool (inF a n b t)) ∧ w = w' := by
  by_cases h1 : U b ≤ U a
  · by_cases h2 : U a ≤ U t
    · have hs : Hid (U (t - a) = U t - U a) := Lib.hid (by
        unfold U at h2 ⊢
        rw [BitVec.toNat_sub]
        have := t.isLt
        have := a.isLt
        omega)
      go_enter Try.func10, Try.ntmps10
      go_wp2
      go_ret
      refine ⟨ret_bool ?_, rfl⟩
      unfold inF
      rw [hs.out, decide_eq_true (show b.toNat ≤ a.toNat by unfold U at h1; omega), Bool.true_and]
      exact decide_eq_decide.2 (by unfold U; omega)
    · go_enter Try.func10, Try.ntmps10
      go_wp2
      go_ret
      refine ⟨ret_bool ?_, rfl⟩
      unfold inF
      rw [decide_eq_false (show ¬ a.toNat + n.toNat ≤ t.toNat by unfold U at h2; omega), Bool.and_false]
  · go_enter Try.func10, Try.ntmps10
    go_wp2
    go_ret
    refine ⟨ret_bool ?_, rfl⟩
    unfold inF
    rw [decide_eq_false (show ¬ b.toNat ≤ a.toNat by unfold U at h1; omega), Bool.false_and]

theorem unit_any (n : Int) (w : World) : Calls Try.prog 27 #[.int .i64 n] w fun e w' => e = .returned (.int .u64 (U (maskF n))) ∧ w = w' := by
  by_cases h0 : 0 ≤ n
  · go_enter Try.func27, Try.ntmps27
    go_wp2
    all_goals go_ret
    · exact ⟨ret_lit (by unfold maskF; rw [if_pos (by omega)]; rfl) (by omega), rfl⟩
    · exact ⟨ret_lit (by unfold maskF; rw [if_neg (by omega), if_pos (by omega)]; rfl) (by omega), rfl⟩
    · exact ⟨ret_U (by unfold maskF; rw [if_neg (by omega), if_neg (by omega)]), rfl⟩
  · have h1 : n ≤ 0 := by omega
    go_enter Try.func27, Try.ntmps27
    go_wp2
    go_ret
    exact ⟨ret_lit (by unfold maskF; rw [if_pos (by omega)]; rfl) (by omega), rfl⟩

/-- The greatest multiple of 2^n that is not above. -/
def downF (x : BitVec 64) (n : Int) : BitVec 64 := x &&& ~~~ maskF n
theorem down_any (x : BitVec 64) (n : Int) (w : World) : Calls Try.prog 17 #[.int .u64 (U x), .int .i64 n] w fun e w' => e = .returned (.int .u64 (U (downF x n))) ∧ w = w' := by
  go_enter Try.func17, Try.ntmps17
  go_wp2_with (go_at_call 27; (with_reducible refine (unit_any _ _).mono ?_); rintro e w' ⟨rfl, rfl⟩)
  go_ret
  exact ⟨rfl, rfl⟩

/-- The least multiple of 2^n that is not below; is there one? -/
def upOk (x : BitVec 64) (n : Int) : Bool := (x &&& maskF n == 0#64) || !overF x (maskF n)
def upF (x : BitVec 64) (n : Int) : BitVec 64 := if (x &&& maskF n == 0#64) = true then x else if overF x (maskF n) = true then 0#64 else (x + maskF n) &&& ~~~ maskF n
theorem up_any (x : BitVec 64) (n : Int) (w : World) : Calls Try.prog 18 #[.int .u64 (U x), .int .i64 n] w fun e w' => e = .returned (.tuple #[.int .u64 (U (upF x n)), .bool (upOk x n)]) ∧ w = w' := by
  cases h1 : (x &&& maskF n == 0#64)
  · cases h2 : overF x (maskF n)
    · go_enter Try.func18, Try.ntmps18
      go_wp2_with (first | (go_at_call 27; (with_reducible refine (unit_any _ _).mono ?_); rintro e w' ⟨rfl, rfl⟩) | (go_at_call 8; (with_reducible refine (add_any _ _ _).mono ?_); rintro e w' ⟨rfl, rfl⟩))
      go_ret2
      exact ⟨by unfold upF upOk; rw [h1, h2]; rfl, rfl⟩
    · go_enter Try.func18, Try.ntmps18
      go_wp2_with (first | (go_at_call 27; (with_reducible refine (unit_any _ _).mono ?_); rintro e w' ⟨rfl, rfl⟩) | (go_at_call 8; (with_reducible refine (add_any _ _ _).mono ?_); rintro e w' ⟨rfl, rfl⟩))
      go_ret2
      exact ⟨by unfold upF upOk; rw [h1, h2]; rfl, rfl⟩
  · go_enter Try.func18, Try.ntmps18
    go_wp2_with (first | (go_at_call 27; (with_reducible refine (unit_any _ _).mono ?_); rintro e w' ⟨rfl, rfl⟩) | (go_at_call 8; (with_reducible refine (add_any _ _ _).mono ?_); rintro e w' ⟨rfl, rfl⟩))
    go_ret2
    exact ⟨by unfold upF upOk; rw [h1]; rfl, rfl⟩
end Go.Proofs.Ytbjffaiokljbdaa
