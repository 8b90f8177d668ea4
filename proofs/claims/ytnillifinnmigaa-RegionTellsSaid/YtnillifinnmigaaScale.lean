
/-
  Package scale, function by function: sums, spans, multiples of powers of two.
-/
import Derived.Test.YtnillifinnmigaaProg
import Derived.Test.YtnillifinnmigaaChecked
import Derived.Test.YtnillifinnmigaaBits
import Derived.Deep.QuietTactic
import Derived.BigQuiet
namespace Go.Proofs.Ytnillifinnmigaa
open Go Go.RowKit
set_option linter.unusedVariables false
set_option linter.unusedSimpArgs false

/-- Is the sum of two words 2^64 or above? -/
def overF (x y : BitVec 64) : Bool := decide (18446744073709551616 ≤ x.toNat + y.toNat)
def carryW (x y : BitVec 64) : BitVec 64 := if overF x y = true then 1#64 else 0#64
theorem carryW_bne (x y : BitVec 64) : (carryW x y != 0#64) = overF x y := by
  unfold carryW; cases overF x y <;> rfl
theorem add64_name : (Try.f44.name == "runtime.NumGoroutine") = false := by kernel_rfl
theorem add64_body : Try.f44.body.isNone = true := by kernel_rfl
theorem add64_next : Extern.findNext Try.f44 = none := by kernel_rfl
theorem add64_find : Extern.find Try.f44 = some add64Entry := by kernel_rfl
theorem add64_run (x y : BitVec 64) (w : World) : (callFunc 44 #[.int .u64 (U x), .int .u64 (U y), .int .u64 0]).run Try.prog w =
    .ok (.value (.tuple #[.int .u64 (U (x + y)), .int .u64 (U (carryW x y))])) w := by
  rw [run_callFunc_extern Try.func44 add64_name add64_body add64_next add64_find, run_add64 _ _ _ (U_nonneg x) (U_nonneg y) (by omega) (by omega)]
  have h1 : (U x + U y + 0) % 18446744073709551616 = U (x + y) := by
    rw [Int.add_zero]
    unfold U
    rw [BitVec.toNat_add]
    omega
  have h2 : (U x + U y + 0) / 18446744073709551616 = U (carryW x y) := by
    have := x.isLt
    have := y.isLt
    unfold carryW
    cases ho : overF x y
    · have hl : ¬ 18446744073709551616 ≤ x.toNat + y.toNat := by simpa [overF] using ho
      rw [if_neg (by decide)]
      show (U x + U y + 0) / 18446744073709551616 = 0
      unfold U; omega
    · have hl : 18446744073709551616 ≤ x.toNat + y.toNat := by simpa [overF] using ho
      rw [if_pos rfl]
      show (U x + U y + 0) / 18446744073709551616 = 1
      unfold U; omega
  rw [h1, h2]
  rfl

theorem add_any (x y : BitVec 64) (w : World) :
    Calls Try.prog 37 #[.int .u64 (U x), .int .u64 (U y)] w fun e w' => e = .returned (.tuple #[.int .u64 (U (x + y)), .bool (overF x y)]) ∧ w = w' := by
  have ha := add64_run x y
  have hc := carryW_bne x y
  go_enter Try.func37, Try.ntmps37
  go_wp2
  go_ret2
  exact ⟨rfl, rfl⟩

/-- Are some numbers from one on all within a span? -/
def inF (a n b t : BitVec 64) : Bool := decide (b.toNat ≤ a.toNat) && decide (a.toNat + n.toNat ≤ t.toNat)
theorem unit_any (n : Int) (w : World) : Calls Try.prog 36 #[.int .i64 n] w fun e w' => e = .returned (.int .u64 (U (maskF n))) ∧ w = w' := by
  by_cases h0 : 0 ≤ n
  · go_enter Try.func36, Try.ntmps36
    go_wp2
    all_goals go_ret
    · exact ⟨ret_lit (by unfold maskF; rw [if_pos (by omega)]; rfl) (by omega), rfl⟩
    · exact ⟨ret_lit (by unfold maskF; rw [if_neg (by omega), if_pos (by omega)]; rfl) (by omega), rfl⟩
    · exact ⟨ret_U (by unfold maskF; rw [if_neg (by omega), if_neg (by omega)]), rfl⟩
  · have h1 : n ≤ 0 := by omega
    go_enter Try.func36, Try.ntmps36
    go_wp2
    go_ret
    exact ⟨ret_lit (by unfold maskF; rw [if_pos (by omega)]; rfl) (by omega), rfl⟩

/-- The greatest multiple of 2^n that is not above. -/
def downF (x : BitVec 64) (n : Int) : BitVec 64 := x &&& ~~~ maskF n
theorem down_any (x : BitVec 64) (n : Int) (w : World) : Calls Try.prog 46 #[.int .u64 (U x), .int .i64 n] w fun e w' => e = .returned (.int .u64 (U (downF x n))) ∧ w = w' := by
  go_enter Try.func46, Try.ntmps46
  go_wp2_with (go_at_call 36; (with_reducible refine (unit_any _ _).mono ?_); rintro e w' ⟨rfl, rfl⟩)
  go_ret
  exact ⟨rfl, rfl⟩

/-- The least multiple of 2^n that is not below; is there one? -/
def upOk (x : BitVec 64) (n : Int) : Bool := (x &&& maskF n == 0#64) || !overF x (maskF n)
def upF (x : BitVec 64) (n : Int) : BitVec 64 := if (x &&& maskF n == 0#64) = true then x else if overF x (maskF n) = true then 0#64 else (x + maskF n) &&& ~~~ maskF n
theorem up_any (x : BitVec 64) (n : Int) (w : World) : Calls Try.prog 17 #[.int .u64 (U x), .int .i64 n] w fun e w' => e = .returned (.tuple #[.int .u64 (U (upF x n)), .bool (upOk x n)]) ∧ w = w' := by
  cases h1 : (x &&& maskF n == 0#64)
  · cases h2 : overF x (maskF n)
    · go_enter Try.func17, Try.ntmps17
      go_wp2_with (first | (go_at_call 36; (with_reducible refine (unit_any _ _).mono ?_); rintro e w' ⟨rfl, rfl⟩) | (go_at_call 37; (with_reducible refine (add_any _ _ _).mono ?_); rintro e w' ⟨rfl, rfl⟩))
      go_ret2
      exact ⟨by unfold upF upOk; rw [h1, h2]; rfl, rfl⟩
    · go_enter Try.func17, Try.ntmps17
      go_wp2_with (first | (go_at_call 36; (with_reducible refine (unit_any _ _).mono ?_); rintro e w' ⟨rfl, rfl⟩) | (go_at_call 37; (with_reducible refine (add_any _ _ _).mono ?_); rintro e w' ⟨rfl, rfl⟩))
      go_ret2
      exact ⟨by unfold upF upOk; rw [h1, h2]; rfl, rfl⟩
  · go_enter Try.func17, Try.ntmps17
    go_wp2_with (first | (go_at_call 36; (with_reducible refine (unit_any _ _).mono ?_); rintro e w' ⟨rfl, rfl⟩) | (go_at_call 37; (with_reducible refine (add_any _ _ _).mono ?_); rintro e w' ⟨rfl, rfl⟩))
    go_ret2
    exact ⟨by unfold upF upOk; rw [h1]; rfl, rfl⟩
end Go.Proofs.Ytnillifinnmigaa
