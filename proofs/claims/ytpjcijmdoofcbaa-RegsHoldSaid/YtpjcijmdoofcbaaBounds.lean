
/-
  The fields of a span: their word (bounds).
-/
import Derived.Test.YtpjcijmdoofcbaaField
import Derived.Test.YtpjcijmdoofcbaaCells
import Derived.Laws.StructEq
namespace Go.Proofs.Ytpjcijmdoofcbaa
open Go Go.RowKit
set_option linter.unusedVariables false

theorem widths_any (w : World) : Calls Try.prog 45 #[] w fun e w' => e = .returned (.agg #[.int .i64 14, .int .i64 12, .int .i64 6]) ∧ w.alloc (.cells #[.int .i64 14, .int .i64 12, .int .i64 6] 90) = w' := by
  go_enter Try.func45, Try.ntmps45
  go_wp2
  go_returns
  exact ⟨rfl, rfl⟩
theorem widths_0 (w : World) : (Instr.index 90 (.agg #[.int .i64 14, .int .i64 12, .int .i64 6]) (.int .i64 0)).run Try.prog w = .ok (.int .i64 14) w := by kernel_rfl
theorem widths_1 (w : World) : (Instr.index 90 (.agg #[.int .i64 14, .int .i64 12, .int .i64 6]) (.int .i64 1)).run Try.prog w = .ok (.int .i64 12) w := by kernel_rfl
theorem widths_2 (w : World) : (Instr.index 90 (.agg #[.int .i64 14, .int .i64 12, .int .i64 6]) (.int .i64 2)).run Try.prog w = .ok (.int .i64 6) w := by kernel_rfl
theorem put_zero (v : BitVec 64) (a n : Int) (w : World) : Calls Try.prog 48 #[.int .u64 0, .int .i64 a, .int .i64 n, .int .u64 (U v)] w fun e w' => e = .returned (.int .u64 (U (putF 0#64 a n v))) ∧ ∃ k, w.drewN k = w' := put_any 0#64 v a n w
def wordF (b t e : BitVec 64) : BitVec 64 := putF (putF (putF 0#64 0 14 b) 14 12 t) 26 6 e
set_option maxHeartbeats 4000000 in
theorem word_any (b t e : BitVec 64) (w : World) : Calls Try.prog 43 #[.agg #[.int .u64 (U b), .int .u64 (U t), .int .u64 (U e)]] w fun e' w' => e' = .returned (.int .u64 (U (wordF b t e))) ∧ Below w.heap.size w w' := by
  have i0 := widths_0
  have i1 := widths_1
  have i2 := widths_2
  go_enter Try.func43, Try.ntmps43
  go_wp2_with (go_at_call 45; (with_reducible refine (widths_any _).mono ?_); rintro e w' ⟨rfl, rfl⟩)
  refine wp_loop_rounds 4 ?_
  rw [rounds_succ]
  go_wp2_with (first | (go_at_call 48; (with_reducible refine (put_any _ _ _ _ _).mono ?_); rintro e w' ⟨rfl, kd, rfl⟩) | (go_at_call 48; (with_reducible refine (put_zero _ _ _ _).mono ?_); rintro e w' ⟨rfl, kd, rfl⟩))
  rw [rounds_succ]
  go_wp2_with (first | (go_at_call 48; (with_reducible refine (put_any _ _ _ _ _).mono ?_); rintro e w' ⟨rfl, kd, rfl⟩))
  rw [rounds_succ]
  go_wp2_with (first | (go_at_call 48; (with_reducible refine (put_any _ _ _ _ _).mono ?_); rintro e w' ⟨rfl, kd, rfl⟩))
  rw [rounds_succ]
  go_wp2_with (first | (go_at_call 48; (with_reducible refine (put_any _ _ _ _ _).mono ?_); rintro e w' ⟨rfl, kd, rfl⟩))
  go_ret
  refine ⟨rfl, ?_⟩
  repeat (first | exact Below.refl _ _ | assumption | refine below_drewN ?_ _ | refine below_alloc ?_ _ | refine belows ?_ (by assumption))
set_option maxHeartbeats 4000000 in
theorem of_any (x : BitVec 64) (w : World) : Calls Try.prog 41 #[.int .u64 (U x)] w fun e w' => e = .returned (.agg #[.int .u64 (U (getF x 0 14)), .int .u64 (U (getF x 14 12)), .int .u64 (U (getF x 26 6))]) ∧ Below w.heap.size w w' := by
  have i0 := widths_0
  have i1 := widths_1
  have i2 := widths_2
  go_enter Try.func41, Try.ntmps41
  go_wp2_with (go_at_call 45; (with_reducible refine (widths_any _).mono ?_); rintro e w' ⟨rfl, rfl⟩)
  refine wp_loop_rounds 4 ?_
  rw [rounds_succ]
  go_wp2_with (first | (go_at_call 42; (with_reducible refine (get_any _ _ _ _).mono ?_); rintro e w' ⟨rfl, kd, rfl⟩))
  rw [rounds_succ]
  go_wp2_with (first | (go_at_call 42; (with_reducible refine (get_any _ _ _ _).mono ?_); rintro e w' ⟨rfl, kd, rfl⟩))
  rw [rounds_succ]
  go_wp2_with (first | (go_at_call 42; (with_reducible refine (get_any _ _ _ _).mono ?_); rintro e w' ⟨rfl, kd, rfl⟩))
  rw [rounds_succ]
  go_wp2_with (first | (go_at_call 42; (with_reducible refine (get_any _ _ _ _).mono ?_); rintro e w' ⟨rfl, kd, rfl⟩))
  rw [setCells_3]
  refine bodyPost_ret (results_cells [.int .u64 (U (getF x 0 14)), .int .u64 (U (getF x 14 12)), .int .u64 (U (getF x 26 6))] _ _ Try.results41 _ _ rfl ?_ Try.underlying85 rfl (by kernel_rfl)) rfl ?_
  · intro j hj
    match j, hj with
    | 0, _ => go_simp
    | 1, _ => go_simp
    | 2, _ => go_simp
  refine ⟨rfl, ?_⟩
  simp only [World.setCells]
  repeat (first | with_reducible exact Below.refl _ _ | with_reducible assumption | with_reducible refine below_drewN ?_ _ | with_reducible refine below_alloc ?_ _ | (with_reducible refine Below.setCell ?_ (by simp) _))
set_option maxRecDepth 100000
theorem fields_guard : Try.prog.eqGuardType Try.prog.depth 85 = false := by kernel_rfl
theorem fields_stood : Try.prog.stoodInHeld 85 = false := by kernel_rfl
theorem fields_eql (a b c a' b' c' : BitVec 64) (w : World) : (binOp .eql 85 (.agg #[.int .u64 (U a), .int .u64 (U b), .int .u64 (U c)]) (.agg #[.int .u64 (U a'), .int .u64 (U b'), .int .u64 (U c')])).run Try.prog w = .ok (.bool (a == a' && b == b' && c == c')) w := by
  have hs := fields_stood
  rw [run_eql_struct]
  rw [show (10000 : Nat) = 9999 + 1 from rfl, run_equalIn_struct _ _ _ _ _ Try.underlying85 hs]
  simp [go_sem, Try.underlying85]
  by_cases h1 : a = a' <;> by_cases h2 : b = b' <;> by_cases h3 : c = c' <;> simp [h1, h2, h3]
attribute [go_sem 3000] fields_guard fields_eql
end Go.Proofs.Ytpjcijmdoofcbaa
