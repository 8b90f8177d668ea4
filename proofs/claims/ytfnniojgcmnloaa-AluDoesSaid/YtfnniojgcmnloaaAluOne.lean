
/-
  The chapter's own sample: a number that is moved.
-/
import Derived.Test.YtfnniojgcmnloaaAlu
namespace Go.Proofs.Ytfnniojgcmnloaa
open Go Go.RowKit
set_option linter.unusedVariables false

theorem do_one (w : World) : Calls Try.prog 8 #[.int .i64 38, .int .u64 18446744073709551608, .int .u64 1] w fun e w' => e = .returned (.tuple #[.int .u64 18446744073709551612, .bool true]) ∧ w = w' :=
  (do_any 38 18446744073709551608#64 1#64 w).mono fun _ _ h => ⟨by rw [h.1]; rfl, h.2⟩
theorem one_any (w : World) : Calls Try.prog 9 #[] w fun e w' => e = .returned (.bool true) ∧ w = w' := by
  go_enter Try.func9, Try.ntmps9
  go_wp2_with (go_at_call 8; (with_reducible refine (do_one _).mono ?_); rintro e w' ⟨rfl, rfl⟩)
  go_ret
  exact ⟨rfl, rfl⟩
end Go.Proofs.Ytfnniojgcmnloaa
