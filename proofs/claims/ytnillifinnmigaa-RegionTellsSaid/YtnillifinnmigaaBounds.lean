
/-
  The fields of a span: their word (bounds).
-/
import Derived.Test.YtnillifinnmigaaField
import Derived.Test.YtnillifinnmigaaCells
import Derived.Laws.StructEq
namespace Go.Proofs.Ytnillifinnmigaa
open Go Go.RowKit
set_option linter.unusedVariables false

def wordF (b t e : BitVec 64) : BitVec 64 := putF (putF (putF 0#64 0 14 b) 14 12 t) 26 6 e
set_option maxRecDepth 100000
theorem fields_guard : Try.prog.eqGuardType Try.prog.depth 36 = false := by kernel_rfl
theorem fields_stood : Try.prog.stoodInHeld 36 = false := by kernel_rfl
theorem fields_eql (a b c a' b' c' : BitVec 64) (w : World) : (binOp .eql 36 (.agg #[.int .u64 (U a), .int .u64 (U b), .int .u64 (U c)]) (.agg #[.int .u64 (U a'), .int .u64 (U b'), .int .u64 (U c')])).run Try.prog w = .ok (.bool (a == a' && b == b' && c == c')) w := by
  have hs := fields_stood
  rw [run_eql_struct]
  rw [show (10000 : Nat) = 9999 + 1 from rfl, run_equalIn_struct _ _ _ _ _ Try.underlying36 hs]
  simp [go_sem, Try.underlying36]
  by_cases h1 : a = a' <;> by_cases h2 : b = b' <;> by_cases h3 : c = c' <;> simp [h1, h2, h3]
attribute [go_sem 3000] fields_guard fields_eql
end Go.Proofs.Ytnillifinnmigaa
