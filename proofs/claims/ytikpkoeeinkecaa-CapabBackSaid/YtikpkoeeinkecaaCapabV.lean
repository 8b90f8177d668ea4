
/-
  '==' of views.
-/
import Derived.Test.YtikpkoeeinkecaaCapabLaw
namespace Go.Proofs.Ytikpkoeeinkecaa
open Go Go.RowKit
set_option linter.unusedVariables false
set_option linter.unusedSimpArgs false
set_option maxRecDepth 100000
theorem view_guard : Try.prog.eqGuardType Try.prog.depth 26 = false := by kernel_rfl
theorem view_stood : Try.prog.stoodInHeld 26 = false := by kernel_rfl
theorem view_eql (a b c d a' b' c' d' : BitVec 64) (w : World) : (binOp .eql 26 (.agg #[.int .u64 (U a), .int .u64 (U b), .int .u64 (U c), .int .u64 (U d)]) (.agg #[.int .u64 (U a'), .int .u64 (U b'), .int .u64 (U c'), .int .u64 (U d')])).run Try.prog w = .ok (.bool (a == a' && b == b' && (c == c' && d == d'))) w := by
  have hs := view_stood
  have hs2 := span_stood
  rw [run_eql_struct]
  rw [show (10000 : Nat) = 9998 + 1 + 1 from rfl, run_equalIn_struct _ _ _ _ _ Try.underlying26 hs]
  have hsp := run_equalIn_struct (P := Try.prog) w 9998 24 #[.int .u64 (U a), .int .u64 (U b)] #[.int .u64 (U a'), .int .u64 (U b')] Try.underlying24 hs2
  simp [go_sem, Try.underlying26, Try.underlying24, hsp]
  by_cases h1 : a = a' <;> by_cases h2 : b = b' <;> by_cases h3 : c = c' <;> by_cases h4 : d = d' <;> simp [h1, h2, h3, h4]
theorem view_neq (a b c d a' b' c' d' : BitVec 64) (w : World) : (binOp .neq 26 (.agg #[.int .u64 (U a), .int .u64 (U b), .int .u64 (U c), .int .u64 (U d)]) (.agg #[.int .u64 (U a'), .int .u64 (U b'), .int .u64 (U c'), .int .u64 (U d')])).run Try.prog w = .ok (.bool (!(a == a' && b == b' && (c == c' && d == d')))) w := neq_of_eql (view_eql a b c d a' b' c' d' w)
attribute [go_sem 3000] view_guard view_eql view_neq
end Go.Proofs.Ytikpkoeeinkecaa
