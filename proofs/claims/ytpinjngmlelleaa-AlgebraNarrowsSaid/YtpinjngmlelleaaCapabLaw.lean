
/-
  Capabilities: what the laws share: '==' of capabilities and views, a view for the document's answer, a capability that is made.
-/
import Derived.Test.YtpinjngmlelleaaRefCapabM
namespace Go.Proofs.Ytpinjngmlelleaa
open Go Go.RowKit
set_option linter.unusedVariables false
set_option linter.unusedSimpArgs false
set_option maxRecDepth 100000

theorem cap_guard : Try.prog.eqGuardType Try.prog.depth 24 = false := by kernel_rfl
theorem cap_stood : Try.prog.stoodInHeld 24 = false := by kernel_rfl
theorem cap_eql (g h : Bool) (a b a' b' : BitVec 64) (w : World) : (binOp .eql 24 (.agg #[.bool g, .int .u64 (U a), .int .u64 (U b)]) (.agg #[.bool h, .int .u64 (U a'), .int .u64 (U b')])).run Try.prog w = .ok (.bool (g == h && (a == a' && b == b'))) w := by
  have hs := cap_stood
  rw [run_eql_struct]
  rw [show (10000 : Nat) = 9999 + 1 from rfl, run_equalIn_struct _ _ _ _ _ Try.underlying24 hs]
  simp [go_sem, Try.underlying24]
  by_cases h0 : g = h <;> by_cases h1 : a = a' <;> by_cases h2 : b = b' <;> simp [h0, h1, h2]
theorem rcap_guard : Try.prog.eqGuardType Try.prog.depth 25 = false := by kernel_rfl
theorem rcap_stood : Try.prog.stoodInHeld 25 = false := by kernel_rfl
theorem rcap_eql (g h : Bool) (a b a' b' : BitVec 64) (w : World) : (binOp .eql 25 (.agg #[.bool g, .int .u64 (U a), .int .u64 (U b)]) (.agg #[.bool h, .int .u64 (U a'), .int .u64 (U b')])).run Try.prog w = .ok (.bool (g == h && (a == a' && b == b'))) w := by
  have hs := rcap_stood
  rw [run_eql_struct]
  rw [show (10000 : Nat) = 9999 + 1 from rfl, run_equalIn_struct _ _ _ _ _ Try.underlying25 hs]
  simp [go_sem, Try.underlying25]
  by_cases h0 : g = h <;> by_cases h1 : a = a' <;> by_cases h2 : b = b' <;> simp [h0, h1, h2]
attribute [go_sem 3000] cap_guard cap_eql rcap_guard rcap_eql
theorem root_one (w : World) : Calls Try.prog 49 #[.agg #[.int .u64 0, .int .u64 16], .int .u64 3] w fun r w' => r = .returned (.tuple #[.agg #[.bool true, .int .u64 12885164032, .int .u64 0], .bool true]) ∧ Below w.heap.size w w' := by
  have h := root_any 0#64 16#64 3#64 w
  rw [show mkOk 0#64 16#64 3#64 0#64 0#64 = true by decide +kernel, show mkM 0#64 16#64 3#64 0#64 0#64 = 12885164032#64 by decide +kernel, show mkA 0#64 16#64 3#64 0#64 0#64 = 0#64 by decide +kernel] at h
  exact h
end Go.Proofs.Ytpinjngmlelleaa
