
/-
  Spans that are kept (bounds), function by function.
-/
import Derived.Test.YtpjcijmdoofcbaaBounds
import Derived.Test.YtpjcijmdoofcbaaBoundsP
import Derived.Test.YtpjcijmdoofcbaaWalk
import Derived.BigRegion
import Derived.Outline
namespace Go.Proofs.Ytpjcijmdoofcbaa
open Go Go.RowKit
set_option linter.unusedVariables false
set_option linter.unusedSimpArgs false

set_option maxRecDepth 100000
theorem span_guard : Try.prog.eqGuardType Try.prog.depth 70 = false := by kernel_rfl
theorem span_stood : Try.prog.stoodInHeld 70 = false := by kernel_rfl
theorem span_eql (a b a' b' : BitVec 64) (w : World) : (binOp .eql 70 (.agg #[.int .u64 (U a), .int .u64 (U b)]) (.agg #[.int .u64 (U a'), .int .u64 (U b')])).run Try.prog w = .ok (.bool (a == a' && b == b')) w := by
  have hs := span_stood
  rw [run_eql_struct]
  rw [show (10000 : Nat) = 9999 + 1 from rfl, run_equalIn_struct _ _ _ _ _ Try.underlying70 hs]
  simp [go_sem, Try.underlying70]
  by_cases h1 : a = a' <;> by_cases h2 : b = b' <;> simp [h1, h2]
theorem span_neq (a b a' b' : BitVec 64) (w : World) : (binOp .neq 70 (.agg #[.int .u64 (U a), .int .u64 (U b)]) (.agg #[.int .u64 (U a'), .int .u64 (U b')])).run Try.prog w = .ok (.bool (!(a == a' && b == b'))) w := neq_of_eql (span_eql a b a' b' w)
theorem fields_neq (a b c a' b' c' : BitVec 64) (w : World) : (binOp .neq 85 (.agg #[.int .u64 (U a), .int .u64 (U b), .int .u64 (U c)]) (.agg #[.int .u64 (U a'), .int .u64 (U b'), .int .u64 (U c')])).run Try.prog w = .ok (.bool (!(a == a' && b == b' && c == c'))) w := neq_of_eql (fields_eql a b c a' b' c' w)
attribute [go_sem 3000] span_guard span_eql span_neq fields_neq

theorem S_small (x : BitVec 64) (h : x.toNat < 9223372036854775808) : S x = (x.toNat : Int) := by
  unfold S; rw [BitVec.toInt_eq_toNat_bmod, Int.bmod_def]; simp; omega
theorem shift_any (e : BitVec 64) (h : e.toNat < 9223372036854775808) (w : World) : Calls Try.prog 44 #[.int .u64 (U e)] w fun r w' => r = .returned (.int .i64 ((e.toNat - 1 : Nat) : Int)) ∧ w = w' := by
  have hS := S_small e h
  by_cases h0 : e.toNat = 0
  · have h1 : S e = 0 := by omega
    clear hS
    go_enter Try.func44, Try.ntmps44
    go_wp2_with fail
    go_ret
    exact ⟨ret_int (by omega), rfl⟩
  · have h1 : S e = (e.toNat : Int) := hS
    clear hS
    go_enter Try.func44, Try.ntmps44
    go_wp2_with fail
    go_ret
    exact ⟨ret_int (by omega), rfl⟩
theorem ofNat_succ_ (x : Nat) : BitVec.ofNat 64 x + 1#64 = BitVec.ofNat 64 (x + 1) := by
  apply BitVec.eq_of_toNat_eq; simp
theorem encE_small (b t : BitVec 64) : (encE b t).toNat < 38 := by
  unfold encE
  cases h : mayS b t
  · simp
  · have := eN_le (mayS_true h).1 (mayS_true h).2
    rw [if_pos rfl, kE_nat h]; omega
theorem may_0 (n : BitVec 64) : decide (U n ≤ 281474976710656) = mayS 0#64 n := by
  unfold mayS U; rw [Bool.eq_iff_iff]; simp; omega
end Go.Proofs.Ytpjcijmdoofcbaa
