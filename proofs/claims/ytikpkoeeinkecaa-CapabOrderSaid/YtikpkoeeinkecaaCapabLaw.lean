
/-
  Capabilities: what the laws share: '==' of capabilities and views, a view for the document's answer, a capability that is made.
-/
import Derived.Test.YtikpkoeeinkecaaRefCapabM
namespace Go.Proofs.Ytikpkoeeinkecaa
open Go Go.RowKit
set_option linter.unusedVariables false
set_option linter.unusedSimpArgs false
set_option maxRecDepth 100000

theorem cap_guard : Try.prog.eqGuardType Try.prog.depth 28 = false := by kernel_rfl
theorem cap_stood : Try.prog.stoodInHeld 28 = false := by kernel_rfl
theorem cap_eql (g h : Bool) (a b a' b' : BitVec 64) (w : World) : (binOp .eql 28 (.agg #[.bool g, .int .u64 (U a), .int .u64 (U b)]) (.agg #[.bool h, .int .u64 (U a'), .int .u64 (U b')])).run Try.prog w = .ok (.bool (g == h && (a == a' && b == b'))) w := by
  have hs := cap_stood
  rw [run_eql_struct]
  rw [show (10000 : Nat) = 9999 + 1 from rfl, run_equalIn_struct _ _ _ _ _ Try.underlying28 hs]
  simp [go_sem, Try.underlying28]
  by_cases h0 : g = h <;> by_cases h1 : a = a' <;> by_cases h2 : b = b' <;> simp [h0, h1, h2]
theorem rcap_guard : Try.prog.eqGuardType Try.prog.depth 31 = false := by kernel_rfl
theorem rcap_stood : Try.prog.stoodInHeld 31 = false := by kernel_rfl
theorem rcap_eql (g h : Bool) (a b a' b' : BitVec 64) (w : World) : (binOp .eql 31 (.agg #[.bool g, .int .u64 (U a), .int .u64 (U b)]) (.agg #[.bool h, .int .u64 (U a'), .int .u64 (U b')])).run Try.prog w = .ok (.bool (g == h && (a == a' && b == b'))) w := by
  have hs := rcap_stood
  rw [run_eql_struct]
  rw [show (10000 : Nat) = 9999 + 1 from rfl, run_equalIn_struct _ _ _ _ _ Try.underlying31 hs]
  simp [go_sem, Try.underlying31]
  by_cases h0 : g = h <;> by_cases h1 : a = a' <;> by_cases h2 : b = b' <;> simp [h0, h1, h2]
attribute [go_sem 3000] cap_guard cap_eql rcap_guard rcap_eql
theorem view_any (sb st p y : BitVec 64) (w : World) : Calls Try.prog 11 #[.agg #[.int .u64 (U sb), .int .u64 (U st), .int .u64 (U p), .int .u64 (U y)]] w fun r w' => r = .returned (.agg #[.int .u64 (U sb), .int .u64 (U st), .int .u64 (U p), .int .u64 (U y)]) ∧ Below w.heap.size w w' := by
  go_enter Try.func11, Try.ntmps11
  go_wp2_with fail
  refine bodyPost_ret (results_c [.int .u64 (U sb), .int .u64 (U st), .int .u64 (U p), .int .u64 (U y)] Try.results11 rfl ?_ Try.underlying36 rfl (by kernel_rfl)) rfl ?_
  · (first | (go_simp; done) | (go_simp; (simp [↓IntWalk.iteOmega]; done)) | (go_simp; intros; omega) | (go_simp; simp [↓IntWalk.iteOmega]; intros; omega))
  · exact ⟨rfl, by (repeat (first | with_reducible exact Below.refl _ _ | with_reducible assumption | with_reducible refine below_drewN ?_ _ | with_reducible refine Below.drew ?_ | with_reducible refine below_alloc ?_ _ | (with_reducible refine Below.setCell ?_ (by first | (simp; done) | omega | (simp; omega)) _) | with_reducible refine belows ?_ (by assumption)))⟩
theorem root_one (w : World) : Calls Try.prog 12 #[.agg #[.int .u64 0, .int .u64 16], .int .u64 3] w fun r w' => r = .returned (.tuple #[.agg #[.bool true, .int .u64 12885164032, .int .u64 0], .bool true]) ∧ Below w.heap.size w w' := by
  have h := root_any 0#64 16#64 3#64 w
  rw [show mkOk 0#64 16#64 3#64 0#64 0#64 = true by decide +kernel, show mkM 0#64 16#64 3#64 0#64 0#64 = 12885164032#64 by decide +kernel, show mkA 0#64 16#64 3#64 0#64 0#64 = 0#64 by decide +kernel] at h
  exact h
theorem one_any (w : World) : Calls Try.prog 14 #[] w fun r w' => r = .returned (.bool true) ∧ Below w.heap.size w w' := by
  go_enter Try.func14, Try.ntmps14
  go_wp2_with (first | (go_at_call 12; (with_reducible refine (root_one _).mono ?_); rintro e w' ⟨rfl, hbl⟩; obtain ⟨hcw, hfw, hsw⟩ := below_ifs hbl; (try simp only [World.size_alloc, World.size_setCell, World.size_drew, size_drewN_] at hcw hfw hsw)))
  go_ret
  exact ⟨rfl, by (repeat (first | with_reducible exact Below.refl _ _ | with_reducible assumption | with_reducible refine below_drewN ?_ _ | with_reducible refine Below.drew ?_ | with_reducible refine below_alloc ?_ _ | (with_reducible refine Below.setCell ?_ (by first | (simp; done) | omega | (simp; omega)) _) | with_reducible refine belows ?_ (by assumption)))⟩
end Go.Proofs.Ytikpkoeeinkecaa
