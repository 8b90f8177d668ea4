
/-
  What the laws of the algebra share: a capability that is bounded.
-/
import Derived.Test.YtpinjngmlelleaaRefAlgC
import Derived.Test.YtpinjngmlelleaaCapabLaw
namespace Go.Proofs.Ytpinjngmlelleaa
open Go Go.RowKit
set_option linter.unusedVariables false
set_option linter.unusedSimpArgs false

def oneM : BitVec 64 := mkM 0#64 281474976710656#64 511#64 0#64 0#64
def oneN : BitVec 64 := bndM oneM 4096#64 16#64
theorem root_one6 (w : World) : Calls Try.prog 49 #[.agg #[.int .u64 0, .int .u64 281474976710656], .int .u64 511] w fun r w' => r = .returned (.tuple #[.agg #[.bool true, .int .u64 (U oneM), .int .u64 0], .bool true]) ∧ Below w.heap.size w w' := by
  have h := root_any 0#64 281474976710656#64 511#64 w
  rw [show mkOk 0#64 281474976710656#64 511#64 0#64 0#64 = true by decide +kernel, show mkA 0#64 281474976710656#64 511#64 0#64 0#64 = 0#64 by decide +kernel] at h
  exact h
theorem address_one (w : World) : Calls Try.prog 12 #[.agg #[.bool true, .int .u64 (U oneM), .int .u64 0], .int .u64 4096] w fun r w' => r = .returned (.agg #[.bool true, .int .u64 (U oneM), .int .u64 4096]) ∧ Below w.heap.size w w' := by
  have h := address_any true oneM 0#64 4096#64 w
  rw [show (opF true oneM 0#64 && (lkOk oneM 4096#64 && (lkB oneM 4096#64 == lkB oneM 0#64 && lkT oneM 4096#64 == lkT oneM 0#64))) = true by decide +kernel] at h
  exact h
theorem bound_one (w : World) : Calls Try.prog 15 #[.agg #[.bool true, .int .u64 (U oneM), .int .u64 4096], .int .u64 16, .bool true] w fun r w' => r = .returned (.agg #[.bool true, .int .u64 (U oneN), .int .u64 4096]) ∧ Below w.heap.size w w' := by
  have h := bound_any true true oneM 4096#64 16#64 w
  rw [show bndG true oneM 4096#64 16#64 true = true by decide +kernel] at h
  exact h
theorem base_one (w : World) : Calls Try.prog 21 #[.agg #[.bool true, .int .u64 (U oneN), .int .u64 4096]] w fun r w' => r = .returned (.int .u64 4096) ∧ Below w.heap.size w w' := by
  have h := abase_any true oneN 4096#64 w
  rw [show lkB oneN 4096#64 = 4096#64 by decide +kernel] at h
  exact h
theorem top_one (w : World) : Calls Try.prog 50 #[.agg #[.bool true, .int .u64 (U oneN), .int .u64 4096]] w fun r w' => r = .returned (.int .u64 4112) ∧ Below w.heap.size w w' := by
  have h := atop_any true oneN 4096#64 w
  rw [show lkT oneN 4096#64 = 4112#64 by decide +kernel] at h
  exact h
set_option maxHeartbeats 2000000 in
set_option maxRecDepth 100000 in
theorem one6_any (w : World) : Calls Try.prog 19 #[] w fun r w' => r = .returned (.bool true) ∧ Below w.heap.size w w' := by
  go_enter Try.func19, Try.ntmps19
  go_wp2_with (first | (go_at_call 49; (with_reducible refine (root_one6 _).mono ?_); rintro e w' ⟨rfl, hbl⟩; obtain ⟨hcw, hfw, hsw⟩ := below_ifs hbl; (try simp only [World.size_alloc, World.size_setCell, World.size_drew, size_drewN_] at hcw hfw hsw)) | (go_at_call 12; (with_reducible refine (address_one _).mono ?_); rintro e w' ⟨rfl, hbl⟩; obtain ⟨hcw, hfw, hsw⟩ := below_ifs hbl; (try simp only [World.size_alloc, World.size_setCell, World.size_drew, size_drewN_] at hcw hfw hsw)) | (go_at_call 15; (with_reducible refine (bound_one _).mono ?_); rintro e w' ⟨rfl, hbl⟩; obtain ⟨hcw, hfw, hsw⟩ := below_ifs hbl; (try simp only [World.size_alloc, World.size_setCell, World.size_drew, size_drewN_] at hcw hfw hsw)) | (go_at_call 21; (with_reducible refine (base_one _).mono ?_); rintro e w' ⟨rfl, hbl⟩; obtain ⟨hcw, hfw, hsw⟩ := below_ifs hbl; (try simp only [World.size_alloc, World.size_setCell, World.size_drew, size_drewN_] at hcw hfw hsw)) | (go_at_call 50; (with_reducible refine (top_one _).mono ?_); rintro e w' ⟨rfl, hbl⟩; obtain ⟨hcw, hfw, hsw⟩ := below_ifs hbl; (try simp only [World.size_alloc, World.size_setCell, World.size_drew, size_drewN_] at hcw hfw hsw)))
  go_ret
  exact ⟨rfl, by (repeat (first | with_reducible exact Below.refl _ _ | with_reducible assumption | with_reducible refine below_drewN ?_ _ | with_reducible refine Below.drew ?_ | with_reducible refine below_alloc ?_ _ | (with_reducible refine Below.setCell ?_ (by first | (simp; done) | omega | (simp; omega)) _) | with_reducible refine belows ?_ (by assumption)))⟩
end Go.Proofs.Ytpinjngmlelleaa
