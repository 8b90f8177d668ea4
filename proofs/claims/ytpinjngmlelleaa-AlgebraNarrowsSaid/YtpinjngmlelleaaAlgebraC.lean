
/-
  What may be done with capabilities (algebra): bounds.
-/
import Derived.Test.YtpinjngmlelleaaAlgebraB
namespace Go.Proofs.Ytpinjngmlelleaa
open Go Go.RowKit
set_option linter.unusedVariables false
set_option linter.unusedSimpArgs false


theorem bound_any (g x : Bool) (m a n : BitVec 64) (w : World) : Calls Try.prog 15 #[.agg #[.bool g, .int .u64 (U m), .int .u64 (U a)], .int .u64 (U n), .bool x] w fun r w' => r = .returned (.agg #[.bool (bndG g m a n x), .int .u64 (U (bndM m a n)), .int .u64 (U a)]) ∧ Below w.heap.size w w' := by
  have cf : ∀ w : World, Calls Try.prog 39 #[.agg #[.bool g, .int .u64 (U m), .int .u64 (U a)]] w fun r w' => r = .returned (.agg #[.bool g, .int .u64 (U m), .int .u64 (U a), .int .u64 (U (lkB m a)), .int .u64 (U (lkT m a)), .int .u64 (U (mP m)), .int .u64 (U (mY m)), .bool (g && rtF m a)]) ∧ Below w.heap.size w w' := fun w => lof_any g m a w
  have co : ∀ w : World, Calls Try.prog 40 #[.agg #[.bool g, .int .u64 (U m), .int .u64 (U a), .int .u64 (U (lkB m a)), .int .u64 (U (lkT m a)), .int .u64 (U (mP m)), .int .u64 (U (mY m)), .bool (g && rtF m a)]] w fun r w' => r = .returned (.bool (opF g m a)) ∧ Below w.heap.size w w' := fun w => lopenF_any g m a w
  have ca : ∀ w : World, Calls Try.prog 43 #[.int .u64 (U a), .int .u64 (U n)] w fun r w' => r = .returned (.tuple #[.int .u64 (U (a + n)), .bool (overF a n)]) ∧ w = w' := fun w => add_any a n w
  have cr : ∀ w : World, Calls Try.prog 44 #[.agg #[.int .u64 (U a), .int .u64 (U (a + n))]] w fun r w' => r = .returned (.tuple #[.agg #[.int .u64 (U (bndB a n)), .int .u64 (U (bndT a n))], .bool (mayS a (a + n))]) ∧ Below w.heap.size w w' := fun w => rounded_any a (a + n) w
  have cm : ∀ w : World, Calls Try.prog 45 #[.agg #[.int .u64 (U (bndB a n)), .int .u64 (U (bndT a n)), .int .u64 (U (mP m)), .int .u64 (U (mY m))], .int .u64 (U a)] w fun r w' => r = .returned (.tuple #[.agg #[.bool false, .int .u64 (U (mkM (bndB a n) (bndT a n) (mP m) (mY m) a)), .int .u64 (U (mkA (bndB a n) (bndT a n) (mP m) (mY m) a))], .bool (mkOk (bndB a n) (bndT a n) (mP m) (mY m) a)]) ∧ Below w.heap.size w w' := fun w => make_any (bndB a n) (bndT a n) (mP m) (mY m) a w
  cases h1 : overF a n
  · cases h2 : mayS a (a + n)
    · have e : bndOk m a n = false := by unfold bndOk; rw [h2]; simp
      have e1 : bndG g m a n x = false := by unfold bndG; rw [e]; rfl
      have e2 : bndM m a n = m := by unfold bndM; rw [e]; rfl
      rw [e1, e2]
      rw [h1] at ca
      rw [h2] at cr
      exact bound_no2 g x _ _ _ m a n _ _ _ _ _ cf co ca cr cm w
    · cases h3 : mkOk (bndB a n) (bndT a n) (mP m) (mY m) a
      · have e : bndOk m a n = false := by unfold bndOk; rw [h3]; simp
        have e1 : bndG g m a n x = false := by unfold bndG; rw [e]; rfl
        have e2 : bndM m a n = m := by unfold bndM; rw [e]; rfl
        rw [e1, e2]
        rw [h1] at ca
        rw [h2] at cr
        rw [h3] at cm
        exact bound_no3 g x _ _ m a n _ _ _ _ _ cf co ca cr cm w
      · have e : bndOk m a n = true := by unfold bndOk; rw [h1, h2, h3]; rfl
        have e1 : bndG g m a n x = (opF g m a && (decide (U (lkB m a) ≤ U (bndB a n)) && (decide (U (bndT a n) ≤ U (lkT m a)) && (!x || (bndB a n == a && bndT a n == a + n))))) := by unfold bndG; rw [e]; rfl
        have e2 : bndM m a n = mkM (bndB a n) (bndT a n) (mP m) (mY m) a := by unfold bndM; rw [e]; rfl
        have e3 : mkA (bndB a n) (bndT a n) (mP m) (mY m) a = a := (made h3).1
        rw [e1, e2]
        rw [h1] at ca
        rw [h2] at cr
        rw [h3, e3] at cm
        exact bound_yes g x _ _ m a n _ _ _ _ _ cf co ca cr cm w
  · have e : bndOk m a n = false := by unfold bndOk; rw [h1]; simp
    have e1 : bndG g m a n x = false := by unfold bndG; rw [e]; rfl
    have e2 : bndM m a n = m := by unfold bndM; rw [e]; rfl
    rw [e1, e2]
    rw [h1] at ca
    exact bound_no1 g x _ _ _ _ m a n _ _ _ _ _ cf co ca cr cm w

end Go.Proofs.Ytpinjngmlelleaa
