
/-
  The document's answer for bounds, joined.
-/
import Derived.Test.YtpinjngmlelleaaRefAlgB
namespace Go.Proofs.Ytpinjngmlelleaa
open Go Go.RowKit
set_option linter.unusedVariables false
set_option linter.unusedSimpArgs false


theorem bnd_A {m a n : BitVec 64} (h : decide (281474976710656 ≤ U a) = true) : bndOk m a n = false := by
  have e : mkOk (bndB a n) (bndT a n) (mP m) (mY m) a = false := by
    unfold mkOk
    rw [decOk_not (decV_not3 _ _ _ a h)]
    simp
  unfold bndOk
  rw [e]
  simp
theorem U_lt_nat {x y : BitVec 64} (h : decide (U x < U y) = true) : x.toNat < y.toNat := by
  have e := of_decide_eq_true h
  unfold U at e
  omega
theorem U_not_lt_nat {x y : BitVec 64} (h : decide (U x < U y) = false) : y.toNat ≤ x.toNat := by
  have e := of_decide_eq_false h
  unfold U at e
  omega
theorem below_48 {a c : BitVec 64} (hc : c.toNat = 281474976710656) (h : decide (281474976710656 ≤ U a) = false) : a.toNat < 281474976710656 ∧ (c - a).toNat = 281474976710656 - a.toNat := by
  have e := of_decide_eq_false h
  unfold U at e
  have ha : a.toNat < 281474976710656 := by omega
  refine ⟨ha, ?_⟩
  rw [BitVec.toNat_sub_of_le (BitVec.le_def.2 (by omega)), hc]
theorem bnd_B' {m a n c : BitVec 64} (hc : c.toNat = 281474976710656) (h : decide (281474976710656 ≤ U a) = false) (h2 : decide (U (c - a) < U n) = true) : bndOk m a n = false := by
  obtain ⟨h1, hs⟩ := below_48 hc h
  have h3 := U_lt_nat h2
  rw [hs] at h3
  clear h h2 hs
  unfold bndOk
  cases ho : overF a n
  · have e : mayS a (a + n) = false := by
      unfold mayS
      unfold overF at ho
      have h4 := of_decide_eq_false ho
      have ha : (a + n).toNat = a.toNat + n.toNat := by rw [BitVec.toNat_add]; omega
      rw [ha, decide_eq_false (show ¬ a.toNat + n.toNat ≤ 281474976710656 by omega)]
      simp
    rw [e]
    simp
  · simp
theorem bnd_C' {a n c : BitVec 64} (hc : c.toNat = 281474976710656) (h : decide (281474976710656 ≤ U a) = false) (h2 : decide (U (c - a) < U n) = false) : overF a n = false ∧ mayS a (a + n) = true := by
  obtain ⟨h1, hs⟩ := below_48 hc h
  have h3 := U_not_lt_nat h2
  rw [hs] at h3
  clear h h2 hs
  have ha : (a + n).toNat = a.toNat + n.toNat := by rw [BitVec.toNat_add]; omega
  unfold overF mayS
  rw [ha]
  refine ⟨decide_eq_false (by omega), ?_⟩
  rw [decide_eq_true (show a.toNat ≤ a.toNat + n.toNat by omega), decide_eq_true (show a.toNat + n.toNat ≤ 281474976710656 by omega)]
  rfl
theorem bnd_B {m a n : BitVec 64} (h : decide (281474976710656 ≤ U a) = false) (h2 : decide (U (281474976710656#64 - a) < U n) = true) : bndOk m a n = false := bnd_B' (by decide) h h2
theorem bnd_C {a n : BitVec 64} (h : decide (281474976710656 ≤ U a) = false) (h2 : decide (U (281474976710656#64 - a) < U n) = false) : overF a n = false ∧ mayS a (a + n) = true := bnd_C' (by decide) h h2

theorem rbound_any (g x : Bool) (m a n : BitVec 64) (w : World) : Calls Try.prog 16 #[.agg #[.bool g, .int .u64 (U m), .int .u64 (U a)], .int .u64 (U n), .bool x] w fun r w' => r = .returned (.agg #[.bool (bndG g m a n x), .int .u64 (U (bndM m a n)), .int .u64 (U a)]) ∧ Below w.heap.size w w' := by
  have cl : bndOk m a n = false → bndG g m a n x = false ∧ bndM m a n = m := fun e => ⟨by unfold bndG; rw [e]; rfl, by unfold bndM; rw [e]; rfl⟩
  cases h1 : decide (281474976710656 ≤ U a)
  · cases h2 : decide (U (281474976710656#64 - a) < U n)
    · obtain ⟨ho, hm⟩ := bnd_C h1 h2
      have cr : ∀ w : World, Calls Try.prog 46 #[.agg #[.int .u64 (U a), .int .u64 (U (a + n))]] w fun r w' => r = .returned (.tuple #[.agg #[.int .u64 (U (bndB a n)), .int .u64 (U (bndT a n))], .bool true]) ∧ Below w.heap.size w w' := fun w => (rrounded_any a (a + n) w).mono fun _ _ q => ⟨by rw [q.1, hm]; rfl, q.2⟩
      have cm : ∀ w : World, Calls Try.prog 47 #[.agg #[.int .u64 (U (bndB a n)), .int .u64 (U (bndT a n)), .int .u64 (U (mP m)), .int .u64 (U (mY m))], .int .u64 (U a)] w fun r w' => r = .returned (.tuple #[.agg #[.bool false, .int .u64 (U (mkM (bndB a n) (bndT a n) (mP m) (mY m) a)), .int .u64 (U (mkA (bndB a n) (bndT a n) (mP m) (mY m) a))], .bool (mkOk (bndB a n) (bndT a n) (mP m) (mY m) a)]) ∧ Below w.heap.size w w' := fun w => rmake_any (bndB a n) (bndT a n) (mP m) (mY m) a w
      cases h3 : mkOk (bndB a n) (bndT a n) (mP m) (mY m) a
      · have e : bndOk m a n = false := by unfold bndOk; rw [h3]; simp
        rw [(cl e).1, (cl e).2]
        rw [h3] at cm
        exact rbound_C g x m a n h1 h2 _ _ _ _ cr cm w
      · have e : bndOk m a n = true := by unfold bndOk; rw [ho, hm, h3]; rfl
        have e1 : bndG g m a n x = (opF g m a && (decide (U (lkB m a) ≤ U (bndB a n)) && (decide (U (bndT a n) ≤ U (lkT m a)) && (!x || (bndB a n == a && bndT a n == a + n))))) := by unfold bndG; rw [e]; rfl
        have e2 : bndM m a n = mkM (bndB a n) (bndT a n) (mP m) (mY m) a := by unfold bndM; rw [e]; rfl
        have e3 : mkA (bndB a n) (bndT a n) (mP m) (mY m) a = a := (made h3).1
        have co : ∀ w : World, Calls Try.prog 42 #[.agg #[.bool g, .int .u64 (U m), .int .u64 (U a)]] w fun r w' => r = .returned (.bool (opF g m a)) ∧ Below w.heap.size w w' := fun w => risopen_any g m a w
        rw [e1, e2]
        rw [h3, e3] at cm
        exact rbound_D g x m a n h1 h2 _ _ _ _ _ cr cm co w
    · rw [(cl (bnd_B h1 h2)).1, (cl (bnd_B h1 h2)).2]
      exact rbound_B g x m a n h1 h2 w
  · rw [(cl (bnd_A h1)).1, (cl (bnd_A h1)).2]
    exact rbound_A g x m a n h1 w

end Go.Proofs.Ytpinjngmlelleaa
