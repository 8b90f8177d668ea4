
/-
  The algebra, plain facts: each step narrows; no program.
-/
import Derived.Test.YtpinjngmlelleaaAlgebraP
namespace Go.Proofs.Ytpinjngmlelleaa
open Go Go.RowKit
set_option linter.unusedVariables false
set_option linter.unusedSimpArgs false

/-- What has a tag is right, within something that has one. -/
def Inv (g : Bool) (m a : BitVec 64) (f : Bool) (n b : BitVec 64) : Prop := g = true → rtF m a = true ∧ withinF m a n b = true ∧ f = true
theorem within_iff (m a n b : BitVec 64) : withinF m a n b = true ↔ rtF m a = true ∧ rtF n b = true ∧ U (lkB n b) ≤ U (lkB m a) ∧ U (lkT m a) ≤ U (lkT n b) ∧ (mP m &&& ~~~ mP n == 0#64) = true := by
  unfold withinF
  simp only [Bool.and_eq_true, decide_eq_true_eq]
theorem sub_trans {x y z : BitVec 64} (h : ∀ j, j < 64 → x.getLsbD j = true → y.getLsbD j = true) (k : (y &&& ~~~ z == 0#64) = true) : (x &&& ~~~ z == 0#64) = true := by
  rw [beq_iff_eq] at k ⊢
  apply ext64
  intro j hj
  have e := congrArg (fun v => v.getLsbD j) k
  simp only [BitVec.getLsbD_and, BitVec.getLsbD_not, decide_eq_true hj, Bool.true_and, BitVec.getLsbD_zero] at e ⊢
  have hh := h j hj
  cases hx : x.getLsbD j
  · rfl
  · rw [hh hx, Bool.true_and] at e
    rw [e]; rfl
/-- A narrower one, by its looks. -/
theorem narrow {m a n b m' a' : BitVec 64} (hw : withinF m a n b = true) (hr : rtF m' a' = true) (h1 : U (lkB m a) ≤ U (lkB m' a')) (h2 : U (lkT m' a') ≤ U (lkT m a)) (hp : ∀ j, j < 64 → (mP m').getLsbD j = true → (mP m).getLsbD j = true) : withinF m' a' n b = true := by
  obtain ⟨k1, k2, k3, k4, k5⟩ := (within_iff _ _ _ _).1 hw
  exact (within_iff _ _ _ _).2 ⟨hr, k2, by omega, by omega, sub_trans hp k5⟩
theorem inv_self {g : Bool} {m a : BitVec 64} (h : g = true → rtF m a = true) : Inv g m a g m a := by
  intro e
  refine ⟨h e, (within_iff _ _ _ _).2 ⟨h e, h e, Int.le_refl _, Int.le_refl _, ?_⟩, e⟩
  rw [beq_iff_eq]
  apply ext64
  intro j hj
  simp only [BitVec.getLsbD_and, BitVec.getLsbD_not, decide_eq_true hj, Bool.true_and, BitVec.getLsbD_zero]
  cases (mP m).getLsbD j <;> rfl
theorem inv_move {g f : Bool} {m a n b k : BitVec 64} (h : Inv g m a f n b) : Inv (movF g m a k) m k f n b := by
  intro e
  obtain ⟨h1, h2, h3, h4⟩ := (movF_iff _ _ _ _).1 e
  obtain ⟨i1, i2, i3⟩ := h (opF_tag h1)
  obtain ⟨r1, r2⟩ := mov_right e
  exact ⟨r1, narrow i2 r1 (by rw [h3]; exact Int.le_refl _) (by rw [h4]; exact Int.le_refl _) (fun _ _ x => x), i3⟩
theorem inv_bound {g f x : Bool} {m a n b k : BitVec 64} (h : Inv g m a f n b) : Inv (bndG g m a k x) (bndM m a k) a f n b := by
  intro e
  obtain ⟨b1, b2, b3, b4, b5, b6, b7, b8, b9, b10⟩ := bnd_tells e
  obtain ⟨i1, i2, i3⟩ := h (opF_tag b1)
  exact ⟨b2, narrow i2 b2 (by rw [b3]; exact b7) (by rw [b4]; exact b8) (fun _ _ x => by rw [b5] at x; exact x), i3⟩
theorem inv_and {g f : Bool} {m a n b k : BitVec 64} (h : Inv g m a f n b) : Inv (opF g m a) (andM m k) a f n b := by
  intro e
  obtain ⟨e1, e2, e3, e4, e5, e6⟩ := and_tells m k a
  obtain ⟨i1, i2, i3⟩ := h (opF_tag e)
  refine ⟨by rw [e4]; exact i1, narrow i2 (by rw [e4]; exact i1) (by rw [e1]; exact Int.le_refl _) (by rw [e2]; exact Int.le_refl _) (fun j hj x => ?_), i3⟩
  rw [e5, BitVec.getLsbD_and, Bool.and_eq_true] at x
  exact x.1
theorem inv_type {g f q : Bool} {m a n b t : BitVec 64} (ht : q = true → t.toNat < 4096) (h : Inv g m a f n b) : Inv g (tyIf q m t) a f n b := by
  cases q
  · exact h
  · intro e
    obtain ⟨e1, e2, e3, e4, e5, e6⟩ := ty_tells m t a (ht rfl)
    obtain ⟨i1, i2, i3⟩ := h e
    rw [tyIf_true]
    exact ⟨by rw [e4]; exact i1, narrow i2 (by rw [e4]; exact i1) (by rw [e1]; exact Int.le_refl _) (by rw [e2]; exact Int.le_refl _) (fun j hj x => by rw [e5] at x; exact x), i3⟩
theorem inv_less {g g' f : Bool} {m a n b : BitVec 64} (hg : g' = true → g = true) (h : Inv g m a f n b) : Inv g' m a f n b := fun e => h (hg e)
theorem inv_seal {g f h' : Bool} {m a n b k l : BitVec 64} (h : Inv g m a f n b) : Inv (sealF g h' m a k l && g) (tyIf (sealF g h' m a k l) m l) a f n b := by
  refine inv_less (g := g) (fun e => by rw [Bool.and_eq_true] at e; exact e.2) (inv_type (fun e => ?_) h)
  unfold sealF at e
  simp only [Bool.and_eq_true, decide_eq_true_eq] at e
  have := e.2.2.2
  unfold U at this
  omega
theorem inv_enter {g f : Bool} {m a n b : BitVec 64} (h : Inv g m a f n b) : Inv (enterF g m a && g) (tyIf (enterF g m a) m 1#64) a f n b :=
  inv_less (g := g) (fun e => by rw [Bool.and_eq_true] at e; exact e.2) (inv_type (fun _ => by decide) h)
theorem inv_open {g f : Bool} {m a n b : BitVec 64} (h : Inv g m a f n b) : Inv g (tyIf (sentF g m a) m 0#64) a f n b := inv_type (fun _ => by decide) h
theorem inv_clear {f : Bool} {m a n b : BitVec 64} : Inv false m a f n b := fun e => by cases e
theorem inv_build {h' : Bool} {m a k l : BitVec 64} (e : buildF h' m a k l = true) : rtF m a = true ∧ withinF m a k l = true ∧ h' = true := by
  unfold buildF at e
  simp only [Bool.and_eq_true] at e
  exact ⟨((within_iff _ _ _ _).1 e.2.1).1, e.2.1, opF_tag e.1⟩
end Go.Proofs.Ytpinjngmlelleaa
