
/-
  Capabilities: what is made of a view tells it; what is right is made of what it tells; plain facts; no program.
-/
import Derived.Test.YtikpkoeeinkecaaRefCapabM
namespace Go.Proofs.Ytikpkoeeinkecaa
open Go Go.RowKit
set_option linter.unusedVariables false
set_option linter.unusedSimpArgs false

theorem get_meta (b t e p y : BitVec 64) (hb : b.toNat < 16384) (ht : t.toNat < 4096) (he : e.toNat < 64) (hp : p.toNat < 512) (hy : y.toNat < 4096) :
    mB (metaF b t e p y) = b ∧ mT (metaF b t e p y) = t ∧ mE (metaF b t e p y) = e ∧ mP (metaF b t e p y) = p ∧ mY (metaF b t e p y) = y := by
  have g : ∀ (x : BitVec 64) (a n : Nat), a + n ≤ 64 → ∀ j, (getF x a n).getLsbD j = (decide (j < n) && x.getLsbD (a + j)) := by
    intro x a n h j
    rw [get_lsb _ _ _ ((mayF_iff _ _).2 (by omega))]
    simp
  refine ⟨?_, ?_, ?_, ?_, ?_⟩
  · apply ext64
    intro j hj
    rw [show (mB (metaF b t e p y)).getLsbD j = _ from g _ 0 14 (by omega) j]
    by_cases c : j < 14
    · rw [meta_lsb _ _ _ _ _ _ (by omega), word_lsb _ _ _ _ (by omega), if_neg (by omega), if_neg (by omega), if_pos (by omega), if_neg (by omega), if_neg (by omega), if_pos (by omega), show 0 + j = j by omega]
      simp [c]
    · rw [high_lsb b 14 j hb (by omega)]; simp [c]
  · apply ext64
    intro j hj
    rw [show (mT (metaF b t e p y)).getLsbD j = _ from g _ 14 12 (by omega) j]
    by_cases c : j < 12
    · rw [meta_lsb _ _ _ _ _ _ (by omega), word_lsb _ _ _ _ (by omega), if_neg (by omega), if_neg (by omega), if_pos (by omega), if_neg (by omega), if_pos (by omega), show 14 + j - 14 = j by omega]
      simp [c]
    · rw [high_lsb t 12 j ht (by omega)]; simp [c]
  · apply ext64
    intro j hj
    rw [show (mE (metaF b t e p y)).getLsbD j = _ from g _ 26 6 (by omega) j]
    by_cases c : j < 6
    · rw [meta_lsb _ _ _ _ _ _ (by omega), word_lsb _ _ _ _ (by omega), if_neg (by omega), if_neg (by omega), if_pos (by omega), if_pos (by omega), show 26 + j - 26 = j by omega]
      simp [c]
    · rw [high_lsb e 6 j he (by omega)]; simp [c]
  · apply ext64
    intro j hj
    rw [show (mP (metaF b t e p y)).getLsbD j = _ from g _ 32 9 (by omega) j]
    by_cases c : j < 9
    · rw [meta_lsb _ _ _ _ _ _ (by omega), if_neg (by omega), if_pos (by omega), show 32 + j - 32 = j by omega]
      simp [c]
    · rw [high_lsb p 9 j hp (by omega)]; simp [c]
  · apply ext64
    intro j hj
    rw [show (mY (metaF b t e p y)).getLsbD j = _ from g _ 48 12 (by omega) j]
    by_cases c : j < 12
    · rw [meta_lsb _ _ _ _ _ _ (by omega), if_pos (by omega), show 48 + j - 48 = j by omega]
      simp [c]
    · rw [high_lsb y 12 j hy (by omega)]; simp [c]
theorem mkOk_iff (sb st p y a : BitVec 64) : mkOk sb st p y a = true ↔ encX sb st = true ∧ decOk (encB sb st) (encT sb st) (encE sb st) a = true ∧ decB (encB sb st) (encT sb st) (encE sb st) a = sb ∧ decT (encB sb st) (encT sb st) (encE sb st) a = st ∧ p.toNat < 512 ∧ y.toNat < 4096 := by
  unfold mkOk U
  simp only [Bool.and_eq_true, Bool.not_eq_true', decide_eq_false_iff_not, beq_iff_eq]
  constructor
  · rintro ⟨h1, h2, ⟨h3, h4⟩, h5, h6⟩; exact ⟨h1, h2, h3, h4, by omega, by omega⟩
  · rintro ⟨h1, h2, h3, h4, h5, h6⟩; exact ⟨h1, h2, ⟨h3, h4⟩, by omega, by omega⟩
/-- What is made of a view tells it, and is right. -/
theorem made {sb st p y a : BitVec 64} (h : mkOk sb st p y a = true) :
    mkA sb st p y a = a ∧ mB (mkM sb st p y a) = encB sb st ∧ mT (mkM sb st p y a) = encT sb st ∧ mE (mkM sb st p y a) = encE sb st ∧ mP (mkM sb st p y a) = p ∧ mY (mkM sb st p y a) = y ∧
    lkOk (mkM sb st p y a) a = true ∧ lkB (mkM sb st p y a) a = sb ∧ lkT (mkM sb st p y a) a = st ∧ rtF (mkM sb st p y a) a = true := by
  obtain ⟨h1, h2, h3, h4, h5, h6⟩ := (mkOk_iff _ _ _ _ _).1 h
  obtain ⟨q1, q2, q3⟩ := enc_small sb st
  have e1 : mkM sb st p y a = metaF (encB sb st) (encT sb st) (encE sb st) p y := by unfold mkM; rw [if_pos h]
  have e2 : mkA sb st p y a = a := by unfold mkA; rw [if_pos h]
  obtain ⟨g1, g2, g3, g4, g5⟩ := get_meta _ _ _ p y q1 q2 q3 h5 h6
  rw [e1, e2]
  unfold rtF lkOk lkB lkT
  rw [g1, g2, g3, g4, g5, h2, h3, h4]
  simp
/-- What is right is made of what it tells, if that can be. -/
theorem right_made {m a : BitVec 64} (h : rtF m a = true) : mkM (lkB m a) (lkT m a) (mP m) (mY m) a = (if mkOk (lkB m a) (lkT m a) (mP m) (mY m) a = true then m else 0#64) := by
  unfold rtF at h
  rw [Bool.and_eq_true, beq_iff_eq] at h
  obtain ⟨h1, h2⟩ := h
  obtain ⟨k1, k2, k3, k4, k5, k6⟩ := enc_dec h1
  unfold mkM
  by_cases c : mkOk (lkB m a) (lkT m a) (mP m) (mY m) a = true
  · rw [if_pos c, if_pos c]
    have b1 : encB (lkB m a) (lkT m a) = mB m := by unfold encB lkB lkT; rw [if_pos k1, k4]
    have b2 : encT (lkB m a) (lkT m a) = mT m := by unfold encT lkB lkT; rw [if_pos k1, k5]
    have b3 : encE (lkB m a) (lkT m a) = mE m := by unfold encE lkB lkT; rw [if_pos k1, k6]
    rw [b1, b2, b3, h2]
  · rw [if_neg c, if_neg c]
theorem within_self {m a : BitVec 64} (h : rtF m a = true) : withinF m a m a = true := by
  unfold withinF
  rw [h]
  simp
end Go.Proofs.Ytikpkoeeinkecaa
