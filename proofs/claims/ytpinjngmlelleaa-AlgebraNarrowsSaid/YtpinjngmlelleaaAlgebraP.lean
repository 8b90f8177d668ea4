
/-
  The algebra, plain facts: what sealing and fewer permissions leave of a word; no program.
-/
import Derived.Test.YtpinjngmlelleaaRefAlgC
namespace Go.Proofs.Ytpinjngmlelleaa
open Go Go.RowKit
set_option linter.unusedVariables false
set_option linter.unusedSimpArgs false

theorem get_same {x y : BitVec 64} {a n : Nat} (h : a + n ≤ 64) (hb : ∀ j, a ≤ j → j < a + n → x.getLsbD j = y.getLsbD j) : getF x a n = getF y a n := by
  apply ext64
  intro j hj
  rw [get_bit _ _ _ h, get_bit _ _ _ h]
  by_cases c : j < n
  · rw [hb (a + j) (by omega) (by omega)]
  · rw [decide_eq_false c]; rfl
theorem own_same {x y : BitVec 64} (h1 : ∀ j, 41 ≤ j → j < 48 → x.getLsbD j = y.getLsbD j) (h2 : ∀ j, 60 ≤ j → j < 64 → x.getLsbD j = y.getLsbD j) :
    (metaF (mB x) (mT x) (mE x) (mP x) (mY x) == x) = (metaF (mB y) (mT y) (mE y) (mP y) (mY y) == y) := by
  rw [meta_own, meta_own]
  have e1 : (x >>> 41) % 128#64 = (y >>> 41) % 128#64 := by
    have ex : (x >>> 41) % 128#64 = getF x 41 7 := get_rem x 41 7 128#64 (by omega) (by omega) rfl
    have ey : (y >>> 41) % 128#64 = getF y 41 7 := get_rem y 41 7 128#64 (by omega) (by omega) rfl
    rw [ex, ey]
    exact get_same (a := 41) (n := 7) (by omega) (fun j h h' => h1 j h (by omega))
  have e2 : x >>> 60 = y >>> 60 := by
    apply ext64
    intro j hj
    rw [BitVec.getLsbD_ushiftRight, BitVec.getLsbD_ushiftRight]
    by_cases c : 60 + j < 64
    · exact h2 _ (by omega) c
    · rw [BitVec.getLsbD_of_ge _ _ (by omega), BitVec.getLsbD_of_ge _ _ (by omega)]
  rw [e1, e2]
theorem rt_same {x y : BitVec 64} (a : BitVec 64) (hl : ∀ j, j < 32 → x.getLsbD j = y.getLsbD j) (h1 : ∀ j, 41 ≤ j → j < 48 → x.getLsbD j = y.getLsbD j) (h2 : ∀ j, 60 ≤ j → j < 64 → x.getLsbD j = y.getLsbD j) :
    lkB x a = lkB y a ∧ lkT x a = lkT y a ∧ lkOk x a = lkOk y a ∧ rtF x a = rtF y a := by
  have b1 : mB x = mB y := get_same (a := 0) (n := 14) (by omega) (fun j _ h => hl j (by omega))
  have b2 : mT x = mT y := get_same (a := 14) (n := 12) (by omega) (fun j _ h => hl j (by omega))
  have b3 : mE x = mE y := get_same (a := 26) (n := 6) (by omega) (fun j _ h => hl j (by omega))
  have b4 : lkOk x a = lkOk y a := by unfold lkOk; rw [b1, b2, b3]
  refine ⟨by unfold lkB; rw [b1, b2, b3], by unfold lkT; rw [b1, b2, b3], b4, ?_⟩
  unfold rtF
  rw [b4, own_same h1 h2]
theorem ty_bit (m t : BitVec 64) (ht : t.toNat < 4096) (j : Nat) (hj : j < 64) : (tyM m t).getLsbD j = if 48 ≤ j ∧ j < 60 then t.getLsbD (j - 48) else m.getLsbD j := by
  unfold tyM
  rw [BitVec.getLsbD_xor, BitVec.getLsbD_shiftLeft, BitVec.getLsbD_xor, Y_bit, decide_eq_true hj, Bool.true_and]
  by_cases c : 48 ≤ j
  · rw [decide_eq_false (show ¬ j < 48 by omega)]
    by_cases d : j < 60
    · rw [if_pos ⟨c, d⟩, decide_eq_true (show j - 48 < 12 by omega), show 48 + (j - 48) = j by omega]
      cases m.getLsbD j <;> cases t.getLsbD (j - 48) <;> rfl
    · rw [if_neg (by omega), decide_eq_false (show ¬ j - 48 < 12 by omega), high_lsb t 12 _ ht (by omega)]
      cases m.getLsbD j <;> rfl
  · rw [if_neg (by omega), decide_eq_true (show j < 48 by omega)]
    cases m.getLsbD j <;> rfl
/-- What another type leaves. -/
theorem ty_tells (m t a : BitVec 64) (ht : t.toNat < 4096) : lkB (tyM m t) a = lkB m a ∧ lkT (tyM m t) a = lkT m a ∧ lkOk (tyM m t) a = lkOk m a ∧ rtF (tyM m t) a = rtF m a ∧ mP (tyM m t) = mP m ∧ mY (tyM m t) = t := by
  obtain ⟨h1, h2, h3, h4⟩ := rt_same (x := tyM m t) (y := m) a (fun j h => by rw [ty_bit _ _ ht _ (by omega), if_neg (by omega)]) (fun j h h' => by rw [ty_bit _ _ ht _ (by omega), if_neg (by omega)]) (fun j h h' => by rw [ty_bit _ _ ht _ (by omega), if_neg (by omega)])
  refine ⟨h1, h2, h3, h4, get_same (a := 32) (n := 9) (by omega) (fun j h h' => by rw [ty_bit _ _ ht _ (by omega), if_neg (by omega)]), ?_⟩
  apply ext64
  intro j hj
  rw [Y_bit]
  by_cases c : j < 12
  · rw [decide_eq_true c, ty_bit _ _ ht _ (by omega), if_pos (by omega), show 48 + j - 48 = j by omega]; rfl
  · rw [decide_eq_false c, high_lsb t 12 _ ht (by omega)]; rfl
theorem ty_back {m t : BitVec 64} (ht : t.toNat < 4096) (hm : mY m = 0#64) : tyM (tyM m t) 0#64 = m := by
  have e := (ty_tells m t 0#64 ht).2.2.2.2.2
  unfold tyM at e ⊢
  rw [e, hm]
  rw [BitVec.zero_xor, BitVec.xor_zero, BitVec.xor_assoc, BitVec.xor_self, BitVec.xor_zero]
theorem and_bit (m n : BitVec 64) (j : Nat) (hj : j < 64) : (andM m n).getLsbD j = if 32 ≤ j ∧ j < 41 then (m.getLsbD j && n.getLsbD (j - 32)) else m.getLsbD j := by
  unfold andM
  rw [BitVec.getLsbD_and, BitVec.getLsbD_not, BitVec.getLsbD_shiftLeft, BitVec.getLsbD_and, BitVec.getLsbD_not, P_bit, decide_eq_true hj, Bool.true_and, Bool.true_and]
  by_cases c : 32 ≤ j
  · rw [decide_eq_false (show ¬ j < 32 by omega), decide_eq_true (show j - 32 < 64 by omega)]
    by_cases d : j < 41
    · rw [if_pos ⟨c, d⟩, decide_eq_true (show j - 32 < 9 by omega), show 32 + (j - 32) = j by omega]
      cases m.getLsbD j <;> cases n.getLsbD (j - 32) <;> rfl
    · rw [if_neg (by omega), decide_eq_false (show ¬ j - 32 < 9 by omega)]
      cases m.getLsbD j <;> rfl
  · rw [if_neg (by omega), decide_eq_true (show j < 32 by omega)]
    cases m.getLsbD j <;> rfl
/-- What fewer permissions leave. -/
theorem and_tells (m n a : BitVec 64) : lkB (andM m n) a = lkB m a ∧ lkT (andM m n) a = lkT m a ∧ lkOk (andM m n) a = lkOk m a ∧ rtF (andM m n) a = rtF m a ∧ mP (andM m n) = mP m &&& n ∧ mY (andM m n) = mY m := by
  obtain ⟨h1, h2, h3, h4⟩ := rt_same (x := andM m n) (y := m) a (fun j h => by rw [and_bit _ _ _ (by omega), if_neg (by omega)]) (fun j h h' => by rw [and_bit _ _ _ (by omega), if_neg (by omega)]) (fun j h h' => by rw [and_bit _ _ _ (by omega), if_neg (by omega)])
  refine ⟨h1, h2, h3, h4, ?_, get_same (a := 48) (n := 12) (by omega) (fun j h h' => by rw [and_bit _ _ _ (by omega), if_neg (by omega)])⟩
  apply ext64
  intro j hj
  rw [P_bit, BitVec.getLsbD_and, P_bit]
  by_cases c : j < 9
  · rw [decide_eq_true c, and_bit _ _ _ (by omega), if_pos (by omega), show 32 + j - 32 = j by omega]
    simp
  · rw [decide_eq_false c]; rfl
theorem and_twice (m n : BitVec 64) : andM (andM m n) n = andM m n := by
  apply ext64
  intro j hj
  rw [and_bit _ _ _ hj, and_bit _ _ _ hj]
  by_cases c : 32 ≤ j ∧ j < 41
  · rw [if_pos c, if_pos c]; cases m.getLsbD j <;> cases n.getLsbD (j - 32) <;> rfl
  · rw [if_neg c, if_neg c]
theorem opF_iff (g : Bool) (m a : BitVec 64) : opF g m a = true ↔ g = true ∧ rtF m a = true ∧ mY m = 0#64 := by
  unfold opF
  simp [and_assoc]
theorem opF_ty (g : Bool) (m t a : BitVec 64) (ht : t.toNat < 4096) (h0 : t ≠ 0#64) : opF g (tyM m t) a = false := by
  unfold opF
  rw [(ty_tells m t a ht).2.2.2.2.2, beq_eq_false_iff_ne.2 h0]
  simp
/-- What is moved, is as it was. -/
def movF (g : Bool) (m a n : BitVec 64) : Bool := opF g m a && (lkOk m n && (lkB m n == lkB m a && lkT m n == lkT m a))
theorem movF_iff (g : Bool) (m a n : BitVec 64) : movF g m a n = true ↔ opF g m a = true ∧ lkOk m n = true ∧ lkB m n = lkB m a ∧ lkT m n = lkT m a := by
  unfold movF
  simp
theorem mov_right {g : Bool} {m a n : BitVec 64} (h : movF g m a n = true) : rtF m n = true ∧ opF true m n = true := by
  obtain ⟨h1, h2, h3, h4⟩ := (movF_iff _ _ _ _).1 h
  obtain ⟨k1, k2, k3⟩ := (opF_iff _ _ _).1 h1
  have : rtF m n = true := by
    unfold rtF at k2 ⊢
    rw [h2]
    simp at k2
    simp [k2.2]
  exact ⟨this, (opF_iff _ _ _).2 ⟨rfl, this, k3⟩⟩
theorem mov_back {g : Bool} {m a n : BitVec 64} (h : movF g m a n = true) : movF true m n a = true := by
  obtain ⟨h1, h2, h3, h4⟩ := (movF_iff _ _ _ _).1 h
  obtain ⟨k1, k2, k3⟩ := (opF_iff _ _ _).1 h1
  refine (movF_iff _ _ _ _).2 ⟨(mov_right h).2, ?_, h3.symm, h4.symm⟩
  unfold rtF at k2
  simp at k2
  exact k2.1
/-- What is bounded. -/
theorem bnd_tells {g : Bool} {m a n : BitVec 64} {x : Bool} (h : bndG g m a n x = true) :
    opF g m a = true ∧ rtF (bndM m a n) a = true ∧ lkB (bndM m a n) a = bndB a n ∧ lkT (bndM m a n) a = bndT a n ∧ mP (bndM m a n) = mP m ∧ mY (bndM m a n) = 0#64 ∧ U (lkB m a) ≤ U (bndB a n) ∧ U (bndT a n) ≤ U (lkT m a) ∧ (x = true → bndB a n = a ∧ bndT a n = a + n) ∧ bndG g m a n false = true := by
  have h0 := h
  unfold bndG at h
  simp only [Bool.and_eq_true, decide_eq_true_eq] at h
  obtain ⟨h1, h2, h3, h4, h5⟩ := h
  have hk : mkOk (bndB a n) (bndT a n) (mP m) (mY m) a = true := by
    unfold bndOk at h1
    simp only [Bool.and_eq_true] at h1
    exact h1.2.2
  have e2 : bndM m a n = mkM (bndB a n) (bndT a n) (mP m) (mY m) a := by unfold bndM; rw [h1]; rfl
  obtain ⟨q1, q2, q3, q4, q5, q6, q7, q8, q9, q10⟩ := made hk
  rw [e2]
  refine ⟨h2, q10, q8, q9, q5, by rw [q6]; exact ((opF_iff _ _ _).1 h2).2.2, h3, h4, ?_, ?_⟩
  · intro e
    rw [e] at h5
    simpa using h5
  · unfold bndG
    rw [h1, h2, decide_eq_true h3, decide_eq_true h4]
    rfl
theorem bnd_within {g : Bool} {m a n : BitVec 64} {x : Bool} (h : bndG g m a n x = true) : withinF (bndM m a n) a m a = true := by
  obtain ⟨h1, h2, h3, h4, h5, h6, h7, h8, h9, h10⟩ := bnd_tells h
  unfold withinF
  rw [h2, ((opF_iff _ _ _).1 h1).2.1, h3, h4, h5, decide_eq_true h7, decide_eq_true h8]
  simp
theorem and_again (g : Bool) (m n a : BitVec 64) : opF (opF g m a) (andM m n) a = opF g m a := by
  obtain ⟨h1, h2, h3, h4, h5, h6⟩ := and_tells m n a
  cases h : opF g m a
  · rfl
  · obtain ⟨k1, k2, k3⟩ := (opF_iff _ _ _).1 h
    exact (opF_iff _ _ _).2 ⟨rfl, by rw [h4]; exact k2, by rw [h6]; exact k3⟩
theorem pow_and (p : BitVec 64) (i : Nat) (k : BitVec 64) (hk : BitVec.twoPow 64 i = k) (h0 : k ≠ 0#64) : (k &&& ~~~ p == 0#64) = (p &&& k != 0#64) := by
  have h1 := BitVec.and_twoPow p i
  have h2 := BitVec.and_twoPow (~~~ p) i
  rw [hk] at h1 h2
  by_cases hi : i < 64
  · rw [BitVec.and_comm, h2, h1, BitVec.getLsbD_not, decide_eq_true hi, Bool.true_and]
    have e : (k == 0#64) = false := beq_eq_false_iff_ne.2 h0
    have e' : (0#64 == 0#64) = true := rfl
    unfold bne
    cases p.getLsbD i <;> simp [e]
  · exfalso
    apply h0
    rw [← hk]
    apply BitVec.eq_of_toNat_eq
    rw [BitVec.toNat_twoPow]
    have : (2 : Nat) ^ i % 2 ^ 64 = 0 := Nat.mod_eq_zero_of_dvd (Nat.pow_dvd_pow 2 (by omega))
    rw [this]; rfl
end Go.Proofs.Ytpinjngmlelleaa
