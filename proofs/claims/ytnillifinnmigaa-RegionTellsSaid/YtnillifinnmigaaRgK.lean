
/-
  What is found: plain facts; no program.
-/
import Derived.Test.YtnillifinnmigaaRgJ
namespace Go.Proofs.Ytnillifinnmigaa
open Go Go.RowKit
set_option linter.unusedVariables false
set_option linter.unusedSimpArgs false

theorem zerosF_ge (x : BitVec 64) (h : x.toNat % 4096 = 0) : 12 ≤ zerosF x := by
  have hl : ∀ i, i < 12 → x.getLsbD i = false := fun i hi => by
    have e : x.toNat = x.toNat / 4096 * 2 ^ 12 := by omega
    rw [BitVec.getLsbD, e, Nat.testBit_mul_two_pow]
    simp [Nat.not_le.2 hi]
  by_cases hz : ∀ i, i < 64 → x.getLsbD i = false
  · rw [zerosF_none x hz]; omega
  · unfold zerosF
    cases h2 : (List.range 64).find? (fun i => x.getLsbD i) with
    | none => simp
    | some k =>
      have := List.find?_some h2
      simp only [Option.getD_some]
      by_cases hk : k < 12
      · rw [hl k hk] at this; cases this
      · omega
theorem exp_27 : expN 0 549755813888 ≤ 27 := by decide +kernel
theorem kt_39 : ktN 0 549755813888 = 549755813888 := by decide +kernel
theorem ask_nat (n : BitVec 64) (h1 : n.toNat ≤ 274877906944) : n.toNat ≤ (askN n).toNat ∧ (askN n).toNat ≤ 549755813888 ∧ (askN n).toNat % 4096 = 0 ∧ ktN 0 (askN n).toNat = (askN n).toNat ∧ expN 0 (askN n).toNat ≤ 27 := by
  have a1 := (up_N n 12 (by omega) (by omega)).1
  have a2 := le_hi_mul n.toNat 12
  have a3 := hi_mul_lt n.toNat 12
  obtain ⟨c1, hc1⟩ : ∃ c1, c1 = hiN n.toNat 12 := ⟨_, rfl⟩
  rw [← hc1] at a1 a2 a3
  obtain ⟨u1, hu1⟩ : ∃ u1, u1 = (upF n 12).toNat := ⟨_, rfl⟩
  have e12 : (2 : Nat) ^ 12 = 4096 := rfl
  have b1 : u1 ≤ 549755813888 := by rw [hu1]; show (upF n ((12 : Nat) : Int)).toNat ≤ _; rw [a1, e12]; rw [e12] at a3; omega
  have hu : u1 = c1 * 2 ^ 12 := by rw [hu1]; exact a1
  have r1 : (rndT 0#64 (upF n 12)).toNat = ktN 0 u1 := by rw [rndT_0 _ (by rw [← hu1]; omega), ← hu1]
  have b2 := (length_mono b1).1
  rw [kt_39] at b2
  have r2 := (up_N (rndT 0#64 (upF n 12)) 12 (by omega) (by rw [r1]; omega)).1
  have r3 : (askN n).toNat = hiN (ktN 0 u1) 12 * 2 ^ 12 := by
    rw [r1] at r2
    exact r2
  have key : ∃ c, ktN 0 u1 = c * 2 ^ 12 := by
    by_cases he : 12 ≤ expN 0 u1
    · refine ⟨hiN u1 (expN 0 u1) * 2 ^ (expN 0 u1 - 12), ?_⟩
      rw [Nat.mul_assoc, ← Nat.pow_add, show expN 0 u1 - 12 + 12 = expN 0 u1 by omega]
      rfl
    · refine ⟨c1, ?_⟩
      rw [← hu]
      have e1 : u1 = (c1 * 2 ^ (12 - expN 0 u1)) * 2 ^ expN 0 u1 := by
        rw [Nat.mul_assoc, ← Nat.pow_add, show 12 - expN 0 u1 + expN 0 u1 = 12 by omega]
        exact hu
      show hiN u1 (expN 0 u1) * 2 ^ expN 0 u1 = u1
      generalize expN 0 u1 = e at e1
      conv => lhs; rw [e1]
      rw [hi_of_mul]
      exact e1.symm
  obtain ⟨c, hc⟩ := key
  have r4 : (askN n).toNat = ktN 0 u1 := by rw [r3, hc, hi_of_mul]
  have k1 := le_kt 0 u1
  have k2 : ktN 0 (ktN 0 u1) = ktN 0 u1 := by
    have := (kept_kept (b := 0) (t := u1) (by omega)).2
    rwa [kb_0] at this
  refine ⟨?_, by omega, by rw [r4, hc, e12]; omega, by rw [r4]; exact k2, ?_⟩
  · rw [r4]
    rw [e12] at a2 hu
    omega
  · rw [r4, exp_of_length]
    exact Nat.le_trans (length_mono b1).2 exp_27
def askXn (n : BitVec 64) : Nat := max (expN 0 (askN n).toNat) 12
theorem askX_nat (n : BitVec 64) (h1 : n.toNat ≤ 274877906944) : askX n = (askXn n : Int) ∧ 12 ≤ askXn n ∧ askXn n ≤ 27 ∧ expN 0 (askN n).toNat ≤ askXn n := by
  obtain ⟨a1, a2, a3, a4, a5⟩ := ask_nat n h1
  refine ⟨?_, by unfold askXn; omega, by unfold askXn; omega, by unfold askXn; omega⟩
  unfold askX askXn
  rw [encE_0 _ (by omega)]
  omega
theorem pow_27 {x : Nat} (h : x ≤ 27) : 2 ^ x ≤ 134217728 := Nat.le_trans (Nat.pow_le_pow_right (by omega) h) (by decide)
theorem up_facts (t : BitVec 64) (x : Nat) (hx : x ≤ 27) (ht : t.toNat ≤ 274877906944) : (∃ c, (upF t (x : Int)).toNat = c * 2 ^ x) ∧ t.toNat ≤ (upF t (x : Int)).toNat ∧ (upF t (x : Int)).toNat ≤ 549755813888 := by
  have a1 := (up_N t x (by omega) (by omega)).1
  have a2 := le_hi_mul t.toNat x
  have a3 := hi_mul_lt t.toNat x
  have a4 := pow_27 hx
  exact ⟨⟨_, a1⟩, by omega, by omega⟩
theorem fr_some {rb rt n : BitVec 64} {x : Nat} {L : List Rg} {base : BitVec 64} {res : Option (BitVec 64)} (h : FR rb rt n (x : Int) L base res) (hx : x ≤ 27) (hT : ∀ (j : Nat) (r : Rg), L[j]? = some r → r.t.toNat ≤ 274877906944) :
    (∃ c, base.toNat = c * 2 ^ x) → base.toNat ≤ 549755813888 → ∀ b, res = some b → (∃ c, b.toNat = c * 2 ^ x) ∧ b.toNat ≤ 549755813888 ∧ inRF b (b + n) rb rt = true ∧ ∀ (j : Nat) (r : Rg), L[j]? = some r → meetF r.b r.t b (b + n) = false := by
  induction h with
  | out _ => intro _ _ b hb; cases hb
  | hit h1 h2 =>
    intro hc hl b hb
    cases hb
    exact ⟨hc, hl, h1, h2⟩
  | @next base k r res h1 hk hm hb _ ih =>
    intro _ _ b hb
    obtain ⟨u1, u2, u3⟩ := up_facts r.t x hx (hT _ _ hk)
    exact ih u1 u3 b hb
structure Found (rb rt n b : BitVec 64) (L : List Rg) : Prop where
  nat : (b + askN n).toNat = b.toNat + (askN n).toNat
  al : b.toNat % 4096 = 0
  alt : (b + askN n).toNat % 4096 = 0
  len : n.toNat ≤ (askN n).toNat
  lt : b.toNat < (b + askN n).toNat
  ge : rb.toNat ≤ b.toNat
  le : (b + askN n).toNat ≤ rt.toNat
  free : ∀ (j : Nat) (r : Rg), L[j]? = some r → meetF r.b r.t b (b + askN n) = false
  exact_ : encX b (b + askN n) = true
  pages : pagesF b (b + askN n) = true
  inr : inRF b (b + askN n) rb rt = true
theorem found_of {rb rt n b : BitVec 64} {L : List Rg} (h0 : n ≠ 0#64) (h1 : n.toNat ≤ 274877906944) (hr : rb.toNat ≤ 274877906944) (hT : ∀ (j : Nat) (r : Rg), L[j]? = some r → r.t.toNat ≤ 274877906944) (h : FR rb rt (askN n) (askX n) L (upF rb (askX n)) (some b)) : Found rb rt n b L := by
  obtain ⟨x1, x2, x3, x4⟩ := askX_nat n h1
  obtain ⟨a1, a2, a3, a4, a5⟩ := ask_nat n h1
  rw [x1] at h
  obtain ⟨u1, u2, u3⟩ := up_facts rb (askXn n) x3 hr
  obtain ⟨⟨c, hc⟩, hl, hin, hfree⟩ := fr_some h x3 hT u1 u3 b rfl
  have hn0 : n.toNat ≠ 0 := fun e => h0 (BitVec.eq_of_toNat_eq (by rw [e]; rfl))
  have hnat : (b + askN n).toNat = b.toNat + (askN n).toNat := by rw [BitVec.toNat_add]; omega
  have hal : b.toNat % 4096 = 0 := by
    rw [hc, show askXn n = (askXn n - 12) + 12 by omega, Nat.pow_add, ← Nat.mul_assoc]
    exact Nat.mul_mod_left _ _
  have hq : b.toNat = (c * 2 ^ (askXn n - expN 0 (askN n).toNat)) * 2 ^ expN 0 (askN n).toNat := by
    rw [Nat.mul_assoc, ← Nat.pow_add, show askXn n - expN 0 (askN n).toNat + expN 0 (askN n).toNat = askXn n by omega]
    exact hc
  have hin' := hin
  unfold inRF at hin'
  simp only [Bool.and_eq_true, decide_eq_true_eq] at hin'
  unfold U at hin'
  have halt : (b + askN n).toNat % 4096 = 0 := by rw [hnat]; omega
  refine ⟨hnat, hal, halt, a1, by omega, by omega, by omega, hfree, ?_, ?_, hin⟩
  · have hk := aligned_kept (askN n).toNat (c * 2 ^ (askXn n - expN 0 (askN n).toNat))
    rw [← hq, a4] at hk
    unfold encX
    have hm : mayS b (b + askN n) = true := by unfold mayS; simp; omega
    rw [hm, Bool.true_and, Bool.and_eq_true, beq_iff_eq, beq_iff_eq]
    constructor
    · apply BitVec.eq_of_toNat_eq
      rw [kB_nat hm, hnat]; exact hk.1
    · apply BitVec.eq_of_toNat_eq
      rw [kT_nat hm, hnat]; exact hk.2
  · unfold pagesF
    rw [Bool.and_eq_true, Bool.and_eq_true, decide_eq_true_eq, decide_eq_true_eq, decide_eq_true_eq]
    exact ⟨by unfold U; omega, zerosF_ge _ hal, zerosF_ge _ halt⟩
end Go.Proofs.Ytnillifinnmigaa
