
/-
  Spans that are kept: what the laws ask of them; plain facts; no program.
-/
import Derived.Test.YtnillifinnmigaaBoundsQ
namespace Go.Proofs.Ytnillifinnmigaa
open Go Go.RowKit
set_option linter.unusedVariables false
set_option linter.unusedSimpArgs false

/-- What is kept is kept as it is. -/
theorem kept_again {b t : BitVec 64} (h : mayS b t = true) : mayS (kB b t) (kT b t) = true ∧ kB (kB b t) (kT b t) = kB b t ∧ kT (kB b t) (kT b t) = kT b t ∧ kE (kB b t) (kT b t) = kE b t ∧ fB (kB b t) (kT b t) = fB b t ∧ fT (kB b t) (kT b t) = fT b t := by
  obtain ⟨h1, h2⟩ := mayS_true h
  have g1 := kB_nat h
  have g2 := kT_nat h
  have hm : mayS (kB b t) (kT b t) = true := by
    unfold mayS
    rw [g1, g2, decide_eq_true (kept_le h1), decide_eq_true (kt_48 h1 h2)]
    rfl
  obtain ⟨k1, k2⟩ := kept_kept h1
  have hX : kX (kB b t) (kT b t) = kX b t := by unfold kX; rw [g1, g2]; exact exp_kept h1
  have e1 : kB (kB b t) (kT b t) = kB b t := BitVec.eq_of_toNat_eq (by rw [kB_nat hm, g1, g2, k1])
  have e2 : kT (kB b t) (kT b t) = kT b t := BitVec.eq_of_toNat_eq (by rw [kT_nat hm, g1, g2, k2])
  refine ⟨hm, e1, e2, ?_, ?_, ?_⟩
  · unfold kE; rw [g1, g2, e_kept h1]
  · unfold fB; rw [e1, hX]
  · unfold fT; rw [e2, hX]
theorem kept_near {b t : BitVec 64} (h : mayS b t = true) : U (kB b t) ≤ U b ∧ U t ≤ U (kT b t) ∧ U (b - kB b t) < U (1#64 <<< kX b t) ∧ U (kT b t - t) < U (1#64 <<< kX b t) := by
  obtain ⟨h1, h2⟩ := mayS_true h
  have g1 := kB_nat h
  have g2 := kT_nat h
  have a1 := kb_le b.toNat t.toNat
  have a2 := le_kt b.toNat t.toNat
  have a3 := kb_gt b.toNat t.toNat
  have a4 := kt_lt b.toNat t.toNat
  have h36 := kX_le h
  have hp : 2 ^ kX b t ≤ 2 ^ 36 := Nat.pow_le_pow_right (by omega) h36
  have e : (1#64 <<< kX b t).toNat = 2 ^ kX b t := by
    rw [BitVec.toNat_shiftLeft, Nat.shiftLeft_eq]
    simp only [show (1#64).toNat = 1 from rfl]
    omega
  have hx : expN b.toNat t.toNat = kX b t := rfl
  rw [hx] at a3 a4
  unfold U
  rw [e, BitVec.toNat_sub_of_le (by rw [BitVec.le_def]; omega), BitVec.toNat_sub_of_le (by rw [BitVec.le_def]; omega)]
  omega
theorem kE_S {b t : BitVec 64} (h : mayS b t = true) : (kE b t = 0#64 ∧ kX b t = 0 ∧ kB b t = b ∧ kT b t = t) ∨ (0 < U (kE b t) ∧ S (kE b t) = (kX b t : Int) + 1 ∧ kE b t = BitVec.ofNat 64 (kX b t) + 1#64) := by
  obtain ⟨h1, h2⟩ := mayS_true h
  have h36 := kX_le h
  have hE := kE_nat h
  by_cases c : t.toNat - b.toNat < 4096
  · left
    refine ⟨by unfold kE eN; rw [if_pos c], exp_small c, ?_, ?_⟩
    · unfold kB; rw [(kept_small c).1]; simp
    · unfold kT; rw [(kept_small c).2]; simp
  · right
    have e : eN b.toNat t.toNat = kX b t + 1 := by unfold eN; rw [if_neg c]; rfl
    rw [e] at hE
    refine ⟨by unfold U; omega, ?_, BitVec.eq_of_toNat_eq ?_⟩
    · unfold S; rw [BitVec.toInt_eq_toNat_bmod, Int.bmod_def, hE]; simp; omega
    · rw [hE]; simp; omega
/-- Lengths that are kept. -/
theorem kb_0 (n : Nat) : kbN 0 n = 0 := by unfold kbN loN; simp
theorem may_0' (n : BitVec 64) (h : n.toNat ≤ 281474976710656) : mayS 0#64 n = true := by unfold mayS; simp; omega
theorem encE_0 (n : BitVec 64) (h : n.toNat ≤ 281474976710656) : (encE 0#64 n).toNat - 1 = expN 0 n.toNat := by
  have hm := may_0' n h
  unfold encE
  rw [if_pos hm, kE_nat hm, show (0#64).toNat = 0 from rfl, e_exp]
theorem rndT_0 (n : BitVec 64) (h : n.toNat ≤ 281474976710656) : (rndT 0#64 n).toNat = ktN 0 n.toNat := by
  have hm := may_0' n h
  unfold rndT
  rw [if_pos hm, kT_nat hm]; rfl
theorem rndT_le (n : BitVec 64) (h : n.toNat ≤ 281474976710656) : (rndT 0#64 n).toNat ≤ 281474976710656 ∧ n.toNat ≤ (rndT 0#64 n).toNat := by
  rw [rndT_0 n h]
  exact ⟨kt_48 (by omega) h, le_kt _ _⟩
theorem exp_of_length (n : Nat) : expN 0 (ktN 0 n) = expN 0 n := by
  have := exp_kept (b := 0) (t := n) (by omega)
  rw [kb_0] at this
  exact this
/-- A span whose base and length are multiples of what the length asks for. -/
theorem aligned_exp (n q : Nat) : expN (q * 2 ^ expN 0 n) (q * 2 ^ expN 0 n + ktN 0 n) = expN 0 n := by
  by_cases c : n < 4096
  · have h0 : expN 0 n = 0 := exp_small (by omega)
    have h1 : ktN 0 n = n := (kept_small (b := 0) (by omega)).2
    rw [h0, h1]
    exact exp_small (by omega)
  · obtain ⟨s1, s2, s3⟩ := exp_spec (b := 0) (t := n) (by omega) (by omega)
    have hk := le_kt 0 n
    generalize hx : expN 0 n = x at *
    have hkt : ktN 0 n = hiN n x * 2 ^ x := by unfold ktN; rw [hx]
    have hst : stN 0 n x = hiN n x := by unfold stN loN; simp
    apply exp_eq (by omega) (by omega)
    · unfold stN
      rw [lo_of_mul, hkt, ← Nat.add_mul, hi_of_mul]
      omega
    · intro y hy
      have g1 := st_ge (b := q * 2 ^ x) (t := q * 2 ^ x + ktN 0 n) (by omega) y
      have g2 := s3 y hy
      have e2 : stN 0 n y = hiN n y := by unfold stN loN; simp
      rw [e2] at g2
      have g3 := hi_mul_lt n y
      have e3 : 2 ^ x = 2 ^ (x - y) * 2 ^ y := by rw [← Nat.pow_add]; congr 1; omega
      have e4 : ktN 0 n = hiN n x * 2 ^ (x - y) * 2 ^ y := by rw [hkt, e3, Nat.mul_assoc]
      have g5 : hiN n y ≤ hiN n x * 2 ^ (x - y) := by
        have hp := pow_pos' y
        have g6 : hiN n y * 2 ^ y < (hiN n x * 2 ^ (x - y) + 1) * 2 ^ y := by rw [Nat.add_mul, Nat.one_mul]; omega
        have := Nat.lt_of_mul_lt_mul_right g6
        omega
      have g7 : hiN n x * 2 ^ (x - y) * 2 ^ y ≤ stN (q * 2 ^ x) (q * 2 ^ x + ktN 0 n) y * 2 ^ y := by
        rw [← e4]; omega
      have := Nat.le_of_mul_le_mul_right g7 (pow_pos' y)
      omega
theorem aligned_kept (n q : Nat) : kbN (q * 2 ^ expN 0 n) (q * 2 ^ expN 0 n + ktN 0 n) = q * 2 ^ expN 0 n ∧ ktN (q * 2 ^ expN 0 n) (q * 2 ^ expN 0 n + ktN 0 n) = q * 2 ^ expN 0 n + ktN 0 n := by
  have e := aligned_exp n q
  have hkt : ktN 0 n = hiN n (expN 0 n) * 2 ^ expN 0 n := rfl
  constructor
  · show loN _ (expN (q * 2 ^ expN 0 n) (q * 2 ^ expN 0 n + ktN 0 n)) * 2 ^ expN (q * 2 ^ expN 0 n) (q * 2 ^ expN 0 n + ktN 0 n) = _
    rw [e, lo_of_mul]
  · show hiN _ (expN (q * 2 ^ expN 0 n) (q * 2 ^ expN 0 n + ktN 0 n)) * 2 ^ expN (q * 2 ^ expN 0 n) (q * 2 ^ expN 0 n + ktN 0 n) = _
    rw [e]
    generalize expN 0 n = x at *
    rw [hkt, ← Nat.add_mul, hi_of_mul]
theorem length_mono {n m : Nat} (h : n ≤ m) : ktN 0 n ≤ ktN 0 m ∧ expN 0 n ≤ expN 0 m := ⟨(kept_mono (by omega) (Nat.le_refl 0) h).2, exp_mono (by omega) (Nat.le_refl 0) h⟩

/-- A span that may be, of any numbers. -/
def lowS (a b : BitVec 64) : BitVec 64 := if U (a % 281474976710657#64) ≤ U (b % 281474976710657#64) then a % 281474976710657#64 else b % 281474976710657#64
def highS (a b : BitVec 64) : BitVec 64 := if U (a % 281474976710657#64) ≤ U (b % 281474976710657#64) then b % 281474976710657#64 else a % 281474976710657#64
theorem may_span (a b : BitVec 64) : mayS (lowS a b) (highS a b) = true := by
  have h1 : (a % 281474976710657#64).toNat ≤ 281474976710656 := by rw [BitVec.toNat_umod]; simp only [show (281474976710657#64).toNat = 281474976710657 from rfl]; omega
  have h2 : (b % 281474976710657#64).toNat ≤ 281474976710656 := by rw [BitVec.toNat_umod]; simp only [show (281474976710657#64).toNat = 281474976710657 from rfl]; omega
  unfold lowS highS mayS U
  split
  · rw [decide_eq_true (by omega), decide_eq_true h2]; rfl
  · rw [decide_eq_true (by omega), decide_eq_true h1]; rfl
end Go.Proofs.Ytnillifinnmigaa
