
/-
  Spans that are kept in steps of a power of two: plain facts on numbers; no program.
-/
import Derived.Test.YtpjcijmdoofcbaaBv
namespace Go.Proofs.Ytpjcijmdoofcbaa
set_option linter.unusedVariables false
set_option linter.unusedSimpArgs false

def loN (b x : Nat) : Nat := b / 2 ^ x
def hiN (t x : Nat) : Nat := (t + (2 ^ x - 1)) / 2 ^ x
def stN (b t x : Nat) : Nat := hiN t x - loN b x
theorem pow_pos' (x : Nat) : 0 < 2 ^ x := Nat.two_pow_pos x
theorem lo_mul_le (b x : Nat) : loN b x * 2 ^ x ≤ b := Nat.div_mul_le_self _ _
theorem lt_lo_succ (b x : Nat) : b < loN b x * 2 ^ x + 2 ^ x := by
  have h := Nat.lt_mul_div_succ b (pow_pos' x)
  unfold loN
  rw [Nat.mul_comm] at h
  rw [Nat.add_mul, Nat.one_mul] at h
  exact h
theorem le_hi_mul (t x : Nat) : t ≤ hiN t x * 2 ^ x := by
  have h := Nat.lt_mul_div_succ (t + (2 ^ x - 1)) (pow_pos' x)
  have hp := pow_pos' x
  unfold hiN
  rw [Nat.mul_comm, Nat.add_mul, Nat.one_mul] at h
  generalize (t + (2 ^ x - 1)) / 2 ^ x * 2 ^ x = q at *
  generalize 2 ^ x = p at *
  omega
theorem hi_mul_lt (t x : Nat) : hiN t x * 2 ^ x < t + 2 ^ x := by
  have h := Nat.div_mul_le_self (t + (2 ^ x - 1)) (2 ^ x)
  have hp := pow_pos' x
  unfold hiN
  generalize (t + (2 ^ x - 1)) / 2 ^ x * 2 ^ x = q at *
  generalize 2 ^ x = p at *
  omega
theorem lo_le_hi {b t : Nat} (h : b ≤ t) (x : Nat) : loN b x ≤ hiN t x := Nat.div_le_div_right (by omega)
theorem st_ge {b t : Nat} (h : b ≤ t) (x : Nat) : t - b ≤ stN b t x * 2 ^ x := by
  have h1 := le_hi_mul t x
  have h2 := lo_mul_le b x
  unfold stN
  rw [Nat.sub_mul]
  omega
theorem st_lt {b t : Nat} (h : b ≤ t) (x : Nat) : stN b t x * 2 ^ x < t - b + 2 * 2 ^ x := by
  have h1 := hi_mul_lt t x
  have h2 := lt_lo_succ b x
  have hp := pow_pos' x
  unfold stN
  rw [Nat.sub_mul]
  omega
theorem lo_succ (b x : Nat) : loN b (x + 1) = loN b x / 2 := by
  unfold loN; rw [Nat.pow_succ, Nat.div_div_eq_div_mul]
theorem hi_succ (t x : Nat) : hiN t (x + 1) = (hiN t x + 1) / 2 := by
  unfold hiN
  have hp := pow_pos' x
  have e : t + (2 ^ (x + 1) - 1) = t + (2 ^ x - 1) + 2 ^ x := by
    rw [Nat.pow_succ]; generalize 2 ^ x = p at *; omega
  rw [e, Nat.pow_succ, ← Nat.div_div_eq_div_mul, Nat.add_div_right _ hp]
theorem st_succ_le {b t : Nat} (h : b ≤ t) (x : Nat) : 2 * stN b t (x + 1) ≤ stN b t x + 2 := by
  have := lo_le_hi h x
  unfold stN
  rw [lo_succ, hi_succ]
  omega
theorem st_le_succ {b t : Nat} (h : b ≤ t) (x : Nat) : stN b t x ≤ 2 * stN b t (x + 1) := by
  have := lo_le_hi h x
  unfold stN
  rw [lo_succ, hi_succ]
  omega
theorem lo_mono {b c : Nat} (h : b ≤ c) (x : Nat) : loN b x ≤ loN c x := Nat.div_le_div_right h
theorem hi_mono {b c : Nat} (h : b ≤ c) (x : Nat) : hiN b x ≤ hiN c x := Nat.div_le_div_right (by omega)
theorem st_mono {b t b' t' : Nat} (h1 : b' ≤ b) (h2 : t ≤ t') (x : Nat) : stN b t x ≤ stN b' t' x := by
  have := lo_mono h1 x
  have := hi_mono h2 x
  unfold stN
  omega
theorem st_0 (b t : Nat) : stN b t 0 = t - b := by simp [stN, hiN, loN]

def expN (b t : Nat) : Nat := if t - b < 4096 then 0 else if stN b t (Nat.log2 (t - b) - 12) < 8192 then Nat.log2 (t - b) - 12 else Nat.log2 (t - b) - 12 + 1
/-- A length between two powers. -/
theorem st_log {b t : Nat} (h : b ≤ t) (x : Nat) (h1 : 4096 * 2 ^ x ≤ t - b) (h2 : t - b < 8192 * 2 ^ x) : 4096 ≤ stN b t x ∧ stN b t x ≤ 8193 := by
  have g1 := st_ge h x
  have g2 := st_lt h x
  have hp := pow_pos' x
  constructor
  · exact Nat.le_of_mul_le_mul_right (Nat.le_trans h1 g1) hp
  · have g3 : stN b t x * 2 ^ x < 8194 * 2 ^ x := by omega
    have := Nat.lt_of_mul_lt_mul_right g3
    omega
theorem log_sub {n : Nat} (hn : 4096 ≤ n) : 4096 * 2 ^ (Nat.log2 n - 12) ≤ n ∧ n < 8192 * 2 ^ (Nat.log2 n - 12) := by
  have h0 : n ≠ 0 := by omega
  have h1 : 12 ≤ Nat.log2 n := (Nat.le_log2 h0).2 (by omega)
  have h2 := (Nat.le_log2 h0).1 (Nat.le_refl (Nat.log2 n))
  have h3 := (Nat.log2_lt h0).1 (Nat.lt_succ_self (Nat.log2 n))
  have e : Nat.log2 n = 12 + (Nat.log2 n - 12) := by omega
  constructor
  · rw [e, Nat.pow_add] at h2; exact h2
  · rw [e, show (12 + (Nat.log2 n - 12)).succ = 13 + (Nat.log2 n - 12) by omega, Nat.pow_add] at h3; exact h3
theorem exp_spec {b t : Nat} (h : b ≤ t) (hn : 4096 ≤ t - b) : 4096 ≤ stN b t (expN b t) ∧ stN b t (expN b t) < 8192 ∧ ∀ y, y < expN b t → 8192 ≤ stN b t y := by
  obtain ⟨l1, l2⟩ := log_sub hn
  obtain ⟨s1, s2⟩ := st_log h _ l1 l2
  have below : ∀ y, y < Nat.log2 (t - b) - 12 → 8192 ≤ stN b t y := by
    intro y hy
    have g1 := st_ge h y
    have hp := pow_pos' y
    have e : 2 ^ (Nat.log2 (t - b) - 12) = 2 * 2 ^ y * 2 ^ (Nat.log2 (t - b) - 12 - (y + 1)) := by
      rw [← Nat.pow_succ', ← Nat.pow_add]; congr 1; omega
    have hq := pow_pos' (Nat.log2 (t - b) - 12 - (y + 1))
    have g2 : 8192 * 2 ^ y ≤ 4096 * 2 ^ (Nat.log2 (t - b) - 12) := by
      rw [e]
      have : 2 * 2 ^ y * 1 ≤ 2 * 2 ^ y * 2 ^ (Nat.log2 (t - b) - 12 - (y + 1)) := Nat.mul_le_mul_left _ hq
      omega
    exact Nat.le_of_mul_le_mul_right (Nat.le_trans (Nat.le_trans g2 l1) g1) hp
  unfold expN
  rw [if_neg (by omega)]
  by_cases c : stN b t (Nat.log2 (t - b) - 12) < 8192
  · rw [if_pos c]
    exact ⟨s1, c, below⟩
  · rw [if_neg c]
    have g1 := st_succ_le h (Nat.log2 (t - b) - 12)
    have g2 := st_le_succ h (Nat.log2 (t - b) - 12)
    refine ⟨by omega, by omega, fun y hy => ?_⟩
    by_cases c2 : y = Nat.log2 (t - b) - 12
    · subst c2; omega
    · exact below y (by omega)
theorem exp_small {b t : Nat} (h : t - b < 4096) : expN b t = 0 := by unfold expN; rw [if_pos h]
theorem exp_le {b t : Nat} (h : b ≤ t) (x : Nat) (hx : stN b t x < 8192) : expN b t ≤ x := by
  by_cases hn : t - b < 4096
  · rw [exp_small hn]; omega
  · obtain ⟨_, _, h3⟩ := exp_spec h (by omega)
    by_cases c : x < expN b t
    · have := h3 x c; omega
    · omega
theorem exp_eq {b t : Nat} (h : b ≤ t) (hn : 4096 ≤ t - b) (x : Nat) (hx : stN b t x < 8192) (hy : ∀ y, y < x → 8192 ≤ stN b t y) : expN b t = x := by
  have h1 := exp_le h x hx
  obtain ⟨_, h2, _⟩ := exp_spec h hn
  by_cases c : expN b t < x
  · have := hy _ c; omega
  · omega
theorem exp_36 {b t : Nat} (h : b ≤ t) (ht : t ≤ 281474976710656) : expN b t ≤ 36 := by
  apply exp_le h
  have g := st_lt h 36
  omega
theorem exp_lt {b t : Nat} (h : b ≤ t) : stN b t (expN b t) < 8192 := by
  by_cases hn : t - b < 4096
  · rw [exp_small hn, st_0]; omega
  · exact (exp_spec h (by omega)).2.1
theorem exp_mono {b t b' t' : Nat} (h : b ≤ t) (h1 : b' ≤ b) (h2 : t ≤ t') : expN b t ≤ expN b' t' :=
  exp_le h _ (Nat.lt_of_le_of_lt (st_mono h1 h2 _) (exp_lt (by omega)))

/-- What is kept of a span. -/
def kbN (b t : Nat) : Nat := loN b (expN b t) * 2 ^ expN b t
def ktN (b t : Nat) : Nat := hiN t (expN b t) * 2 ^ expN b t
def eN (b t : Nat) : Nat := if t - b < 4096 then 0 else expN b t + 1
theorem kb_le (b t : Nat) : kbN b t ≤ b := lo_mul_le _ _
theorem le_kt (b t : Nat) : t ≤ ktN b t := le_hi_mul _ _
theorem kb_gt (b t : Nat) : b < kbN b t + 2 ^ expN b t := lt_lo_succ _ _
theorem kt_lt (b t : Nat) : ktN b t < t + 2 ^ expN b t := hi_mul_lt _ _
theorem kept_small {b t : Nat} (h : t - b < 4096) : kbN b t = b ∧ ktN b t = t := by
  unfold kbN ktN; rw [exp_small h]; simp [loN, hiN]
theorem lo_of_mul (k x : Nat) : loN (k * 2 ^ x) x = k := Nat.mul_div_cancel _ (pow_pos' x)
theorem hi_of_mul (k x : Nat) : hiN (k * 2 ^ x) x = k := by
  unfold hiN
  have hp := pow_pos' x
  rw [Nat.add_comm, Nat.add_mul_div_right _ _ hp, Nat.div_eq_of_lt (by omega), Nat.zero_add]
theorem kept_le {b t : Nat} (h : b ≤ t) : kbN b t ≤ ktN b t := Nat.mul_le_mul_right _ (lo_le_hi h _)
theorem kept_sub (b t : Nat) : ktN b t - kbN b t = stN b t (expN b t) * 2 ^ expN b t := by
  unfold ktN kbN stN; rw [Nat.sub_mul]
theorem exp_kept {b t : Nat} (h : b ≤ t) : expN (kbN b t) (ktN b t) = expN b t := by
  by_cases hn : t - b < 4096
  · obtain ⟨h1, h2⟩ := kept_small hn; rw [h1, h2]
  · have hn' : 4096 ≤ t - b := by omega
    have k1 := kb_le b t
    have k2 := le_kt b t
    obtain ⟨s1, s2, s3⟩ := exp_spec h hn'
    apply exp_eq (kept_le h) (by omega)
    · have : stN (kbN b t) (ktN b t) (expN b t) = stN b t (expN b t) := by
        unfold stN kbN ktN; rw [lo_of_mul, hi_of_mul]
      omega
    · intro y hy
      exact Nat.le_trans (s3 y hy) (st_mono k1 k2 y)
theorem kept_kept {b t : Nat} (h : b ≤ t) : kbN (kbN b t) (ktN b t) = kbN b t ∧ ktN (kbN b t) (ktN b t) = ktN b t := by
  have e := exp_kept h
  constructor
  · show loN (kbN b t) (expN (kbN b t) (ktN b t)) * 2 ^ expN (kbN b t) (ktN b t) = kbN b t
    rw [e]; unfold kbN; rw [lo_of_mul]
  · show hiN (ktN b t) (expN (kbN b t) (ktN b t)) * 2 ^ expN (kbN b t) (ktN b t) = ktN b t
    rw [e]; unfold ktN; rw [hi_of_mul]
theorem e_kept {b t : Nat} (h : b ≤ t) : eN (kbN b t) (ktN b t) = eN b t := by
  by_cases hn : t - b < 4096
  · obtain ⟨h1, h2⟩ := kept_small hn; rw [h1, h2]
  · have k1 := kb_le b t
    have k2 := le_kt b t
    unfold eN
    rw [if_neg hn, if_neg (by omega), exp_kept h]
theorem e_exp (b t : Nat) : eN b t - 1 = expN b t := by
  unfold eN
  by_cases hn : t - b < 4096
  · rw [if_pos hn, exp_small hn]
  · rw [if_neg hn]; omega
/-- A multiple of a great power is one of a small power. -/
theorem dvd_lo {x y : Nat} (h : x ≤ y) (b : Nat) : loN b y * 2 ^ y ≤ loN b x * 2 ^ x := by
  have e : 2 ^ y = 2 ^ (y - x) * 2 ^ x := by rw [← Nat.pow_add]; congr 1; omega
  have h1 := lo_mul_le b y
  unfold loN at *
  rw [e, ← Nat.mul_assoc]
  apply Nat.mul_le_mul_right
  rw [Nat.le_div_iff_mul_le (pow_pos' x), Nat.mul_assoc, ← e]
  exact h1
theorem hi_dvd {x y : Nat} (h : x ≤ y) (t : Nat) : hiN t x * 2 ^ x ≤ hiN t y * 2 ^ y := by
  have e : 2 ^ y = 2 ^ (y - x) * 2 ^ x := by rw [← Nat.pow_add]; congr 1; omega
  have h1 := le_hi_mul t y
  rw [e, ← Nat.mul_assoc] at *
  apply Nat.mul_le_mul_right
  generalize hiN t y * 2 ^ (y - x) = k at *
  have h2 := hi_mul_lt t x
  have h3 : hiN t x * 2 ^ x < (k + 1) * 2 ^ x := by rw [Nat.add_mul, Nat.one_mul]; omega
  have := Nat.lt_of_mul_lt_mul_right h3
  omega
theorem kept_mono {b t b' t' : Nat} (h : b ≤ t) (h1 : b' ≤ b) (h2 : t ≤ t') : kbN b' t' ≤ kbN b t ∧ ktN b t ≤ ktN b' t' := by
  have e := exp_mono h h1 h2
  constructor
  · exact Nat.le_trans (Nat.mul_le_mul_right _ (lo_mono h1 _)) (dvd_lo e b)
  · exact Nat.le_trans (hi_dvd e t) (Nat.mul_le_mul_right _ (hi_mono h2 _))
theorem kt_48 {b t : Nat} (h : b ≤ t) (ht : t ≤ 281474976710656) : ktN b t ≤ 281474976710656 := by
  have h36 := exp_36 h ht
  have e : 281474976710656 = 2 ^ (48 - expN b t) * 2 ^ expN b t := by
    rw [← Nat.pow_add, show 48 - expN b t + expN b t = 48 by omega]
  have h1 := kt_lt b t
  unfold ktN at *
  rw [e] at ht ⊢
  apply Nat.mul_le_mul_right
  generalize 2 ^ (48 - expN b t) = k at *
  have h3 : hiN t (expN b t) * 2 ^ expN b t < (k + 1) * 2 ^ expN b t := by rw [Nat.add_mul, Nat.one_mul]; omega
  have := Nat.lt_of_mul_lt_mul_right h3
  omega
end Go.Proofs.Ytpjcijmdoofcbaa
