
/-
  Fields beside an address, as numbers: plain facts; no program.
-/
import Derived.Test.YtpjcijmdoofcbaaBoundsP
namespace Go.Proofs.Ytpjcijmdoofcbaa
open Go Go.RowKit
set_option linter.unusedVariables false
set_option linter.unusedSimpArgs false

theorem decA_N (e a : BitVec 64) : (decA e a).toNat = a.toNat / 2 ^ (e.toNat - 1) := by
  unfold decA; rw [BitVec.toNat_ushiftRight, Nat.shiftRight_eq_div_pow]
/-- The length, in steps. -/
def lenN (B T E : Nat) : Nat := (T + 16384 - B) % 4096 + if 0 < E then 4096 else 0
/-- How far the address is from half a window below the base, in steps. -/
def farN (B A : Nat) : Nat := (A + 20480 - B) % 16384
theorem or_4096 (x : BitVec 64) (h : x.toNat < 4096) : (x ||| 4096#64).toNat = x.toNat + 4096 := by
  have := Nat.two_pow_add_eq_or_of_lt (i := 12) (b := x.toNat) (by omega) 1
  rw [show 2 ^ 12 * 1 = 4096 from rfl] at this
  rw [BitVec.toNat_or, Nat.or_comm]
  show 4096 ||| x.toNat = _
  omega
theorem decN_N (b t e : BitVec 64) (hB : b.toNat < 16384) (hT : t.toNat < 4096) : (decN b t e).toNat = lenN b.toNat t.toNat e.toNat := by
  have h1 : ((t - b) &&& 4095#64).toNat = (t.toNat + 16384 - b.toNat) % 4096 := by
    rw [show (4095#64) = maskF (12 : Nat) from rfl, low_toNat _ 12 (by omega), BitVec.toNat_sub]
    omega
  unfold decN lenN
  by_cases c : 0 < e.toNat
  · rw [if_pos c, if_pos c, or_4096 _ (by rw [h1]; omega), h1]
  · rw [if_neg c, if_neg c, h1]; omega
theorem decD_N (b e a : BitVec 64) (hB : b.toNat < 16384) : (decD b e a).toNat = farN b.toNat (decA e a).toNat := by
  unfold decD farN
  have h2 := (decA e a).isLt
  rw [show (16383#64) = maskF (14 : Nat) from rfl, low_toNat _ 14 (by omega), BitVec.toNat_add, BitVec.toNat_sub]
  simp only [show (4096#64).toNat = 4096 from rfl]
  omega
theorem decBase_N (b e a : BitVec 64) (hB : b.toNat < 16384) (hA : (decA e a).toNat ≤ 281474976710656) (h : farN b.toNat (decA e a).toNat ≤ (decA e a).toNat + 4096) : (decBase b e a).toNat = (decA e a).toNat + 4096 - farN b.toNat (decA e a).toNat := by
  have h1 := decD_N b e a hB
  have h2 : farN b.toNat (decA e a).toNat < 16384 := Nat.mod_lt _ (by omega)
  unfold decBase
  rw [BitVec.toNat_sub, BitVec.toNat_add, h1]
  simp only [show (4096#64).toNat = 4096 from rfl]
  omega
theorem decA_le (e a : BitVec 64) (ha : a.toNat < 281474976710656) : (decA e a).toNat < 281474976710656 := by
  rw [decA_N]; exact Nat.lt_of_le_of_lt (Nat.div_le_self _ _) ha
theorem top_N (e : BitVec 64) : (281474976710656#64 >>> (e.toNat - 1)).toNat = 281474976710656 / 2 ^ (e.toNat - 1) := by
  rw [BitVec.toNat_ushiftRight, Nat.shiftRight_eq_div_pow]; rfl
/-- When fields tell a span, and which. -/
theorem decOk_iff (b t e a : BitVec 64) : decOk b t e a = true ↔ (b.toNat < 16384 ∧ t.toNat < 4096 ∧ e.toNat ≤ 37 ∧ a.toNat < 281474976710656) ∧
    farN b.toNat (a.toNat / 2 ^ (e.toNat - 1)) ≤ a.toNat / 2 ^ (e.toNat - 1) + 4096 ∧
    a.toNat / 2 ^ (e.toNat - 1) + 4096 - farN b.toNat (a.toNat / 2 ^ (e.toNat - 1)) + lenN b.toNat t.toNat e.toNat ≤ 281474976710656 / 2 ^ (e.toNat - 1) := by
  have hv : decV b t e a = true ↔ (b.toNat < 16384 ∧ t.toNat < 4096 ∧ e.toNat ≤ 37 ∧ a.toNat < 281474976710656) := by unfold decV; simp [and_assoc]
  unfold decOk
  rw [Bool.and_eq_true, Bool.and_eq_true, hv, and_assoc]
  apply and_congr_right
  intro ⟨h1, h2, h3, h4⟩
  have hA := decA_le e a h4
  have hD := decD_N b e a h1
  have hl : lenN b.toNat t.toNat e.toNat < 8192 := by unfold lenN; split <;> omega
  have e1 : (decA e a + 4096#64).toNat = (decA e a).toNat + 4096 := by
    rw [BitVec.toNat_add]; simp only [show (4096#64).toNat = 4096 from rfl]; omega
  rw [e1, hD, top_N, ← decA_N e a]
  by_cases c : farN b.toNat (decA e a).toNat ≤ (decA e a).toNat + 4096
  · have hb := decBase_N b e a h1 (by omega) c
    have e2 : (decBase b e a + decN b t e).toNat = (decA e a).toNat + 4096 - farN b.toNat (decA e a).toNat + lenN b.toNat t.toNat e.toNat := by
      rw [BitVec.toNat_add, hb, decN_N b t e h1 h2]; omega
    rw [e2]
    simp [c]
  · simp [c]
theorem dec_is (b t e a : BitVec 64) (h : decOk b t e a = true) :
    (decB b t e a).toNat = (a.toNat / 2 ^ (e.toNat - 1) + 4096 - farN b.toNat (a.toNat / 2 ^ (e.toNat - 1))) * 2 ^ (e.toNat - 1) ∧
    (decT b t e a).toNat = (a.toNat / 2 ^ (e.toNat - 1) + 4096 - farN b.toNat (a.toNat / 2 ^ (e.toNat - 1)) + lenN b.toNat t.toNat e.toNat) * 2 ^ (e.toNat - 1) ∧
    (decT b t e a).toNat ≤ 281474976710656 := by
  obtain ⟨⟨h1, h2, h3, h4⟩, h5, h6⟩ := (decOk_iff b t e a).1 h
  have hA := decA_le e a h4
  have hl : lenN b.toNat t.toNat e.toNat < 8192 := by unfold lenN; split <;> omega
  rw [← decA_N e a] at h5 h6 ⊢
  have hb := decBase_N b e a h1 (by omega) h5
  have e2 : (decBase b e a + decN b t e).toNat = (decA e a).toNat + 4096 - farN b.toNat (decA e a).toNat + lenN b.toNat t.toNat e.toNat := by
    rw [BitVec.toNat_add, hb, decN_N b t e h1 h2]; omega
  have hp := pow_pos' (e.toNat - 1)
  have h7 := Nat.mul_le_mul_right (2 ^ (e.toNat - 1)) h6
  have h8 := Nat.div_mul_le_self 281474976710656 (2 ^ (e.toNat - 1))
  have h9 : ((decA e a).toNat + 4096 - farN b.toNat (decA e a).toNat) * 2 ^ (e.toNat - 1) ≤ ((decA e a).toNat + 4096 - farN b.toNat (decA e a).toNat + lenN b.toNat t.toNat e.toNat) * 2 ^ (e.toNat - 1) := Nat.mul_le_mul_right _ (by omega)
  unfold decB decT
  rw [if_pos h, if_pos h, BitVec.toNat_shiftLeft, BitVec.toNat_shiftLeft, e2, hb, Nat.shiftLeft_eq, Nat.shiftLeft_eq, Nat.mod_eq_of_lt (by omega), Nat.mod_eq_of_lt (by omega)]
  exact ⟨rfl, rfl, by omega⟩
/-- What is kept is told again beside each address from half a window below its base on, up to three times that above it. -/
theorem near_is {b t : BitVec 64} (h : mayS b t = true) (a : BitVec 64) (ha : a.toNat < 281474976710656) (h1 : kbN b.toNat t.toNat ≤ a.toNat + 4096 * 2 ^ kX b t) (h2 : a.toNat < kbN b.toNat t.toNat + 12288 * 2 ^ kX b t) :
    decOk (fB b t) (fT b t) (kE b t) a = true ∧ decB (fB b t) (fT b t) (kE b t) a = kB b t ∧ decT (fB b t) (fT b t) (kE b t) a = kT b t := by
  obtain ⟨hm1, hm2⟩ := mayS_true h
  have hB := fB_nat h
  have hT := fT_nat h
  have hE := kE_nat h
  have hx : (kE b t).toNat - 1 = kX b t := by rw [hE, e_exp]; rfl
  have hst := exp_lt hm1
  have h36 := kX_le h
  have hk48 := kt_48 hm1 hm2
  have hlh := lo_le_hi hm1 (kX b t)
  have hp := pow_pos' (kX b t)
  have hA1 := Nat.div_mul_le_self a.toNat (2 ^ kX b t)
  have hA2 := Nat.lt_mul_div_succ a.toNat hp
  have hbn : kbN b.toNat t.toNat = loN b.toNat (kX b t) * 2 ^ kX b t := rfl
  have htn : ktN b.toNat t.toNat = hiN t.toNat (kX b t) * 2 ^ kX b t := rfl
  have hsn : stN b.toNat t.toNat (expN b.toNat t.toNat) = hiN t.toNat (kX b t) - loN b.toNat (kX b t) := rfl
  have hH : hiN t.toNat (kX b t) ≤ 281474976710656 / 2 ^ kX b t := (Nat.le_div_iff_mul_le hp).2 (by rw [← htn]; exact hk48)
  have hlen : lenN (loN b.toNat (kX b t) % 16384) (hiN t.toNat (kX b t) % 4096) (eN b.toNat t.toNat) = hiN t.toNat (kX b t) - loN b.toNat (kX b t) := by
    unfold lenN eN
    by_cases c : t.toNat - b.toNat < 4096
    · rw [if_pos c, if_neg (by omega)]
      have := exp_small c
      have e0 : stN b.toNat t.toNat (expN b.toNat t.toNat) = t.toNat - b.toNat := by rw [this, st_0]
      rw [hsn] at e0
      omega
    · rw [if_neg c, if_pos (by omega)]
      have := (exp_spec hm1 (by omega)).1
      rw [hsn] at this hst
      omega
  have hL1 : loN b.toNat (kX b t) ≤ a.toNat / 2 ^ kX b t + 4096 := by
    rw [hbn] at h1
    have e1 : loN b.toNat (kX b t) * 2 ^ kX b t < (a.toNat / 2 ^ kX b t + 4097) * 2 ^ kX b t := by
      rw [Nat.add_mul]
      rw [Nat.mul_add, Nat.mul_one, Nat.mul_comm] at hA2
      omega
    have := Nat.lt_of_mul_lt_mul_right e1
    omega
  have hL2 : a.toNat / 2 ^ kX b t < loN b.toNat (kX b t) + 12288 := by
    rw [hbn] at h2
    have e1 : a.toNat / 2 ^ kX b t * 2 ^ kX b t < (loN b.toNat (kX b t) + 12288) * 2 ^ kX b t := by rw [Nat.add_mul]; omega
    exact Nat.lt_of_mul_lt_mul_right e1
  have hfar : farN (loN b.toNat (kX b t) % 16384) (a.toNat / 2 ^ kX b t) = a.toNat / 2 ^ kX b t + 4096 - loN b.toNat (kX b t) := by
    unfold farN; omega
  have hok : decOk (fB b t) (fT b t) (kE b t) a = true := by
    rw [decOk_iff, hx, hB, hT, hE, hlen, hfar]
    have := eN_le hm1 hm2
    refine ⟨⟨by omega, by omega, this, ha⟩, by omega, by omega⟩
  obtain ⟨g1, g2, _⟩ := dec_is _ _ _ _ hok
  rw [hx, hB, hfar] at g1
  rw [hx, hB, hT, hE, hfar, hlen] at g2
  refine ⟨hok, BitVec.eq_of_toNat_eq ?_, BitVec.eq_of_toNat_eq ?_⟩
  · rw [g1, kB_nat h, hbn]; congr 1; omega
  · rw [g2, kT_nat h, htn]; congr 1; omega
/-- Fields that tell a span are those that are kept of it. -/
theorem enc_dec {b t e a : BitVec 64} (h : decOk b t e a = true) :
    mayS (decB b t e a) (decT b t e a) = true ∧ kB (decB b t e a) (decT b t e a) = decB b t e a ∧ kT (decB b t e a) (decT b t e a) = decT b t e a ∧
    fB (decB b t e a) (decT b t e a) = b ∧ fT (decB b t e a) (decT b t e a) = t ∧ kE (decB b t e a) (decT b t e a) = e := by
  obtain ⟨⟨h1, h2, h3, h4⟩, h5, h6⟩ := (decOk_iff b t e a).1 h
  obtain ⟨g1, g2, g3⟩ := dec_is b t e a h
  generalize hX : e.toNat - 1 = x at *
  generalize a.toNat / 2 ^ x = A at *
  generalize hbase : A + 4096 - farN b.toNat A = base at *
  generalize hlen : lenN b.toNat t.toNat e.toNat = n at *
  generalize decB b t e a = sb at *
  generalize decT b t e a = st at *
  have hp := pow_pos' x
  have hle : sb.toNat ≤ st.toNat := by rw [g1, g2]; exact Nat.mul_le_mul_right _ (by omega)
  have hm : mayS sb st = true := by unfold mayS; simp; omega
  have hsub : st.toNat - sb.toNat = n * 2 ^ x := by rw [g1, g2, ← Nat.sub_mul]; congr 1; omega
  have hstx : stN sb.toNat st.toNat x = n := by unfold stN; rw [g1, g2, lo_of_mul, hi_of_mul]; omega
  have hexp : expN sb.toNat st.toNat = x ∧ eN sb.toNat st.toNat = e.toNat := by
    by_cases c : e.toNat = 0
    · have hn : n < 4096 := by rw [← hlen]; unfold lenN; rw [if_neg (by omega)]; omega
      have x0 : x = 0 := by omega
      subst x0
      have : st.toNat - sb.toNat < 4096 := by rw [hsub]; omega
      exact ⟨exp_small this, by unfold eN; rw [if_pos this]; omega⟩
    · have hn : 4096 ≤ n ∧ n < 8192 := by rw [← hlen]; unfold lenN; rw [if_pos (by omega)]; omega
      have hbig : 4096 ≤ st.toNat - sb.toNat := by
        rw [hsub]
        have := Nat.mul_le_mul_left n hp
        omega
      have hx := exp_eq hle hbig x (by omega) (fun y hy => by
        have q1 := st_ge hle y
        rw [hsub] at q1
        have e1 : 2 ^ x = 2 * 2 ^ y * 2 ^ (x - (y + 1)) := by rw [← Nat.pow_succ', ← Nat.pow_add]; congr 1; omega
        have q2 : 8192 * 2 ^ y ≤ n * 2 ^ x := by
          have q3 : 2 * 2 ^ y * 1 ≤ 2 * 2 ^ y * 2 ^ (x - (y + 1)) := Nat.mul_le_mul_left _ (pow_pos' _)
          have q4 : 4096 * 2 ^ x ≤ n * 2 ^ x := Nat.mul_le_mul_right _ hn.1
          omega
        exact Nat.le_of_mul_le_mul_right (Nat.le_trans q2 q1) (pow_pos' y))
      exact ⟨hx, by unfold eN; rw [if_neg (by omega), hx]; omega⟩
  have hkX : kX sb st = x := hexp.1
  refine ⟨hm, BitVec.eq_of_toNat_eq ?_, BitVec.eq_of_toNat_eq ?_, BitVec.eq_of_toNat_eq ?_, BitVec.eq_of_toNat_eq ?_, BitVec.eq_of_toNat_eq ?_⟩
  · rw [kB_nat hm]; unfold kbN; rw [hexp.1, g1, lo_of_mul]
  · rw [kT_nat hm]; unfold ktN; rw [hexp.1, g2, hi_of_mul]
  · rw [fB_nat hm, hkX, g1, lo_of_mul, ← hbase]
    unfold farN at *
    omega
  · rw [fT_nat hm, hkX, g2, hi_of_mul, ← hbase, ← hlen]
    unfold farN lenN at *
    split <;> omega
  · rw [kE_nat hm, hexp.2]
end Go.Proofs.Ytpjcijmdoofcbaa
