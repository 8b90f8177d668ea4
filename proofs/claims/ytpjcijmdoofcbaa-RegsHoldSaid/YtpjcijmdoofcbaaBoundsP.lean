
/-
  Spans that are kept, as words: plain facts; no program.
-/
import Derived.Test.YtpjcijmdoofcbaaLog
import Derived.Test.YtpjcijmdoofcbaaBoundsN
namespace Go.Proofs.Ytpjcijmdoofcbaa
open Go Go.RowKit
set_option linter.unusedVariables false
set_option linter.unusedSimpArgs false

theorem rem_mask (a : BitVec 64) (k : Nat) (n : BitVec 64) (hk : k < 64) (h : n.toNat = 2 ^ k) : a % n = a &&& maskF k := by
  apply BitVec.eq_of_toNat_eq
  rw [BitVec.toNat_umod, BitVec.toNat_and, h, mask_toNat _ (by omega)]
  rw [show (k : Int).toNat = k by omega, Nat.and_two_pow_sub_one_eq_mod]
theorem down_N (b : BitVec 64) (x : Nat) (hx : x ≤ 48) : (downF b x).toNat = loN b.toNat x * 2 ^ x := up_lsb b x (by omega)
theorem up_N (t : BitVec 64) (x : Nat) (hx : x ≤ 48) (ht : t.toNat ≤ 281474976710656) : (upF t x).toNat = hiN t.toNat x * 2 ^ x ∧ upOk t x = true := by
  have hq := pow_pos' x
  have hp : 2 ^ x ≤ 2 ^ 48 := Nat.pow_le_pow_right (by omega) hx
  unfold upF upOk
  rw [zero_iff t x (by omega)]
  by_cases h : t.toNat % 2 ^ x = 0
  · rw [decide_eq_true h, if_pos rfl]
    refine ⟨?_, by simp⟩
    obtain ⟨k, hk⟩ : ∃ k, t.toNat = k * 2 ^ x := ⟨t.toNat / 2 ^ x, by have := Nat.div_add_mod t.toNat (2 ^ x); rw [h, Nat.mul_comm] at this; omega⟩
    rw [hk, hi_of_mul]
  · rw [decide_eq_false h, if_neg (by simp)]
    obtain ⟨h1, h2⟩ := up_more t x (by omega) h
    have ho : overF t (maskF x) = false := by
      rw [h1]
      apply decide_eq_false
      have := Nat.div_mul_le_self t.toNat (2 ^ x)
      omega
    rw [ho, if_neg (by simp)]
    refine ⟨?_, by simp⟩
    rw [h2 ho]
    have e : hiN t.toNat x = t.toNat / 2 ^ x + 1 := by
      unfold hiN
      have hx' := Nat.div_add_mod t.toNat (2 ^ x)
      have hl := Nat.mod_lt t.toNat hq
      rw [Nat.mul_comm] at hx'
      have e0 : (t.toNat / 2 ^ x + 1) * 2 ^ x = t.toNat / 2 ^ x * 2 ^ x + 2 ^ x := by rw [Nat.add_mul, Nat.one_mul]
      have e2 : t.toNat + (2 ^ x - 1) = 2 ^ x * (t.toNat / 2 ^ x + 1) + (t.toNat % 2 ^ x - 1) := by rw [Nat.mul_comm (2 ^ x) (t.toNat / 2 ^ x + 1), e0]; omega
      rw [e2, Nat.mul_add_div hq, Nat.div_eq_of_lt (show t.toNat % 2 ^ x - 1 < 2 ^ x by omega), Nat.add_zero]
    rw [e, Nat.add_mul, Nat.one_mul]
theorem steps_N (b t : BitVec 64) (x : Nat) (hx : x ≤ 48) (h : b.toNat ≤ t.toNat) (ht : t.toNat ≤ 281474976710656) : ((upF t x - downF b x) >>> x).toNat = stN b.toNat t.toNat x := by
  have h1 := (up_N t x hx ht).1
  have h2 := down_N b x hx
  have h3 := Nat.mul_le_mul_right (2 ^ x) (lo_le_hi h x)
  have h4 := (upF t x).isLt
  rw [BitVec.toNat_ushiftRight, Nat.shiftRight_eq_div_pow, BitVec.toNat_sub_of_le (by rw [BitVec.le_def]; omega), h1, h2, ← Nat.sub_mul]
  exact Nat.mul_div_cancel _ (pow_pos' x)
theorem log_N (x : BitVec 64) (h : x.toNat ≠ 0) : logF x = (Nat.log2 x.toNat : Int) := by
  have h1 := x.isLt
  have h2 : Nat.log2 x.toNat < 64 := (Nat.log2_lt h).2 h1
  refine logF_of x _ h2 ?_ ?_
  · exact Nat.testBit_log2 h
  · intro i hi
    refine Nat.testBit_lt_two_pow ((Nat.log2_lt h).1 hi)

def mayS (b t : BitVec 64) : Bool := decide (b.toNat ≤ t.toNat) && decide (t.toNat ≤ 281474976710656)
theorem mayS_true {b t : BitVec 64} (h : mayS b t = true) : b.toNat ≤ t.toNat ∧ t.toNat ≤ 281474976710656 := by
  unfold mayS at h; simpa using h
def kX (b t : BitVec 64) : Nat := expN b.toNat t.toNat
def kB (b t : BitVec 64) : BitVec 64 := BitVec.ofNat 64 (kbN b.toNat t.toNat)
def kT (b t : BitVec 64) : BitVec 64 := BitVec.ofNat 64 (ktN b.toNat t.toNat)
def kE (b t : BitVec 64) : BitVec 64 := BitVec.ofNat 64 (eN b.toNat t.toNat)
theorem kX_le {b t : BitVec 64} (h : mayS b t = true) : kX b t ≤ 36 := exp_36 (mayS_true h).1 (mayS_true h).2
theorem kB_nat {b t : BitVec 64} (h : mayS b t = true) : (kB b t).toNat = kbN b.toNat t.toNat := by
  have h1 := kb_le b.toNat t.toNat
  have h2 := b.isLt
  unfold kB; rw [BitVec.toNat_ofNat, Nat.mod_eq_of_lt (by omega)]
theorem kT_nat {b t : BitVec 64} (h : mayS b t = true) : (kT b t).toNat = ktN b.toNat t.toNat := by
  have h1 := kt_48 (mayS_true h).1 (mayS_true h).2
  unfold kT; rw [BitVec.toNat_ofNat, Nat.mod_eq_of_lt (by omega)]
theorem eN_le {b t : Nat} (h : b ≤ t) (ht : t ≤ 281474976710656) : eN b t ≤ 37 := by
  have := exp_36 h ht
  unfold eN; split <;> omega
theorem kE_nat {b t : BitVec 64} (h : mayS b t = true) : (kE b t).toNat = eN b.toNat t.toNat := by
  have h1 := eN_le (mayS_true h).1 (mayS_true h).2
  unfold kE; rw [BitVec.toNat_ofNat, Nat.mod_eq_of_lt (by omega)]
theorem kept_is {b t : BitVec 64} (h : mayS b t = true) (x : Nat) (hx : kX b t = x) : downF b x = kB b t ∧ upF t x = kT b t := by
  have h36 := kX_le h
  have hx' : expN b.toNat t.toNat = x := hx
  constructor
  · apply BitVec.eq_of_toNat_eq
    rw [down_N b x (by omega), kB_nat h]; unfold kbN; rw [hx']
  · apply BitVec.eq_of_toNat_eq
    rw [(up_N t x (by omega) (mayS_true h).2).1, kT_nat h]; unfold ktN; rw [hx']
/-- What is kept of a span: its fields. -/
def fB (b t : BitVec 64) : BitVec 64 := (kB b t >>> kX b t) &&& 16383#64
def fT (b t : BitVec 64) : BitVec 64 := (kT b t >>> kX b t) &&& 4095#64
theorem fB_nat {b t : BitVec 64} (h : mayS b t = true) : (fB b t).toNat = loN b.toNat (kX b t) % 16384 := by
  unfold fB
  rw [show (16383#64) = maskF (14 : Nat) from rfl, low_toNat _ 14 (by omega), BitVec.toNat_ushiftRight, Nat.shiftRight_eq_div_pow, kB_nat h]
  unfold kbN
  rw [show expN b.toNat t.toNat = kX b t from rfl, Nat.mul_div_cancel _ (pow_pos' _)]
theorem fT_nat {b t : BitVec 64} (h : mayS b t = true) : (fT b t).toNat = hiN t.toNat (kX b t) % 4096 := by
  unfold fT
  rw [show (4095#64) = maskF (12 : Nat) from rfl, low_toNat _ 12 (by omega), BitVec.toNat_ushiftRight, Nat.shiftRight_eq_div_pow, kT_nat h]
  unfold ktN
  rw [show expN b.toNat t.toNat = kX b t from rfl, Nat.mul_div_cancel _ (pow_pos' _)]
def encB (b t : BitVec 64) : BitVec 64 := if mayS b t = true then fB b t else 0#64
def encT (b t : BitVec 64) : BitVec 64 := if mayS b t = true then fT b t else 0#64
def encE (b t : BitVec 64) : BitVec 64 := if mayS b t = true then kE b t else 0#64
def encX (b t : BitVec 64) : Bool := mayS b t && (kB b t == b && kT b t == t)
def rndB (b t : BitVec 64) : BitVec 64 := if mayS b t = true then kB b t else 0#64
def rndT (b t : BitVec 64) : BitVec 64 := if mayS b t = true then kT b t else 0#64

/-! ### Fields, beside an address -/
def decV (b t e a : BitVec 64) : Bool := decide (b.toNat < 16384) && decide (t.toNat < 4096) && decide (e.toNat ≤ 37) && decide (a.toNat < 281474976710656)
def decN (b t e : BitVec 64) : BitVec 64 := if 0 < e.toNat then ((t - b) &&& 4095#64) ||| 4096#64 else (t - b) &&& 4095#64
def decA (e a : BitVec 64) : BitVec 64 := a >>> (e.toNat - 1)
def decD (b e a : BitVec 64) : BitVec 64 := (decA e a - b + 4096#64) &&& 16383#64
def decBase (b e a : BitVec 64) : BitVec 64 := decA e a + 4096#64 - decD b e a
def decOk (b t e a : BitVec 64) : Bool := decV b t e a && !decide ((decA e a + 4096#64).toNat < (decD b e a).toNat) && !decide ((281474976710656#64 >>> (e.toNat - 1)).toNat < (decBase b e a + decN b t e).toNat)
def decB (b t e a : BitVec 64) : BitVec 64 := if decOk b t e a = true then decBase b e a <<< (e.toNat - 1) else 0#64
def decT (b t e a : BitVec 64) : BitVec 64 := if decOk b t e a = true then (decBase b e a + decN b t e) <<< (e.toNat - 1) else 0#64
end Go.Proofs.Ytpjcijmdoofcbaa
