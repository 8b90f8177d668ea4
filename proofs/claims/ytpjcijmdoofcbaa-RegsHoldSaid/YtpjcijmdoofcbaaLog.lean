
/-
  scale.Log, by the shelf's contract for math/bits.Len64; multiples of powers of two, as numbers: plain facts.
-/
import Derived.Lib.BitFns
import Derived.Test.YtpjcijmdoofcbaaOnes
namespace Go.Proofs.Ytpjcijmdoofcbaa
open Go Go.RowKit
set_option linter.unusedVariables false

/-- The place of the highest bit that is 1; -1: there is none. -/
def logF (x : BitVec 64) : Int := (Lib.bitLen x.toNat : Int) - 1
theorem bitLen_64 (x : BitVec 64) : Lib.bitLen x.toNat ≤ 64 := Lib.bitLen_le x.toNat 64 (by omega) x.isLt
theorem logF_of (x : BitVec 64) (k : Nat) (hk : k < 64) (hb : x.getLsbD k = true) (hl : ∀ i, k < i → x.getLsbD i = false) : logF x = k := by
  have h1 : 2 ^ k ≤ x.toNat := Nat.ge_two_pow_of_testBit hb
  have h2 : x.toNat < 2 ^ (k + 1) := Nat.lt_pow_two_of_testBit _ fun i hi => hl i (by omega)
  have h3 : x.toNat / 2 ^ k = 1 := by
    have := Nat.two_pow_pos k
    rw [Nat.pow_succ] at h2
    exact Nat.div_eq_of_lt_le (by omega) (by omega)
  have h4 := Lib.bitLen_shift k x.toNat h1 x.isLt
  unfold logF
  rw [h4, h3, show Lib.bitLen 1 = 1 from rfl]
  omega
theorem logF_none (x : BitVec 64) (hl : ∀ i, x.getLsbD i = false) : logF x = -1 := by
  have : x = 0#64 := ext64 fun j _ => by rw [hl j]; simp
  rw [this]; rfl

theorem up_lsb (x : BitVec 64) (n : Nat) (hn : n ≤ 64) : (downF x n).toNat = x.toNat / 2 ^ n * 2 ^ n := by
  unfold downF
  apply Nat.eq_of_testBit_eq
  intro j
  show (x &&& ~~~ maskF n).getLsbD j = _
  rw [BitVec.getLsbD_and, BitVec.getLsbD_not, mask_lsb n (by omega), Nat.mul_comm, Nat.testBit_two_pow_mul, Nat.testBit_div_two_pow]
  rw [show (n : Int).toNat = n by omega]
  by_cases hj : j < 64
  · by_cases c : j < n
    · rw [decide_eq_true c, decide_eq_false (show ¬ j ≥ n by omega)]; simp
    · rw [decide_eq_false c, decide_eq_true hj, decide_eq_true (show j ≥ n by omega), show j - n + n = j by omega]
      simp [BitVec.getLsbD]
  · rw [lsb_ge x j (by omega)]
    have : x.toNat.testBit (j - n + n) = false := Nat.testBit_lt_two_pow (Nat.lt_of_lt_of_le x.isLt (Nat.pow_le_pow_right (by omega) (by omega)))
    rw [this]; simp
theorem low_toNat (x : BitVec 64) (n : Nat) (hn : n ≤ 64) : (x &&& maskF n).toNat = x.toNat % 2 ^ n := by
  rw [BitVec.toNat_and, mask_toNat _ (by omega), show (n : Int).toNat = n by omega, Nat.and_two_pow_sub_one_eq_mod]
theorem or_split (x : BitVec 64) (n : Nat) (hn : n ≤ 64) : x.toNat = (downF x n).toNat + (x &&& maskF n).toNat := by
  rw [up_lsb x n hn, low_toNat x n hn]
  have := Nat.div_add_mod x.toNat (2 ^ n)
  rw [Nat.mul_comm] at this
  omega
theorem zero_iff (x : BitVec 64) (n : Nat) (hn : n ≤ 64) : (x &&& maskF n == 0#64) = decide (x.toNat % 2 ^ n = 0) := by
  rw [Bool.eq_iff_iff, beq_iff_eq, decide_eq_true_eq, ← low_toNat x n hn]
  exact ⟨fun h => by rw [h]; rfl, fun h => BitVec.eq_of_toNat_eq (by rw [h]; rfl)⟩
/-- The next multiple of 2^n, as numbers say it. -/
theorem up_more (x : BitVec 64) (n : Nat) (hn : n ≤ 63) (h : x.toNat % 2 ^ n ≠ 0) :
    overF x (maskF n) = decide (18446744073709551616 ≤ x.toNat / 2 ^ n * 2 ^ n + 2 ^ n) ∧
    (overF x (maskF n) = false → ((x + maskF n) &&& ~~~ maskF n).toNat = x.toNat / 2 ^ n * 2 ^ n + 2 ^ n) := by
  have hq : 0 < 2 ^ n := Nat.two_pow_pos n
  have hm : (maskF n).toNat = 2 ^ n - 1 := by rw [mask_toNat _ (by omega), show (n : Int).toNat = n by omega]
  have hx := Nat.div_add_mod x.toNat (2 ^ n)
  have hlt := Nat.mod_lt x.toNat hq
  rw [Nat.mul_comm] at hx
  have h64 : 18446744073709551616 = 2 ^ (64 - n) * 2 ^ n := by rw [← Nat.pow_add, show 64 - n + n = 64 by omega]
  have hdiv : (x.toNat + (2 ^ n - 1)) / 2 ^ n = x.toNat / 2 ^ n + 1 := by
    have e0 : (x.toNat / 2 ^ n + 1) * 2 ^ n = x.toNat / 2 ^ n * 2 ^ n + 2 ^ n := by rw [Nat.add_mul, Nat.one_mul]
    have e : x.toNat + (2 ^ n - 1) = 2 ^ n * (x.toNat / 2 ^ n + 1) + (x.toNat % 2 ^ n - 1) := by rw [Nat.mul_comm (2 ^ n) (x.toNat / 2 ^ n + 1), e0]; omega
    rw [e, Nat.mul_add_div hq, Nat.div_eq_of_lt (show x.toNat % 2 ^ n - 1 < 2 ^ n by omega), Nat.add_zero]
  constructor
  · unfold overF
    rw [hm]
    apply decide_eq_decide.2
    rw [show x.toNat / 2 ^ n * 2 ^ n + 2 ^ n = (x.toNat / 2 ^ n + 1) * 2 ^ n by rw [Nat.add_mul, Nat.one_mul], ← hdiv]
    rw [h64]
    constructor
    · intro hle
      exact Nat.mul_le_mul_right _ ((Nat.le_div_iff_mul_le hq).2 hle)
    · intro hle
      have := Nat.div_mul_le_self (x.toNat + (2 ^ n - 1)) (2 ^ n)
      omega
  · intro ho
    have hl : ¬ 18446744073709551616 ≤ x.toNat + (2 ^ n - 1) := by
      have := ho; unfold overF at this; rw [hm] at this; simpa using this
    have e : (x + maskF n).toNat = x.toNat + (2 ^ n - 1) := by rw [BitVec.toNat_add, hm]; omega
    have := up_lsb (x + maskF n) n (by omega)
    unfold downF at this
    rw [this, e, hdiv, Nat.add_mul, Nat.one_mul]
end Go.Proofs.Ytpjcijmdoofcbaa
