
/-
  Fields of words, bit by bit: plain facts on words of 64 bits; no program is walked here.
-/
import Derived.Test.YtpjcijmdoofcbaaBv
namespace Go.Proofs.Ytpjcijmdoofcbaa
open Go Go.RowKit
set_option linter.unusedVariables false
set_option linter.unusedSimpArgs false

def maskF (n : Int) : BitVec 64 := if n < 1 then 0#64 else if 64 ≤ n then 18446744073709551615#64 else (1#64 <<< n.toNat) - 1#64
def mayF (a n : Int) : Bool := decide (0 ≤ n) && decide (n ≤ 64) && decide (0 ≤ a) && decide (a ≤ 64 - n)
def getF (x : BitVec 64) (a n : Int) : BitVec 64 := if mayF a n = true then (x >>> a.toNat) &&& maskF n else 0#64
def putF (x : BitVec 64) (a n : Int) (v : BitVec 64) : BitVec 64 := if mayF a n = true then (x &&& ~~~ (maskF n <<< a.toNat)) ||| ((v &&& maskF n) <<< a.toNat) else x
def sgnF (x : BitVec 64) (n : Int) : BitVec 64 := if 1 ≤ n ∧ n ≤ 64 then (x <<< (64 - n).toNat).sshiftRight (64 - n).toNat else 0#64
def fitsF (x : BitVec 64) (n : Int) (s : Bool) : Bool := if n < 1 ∨ 64 < n then false else if s = true then sgnF x n == x else decide (0 ≤ S x) && (x &&& ~~~ maskF n == 0#64)
theorem mayF_true {a n : Int} (h : mayF a n = true) : 0 ≤ n ∧ n ≤ 64 ∧ 0 ≤ a ∧ a ≤ 64 - n := by
  unfold mayF at h; simpa [and_assoc] using h

theorem ext64 {x y : BitVec 64} (h : ∀ j, j < 64 → x.getLsbD j = y.getLsbD j) : x = y := BitVec.eq_of_getLsbD_eq h
theorem lsb_ge (x : BitVec 64) (j : Nat) (h : 64 ≤ j) : x.getLsbD j = false := BitVec.getLsbD_of_ge x j h

theorem mask_toNat (n : Int) (h : n ≤ 64) : (maskF n).toNat = 2 ^ n.toNat - 1 := by
  unfold maskF
  by_cases h1 : n < 1
  · rw [if_pos h1]
    have : n.toNat = 0 := by omega
    rw [this]; rfl
  · rw [if_neg h1]
    by_cases h2 : 64 ≤ n
    · rw [if_pos h2]
      have : n.toNat = 64 := by omega
      rw [this]; rfl
    · rw [if_neg h2]
      have hp : 2 ^ n.toNat < 2 ^ 64 := Nat.pow_lt_pow_right (by omega) (by omega)
      have hq : 0 < 2 ^ n.toNat := Nat.two_pow_pos _
      rw [BitVec.toNat_sub, BitVec.toNat_shiftLeft]
      simp only [BitVec.toNat_ofNat, Nat.shiftLeft_eq]
      rw [Nat.mod_eq_of_lt (show 1 < 2 ^ 64 by omega), Nat.one_mul, Nat.mod_eq_of_lt hp]
      omega
theorem mask_lsb (n : Int) (h : n ≤ 64) (j : Nat) : (maskF n).getLsbD j = decide (j < n.toNat) := by
  unfold BitVec.getLsbD
  rw [mask_toNat n h, Nat.testBit_two_pow_sub_one]
theorem mask_lsb_ge (n : Int) (h : 64 ≤ n) (j : Nat) : (maskF n).getLsbD j = decide (j < 64) := by
  have e : maskF n = maskF 64 := by unfold maskF; rw [if_neg (by omega), if_pos h]; rfl
  rw [e, mask_lsb 64 (by omega)]; rfl

theorem mayF_iff (a n : Int) : mayF a n = true ↔ 0 ≤ n ∧ n ≤ 64 ∧ 0 ≤ a ∧ a ≤ 64 - n := by
  unfold mayF; simp [and_assoc]

theorem get_lsb (x : BitVec 64) (a n : Int) (h : mayF a n = true) (j : Nat) : (getF x a n).getLsbD j = (decide (j < n.toNat) && x.getLsbD (a.toNat + j)) := by
  have h' := (mayF_iff a n).1 h
  unfold getF
  rw [if_pos h, BitVec.getLsbD_and, BitVec.getLsbD_ushiftRight, mask_lsb n h'.2.1, Bool.and_comm]
theorem put_lsb (x v : BitVec 64) (a n : Int) (h : mayF a n = true) (j : Nat) (hj : j < 64) :
    (putF x a n v).getLsbD j = if a.toNat ≤ j ∧ j < a.toNat + n.toNat then v.getLsbD (j - a.toNat) else x.getLsbD j := by
  have h' := (mayF_iff a n).1 h
  unfold putF
  rw [if_pos h, BitVec.getLsbD_or, BitVec.getLsbD_and, BitVec.getLsbD_not, BitVec.getLsbD_shiftLeft, BitVec.getLsbD_shiftLeft, BitVec.getLsbD_and, mask_lsb n h'.2.1]
  by_cases c4 : j < a.toNat
  · rw [if_neg (by omega), decide_eq_true c4]
    simp [hj]
  · rw [decide_eq_false c4]
    by_cases c2 : j - a.toNat < n.toNat
    · rw [if_pos (by omega), decide_eq_true c2]
      simp [hj]
    · rw [if_neg (by omega), decide_eq_false c2]
      simp [hj]

theorem get_not (x : BitVec 64) (a n : Int) (h : mayF a n = false) : getF x a n = 0#64 := by unfold getF; rw [h]; rfl
theorem put_not (x v : BitVec 64) (a n : Int) (h : mayF a n = false) : putF x a n v = x := by unfold putF; rw [h]; rfl

theorem get_put (x v : BitVec 64) (a n : Int) (h : mayF a n = true) : getF (putF x a n v) a n = v &&& maskF n := by
  have h' := (mayF_iff a n).1 h
  apply ext64
  intro j hj
  rw [get_lsb _ _ _ h, BitVec.getLsbD_and, mask_lsb n h'.2.1]
  by_cases c : j < n.toNat
  · rw [put_lsb _ _ _ _ h _ (by omega), if_pos (by omega)]
    simp [c]
  · simp [c]
theorem put_put (x v : BitVec 64) (a n : Int) (h : mayF a n = true) : putF (putF x a n v) a n v = putF x a n v := by
  apply ext64
  intro j hj
  rw [put_lsb _ _ _ _ h _ hj, put_lsb _ _ _ _ h _ hj]
  split <;> rfl
theorem put_get (x v : BitVec 64) (a n : Int) (h : mayF a n = true) : putF (putF x a n v) a n (getF x a n) = x := by
  apply ext64
  intro j hj
  rw [put_lsb _ _ _ _ h _ hj, put_lsb _ _ _ _ h _ hj]
  split
  · rw [get_lsb _ _ _ h]
    have c : j - a.toNat < n.toNat := by omega
    have e : a.toNat + (j - a.toNat) = j := by omega
    simp [c, e]
  · rfl
theorem get_apart (x v : BitVec 64) (a n b m : Int) (h : mayF a n = true) (g : mayF b m = true) (hd : a + n ≤ b ∨ b + m ≤ a) : getF (putF x a n v) b m = getF x b m := by
  have h' := (mayF_iff a n).1 h
  have g' := (mayF_iff b m).1 g
  apply ext64
  intro j hj
  rw [get_lsb _ _ _ g, get_lsb _ _ _ g]
  by_cases c : j < m.toNat
  · rw [put_lsb _ _ _ _ h _ (by omega), if_neg (by omega)]
  · simp [c]
theorem put_parts (x v : BitVec 64) (a n k : Int) (h : mayF a n = true) (h0 : 0 ≤ k) (h1 : k ≤ n) : putF (putF x a k v) (a + k) (n - k) (v >>> k.toNat) = putF x a n v := by
  have h' := (mayF_iff a n).1 h
  have g1 : mayF a k = true := (mayF_iff _ _).2 (by omega)
  have g2 : mayF (a + k) (n - k) = true := (mayF_iff _ _).2 (by omega)
  apply ext64
  intro j hj
  rw [put_lsb _ _ _ _ g2 _ hj, put_lsb _ _ _ _ g1 _ hj, put_lsb _ _ _ _ h _ hj]
  by_cases c1 : a.toNat ≤ j ∧ j < a.toNat + k.toNat
  · rw [if_neg (by omega), if_pos c1, if_pos (by omega)]
  · rw [if_neg c1]
    by_cases c2 : (a + k).toNat ≤ j ∧ j < (a + k).toNat + (n - k).toNat
    · rw [if_pos c2, if_pos (by omega), BitVec.getLsbD_ushiftRight]
      congr 1
      omega
    · rw [if_neg c2, if_neg (by omega)]
theorem get_parts (x : BitVec 64) (a n k : Int) (h : mayF a n = true) (h0 : 0 ≤ k) (h1 : k ≤ n) : getF x a k ||| getF x (a + k) (n - k) <<< k.toNat = getF x a n := by
  have h' := (mayF_iff a n).1 h
  have g1 : mayF a k = true := (mayF_iff _ _).2 (by omega)
  have g2 : mayF (a + k) (n - k) = true := (mayF_iff _ _).2 (by omega)
  apply ext64
  intro j hj
  rw [BitVec.getLsbD_or, BitVec.getLsbD_shiftLeft, get_lsb _ _ _ g1, get_lsb _ _ _ g2, get_lsb _ _ _ h]
  by_cases c1 : j < k.toNat
  · rw [decide_eq_true c1, decide_eq_true (show j < n.toNat by omega)]
    simp
  · rw [decide_eq_false c1, decide_eq_true hj]
    rw [show decide (j - k.toNat < (n - k).toNat) = decide (j < n.toNat) from decide_eq_decide.2 (by omega), show (a + k).toNat + (j - k.toNat) = a.toNat + j by omega]
    simp
theorem sgn_lsb (x : BitVec 64) (n : Int) (h : 1 ≤ n ∧ n ≤ 64) (j : Nat) (hj : j < 64) : (sgnF x n).getLsbD j = x.getLsbD (if j < n.toNat then j else n.toNat - 1) := by
  unfold sgnF
  rw [if_pos h, BitVec.getLsbD_sshiftRight, BitVec.msb_eq_getLsbD_last, decide_eq_false (show ¬ 64 ≤ j by omega)]
  by_cases c : j < n.toNat
  · rw [if_pos (show (64 - n).toNat + j < 64 by omega), if_pos c, BitVec.getLsbD_shiftLeft, decide_eq_true (show (64 - n).toNat + j < 64 by omega), decide_eq_false (show ¬ (64 - n).toNat + j < (64 - n).toNat by omega), show (64 - n).toNat + j - (64 - n).toNat = j by omega]
    simp
  · rw [if_neg (show ¬ (64 - n).toNat + j < 64 by omega), if_neg c, BitVec.getLsbD_shiftLeft, decide_eq_true (show 64 - 1 < 64 by omega), decide_eq_false (show ¬ 64 - 1 < (64 - n).toNat by omega), show 64 - 1 - (64 - n).toNat = n.toNat - 1 by omega]
    simp
theorem S_neg_lsb (x : BitVec 64) : decide (S x < 0) = x.getLsbD 63 := by
  have h := BitVec.msb_eq_toInt (x := x)
  rw [BitVec.msb_eq_getLsbD_last] at h
  exact h.symm
theorem S_nonneg_lsb (x : BitVec 64) : decide (0 ≤ S x) = !x.getLsbD 63 := by
  rw [← S_neg_lsb, ← decide_not]
  exact decide_eq_decide.2 (by omega)
theorem ofInt_toNat (k : Int) (h : 0 ≤ k ∧ k ≤ 18446744073709551615) : (BitVec.ofInt 64 k).toNat = k.toNat := by
  rw [BitVec.toNat_ofInt]
  congr 1
  omega
theorem mask_succ (k : Nat) (h : k < 64) : maskF ((k : Int) + 1) = maskF k ||| 1#64 <<< k := by
  apply ext64
  intro j hj
  rw [BitVec.getLsbD_or, mask_lsb _ (by omega), mask_lsb _ (by omega), BitVec.getLsbD_shiftLeft, BitVec.getLsbD_one, decide_eq_true hj]
  rw [show ((k : Int) + 1).toNat = k + 1 by omega, show (k : Int).toNat = k by omega]
  by_cases c : j < k
  · rw [decide_eq_true c, decide_eq_true (show j < k + 1 by omega)]; simp
  · by_cases c2 : j = k
    · subst c2; simp
    · rw [decide_eq_false c, decide_eq_false (show ¬ j < k + 1 by omega)]
      simp; omega
theorem bit_lsb (x : BitVec 64) (p k j : Nat) (hk : k < 64) (hj : j < 64) : ((x >>> p &&& 1#64) <<< k).getLsbD j = (decide (j = k) && x.getLsbD p) := by
  rw [BitVec.getLsbD_shiftLeft, BitVec.getLsbD_and, BitVec.getLsbD_ushiftRight, BitVec.getLsbD_one, decide_eq_true hj]
  by_cases c : j = k
  · subst c; simp
  · rw [decide_eq_false c]
    by_cases c2 : j < k
    · simp [c2]
    · simp; omega
theorem low_succ (y b : BitVec 64) (k : Nat) (h : k < 64) (hb : ∀ j, j < 64 → (b <<< k).getLsbD j = (decide (j = k) && y.getLsbD k)) : y &&& maskF ((k : Int) + 1) = (y &&& maskF k) ||| b <<< k := by
  apply ext64
  intro j hj
  rw [BitVec.getLsbD_or, BitVec.getLsbD_and, BitVec.getLsbD_and, mask_lsb _ (by omega), mask_lsb _ (by omega), hb j hj]
  rw [show ((k : Int) + 1).toNat = k + 1 by omega, show (k : Int).toNat = k by omega]
  by_cases c : j < k
  · rw [decide_eq_true c, decide_eq_true (show j < k + 1 by omega), decide_eq_false (show ¬ j = k by omega)]; simp
  · by_cases c2 : j = k
    · subst c2; simp
    · rw [decide_eq_false c, decide_eq_false (show ¬ j < k + 1 by omega), decide_eq_false c2]; simp
theorem low_64 (y : BitVec 64) : y &&& maskF 64 = y := by
  apply ext64
  intro j hj
  rw [BitVec.getLsbD_and, mask_lsb 64 (by omega), decide_eq_true (show j < (64 : Int).toNat by omega), Bool.and_true]
theorem low_0 (y : BitVec 64) : y &&& maskF 0 = 0#64 := by
  have : maskF 0 = 0#64 := rfl
  rw [this]; simp
theorem get_succ (x : BitVec 64) (a : Int) (k : Nat) (h0 : 0 ≤ a) (h1 : a + k < 64) : getF x a ((k : Int) + 1) = getF x a k ||| (x >>> (a + k).toNat &&& 1#64) <<< k := by
  have g1 : mayF a ((k : Int) + 1) = true := (mayF_iff _ _).2 (by omega)
  have g2 : mayF a k = true := (mayF_iff _ _).2 (by omega)
  apply ext64
  intro j hj
  rw [BitVec.getLsbD_or, get_lsb _ _ _ g1, get_lsb _ _ _ g2, bit_lsb _ _ _ _ (by omega) hj]
  rw [show ((k : Int) + 1).toNat = k + 1 by omega, show (k : Int).toNat = k by omega]
  by_cases c : j < k
  · rw [decide_eq_true c, decide_eq_true (show j < k + 1 by omega), decide_eq_false (show ¬ j = k by omega)]; simp
  · by_cases c2 : j = k
    · subst c2
      rw [show (a + j).toNat = a.toNat + j by omega]
      simp
    · rw [decide_eq_false c, decide_eq_false (show ¬ j < k + 1 by omega), decide_eq_false c2]; simp

theorem put_bit (x v : BitVec 64) (a n : Int) (hm : mayF a n = true) (k : Nat) (h : k < 64) (hin : a ≤ k ∧ k - a < n) :
    putF x a n v &&& maskF ((k : Int) + 1) = (putF x a n v &&& maskF k) ||| (v >>> ((k : Int) - a).toNat &&& 1#64) <<< k := by
  have h' := (mayF_iff a n).1 hm
  refine low_succ _ _ k h fun j hj => ?_
  rw [bit_lsb _ _ _ _ h hj, put_lsb _ _ _ _ hm _ h, if_pos (by omega)]
  congr 2
  omega
theorem put_bit_not (x v : BitVec 64) (a n : Int) (hm : mayF a n = true) (k : Nat) (h : k < 64) (hin : ¬ (a ≤ k ∧ k - a < n)) :
    putF x a n v &&& maskF ((k : Int) + 1) = (putF x a n v &&& maskF k) ||| (x >>> (k : Int).toNat &&& 1#64) <<< k := by
  have h' := (mayF_iff a n).1 hm
  refine low_succ _ _ k h fun j hj => ?_
  rw [bit_lsb _ _ _ _ h hj, put_lsb _ _ _ _ hm _ h, if_neg (by omega)]
  rfl

theorem sgn_bit (x : BitVec 64) (n : Int) (hn : 1 ≤ n ∧ n ≤ 64) (k : Nat) (h : k < 64) (p : Int) (hp : p = if (k : Int) < n then (k : Int) else n - 1) :
    sgnF x n &&& maskF ((k : Int) + 1) = (sgnF x n &&& maskF k) ||| (x >>> p.toNat &&& 1#64) <<< k := by
  refine low_succ _ _ k h fun j hj => ?_
  rw [bit_lsb _ _ _ _ h hj, sgn_lsb _ _ hn _ h]
  congr 2
  rw [hp]
  split <;> split <;> omega
theorem get_is_mask (x : BitVec 64) (n : Int) (h : 1 ≤ n ∧ n ≤ 64) : getF x 0 n = x &&& maskF n := by
  have g : mayF 0 n = true := (mayF_iff _ _).2 (by omega)
  apply ext64
  intro j hj
  rw [get_lsb _ _ _ g, BitVec.getLsbD_and, mask_lsb n h.2, Bool.and_comm]
  rw [show (0 : Int).toNat + j = j by omega]
theorem and_mask_self (x m : BitVec 64) : (x &&& m == x) = (x &&& ~~~ m == 0#64) := by
  rw [Bool.eq_iff_iff, beq_iff_eq, beq_iff_eq]
  constructor
  · intro e
    apply ext64
    intro j hj
    have := congrArg (fun y => y.getLsbD j) e
    simp only [BitVec.getLsbD_and] at this
    rw [BitVec.getLsbD_and, BitVec.getLsbD_not]
    cases h1 : x.getLsbD j <;> cases h2 : m.getLsbD j <;> simp_all
  · intro e
    apply ext64
    intro j hj
    have := congrArg (fun y => y.getLsbD j) e
    simp only [BitVec.getLsbD_and, BitVec.getLsbD_not, BitVec.getLsbD_zero] at this
    rw [BitVec.getLsbD_and]
    cases h1 : x.getLsbD j <;> cases h2 : m.getLsbD j <;> simp_all
theorem bit_test (x : BitVec 64) (k : Nat) : (x >>> k &&& 1#64 == 1#64) = x.getLsbD k := by
  rw [Bool.eq_iff_iff, beq_iff_eq]
  constructor
  · intro h
    have := congrArg (fun y => y.getLsbD 0) h
    simpa [BitVec.getLsbD_and, BitVec.getLsbD_ushiftRight] using this
  · intro h
    apply ext64
    intro j hj
    rw [BitVec.getLsbD_and, BitVec.getLsbD_ushiftRight, BitVec.getLsbD_one]
    by_cases c : j = 0
    · subst c; simp [h]
    · simp [c]
theorem max_shr_lsb (n j : Nat) : (18446744073709551615#64 >>> n).getLsbD j = decide (j + n < 64) := by
  rw [BitVec.getLsbD_ushiftRight]
  show (BitVec.allOnes 64).getLsbD (n + j) = _
  rw [BitVec.getLsbD_allOnes, Nat.add_comm]
theorem shl_shr (a : BitVec 64) (n : Nat) (hn : n < 64) : (a <<< n) >>> n = a &&& (18446744073709551615#64 >>> n) := by
  apply ext64
  intro j hj
  rw [BitVec.getLsbD_and, max_shr_lsb, BitVec.getLsbD_ushiftRight, BitVec.getLsbD_shiftLeft, decide_eq_false (show ¬ n + j < n by omega), show n + j - n = j by omega, Nat.add_comm n j]
  cases decide (j + n < 64) <;> simp
theorem shl_sshr (a : BitVec 64) (n : Nat) (hn : n < 64) : (a <<< n).sshiftRight n = (a &&& (18446744073709551615#64 >>> n)) ||| (if a.getLsbD (63 - n) = true then ~~~ (18446744073709551615#64 >>> n) else 0#64) := by
  apply ext64
  intro j hj
  rw [BitVec.getLsbD_or, BitVec.getLsbD_and, max_shr_lsb, BitVec.getLsbD_sshiftRight, decide_eq_false (show ¬ 64 ≤ j by omega), BitVec.msb_eq_getLsbD_last]
  by_cases c : n + j < 64
  · rw [if_pos c, BitVec.getLsbD_shiftLeft, decide_eq_true c, decide_eq_false (show ¬ n + j < n by omega), show n + j - n = j by omega, decide_eq_true (show j + n < 64 by omega)]
    split
    · rw [BitVec.getLsbD_not, max_shr_lsb, decide_eq_true (show j + n < 64 by omega)]; simp
    · simp
  · rw [if_neg c, BitVec.getLsbD_shiftLeft, decide_eq_true (show 64 - 1 < 64 by omega), decide_eq_false (show ¬ 64 - 1 < n by omega), show 64 - 1 - n = 63 - n by omega, decide_eq_false (show ¬ j + n < 64 by omega)]
    cases h : a.getLsbD (63 - n)
    · simp
    · rw [if_pos rfl, BitVec.getLsbD_not, max_shr_lsb, decide_eq_false (show ¬ j + n < 64 by omega), decide_eq_true hj]; simp
end Go.Proofs.Ytpjcijmdoofcbaa
