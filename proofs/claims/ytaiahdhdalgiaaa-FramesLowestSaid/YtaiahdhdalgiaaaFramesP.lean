
/-
  frames: which numbers are taken, as bits and as a list of truths; how many are free (plain).
-/
import Derived.Test.YtaiahdhdalgiaaaFramesN
import Derived.Maps.Views
namespace Go.Proofs.Ytaiahdhdalgiaaa
open Go Go.RowKit
set_option linter.unusedVariables false
set_option linter.unusedSimpArgs false

/-- No number from n on. -/
def bset (n : Nat) (t : BitVec 64) : Prop := ∀ j, n ≤ j → t.getLsbD j = false
def vb (bs : List Bool) : List Value := bs.map Value.bool
def bitsN (n : Nat) (t : BitVec 64) : List Bool := (List.range n).map fun j => t.getLsbD j
theorem vb_len (bs : List Bool) : (vb bs).length = bs.length := by unfold vb; simp
theorem bitsN_len (n : Nat) (t : BitVec 64) : (bitsN n t).length = n := by unfold bitsN; simp
theorem bitsN_at (n : Nat) (t : BitVec 64) (j : Nat) : (bitsN n t)[j]? = if j < n then some (t.getLsbD j) else none := by
  unfold bitsN
  rw [List.getElem?_map]
  by_cases c : j < n
  · rw [List.getElem?_range c, if_pos c]; rfl
  · rw [if_neg c, List.getElem?_eq_none (by simp; omega)]; rfl
theorem vb_at (bs : List Bool) (j : Nat) (h : j < bs.length) : (vb bs)[j]? = some (.bool (bs.getD j false)) := by
  unfold vb
  rw [List.getElem?_map, List.getD_eq_getElem?_getD, List.getElem?_eq_getElem h]
  rfl
theorem bitsN_getD (n : Nat) (t : BitVec 64) (j : Nat) (h : j < n) : (bitsN n t).getD j false = t.getLsbD j := by
  rw [List.getD_eq_getElem?_getD, bitsN_at, if_pos h]; rfl
theorem bitsN_zero (n : Nat) : bitsN n 0#64 = List.replicate n false := by
  apply List.ext_getElem?
  intro j
  rw [bitsN_at, List.getElem?_replicate]
  simp
theorem one_shl (z j : Nat) (hz : z < 64) : (1#64 <<< z).getLsbD j = decide (j = z) := by
  rw [BitVec.getLsbD_shiftLeft, BitVec.getLsbD_one]
  by_cases c : j = z
  · subst c; simp [hz]
  · by_cases d : j < z
    · simp [d, c]
    · have : j - z ≠ 0 := by omega
      simp [c, this]
theorem setb_bit (t : BitVec 64) (z j : Nat) (hz : z < 64) : (t ||| 1#64 <<< z).getLsbD j = (t.getLsbD j || decide (j = z)) := by
  rw [BitVec.getLsbD_or, one_shl z j hz]
theorem clrb_bit (t : BitVec 64) (z j : Nat) (hz : z < 64) : (t &&& ~~~(1#64 <<< z)).getLsbD j = (t.getLsbD j && !decide (j = z)) := by
  rw [BitVec.getLsbD_and, BitVec.getLsbD_not, one_shl z j hz]
  by_cases c : j < 64
  · simp [c]
  · have := BitVec.getLsbD_of_ge t j (by omega)
    rw [this]; simp
theorem bitsN_put (n : Nat) (t : BitVec 64) (z : Nat) (hz : z < 64) : (bitsN n t).set z true = bitsN n (t ||| 1#64 <<< z) := by
  apply List.ext_getElem?
  intro j
  rw [List.getElem?_set, bitsN_at, bitsN_at, bitsN_len, setb_bit t z j hz]
  by_cases c : j = z
  · subst c; simp
  · simp [c, Ne.symm c]
theorem bitsN_drop (n : Nat) (t : BitVec 64) (z : Nat) (hz : z < 64) : (bitsN n t).set z false = bitsN n (t &&& ~~~(1#64 <<< z)) := by
  apply List.ext_getElem?
  intro j
  rw [List.getElem?_set, bitsN_at, bitsN_at, bitsN_len, clrb_bit t z j hz]
  by_cases c : j = z
  · subst c; simp
  · simp [c, Ne.symm c]
theorem bset_zero (n : Nat) : bset n 0#64 := fun j _ => by simp
theorem bset_put {n : Nat} {t : BitVec 64} (h : bset n t) {z : Nat} (hz : z < n) (hn : n ≤ 64) : bset n (t ||| 1#64 <<< z) := fun j hj => by
  rw [setb_bit t z j (by omega), h j hj, decide_eq_false (by omega)]; rfl
theorem bset_drop {n : Nat} {t : BitVec 64} (h : bset n t) {z : Nat} (hz : z < 64) : bset n (t &&& ~~~(1#64 <<< z)) := fun j hj => by
  rw [clrb_bit t z j hz, h j hj]; rfl
theorem ones_trim {n : Nat} {t : BitVec 64} (h : bset n t) : ∀ m, onesTo t (n + m) = onesTo t n
  | 0 => rfl
  | m + 1 => by rw [← Nat.add_assoc, onesTo_no t (n + m) (h _ (by omega)), ones_trim h m]
theorem ones_n {n : Nat} {t : BitVec 64} (h : bset n t) (hn : n ≤ 64) : onesTo t 64 = onesTo t n := by
  have := ones_trim h (64 - n)
  rw [show n + (64 - n) = 64 by omega] at this
  exact this
/-- The lowest bit. -/
theorem zerosF_cases (x : BitVec 64) : (zerosF x = 64 ∧ ∀ i, i < 64 → x.getLsbD i = false) ∨ (zerosF x < 64 ∧ x.getLsbD (zerosF x) = true ∧ ∀ i, i < zerosF x → x.getLsbD i = false) := by
  by_cases h : ∃ k, k < 64 ∧ x.getLsbD k = true
  · refine .inr ?_
    have hex : ∀ m, ∀ k, k ≤ m → k < 64 → x.getLsbD k = true → ∃ z, z < 64 ∧ x.getLsbD z = true ∧ ∀ i, i < z → x.getLsbD i = false := by
      intro m
      induction m with
      | zero => intro k h0 h1 h2; exact ⟨k, h1, h2, fun i hi => by omega⟩
      | succ m ih =>
        intro k h0 h1 h2
        by_cases c : ∃ i, i < k ∧ x.getLsbD i = true
        · obtain ⟨i, hi, hx⟩ := c
          exact ih i (by omega) (by omega) hx
        · refine ⟨k, h1, h2, fun i hi => ?_⟩
          cases hb : x.getLsbD i
          · rfl
          · exact absurd ⟨i, hi, hb⟩ c
    obtain ⟨k, h1, h2⟩ := h
    obtain ⟨z, hz, hb, hl⟩ := hex k k (Nat.le_refl _) h1 h2
    rw [zerosF_of x z hz hb hl]
    exact ⟨hz, hb, hl⟩
  · have hl : ∀ i, i < 64 → x.getLsbD i = false := fun i hi => by
      cases hb : x.getLsbD i
      · rfl
      · exact absurd ⟨i, hi, hb⟩ h
    exact .inl ⟨zerosF_none x hl, hl⟩
/-- The number that is taken next. -/
theorem next_cases (n : Nat) (t : BitVec 64) (h1 : 0 < n) (h2 : n ≤ 64) : (zerosF (openW n t) = 64 ∧ ∀ i, i < n → t.getLsbD i = true) ∨ (∃ z, z < n ∧ zerosF (openW n t) = z ∧ t.getLsbD z = false ∧ ∀ i, i < z → t.getLsbD i = true) := by
  rcases zerosF_cases (openW n t) with ⟨a, b⟩ | ⟨a, b, c⟩
  · refine .inl ⟨a, fun i hi => ?_⟩
    have := b i (by omega)
    rw [open_bit n t h1 h2 i (by omega), decide_eq_true hi] at this
    simpa using this
  · have hz := b
    rw [open_bit n t h1 h2 _ a] at hz
    simp only [Bool.and_eq_true, decide_eq_true_eq, Bool.not_eq_true'] at hz
    refine .inr ⟨_, hz.1, rfl, hz.2, fun i hi => ?_⟩
    have := c i hi
    rw [open_bit n t h1 h2 i (by omega), decide_eq_true (by omega)] at this
    simpa using this
/-- How many are free. -/
def freeN (n : Nat) (t : BitVec 64) : Nat := ((List.range n).filter fun j => !t.getLsbD j).length
theorem free_le (n : Nat) (t : BitVec 64) : freeN n t ≤ n := by
  unfold freeN
  have := List.length_filter_le (fun j => !t.getLsbD j) (List.range n)
  simpa using this
theorem free_succ (n : Nat) (t : BitVec 64) : freeN (n + 1) t = freeN n t + if t.getLsbD n = true then 0 else 1 := by
  unfold freeN
  rw [List.range_succ, List.filter_append, List.length_append]
  cases h : t.getLsbD n <;> simp [h]
theorem free_same {t u : BitVec 64} : ∀ n, (∀ j, j < n → t.getLsbD j = u.getLsbD j) → freeN n t = freeN n u
  | 0, _ => rfl
  | n + 1, h => by rw [free_succ, free_succ, free_same n (fun j hj => h j (by omega)), h n (by omega)]
theorem free_put {t : BitVec 64} {z : Nat} (h64 : z < 64) (ht : t.getLsbD z = false) : ∀ n, z < n → freeN n t = freeN n (t ||| 1#64 <<< z) + 1
  | 0, h => by omega
  | n + 1, h => by
    rw [free_succ, free_succ]
    by_cases c : z = n
    · subst c
      rw [free_same z (t := t) (u := t ||| 1#64 <<< z) (fun j hj => by rw [setb_bit t z j h64, decide_eq_false (by omega), Bool.or_false]), setb_bit t z z h64, ht]
      simp
    · have := free_put h64 ht n (by omega)
      rw [this, setb_bit t z n h64, decide_eq_false (fun e => c e.symm), Bool.or_false]
      omega
theorem free_drop {t : BitVec 64} {z : Nat} (h64 : z < 64) (ht : t.getLsbD z = true) (n : Nat) (h : z < n) : freeN n (t &&& ~~~(1#64 <<< z)) = freeN n t + 1 := by
  have h0 : (t &&& ~~~(1#64 <<< z)).getLsbD z = false := by rw [clrb_bit t z z h64]; simp
  rw [free_put h64 h0 n h]
  congr 1
  refine free_same n fun j hj => ?_
  rw [setb_bit _ z j h64, clrb_bit t z j h64]
  by_cases c : j = z
  · subst c; simp [ht]
  · simp [c]
theorem free_none {t : BitVec 64} : ∀ n, freeN n t = 0 → ∀ j, j < n → t.getLsbD j = true
  | 0, _, j, hj => by omega
  | n + 1, h, j, hj => by
    rw [free_succ] at h
    cases hb : t.getLsbD n
    · rw [hb] at h; simp at h
    · by_cases c : j = n
      · subst c; exact hb
      · exact free_none n (by omega) j (by omega)
theorem free_all {t : BitVec 64} : ∀ n, (∀ j, j < n → t.getLsbD j = true) → freeN n t = 0 ∧ (onesTo t n).length = n
  | 0, _ => ⟨rfl, rfl⟩
  | n + 1, h => by
    obtain ⟨a, b⟩ := free_all n (fun j hj => h j (by omega))
    rw [free_succ, h n (by omega), onesTo_yes t n (h n (by omega)), List.length_append, a, b]
    exact ⟨rfl, rfl⟩
theorem free_some {t : BitVec 64} (n : Nat) (h : 0 < freeN n t) : ∃ j, j < n ∧ t.getLsbD j = false := by
  refine Classical.byContradiction fun hc => ?_
  have := (free_all (t := t) n (fun j hj => by
    cases hb : t.getLsbD j
    · exact absurd ⟨j, hj, hb⟩ hc
    · rfl)).1
  omega
theorem mod_fits (x : Int) (n : Nat) (hn : 0 < n) : ∃ k : Nat, k < n ∧ (x.tmod n + n).tmod n = (k : Int) := by
  have h1 := Int.tmod_lt_of_pos x (show (0 : Int) < n by omega)
  have h2 : -(n : Int) < x.tmod n := by
    have := Int.lt_tmod_of_pos x (show (0 : Int) < n by omega)
    omega
  have h3 : (x.tmod n + n).tmod n = (x.tmod n + n) % n := Int.tmod_eq_emod_of_nonneg (by omega)
  have h4 := Int.emod_nonneg (x.tmod n + n) (show (n : Int) ≠ 0 by omega)
  have h5 := Int.emod_lt_of_pos (x.tmod n + n) (show (0 : Int) < n by omega)
  exact ⟨((x.tmod n + n) % n).toNat, by omega, by rw [h3]; omega⟩
end Go.Proofs.Ytaiahdhdalgiaaa
