
/-
  What the table's words are: puts at places apart; a word of an instruction has its fields; plain.
-/
import Derived.Test.YtokfokgbbpjgdaaInstN
import Derived.KernelRfl
namespace Go.Proofs.Ytokfokgbbpjgdaa
open Go Go.RowKit
set_option linter.unusedVariables false
set_option linter.unusedSimpArgs false

def apartP (a n b m : Int) : Bool := decide (a + n ≤ b) || decide (b + m ≤ a)
theorem apartP_or {a n b m : Int} (h : apartP a n b m = true) : a + n ≤ b ∨ b + m ≤ a := by
  unfold apartP at h
  simpa using h
/-- All the pieces of a list are apart, and may be. -/
def goodL : List (Int × Int) → Bool
  | [] => true
  | p :: l => mayF p.1 p.2 && (l.all fun q => apartP p.1 p.2 q.1 q.2) && goodL l
def rg (l : List (Int × Int × BitVec 64)) : List (Int × Int) := l.map fun p => (p.1, p.2.1)
theorem puts_apart : ∀ (l : List (Int × Int × BitVec 64)) (w : BitVec 64) (a n : Int), goodL (rg l) = true → mayF a n = true → ((rg l).all fun q => apartP a n q.1 q.2) = true → getF (putsF l w) a n = getF w a n
  | [], _, _, _, _, _, _ => rfl
  | (b, m, v) :: l, w, a, n, hg, hm, ha => by
    simp only [rg, List.map_cons, goodL, List.all_cons, Bool.and_eq_true] at hg ha
    show getF (putsF l (putF w b m v)) a n = _
    rw [puts_apart l _ a n hg.2 hm ha.2]
    exact get_apart w v b m a n hg.1.1 hm (apartP_or ha.1).symm
theorem puts_get : ∀ (l : List (Int × Int × BitVec 64)) (w : BitVec 64) (p : Int × Int × BitVec 64), goodL (rg l) = true → p ∈ l → getF (putsF l w) p.1 p.2.1 = p.2.2 &&& maskF p.2.1
  | [], _, _, _, hp => by cases hp
  | (b, m, v) :: l, w, p, hg, hp => by
    simp only [rg, List.map_cons, goodL, Bool.and_eq_true] at hg
    show getF (putsF l (putF w b m v)) p.1 p.2.1 = _
    rcases List.mem_cons.1 hp with rfl | hp
    · rw [puts_apart l _ b m hg.2 hg.1.1 hg.1.2]
      exact get_put w v b m hg.1.1
    · exact puts_get l _ p hg.2 hp
theorem good_may : ∀ (l : List (Int × Int)) (p : Int × Int), goodL l = true → p ∈ l → mayF p.1 p.2 = true
  | [], _, _, hp => by cases hp
  | q :: l, p, hg, hp => by
    simp only [goodL, Bool.and_eq_true] at hg
    rcases List.mem_cons.1 hp with rfl | hp
    · exact hg.1.1
    · exact good_may l p hg.2 hp
/-- A bit that no piece has. -/
theorem puts_out : ∀ (l : List (Int × Int × BitVec 64)) (w : BitVec 64) (j : Nat), j < 64 → goodL (rg l) = true → (∀ p ∈ rg l, ¬ (p.1 ≤ j ∧ (j : Int) < p.1 + p.2)) → (putsF l w).getLsbD j = w.getLsbD j
  | [], _, _, _, _, _ => rfl
  | (b, m, v) :: l, w, j, hj, hg, ho => by
    simp only [rg, List.map_cons, goodL, Bool.and_eq_true] at hg
    show (putsF l (putF w b m v)).getLsbD j = _
    rw [puts_out l _ j hj hg.2 (fun p hp => ho p (List.mem_cons_of_mem _ hp))]
    have h := ho (b, m) List.mem_cons_self
    have hm := mayF_true hg.1.1
    rw [put_lsb w v b m hg.1.1 j hj]
    simp only at h hm
    rw [if_neg (by omega)]
/-- Two words alike in a piece are alike in its bits. -/
theorem get_bits {x y : BitVec 64} {a n : Int} (hm : mayF a n = true) (h : getF x a n = getF y a n) (j : Nat) (h1 : a ≤ j) (h2 : (j : Int) < a + n) : x.getLsbD j = y.getLsbD j := by
  have hx := get_lsb x a n hm (j - a.toNat)
  have hy := get_lsb y a n hm (j - a.toNat)
  have := mayF_true hm
  rw [show a.toNat + (j - a.toNat) = j by omega, decide_eq_true (show j - a.toNat < n.toNat by omega), Bool.true_and] at hx hy
  rw [← hx, ← hy, h]
theorem bits_get {x y : BitVec 64} {a n : Int} (h : ∀ j : Nat, a ≤ j → (j : Int) < a + n → x.getLsbD j = y.getLsbD j) : getF x a n = getF y a n := by
  cases hm : mayF a n
  · rw [get_not x a n hm, get_not y a n hm]
  · refine ext64 fun j hj => ?_
    rw [get_lsb x a n hm, get_lsb y a n hm]
    have := mayF_true hm
    by_cases c : j < n.toNat
    · rw [h (a.toNat + j) (by omega) (by omega)]
    · rw [decide_eq_false c]; rfl
/-- The pieces cover the lowest bits. -/
def coverL (l : List (Int × Int)) (n : Nat) : Bool := (List.range n).all fun j => l.any fun p => decide (p.1 ≤ (j : Int)) && decide ((j : Int) < p.1 + p.2)
theorem coverL_mem {l : List (Int × Int)} {n : Nat} (h : coverL l n = true) (j : Nat) (hj : j < n) : ∃ p ∈ l, p.1 ≤ (j : Int) ∧ (j : Int) < p.1 + p.2 := by
  unfold coverL at h
  have := List.all_eq_true.1 h j (List.mem_range.2 hj)
  obtain ⟨p, hp, hq⟩ := List.any_eq_true.1 this
  exact ⟨p, hp, by simpa using hq⟩
theorem low_of_lt {y : BitVec 64} {n : Nat} (h : y.toNat < 2 ^ n) (j : Nat) (hj : n ≤ j) : y.getLsbD j = false := by
  have : y.toNat < 2 ^ j := Nat.lt_of_lt_of_le h (Nat.pow_le_pow_right (by omega) hj)
  rw [← BitVec.testBit_toNat]
  exact Nat.testBit_lt_two_pow this
theorem lt_of_low {y : BitVec 64} {n : Nat} (h : ∀ j, n ≤ j → j < 64 → y.getLsbD j = false) : y.toNat < 2 ^ n := by
  refine Nat.lt_pow_two_of_testBit _ fun j hj => ?_
  rw [BitVec.testBit_toNat]
  by_cases c : j < 64
  · exact h j hj c
  · exact lsb_ge y j (by omega)
theorem cover_eq {l : List (Int × Int)} {x y : BitVec 64} (hg : goodL l = true) (hc : coverL l 32 = true) (hx : x.toNat < 2 ^ 32) (hy : y.toNat < 2 ^ 32) (h : ∀ p ∈ l, getF x p.1 p.2 = getF y p.1 p.2) : x = y := by
  refine ext64 fun j hj => ?_
  by_cases c : j < 32
  · obtain ⟨p, hp, h1, h2⟩ := coverL_mem hc j c
    exact get_bits (good_may l p hg hp) (h p hp) j h1 h2
  · rw [low_of_lt hx j (by omega), low_of_lt hy j (by omega)]
/-- All the pieces lie below a bit. -/
def underL (l : List (Int × Int)) (n : Int) : Bool := l.all fun p => decide (p.1 + p.2 ≤ n)
theorem puts_lt {l : List (Int × Int × BitVec 64)} (hg : goodL (rg l) = true) (hu : underL (rg l) 32 = true) : (putsF l 0#64).toNat < 2 ^ 32 := by
  refine lt_of_low fun j h1 h2 => ?_
  rw [puts_out l _ j h2 hg]
  · simp
  · intro p hp
    have := List.all_eq_true.1 hu p hp
    simp only [decide_eq_true_eq] at this
    omega
end Go.Proofs.Ytokfokgbbpjgdaa
