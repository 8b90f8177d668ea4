
/-
  The entry of an entry's number; an address by its parts (in plain words).
-/
import Derived.Test.YtnfaalknhcenpaaPteWords
namespace Go.Proofs.Ytnfaalknhcenpaa
open Go Go.RowKit
set_option linter.unusedVariables false
set_option linter.unusedSimpArgs false

theorem bit_is (x : BitVec 64) (q : Nat) (h : q < 64) : bitF x q = x.getLsbD q := by
  have h1 : x >>> q &&& 1#64 = if x.getLsbD q = true then 1#64 else 0#64 := by
    apply ext64
    intro j hj
    rw [BitVec.getLsbD_and, BitVec.getLsbD_ushiftRight]
    have e1 : (1#64).getLsbD j = decide (j = 0) := by
      have : (1#64) = BitVec.twoPow 64 0 := rfl
      rw [this, BitVec.getLsbD_twoPow]
      by_cases c : j = 0
      · subst c; rfl
      · simp [c]; omega
    rw [e1]
    by_cases c : j = 0
    · subst c
      cases hb : x.getLsbD q
      · simp [hb]
      · rw [if_pos rfl, e1]; simp [hb]
    · cases hb : x.getLsbD q
      · simp [c]
      · rw [if_pos rfl, e1]; simp [c]
  unfold bitF
  rw [h1]
  cases x.getLsbD q <;> rfl
theorem or_lsb (e : Ent) (j : Nat) (hj : j < 64) : (orE e).getLsbD j = ((decide (10 ≤ j) && decide (j < 54) && e.f.getLsbD (j - 10)) || (e.b0 && decide ((0 : Int).toNat = j)) || (e.b1 && decide ((1 : Int).toNat = j)) || (e.b2 && decide ((2 : Int).toNat = j)) || (e.b3 && decide ((3 : Int).toNat = j)) || (e.b4 && decide ((4 : Int).toNat = j)) || (e.b5 && decide ((5 : Int).toNat = j)) || (e.b6 && decide ((6 : Int).toNat = j)) || (e.b7 && decide ((7 : Int).toNat = j)) || (e.b8 && decide ((58 : Int).toNat = j)) || (e.b9 && decide ((59 : Int).toNat = j)) || (e.b10 && decide ((60 : Int).toNat = j)) || (e.b11 && decide ((61 : Int).toNat = j))) := by
  unfold orE
  simp only [BitVec.getLsbD_or, frame_lsb _ _ hj, bitV_lsb _ 0 j (by decide), bitV_lsb _ 1 j (by decide), bitV_lsb _ 2 j (by decide), bitV_lsb _ 3 j (by decide), bitV_lsb _ 4 j (by decide), bitV_lsb _ 5 j (by decide), bitV_lsb _ 6 j (by decide), bitV_lsb _ 7 j (by decide), bitV_lsb _ 58 j (by decide), bitV_lsb _ 59 j (by decide), bitV_lsb _ 60 j (by decide), bitV_lsb _ 61 j (by decide)]
theorem back_is (e : Ent) : ofE (orE e) = { e with f := e.f &&& maskF 44 } := by
  obtain ⟨b0, b1, b2, b3, b4, b5, b6, b7, b8, b9, b10, b11, f⟩ := e
  unfold ofE
  congr 1
  · rw [bit_is _ 0 (by omega), or_lsb _ 0 (by omega)]; simp
  · rw [bit_is _ 1 (by omega), or_lsb _ 1 (by omega)]; simp
  · rw [bit_is _ 2 (by omega), or_lsb _ 2 (by omega)]; simp
  · rw [bit_is _ 3 (by omega), or_lsb _ 3 (by omega)]; simp
  · rw [bit_is _ 4 (by omega), or_lsb _ 4 (by omega)]; simp
  · rw [bit_is _ 5 (by omega), or_lsb _ 5 (by omega)]; simp
  · rw [bit_is _ 6 (by omega), or_lsb _ 6 (by omega)]; simp
  · rw [bit_is _ 7 (by omega), or_lsb _ 7 (by omega)]; simp
  · rw [bit_is _ 58 (by omega), or_lsb _ 58 (by omega)]; simp
  · rw [bit_is _ 59 (by omega), or_lsb _ 59 (by omega)]; simp
  · rw [bit_is _ 60 (by omega), or_lsb _ 60 (by omega)]; simp
  · rw [bit_is _ 61 (by omega), or_lsb _ 61 (by omega)]; simp
  · apply ext64
    intro j hj
    rw [get_lsb _ _ _ (by decide), BitVec.getLsbD_and, mask_lsb _ (by omega)]
    simp only [show (10 : Int).toNat = 10 from rfl, show (44 : Int).toNat = 44 from rfl]
    by_cases c : j < 44
    · rw [or_lsb _ _ (by omega)]
      have n0 : ¬ (0 : Int).toNat = 10 + j := by simp; omega
      have n1 : ¬ (1 : Int).toNat = 10 + j := by simp; omega
      have n2 : ¬ (2 : Int).toNat = 10 + j := by simp; omega
      have n3 : ¬ (3 : Int).toNat = 10 + j := by simp; omega
      have n4 : ¬ (4 : Int).toNat = 10 + j := by simp; omega
      have n5 : ¬ (5 : Int).toNat = 10 + j := by simp; omega
      have n6 : ¬ (6 : Int).toNat = 10 + j := by simp; omega
      have n7 : ¬ (7 : Int).toNat = 10 + j := by simp; omega
      have n58 : ¬ (58 : Int).toNat = 10 + j := by simp; omega
      have n59 : ¬ (59 : Int).toNat = 10 + j := by simp; omega
      have n60 : ¬ (60 : Int).toNat = 10 + j := by simp; omega
      have n61 : ¬ (61 : Int).toNat = 10 + j := by simp; omega
      rw [decide_eq_false n0, decide_eq_false n1, decide_eq_false n2, decide_eq_false n3, decide_eq_false n4, decide_eq_false n5, decide_eq_false n6, decide_eq_false n7, decide_eq_false n58, decide_eq_false n59, decide_eq_false n60, decide_eq_false n61, show 10 + j - 10 = j by omega]
      simp [c, show 10 + j < 54 by omega]
    · simp [c]
/-- An address is its page's indices and its place in the page, side by side. -/
theorem parts_sum (a : BitVec 64) (h : a.toNat < 274877906944) :
    ((a % 4096#64 + getF a 12 9 <<< 12) + getF a 21 9 <<< 21) + getF a 30 9 <<< 30 = a := by
  have hb : ∀ j, 38 ≤ j → a.getLsbD j = false := by
    intro j hj
    rw [BitVec.getLsbD, Nat.testBit_lt_two_pow]
    exact Nat.lt_of_lt_of_le h (by rw [show 274877906944 = 2 ^ 38 from rfl]; exact Nat.pow_le_pow_right (by omega) hj)
  have g : ∀ (at' k : Nat) (hk : at' + 9 ≤ 64) (j : Nat), j < 64 → (getF a at' 9 <<< at').getLsbD j = (decide (at' ≤ j) && decide (j < at' + 9) && a.getLsbD j) := by
    intro at' k hk j hj
    rw [BitVec.getLsbD_shiftLeft, get_lsb _ _ _ ((mayF_iff _ _).2 (by omega))]
    simp only [show (9 : Int).toNat = 9 from rfl, show ((at' : Nat) : Int).toNat = at' by omega]
    by_cases c : at' ≤ j
    · rw [show at' + (j - at') = j by omega]
      by_cases c2 : j < at' + 9
      · simp [c, c2, hj, show j - at' < 9 by omega]
      · simp [c2, show ¬ j - at' < 9 by omega]
    · simp [c, show j < at' by omega]
  have l : ∀ j, j < 64 → (a % 4096#64).getLsbD j = (decide (j < 12) && a.getLsbD j) := by
    intro j hj
    rw [rem_is a 12 4096#64 (by omega) rfl, BitVec.getLsbD_and, mask_lsb _ (by omega), Bool.and_comm]
    rfl
  have g12 : ∀ j, j < 64 → (getF a 12 9 <<< 12).getLsbD j = (decide (12 ≤ j) && decide (j < 12 + 9) && a.getLsbD j) := g 12 0 (by omega)
  have g21 : ∀ j, j < 64 → (getF a 21 9 <<< 21).getLsbD j = (decide (21 ≤ j) && decide (j < 21 + 9) && a.getLsbD j) := g 21 0 (by omega)
  have g30 : ∀ j, j < 64 → (getF a 30 9 <<< 30).getLsbD j = (decide (30 ≤ j) && decide (j < 30 + 9) && a.getLsbD j) := g 30 0 (by omega)
  rw [add_apart (a % 4096#64) _ (by
    intro j hj
    rw [l j hj, g12 j hj]
    by_cases c : j < 12
    · rw [decide_eq_false (show ¬ 12 ≤ j by omega)]; simp
    · rw [decide_eq_false c]; simp)]
  rw [add_apart (_ ||| _) _ (by
    intro j hj
    rw [BitVec.getLsbD_or, l j hj, g12 j hj, g21 j hj]
    by_cases c : j < 21
    · rw [decide_eq_false (show ¬ 21 ≤ j by omega)]; simp
    · rw [decide_eq_false (show ¬ j < 12 by omega), decide_eq_false (show ¬ j < 12 + 9 by omega)]; simp)]
  rw [add_apart (_ ||| _) _ (by
    intro j hj
    rw [BitVec.getLsbD_or, BitVec.getLsbD_or, l j hj, g12 j hj, g21 j hj, g30 j hj]
    by_cases c : j < 30
    · rw [decide_eq_false (show ¬ 30 ≤ j by omega)]; simp
    · rw [decide_eq_false (show ¬ j < 12 by omega), decide_eq_false (show ¬ j < 12 + 9 by omega), decide_eq_false (show ¬ j < 21 + 9 by omega)]; simp)]
  apply ext64
  intro j hj
  rw [BitVec.getLsbD_or, BitVec.getLsbD_or, BitVec.getLsbD_or, l j hj, g12 j hj, g21 j hj, g30 j hj]
  by_cases c : j < 38
  · have hc : (decide (j < 12) || (decide (12 ≤ j) && decide (j < 12 + 9)) || (decide (21 ≤ j) && decide (j < 21 + 9)) || (decide (30 ≤ j) && decide (j < 30 + 9))) = true := by
      simp; omega
    cases h1 : a.getLsbD j
    · simp
    · simpa using hc
  · rw [hb j (by omega)]; simp
end Go.Proofs.Ytnfaalknhcenpaa
