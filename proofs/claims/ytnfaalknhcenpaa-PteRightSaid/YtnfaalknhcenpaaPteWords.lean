
/-
  The number of an entry, as a sum of its bits, is as it is put together (in plain words).
-/
import Derived.Test.YtnfaalknhcenpaaRefPte
namespace Go.Proofs.Ytnfaalknhcenpaa
open Go Go.RowKit
set_option linter.unusedVariables false
set_option linter.unusedSimpArgs false

theorem add_apart (x y : BitVec 64) (h : ∀ j, j < 64 → (x.getLsbD j && y.getLsbD j) = false) : x + y = x ||| y := by
  apply BitVec.add_eq_or_of_and_eq_zero
  apply ext64
  intro j hj
  rw [BitVec.getLsbD_and, h j hj]
  simp
theorem bitV_lsb (b : Bool) (q : Int) (j : Nat) (hq : q.toNat < 64) : (bitV b q).getLsbD j = (b && decide (q.toNat = j)) := by
  unfold bitV
  cases b
  · simp
  · rw [if_pos rfl, show 1#64 <<< q.toNat = BitVec.twoPow 64 q.toNat from rfl, BitVec.getLsbD_twoPow, decide_eq_true hq]
def frameF (f : BitVec 64) : BitVec 64 := (f &&& maskF 44) <<< 10
theorem frame_lsb (f : BitVec 64) (j : Nat) (hj : j < 64) : (frameF f).getLsbD j = (decide (10 ≤ j) && decide (j < 54) && f.getLsbD (j - 10)) := by
  unfold frameF
  rw [BitVec.getLsbD_shiftLeft, BitVec.getLsbD_and, mask_lsb _ (by omega)]
  simp only [show (44 : Int).toNat = 44 from rfl]
  by_cases c : 10 ≤ j
  · by_cases c2 : j < 54
    · simp [c, c2, hj, show j - 10 < 44 by omega]
    · simp [c2, show ¬ j - 10 < 44 by omega]
  · simp [c]
theorem put_frame (f : BitVec 64) : putF 0#64 10 44 f = frameF f := by
  unfold putF frameF
  rw [if_pos (by decide)]
  simp
def orE (e : Ent) : BitVec 64 := frameF e.f ||| bitV e.b0 0 ||| bitV e.b1 1 ||| bitV e.b2 2 ||| bitV e.b3 3 ||| bitV e.b4 4 ||| bitV e.b5 5 ||| bitV e.b6 6 ||| bitV e.b7 7 ||| bitV e.b8 58 ||| bitV e.b9 59 ||| bitV e.b10 60 ||| bitV e.b11 61
theorem if_or (w : BitVec 64) (b : Bool) (q : Nat) : (if b = true then w ||| 1#64 <<< q else w) = w ||| bitV b q := by
  unfold bitV
  cases b
  · simp
  · rfl
theorem word_or (e : Ent) : wordE e = orE e := by
  unfold wordE wordK orE Ent.flags
  rw [← put_frame]
  simp only [List.take_succ_cons, List.take_zero, List.foldl_cons, List.foldl_nil, if_or]
  rfl
theorem rword_or (e : Ent) : rwordE e = orE e := by
  have hF : (e.f % 17592186044416#64) <<< 10 = frameF e.f := by
    rw [rem_is e.f 44 17592186044416#64 (by omega) rfl]
    rfl
  unfold rwordE
  rw [hF]
  rw [add_apart (bitV e.b0 0) (bitV e.b1 1) (by
    intro j hj
    simp only [BitVec.getLsbD_or, bitV_lsb _ _ _ (show ((0:Int)).toNat < 64 by decide), bitV_lsb _ 0 j (by decide), bitV_lsb _ 1 j (by decide)]
    by_cases c : (1 : Int).toNat = j
    · subst c; simp
    · rw [decide_eq_false c]; simp)]
  rw [add_apart (bitV e.b0 0 ||| bitV e.b1 1) (bitV e.b2 2) (by
    intro j hj
    simp only [BitVec.getLsbD_or, bitV_lsb _ _ _ (show ((0:Int)).toNat < 64 by decide), bitV_lsb _ 0 j (by decide), bitV_lsb _ 1 j (by decide), bitV_lsb _ 2 j (by decide)]
    by_cases c : (2 : Int).toNat = j
    · subst c; simp
    · rw [decide_eq_false c]; simp)]
  rw [add_apart (bitV e.b0 0 ||| bitV e.b1 1 ||| bitV e.b2 2) (bitV e.b3 3) (by
    intro j hj
    simp only [BitVec.getLsbD_or, bitV_lsb _ _ _ (show ((0:Int)).toNat < 64 by decide), bitV_lsb _ 0 j (by decide), bitV_lsb _ 1 j (by decide), bitV_lsb _ 2 j (by decide), bitV_lsb _ 3 j (by decide)]
    by_cases c : (3 : Int).toNat = j
    · subst c; simp
    · rw [decide_eq_false c]; simp)]
  rw [add_apart (bitV e.b0 0 ||| bitV e.b1 1 ||| bitV e.b2 2 ||| bitV e.b3 3) (bitV e.b4 4) (by
    intro j hj
    simp only [BitVec.getLsbD_or, bitV_lsb _ _ _ (show ((0:Int)).toNat < 64 by decide), bitV_lsb _ 0 j (by decide), bitV_lsb _ 1 j (by decide), bitV_lsb _ 2 j (by decide), bitV_lsb _ 3 j (by decide), bitV_lsb _ 4 j (by decide)]
    by_cases c : (4 : Int).toNat = j
    · subst c; simp
    · rw [decide_eq_false c]; simp)]
  rw [add_apart (bitV e.b0 0 ||| bitV e.b1 1 ||| bitV e.b2 2 ||| bitV e.b3 3 ||| bitV e.b4 4) (bitV e.b5 5) (by
    intro j hj
    simp only [BitVec.getLsbD_or, bitV_lsb _ _ _ (show ((0:Int)).toNat < 64 by decide), bitV_lsb _ 0 j (by decide), bitV_lsb _ 1 j (by decide), bitV_lsb _ 2 j (by decide), bitV_lsb _ 3 j (by decide), bitV_lsb _ 4 j (by decide), bitV_lsb _ 5 j (by decide)]
    by_cases c : (5 : Int).toNat = j
    · subst c; simp
    · rw [decide_eq_false c]; simp)]
  rw [add_apart (bitV e.b0 0 ||| bitV e.b1 1 ||| bitV e.b2 2 ||| bitV e.b3 3 ||| bitV e.b4 4 ||| bitV e.b5 5) (bitV e.b6 6) (by
    intro j hj
    simp only [BitVec.getLsbD_or, bitV_lsb _ _ _ (show ((0:Int)).toNat < 64 by decide), bitV_lsb _ 0 j (by decide), bitV_lsb _ 1 j (by decide), bitV_lsb _ 2 j (by decide), bitV_lsb _ 3 j (by decide), bitV_lsb _ 4 j (by decide), bitV_lsb _ 5 j (by decide), bitV_lsb _ 6 j (by decide)]
    by_cases c : (6 : Int).toNat = j
    · subst c; simp
    · rw [decide_eq_false c]; simp)]
  rw [add_apart (bitV e.b0 0 ||| bitV e.b1 1 ||| bitV e.b2 2 ||| bitV e.b3 3 ||| bitV e.b4 4 ||| bitV e.b5 5 ||| bitV e.b6 6) (bitV e.b7 7) (by
    intro j hj
    simp only [BitVec.getLsbD_or, bitV_lsb _ _ _ (show ((0:Int)).toNat < 64 by decide), bitV_lsb _ 0 j (by decide), bitV_lsb _ 1 j (by decide), bitV_lsb _ 2 j (by decide), bitV_lsb _ 3 j (by decide), bitV_lsb _ 4 j (by decide), bitV_lsb _ 5 j (by decide), bitV_lsb _ 6 j (by decide), bitV_lsb _ 7 j (by decide)]
    by_cases c : (7 : Int).toNat = j
    · subst c; simp
    · rw [decide_eq_false c]; simp)]
  rw [add_apart (bitV e.b0 0 ||| bitV e.b1 1 ||| bitV e.b2 2 ||| bitV e.b3 3 ||| bitV e.b4 4 ||| bitV e.b5 5 ||| bitV e.b6 6 ||| bitV e.b7 7) (bitV e.b8 58) (by
    intro j hj
    simp only [BitVec.getLsbD_or, bitV_lsb _ _ _ (show ((0:Int)).toNat < 64 by decide), bitV_lsb _ 0 j (by decide), bitV_lsb _ 1 j (by decide), bitV_lsb _ 2 j (by decide), bitV_lsb _ 3 j (by decide), bitV_lsb _ 4 j (by decide), bitV_lsb _ 5 j (by decide), bitV_lsb _ 6 j (by decide), bitV_lsb _ 7 j (by decide), bitV_lsb _ 58 j (by decide)]
    by_cases c : (58 : Int).toNat = j
    · subst c; simp
    · rw [decide_eq_false c]; simp)]
  rw [add_apart (bitV e.b0 0 ||| bitV e.b1 1 ||| bitV e.b2 2 ||| bitV e.b3 3 ||| bitV e.b4 4 ||| bitV e.b5 5 ||| bitV e.b6 6 ||| bitV e.b7 7 ||| bitV e.b8 58) (bitV e.b9 59) (by
    intro j hj
    simp only [BitVec.getLsbD_or, bitV_lsb _ _ _ (show ((0:Int)).toNat < 64 by decide), bitV_lsb _ 0 j (by decide), bitV_lsb _ 1 j (by decide), bitV_lsb _ 2 j (by decide), bitV_lsb _ 3 j (by decide), bitV_lsb _ 4 j (by decide), bitV_lsb _ 5 j (by decide), bitV_lsb _ 6 j (by decide), bitV_lsb _ 7 j (by decide), bitV_lsb _ 58 j (by decide), bitV_lsb _ 59 j (by decide)]
    by_cases c : (59 : Int).toNat = j
    · subst c; simp
    · rw [decide_eq_false c]; simp)]
  rw [add_apart (bitV e.b0 0 ||| bitV e.b1 1 ||| bitV e.b2 2 ||| bitV e.b3 3 ||| bitV e.b4 4 ||| bitV e.b5 5 ||| bitV e.b6 6 ||| bitV e.b7 7 ||| bitV e.b8 58 ||| bitV e.b9 59) (bitV e.b10 60) (by
    intro j hj
    simp only [BitVec.getLsbD_or, bitV_lsb _ _ _ (show ((0:Int)).toNat < 64 by decide), bitV_lsb _ 0 j (by decide), bitV_lsb _ 1 j (by decide), bitV_lsb _ 2 j (by decide), bitV_lsb _ 3 j (by decide), bitV_lsb _ 4 j (by decide), bitV_lsb _ 5 j (by decide), bitV_lsb _ 6 j (by decide), bitV_lsb _ 7 j (by decide), bitV_lsb _ 58 j (by decide), bitV_lsb _ 59 j (by decide), bitV_lsb _ 60 j (by decide)]
    by_cases c : (60 : Int).toNat = j
    · subst c; simp
    · rw [decide_eq_false c]; simp)]
  rw [add_apart (bitV e.b0 0 ||| bitV e.b1 1 ||| bitV e.b2 2 ||| bitV e.b3 3 ||| bitV e.b4 4 ||| bitV e.b5 5 ||| bitV e.b6 6 ||| bitV e.b7 7 ||| bitV e.b8 58 ||| bitV e.b9 59 ||| bitV e.b10 60) (bitV e.b11 61) (by
    intro j hj
    simp only [BitVec.getLsbD_or, bitV_lsb _ _ _ (show ((0:Int)).toNat < 64 by decide), bitV_lsb _ 0 j (by decide), bitV_lsb _ 1 j (by decide), bitV_lsb _ 2 j (by decide), bitV_lsb _ 3 j (by decide), bitV_lsb _ 4 j (by decide), bitV_lsb _ 5 j (by decide), bitV_lsb _ 6 j (by decide), bitV_lsb _ 7 j (by decide), bitV_lsb _ 58 j (by decide), bitV_lsb _ 59 j (by decide), bitV_lsb _ 60 j (by decide), bitV_lsb _ 61 j (by decide)]
    by_cases c : (61 : Int).toNat = j
    · subst c; simp
    · rw [decide_eq_false c]; simp)]
  rw [add_apart (bitV e.b0 0 ||| bitV e.b1 1 ||| bitV e.b2 2 ||| bitV e.b3 3 ||| bitV e.b4 4 ||| bitV e.b5 5 ||| bitV e.b6 6 ||| bitV e.b7 7 ||| bitV e.b8 58 ||| bitV e.b9 59 ||| bitV e.b10 60 ||| bitV e.b11 61) (frameF e.f) (by
    intro j hj
    simp only [BitVec.getLsbD_or, frame_lsb _ _ hj, bitV_lsb _ 0 j (by decide), bitV_lsb _ 1 j (by decide), bitV_lsb _ 2 j (by decide), bitV_lsb _ 3 j (by decide), bitV_lsb _ 4 j (by decide), bitV_lsb _ 5 j (by decide), bitV_lsb _ 6 j (by decide), bitV_lsb _ 7 j (by decide), bitV_lsb _ 58 j (by decide), bitV_lsb _ 59 j (by decide), bitV_lsb _ 60 j (by decide), bitV_lsb _ 61 j (by decide)]
    by_cases c : 10 ≤ j ∧ j < 54
    · obtain ⟨c1, c2⟩ := c
      have n0 : ¬ (0 : Int).toNat = j := by simp; omega
      have n1 : ¬ (1 : Int).toNat = j := by simp; omega
      have n2 : ¬ (2 : Int).toNat = j := by simp; omega
      have n3 : ¬ (3 : Int).toNat = j := by simp; omega
      have n4 : ¬ (4 : Int).toNat = j := by simp; omega
      have n5 : ¬ (5 : Int).toNat = j := by simp; omega
      have n6 : ¬ (6 : Int).toNat = j := by simp; omega
      have n7 : ¬ (7 : Int).toNat = j := by simp; omega
      have n58 : ¬ (58 : Int).toNat = j := by simp; omega
      have n59 : ¬ (59 : Int).toNat = j := by simp; omega
      have n60 : ¬ (60 : Int).toNat = j := by simp; omega
      have n61 : ¬ (61 : Int).toNat = j := by simp; omega
      rw [decide_eq_false n0, decide_eq_false n1, decide_eq_false n2, decide_eq_false n3, decide_eq_false n4, decide_eq_false n5, decide_eq_false n6, decide_eq_false n7, decide_eq_false n58, decide_eq_false n59, decide_eq_false n60, decide_eq_false n61]
      simp
    · rw [show (decide (10 ≤ j) && decide (j < 54)) = false from by simpa using c]
      simp)]
  unfold orE
  ac_rfl
end Go.Proofs.Ytnfaalknhcenpaa
