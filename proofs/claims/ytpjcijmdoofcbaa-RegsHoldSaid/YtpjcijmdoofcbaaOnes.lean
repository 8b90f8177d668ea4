
/-
  scale.Ones, scale.Zeros: the places of the bits that are 1, from the lowest on; the range over them.
-/
import Derived.Test.YtpjcijmdoofcbaaScale
import Derived.RangeFuncNested
import Derived.RangeFuncBound
import Derived.RangeFuncCalls
import Derived.RangeFuncLeaves
import Derived.RangeFuncBox
import Derived.Shelf.Abstract
import Derived.OwnWalkIn
import Derived.TacticsInMore
import Derived.LoopNIn
import Derived.LoopIn
namespace Go.Proofs.Ytpjcijmdoofcbaa
open Go Go.RowKit Go.Shelf
set_option linter.unusedVariables false
set_option linter.unusedSimpArgs false

attribute [local go_sem] Oper.semAt_some

theorem cell_new_l (W : World) (v : Value) (t : TypeId) : (W.alloc (.cells #[v] t)).cell? ⟨W.heap.size, 0, none⟩ = some v ∧ (W.alloc (.cells #[v] t)).frozen? ⟨W.heap.size, 0, none⟩ = false := by
  constructor <;> simp
theorem cell_alloc_l {W : World} {a : Addr} {v : Value} (o : Obj) (h : W.cell? a = some v) : (W.alloc o).cell? a = some v := cell_kept h (World.grownBy_alloc W o none) (fun r e => by cases e)
theorem frozen_alloc_l {W : World} {a : Addr} {v : Value} (o : Obj) (h : W.cell? a = some v) (hf : W.frozen? a = false) : (W.alloc o).frozen? a = false := (frozen_kept h (World.grownBy_alloc W o none) (fun r e => by cases e)).trans hf

/-- The places of the bits that are 1, below a place. -/
def onesTo (x : BitVec 64) (k : Nat) : List Nat := (List.range k).filter fun i => x.getLsbD i
theorem onesTo_succ (x : BitVec 64) (k : Nat) : onesTo x (k + 1) = onesTo x k ++ (if x.getLsbD k = true then [k] else []) := by
  unfold onesTo
  rw [List.range_succ, List.filter_append]
  congr 1
  cases h : x.getLsbD k <;> simp [h]
theorem onesTo_len (x : BitVec 64) (k : Nat) : (onesTo x k).length ≤ k := by
  unfold onesTo
  have := List.length_filter_le (fun i => x.getLsbD i) (List.range k)
  simpa using this
theorem onesTo_prefix (x : BitVec 64) (k : Nat) (m : Nat) : onesTo x k <+: onesTo x (k + m) := by
  induction m with
  | zero => exact List.prefix_rfl
  | succ m ih => exact ih.trans (by rw [← Nat.add_assoc, onesTo_succ]; exact List.prefix_append _ _)
/-- How many zeros stand behind the lowest bit that is 1; 64: there is none. -/
def zerosF (x : BitVec 64) : Nat := ((List.range 64).find? fun i => x.getLsbD i).getD 64
theorem zerosF_of (x : BitVec 64) (k : Nat) (hk : k < 64) (hb : x.getLsbD k = true) (hl : ∀ i, i < k → x.getLsbD i = false) : zerosF x = k := by
  unfold zerosF
  have : (List.range 64).find? (fun i => x.getLsbD i) = some k := by
    rw [List.find?_eq_some_iff_getElem]
    refine ⟨hb, k, by simpa using hk, by simp, fun j hj => ?_⟩
    simp [hl j hj]
  rw [this]; rfl
theorem zerosF_none (x : BitVec 64) (hl : ∀ i, i < 64 → x.getLsbD i = false) : zerosF x = 64 := by
  unfold zerosF
  have : (List.range 64).find? (fun i => x.getLsbD i) = none := by
    rw [List.find?_eq_none]
    intro i hi
    simp [hl i (by simpa using hi)]
  rw [this]; rfl
theorem onesTo_nil (x : BitVec 64) (k : Nat) (h : onesTo x k = []) : ∀ i, i < k → x.getLsbD i = false := by
  intro i hi
  unfold onesTo at h
  rw [List.filter_eq_nil_iff] at h
  simpa using h i (by simpa using hi)

end Go.Proofs.Ytpjcijmdoofcbaa
