
/-
  Sweeps of contexts: plain.
-/
import Derived.Test.YtpjcijmdoofcbaaGxD
namespace Go.Proofs.Ytpjcijmdoofcbaa
open Go Go.RowKit
set_option linter.unusedVariables false
set_option linter.unusedSimpArgs false

def hitF (p : BitVec 64 → Bool) (L : List Cp) (k : Nat) : Bool := tg L k && p (baseF (capAt L k))
def clearC (c : Cp) : Cp := ⟨false, c.m, c.a⟩
/-- A sweep, register by register. -/
def sweepF (p : BitVec 64 → Bool) (L : List Cp) : List Cp := (List.range 33).map fun k => if hitF p L k = true then clearC (capAt L k) else capAt L k
theorem sweepF_len (p : BitVec 64 → Bool) (L : List Cp) : (sweepF p L).length = 33 := by unfold sweepF; rw [List.length_map, List.length_range]
theorem capAt_sweep (p : BitVec 64 → Bool) (L : List Cp) (k : Nat) (hk : k < 33) : capAt (sweepF p L) k = if hitF p L k = true then clearC (capAt L k) else capAt L k := by
  have : (sweepF p L)[k]? = some (if hitF p L k = true then clearC (capAt L k) else capAt L k) := by
    unfold sweepF
    rw [List.getElem?_map, List.getElem?_range hk]
    rfl
  show ((sweepF p L)[k]?).getD default = _
  rw [this]
  rfl
theorem swept_get (p : BitVec 64 → Bool) (L : List Cp) (ks : List Nat) (k : Nat) (hk : k < L.length) : (sweptL p L ks)[k]? = some (if (ks.contains k && p (baseF (capAt L k))) = true then clearC (capAt L k) else capAt L k) := by
  have gen : ∀ (ks : List Nat) (M : List Cp), M.length = L.length → (ks.foldl (fun M k => if p (baseF (capAt L k)) = true then M.set k ⟨false, (capAt L k).m, (capAt L k).a⟩ else M) M)[k]? = if (ks.contains k && p (baseF (capAt L k))) = true then some (clearC (capAt L k)) else M[k]? := by
    intro ks
    induction ks with
    | nil => intro M _; simp
    | cons j ks ih =>
      intro M hM
      rw [List.foldl_cons]
      by_cases hp : p (baseF (capAt L j)) = true
      · rw [if_pos hp, ih _ (by rw [List.length_set]; exact hM), List.contains_cons]
        by_cases hj : k = j
        · subst hj
          rw [hp, List.getElem?_set_self (by omega)]
          simp [clearC]
        · rw [List.getElem?_set_ne (fun e => hj e.symm), show (k == j) = false from beq_eq_false_iff_ne.2 hj, Bool.false_or]
      · rw [if_neg hp, ih M hM, List.contains_cons]
        by_cases hj : k = j
        · subst hj
          simp [hp]
        · rw [show (k == j) = false from beq_eq_false_iff_ne.2 hj, Bool.false_or]
  have := gen ks L rfl
  unfold sweptL
  rw [this]
  split
  · rfl
  · exact capAt_get L k hk
theorem tags_mem (L : List Cp) (k : Nat) (hk : k < 33) : (tagsTo L 33).contains k = tg L k := by
  unfold tagsTo
  rw [Bool.eq_iff_iff, List.contains_iff_mem, List.mem_filter, List.mem_range]
  exact ⟨fun h => h.2, fun h => ⟨hk, h⟩⟩
theorem swept_is (p : BitVec 64 → Bool) (L : List Cp) (hL : L.length = 33) : sweptL p L (tagsTo L 33) = sweepF p L := by
  apply List.ext_getElem?
  intro k
  by_cases hk : k < 33
  · rw [swept_get p L _ k (by omega), tags_mem L k hk]
    unfold sweepF hitF
    rw [List.getElem?_map, List.getElem?_range hk]
    rfl
  · rw [List.getElem?_eq_none (by rw [sweptL_len]; omega), List.getElem?_eq_none (by rw [sweepF_len]; omega)]
theorem sweptN_is (p : BitVec 64 → Bool) (L : List Cp) : sweptN p L (tagsTo L 33) = ((List.range 33).filter (hitF p L)).length := by
  unfold sweptN tagsTo
  rw [List.filter_filter]
  congr 1
  apply List.filter_congr
  intro k _
  unfold hitF
  rw [Bool.and_comm]
theorem hit_sweep (p q : BitVec 64 → Bool) (L : List Cp) (k : Nat) (hk : k < 33) : hitF q (sweepF p L) k = (hitF q L k && !hitF p L k) := by
  unfold hitF tg
  rw [capAt_sweep p L k hk]
  unfold hitF tg
  by_cases h : (decide (1 ≤ k) && (capAt L k).g && p (baseF (capAt L k))) = true
  · rw [if_pos h, h]
    simp [clearC]
  · rw [if_neg h]
    have h' : (decide (1 ≤ k) && (capAt L k).g && p (baseF (capAt L k))) = false := by simpa using h
    rw [h']
    simp
theorem sweep_both (p q r : BitVec 64 → Bool) (hr : ∀ b, r b = (p b || q b)) (L : List Cp) : sweepF q (sweepF p L) = sweepF r L := by
  unfold sweepF
  apply List.map_congr_left
  intro k hk
  have hk' : k < 33 := by simpa using hk
  have h1 := hit_sweep p q L k hk'
  have h2 := capAt_sweep p L k hk'
  unfold sweepF at h1 h2
  rw [h1, h2]
  have h3 : hitF r L k = (hitF p L k || hitF q L k) := by
    unfold hitF
    rw [hr]
    cases tg L k <;> rfl
  rw [h3]
  cases hitF p L k <;> cases hitF q L k <;> simp [clearC]
theorem count_both (p q r : BitVec 64 → Bool) (hr : ∀ b, r b = (p b || q b)) (L : List Cp) : ((List.range 33).filter (hitF p L)).length + ((List.range 33).filter (hitF q (sweepF p L))).length = ((List.range 33).filter (hitF r L)).length := by
  have gen : ∀ ks : List Nat, (∀ k ∈ ks, k < 33) → (ks.filter (hitF p L)).length + (ks.filter (hitF q (sweepF p L))).length = (ks.filter (hitF r L)).length := by
    intro ks
    induction ks with
    | nil => intro _; rfl
    | cons k ks ih =>
      intro h
      have i := ih (fun j hj => h j (List.mem_cons_of_mem _ hj))
      have h1 := hit_sweep p q L k (h k List.mem_cons_self)
      have h3 : hitF r L k = (hitF p L k || hitF q L k) := by
        unfold hitF
        rw [hr]
        cases tg L k <;> rfl
      rw [List.filter_cons, List.filter_cons, List.filter_cons, h1, h3]
      cases hitF p L k <;> cases hitF q L k <;> simp <;> omega
  exact gen _ (fun k hk => by simpa using hk)
theorem count_again (p q : BitVec 64 → Bool) (L : List Cp) : ((List.range 33).filter (hitF q (sweepF q L))).length = 0 := by
  rw [List.length_eq_zero_iff, List.filter_eq_nil_iff]
  intro k hk
  have hk' : k < 33 := by simpa using hk
  rw [hit_sweep q q L k hk']
  simp
end Go.Proofs.Ytpjcijmdoofcbaa
