
/-
  A struct or an array that is handed back: its cells were set one by one.
-/
import Derived.Test.YtpjcijmdoofcbaaBv
import Derived.Laws.Rows
import Derived.Laws.IdiomCopy
import Derived.Handy
import Derived.Laws.StructEq
import Derived.KernelRfl
namespace Go.Proofs.Ytpjcijmdoofcbaa
open Go Go.RowKit
set_option linter.unusedVariables false

theorem results_cells {P : Program} {fn : Func} {p : Tmp} {ty : TypeId} (vs : List Value) (d : TypeDesc) (w1 : World) (h : fn.results = #[.cell p ty]) (tmps : Array Value) (g : Nat)
    (hp : tmps.getD p undef = .pointer (some ⟨g, 0, none⟩)) (hz : ∀ j, j < vs.length → (w1.cell? ⟨g, 0 + j, none⟩).isSome = true)
    (hu : P.underlying ty = some d) (hd : (match d with | .struct _ | .array _ _ => true | _ => false) = true) (hi : (P.info? ty).map (·.size) = some vs.length) :
    (results fn tmps).run P (w1.setCells g 0 vs) = .ok (.agg vs.toArray) (w1.setCells g 0 vs) := by
  have hp' : tmps[p]?.getD undef = .pointer (some ⟨g, 0, none⟩) := by simpa using hp
  have hl : (loadVar ty ⟨g, 0, none⟩).run P (w1.setCells g 0 vs) = .ok (.agg vs.toArray) (w1.setCells g 0 vs) := by
    have hl : (loadCells ⟨g, 0, none⟩ vs.length).run P (w1.setCells g 0 vs) = .ok vs.toArray (w1.setCells g 0 vs) :=
      run_loadCells_list (P := P) _ ⟨g, 0, none⟩ vs (fun j v hv => by
        have hadd : (⟨g, 0, none⟩ : Addr).add j = ⟨g, 0 + j, none⟩ := by unfold Addr.add; split <;> simp_all
        have hj : j < vs.length := by
          by_cases c : j < vs.length
          · exact c
          · rw [List.getElem?_eq_none (by omega)] at hv; cases hv
        rw [hadd, World.cell?_setCells_in _ _ _ _ hz j hj]
        rw [List.getElem?_eq_getElem hj] at hv
        exact hv)
    cases hq : P.info? ty with
    | none => simp [hq] at hi
    | some i =>
      have hs : i.size = vs.length := by simpa [hq] using hi
      have hagg : (isAgg ty).run P (w1.setCells g 0 vs) = .ok true (w1.setCells g 0 vs) := by
        unfold isAgg
        rw [Sem.run_bind, run_underlying hu _]
        cases d <;> simp_all
      simp [loadVar, Sem.run_bind, hagg, sizeOf, typeInfo, hq, hs, hl]
  simp [results, h, hp', asAddr, hl]
theorem setCells_3 (w : World) (g : Nat) (a b c : Value) : ((w.setCell ⟨g, 0, none⟩ a).setCell ⟨g, 1, none⟩ b).setCell ⟨g, 2, none⟩ c = w.setCells g 0 [a, b, c] := rfl
theorem setCells_2 (w : World) (g : Nat) (a b : Value) : (w.setCell ⟨g, 0, none⟩ a).setCell ⟨g, 1, none⟩ b = w.setCells g 0 [a, b] := rfl
theorem setCells_13 (w : World) (g : Nat) (v0 v1 v2 v3 v4 v5 v6 v7 v8 v9 v10 v11 v12 : Value) : (((((((((((((w.setCell ⟨g, 0, none⟩ v0).setCell ⟨g, 1, none⟩ v1).setCell ⟨g, 2, none⟩ v2).setCell ⟨g, 3, none⟩ v3).setCell ⟨g, 4, none⟩ v4).setCell ⟨g, 5, none⟩ v5).setCell ⟨g, 6, none⟩ v6).setCell ⟨g, 7, none⟩ v7).setCell ⟨g, 8, none⟩ v8).setCell ⟨g, 9, none⟩ v9).setCell ⟨g, 10, none⟩ v10).setCell ⟨g, 11, none⟩ v11).setCell ⟨g, 12, none⟩ v12) = w.setCells g 0 [v0, v1, v2, v3, v4, v5, v6, v7, v8, v9, v10, v11, v12] := rfl
theorem neq_of_eql {P : Program} {w : World} {t : TypeId} {xs ys : Array Value} {b : Bool} (h : (binOp .eql t (.agg xs) (.agg ys)).run P w = .ok (.bool b) w) : (binOp .neq t (.agg xs) (.agg ys)).run P w = .ok (.bool (!b)) w := by
  rw [run_eql_struct] at h
  rw [run_neq_struct]
  cases hr : (Op.equalIn 10000 t (.agg xs) (.agg ys)).run P w with
  | ok c w' =>
    rw [hr] at h
    simp only [Result.andThen, Result.ok.injEq, Value.bool.injEq] at h ⊢
    obtain ⟨rfl, rfl⟩ := h
    exact ⟨rfl, rfl⟩
  | halt x w' => rw [hr] at h; simp [Result.andThen] at h
/-- The cells of a block, one by one. -/
def cellsAre (w : World) (g : Nat) : Nat → List Value → Prop
  | _, [] => True
  | o, v :: r => w.cell? ⟨g, o, none⟩ = some v ∧ cellsAre w g (o + 1) r
theorem cellsAre_nil (w : World) (g o : Nat) : cellsAre w g o [] = True := rfl
theorem cellsAre_cons (w : World) (g o : Nat) (v : Value) (r : List Value) : cellsAre w g o (v :: r) = (w.cell? ⟨g, o, none⟩ = some v ∧ cellsAre w g (o + 1) r) := rfl
attribute [go_sem] cellsAre_nil cellsAre_cons
theorem cellsAre_at {w : World} {g : Nat} : ∀ (vs : List Value) (o : Nat), cellsAre w g o vs → ∀ j v, vs[j]? = some v → w.cell? ⟨g, o + j, none⟩ = some v
  | [], o, _, j, v, hv => by simp at hv
  | x :: r, o, h, j, v, hv => by
    cases j with
    | zero => simp at hv; subst hv; exact h.1
    | succ j =>
      have := cellsAre_at r (o + 1) h.2 j v (by simpa using hv)
      rw [show o + 1 + j = o + (j + 1) by omega] at this
      exact this
theorem loadVar_are {P : Program} {ty : TypeId} {g : Nat} {w : World} {vs : List Value} {d : TypeDesc} (hc : cellsAre w g 0 vs)
    (hu : P.underlying ty = some d) (hd : (match d with | .struct _ | .array _ _ => true | _ => false) = true) (hi : (P.info? ty).map (·.size) = some vs.length) :
    (loadVar ty ⟨g, 0, none⟩).run P w = .ok (.agg vs.toArray) w := by
  have hl : (loadCells ⟨g, 0, none⟩ vs.length).run P w = .ok vs.toArray w :=
    run_loadCells_list (P := P) _ ⟨g, 0, none⟩ vs (fun j v hv => by
      have hadd : (⟨g, 0, none⟩ : Addr).add j = ⟨g, 0 + j, none⟩ := by unfold Addr.add; split <;> simp_all
      rw [hadd]
      exact cellsAre_at vs 0 hc j v hv)
  cases hq : P.info? ty with
  | none => simp [hq] at hi
  | some i =>
    have hs : i.size = vs.length := by simpa [hq] using hi
    have hagg : (isAgg ty).run P w = .ok true w := by
      unfold isAgg
      rw [Sem.run_bind, run_underlying hu _]
      cases d <;> simp_all
    simp [loadVar, Sem.run_bind, hagg, sizeOf, typeInfo, hq, hs, hl]
section
variable {P : Program} {fn : Func} {p : Tmp} {ty : TypeId} {vs : List Value} {d : TypeDesc} {w : World} {tmps : Array Value} {g : Nat}
/-- What is handed back: a struct in a cell; one and a slot; a slot and one; one and two slots. -/
theorem results_c (vs : List Value) (h : fn.results = #[.cell p ty]) (hp : tmps.getD p undef = .pointer (some ⟨g, 0, none⟩)) (hc : cellsAre w g 0 vs)
    (hu : P.underlying ty = some d) (hd : (match d with | .struct _ | .array _ _ => true | _ => false) = true) (hi : (P.info? ty).map (·.size) = some vs.length) :
    (results fn tmps).run P w = .ok (.agg vs.toArray) w := by
  have hp' : tmps[p]?.getD undef = .pointer (some ⟨g, 0, none⟩) := by simpa using hp
  simp [results, h, hp', asAddr, loadVar_are hc hu hd hi]
theorem results_ct {t : Tmp} (vs : List Value) (v : Value) (h : fn.results = #[.cell p ty, .tmp t]) (hp : tmps.getD p undef = .pointer (some ⟨g, 0, none⟩)) (ht : tmps.getD t undef = v) (hc : cellsAre w g 0 vs)
    (hu : P.underlying ty = some d) (hd : (match d with | .struct _ | .array _ _ => true | _ => false) = true) (hi : (P.info? ty).map (·.size) = some vs.length) :
    (results fn tmps).run P w = .ok (.tuple #[.agg vs.toArray, v]) w := by
  have hp' : tmps[p]?.getD undef = .pointer (some ⟨g, 0, none⟩) := by simpa using hp
  have ht' : tmps[t]?.getD undef = v := by simpa using ht
  simp [results, h, hp', ht', asAddr, loadVar_are hc hu hd hi]
theorem results_tc {t : Tmp} (vs : List Value) (v : Value) (h : fn.results = #[.tmp t, .cell p ty]) (hp : tmps.getD p undef = .pointer (some ⟨g, 0, none⟩)) (ht : tmps.getD t undef = v) (hc : cellsAre w g 0 vs)
    (hu : P.underlying ty = some d) (hd : (match d with | .struct _ | .array _ _ => true | _ => false) = true) (hi : (P.info? ty).map (·.size) = some vs.length) :
    (results fn tmps).run P w = .ok (.tuple #[v, .agg vs.toArray]) w := by
  have hp' : tmps[p]?.getD undef = .pointer (some ⟨g, 0, none⟩) := by simpa using hp
  have ht' : tmps[t]?.getD undef = v := by simpa using ht
  simp [results, h, hp', ht', asAddr, loadVar_are hc hu hd hi]
end
/-- What a call left as it was, as the walk reads it. -/
theorem below_facts {B : Nat} {w w' : World} (h : Below B w w') : (∀ a : Addr, a.block < B → w'.cell? a = w.cell? a) ∧ (∀ a : Addr, a.block < B → w'.frozen? a = w.frozen? a) ∧ w.heap.size ≤ w'.heap.size :=
  ⟨fun a ha => h.cell ha, fun a ha => h.frozen ha, h.size⟩
end Go.Proofs.Ytpjcijmdoofcbaa
