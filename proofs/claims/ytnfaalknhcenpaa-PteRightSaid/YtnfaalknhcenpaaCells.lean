
/-
  A struct or an array that is handed back: its cells were set one by one.
-/
import Derived.Test.YtnfaalknhcenpaaBv
import Derived.Laws.Rows
import Derived.Laws.IdiomCopy
import Derived.Handy
import Derived.KernelRfl
namespace Go.Proofs.Ytnfaalknhcenpaa
open Go Go.RowKit
set_option linter.unusedVariables false

theorem results_cells {P : Program} {fn : Func} {p : Tmp} {ty : TypeId} (vs : List Value) (d : TypeDesc) (w1 : World) (h : fn.results = #[.cell p ty]) (tmps : Array Value) (g : Nat)
    (hp : tmps.getD p undef = .pointer (some ⟨g, 0, none⟩)) (hz : ∀ j, j < vs.length → (w1.cell? ⟨g, 0 + j, none⟩).isSome = true)
    (hu : P.underlying ty = some d) (hd : (match d with | .struct _ | .array _ _ => true | _ => false) = true) (hi : (P.info? ty).map (·.size) = some vs.length) :
    (results fn tmps).run P (w1.setCells g 0 vs) = .ok (.agg vs.toArray) (w1.setCells g 0 vs) := by
  have hp' : tmps[p]?.getD undef = .pointer (some ⟨g, 0, none⟩) := by simpa using hp
  have hl : (loadVar ty ⟨g, 0, none⟩).run P (w1.setCells g 0 vs) = .ok (.agg vs.toArray) (w1.setCells g 0 vs) := by
    have hl : (loadCells ⟨g, 0, none⟩ vs.length).run P (w1.setCells g 0 vs) = .ok vs.toArray (w1.setCells g 0 vs) :=
      run_loadCells_list (P := P) _ ⟨g, 0, none⟩ vs (fun j v hv => by
        have hadd : (⟨g, 0, none⟩ : Addr).add j = ⟨g, 0 + j, none⟩ := by unfold Addr.add; split <;> simp_all
        have hj : j < vs.length := by
          by_cases c : j < vs.length
          · exact c
          · rw [List.getElem?_eq_none (by omega)] at hv; cases hv
        rw [hadd, World.cell?_setCells_in _ _ _ _ hz j hj]
        rw [List.getElem?_eq_getElem hj] at hv
        exact hv)
    cases hq : P.info? ty with
    | none => simp [hq] at hi
    | some i =>
      have hs : i.size = vs.length := by simpa [hq] using hi
      have hagg : (isAgg ty).run P (w1.setCells g 0 vs) = .ok true (w1.setCells g 0 vs) := by
        unfold isAgg
        rw [Sem.run_bind, run_underlying hu _]
        cases d <;> simp_all
      simp [loadVar, Sem.run_bind, hagg, sizeOf, typeInfo, hq, hs, hl]
  simp [results, h, hp', asAddr, hl]
theorem setCells_3 (w : World) (g : Nat) (a b c : Value) : ((w.setCell ⟨g, 0, none⟩ a).setCell ⟨g, 1, none⟩ b).setCell ⟨g, 2, none⟩ c = w.setCells g 0 [a, b, c] := rfl
theorem setCells_2 (w : World) (g : Nat) (a b : Value) : (w.setCell ⟨g, 0, none⟩ a).setCell ⟨g, 1, none⟩ b = w.setCells g 0 [a, b] := rfl
theorem setCells_13 (w : World) (g : Nat) (v0 v1 v2 v3 v4 v5 v6 v7 v8 v9 v10 v11 v12 : Value) : (((((((((((((w.setCell ⟨g, 0, none⟩ v0).setCell ⟨g, 1, none⟩ v1).setCell ⟨g, 2, none⟩ v2).setCell ⟨g, 3, none⟩ v3).setCell ⟨g, 4, none⟩ v4).setCell ⟨g, 5, none⟩ v5).setCell ⟨g, 6, none⟩ v6).setCell ⟨g, 7, none⟩ v7).setCell ⟨g, 8, none⟩ v8).setCell ⟨g, 9, none⟩ v9).setCell ⟨g, 10, none⟩ v10).setCell ⟨g, 11, none⟩ v11).setCell ⟨g, 12, none⟩ v12) = w.setCells g 0 [v0, v1, v2, v3, v4, v5, v6, v7, v8, v9, v10, v11, v12] := rfl
/-- What a call left as it was, as the walk reads it. -/
theorem below_facts {B : Nat} {w w' : World} (h : Below B w w') : (∀ a : Addr, a.block < B → w'.cell? a = w.cell? a) ∧ (∀ a : Addr, a.block < B → w'.frozen? a = w.frozen? a) ∧ w.heap.size ≤ w'.heap.size :=
  ⟨fun a ha => h.cell ha, fun a ha => h.frozen ha, h.size⟩
end Go.Proofs.Ytnfaalknhcenpaa
