
/-
  What is handed back, where what is asked already tells its cells.
-/
import Derived.Test.YtpjcijmdoofcbaaCells
namespace Go.Proofs.Ytpjcijmdoofcbaa
open Go Go.RowKit
set_option linter.unusedVariables false

section
variable {P : Program} {fn : Func} {p t : Tmp} {ty : TypeId} {vs : List Value} {v : Value} {d : TypeDesc} {w w0 : World} {a : Act} {g B : Nat}
theorem ret_c (h : fn.results = #[.cell p ty]) (hp : a.tmps.getD p undef = .pointer (some ⟨g, 0, none⟩)) (hd : a.defers = [])
    (hu : P.underlying ty = some d) (hk : (match d with | .struct _ | .array _ _ => true | _ => false) = true) (hi : (P.info? ty).map (·.size) = some vs.length) (hb : Below B w0 w) (hc : cellsAre w g 0 vs) :
    bodyPost P fn (fun r w' => r = .returned (.agg vs.toArray) ∧ Below B w0 w') .ret a w :=
  bodyPost_ret (results_c vs h hp hc hu hk hi) hd ⟨rfl, hb⟩
theorem ret_ct (h : fn.results = #[.cell p ty, .tmp t]) (hp : a.tmps.getD p undef = .pointer (some ⟨g, 0, none⟩)) (hd : a.defers = [])
    (hu : P.underlying ty = some d) (hk : (match d with | .struct _ | .array _ _ => true | _ => false) = true) (hi : (P.info? ty).map (·.size) = some vs.length) (hb : Below B w0 w) (ht : a.tmps.getD t undef = v) (hc : cellsAre w g 0 vs) :
    bodyPost P fn (fun r w' => r = .returned (.tuple #[.agg vs.toArray, v]) ∧ Below B w0 w') .ret a w :=
  bodyPost_ret (results_ct vs v h hp ht hc hu hk hi) hd ⟨rfl, hb⟩
end
theorem bool_of {b c : Bool} (h : b = c) : (Value.bool b) = .bool c := by rw [h]
end Go.Proofs.Ytpjcijmdoofcbaa
