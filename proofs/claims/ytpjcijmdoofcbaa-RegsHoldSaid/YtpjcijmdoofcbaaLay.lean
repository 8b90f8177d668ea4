
/-
  field.Lay: the word of some fields, whatever slice they lie in.
-/
import Derived.Test.YtpjcijmdoofcbaaField
namespace Go.Proofs.Ytpjcijmdoofcbaa
open Go Go.RowKit
set_option linter.unusedVariables false
set_option linter.unusedSimpArgs false

/-- A field, and what it is. -/
abbrev PartV := Int × Int × BitVec 64
def layF (l : List PartV) : BitVec 64 := l.foldl (fun out p => putF out p.1 p.2.1 p.2.2) 0#64
theorem layF_snoc (l : List PartV) (k : Nat) (h : k < l.length) : layF (l.take (k + 1)) = putF (layF (l.take k)) l[k].1 l[k].2.1 l[k].2.2 := by
  unfold layF
  rw [List.take_succ_eq_append_getElem h, List.foldl_append]
  rfl

/-- The fields lie in a slice. -/
def PartsAt (w : World) (b off : Nat) (l : List PartV) : Prop :=
  ∀ (k : Nat) (h : k < l.length), w.cell? ⟨b, off + k * 3, none⟩ = some (.int .i64 l[k].1) ∧ w.cell? ⟨b, off + k * 3 + 1, none⟩ = some (.int .i64 l[k].2.1) ∧ w.cell? ⟨b, off + k * 3 + 2, none⟩ = some (.int .u64 (U l[k].2.2))

end Go.Proofs.Ytpjcijmdoofcbaa
