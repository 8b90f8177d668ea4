/-
  No cell of these rows narrows 'for every input' (looked for: loops, veiled, ifaces, maps, wideKeys, modest, calm, conditions, laid).
  DERIVED. THE GIVEN ROWS OF THIS SEAT. 4 by the template 'for every input the law returns true; each argument reads behind the call as it read before'; 0 by the template 'total and deterministic' (their statements: YtokfokgbbpjgdaaTotals.lean).
  GIVEN WITH THE SEED: the statements are not yours to turn. If you find one false, say at which input.
  Laid BY PROGRAM, IN A SANDBOX (cutbox-rows.mjs): the forced cells as the released guide's own fill.sh prints them over the translation d942894158185988… (all of the seat's roots in one cut). By AI agents, Wed Nov 11 2026. No macro, syntax, notation, axiom, sorry.
-/
import Derived.Test.YtokfokgbbpjgdaaChecked
import GoSem.Claim
import GoSem.ClaimJoined
import GoSem.ClaimMapViews
import Derived.JoinedTies
import Derived.KernelRfl
namespace Go.Proofs.Ytokfokgbbpjgdaa
/- THE CELL 'sum', in the pinned program and in every row, IS THE sha256 OF THE DUMP (.gsa) THAT YtokfokgbbpjgdaaProg.lean LOADS. Nothing in Lean hashes anything: it is a label: what it is worth is what the hold of that sum in a sandbox is worth. -/
noncomputable def Try.pinned : Pinned := { name := "ytokfokgbbpjgdaa", sum := "d9428941581859880961eabfca4cd87c51a031fd4447e6362caaa84e3a175009", checked := Try.checked }
namespace Rows
def none {H : Type} : Left H := { results := [], args := [] }

/-- 'mintmarklaw13.InstCodes': WHATEVER THE INPUT: true; the input reads as it did. -/
def instCodesSpec : ChangeSpec := { name := "instCodes", fn := fun _ => fun
  | [d1, d2] => { results := [.lit (.bool true)], args := [d1, d2] }
  | _ => none }
def instCodesRow : OpenClaim := { program := "ytokfokgbbpjgdaa", sum := "d9428941581859880961eabfca4cd87c51a031fd4447e6362caaa84e3a175009", func := "mintmark/mintmarklaw13.InstCodes", spec := "instCodes", unfollowed := true, recurses := true, apart := false }
def InstCodesSaid : Prop := instCodesRow.holds Try.pinned (OpenSpec.ofChange instCodesSpec)

/-- ITS FALSE NEIGHBOUR: 'it returns false'. Refute it at one input. -/
def instCodesWrong : ChangeSpec := { name := "instCodes", fn := fun _ => fun
  | [d1, d2] => { results := [.lit (.bool false)], args := [d1, d2] }
  | _ => none }
def InstCodesWrongFalsely : Prop := instCodesRow.holds Try.pinned (OpenSpec.ofChange instCodesWrong)

/-- 'mintmarklaw13.InstFields': WHATEVER THE INPUT: true; the input reads as it did. -/
def instFieldsSpec : ChangeSpec := { name := "instFields", fn := fun _ => fun
  | [d1, d2] => { results := [.lit (.bool true)], args := [d1, d2] }
  | _ => none }
def instFieldsRow : OpenClaim := { program := "ytokfokgbbpjgdaa", sum := "d9428941581859880961eabfca4cd87c51a031fd4447e6362caaa84e3a175009", func := "mintmark/mintmarklaw13.InstFields", spec := "instFields", unfollowed := true, recurses := true, apart := false }
def InstFieldsSaid : Prop := instFieldsRow.holds Try.pinned (OpenSpec.ofChange instFieldsSpec)

/-- ITS FALSE NEIGHBOUR: 'it returns false'. Refute it at one input. -/
def instFieldsWrong : ChangeSpec := { name := "instFields", fn := fun _ => fun
  | [d1, d2] => { results := [.lit (.bool false)], args := [d1, d2] }
  | _ => none }
def InstFieldsWrongFalsely : Prop := instFieldsRow.holds Try.pinned (OpenSpec.ofChange instFieldsWrong)

/-- 'mintmarklaw13.InstOne': WHATEVER THE INPUT: true; the input reads as it did. -/
def instOneSpec : ChangeSpec := { name := "instOne", fn := fun _ => fun
  | [d1, d2, d3] => { results := [.lit (.bool true)], args := [d1, d2, d3] }
  | _ => none }
def instOneRow : OpenClaim := { program := "ytokfokgbbpjgdaa", sum := "d9428941581859880961eabfca4cd87c51a031fd4447e6362caaa84e3a175009", func := "mintmark/mintmarklaw13.InstOne", spec := "instOne", unfollowed := true, recurses := true, apart := false }
def InstOneSaid : Prop := instOneRow.holds Try.pinned (OpenSpec.ofChange instOneSpec)

/-- ITS FALSE NEIGHBOUR: 'it returns false'. Refute it at one input. -/
def instOneWrong : ChangeSpec := { name := "instOne", fn := fun _ => fun
  | [d1, d2, d3] => { results := [.lit (.bool false)], args := [d1, d2, d3] }
  | _ => none }
def InstOneWrongFalsely : Prop := instOneRow.holds Try.pinned (OpenSpec.ofChange instOneWrong)

/-- 'mintmarklaw13.InstBack': WHATEVER THE INPUT: true; the input reads as it did. -/
def instBackSpec : ChangeSpec := { name := "instBack", fn := fun _ => fun
  | [d1, d2] => { results := [.lit (.bool true)], args := [d1, d2] }
  | _ => none }
def instBackRow : OpenClaim := { program := "ytokfokgbbpjgdaa", sum := "d9428941581859880961eabfca4cd87c51a031fd4447e6362caaa84e3a175009", func := "mintmark/mintmarklaw13.InstBack", spec := "instBack", unfollowed := true, recurses := true, apart := false }
def InstBackSaid : Prop := instBackRow.holds Try.pinned (OpenSpec.ofChange instBackSpec)

/-- ITS FALSE NEIGHBOUR: 'it returns false'. Refute it at one input. -/
def instBackWrong : ChangeSpec := { name := "instBack", fn := fun _ => fun
  | [d1, d2] => { results := [.lit (.bool false)], args := [d1, d2] }
  | _ => none }
def InstBackWrongFalsely : Prop := instBackRow.holds Try.pinned (OpenSpec.ofChange instBackWrong)

/- THE SECOND FORM. 'bulk': how many values and letters a reading holds, each counted each time it is reached (what is shared counts as often as it is met; a slice's spare places count too). A statement '..UptoSaid' is the law's where the arguments, and the package variables that the reading takes, are together of bulk at most 1048576: NARROWER than '..Said'. Prove '..Said' where nothing that the law and all that it calls make is longer than what came in: it says more and counts as full. Else prove '..UptoSaid'. A law counts once. -/
mutual
def uptoBulk {H : Type} : DataW H → Nat
  | .lit (.string bytes) => bytes.length + 1
  | .lit _ => 1
  | .nil => 1
  | .ptr d => uptoBulk d + 1
  | .slice elems spare => uptoBulkAll elems + uptoBulkAll spare + 1
  | .agg parts => uptoBulkAll parts + 1
  | .iface _ d => uptoBulk d + 1
  | .map entries => uptoBulkEntries entries + 1
  | .held _ => 1
def uptoBulkAll {H : Type} : List (DataW H) → Nat
  | [] => 0
  | d :: r => uptoBulk d + uptoBulkAll r
def uptoBulkEntries {H : Type} : List (Lit × DataW H) → Nat
  | [] => 0
  | x :: r => uptoBulkEntry x + uptoBulkEntries r
def uptoBulkEntry {H : Type} : Lit × DataW H → Nat
  | (.string bytes, d) => bytes.length + uptoBulk d + 1
  | (_, d) => uptoBulk d + 1
 end
def uptoSmall : (H : Type) → List (DataW H) → Bool := fun _ ds => decide (uptoBulkAll ds ≤ 1048576)
def OpenSpec.upto (s : _root_.Go.ChangeSpec) : _root_.Go.OpenSpec := { _root_.Go.OpenSpec.ofChange s with cond := some uptoSmall }

/-- 'mintmarklaw13.InstCodes', WHERE WHAT IT READS IS OF BULK AT MOST 1048576: true; the input reads as it did. -/
def instCodesUptoRow : OpenClaim := { program := "ytokfokgbbpjgdaa", sum := "d9428941581859880961eabfca4cd87c51a031fd4447e6362caaa84e3a175009", func := "mintmark/mintmarklaw13.InstCodes", spec := "instCodes", unfollowed := true, recurses := true, apart := false, narrowed := true }
def InstCodesUptoSaid : Prop := instCodesUptoRow.holds Try.pinned (OpenSpec.upto instCodesSpec)

/-- 'mintmarklaw13.InstFields', WHERE WHAT IT READS IS OF BULK AT MOST 1048576: true; the input reads as it did. -/
def instFieldsUptoRow : OpenClaim := { program := "ytokfokgbbpjgdaa", sum := "d9428941581859880961eabfca4cd87c51a031fd4447e6362caaa84e3a175009", func := "mintmark/mintmarklaw13.InstFields", spec := "instFields", unfollowed := true, recurses := true, apart := false, narrowed := true }
def InstFieldsUptoSaid : Prop := instFieldsUptoRow.holds Try.pinned (OpenSpec.upto instFieldsSpec)

/-- 'mintmarklaw13.InstOne', WHERE WHAT IT READS IS OF BULK AT MOST 1048576: true; the input reads as it did. -/
def instOneUptoRow : OpenClaim := { program := "ytokfokgbbpjgdaa", sum := "d9428941581859880961eabfca4cd87c51a031fd4447e6362caaa84e3a175009", func := "mintmark/mintmarklaw13.InstOne", spec := "instOne", unfollowed := true, recurses := true, apart := false, narrowed := true }
def InstOneUptoSaid : Prop := instOneUptoRow.holds Try.pinned (OpenSpec.upto instOneSpec)

/-- 'mintmarklaw13.InstBack', WHERE WHAT IT READS IS OF BULK AT MOST 1048576: true; the input reads as it did. -/
def instBackUptoRow : OpenClaim := { program := "ytokfokgbbpjgdaa", sum := "d9428941581859880961eabfca4cd87c51a031fd4447e6362caaa84e3a175009", func := "mintmark/mintmarklaw13.InstBack", spec := "instBack", unfollowed := true, recurses := true, apart := false, narrowed := true }
def InstBackUptoSaid : Prop := instBackUptoRow.holds Try.pinned (OpenSpec.upto instBackSpec)

end Rows
end Go.Proofs.Ytokfokgbbpjgdaa
