/-
  No cell of these rows narrows 'for every input' (looked for: loops, veiled, ifaces, maps, wideKeys, modest, calm, conditions, laid).
  DERIVED. THE GIVEN ROWS OF THIS SEAT. 3 by the template 'for every input the law returns true; each argument reads behind the call as it read before'; 0 by the template 'total and deterministic' (their statements: YtpjcijmdoofcbaaTotals.lean).
  GIVEN WITH THE SEED: the statements are not yours to turn. If you find one false, say at which input.
  Laid BY PROGRAM, IN A SANDBOX (cutbox-rows.mjs): the forced cells as the released guide's own fill.sh prints them over the translation d95babe854ef45b9… (all of the seat's roots in one cut). By AI agents, Wed Nov 11 2026. No macro, syntax, notation, axiom, sorry.
-/
import Derived.Test.YtpjcijmdoofcbaaChecked
import GoSem.Claim
import GoSem.ClaimJoined
import GoSem.ClaimMapViews
import Derived.JoinedTies
import Derived.KernelRfl
namespace Go.Proofs.Ytpjcijmdoofcbaa
/- THE CELL 'sum', in the pinned program and in every row, IS THE sha256 OF THE DUMP (.gsa) THAT YtpjcijmdoofcbaaProg.lean LOADS. Nothing in Lean hashes anything: it is a label: what it is worth is what the hold of that sum in a sandbox is worth. -/
noncomputable def Try.pinned : Pinned := { name := "ytpjcijmdoofcbaa", sum := "d95babe854ef45b9b77b5c61d244132de9d729265601ae8d2893095efb83d141", checked := Try.checked }
namespace Rows
def none {H : Type} : Left H := { results := [], args := [] }

/-- 'mintmarklaw16.RegsTagged': WHATEVER THE INPUT: true; the input reads as it did. -/
def regsTaggedSpec : ChangeSpec := { name := "regsTagged", fn := fun _ => fun
  | [d1, d2] => { results := [.lit (.bool true)], args := [d1, d2] }
  | _ => none }
def regsTaggedRow : OpenClaim := { program := "ytpjcijmdoofcbaa", sum := "d95babe854ef45b9b77b5c61d244132de9d729265601ae8d2893095efb83d141", func := "mintmark/mintmarklaw16.RegsTagged", spec := "regsTagged", unfollowed := true, recurses := true, apart := false }
def RegsTaggedSaid : Prop := regsTaggedRow.holds Try.pinned (OpenSpec.ofChange regsTaggedSpec)

/-- ITS FALSE NEIGHBOUR: 'it returns false'. Refute it at one input. -/
def regsTaggedWrong : ChangeSpec := { name := "regsTagged", fn := fun _ => fun
  | [d1, d2] => { results := [.lit (.bool false)], args := [d1, d2] }
  | _ => none }
def RegsTaggedWrongFalsely : Prop := regsTaggedRow.holds Try.pinned (OpenSpec.ofChange regsTaggedWrong)

/-- 'mintmarklaw16.RegsSweeps': WHATEVER THE INPUT: true; the input reads as it did. -/
def regsSweepsSpec : ChangeSpec := { name := "regsSweeps", fn := fun _ => fun
  | [d1, d2] => { results := [.lit (.bool true)], args := [d1, d2] }
  | _ => none }
def regsSweepsRow : OpenClaim := { program := "ytpjcijmdoofcbaa", sum := "d95babe854ef45b9b77b5c61d244132de9d729265601ae8d2893095efb83d141", func := "mintmark/mintmarklaw16.RegsSweeps", spec := "regsSweeps", unfollowed := true, recurses := true, apart := false }
def RegsSweepsSaid : Prop := regsSweepsRow.holds Try.pinned (OpenSpec.ofChange regsSweepsSpec)

/-- ITS FALSE NEIGHBOUR: 'it returns false'. Refute it at one input. -/
def regsSweepsWrong : ChangeSpec := { name := "regsSweeps", fn := fun _ => fun
  | [d1, d2] => { results := [.lit (.bool false)], args := [d1, d2] }
  | _ => none }
def RegsSweepsWrongFalsely : Prop := regsSweepsRow.holds Try.pinned (OpenSpec.ofChange regsSweepsWrong)

/-- 'mintmarklaw16.RegsHold': WHATEVER THE INPUT: true; the input reads as it did. -/
def regsHoldSpec : ChangeSpec := { name := "regsHold", fn := fun _ => fun
  | [d1, d2, d3] => { results := [.lit (.bool true)], args := [d1, d2, d3] }
  | _ => none }
def regsHoldRow : OpenClaim := { program := "ytpjcijmdoofcbaa", sum := "d95babe854ef45b9b77b5c61d244132de9d729265601ae8d2893095efb83d141", func := "mintmark/mintmarklaw16.RegsHold", spec := "regsHold", unfollowed := true, recurses := true, apart := false }
def RegsHoldSaid : Prop := regsHoldRow.holds Try.pinned (OpenSpec.ofChange regsHoldSpec)

/-- ITS FALSE NEIGHBOUR: 'it returns false'. Refute it at one input. -/
def regsHoldWrong : ChangeSpec := { name := "regsHold", fn := fun _ => fun
  | [d1, d2, d3] => { results := [.lit (.bool false)], args := [d1, d2, d3] }
  | _ => none }
def RegsHoldWrongFalsely : Prop := regsHoldRow.holds Try.pinned (OpenSpec.ofChange regsHoldWrong)

/- THE SECOND FORM. 'bulk': how many values and letters a reading holds, each counted each time it is reached (what is shared counts as often as it is met; a slice's spare places count too). A statement '..UptoSaid' is the law's where the arguments, and the package variables that the reading takes, are together of bulk at most 1048576: NARROWER than '..Said'. Prove '..Said' where nothing that the law and all that it calls make is longer than what came in: it says more and counts as full. Else prove '..UptoSaid'. A law counts once. -/
mutual
def uptoBulk {H : Type} : DataW H → Nat
  | .lit (.string bytes) => bytes.length + 1
  | .lit _ => 1
  | .nil => 1
  | .ptr d => uptoBulk d + 1
  | .slice elems spare => uptoBulkAll elems + uptoBulkAll spare + 1
  | .agg parts => uptoBulkAll parts + 1
  | .iface _ d => uptoBulk d + 1
  | .map entries => uptoBulkEntries entries + 1
  | .held _ => 1
def uptoBulkAll {H : Type} : List (DataW H) → Nat
  | [] => 0
  | d :: r => uptoBulk d + uptoBulkAll r
def uptoBulkEntries {H : Type} : List (Lit × DataW H) → Nat
  | [] => 0
  | x :: r => uptoBulkEntry x + uptoBulkEntries r
def uptoBulkEntry {H : Type} : Lit × DataW H → Nat
  | (.string bytes, d) => bytes.length + uptoBulk d + 1
  | (_, d) => uptoBulk d + 1
 end
def uptoSmall : (H : Type) → List (DataW H) → Bool := fun _ ds => decide (uptoBulkAll ds ≤ 1048576)
def OpenSpec.upto (s : _root_.Go.ChangeSpec) : _root_.Go.OpenSpec := { _root_.Go.OpenSpec.ofChange s with cond := some uptoSmall }

/-- 'mintmarklaw16.RegsTagged', WHERE WHAT IT READS IS OF BULK AT MOST 1048576: true; the input reads as it did. -/
def regsTaggedUptoRow : OpenClaim := { program := "ytpjcijmdoofcbaa", sum := "d95babe854ef45b9b77b5c61d244132de9d729265601ae8d2893095efb83d141", func := "mintmark/mintmarklaw16.RegsTagged", spec := "regsTagged", unfollowed := true, recurses := true, apart := false, narrowed := true }
def RegsTaggedUptoSaid : Prop := regsTaggedUptoRow.holds Try.pinned (OpenSpec.upto regsTaggedSpec)

/-- 'mintmarklaw16.RegsSweeps', WHERE WHAT IT READS IS OF BULK AT MOST 1048576: true; the input reads as it did. -/
def regsSweepsUptoRow : OpenClaim := { program := "ytpjcijmdoofcbaa", sum := "d95babe854ef45b9b77b5c61d244132de9d729265601ae8d2893095efb83d141", func := "mintmark/mintmarklaw16.RegsSweeps", spec := "regsSweeps", unfollowed := true, recurses := true, apart := false, narrowed := true }
def RegsSweepsUptoSaid : Prop := regsSweepsUptoRow.holds Try.pinned (OpenSpec.upto regsSweepsSpec)

/-- 'mintmarklaw16.RegsHold', WHERE WHAT IT READS IS OF BULK AT MOST 1048576: true; the input reads as it did. -/
def regsHoldUptoRow : OpenClaim := { program := "ytpjcijmdoofcbaa", sum := "d95babe854ef45b9b77b5c61d244132de9d729265601ae8d2893095efb83d141", func := "mintmark/mintmarklaw16.RegsHold", spec := "regsHold", unfollowed := true, recurses := true, apart := false, narrowed := true }
def RegsHoldUptoSaid : Prop := regsHoldUptoRow.holds Try.pinned (OpenSpec.upto regsHoldSpec)

end Rows
end Go.Proofs.Ytpjcijmdoofcbaa
