/-
  No cell of these rows narrows 'for every input' (looked for: loops, veiled, ifaces, maps, wideKeys, modest, calm, conditions, laid).
  DERIVED. THE GIVEN ROWS OF THIS SEAT. 7 by the template 'for every input the law returns true; each argument reads behind the call as it read before'; 0 by the template 'total and deterministic' (their statements: YtpinjngmlelleaaTotals.lean).
  GIVEN WITH THE SEED: the statements are not yours to turn. If you find one false, say at which input.
  Laid BY PROGRAM, IN A SANDBOX (cutbox-rows.mjs): the forced cells as the released guide's own fill.sh prints them over the translation 6a511f16df79ba85… (all of the seat's roots in one cut). By AI agents, Wed Nov 11 2026. No macro, syntax, notation, axiom, sorry.
-/
import Derived.Test.YtpinjngmlelleaaChecked
import GoSem.Claim
import GoSem.ClaimJoined
import GoSem.ClaimMapViews
import Derived.JoinedTies
import Derived.KernelRfl
namespace Go.Proofs.Ytpinjngmlelleaa
/- THE CELL 'sum', in the pinned program and in every row, IS THE sha256 OF THE DUMP (.gsa) THAT YtpinjngmlelleaaProg.lean LOADS. Nothing in Lean hashes anything: it is a label: what it is worth is what the hold of that sum in a sandbox is worth. -/
noncomputable def Try.pinned : Pinned := { name := "ytpinjngmlelleaa", sum := "6a511f16df79ba858ca17c0eab6f918d66d3781e323761a5db1ec42053d0860e", checked := Try.checked }
namespace Rows
def none {H : Type} : Left H := { results := [], args := [] }

/-- 'mintmarklaw06.AlgebraMoves': WHATEVER THE INPUT: true; the input reads as it did. -/
def algebraMovesSpec : ChangeSpec := { name := "algebraMoves", fn := fun _ => fun
  | [d1, d2, d3] => { results := [.lit (.bool true)], args := [d1, d2, d3] }
  | _ => none }
def algebraMovesRow : OpenClaim := { program := "ytpinjngmlelleaa", sum := "6a511f16df79ba858ca17c0eab6f918d66d3781e323761a5db1ec42053d0860e", func := "mintmark/mintmarklaw06.AlgebraMoves", spec := "algebraMoves", inPlace := ["math/bits.Add64"], unfollowed := true, recurses := true, apart := false }
def AlgebraMovesSaid : Prop := algebraMovesRow.holds Try.pinned (OpenSpec.ofChange algebraMovesSpec)

/-- ITS FALSE NEIGHBOUR: 'it returns false'. Refute it at one input. -/
def algebraMovesWrong : ChangeSpec := { name := "algebraMoves", fn := fun _ => fun
  | [d1, d2, d3] => { results := [.lit (.bool false)], args := [d1, d2, d3] }
  | _ => none }
def AlgebraMovesWrongFalsely : Prop := algebraMovesRow.holds Try.pinned (OpenSpec.ofChange algebraMovesWrong)

/-- 'mintmarklaw06.AlgebraReturns': WHATEVER THE INPUT: true; the input reads as it did. -/
def algebraReturnsSpec : ChangeSpec := { name := "algebraReturns", fn := fun _ => fun
  | [d1, d2, d3] => { results := [.lit (.bool true)], args := [d1, d2, d3] }
  | _ => none }
def algebraReturnsRow : OpenClaim := { program := "ytpinjngmlelleaa", sum := "6a511f16df79ba858ca17c0eab6f918d66d3781e323761a5db1ec42053d0860e", func := "mintmark/mintmarklaw06.AlgebraReturns", spec := "algebraReturns", inPlace := ["math/bits.Add64"], unfollowed := true, recurses := true, apart := false }
def AlgebraReturnsSaid : Prop := algebraReturnsRow.holds Try.pinned (OpenSpec.ofChange algebraReturnsSpec)

/-- ITS FALSE NEIGHBOUR: 'it returns false'. Refute it at one input. -/
def algebraReturnsWrong : ChangeSpec := { name := "algebraReturns", fn := fun _ => fun
  | [d1, d2, d3] => { results := [.lit (.bool false)], args := [d1, d2, d3] }
  | _ => none }
def AlgebraReturnsWrongFalsely : Prop := algebraReturnsRow.holds Try.pinned (OpenSpec.ofChange algebraReturnsWrong)

/-- 'mintmarklaw06.AlgebraChecks': WHATEVER THE INPUT: true; the input reads as it did. -/
def algebraChecksSpec : ChangeSpec := { name := "algebraChecks", fn := fun _ => fun
  | [d1, d2] => { results := [.lit (.bool true)], args := [d1, d2] }
  | _ => none }
def algebraChecksRow : OpenClaim := { program := "ytpinjngmlelleaa", sum := "6a511f16df79ba858ca17c0eab6f918d66d3781e323761a5db1ec42053d0860e", func := "mintmark/mintmarklaw06.AlgebraChecks", spec := "algebraChecks", inPlace := ["math/bits.Add64"], unfollowed := true, recurses := true, apart := false }
def AlgebraChecksSaid : Prop := algebraChecksRow.holds Try.pinned (OpenSpec.ofChange algebraChecksSpec)

/-- ITS FALSE NEIGHBOUR: 'it returns false'. Refute it at one input. -/
def algebraChecksWrong : ChangeSpec := { name := "algebraChecks", fn := fun _ => fun
  | [d1, d2] => { results := [.lit (.bool false)], args := [d1, d2] }
  | _ => none }
def AlgebraChecksWrongFalsely : Prop := algebraChecksRow.holds Try.pinned (OpenSpec.ofChange algebraChecksWrong)

/-- 'mintmarklaw06.AlgebraSeals': WHATEVER THE INPUT: true; the input reads as it did. -/
def algebraSealsSpec : ChangeSpec := { name := "algebraSeals", fn := fun _ => fun
  | [d1, d2] => { results := [.lit (.bool true)], args := [d1, d2] }
  | _ => none }
def algebraSealsRow : OpenClaim := { program := "ytpinjngmlelleaa", sum := "6a511f16df79ba858ca17c0eab6f918d66d3781e323761a5db1ec42053d0860e", func := "mintmark/mintmarklaw06.AlgebraSeals", spec := "algebraSeals", inPlace := ["math/bits.Add64"], unfollowed := true, recurses := true, apart := false }
def AlgebraSealsSaid : Prop := algebraSealsRow.holds Try.pinned (OpenSpec.ofChange algebraSealsSpec)

/-- ITS FALSE NEIGHBOUR: 'it returns false'. Refute it at one input. -/
def algebraSealsWrong : ChangeSpec := { name := "algebraSeals", fn := fun _ => fun
  | [d1, d2] => { results := [.lit (.bool false)], args := [d1, d2] }
  | _ => none }
def AlgebraSealsWrongFalsely : Prop := algebraSealsRow.holds Try.pinned (OpenSpec.ofChange algebraSealsWrong)

/-- 'mintmarklaw06.AlgebraNarrows': WHATEVER THE INPUT: true; the input reads as it did. -/
def algebraNarrowsSpec : ChangeSpec := { name := "algebraNarrows", fn := fun _ => fun
  | [d1, d2] => { results := [.lit (.bool true)], args := [d1, d2] }
  | _ => none }
def algebraNarrowsRow : OpenClaim := { program := "ytpinjngmlelleaa", sum := "6a511f16df79ba858ca17c0eab6f918d66d3781e323761a5db1ec42053d0860e", func := "mintmark/mintmarklaw06.AlgebraNarrows", spec := "algebraNarrows", inPlace := ["math/bits.Add64"], unfollowed := true, recurses := true, apart := false }
def AlgebraNarrowsSaid : Prop := algebraNarrowsRow.holds Try.pinned (OpenSpec.ofChange algebraNarrowsSpec)

/-- ITS FALSE NEIGHBOUR: 'it returns false'. Refute it at one input. -/
def algebraNarrowsWrong : ChangeSpec := { name := "algebraNarrows", fn := fun _ => fun
  | [d1, d2] => { results := [.lit (.bool false)], args := [d1, d2] }
  | _ => none }
def AlgebraNarrowsWrongFalsely : Prop := algebraNarrowsRow.holds Try.pinned (OpenSpec.ofChange algebraNarrowsWrong)

/-- 'mintmarklaw06.AlgebraEnters': WHATEVER THE INPUT: true; the input reads as it did. -/
def algebraEntersSpec : ChangeSpec := { name := "algebraEnters", fn := fun _ => fun
  | [d1, d2] => { results := [.lit (.bool true)], args := [d1, d2] }
  | _ => none }
def algebraEntersRow : OpenClaim := { program := "ytpinjngmlelleaa", sum := "6a511f16df79ba858ca17c0eab6f918d66d3781e323761a5db1ec42053d0860e", func := "mintmark/mintmarklaw06.AlgebraEnters", spec := "algebraEnters", inPlace := ["math/bits.Add64"], unfollowed := true, recurses := true, apart := false }
def AlgebraEntersSaid : Prop := algebraEntersRow.holds Try.pinned (OpenSpec.ofChange algebraEntersSpec)

/-- ITS FALSE NEIGHBOUR: 'it returns false'. Refute it at one input. -/
def algebraEntersWrong : ChangeSpec := { name := "algebraEnters", fn := fun _ => fun
  | [d1, d2] => { results := [.lit (.bool false)], args := [d1, d2] }
  | _ => none }
def AlgebraEntersWrongFalsely : Prop := algebraEntersRow.holds Try.pinned (OpenSpec.ofChange algebraEntersWrong)

/-- 'mintmarklaw06.AlgebraOpens': WHATEVER THE INPUT: true; the input reads as it did. -/
def algebraOpensSpec : ChangeSpec := { name := "algebraOpens", fn := fun _ => fun
  | [d1, d2, d3] => { results := [.lit (.bool true)], args := [d1, d2, d3] }
  | _ => none }
def algebraOpensRow : OpenClaim := { program := "ytpinjngmlelleaa", sum := "6a511f16df79ba858ca17c0eab6f918d66d3781e323761a5db1ec42053d0860e", func := "mintmark/mintmarklaw06.AlgebraOpens", spec := "algebraOpens", inPlace := ["math/bits.Add64"], unfollowed := true, recurses := true, apart := false }
def AlgebraOpensSaid : Prop := algebraOpensRow.holds Try.pinned (OpenSpec.ofChange algebraOpensSpec)

/-- ITS FALSE NEIGHBOUR: 'it returns false'. Refute it at one input. -/
def algebraOpensWrong : ChangeSpec := { name := "algebraOpens", fn := fun _ => fun
  | [d1, d2, d3] => { results := [.lit (.bool false)], args := [d1, d2, d3] }
  | _ => none }
def AlgebraOpensWrongFalsely : Prop := algebraOpensRow.holds Try.pinned (OpenSpec.ofChange algebraOpensWrong)

/- THE SECOND FORM. 'bulk': how many values and letters a reading holds, each counted each time it is reached (what is shared counts as often as it is met; a slice's spare places count too). A statement '..UptoSaid' is the law's where the arguments, and the package variables that the reading takes, are together of bulk at most 1048576: NARROWER than '..Said'. Prove '..Said' where nothing that the law and all that it calls make is longer than what came in: it says more and counts as full. Else prove '..UptoSaid'. A law counts once. -/
mutual
def uptoBulk {H : Type} : DataW H → Nat
  | .lit (.string bytes) => bytes.length + 1
  | .lit _ => 1
  | .nil => 1
  | .ptr d => uptoBulk d + 1
  | .slice elems spare => uptoBulkAll elems + uptoBulkAll spare + 1
  | .agg parts => uptoBulkAll parts + 1
  | .iface _ d => uptoBulk d + 1
  | .map entries => uptoBulkEntries entries + 1
  | .held _ => 1
def uptoBulkAll {H : Type} : List (DataW H) → Nat
  | [] => 0
  | d :: r => uptoBulk d + uptoBulkAll r
def uptoBulkEntries {H : Type} : List (Lit × DataW H) → Nat
  | [] => 0
  | x :: r => uptoBulkEntry x + uptoBulkEntries r
def uptoBulkEntry {H : Type} : Lit × DataW H → Nat
  | (.string bytes, d) => bytes.length + uptoBulk d + 1
  | (_, d) => uptoBulk d + 1
 end
def uptoSmall : (H : Type) → List (DataW H) → Bool := fun _ ds => decide (uptoBulkAll ds ≤ 1048576)
def OpenSpec.upto (s : _root_.Go.ChangeSpec) : _root_.Go.OpenSpec := { _root_.Go.OpenSpec.ofChange s with cond := some uptoSmall }

/-- 'mintmarklaw06.AlgebraMoves', WHERE WHAT IT READS IS OF BULK AT MOST 1048576: true; the input reads as it did. -/
def algebraMovesUptoRow : OpenClaim := { program := "ytpinjngmlelleaa", sum := "6a511f16df79ba858ca17c0eab6f918d66d3781e323761a5db1ec42053d0860e", func := "mintmark/mintmarklaw06.AlgebraMoves", spec := "algebraMoves", inPlace := ["math/bits.Add64"], unfollowed := true, recurses := true, apart := false, narrowed := true }
def AlgebraMovesUptoSaid : Prop := algebraMovesUptoRow.holds Try.pinned (OpenSpec.upto algebraMovesSpec)

/-- 'mintmarklaw06.AlgebraReturns', WHERE WHAT IT READS IS OF BULK AT MOST 1048576: true; the input reads as it did. -/
def algebraReturnsUptoRow : OpenClaim := { program := "ytpinjngmlelleaa", sum := "6a511f16df79ba858ca17c0eab6f918d66d3781e323761a5db1ec42053d0860e", func := "mintmark/mintmarklaw06.AlgebraReturns", spec := "algebraReturns", inPlace := ["math/bits.Add64"], unfollowed := true, recurses := true, apart := false, narrowed := true }
def AlgebraReturnsUptoSaid : Prop := algebraReturnsUptoRow.holds Try.pinned (OpenSpec.upto algebraReturnsSpec)

/-- 'mintmarklaw06.AlgebraChecks', WHERE WHAT IT READS IS OF BULK AT MOST 1048576: true; the input reads as it did. -/
def algebraChecksUptoRow : OpenClaim := { program := "ytpinjngmlelleaa", sum := "6a511f16df79ba858ca17c0eab6f918d66d3781e323761a5db1ec42053d0860e", func := "mintmark/mintmarklaw06.AlgebraChecks", spec := "algebraChecks", inPlace := ["math/bits.Add64"], unfollowed := true, recurses := true, apart := false, narrowed := true }
def AlgebraChecksUptoSaid : Prop := algebraChecksUptoRow.holds Try.pinned (OpenSpec.upto algebraChecksSpec)

/-- 'mintmarklaw06.AlgebraSeals', WHERE WHAT IT READS IS OF BULK AT MOST 1048576: true; the input reads as it did. -/
def algebraSealsUptoRow : OpenClaim := { program := "ytpinjngmlelleaa", sum := "6a511f16df79ba858ca17c0eab6f918d66d3781e323761a5db1ec42053d0860e", func := "mintmark/mintmarklaw06.AlgebraSeals", spec := "algebraSeals", inPlace := ["math/bits.Add64"], unfollowed := true, recurses := true, apart := false, narrowed := true }
def AlgebraSealsUptoSaid : Prop := algebraSealsUptoRow.holds Try.pinned (OpenSpec.upto algebraSealsSpec)

/-- 'mintmarklaw06.AlgebraNarrows', WHERE WHAT IT READS IS OF BULK AT MOST 1048576: true; the input reads as it did. -/
def algebraNarrowsUptoRow : OpenClaim := { program := "ytpinjngmlelleaa", sum := "6a511f16df79ba858ca17c0eab6f918d66d3781e323761a5db1ec42053d0860e", func := "mintmark/mintmarklaw06.AlgebraNarrows", spec := "algebraNarrows", inPlace := ["math/bits.Add64"], unfollowed := true, recurses := true, apart := false, narrowed := true }
def AlgebraNarrowsUptoSaid : Prop := algebraNarrowsUptoRow.holds Try.pinned (OpenSpec.upto algebraNarrowsSpec)

/-- 'mintmarklaw06.AlgebraEnters', WHERE WHAT IT READS IS OF BULK AT MOST 1048576: true; the input reads as it did. -/
def algebraEntersUptoRow : OpenClaim := { program := "ytpinjngmlelleaa", sum := "6a511f16df79ba858ca17c0eab6f918d66d3781e323761a5db1ec42053d0860e", func := "mintmark/mintmarklaw06.AlgebraEnters", spec := "algebraEnters", inPlace := ["math/bits.Add64"], unfollowed := true, recurses := true, apart := false, narrowed := true }
def AlgebraEntersUptoSaid : Prop := algebraEntersUptoRow.holds Try.pinned (OpenSpec.upto algebraEntersSpec)

/-- 'mintmarklaw06.AlgebraOpens', WHERE WHAT IT READS IS OF BULK AT MOST 1048576: true; the input reads as it did. -/
def algebraOpensUptoRow : OpenClaim := { program := "ytpinjngmlelleaa", sum := "6a511f16df79ba858ca17c0eab6f918d66d3781e323761a5db1ec42053d0860e", func := "mintmark/mintmarklaw06.AlgebraOpens", spec := "algebraOpens", inPlace := ["math/bits.Add64"], unfollowed := true, recurses := true, apart := false, narrowed := true }
def AlgebraOpensUptoSaid : Prop := algebraOpensUptoRow.holds Try.pinned (OpenSpec.upto algebraOpensSpec)

end Rows
end Go.Proofs.Ytpinjngmlelleaa
