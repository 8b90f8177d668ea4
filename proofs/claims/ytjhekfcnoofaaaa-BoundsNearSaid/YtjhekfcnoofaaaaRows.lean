/-
  No cell of these rows narrows 'for every input' (looked for: loops, veiled, ifaces, maps, wideKeys, modest, calm, conditions, laid).
  DERIVED. THE GIVEN ROWS OF THIS SEAT. 7 by the template 'for every input the law returns true; each argument reads behind the call as it read before'; 0 by the template 'total and deterministic' (their statements: YtjhekfcnoofaaaaTotals.lean).
  GIVEN WITH THE SEED: the statements are not yours to turn. If you find one false, say at which input.
  Laid BY PROGRAM, IN A SANDBOX (cutbox-rows.mjs): the forced cells as the released guide's own fill.sh prints them over the translation e1e0ac14c4b0620e… (all of the seat's roots in one cut). By AI agents, Wed Nov 11 2026. No macro, syntax, notation, axiom, sorry.
-/
import Derived.Test.YtjhekfcnoofaaaaChecked
import GoSem.Claim
import GoSem.ClaimJoined
import GoSem.ClaimMapViews
import Derived.JoinedTies
import Derived.KernelRfl
namespace Go.Proofs.Ytjhekfcnoofaaaa
/- THE CELL 'sum', in the pinned program and in every row, IS THE sha256 OF THE DUMP (.gsa) THAT YtjhekfcnoofaaaaProg.lean LOADS. Nothing in Lean hashes anything: it is a label: what it is worth is what the hold of that sum in a sandbox is worth. -/
noncomputable def Try.pinned : Pinned := { name := "ytjhekfcnoofaaaa", sum := "e1e0ac14c4b0620e1573623c5e3ea9833deafd70c948d52556a788a6143bc5f8", checked := Try.checked }
namespace Rows
def none {H : Type} : Left H := { results := [], args := [] }

/-- 'mintmarklaw03.BoundsWords': WHATEVER THE INPUT: true; the input reads as it did. -/
def boundsWordsSpec : ChangeSpec := { name := "boundsWords", fn := fun _ => fun
  | [d1, d2] => { results := [.lit (.bool true)], args := [d1, d2] }
  | _ => none }
def boundsWordsRow : OpenClaim := { program := "ytjhekfcnoofaaaa", sum := "e1e0ac14c4b0620e1573623c5e3ea9833deafd70c948d52556a788a6143bc5f8", func := "mintmark/mintmarklaw03.BoundsWords", spec := "boundsWords", apart := false }
def BoundsWordsSaid : Prop := boundsWordsRow.holds Try.pinned (OpenSpec.ofChange boundsWordsSpec)

/-- ITS FALSE NEIGHBOUR: 'it returns false'. Refute it at one input. -/
def boundsWordsWrong : ChangeSpec := { name := "boundsWords", fn := fun _ => fun
  | [d1, d2] => { results := [.lit (.bool false)], args := [d1, d2] }
  | _ => none }
def BoundsWordsWrongFalsely : Prop := boundsWordsRow.holds Try.pinned (OpenSpec.ofChange boundsWordsWrong)

/-- 'mintmarklaw03.BoundsTells': WHATEVER THE INPUT: true; the input reads as it did. -/
def boundsTellsSpec : ChangeSpec := { name := "boundsTells", fn := fun _ => fun
  | [d1, d2, d3] => { results := [.lit (.bool true)], args := [d1, d2, d3] }
  | _ => none }
def boundsTellsRow : OpenClaim := { program := "ytjhekfcnoofaaaa", sum := "e1e0ac14c4b0620e1573623c5e3ea9833deafd70c948d52556a788a6143bc5f8", func := "mintmark/mintmarklaw03.BoundsTells", spec := "boundsTells", apart := false }
def BoundsTellsSaid : Prop := boundsTellsRow.holds Try.pinned (OpenSpec.ofChange boundsTellsSpec)

/-- ITS FALSE NEIGHBOUR: 'it returns false'. Refute it at one input. -/
def boundsTellsWrong : ChangeSpec := { name := "boundsTells", fn := fun _ => fun
  | [d1, d2, d3] => { results := [.lit (.bool false)], args := [d1, d2, d3] }
  | _ => none }
def BoundsTellsWrongFalsely : Prop := boundsTellsRow.holds Try.pinned (OpenSpec.ofChange boundsTellsWrong)

/-- 'mintmarklaw03.BoundsWithin': WHATEVER THE INPUT: true; the input reads as it did. -/
def boundsWithinSpec : ChangeSpec := { name := "boundsWithin", fn := fun _ => fun
  | [d1, d2] => { results := [.lit (.bool true)], args := [d1, d2] }
  | _ => none }
def boundsWithinRow : OpenClaim := { program := "ytjhekfcnoofaaaa", sum := "e1e0ac14c4b0620e1573623c5e3ea9833deafd70c948d52556a788a6143bc5f8", func := "mintmark/mintmarklaw03.BoundsWithin", spec := "boundsWithin", inPlace := ["math/bits.Add64"], apart := false }
def BoundsWithinSaid : Prop := boundsWithinRow.holds Try.pinned (OpenSpec.ofChange boundsWithinSpec)

/-- ITS FALSE NEIGHBOUR: 'it returns false'. Refute it at one input. -/
def boundsWithinWrong : ChangeSpec := { name := "boundsWithin", fn := fun _ => fun
  | [d1, d2] => { results := [.lit (.bool false)], args := [d1, d2] }
  | _ => none }
def BoundsWithinWrongFalsely : Prop := boundsWithinRow.holds Try.pinned (OpenSpec.ofChange boundsWithinWrong)

/-- 'mintmarklaw03.BoundsKeeps': WHATEVER THE INPUT: true; the input reads as it did. -/
def boundsKeepsSpec : ChangeSpec := { name := "boundsKeeps", fn := fun _ => fun
  | [d] => { results := [.lit (.bool true)], args := [d] }
  | _ => none }
def boundsKeepsRow : OpenClaim := { program := "ytjhekfcnoofaaaa", sum := "e1e0ac14c4b0620e1573623c5e3ea9833deafd70c948d52556a788a6143bc5f8", func := "mintmark/mintmarklaw03.BoundsKeeps", spec := "boundsKeeps", inPlace := ["math/bits.Add64"], apart := false }
def BoundsKeepsSaid : Prop := boundsKeepsRow.holds Try.pinned (OpenSpec.ofChange boundsKeepsSpec)

/-- ITS FALSE NEIGHBOUR: 'it returns false'. Refute it at one input. -/
def boundsKeepsWrong : ChangeSpec := { name := "boundsKeeps", fn := fun _ => fun
  | [d] => { results := [.lit (.bool false)], args := [d] }
  | _ => none }
def BoundsKeepsWrongFalsely : Prop := boundsKeepsRow.holds Try.pinned (OpenSpec.ofChange boundsKeepsWrong)

/-- 'mintmarklaw03.BoundsAligned': WHATEVER THE INPUT: true; the input reads as it did. -/
def boundsAlignedSpec : ChangeSpec := { name := "boundsAligned", fn := fun _ => fun
  | [d1, d2] => { results := [.lit (.bool true)], args := [d1, d2] }
  | _ => none }
def boundsAlignedRow : OpenClaim := { program := "ytjhekfcnoofaaaa", sum := "e1e0ac14c4b0620e1573623c5e3ea9833deafd70c948d52556a788a6143bc5f8", func := "mintmark/mintmarklaw03.BoundsAligned", spec := "boundsAligned", inPlace := ["math/bits.Add64"], apart := false }
def BoundsAlignedSaid : Prop := boundsAlignedRow.holds Try.pinned (OpenSpec.ofChange boundsAlignedSpec)

/-- ITS FALSE NEIGHBOUR: 'it returns false'. Refute it at one input. -/
def boundsAlignedWrong : ChangeSpec := { name := "boundsAligned", fn := fun _ => fun
  | [d1, d2] => { results := [.lit (.bool false)], args := [d1, d2] }
  | _ => none }
def BoundsAlignedWrongFalsely : Prop := boundsAlignedRow.holds Try.pinned (OpenSpec.ofChange boundsAlignedWrong)

/-- 'mintmarklaw03.BoundsGrow': WHATEVER THE INPUT: true; the input reads as it did. -/
def boundsGrowSpec : ChangeSpec := { name := "boundsGrow", fn := fun _ => fun
  | [d] => { results := [.lit (.bool true)], args := [d] }
  | _ => none }
def boundsGrowRow : OpenClaim := { program := "ytjhekfcnoofaaaa", sum := "e1e0ac14c4b0620e1573623c5e3ea9833deafd70c948d52556a788a6143bc5f8", func := "mintmark/mintmarklaw03.BoundsGrow", spec := "boundsGrow", inPlace := ["math/bits.Add64"], apart := false }
def BoundsGrowSaid : Prop := boundsGrowRow.holds Try.pinned (OpenSpec.ofChange boundsGrowSpec)

/-- ITS FALSE NEIGHBOUR: 'it returns false'. Refute it at one input. -/
def boundsGrowWrong : ChangeSpec := { name := "boundsGrow", fn := fun _ => fun
  | [d] => { results := [.lit (.bool false)], args := [d] }
  | _ => none }
def BoundsGrowWrongFalsely : Prop := boundsGrowRow.holds Try.pinned (OpenSpec.ofChange boundsGrowWrong)

/-- 'mintmarklaw03.BoundsNear': WHATEVER THE INPUT: true; the input reads as it did. -/
def boundsNearSpec : ChangeSpec := { name := "boundsNear", fn := fun _ => fun
  | [d1, d2, d3] => { results := [.lit (.bool true)], args := [d1, d2, d3] }
  | _ => none }
def boundsNearRow : OpenClaim := { program := "ytjhekfcnoofaaaa", sum := "e1e0ac14c4b0620e1573623c5e3ea9833deafd70c948d52556a788a6143bc5f8", func := "mintmark/mintmarklaw03.BoundsNear", spec := "boundsNear", inPlace := ["math/bits.Add64"], apart := false }
def BoundsNearSaid : Prop := boundsNearRow.holds Try.pinned (OpenSpec.ofChange boundsNearSpec)

/-- ITS FALSE NEIGHBOUR: 'it returns false'. Refute it at one input. -/
def boundsNearWrong : ChangeSpec := { name := "boundsNear", fn := fun _ => fun
  | [d1, d2, d3] => { results := [.lit (.bool false)], args := [d1, d2, d3] }
  | _ => none }
def BoundsNearWrongFalsely : Prop := boundsNearRow.holds Try.pinned (OpenSpec.ofChange boundsNearWrong)

/- THE SECOND FORM. 'bulk': how many values and letters a reading holds, each counted each time it is reached (what is shared counts as often as it is met; a slice's spare places count too). A statement '..UptoSaid' is the law's where the arguments, and the package variables that the reading takes, are together of bulk at most 1048576: NARROWER than '..Said'. Prove '..Said' where nothing that the law and all that it calls make is longer than what came in: it says more and counts as full. Else prove '..UptoSaid'. A law counts once. -/
mutual
def uptoBulk {H : Type} : DataW H → Nat
  | .lit (.string bytes) => bytes.length + 1
  | .lit _ => 1
  | .nil => 1
  | .ptr d => uptoBulk d + 1
  | .slice elems spare => uptoBulkAll elems + uptoBulkAll spare + 1
  | .agg parts => uptoBulkAll parts + 1
  | .iface _ d => uptoBulk d + 1
  | .map entries => uptoBulkEntries entries + 1
  | .held _ => 1
def uptoBulkAll {H : Type} : List (DataW H) → Nat
  | [] => 0
  | d :: r => uptoBulk d + uptoBulkAll r
def uptoBulkEntries {H : Type} : List (Lit × DataW H) → Nat
  | [] => 0
  | x :: r => uptoBulkEntry x + uptoBulkEntries r
def uptoBulkEntry {H : Type} : Lit × DataW H → Nat
  | (.string bytes, d) => bytes.length + uptoBulk d + 1
  | (_, d) => uptoBulk d + 1
 end
def uptoSmall : (H : Type) → List (DataW H) → Bool := fun _ ds => decide (uptoBulkAll ds ≤ 1048576)
def OpenSpec.upto (s : _root_.Go.ChangeSpec) : _root_.Go.OpenSpec := { _root_.Go.OpenSpec.ofChange s with cond := some uptoSmall }

/-- 'mintmarklaw03.BoundsWords', WHERE WHAT IT READS IS OF BULK AT MOST 1048576: true; the input reads as it did. -/
def boundsWordsUptoRow : OpenClaim := { program := "ytjhekfcnoofaaaa", sum := "e1e0ac14c4b0620e1573623c5e3ea9833deafd70c948d52556a788a6143bc5f8", func := "mintmark/mintmarklaw03.BoundsWords", spec := "boundsWords", apart := false, narrowed := true }
def BoundsWordsUptoSaid : Prop := boundsWordsUptoRow.holds Try.pinned (OpenSpec.upto boundsWordsSpec)

/-- 'mintmarklaw03.BoundsTells', WHERE WHAT IT READS IS OF BULK AT MOST 1048576: true; the input reads as it did. -/
def boundsTellsUptoRow : OpenClaim := { program := "ytjhekfcnoofaaaa", sum := "e1e0ac14c4b0620e1573623c5e3ea9833deafd70c948d52556a788a6143bc5f8", func := "mintmark/mintmarklaw03.BoundsTells", spec := "boundsTells", apart := false, narrowed := true }
def BoundsTellsUptoSaid : Prop := boundsTellsUptoRow.holds Try.pinned (OpenSpec.upto boundsTellsSpec)

/-- 'mintmarklaw03.BoundsWithin', WHERE WHAT IT READS IS OF BULK AT MOST 1048576: true; the input reads as it did. -/
def boundsWithinUptoRow : OpenClaim := { program := "ytjhekfcnoofaaaa", sum := "e1e0ac14c4b0620e1573623c5e3ea9833deafd70c948d52556a788a6143bc5f8", func := "mintmark/mintmarklaw03.BoundsWithin", spec := "boundsWithin", inPlace := ["math/bits.Add64"], apart := false, narrowed := true }
def BoundsWithinUptoSaid : Prop := boundsWithinUptoRow.holds Try.pinned (OpenSpec.upto boundsWithinSpec)

/-- 'mintmarklaw03.BoundsKeeps', WHERE WHAT IT READS IS OF BULK AT MOST 1048576: true; the input reads as it did. -/
def boundsKeepsUptoRow : OpenClaim := { program := "ytjhekfcnoofaaaa", sum := "e1e0ac14c4b0620e1573623c5e3ea9833deafd70c948d52556a788a6143bc5f8", func := "mintmark/mintmarklaw03.BoundsKeeps", spec := "boundsKeeps", inPlace := ["math/bits.Add64"], apart := false, narrowed := true }
def BoundsKeepsUptoSaid : Prop := boundsKeepsUptoRow.holds Try.pinned (OpenSpec.upto boundsKeepsSpec)

/-- 'mintmarklaw03.BoundsAligned', WHERE WHAT IT READS IS OF BULK AT MOST 1048576: true; the input reads as it did. -/
def boundsAlignedUptoRow : OpenClaim := { program := "ytjhekfcnoofaaaa", sum := "e1e0ac14c4b0620e1573623c5e3ea9833deafd70c948d52556a788a6143bc5f8", func := "mintmark/mintmarklaw03.BoundsAligned", spec := "boundsAligned", inPlace := ["math/bits.Add64"], apart := false, narrowed := true }
def BoundsAlignedUptoSaid : Prop := boundsAlignedUptoRow.holds Try.pinned (OpenSpec.upto boundsAlignedSpec)

/-- 'mintmarklaw03.BoundsGrow', WHERE WHAT IT READS IS OF BULK AT MOST 1048576: true; the input reads as it did. -/
def boundsGrowUptoRow : OpenClaim := { program := "ytjhekfcnoofaaaa", sum := "e1e0ac14c4b0620e1573623c5e3ea9833deafd70c948d52556a788a6143bc5f8", func := "mintmark/mintmarklaw03.BoundsGrow", spec := "boundsGrow", inPlace := ["math/bits.Add64"], apart := false, narrowed := true }
def BoundsGrowUptoSaid : Prop := boundsGrowUptoRow.holds Try.pinned (OpenSpec.upto boundsGrowSpec)

/-- 'mintmarklaw03.BoundsNear', WHERE WHAT IT READS IS OF BULK AT MOST 1048576: true; the input reads as it did. -/
def boundsNearUptoRow : OpenClaim := { program := "ytjhekfcnoofaaaa", sum := "e1e0ac14c4b0620e1573623c5e3ea9833deafd70c948d52556a788a6143bc5f8", func := "mintmark/mintmarklaw03.BoundsNear", spec := "boundsNear", inPlace := ["math/bits.Add64"], apart := false, narrowed := true }
def BoundsNearUptoSaid : Prop := boundsNearUptoRow.holds Try.pinned (OpenSpec.upto boundsNearSpec)

end Rows
end Go.Proofs.Ytjhekfcnoofaaaa
