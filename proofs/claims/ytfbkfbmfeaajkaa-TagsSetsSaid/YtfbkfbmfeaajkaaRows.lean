/-
  No cell of these rows narrows 'for every input' (looked for: loops, veiled, ifaces, maps, wideKeys, modest, calm, conditions, laid).
  DERIVED. THE GIVEN ROWS OF THIS SEAT. 4 by the template 'for every input the law returns true; each argument reads behind the call as it read before'; 0 by the template 'total and deterministic' (their statements: YtfbkfbmfeaajkaaTotals.lean).
  GIVEN WITH THE SEED: the statements are not yours to turn. If you find one false, say at which input.
  Laid BY PROGRAM, IN A SANDBOX (cutbox-rows.mjs): the forced cells as the released guide's own fill.sh prints them over the translation 42f98c08fde6a72b… (all of the seat's roots in one cut). By AI agents, Wed Nov 11 2026. No macro, syntax, notation, axiom, sorry.
-/
import Derived.Test.YtfbkfbmfeaajkaaChecked
import GoSem.Claim
import GoSem.ClaimJoined
import GoSem.ClaimMapViews
import Derived.JoinedTies
import Derived.KernelRfl
namespace Go.Proofs.Ytfbkfbmfeaajkaa
/- THE CELL 'sum', in the pinned program and in every row, IS THE sha256 OF THE DUMP (.gsa) THAT YtfbkfbmfeaajkaaProg.lean LOADS. Nothing in Lean hashes anything: it is a label: what it is worth is what the hold of that sum in a sandbox is worth. -/
noncomputable def Try.pinned : Pinned := { name := "ytfbkfbmfeaajkaa", sum := "42f98c08fde6a72b34d81fb6b023bd107b87500ba44e72dadd71416c67829760", checked := Try.checked }
namespace Rows
def none {H : Type} : Left H := { results := [], args := [] }

/-- 'mintmarklaw07.TagsCovers': WHATEVER THE INPUT: true; the input reads as it did. -/
def tagsCoversSpec : ChangeSpec := { name := "tagsCovers", fn := fun _ => fun
  | [d1, d2] => { results := [.lit (.bool true)], args := [d1, d2] }
  | _ => none }
def tagsCoversRow : OpenClaim := { program := "ytfbkfbmfeaajkaa", sum := "42f98c08fde6a72b34d81fb6b023bd107b87500ba44e72dadd71416c67829760", func := "mintmark/mintmarklaw07.TagsCovers", spec := "tagsCovers", apart := false }
def TagsCoversSaid : Prop := tagsCoversRow.holds Try.pinned (OpenSpec.ofChange tagsCoversSpec)

/-- ITS FALSE NEIGHBOUR: 'it returns false'. Refute it at one input. -/
def tagsCoversWrong : ChangeSpec := { name := "tagsCovers", fn := fun _ => fun
  | [d1, d2] => { results := [.lit (.bool false)], args := [d1, d2] }
  | _ => none }
def TagsCoversWrongFalsely : Prop := tagsCoversRow.holds Try.pinned (OpenSpec.ofChange tagsCoversWrong)

/-- 'mintmarklaw07.TagsTells': WHATEVER THE INPUT: true; the input reads as it did. -/
def tagsTellsSpec : ChangeSpec := { name := "tagsTells", fn := fun _ => fun
  | [d1, d2, d3] => { results := [.lit (.bool true)], args := [d1, d2, d3] }
  | _ => none }
def tagsTellsRow : OpenClaim := { program := "ytfbkfbmfeaajkaa", sum := "42f98c08fde6a72b34d81fb6b023bd107b87500ba44e72dadd71416c67829760", func := "mintmark/mintmarklaw07.TagsTells", spec := "tagsTells", unfollowed := true, recurses := true, apart := false }
def TagsTellsSaid : Prop := tagsTellsRow.holds Try.pinned (OpenSpec.ofChange tagsTellsSpec)

/-- ITS FALSE NEIGHBOUR: 'it returns false'. Refute it at one input. -/
def tagsTellsWrong : ChangeSpec := { name := "tagsTells", fn := fun _ => fun
  | [d1, d2, d3] => { results := [.lit (.bool false)], args := [d1, d2, d3] }
  | _ => none }
def TagsTellsWrongFalsely : Prop := tagsTellsRow.holds Try.pinned (OpenSpec.ofChange tagsTellsWrong)

/-- 'mintmarklaw07.TagsBytes': WHATEVER THE INPUT: true; the input reads as it did. -/
def tagsBytesSpec : ChangeSpec := { name := "tagsBytes", fn := fun _ => fun
  | [d1, d2, d3] => { results := [.lit (.bool true)], args := [d1, d2, d3] }
  | _ => none }
def tagsBytesRow : OpenClaim := { program := "ytfbkfbmfeaajkaa", sum := "42f98c08fde6a72b34d81fb6b023bd107b87500ba44e72dadd71416c67829760", func := "mintmark/mintmarklaw07.TagsBytes", spec := "tagsBytes", apart := false }
def TagsBytesSaid : Prop := tagsBytesRow.holds Try.pinned (OpenSpec.ofChange tagsBytesSpec)

/-- ITS FALSE NEIGHBOUR: 'it returns false'. Refute it at one input. -/
def tagsBytesWrong : ChangeSpec := { name := "tagsBytes", fn := fun _ => fun
  | [d1, d2, d3] => { results := [.lit (.bool false)], args := [d1, d2, d3] }
  | _ => none }
def TagsBytesWrongFalsely : Prop := tagsBytesRow.holds Try.pinned (OpenSpec.ofChange tagsBytesWrong)

/-- 'mintmarklaw07.TagsSets': WHATEVER THE INPUT: true; the input reads as it did. -/
def tagsSetsSpec : ChangeSpec := { name := "tagsSets", fn := fun _ => fun
  | [d1, d2, d3] => { results := [.lit (.bool true)], args := [d1, d2, d3] }
  | _ => none }
def tagsSetsRow : OpenClaim := { program := "ytfbkfbmfeaajkaa", sum := "42f98c08fde6a72b34d81fb6b023bd107b87500ba44e72dadd71416c67829760", func := "mintmark/mintmarklaw07.TagsSets", spec := "tagsSets", unfollowed := true, recurses := true, apart := false }
def TagsSetsSaid : Prop := tagsSetsRow.holds Try.pinned (OpenSpec.ofChange tagsSetsSpec)

/-- ITS FALSE NEIGHBOUR: 'it returns false'. Refute it at one input. -/
def tagsSetsWrong : ChangeSpec := { name := "tagsSets", fn := fun _ => fun
  | [d1, d2, d3] => { results := [.lit (.bool false)], args := [d1, d2, d3] }
  | _ => none }
def TagsSetsWrongFalsely : Prop := tagsSetsRow.holds Try.pinned (OpenSpec.ofChange tagsSetsWrong)

/- THE SECOND FORM. 'bulk': how many values and letters a reading holds, each counted each time it is reached (what is shared counts as often as it is met; a slice's spare places count too). A statement '..UptoSaid' is the law's where the arguments, and the package variables that the reading takes, are together of bulk at most 1048576: NARROWER than '..Said'. Prove '..Said' where nothing that the law and all that it calls make is longer than what came in: it says more and counts as full. Else prove '..UptoSaid'. A law counts once. -/
mutual
def uptoBulk {H : Type} : DataW H → Nat
  | .lit (.string bytes) => bytes.length + 1
  | .lit _ => 1
  | .nil => 1
  | .ptr d => uptoBulk d + 1
  | .slice elems spare => uptoBulkAll elems + uptoBulkAll spare + 1
  | .agg parts => uptoBulkAll parts + 1
  | .iface _ d => uptoBulk d + 1
  | .map entries => uptoBulkEntries entries + 1
  | .held _ => 1
def uptoBulkAll {H : Type} : List (DataW H) → Nat
  | [] => 0
  | d :: r => uptoBulk d + uptoBulkAll r
def uptoBulkEntries {H : Type} : List (Lit × DataW H) → Nat
  | [] => 0
  | x :: r => uptoBulkEntry x + uptoBulkEntries r
def uptoBulkEntry {H : Type} : Lit × DataW H → Nat
  | (.string bytes, d) => bytes.length + uptoBulk d + 1
  | (_, d) => uptoBulk d + 1
 end
def uptoSmall : (H : Type) → List (DataW H) → Bool := fun _ ds => decide (uptoBulkAll ds ≤ 1048576)
def OpenSpec.upto (s : _root_.Go.ChangeSpec) : _root_.Go.OpenSpec := { _root_.Go.OpenSpec.ofChange s with cond := some uptoSmall }

/-- 'mintmarklaw07.TagsCovers', WHERE WHAT IT READS IS OF BULK AT MOST 1048576: true; the input reads as it did. -/
def tagsCoversUptoRow : OpenClaim := { program := "ytfbkfbmfeaajkaa", sum := "42f98c08fde6a72b34d81fb6b023bd107b87500ba44e72dadd71416c67829760", func := "mintmark/mintmarklaw07.TagsCovers", spec := "tagsCovers", apart := false, narrowed := true }
def TagsCoversUptoSaid : Prop := tagsCoversUptoRow.holds Try.pinned (OpenSpec.upto tagsCoversSpec)

/-- 'mintmarklaw07.TagsTells', WHERE WHAT IT READS IS OF BULK AT MOST 1048576: true; the input reads as it did. -/
def tagsTellsUptoRow : OpenClaim := { program := "ytfbkfbmfeaajkaa", sum := "42f98c08fde6a72b34d81fb6b023bd107b87500ba44e72dadd71416c67829760", func := "mintmark/mintmarklaw07.TagsTells", spec := "tagsTells", unfollowed := true, recurses := true, apart := false, narrowed := true }
def TagsTellsUptoSaid : Prop := tagsTellsUptoRow.holds Try.pinned (OpenSpec.upto tagsTellsSpec)

/-- 'mintmarklaw07.TagsBytes', WHERE WHAT IT READS IS OF BULK AT MOST 1048576: true; the input reads as it did. -/
def tagsBytesUptoRow : OpenClaim := { program := "ytfbkfbmfeaajkaa", sum := "42f98c08fde6a72b34d81fb6b023bd107b87500ba44e72dadd71416c67829760", func := "mintmark/mintmarklaw07.TagsBytes", spec := "tagsBytes", apart := false, narrowed := true }
def TagsBytesUptoSaid : Prop := tagsBytesUptoRow.holds Try.pinned (OpenSpec.upto tagsBytesSpec)

/-- 'mintmarklaw07.TagsSets', WHERE WHAT IT READS IS OF BULK AT MOST 1048576: true; the input reads as it did. -/
def tagsSetsUptoRow : OpenClaim := { program := "ytfbkfbmfeaajkaa", sum := "42f98c08fde6a72b34d81fb6b023bd107b87500ba44e72dadd71416c67829760", func := "mintmark/mintmarklaw07.TagsSets", spec := "tagsSets", unfollowed := true, recurses := true, apart := false, narrowed := true }
def TagsSetsUptoSaid : Prop := tagsSetsUptoRow.holds Try.pinned (OpenSpec.upto tagsSetsSpec)

end Rows
end Go.Proofs.Ytfbkfbmfeaajkaa
