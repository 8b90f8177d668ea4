/-
  No cell of these rows narrows 'for every input' (looked for: loops, veiled, ifaces, maps, wideKeys, modest, calm, conditions, laid).
  DERIVED. THE GIVEN ROWS OF THIS SEAT. 6 by the template 'for every input the law returns true; each argument reads behind the call as it read before'; 0 by the template 'total and deterministic' (their statements: YtikpkoeeinkecaaTotals.lean).
  GIVEN WITH THE SEED: the statements are not yours to turn. If you find one false, say at which input.
  Laid BY PROGRAM, IN A SANDBOX (cutbox-rows.mjs): the forced cells as the released guide's own fill.sh prints them over the translation c48e4b82b0a6a472… (all of the seat's roots in one cut). By AI agents, Wed Nov 11 2026. No macro, syntax, notation, axiom, sorry.
-/
import Derived.Test.YtikpkoeeinkecaaChecked
import GoSem.Claim
import GoSem.ClaimJoined
import GoSem.ClaimMapViews
import Derived.JoinedTies
import Derived.KernelRfl
namespace Go.Proofs.Ytikpkoeeinkecaa
/- THE CELL 'sum', in the pinned program and in every row, IS THE sha256 OF THE DUMP (.gsa) THAT YtikpkoeeinkecaaProg.lean LOADS. Nothing in Lean hashes anything: it is a label: what it is worth is what the hold of that sum in a sandbox is worth. -/
noncomputable def Try.pinned : Pinned := { name := "ytikpkoeeinkecaa", sum := "c48e4b82b0a6a472b495bfac04be90a1084eab0042577f9c130c19fff64bdc94", checked := Try.checked }
namespace Rows
def none {H : Type} : Left H := { results := [], args := [] }

/-- 'mintmarklaw05.CapabMakes': WHATEVER THE INPUT: true; the input reads as it did. -/
def capabMakesSpec : ChangeSpec := { name := "capabMakes", fn := fun _ => fun
  | [d1, d2] => { results := [.lit (.bool true)], args := [d1, d2] }
  | _ => none }
def capabMakesRow : OpenClaim := { program := "ytikpkoeeinkecaa", sum := "c48e4b82b0a6a472b495bfac04be90a1084eab0042577f9c130c19fff64bdc94", func := "mintmark/mintmarklaw05.CapabMakes", spec := "capabMakes", inPlace := ["math/bits.Add64"], unfollowed := true, recurses := true, apart := false }
def CapabMakesSaid : Prop := capabMakesRow.holds Try.pinned (OpenSpec.ofChange capabMakesSpec)

/-- ITS FALSE NEIGHBOUR: 'it returns false'. Refute it at one input. -/
def capabMakesWrong : ChangeSpec := { name := "capabMakes", fn := fun _ => fun
  | [d1, d2] => { results := [.lit (.bool false)], args := [d1, d2] }
  | _ => none }
def CapabMakesWrongFalsely : Prop := capabMakesRow.holds Try.pinned (OpenSpec.ofChange capabMakesWrong)

/-- 'mintmarklaw05.CapabBack': WHATEVER THE INPUT: true; the input reads as it did. -/
def capabBackSpec : ChangeSpec := { name := "capabBack", fn := fun _ => fun
  | [d1, d2] => { results := [.lit (.bool true)], args := [d1, d2] }
  | _ => none }
def capabBackRow : OpenClaim := { program := "ytikpkoeeinkecaa", sum := "c48e4b82b0a6a472b495bfac04be90a1084eab0042577f9c130c19fff64bdc94", func := "mintmark/mintmarklaw05.CapabBack", spec := "capabBack", inPlace := ["math/bits.Add64"], unfollowed := true, recurses := true, apart := false }
def CapabBackSaid : Prop := capabBackRow.holds Try.pinned (OpenSpec.ofChange capabBackSpec)

/-- ITS FALSE NEIGHBOUR: 'it returns false'. Refute it at one input. -/
def capabBackWrong : ChangeSpec := { name := "capabBack", fn := fun _ => fun
  | [d1, d2] => { results := [.lit (.bool false)], args := [d1, d2] }
  | _ => none }
def CapabBackWrongFalsely : Prop := capabBackRow.holds Try.pinned (OpenSpec.ofChange capabBackWrong)

/-- 'mintmarklaw05.CapabOrder': WHATEVER THE INPUT: true; the input reads as it did. -/
def capabOrderSpec : ChangeSpec := { name := "capabOrder", fn := fun _ => fun
  | [d] => { results := [.lit (.bool true)], args := [d] }
  | _ => none }
def capabOrderRow : OpenClaim := { program := "ytikpkoeeinkecaa", sum := "c48e4b82b0a6a472b495bfac04be90a1084eab0042577f9c130c19fff64bdc94", func := "mintmark/mintmarklaw05.CapabOrder", spec := "capabOrder", inPlace := ["math/bits.Add64"], unfollowed := true, recurses := true, apart := false }
def CapabOrderSaid : Prop := capabOrderRow.holds Try.pinned (OpenSpec.ofChange capabOrderSpec)

/-- ITS FALSE NEIGHBOUR: 'it returns false'. Refute it at one input. -/
def capabOrderWrong : ChangeSpec := { name := "capabOrder", fn := fun _ => fun
  | [d] => { results := [.lit (.bool false)], args := [d] }
  | _ => none }
def CapabOrderWrongFalsely : Prop := capabOrderRow.holds Try.pinned (OpenSpec.ofChange capabOrderWrong)

/-- 'mintmarklaw05.CapabRoots': WHATEVER THE INPUT: true; the input reads as it did. -/
def capabRootsSpec : ChangeSpec := { name := "capabRoots", fn := fun _ => fun
  | [d1, d2, d3] => { results := [.lit (.bool true)], args := [d1, d2, d3] }
  | _ => none }
def capabRootsRow : OpenClaim := { program := "ytikpkoeeinkecaa", sum := "c48e4b82b0a6a472b495bfac04be90a1084eab0042577f9c130c19fff64bdc94", func := "mintmark/mintmarklaw05.CapabRoots", spec := "capabRoots", inPlace := ["math/bits.Add64"], unfollowed := true, recurses := true, apart := false }
def CapabRootsSaid : Prop := capabRootsRow.holds Try.pinned (OpenSpec.ofChange capabRootsSpec)

/-- ITS FALSE NEIGHBOUR: 'it returns false'. Refute it at one input. -/
def capabRootsWrong : ChangeSpec := { name := "capabRoots", fn := fun _ => fun
  | [d1, d2, d3] => { results := [.lit (.bool false)], args := [d1, d2, d3] }
  | _ => none }
def CapabRootsWrongFalsely : Prop := capabRootsRow.holds Try.pinned (OpenSpec.ofChange capabRootsWrong)

/-- 'mintmarklaw05.CapabBytes': WHATEVER THE INPUT: true; the input reads as it did. -/
def capabBytesSpec : ChangeSpec := { name := "capabBytes", fn := fun _ => fun
  | [d1, d2, d3] => { results := [.lit (.bool true)], args := [d1, d2, d3] }
  | _ => none }
def capabBytesRow : OpenClaim := { program := "ytikpkoeeinkecaa", sum := "c48e4b82b0a6a472b495bfac04be90a1084eab0042577f9c130c19fff64bdc94", func := "mintmark/mintmarklaw05.CapabBytes", spec := "capabBytes", inPlace := ["math/bits.Add64"], unfollowed := true, recurses := true, apart := false }
def CapabBytesSaid : Prop := capabBytesRow.holds Try.pinned (OpenSpec.ofChange capabBytesSpec)

/-- ITS FALSE NEIGHBOUR: 'it returns false'. Refute it at one input. -/
def capabBytesWrong : ChangeSpec := { name := "capabBytes", fn := fun _ => fun
  | [d1, d2, d3] => { results := [.lit (.bool false)], args := [d1, d2, d3] }
  | _ => none }
def CapabBytesWrongFalsely : Prop := capabBytesRow.holds Try.pinned (OpenSpec.ofChange capabBytesWrong)

/-- 'mintmarklaw05.CapabLooks': WHATEVER THE INPUT: true; the input reads as it did. -/
def capabLooksSpec : ChangeSpec := { name := "capabLooks", fn := fun _ => fun
  | [d1, d2] => { results := [.lit (.bool true)], args := [d1, d2] }
  | _ => none }
def capabLooksRow : OpenClaim := { program := "ytikpkoeeinkecaa", sum := "c48e4b82b0a6a472b495bfac04be90a1084eab0042577f9c130c19fff64bdc94", func := "mintmark/mintmarklaw05.CapabLooks", spec := "capabLooks", inPlace := ["math/bits.Add64"], unfollowed := true, recurses := true, apart := false }
def CapabLooksSaid : Prop := capabLooksRow.holds Try.pinned (OpenSpec.ofChange capabLooksSpec)

/-- ITS FALSE NEIGHBOUR: 'it returns false'. Refute it at one input. -/
def capabLooksWrong : ChangeSpec := { name := "capabLooks", fn := fun _ => fun
  | [d1, d2] => { results := [.lit (.bool false)], args := [d1, d2] }
  | _ => none }
def CapabLooksWrongFalsely : Prop := capabLooksRow.holds Try.pinned (OpenSpec.ofChange capabLooksWrong)

/- THE SECOND FORM. 'bulk': how many values and letters a reading holds, each counted each time it is reached (what is shared counts as often as it is met; a slice's spare places count too). A statement '..UptoSaid' is the law's where the arguments, and the package variables that the reading takes, are together of bulk at most 1048576: NARROWER than '..Said'. Prove '..Said' where nothing that the law and all that it calls make is longer than what came in: it says more and counts as full. Else prove '..UptoSaid'. A law counts once. -/
mutual
def uptoBulk {H : Type} : DataW H → Nat
  | .lit (.string bytes) => bytes.length + 1
  | .lit _ => 1
  | .nil => 1
  | .ptr d => uptoBulk d + 1
  | .slice elems spare => uptoBulkAll elems + uptoBulkAll spare + 1
  | .agg parts => uptoBulkAll parts + 1
  | .iface _ d => uptoBulk d + 1
  | .map entries => uptoBulkEntries entries + 1
  | .held _ => 1
def uptoBulkAll {H : Type} : List (DataW H) → Nat
  | [] => 0
  | d :: r => uptoBulk d + uptoBulkAll r
def uptoBulkEntries {H : Type} : List (Lit × DataW H) → Nat
  | [] => 0
  | x :: r => uptoBulkEntry x + uptoBulkEntries r
def uptoBulkEntry {H : Type} : Lit × DataW H → Nat
  | (.string bytes, d) => bytes.length + uptoBulk d + 1
  | (_, d) => uptoBulk d + 1
 end
def uptoSmall : (H : Type) → List (DataW H) → Bool := fun _ ds => decide (uptoBulkAll ds ≤ 1048576)
def OpenSpec.upto (s : _root_.Go.ChangeSpec) : _root_.Go.OpenSpec := { _root_.Go.OpenSpec.ofChange s with cond := some uptoSmall }

/-- 'mintmarklaw05.CapabMakes', WHERE WHAT IT READS IS OF BULK AT MOST 1048576: true; the input reads as it did. -/
def capabMakesUptoRow : OpenClaim := { program := "ytikpkoeeinkecaa", sum := "c48e4b82b0a6a472b495bfac04be90a1084eab0042577f9c130c19fff64bdc94", func := "mintmark/mintmarklaw05.CapabMakes", spec := "capabMakes", inPlace := ["math/bits.Add64"], unfollowed := true, recurses := true, apart := false, narrowed := true }
def CapabMakesUptoSaid : Prop := capabMakesUptoRow.holds Try.pinned (OpenSpec.upto capabMakesSpec)

/-- 'mintmarklaw05.CapabBack', WHERE WHAT IT READS IS OF BULK AT MOST 1048576: true; the input reads as it did. -/
def capabBackUptoRow : OpenClaim := { program := "ytikpkoeeinkecaa", sum := "c48e4b82b0a6a472b495bfac04be90a1084eab0042577f9c130c19fff64bdc94", func := "mintmark/mintmarklaw05.CapabBack", spec := "capabBack", inPlace := ["math/bits.Add64"], unfollowed := true, recurses := true, apart := false, narrowed := true }
def CapabBackUptoSaid : Prop := capabBackUptoRow.holds Try.pinned (OpenSpec.upto capabBackSpec)

/-- 'mintmarklaw05.CapabOrder', WHERE WHAT IT READS IS OF BULK AT MOST 1048576: true; the input reads as it did. -/
def capabOrderUptoRow : OpenClaim := { program := "ytikpkoeeinkecaa", sum := "c48e4b82b0a6a472b495bfac04be90a1084eab0042577f9c130c19fff64bdc94", func := "mintmark/mintmarklaw05.CapabOrder", spec := "capabOrder", inPlace := ["math/bits.Add64"], unfollowed := true, recurses := true, apart := false, narrowed := true }
def CapabOrderUptoSaid : Prop := capabOrderUptoRow.holds Try.pinned (OpenSpec.upto capabOrderSpec)

/-- 'mintmarklaw05.CapabRoots', WHERE WHAT IT READS IS OF BULK AT MOST 1048576: true; the input reads as it did. -/
def capabRootsUptoRow : OpenClaim := { program := "ytikpkoeeinkecaa", sum := "c48e4b82b0a6a472b495bfac04be90a1084eab0042577f9c130c19fff64bdc94", func := "mintmark/mintmarklaw05.CapabRoots", spec := "capabRoots", inPlace := ["math/bits.Add64"], unfollowed := true, recurses := true, apart := false, narrowed := true }
def CapabRootsUptoSaid : Prop := capabRootsUptoRow.holds Try.pinned (OpenSpec.upto capabRootsSpec)

/-- 'mintmarklaw05.CapabBytes', WHERE WHAT IT READS IS OF BULK AT MOST 1048576: true; the input reads as it did. -/
def capabBytesUptoRow : OpenClaim := { program := "ytikpkoeeinkecaa", sum := "c48e4b82b0a6a472b495bfac04be90a1084eab0042577f9c130c19fff64bdc94", func := "mintmark/mintmarklaw05.CapabBytes", spec := "capabBytes", inPlace := ["math/bits.Add64"], unfollowed := true, recurses := true, apart := false, narrowed := true }
def CapabBytesUptoSaid : Prop := capabBytesUptoRow.holds Try.pinned (OpenSpec.upto capabBytesSpec)

/-- 'mintmarklaw05.CapabLooks', WHERE WHAT IT READS IS OF BULK AT MOST 1048576: true; the input reads as it did. -/
def capabLooksUptoRow : OpenClaim := { program := "ytikpkoeeinkecaa", sum := "c48e4b82b0a6a472b495bfac04be90a1084eab0042577f9c130c19fff64bdc94", func := "mintmark/mintmarklaw05.CapabLooks", spec := "capabLooks", inPlace := ["math/bits.Add64"], unfollowed := true, recurses := true, apart := false, narrowed := true }
def CapabLooksUptoSaid : Prop := capabLooksUptoRow.holds Try.pinned (OpenSpec.upto capabLooksSpec)

end Rows
end Go.Proofs.Ytikpkoeeinkecaa
