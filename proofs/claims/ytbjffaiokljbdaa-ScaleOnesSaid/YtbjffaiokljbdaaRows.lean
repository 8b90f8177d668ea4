/-
  No cell of these rows narrows 'for every input' (looked for: loops, veiled, ifaces, maps, wideKeys, modest, calm, conditions, laid).
  DERIVED. THE GIVEN ROWS OF THIS SEAT. 5 by the template 'for every input the law returns true; each argument reads behind the call as it read before'; 0 by the template 'total and deterministic' (their statements: YtbjffaiokljbdaaTotals.lean).
  GIVEN WITH THE SEED: the statements are not yours to turn. If you find one false, say at which input.
  Laid BY PROGRAM, IN A SANDBOX (cutbox-rows.mjs): the forced cells as the released guide's own fill.sh prints them over the translation 7bbc0c5bfcf5b745… (all of the seat's roots in one cut). By AI agents, Wed Nov 11 2026. No macro, syntax, notation, axiom, sorry.
-/
import Derived.Test.YtbjffaiokljbdaaChecked
import GoSem.Claim
import GoSem.ClaimJoined
import GoSem.ClaimMapViews
import Derived.JoinedTies
import Derived.KernelRfl
namespace Go.Proofs.Ytbjffaiokljbdaa
/- THE CELL 'sum', in the pinned program and in every row, IS THE sha256 OF THE DUMP (.gsa) THAT YtbjffaiokljbdaaProg.lean LOADS. Nothing in Lean hashes anything: it is a label: what it is worth is what the hold of that sum in a sandbox is worth. -/
noncomputable def Try.pinned : Pinned := { name := "ytbjffaiokljbdaa", sum := "7bbc0c5bfcf5b7459a15f7a6b9e2bec495ec9f7f1988f246ddb17d218509985b", checked := Try.checked }
namespace Rows
def none {H : Type} : Left H := { results := [], args := [] }

/-- 'mintmarklaw02.ScaleSums': WHATEVER THE INPUT: true; the input reads as it did. -/
def scaleSumsSpec : ChangeSpec := { name := "scaleSums", fn := fun _ => fun
  | [d1, d2, d3] => { results := [.lit (.bool true)], args := [d1, d2, d3] }
  | _ => none }
def scaleSumsRow : OpenClaim := { program := "ytbjffaiokljbdaa", sum := "7bbc0c5bfcf5b7459a15f7a6b9e2bec495ec9f7f1988f246ddb17d218509985b", func := "mintmark/mintmarklaw02.ScaleSums", spec := "scaleSums", inPlace := ["math/bits.Add64"], apart := false }
def ScaleSumsSaid : Prop := scaleSumsRow.holds Try.pinned (OpenSpec.ofChange scaleSumsSpec)

/-- ITS FALSE NEIGHBOUR: 'it returns false'. Refute it at one input. -/
def scaleSumsWrong : ChangeSpec := { name := "scaleSums", fn := fun _ => fun
  | [d1, d2, d3] => { results := [.lit (.bool false)], args := [d1, d2, d3] }
  | _ => none }
def ScaleSumsWrongFalsely : Prop := scaleSumsRow.holds Try.pinned (OpenSpec.ofChange scaleSumsWrong)

/-- 'mintmarklaw02.ScaleSpans': WHATEVER THE INPUT: true; the input reads as it did. -/
def scaleSpansSpec : ChangeSpec := { name := "scaleSpans", fn := fun _ => fun
  | [d1, d2] => { results := [.lit (.bool true)], args := [d1, d2] }
  | _ => none }
def scaleSpansRow : OpenClaim := { program := "ytbjffaiokljbdaa", sum := "7bbc0c5bfcf5b7459a15f7a6b9e2bec495ec9f7f1988f246ddb17d218509985b", func := "mintmark/mintmarklaw02.ScaleSpans", spec := "scaleSpans", inPlace := ["math/bits.Add64"], apart := false }
def ScaleSpansSaid : Prop := scaleSpansRow.holds Try.pinned (OpenSpec.ofChange scaleSpansSpec)

/-- ITS FALSE NEIGHBOUR: 'it returns false'. Refute it at one input. -/
def scaleSpansWrong : ChangeSpec := { name := "scaleSpans", fn := fun _ => fun
  | [d1, d2] => { results := [.lit (.bool false)], args := [d1, d2] }
  | _ => none }
def ScaleSpansWrongFalsely : Prop := scaleSpansRow.holds Try.pinned (OpenSpec.ofChange scaleSpansWrong)

/-- 'mintmarklaw02.ScaleOnes': WHATEVER THE INPUT: true; the input reads as it did. -/
def scaleOnesSpec : ChangeSpec := { name := "scaleOnes", fn := fun _ => fun
  | [d1, d2] => { results := [.lit (.bool true)], args := [d1, d2] }
  | _ => none }
def scaleOnesRow : OpenClaim := { program := "ytbjffaiokljbdaa", sum := "7bbc0c5bfcf5b7459a15f7a6b9e2bec495ec9f7f1988f246ddb17d218509985b", func := "mintmark/mintmarklaw02.ScaleOnes", spec := "scaleOnes", unfollowed := true, recurses := true, apart := false }
def ScaleOnesSaid : Prop := scaleOnesRow.holds Try.pinned (OpenSpec.ofChange scaleOnesSpec)

/-- ITS FALSE NEIGHBOUR: 'it returns false'. Refute it at one input. -/
def scaleOnesWrong : ChangeSpec := { name := "scaleOnes", fn := fun _ => fun
  | [d1, d2] => { results := [.lit (.bool false)], args := [d1, d2] }
  | _ => none }
def ScaleOnesWrongFalsely : Prop := scaleOnesRow.holds Try.pinned (OpenSpec.ofChange scaleOnesWrong)

/-- 'mintmarklaw02.ScaleBetween': WHATEVER THE INPUT: true; the input reads as it did. -/
def scaleBetweenSpec : ChangeSpec := { name := "scaleBetween", fn := fun _ => fun
  | [d1, d2] => { results := [.lit (.bool true)], args := [d1, d2] }
  | _ => none }
def scaleBetweenRow : OpenClaim := { program := "ytbjffaiokljbdaa", sum := "7bbc0c5bfcf5b7459a15f7a6b9e2bec495ec9f7f1988f246ddb17d218509985b", func := "mintmark/mintmarklaw02.ScaleBetween", spec := "scaleBetween", inPlace := ["math/bits.Add64"], unfollowed := true, recurses := true, apart := false }
def ScaleBetweenSaid : Prop := scaleBetweenRow.holds Try.pinned (OpenSpec.ofChange scaleBetweenSpec)

/-- ITS FALSE NEIGHBOUR: 'it returns false'. Refute it at one input. -/
def scaleBetweenWrong : ChangeSpec := { name := "scaleBetween", fn := fun _ => fun
  | [d1, d2] => { results := [.lit (.bool false)], args := [d1, d2] }
  | _ => none }
def ScaleBetweenWrongFalsely : Prop := scaleBetweenRow.holds Try.pinned (OpenSpec.ofChange scaleBetweenWrong)

/-- 'mintmarklaw02.ScaleTells': WHATEVER THE INPUT: true; the input reads as it did. -/
def scaleTellsSpec : ChangeSpec := { name := "scaleTells", fn := fun _ => fun
  | [d1, d2] => { results := [.lit (.bool true)], args := [d1, d2] }
  | _ => none }
def scaleTellsRow : OpenClaim := { program := "ytbjffaiokljbdaa", sum := "7bbc0c5bfcf5b7459a15f7a6b9e2bec495ec9f7f1988f246ddb17d218509985b", func := "mintmark/mintmarklaw02.ScaleTells", spec := "scaleTells", inPlace := ["math/bits.Add64"], unfollowed := true, recurses := true, apart := false }
def ScaleTellsSaid : Prop := scaleTellsRow.holds Try.pinned (OpenSpec.ofChange scaleTellsSpec)

/-- ITS FALSE NEIGHBOUR: 'it returns false'. Refute it at one input. -/
def scaleTellsWrong : ChangeSpec := { name := "scaleTells", fn := fun _ => fun
  | [d1, d2] => { results := [.lit (.bool false)], args := [d1, d2] }
  | _ => none }
def ScaleTellsWrongFalsely : Prop := scaleTellsRow.holds Try.pinned (OpenSpec.ofChange scaleTellsWrong)

/- THE SECOND FORM. 'bulk': how many values and letters a reading holds, each counted each time it is reached (what is shared counts as often as it is met; a slice's spare places count too). A statement '..UptoSaid' is the law's where the arguments, and the package variables that the reading takes, are together of bulk at most 1048576: NARROWER than '..Said'. Prove '..Said' where nothing that the law and all that it calls make is longer than what came in: it says more and counts as full. Else prove '..UptoSaid'. A law counts once. -/
mutual
def uptoBulk {H : Type} : DataW H → Nat
  | .lit (.string bytes) => bytes.length + 1
  | .lit _ => 1
  | .nil => 1
  | .ptr d => uptoBulk d + 1
  | .slice elems spare => uptoBulkAll elems + uptoBulkAll spare + 1
  | .agg parts => uptoBulkAll parts + 1
  | .iface _ d => uptoBulk d + 1
  | .map entries => uptoBulkEntries entries + 1
  | .held _ => 1
def uptoBulkAll {H : Type} : List (DataW H) → Nat
  | [] => 0
  | d :: r => uptoBulk d + uptoBulkAll r
def uptoBulkEntries {H : Type} : List (Lit × DataW H) → Nat
  | [] => 0
  | x :: r => uptoBulkEntry x + uptoBulkEntries r
def uptoBulkEntry {H : Type} : Lit × DataW H → Nat
  | (.string bytes, d) => bytes.length + uptoBulk d + 1
  | (_, d) => uptoBulk d + 1
 end
def uptoSmall : (H : Type) → List (DataW H) → Bool := fun _ ds => decide (uptoBulkAll ds ≤ 1048576)
def OpenSpec.upto (s : _root_.Go.ChangeSpec) : _root_.Go.OpenSpec := { _root_.Go.OpenSpec.ofChange s with cond := some uptoSmall }

/-- 'mintmarklaw02.ScaleSums', WHERE WHAT IT READS IS OF BULK AT MOST 1048576: true; the input reads as it did. -/
def scaleSumsUptoRow : OpenClaim := { program := "ytbjffaiokljbdaa", sum := "7bbc0c5bfcf5b7459a15f7a6b9e2bec495ec9f7f1988f246ddb17d218509985b", func := "mintmark/mintmarklaw02.ScaleSums", spec := "scaleSums", inPlace := ["math/bits.Add64"], apart := false, narrowed := true }
def ScaleSumsUptoSaid : Prop := scaleSumsUptoRow.holds Try.pinned (OpenSpec.upto scaleSumsSpec)

/-- 'mintmarklaw02.ScaleSpans', WHERE WHAT IT READS IS OF BULK AT MOST 1048576: true; the input reads as it did. -/
def scaleSpansUptoRow : OpenClaim := { program := "ytbjffaiokljbdaa", sum := "7bbc0c5bfcf5b7459a15f7a6b9e2bec495ec9f7f1988f246ddb17d218509985b", func := "mintmark/mintmarklaw02.ScaleSpans", spec := "scaleSpans", inPlace := ["math/bits.Add64"], apart := false, narrowed := true }
def ScaleSpansUptoSaid : Prop := scaleSpansUptoRow.holds Try.pinned (OpenSpec.upto scaleSpansSpec)

/-- 'mintmarklaw02.ScaleOnes', WHERE WHAT IT READS IS OF BULK AT MOST 1048576: true; the input reads as it did. -/
def scaleOnesUptoRow : OpenClaim := { program := "ytbjffaiokljbdaa", sum := "7bbc0c5bfcf5b7459a15f7a6b9e2bec495ec9f7f1988f246ddb17d218509985b", func := "mintmark/mintmarklaw02.ScaleOnes", spec := "scaleOnes", unfollowed := true, recurses := true, apart := false, narrowed := true }
def ScaleOnesUptoSaid : Prop := scaleOnesUptoRow.holds Try.pinned (OpenSpec.upto scaleOnesSpec)

/-- 'mintmarklaw02.ScaleBetween', WHERE WHAT IT READS IS OF BULK AT MOST 1048576: true; the input reads as it did. -/
def scaleBetweenUptoRow : OpenClaim := { program := "ytbjffaiokljbdaa", sum := "7bbc0c5bfcf5b7459a15f7a6b9e2bec495ec9f7f1988f246ddb17d218509985b", func := "mintmark/mintmarklaw02.ScaleBetween", spec := "scaleBetween", inPlace := ["math/bits.Add64"], unfollowed := true, recurses := true, apart := false, narrowed := true }
def ScaleBetweenUptoSaid : Prop := scaleBetweenUptoRow.holds Try.pinned (OpenSpec.upto scaleBetweenSpec)

/-- 'mintmarklaw02.ScaleTells', WHERE WHAT IT READS IS OF BULK AT MOST 1048576: true; the input reads as it did. -/
def scaleTellsUptoRow : OpenClaim := { program := "ytbjffaiokljbdaa", sum := "7bbc0c5bfcf5b7459a15f7a6b9e2bec495ec9f7f1988f246ddb17d218509985b", func := "mintmark/mintmarklaw02.ScaleTells", spec := "scaleTells", inPlace := ["math/bits.Add64"], unfollowed := true, recurses := true, apart := false, narrowed := true }
def ScaleTellsUptoSaid : Prop := scaleTellsUptoRow.holds Try.pinned (OpenSpec.upto scaleTellsSpec)

end Rows
end Go.Proofs.Ytbjffaiokljbdaa
