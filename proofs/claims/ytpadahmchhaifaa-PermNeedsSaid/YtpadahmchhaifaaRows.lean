/-
  No cell of these rows narrows 'for every input' (looked for: loops, veiled, ifaces, maps, wideKeys, modest, calm, conditions, laid).
  DERIVED. THE GIVEN ROWS OF THIS SEAT. 4 by the template 'for every input the law returns true; each argument reads behind the call as it read before'; 0 by the template 'total and deterministic' (their statements: YtpadahmchhaifaaTotals.lean).
  GIVEN WITH THE SEED: the statements are not yours to turn. If you find one false, say at which input.
  Laid BY PROGRAM, IN A SANDBOX (cutbox-rows.mjs): the forced cells as the released guide's own fill.sh prints them over the translation b330770af1c65a8b… (all of the seat's roots in one cut). By AI agents, Wed Nov 11 2026. No macro, syntax, notation, axiom, sorry.
-/
import Derived.Test.YtpadahmchhaifaaChecked
import GoSem.Claim
import GoSem.ClaimJoined
import GoSem.ClaimMapViews
import Derived.JoinedTies
import Derived.KernelRfl
namespace Go.Proofs.Ytpadahmchhaifaa
/- THE CELL 'sum', in the pinned program and in every row, IS THE sha256 OF THE DUMP (.gsa) THAT YtpadahmchhaifaaProg.lean LOADS. Nothing in Lean hashes anything: it is a label: what it is worth is what the hold of that sum in a sandbox is worth. -/
noncomputable def Try.pinned : Pinned := { name := "ytpadahmchhaifaa", sum := "b330770af1c65a8b97bae9ba73bc612d87407991d07fcd327bb7a5f405026a00", checked := Try.checked }
namespace Rows
def none {H : Type} : Left H := { results := [], args := [] }

/-- 'mintmarklaw04.PermParses': WHATEVER THE INPUT: true; the input reads as it did. -/
def permParsesSpec : ChangeSpec := { name := "permParses", fn := fun _ => fun
  | [d] => { results := [.lit (.bool true)], args := [d] }
  | _ => none }
def permParsesRow : OpenClaim := { program := "ytpadahmchhaifaa", sum := "b330770af1c65a8b97bae9ba73bc612d87407991d07fcd327bb7a5f405026a00", func := "mintmark/mintmarklaw04.PermParses", spec := "permParses", apart := false }
def PermParsesSaid : Prop := permParsesRow.holds Try.pinned (OpenSpec.ofChange permParsesSpec)

/-- ITS FALSE NEIGHBOUR: 'it returns false'. Refute it at one input. -/
def permParsesWrong : ChangeSpec := { name := "permParses", fn := fun _ => fun
  | [d] => { results := [.lit (.bool false)], args := [d] }
  | _ => none }
def PermParsesWrongFalsely : Prop := permParsesRow.holds Try.pinned (OpenSpec.ofChange permParsesWrong)

/-- 'mintmarklaw04.PermBack': WHATEVER THE INPUT: true; the input reads as it did. -/
def permBackSpec : ChangeSpec := { name := "permBack", fn := fun _ => fun
  | [d1, d2] => { results := [.lit (.bool true)], args := [d1, d2] }
  | _ => none }
def permBackRow : OpenClaim := { program := "ytpadahmchhaifaa", sum := "b330770af1c65a8b97bae9ba73bc612d87407991d07fcd327bb7a5f405026a00", func := "mintmark/mintmarklaw04.PermBack", spec := "permBack", apart := false }
def PermBackSaid : Prop := permBackRow.holds Try.pinned (OpenSpec.ofChange permBackSpec)

/-- ITS FALSE NEIGHBOUR: 'it returns false'. Refute it at one input. -/
def permBackWrong : ChangeSpec := { name := "permBack", fn := fun _ => fun
  | [d1, d2] => { results := [.lit (.bool false)], args := [d1, d2] }
  | _ => none }
def PermBackWrongFalsely : Prop := permBackRow.holds Try.pinned (OpenSpec.ofChange permBackWrong)

/-- 'mintmarklaw04.PermTells': WHATEVER THE INPUT: true; the input reads as it did. -/
def permTellsSpec : ChangeSpec := { name := "permTells", fn := fun _ => fun
  | [d1, d2, d3] => { results := [.lit (.bool true)], args := [d1, d2, d3] }
  | _ => none }
def permTellsRow : OpenClaim := { program := "ytpadahmchhaifaa", sum := "b330770af1c65a8b97bae9ba73bc612d87407991d07fcd327bb7a5f405026a00", func := "mintmark/mintmarklaw04.PermTells", spec := "permTells", apart := false }
def PermTellsSaid : Prop := permTellsRow.holds Try.pinned (OpenSpec.ofChange permTellsSpec)

/-- ITS FALSE NEIGHBOUR: 'it returns false'. Refute it at one input. -/
def permTellsWrong : ChangeSpec := { name := "permTells", fn := fun _ => fun
  | [d1, d2, d3] => { results := [.lit (.bool false)], args := [d1, d2, d3] }
  | _ => none }
def PermTellsWrongFalsely : Prop := permTellsRow.holds Try.pinned (OpenSpec.ofChange permTellsWrong)

/-- 'mintmarklaw04.PermNeeds': WHATEVER THE INPUT: true; the input reads as it did. -/
def permNeedsSpec : ChangeSpec := { name := "permNeeds", fn := fun _ => fun
  | [d1, d2, d3] => { results := [.lit (.bool true)], args := [d1, d2, d3] }
  | _ => none }
def permNeedsRow : OpenClaim := { program := "ytpadahmchhaifaa", sum := "b330770af1c65a8b97bae9ba73bc612d87407991d07fcd327bb7a5f405026a00", func := "mintmark/mintmarklaw04.PermNeeds", spec := "permNeeds", apart := false }
def PermNeedsSaid : Prop := permNeedsRow.holds Try.pinned (OpenSpec.ofChange permNeedsSpec)

/-- ITS FALSE NEIGHBOUR: 'it returns false'. Refute it at one input. -/
def permNeedsWrong : ChangeSpec := { name := "permNeeds", fn := fun _ => fun
  | [d1, d2, d3] => { results := [.lit (.bool false)], args := [d1, d2, d3] }
  | _ => none }
def PermNeedsWrongFalsely : Prop := permNeedsRow.holds Try.pinned (OpenSpec.ofChange permNeedsWrong)

/- THE SECOND FORM. 'bulk': how many values and letters a reading holds, each counted each time it is reached (what is shared counts as often as it is met; a slice's spare places count too). A statement '..UptoSaid' is the law's where the arguments, and the package variables that the reading takes, are together of bulk at most 1048576: NARROWER than '..Said'. Prove '..Said' where nothing that the law and all that it calls make is longer than what came in: it says more and counts as full. Else prove '..UptoSaid'. A law counts once. -/
mutual
def uptoBulk {H : Type} : DataW H → Nat
  | .lit (.string bytes) => bytes.length + 1
  | .lit _ => 1
  | .nil => 1
  | .ptr d => uptoBulk d + 1
  | .slice elems spare => uptoBulkAll elems + uptoBulkAll spare + 1
  | .agg parts => uptoBulkAll parts + 1
  | .iface _ d => uptoBulk d + 1
  | .map entries => uptoBulkEntries entries + 1
  | .held _ => 1
def uptoBulkAll {H : Type} : List (DataW H) → Nat
  | [] => 0
  | d :: r => uptoBulk d + uptoBulkAll r
def uptoBulkEntries {H : Type} : List (Lit × DataW H) → Nat
  | [] => 0
  | x :: r => uptoBulkEntry x + uptoBulkEntries r
def uptoBulkEntry {H : Type} : Lit × DataW H → Nat
  | (.string bytes, d) => bytes.length + uptoBulk d + 1
  | (_, d) => uptoBulk d + 1
 end
def uptoSmall : (H : Type) → List (DataW H) → Bool := fun _ ds => decide (uptoBulkAll ds ≤ 1048576)
def OpenSpec.upto (s : _root_.Go.ChangeSpec) : _root_.Go.OpenSpec := { _root_.Go.OpenSpec.ofChange s with cond := some uptoSmall }

/-- 'mintmarklaw04.PermParses', WHERE WHAT IT READS IS OF BULK AT MOST 1048576: true; the input reads as it did. -/
def permParsesUptoRow : OpenClaim := { program := "ytpadahmchhaifaa", sum := "b330770af1c65a8b97bae9ba73bc612d87407991d07fcd327bb7a5f405026a00", func := "mintmark/mintmarklaw04.PermParses", spec := "permParses", apart := false, narrowed := true }
def PermParsesUptoSaid : Prop := permParsesUptoRow.holds Try.pinned (OpenSpec.upto permParsesSpec)

/-- 'mintmarklaw04.PermBack', WHERE WHAT IT READS IS OF BULK AT MOST 1048576: true; the input reads as it did. -/
def permBackUptoRow : OpenClaim := { program := "ytpadahmchhaifaa", sum := "b330770af1c65a8b97bae9ba73bc612d87407991d07fcd327bb7a5f405026a00", func := "mintmark/mintmarklaw04.PermBack", spec := "permBack", apart := false, narrowed := true }
def PermBackUptoSaid : Prop := permBackUptoRow.holds Try.pinned (OpenSpec.upto permBackSpec)

/-- 'mintmarklaw04.PermTells', WHERE WHAT IT READS IS OF BULK AT MOST 1048576: true; the input reads as it did. -/
def permTellsUptoRow : OpenClaim := { program := "ytpadahmchhaifaa", sum := "b330770af1c65a8b97bae9ba73bc612d87407991d07fcd327bb7a5f405026a00", func := "mintmark/mintmarklaw04.PermTells", spec := "permTells", apart := false, narrowed := true }
def PermTellsUptoSaid : Prop := permTellsUptoRow.holds Try.pinned (OpenSpec.upto permTellsSpec)

/-- 'mintmarklaw04.PermNeeds', WHERE WHAT IT READS IS OF BULK AT MOST 1048576: true; the input reads as it did. -/
def permNeedsUptoRow : OpenClaim := { program := "ytpadahmchhaifaa", sum := "b330770af1c65a8b97bae9ba73bc612d87407991d07fcd327bb7a5f405026a00", func := "mintmark/mintmarklaw04.PermNeeds", spec := "permNeeds", apart := false, narrowed := true }
def PermNeedsUptoSaid : Prop := permNeedsUptoRow.holds Try.pinned (OpenSpec.upto permNeedsSpec)

end Rows
end Go.Proofs.Ytpadahmchhaifaa
