
/-
  RegsTagged: the capabilities that have a tag are told, each once, by rising registers, and no others; whoever goes over them may end; and behind a sweep of all none is told. Every input.
-/
import Derived.Test.YtpjcijmdoofcbaaLaw
import Derived.Test.YtpjcijmdoofcbaaGxN
namespace Go.Proofs.Ytpjcijmdoofcbaa.Tagged
open Go Go.RowKit Go.ChangeShapes Go.WideShapes Go.ChangeAt
set_option linter.unusedVariables false
set_option linter.unusedSimpArgs false

def capLeaves : Nat → List Leaf
  | 0 => []
  | n + 1 => .bool :: .int .u64 :: .int .u64 :: capLeaves n
theorem leaf_caps {S : TypeId → Value → Prop} : ∀ (n : Nat) (K : List Value → Prop), LeafEx S (capLeaves n) K → ∃ L : List Cp, L.length = n ∧ K (cellsC L)
  | 0, K, h => ⟨[], rfl, h⟩
  | n + 1, K, h => by
    obtain ⟨g, m, hm, a, ha, h⟩ := h
    obtain ⟨x, rfl⟩ := exists_U m hm
    obtain ⟨y, rfl⟩ := exists_U a ha
    obtain ⟨L, hL, hK⟩ := leaf_caps n _ h
    exact ⟨⟨g, x, y⟩ :: L, by rw [List.length_cons, hL], hK⟩
set_option maxRecDepth 100000 in
theorem lifted (os : Os) (started : os.Started) (H : Type) (enc : TypeId × Value → H) :
    ReturnsInHanded {} Try.checked os 3 .any (Rows.regsTaggedSpec.pre6 enc Try.prog Try.f3 Rows.regsTaggedRow.domain false) (Rows.regsTaggedSpec.post enc Try.prog Try.f3 false true false false) := by
  refine law_lift (C := Try.checked) (tb := 4) started (by kernel_rfl) (by kernel_rfl) Try.func3 rfl rfl Try.underlying4 (by kernel_rfl) (by kernel_rfl)
    (fun ds h => by match ds, h with | [_, _], _ => rfl)
    (ChangeSpec.witness6 (enc := enc) (C := Try.checked) false ⟨#[], #[.agg (cellsC zeroL).toArray, .int .i64 0], []⟩ 8 (by kernel_rfl) (by kernel_rfl) (by kernel_rfl) (by kernel_rfl)) ?_
  intro W base args ds ps hval hA hlt hfz hsz
  rw [Try.params3] at hA hval hsz
  obtain ⟨v0, v1, d0, d1, p0, p1, rfl, rfl, rfl, h0, h1⟩ := trodAll_two hA
  obtain ⟨L, hL, rfl⟩ := leaf_caps 33 _ (open_leaves (d := 6) (ls := capLeaves 33) (by kernel_rfl) (by kernel_rfl) (hval 0 _ v0 rfl rfl) h0)
  obtain ⟨y, rfl, rfl, rfl, w1⟩ := open_int Try.underlying3 (hval 1 _ v1 rfl rfl) h1
  exact tagged_walk L hL y ((wf_i64 y).1 w1).1 ((wf_i64 y).1 w1).2 W

theorem over : Rows.regsTaggedRow.holds Try.pinned (OpenSpec.ofChange Rows.regsTaggedSpec) :=
  OpenClaim.holds_of_wide 3 Try.f3 rfl rfl rfl rfl rfl rfl rfl ⟨rfl, rfl, rfl, rfl, rfl⟩ rfl rfl rfl rfl rfl (by kernel_rfl) Try.func3 (by kernel_rfl)
    (of_decide_eq_true (by kernel_rfl)) (by unfold Func.isWrapper; first | (rw [if_pos (by decide +kernel)]; kernel_rfl) | (rw [if_neg (by decide +kernel)]; exact ⟨rfl, rfl⟩))
    (fun os started H enc _ => lifted os started H enc)

theorem proved : Rows.RegsTaggedSaid := over
end Go.Proofs.Ytpjcijmdoofcbaa.Tagged
