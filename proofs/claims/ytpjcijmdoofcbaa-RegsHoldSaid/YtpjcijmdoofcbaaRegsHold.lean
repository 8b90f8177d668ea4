
/-
  RegsHold: any context has the document's registers, with another one in any place, and swept of what begins in any span. Every input.
-/
import Derived.Test.YtpjcijmdoofcbaaLaw
import Derived.Test.YtpjcijmdoofcbaaGyH
namespace Go.Proofs.Ytpjcijmdoofcbaa.Hold
open Go Go.RowKit Go.ChangeShapes Go.WideShapes Go.ChangeAt
set_option linter.unusedVariables false
set_option linter.unusedSimpArgs false

def capLeaves : Nat → List Leaf
  | 0 => []
  | n + 1 => .bool :: .int .u64 :: .int .u64 :: capLeaves n
theorem leaf_caps {S : TypeId → Value → Prop} : ∀ (n : Nat) (K : List Value → Prop), LeafEx S (capLeaves n) K → ∃ L : List Cp, L.length = n ∧ K (cellsC L)
  | 0, K, h => ⟨[], rfl, h⟩
  | n + 1, K, h => by
    obtain ⟨g, m, hm, a, ha, h⟩ := h
    obtain ⟨x, rfl⟩ := exists_U m hm
    obtain ⟨y, rfl⟩ := exists_U a ha
    obtain ⟨L, hL, hK⟩ := leaf_caps n _ h
    exact ⟨⟨g, x, y⟩ :: L, by rw [List.length_cons, hL], hK⟩
set_option maxRecDepth 100000 in
theorem lifted (os : Os) (started : os.Started) (H : Type) (enc : TypeId × Value → H) :
    ReturnsInHanded {} Try.checked os 5 .any (Rows.regsHoldSpec.pre6 enc Try.prog Try.f5 Rows.regsHoldRow.domain false) (Rows.regsHoldSpec.post enc Try.prog Try.f5 false true false false) := by
  refine law_lift (C := Try.checked) (tb := 4) started (by kernel_rfl) (by kernel_rfl) Try.func5 rfl rfl Try.underlying4 (by kernel_rfl) (by kernel_rfl)
    (fun ds h => by match ds, h with | [_, _, _], _ => rfl)
    (ChangeSpec.witness6 (enc := enc) (C := Try.checked) false ⟨#[], #[.agg (cellsC zeroL).toArray, .agg #[.bool false, .int .u64 0, .int .u64 0], .agg #[.int .u64 0, .int .u64 0, .int .u64 0]], []⟩ 8 (by kernel_rfl) (by kernel_rfl) (by kernel_rfl) (by kernel_rfl)) ?_
  intro W base args ds ps hval hA hlt hfz hsz
  rw [Try.params5] at hA hval hsz
  obtain ⟨v0, v1, v2, d0, d1, d2, p0, p1, p2, rfl, rfl, rfl, h0, h1, h2⟩ := trodAll_three hA
  obtain ⟨L, hL, rfl⟩ := leaf_caps 33 _ (open_leaves (d := 6) (ls := capLeaves 33) (by kernel_rfl) (by kernel_rfl) (hval 0 _ v0 rfl rfl) h0)
  obtain ⟨g, m, wm, a, wa, rfl⟩ := open_leaves (d := 5) (ls := [.bool, .int .u64, .int .u64]) (by kernel_rfl) (by kernel_rfl) (hval 1 _ v1 rfl rfl) h1
  obtain ⟨x0, wx0, x1, wx1, x2, wx2, rfl⟩ := open_leaves (d := 5) (ls := [.int .u64, .int .u64, .int .u64]) (by kernel_rfl) (by kernel_rfl) (hval 2 _ v2 rfl rfl) h2
  obtain ⟨m, rfl⟩ := exists_U m wm
  obtain ⟨a, rfl⟩ := exists_U a wa
  obtain ⟨l0, rfl⟩ := exists_U x0 wx0
  obtain ⟨l1, rfl⟩ := exists_U x1 wx1
  obtain ⟨l2, rfl⟩ := exists_U x2 wx2
  exact hold_walk L hL ⟨g, m, a⟩ l0 l1 l2 W

theorem over : Rows.regsHoldRow.holds Try.pinned (OpenSpec.ofChange Rows.regsHoldSpec) :=
  OpenClaim.holds_of_wide 5 Try.f5 rfl rfl rfl rfl rfl rfl rfl ⟨rfl, rfl, rfl, rfl, rfl⟩ rfl rfl rfl rfl rfl (by kernel_rfl) Try.func5 (by kernel_rfl)
    (of_decide_eq_true (by kernel_rfl)) (by unfold Func.isWrapper; first | (rw [if_pos (by decide +kernel)]; kernel_rfl) | (rw [if_neg (by decide +kernel)]; exact ⟨rfl, rfl⟩))
    (fun os started H enc _ => lifted os started H enc)

theorem proved : Rows.RegsHoldSaid := over
end Go.Proofs.Ytpjcijmdoofcbaa.Hold
