
/-
  AlgebraMoves: another address, a move, another span, fewer permissions, and none of its tag, of any capability, are the document's. Every input.
-/
import Derived.Test.YtpinjngmlelleaaRows
import Derived.Test.YtpinjngmlelleaaLaw
import Derived.Test.YtpinjngmlelleaaAlgebraLaw
namespace Go.Proofs.Ytpinjngmlelleaa.Moves
open Go Go.RowKit Go.ChangeShapes Go.WideShapes Go.ChangeAt
set_option linter.unusedVariables false
set_option linter.unusedSimpArgs false

set_option maxHeartbeats 8000000 in
set_option maxRecDepth 100000 in
theorem walk (g x : Bool) (m a n : BitVec 64) (w : World) : Calls Try.prog 3 #[.agg #[.bool g, .int .u64 (U m), .int .u64 (U a)], .int .u64 (U n), .bool x] w fun r w' => r = .returned (.bool true) ∧ Below w.heap.size w w' := by
  have ca : ∀ w : World, Calls Try.prog 17 #[.agg #[.bool g, .int .u64 (U m), .int .u64 (U a)], .int .u64 (U n)] w fun r w' => r = .returned (.agg #[.bool (opF g m a), .int .u64 (U (andM m n)), .int .u64 (U a)]) ∧ Below w.heap.size w w' := fun w => and_any g m a n w
  go_enter Try.func3, Try.ntmps3
  go_wp2_with fail
  refine wp_region_below (by kernel_rfl) (by kernel_rfl) (fun hcr hfr => ?_)
  (try simp only [World.size_alloc, World.size_setCell, World.size_drew, size_drewN_] at hcr hfr)
  repeat (go_big_quiet_step ((first | (go_at_call 10; first | with_reducible exact Calls.regrown_of (clear_any _ _ _ _) | with_reducible exact regrown_k (clear_any _ _ _ _) | with_reducible exact regrown_1 (clear_any _ _ _ _) | with_reducible exact regrown_a (clear_any _ _ _ _)) | (go_at_call 11; first | with_reducible exact Calls.regrown_of (rclear_any _ _ _ _) | with_reducible exact regrown_k (rclear_any _ _ _ _) | with_reducible exact regrown_1 (rclear_any _ _ _ _) | with_reducible exact regrown_a (rclear_any _ _ _ _)) | (go_at_call 12; first | with_reducible exact Calls.regrown_of (address_any _ _ _ _ _) | with_reducible exact regrown_k (address_any _ _ _ _ _) | with_reducible exact regrown_1 (address_any _ _ _ _ _) | with_reducible exact regrown_a (address_any _ _ _ _ _)) | (go_at_call 13; first | with_reducible exact Calls.regrown_of (raddress_any _ _ _ _ _) | with_reducible exact regrown_k (raddress_any _ _ _ _ _) | with_reducible exact regrown_1 (raddress_any _ _ _ _ _) | with_reducible exact regrown_a (raddress_any _ _ _ _ _)) | (go_at_call 14; first | with_reducible exact Calls.regrown_of (move_any _ _ _ _ _) | with_reducible exact regrown_k (move_any _ _ _ _ _) | with_reducible exact regrown_1 (move_any _ _ _ _ _) | with_reducible exact regrown_a (move_any _ _ _ _ _)) | (go_at_call 15; first | with_reducible exact Calls.regrown_of (bound_any _ _ _ _ _ _) | with_reducible exact regrown_k (bound_any _ _ _ _ _ _) | with_reducible exact regrown_1 (bound_any _ _ _ _ _ _) | with_reducible exact regrown_a (bound_any _ _ _ _ _ _)) | (go_at_call 16; first | with_reducible exact Calls.regrown_of (rbound_any _ _ _ _ _ _) | with_reducible exact regrown_k (rbound_any _ _ _ _ _ _) | with_reducible exact regrown_1 (rbound_any _ _ _ _ _ _) | with_reducible exact regrown_a (rbound_any _ _ _ _ _ _)) | (go_at_call 17; first | with_reducible exact Calls.regrown_of (ca _) | with_reducible exact regrown_k (ca _) | with_reducible exact regrown_1 (ca _) | with_reducible exact regrown_a (ca _)) | (go_at_call 18; first | with_reducible exact Calls.regrown_of (rand_any _ _ _ _ _) | with_reducible exact regrown_k (rand_any _ _ _ _ _) | with_reducible exact regrown_1 (rand_any _ _ _ _ _) | with_reducible exact regrown_a (rand_any _ _ _ _ _)) | (go_at_call 19; first | with_reducible exact Calls.regrown_of (one6_any _) | with_reducible exact regrown_k (one6_any _) | with_reducible exact regrown_1 (one6_any _) | with_reducible exact regrown_a (one6_any _)))))
  refine wpQuiet_nil ?_
  intro w' hbl
  clear hcr hfr
  obtain ⟨hcw, hfw, hsw⟩ := below_ifs hbl; (try simp only [World.size_alloc, World.size_setCell, World.size_drew, size_drewN_] at hcw hfw hsw)
  go_wp2_with fail
  go_ret
  exact ⟨rfl, by (repeat (first | with_reducible exact Below.refl _ _ | with_reducible assumption | with_reducible refine below_drewN ?_ _ | with_reducible refine Below.drew ?_ | with_reducible refine below_alloc ?_ _ | (with_reducible refine Below.setCell ?_ (by first | (simp; done) | omega | (simp; omega)) _) | with_reducible refine belows ?_ (by assumption)))⟩

set_option maxRecDepth 100000 in
theorem lifted (os : Os) (started : os.Started) (H : Type) (enc : TypeId × Value → H) :
    ReturnsInHanded {} Try.checked os 3 .any (Rows.algebraMovesSpec.pre6 enc Try.prog Try.f3 Rows.algebraMovesRow.domain false) (Rows.algebraMovesSpec.post enc Try.prog Try.f3 false true false false) := by
  refine law_lift (C := Try.checked) (tb := 4) started (by kernel_rfl) (by kernel_rfl) Try.func3 rfl rfl Try.underlying4 (by kernel_rfl) (by kernel_rfl)
    (fun ds h => by match ds, h with | [_, _, _], _ => rfl)
    (ChangeSpec.witness6 (enc := enc) (C := Try.checked) false ⟨#[], #[.agg #[.bool false, .int .u64 0, .int .u64 0], .int .u64 0, .bool false], []⟩ 8 (by kernel_rfl) (by kernel_rfl) (by kernel_rfl) (by kernel_rfl)) ?_
  intro W base args ds ps hval hA hlt hfz hsz
  rw [Try.params3] at hA hval hsz
  obtain ⟨v0, v1, v2, d0, d1, d2, p0, p1, p2, rfl, rfl, rfl, h0, h1, h2⟩ := trodAll_three hA
  obtain ⟨g, nb, wb, nc, wc, rfl⟩ := open_leaves (d := 5) (ls := [.bool, .int .u64, .int .u64]) (by kernel_rfl) (by kernel_rfl) (hval 0 _ v0 rfl rfl) h0
  obtain ⟨a1, rfl, rfl, rfl, w1⟩ := open_int Try.underlying22 (hval 1 _ v1 rfl rfl) h1
  obtain ⟨x, rfl⟩ := okWide_bool Try.underlying4 (hval 2 _ v2 rfl rfl)
  obtain ⟨m, rfl⟩ := exists_U nb wb
  obtain ⟨a, rfl⟩ := exists_U nc wc
  obtain ⟨n, rfl⟩ := exists_U a1 w1
  exact walk g x m a n W

theorem over : Rows.algebraMovesRow.holds Try.pinned (OpenSpec.ofChange Rows.algebraMovesSpec) :=
  OpenClaim.holds_of_wide 3 Try.f3 rfl rfl rfl rfl rfl rfl rfl ⟨rfl, rfl, rfl, rfl, rfl⟩ rfl rfl rfl rfl rfl (by kernel_rfl) Try.func3 (by kernel_rfl)
    (of_decide_eq_true (by kernel_rfl)) (by unfold Func.isWrapper; first | (rw [if_pos (by decide +kernel)]; kernel_rfl) | (rw [if_neg (by decide +kernel)]; exact ⟨rfl, rfl⟩))
    (fun os started H enc _ => lifted os started H enc)

theorem proved : Rows.AlgebraMovesSaid := over
end Go.Proofs.Ytpinjngmlelleaa.Moves
