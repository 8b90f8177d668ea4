
/-
  AlgebraSeals: of any two capabilities the first one sealed with the other one, unsealed, built from it, and to be jumped to, is the document's. Every input.
-/
import Derived.Test.YtpinjngmlelleaaRows
import Derived.Test.YtpinjngmlelleaaLaw
import Derived.Test.YtpinjngmlelleaaAlgebraLaw
import Derived.BigRegion
namespace Go.Proofs.Ytpinjngmlelleaa.Seals
open Go Go.RowKit Go.ChangeShapes Go.WideShapes Go.ChangeAt
set_option linter.unusedVariables false
set_option linter.unusedSimpArgs false

set_option maxHeartbeats 8000000 in
set_option maxRecDepth 100000 in
theorem walk (g h : Bool) (m a n b : BitVec 64) (w : World) : Calls Try.prog 6 #[.agg #[.bool g, .int .u64 (U m), .int .u64 (U a)], .agg #[.bool h, .int .u64 (U n), .int .u64 (U b)]] w fun r w' => r = .returned (.bool true) ∧ Below w.heap.size w w' := by
  go_enter Try.func6, Try.ntmps6
  go_wp2_with fail
  go_region
  all_goals
    go_wp2_with fail
    refine wp_region_below (by kernel_rfl) (by kernel_rfl) (fun hcr hfr => ?_)
    (try simp only [World.size_alloc, World.size_setCell, World.size_drew, size_drewN_] at hcr hfr)
    repeat (go_big_quiet_step ((first | (go_at_call 27; first | with_reducible exact Calls.regrown_of (seal_any _ _ _ _ _ _ _) | with_reducible exact regrown_k (seal_any _ _ _ _ _ _ _) | with_reducible exact regrown_1 (seal_any _ _ _ _ _ _ _) | with_reducible exact regrown_a (seal_any _ _ _ _ _ _ _)) | (go_at_call 28; first | with_reducible exact Calls.regrown_of (rseal_any _ _ _ _ _ _ _) | with_reducible exact regrown_k (rseal_any _ _ _ _ _ _ _) | with_reducible exact regrown_1 (rseal_any _ _ _ _ _ _ _) | with_reducible exact regrown_a (rseal_any _ _ _ _ _ _ _)) | (go_at_call 29; first | with_reducible exact Calls.regrown_of (unseal_any _ _ _ _ _ _ _) | with_reducible exact regrown_k (unseal_any _ _ _ _ _ _ _) | with_reducible exact regrown_1 (unseal_any _ _ _ _ _ _ _) | with_reducible exact regrown_a (unseal_any _ _ _ _ _ _ _)) | (go_at_call 30; first | with_reducible exact Calls.regrown_of (runseal_any _ _ _ _ _ _ _) | with_reducible exact regrown_k (runseal_any _ _ _ _ _ _ _) | with_reducible exact regrown_1 (runseal_any _ _ _ _ _ _ _) | with_reducible exact regrown_a (runseal_any _ _ _ _ _ _ _)) | (go_at_call 35; first | with_reducible exact Calls.regrown_of (build_any _ _ _ _ _ _ _) | with_reducible exact regrown_k (build_any _ _ _ _ _ _ _) | with_reducible exact regrown_1 (build_any _ _ _ _ _ _ _) | with_reducible exact regrown_a (build_any _ _ _ _ _ _ _)) | (go_at_call 36; first | with_reducible exact Calls.regrown_of (rbuild_any _ _ _ _ _ _ _) | with_reducible exact regrown_k (rbuild_any _ _ _ _ _ _ _) | with_reducible exact regrown_1 (rbuild_any _ _ _ _ _ _ _) | with_reducible exact regrown_a (rbuild_any _ _ _ _ _ _ _)) | (go_at_call 31; first | with_reducible exact Calls.regrown_of (enter_any _ _ _ _) | with_reducible exact regrown_k (enter_any _ _ _ _) | with_reducible exact regrown_1 (enter_any _ _ _ _) | with_reducible exact regrown_a (enter_any _ _ _ _)) | (go_at_call 32; first | with_reducible exact Calls.regrown_of (renter_any _ _ _ _) | with_reducible exact regrown_k (renter_any _ _ _ _) | with_reducible exact regrown_1 (renter_any _ _ _ _) | with_reducible exact regrown_a (renter_any _ _ _ _)) | (go_at_call 33; first | with_reducible exact Calls.regrown_of (open_any _ _ _ _) | with_reducible exact regrown_k (open_any _ _ _ _) | with_reducible exact regrown_1 (open_any _ _ _ _) | with_reducible exact regrown_a (open_any _ _ _ _)) | (go_at_call 34; first | with_reducible exact Calls.regrown_of (ropen_any _ _ _ _) | with_reducible exact regrown_k (ropen_any _ _ _ _) | with_reducible exact regrown_1 (ropen_any _ _ _ _) | with_reducible exact regrown_a (ropen_any _ _ _ _)) | (go_at_call 19; first | with_reducible exact Calls.regrown_of (one6_any _) | with_reducible exact regrown_k (one6_any _) | with_reducible exact regrown_1 (one6_any _) | with_reducible exact regrown_a (one6_any _)))))
    refine wpQuiet_nil ?_
    intro w' hbl
    clear hcr hfr
    obtain ⟨hcw, hfw, hsw⟩ := below_ifs hbl; (try simp only [World.size_alloc, World.size_setCell, World.size_drew, size_drewN_] at hcw hfw hsw)
    go_wp2_with fail
    go_ret
    exact ⟨rfl, by (repeat (first | with_reducible exact Below.refl _ _ | with_reducible assumption | with_reducible refine below_drewN ?_ _ | with_reducible refine Below.drew ?_ | with_reducible refine below_alloc ?_ _ | (with_reducible refine Below.setCell ?_ (by first | (simp; done) | omega | (simp; omega)) _) | with_reducible refine belows ?_ (by assumption)))⟩

set_option maxRecDepth 100000 in
theorem lifted (os : Os) (started : os.Started) (H : Type) (enc : TypeId × Value → H) :
    ReturnsInHanded {} Try.checked os 6 .any (Rows.algebraSealsSpec.pre6 enc Try.prog Try.f6 Rows.algebraSealsRow.domain false) (Rows.algebraSealsSpec.post enc Try.prog Try.f6 false true false false) := by
  refine law_lift (C := Try.checked) (tb := 4) started (by kernel_rfl) (by kernel_rfl) Try.func6 rfl rfl Try.underlying4 (by kernel_rfl) (by kernel_rfl)
    (fun ds h => by match ds, h with | [_, _], _ => rfl)
    (ChangeSpec.witness6 (enc := enc) (C := Try.checked) false ⟨#[], #[.agg #[.bool false, .int .u64 0, .int .u64 0], .agg #[.bool false, .int .u64 0, .int .u64 0]], []⟩ 8 (by kernel_rfl) (by kernel_rfl) (by kernel_rfl) (by kernel_rfl)) ?_
  intro W base args ds ps hval hA hlt hfz hsz
  rw [Try.params6] at hA hval hsz
  obtain ⟨v0, v1, d0, d1, p0, p1, rfl, rfl, rfl, h0, h1⟩ := trodAll_two hA
  obtain ⟨g, nb, wb, nc, wc, rfl⟩ := open_leaves (d := 5) (ls := [.bool, .int .u64, .int .u64]) (by kernel_rfl) (by kernel_rfl) (hval 0 _ v0 rfl rfl) h0
  obtain ⟨h, nd, wd, ne, we, rfl⟩ := open_leaves (d := 5) (ls := [.bool, .int .u64, .int .u64]) (by kernel_rfl) (by kernel_rfl) (hval 1 _ v1 rfl rfl) h1
  obtain ⟨m, rfl⟩ := exists_U nb wb
  obtain ⟨a, rfl⟩ := exists_U nc wc
  obtain ⟨n, rfl⟩ := exists_U nd wd
  obtain ⟨b, rfl⟩ := exists_U ne we
  exact walk g h m a n b W

theorem over : Rows.algebraSealsRow.holds Try.pinned (OpenSpec.ofChange Rows.algebraSealsSpec) :=
  OpenClaim.holds_of_wide 6 Try.f6 rfl rfl rfl rfl rfl rfl rfl ⟨rfl, rfl, rfl, rfl, rfl⟩ rfl rfl rfl rfl rfl (by kernel_rfl) Try.func6 (by kernel_rfl)
    (of_decide_eq_true (by kernel_rfl)) (by unfold Func.isWrapper; first | (rw [if_pos (by decide +kernel)]; kernel_rfl) | (rw [if_neg (by decide +kernel)]; exact ⟨rfl, rfl⟩))
    (fun os started H enc _ => lifted os started H enc)

theorem proved : Rows.AlgebraSealsSaid := over
end Go.Proofs.Ytpinjngmlelleaa.Seals
