
/-
  AluDoes: any instruction makes the document's number of any two, or none; takes a branch, or not; and has its width. Every input.
-/
import Derived.Test.YtfnniojgcmnloaaRows
import Derived.Test.YtfnniojgcmnloaaLaw
import Derived.Test.YtfnniojgcmnloaaAluOne
import Derived.Test.YtfnniojgcmnloaaRefAlu
namespace Go.Proofs.Ytfnniojgcmnloaa.Does
open Go Go.RowKit Go.ChangeShapes Go.WideShapes Go.ChangeAt
set_option linter.unusedVariables false

set_option maxHeartbeats 16000000 in
set_option maxRecDepth 100000 in
theorem walk (op : Int) (a b : BitVec 64) (hb : -9223372036854775808 ≤ op ∧ op ≤ 9223372036854775807) (w : World) :
    Calls Try.prog 7 #[.int .i64 op, .int .u64 (U a), .int .u64 (U b)] w fun e w' => e = .returned (.bool true) ∧ Below w.heap.size w w' := by
  have Hb := Lib.hid hb
  clear hb
  go_enter Try.func7, Try.ntmps7
  go_wp2_with (first | (go_at_call 8; (with_reducible refine (do_any _ _ _ _).mono ?_); rintro e w' ⟨rfl, rfl⟩) | (go_at_call 13; (with_reducible refine (rdo_any _ _ _ _).mono ?_); rintro e w' ⟨rfl, rfl⟩) | (go_at_call 10; (with_reducible refine (takes_any _ _ _ _).mono ?_); rintro e w' ⟨rfl, hb1⟩) | (go_at_call 14; (with_reducible refine (rtakes_any _ _ _ _).mono ?_); rintro e w' ⟨rfl, rfl⟩) | (go_at_call 11; (with_reducible refine (width_any _ Hb.out _).mono ?_); rintro e w' ⟨rfl, hb2⟩) | (go_at_call 15; (with_reducible refine (rwidth_any _ _).mono ?_); rintro e w' ⟨rfl, rfl⟩) | (go_at_call 12; (with_reducible refine (extend_any _ _ Hb.out _).mono ?_); rintro e w' ⟨rfl, hb3⟩) | (go_at_call 16; (with_reducible refine (rextend_any _ _ _).mono ?_); rintro e w' ⟨rfl, rfl⟩) | (go_at_call 17; (with_reducible refine (loads_any _ _).mono ?_); rintro e w' ⟨rfl, rfl⟩) | (go_at_call 18; (with_reducible refine (stores_any _ _).mono ?_); rintro e w' ⟨rfl, rfl⟩) | (go_at_call 19; (with_reducible refine (branches_any _ _).mono ?_); rintro e w' ⟨rfl, rfl⟩) | (go_at_call 20; (with_reducible refine (immediate_any _ _).mono ?_); rintro e w' ⟨rfl, rfl⟩) | (go_at_call 9; (with_reducible refine (one_any _).mono ?_); rintro e w' ⟨rfl, rfl⟩))
  all_goals first | (exfalso; omega) | skip
  all_goals go_ret
  all_goals refine ⟨rfl, ?_⟩
  all_goals repeat (first | exact Below.refl _ _ | assumption | refine below_drewN ?_ _ | refine below_alloc ?_ _ | refine belows ?_ (by assumption))

set_option maxRecDepth 100000 in
theorem lifted (os : Os) (started : os.Started) (H : Type) (enc : TypeId × Value → H) :
    ReturnsInHanded {} Try.checked os 7 .any (Rows.aluDoesSpec.pre6 enc Try.prog Try.f7 Rows.aluDoesRow.domain false) (Rows.aluDoesSpec.post enc Try.prog Try.f7 false true false false) := by
  refine law_lift (C := Try.checked) (tb := 4) started (by kernel_rfl) (by kernel_rfl) Try.func7 rfl rfl Try.underlying4 (by kernel_rfl) (by kernel_rfl)
    (fun ds h => by match ds, h with | [_, _, _], _ => rfl)
    (ChangeSpec.witness6 (enc := enc) (C := Try.checked) false ⟨#[], #[.int .i64 0, .int .u64 0, .int .u64 0], []⟩ 8 (by kernel_rfl) (by kernel_rfl) (by kernel_rfl) (by kernel_rfl)) ?_
  intro W base args ds ps hval hA hlt hfz hsz
  rw [Try.params7] at hA hval hsz
  obtain ⟨v0, v1, v2, d0, d1, d2, p0, p1, p2, rfl, rfl, rfl, h0, h1, h2⟩ := trodAll_three hA
  obtain ⟨a0, rfl, rfl, rfl, w0⟩ := open_int Try.underlying3 (hval 0 _ v0 rfl rfl) h0
  obtain ⟨a1, rfl, rfl, rfl, w1⟩ := open_int Try.underlying22 (hval 1 _ v1 rfl rfl) h1
  obtain ⟨a2, rfl, rfl, rfl, w2⟩ := open_int Try.underlying22 (hval 2 _ v2 rfl rfl) h2
  obtain ⟨x, rfl⟩ := exists_U a1 w1
  obtain ⟨y, rfl⟩ := exists_U a2 w2
  exact walk a0 x y ((wf_i64 a0).1 w0) W

theorem over : Rows.aluDoesRow.holds Try.pinned (OpenSpec.ofChange Rows.aluDoesSpec) :=
  OpenClaim.holds_of_wide 7 Try.f7 rfl rfl rfl rfl rfl rfl rfl ⟨rfl, rfl, rfl, rfl, rfl⟩ rfl rfl rfl rfl rfl (by kernel_rfl) Try.func7 (by kernel_rfl)
    (of_decide_eq_true (by kernel_rfl)) (by unfold Func.isWrapper; first | (rw [if_pos (by decide +kernel)]; kernel_rfl) | (rw [if_neg (by decide +kernel)]; exact ⟨rfl, rfl⟩))
    (fun os started H enc _ => lifted os started H enc)

theorem proved : Rows.AluDoesSaid := over
end Go.Proofs.Ytfnniojgcmnloaa.Does
