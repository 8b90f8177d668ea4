/-
  ScaleSums: any two numbers have the document's sum, and any numbers are within any span, or not. Every input.
-/
import Derived.Test.YtbjffaiokljbdaaRows
import Derived.Test.YtbjffaiokljbdaaLaw
import Derived.Test.YtbjffaiokljbdaaScale
namespace Go.Proofs.Ytbjffaiokljbdaa.Sums
open Go Go.RowKit Go.ChangeShapes Go.WideShapes Go.ChangeAt

theorem over_less (x y : BitVec 64) : overF x y = decide (U (x + y) < U x) := by
  unfold overF U
  rw [BitVec.toNat_add]
  have := x.isLt
  have := y.isLt
  exact decide_eq_decide.2 (by omega)
theorem in_1 (w : World) : Calls Try.prog 9 #[.int .u64 4, .int .u64 4, .int .u64 0, .int .u64 8] w fun e w' => e = .returned (.bool true) ∧ w = w' :=
  (in_any 4#64 4#64 0#64 8#64 w).mono fun _ _ h => ⟨by rw [h.1]; rfl, h.2⟩
theorem in_2 (w : World) : Calls Try.prog 9 #[.int .u64 5, .int .u64 4, .int .u64 0, .int .u64 8] w fun e w' => e = .returned (.bool false) ∧ w = w' :=
  (in_any 5#64 4#64 0#64 8#64 w).mono fun _ _ h => ⟨by rw [h.1]; rfl, h.2⟩

theorem walk (x y p q : BitVec 64) (w : World) :
    Calls Try.prog 3 #[.int .u64 (U x), .int .u64 (U y), .agg #[.int .u64 (U p), .int .u64 (U q)]] w fun e w' => e = .returned (.bool true) ∧ Below w.heap.size w w' := by
  have e1 := over_less x y
  go_enter Try.func3, Try.ntmps3
  go_wp2_with (go_at_call 8; (with_reducible refine (add_any _ _ _).mono ?_); rintro e w' ⟨rfl, rfl⟩)
  go_quiet ((first | (go_at_call 9; first | with_reducible exact quiet_1 (in_any _ _ _ _ _) | with_reducible exact quiet_1a (in_any _ _ _ _ _)) | (go_at_call 10; first | with_reducible exact quiet_1 (rin_any _ _ _ _ _) | with_reducible exact quiet_1a (rin_any _ _ _ _ _)) | (go_at_call 9; first | with_reducible exact quiet_1 (in_1 _) | with_reducible exact quiet_1a (in_1 _)) | (go_at_call 9; first | with_reducible exact quiet_1 (in_2 _) | with_reducible exact quiet_1a (in_2 _))))
  go_wp2
  go_ret
  refine ⟨rfl, ?_⟩
  repeat (first | exact Below.refl _ _ | refine below_drewN ?_ _ | refine Below.alloc ?_ (by simp) _)

set_option maxRecDepth 100000 in
theorem lifted (os : Os) (started : os.Started) (H : Type) (enc : TypeId × Value → H) :
    ReturnsInHanded {} Try.checked os 3 .any (Rows.scaleSumsSpec.pre6 enc Try.prog Try.f3 Rows.scaleSumsRow.domain false) (Rows.scaleSumsSpec.post enc Try.prog Try.f3 false true false false) := by
  refine law_lift (C := Try.checked) (tb := 4) started (by kernel_rfl) (by kernel_rfl) Try.func3 rfl rfl Try.underlying4 (by kernel_rfl) (by kernel_rfl)
    (fun ds h => by match ds, h with | [_, _, _], _ => rfl)
    (ChangeSpec.witness6 (enc := enc) (C := Try.checked) false ⟨#[], #[.int .u64 0, .int .u64 0, .agg #[.int .u64 0, .int .u64 0]], []⟩ 8 (by kernel_rfl) (by kernel_rfl) (by kernel_rfl) (by kernel_rfl)) ?_
  intro W base args ds ps hval hA hlt hfz hsz
  rw [Try.params3] at hA hval hsz
  obtain ⟨v0, v1, v2, d0, d1, d2, p0, p1, p2, rfl, rfl, rfl, h0, h1, h2⟩ := trodAll_three hA
  obtain ⟨a0, rfl, rfl, rfl, w0⟩ := open_int Try.underlying22 (hval 0 _ v0 rfl rfl) h0
  obtain ⟨a1, rfl, rfl, rfl, w1⟩ := open_int Try.underlying22 (hval 1 _ v1 rfl rfl) h1
  obtain ⟨x, rfl⟩ := exists_U a0 w0
  obtain ⟨y, rfl⟩ := exists_U a1 w1
  obtain ⟨n0, w2, n1, w3, rfl⟩ := open_leaves (d := 5) (ls := [.int .u64, .int .u64]) (by kernel_rfl) (by kernel_rfl) (hval 2 _ v2 rfl rfl) h2
  obtain ⟨p, rfl⟩ := exists_U n0 w2
  obtain ⟨q, rfl⟩ := exists_U n1 w3
  exact walk x y p q W

theorem over : Rows.scaleSumsRow.holds Try.pinned (OpenSpec.ofChange Rows.scaleSumsSpec) :=
  OpenClaim.holds_of_wide 3 Try.f3 rfl rfl rfl rfl rfl rfl rfl ⟨rfl, rfl, rfl, rfl, rfl⟩ rfl rfl rfl rfl rfl (by kernel_rfl) Try.func3 (by kernel_rfl)
    (of_decide_eq_true (by kernel_rfl)) (by unfold Func.isWrapper; first | (rw [if_pos (by decide +kernel)]; kernel_rfl) | (rw [if_neg (by decide +kernel)]; exact ⟨rfl, rfl⟩))
    (fun os started H enc _ => lifted os started H enc)

theorem proved : Rows.ScaleSumsSaid := over
end Go.Proofs.Ytbjffaiokljbdaa.Sums
