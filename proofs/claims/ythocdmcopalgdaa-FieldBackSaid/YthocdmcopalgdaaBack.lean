/-
  FieldBack: what is put into a field is got out of it, twice the same as once, and fields that have no bit in common are as they were. Every input.
-/
import Derived.Test.YthocdmcopalgdaaRows
import Derived.Test.YthocdmcopalgdaaLaw
import Derived.Test.YthocdmcopalgdaaFieldBits
namespace Go.Proofs.Ythocdmcopalgdaa.Back
open Go Go.RowKit Go.ChangeShapes Go.WideShapes Go.ChangeAt

theorem lit_get : getF 171#64 4 4 = 10#64 := by decide
theorem get_171 (w : World) :
    Calls Try.prog 9 #[.int .u64 171, .int .i64 4, .int .i64 4] w fun e w' => e = .returned (.int .u64 10) ∧ ∃ k, w.drewN k = w' :=
  (get_any 171#64 4 4 w).mono fun _ _ h => ⟨by rw [h.1, lit_get]; rfl, h.2⟩
set_option maxHeartbeats 2000000 in
theorem walk (x v : BitVec 64) (n0 n1 n2 n3 : Int) (w : World) :
    Calls Try.prog 3 #[.int .u64 (U x), .int .u64 (U v), .agg #[.int .i64 n0, .int .i64 n1, .int .i64 n2, .int .i64 n3]] w fun e w' => e = .returned (.bool true) ∧ Below w.heap.size w w' := by
  by_cases c1 : 64 - n0 % 64 < n1 % 64
  all_goals by_cases c2 : 64 - n2 % 64 < n3 % 64
  all_goals first | have m1 : mayF (n0 % 64) (n1 % 64) = true := by (rw [mayF_iff]; omega) | have m1 : mayF (n0 % 64) (64 - n0 % 64) = true := by (rw [mayF_iff]; omega)
  all_goals first | have m2 : mayF (n2 % 64) (n3 % 64) = true := by (rw [mayF_iff]; omega) | have m2 : mayF (n2 % 64) (64 - n2 % 64) = true := by (rw [mayF_iff]; omega)
  all_goals
      have f1 := get_put x v _ _ m1
      have f2 := put_put x v _ _ m1
      have f3 := put_get x v _ _ m1
      have f4 := get_apart x v _ _ _ _ m1 m2
      have HM := Lib.hid (And.intro m1 m2)
      clear m1 m2
      go_enter Try.func3, Try.ntmps3
      go_wp2_with fail
      go_quiet (fail)
      go_wp2_with fail
      go_quiet (fail)
      go_wp2_with (first | (go_at_call 8; (with_reducible refine (put_any _ _ _ _ _).mono ?_); rintro e w' ⟨rfl, k, rfl⟩) | (go_at_call 9; (with_reducible refine (get_any _ _ _ _).mono ?_); rintro e w' ⟨rfl, k, rfl⟩) | (go_at_call 10; (with_reducible refine (mask_any _ _).mono ?_); rintro e w' ⟨rfl, rfl⟩) | (go_at_call 9; (with_reducible refine (get_171 _).mono ?_); rintro e w' ⟨rfl, k, rfl⟩))
      all_goals go_ret
      all_goals refine ⟨rfl, ?_⟩
      all_goals repeat (first | exact Below.refl _ _ | refine below_drewN ?_ _ | refine Below.alloc ?_ (by simp) _)

set_option maxRecDepth 100000 in
theorem lifted (os : Os) (started : os.Started) (H : Type) (enc : TypeId × Value → H) :
    ReturnsInHanded {} Try.checked os 3 .any (Rows.fieldBackSpec.pre6 enc Try.prog Try.f3 Rows.fieldBackRow.domain false) (Rows.fieldBackSpec.post enc Try.prog Try.f3 false true false false) := by
  refine law_lift (C := Try.checked) (tb := 4) started (by kernel_rfl) (by kernel_rfl) Try.func3 rfl rfl Try.underlying4 (by kernel_rfl) (by kernel_rfl)
    (fun ds h => by match ds, h with | [_, _, _], _ => rfl)
    (ChangeSpec.witness6 (enc := enc) (C := Try.checked) false ⟨#[], #[.int .u64 0, .int .u64 0, .agg #[.int .i64 0, .int .i64 0, .int .i64 0, .int .i64 0]], []⟩ 8 (by kernel_rfl) (by kernel_rfl) (by kernel_rfl) (by kernel_rfl)) ?_
  intro W base args ds ps hval hA _ _ _
  rw [Try.params3] at hA hval
  obtain ⟨v0, v1, v2, d0, d1, d2, p0, p1, p2, rfl, rfl, rfl, h0, h1, h2⟩ := trodAll_three hA
  obtain ⟨a0, rfl, rfl, rfl, w0⟩ := open_int Try.underlying22 (hval 0 _ v0 rfl rfl) h0
  obtain ⟨a1, rfl, rfl, rfl, w1⟩ := open_int Try.underlying22 (hval 1 _ v1 rfl rfl) h1
  obtain ⟨x, rfl⟩ := exists_U a0 w0
  obtain ⟨v, rfl⟩ := exists_U a1 w1
  obtain ⟨n0, _, n1, _, n2, _, n3, _, rfl⟩ := open_leaves (d := 5) (ls := [.int .i64, .int .i64, .int .i64, .int .i64]) (by kernel_rfl) (by kernel_rfl) (hval 2 _ v2 rfl rfl) h2
  exact walk x v n0 n1 n2 n3 W

theorem over : Rows.fieldBackRow.holds Try.pinned (OpenSpec.ofChange Rows.fieldBackSpec) :=
  OpenClaim.holds_of_wide 3 Try.f3 rfl rfl rfl rfl rfl rfl rfl ⟨rfl, rfl, rfl, rfl, rfl⟩ rfl rfl rfl rfl rfl (by kernel_rfl) Try.func3 (by kernel_rfl)
    (of_decide_eq_true (by kernel_rfl)) (by unfold Func.isWrapper; first | (rw [if_pos (by decide +kernel)]; kernel_rfl) | (rw [if_neg (by decide +kernel)]; exact ⟨rfl, rfl⟩))
    (fun os started H enc _ => lifted os started H enc)

theorem proved : Rows.FieldBackSaid := over
end Go.Proofs.Ythocdmcopalgdaa.Back
