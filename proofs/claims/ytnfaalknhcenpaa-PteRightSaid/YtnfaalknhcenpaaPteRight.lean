
/-
  Which entry is of a page, and which is right (pte).
-/
import Derived.Test.YtnfaalknhcenpaaPte
import Derived.BigQuiet
import Derived.Deep.QuietTactic
namespace Go.Proofs.Ytnfaalknhcenpaa
open Go Go.RowKit
set_option linter.unusedVariables false

theorem entry_guard : Try.prog.eqGuardType Try.prog.depth 28 = false := by kernel_rfl
theorem entry_stood : Try.prog.stoodInHeld 28 = false := by kernel_rfl
def sameE (x y : Ent) : Bool := x.b0 == y.b0 && x.b1 == y.b1 && x.b2 == y.b2 && x.b3 == y.b3 && x.b4 == y.b4 && x.b5 == y.b5 && x.b6 == y.b6 && x.b7 == y.b7 && x.b8 == y.b8 && x.b9 == y.b9 && x.b10 == y.b10 && x.b11 == y.b11 && x.f == y.f
set_option maxHeartbeats 4000000 in
set_option maxRecDepth 100000 in
theorem entry_eql (a0 c0 a1 c1 a2 c2 a3 c3 a4 c4 a5 c5 a6 c6 a7 c7 a8 c8 a9 c9 a10 c10 a11 c11 : Bool) (f g : BitVec 64) (w : World) : (binOp .eql 28 (.agg #[.bool a0, .bool a1, .bool a2, .bool a3, .bool a4, .bool a5, .bool a6, .bool a7, .bool a8, .bool a9, .bool a10, .bool a11, .int .u64 (U f)]) (.agg #[.bool c0, .bool c1, .bool c2, .bool c3, .bool c4, .bool c5, .bool c6, .bool c7, .bool c8, .bool c9, .bool c10, .bool c11, .int .u64 (U g)])).run Try.prog w = .ok (.bool (a0 == c0 && a1 == c1 && a2 == c2 && a3 == c3 && a4 == c4 && a5 == c5 && a6 == c6 && a7 == c7 && a8 == c8 && a9 == c9 && a10 == c10 && a11 == c11 && f == g)) w := by
  have hs := entry_stood
  rw [run_eql_struct]
  rw [show (10000 : Nat) = 9999 + 1 from rfl, run_equalIn_struct _ _ _ _ _ Try.underlying28 hs]
  simp [go_sem, Try.underlying28]
  by_cases h0 : a0 = c0
  rotate_left
  · simp [h0]
  subst h0
  by_cases h1 : a1 = c1
  rotate_left
  · simp [h1]
  subst h1
  by_cases h2 : a2 = c2
  rotate_left
  · simp [h2]
  subst h2
  by_cases h3 : a3 = c3
  rotate_left
  · simp [h3]
  subst h3
  by_cases h4 : a4 = c4
  rotate_left
  · simp [h4]
  subst h4
  by_cases h5 : a5 = c5
  rotate_left
  · simp [h5]
  subst h5
  by_cases h6 : a6 = c6
  rotate_left
  · simp [h6]
  subst h6
  by_cases h7 : a7 = c7
  rotate_left
  · simp [h7]
  subst h7
  by_cases h8 : a8 = c8
  rotate_left
  · simp [h8]
  subst h8
  by_cases h9 : a9 = c9
  rotate_left
  · simp [h9]
  subst h9
  by_cases h10 : a10 = c10
  rotate_left
  · simp [h10]
  subst h10
  by_cases h11 : a11 = c11
  rotate_left
  · simp [h11]
  subst h11
  by_cases h : f = g
  · subst h; simp
  · simp [h]
attribute [go_sem 3000] entry_guard entry_eql
def leafF (e : Ent) : Bool := e.b0 && (e.b1 || e.b2 || e.b3)
theorem leaf_any (e : Ent) (w : World) : Calls Try.prog 17 #[.agg #[.bool e.b0, .bool e.b1, .bool e.b2, .bool e.b3, .bool e.b4, .bool e.b5, .bool e.b6, .bool e.b7, .bool e.b8, .bool e.b9, .bool e.b10, .bool e.b11, .int .u64 (U e.f)]] w fun x w' => x = .returned (.bool (leafF e)) ∧ w.alloc (.cells #[.bool e.b0, .bool e.b1, .bool e.b2, .bool e.b3, .bool e.b4, .bool e.b5, .bool e.b6, .bool e.b7, .bool e.b8, .bool e.b9, .bool e.b10, .bool e.b11, .int .u64 (U e.f)] 28) = w' := by
  cases h0 : e.b0
  all_goals cases h1 : e.b1
  all_goals cases h2 : e.b2
  all_goals cases h3 : e.b3
  all_goals
    go_enter Try.func17, Try.ntmps17
    go_wp2
    go_ret
    refine ⟨ret_bool ?_, by first | rfl | (simp; done)⟩
    unfold leafF
    rw [h0, h1, h2, h3]
    rfl
theorem leaf_cells (b0 b1 b2 b3 b4 b5 b6 b7 b8 b9 b10 b11 : Bool) (f : BitVec 64) (w : World) : Calls Try.prog 17 #[.agg #[.bool b0, .bool b1, .bool b2, .bool b3, .bool b4, .bool b5, .bool b6, .bool b7, .bool b8, .bool b9, .bool b10, .bool b11, .int .u64 (U f)]] w fun x w' => x = .returned (.bool (b0 && (b1 || b2 || b3))) ∧ w.alloc (.cells #[.bool b0, .bool b1, .bool b2, .bool b3, .bool b4, .bool b5, .bool b6, .bool b7, .bool b8, .bool b9, .bool b10, .bool b11, .int .u64 (U f)] 28) = w' :=
  leaf_any ⟨b0, b1, b2, b3, b4, b5, b6, b7, b8, b9, b10, b11, f⟩ w
def rightF (e : Ent) : Bool := !e.b0 || (!(e.b2 && !e.b1) && !(e.b8 && !e.b2) && !(e.b9 && !e.b1) && !decide (17592186044415 < U e.f) && (leafF e || (!e.b4 && !e.b6 && !e.b7 && !e.b8 && !e.b9 && !e.b10 && !e.b11)))
set_option maxHeartbeats 4000000 in
set_option maxRecDepth 100000 in
theorem right_any (e : Ent) (w : World) : Calls Try.prog 19 #[.agg #[.bool e.b0, .bool e.b1, .bool e.b2, .bool e.b3, .bool e.b4, .bool e.b5, .bool e.b6, .bool e.b7, .bool e.b8, .bool e.b9, .bool e.b10, .bool e.b11, .int .u64 (U e.f)]] w fun x w' => x = .returned (.bool (rightF e)) ∧ Below w.heap.size w w' := by
  have hm : U (maskF 44) = 17592186044415 := rfl
  cases h0 : e.b0
  · go_enter Try.func19, Try.ntmps19
    go_wp2_with fail
    go_ret
    exact ⟨ret_bool (by unfold rightF; rw [h0]; rfl), Below.alloc (Below.refl _ _) (Nat.le_refl _) _⟩
  · cases h1 : e.b1
    all_goals cases h2 : e.b2
    all_goals cases h8 : e.b8
    all_goals cases h9 : e.b9
    all_goals
      go_enter Try.func19, Try.ntmps19
      go_wp2_with fail
    all_goals first
      | (go_ret; exact ⟨ret_bool (by unfold rightF; rw [h0, h1, h2, h8, h9]; rfl), Below.alloc (Below.refl _ _) (Nat.le_refl _) _⟩)
      | skip
    all_goals
      go_quiet ((go_at_call 27; first | with_reducible exact quiet_1 (mask_any _ _) | with_reducible exact quiet_1a (mask_any _ _)))
    all_goals cases hf : decide (17592186044415 < U e.f)
    all_goals cases h3 : e.b3
    all_goals go_wp2_with (go_at_call 17; (with_reducible refine (leaf_cells _ _ _ _ _ _ _ _ _ _ _ _ _ _).mono ?_); rintro e w' ⟨rfl, rfl⟩)
    all_goals go_ret
    all_goals refine ⟨ret_bool (by unfold rightF leafF; rw [h0, h1, h2, h3, h8, h9, hf]; first | rfl | (simp; done)), ?_⟩
    all_goals repeat (first | with_reducible exact Below.refl _ _ | with_reducible refine below_drewN ?_ _ | with_reducible refine below_alloc ?_ _)
end Go.Proofs.Ytnfaalknhcenpaa
