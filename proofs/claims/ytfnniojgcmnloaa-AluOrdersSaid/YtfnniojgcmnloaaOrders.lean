
/-
  AluOrders: of any two numbers just one is below the other, or they are the same, with a sign and without; and a branch is taken just if its counterpart is not. Every input.
-/
import Derived.Test.YtfnniojgcmnloaaRows
import Derived.Test.YtfnniojgcmnloaaLaw
import Derived.Test.YtfnniojgcmnloaaAluOne
namespace Go.Proofs.Ytfnniojgcmnloaa.Orders
open Go Go.RowKit Go.ChangeShapes Go.WideShapes Go.ChangeAt
set_option linter.unusedVariables false

set_option maxHeartbeats 8000000 in
set_option maxRecDepth 100000 in
/-- What the walk is told of two numbers, in each of the cases. -/
theorem core (a b : BitVec 64) (eq ls gs lu gu : Bool) (w : World)
    (h5 : takesV 5 a b = eq) (h6 : takesV 6 a b = !eq) (h7 : takesV 7 a b = ls) (h8 : takesV 8 a b = !ls) (h7' : takesV 7 b a = gs) (h9 : takesV 9 a b = lu) (hA : takesV 10 a b = !lu) (h9' : takesV 9 b a = gu)
    (d4 : doV 34 a b = toldF ls) (d5 : doV 35 a b = toldF lu)
    (hs : (eq = true ∧ ls = false ∧ gs = false) ∨ (eq = false ∧ ls = true ∧ gs = false) ∨ (eq = false ∧ ls = false ∧ gs = true))
    (hu : (eq = true ∧ lu = false ∧ gu = false) ∨ (eq = false ∧ lu = true ∧ gu = false) ∨ (eq = false ∧ lu = false ∧ gu = true)) :
    Calls Try.prog 5 #[.int .u64 (U a), .int .u64 (U b)] w fun e w' => e = .returned (.bool true) ∧ Below w.heap.size w w' := by
  have u1 : U 1#64 = 1 := rfl
  have u0 : U 0#64 = 0 := rfl
  have t1 : toldF true = 1#64 := rfl
  have t0 : toldF false = 0#64 := rfl
  rcases hs with ⟨rfl, rfl, rfl⟩ | ⟨rfl, rfl, rfl⟩ | ⟨rfl, rfl, rfl⟩
  all_goals rcases hu with ⟨he, rfl, rfl⟩ | ⟨he, rfl, rfl⟩ | ⟨he, rfl, rfl⟩
  all_goals first | (exfalso; revert he; decide) | skip
  all_goals
    go_enter Try.func5, Try.ntmps5
    go_wp2_with (first | (go_at_call 10; (with_reducible refine (takes_any _ _ _ _).mono ?_); rintro e w' ⟨rfl, hbl⟩) | (go_at_call 8; (with_reducible refine (do_any _ _ _ _).mono ?_); rintro e w' ⟨rfl, rfl⟩))
    refine wp_loop_rounds 3 ?_
    rw [rounds_succ]
    go_wp2_with (first | (go_at_call 10; (with_reducible refine (takes_any _ _ _ _).mono ?_); rintro e w' ⟨rfl, hbl⟩) | (go_at_call 8; (with_reducible refine (do_any _ _ _ _).mono ?_); rintro e w' ⟨rfl, rfl⟩))
    rw [rounds_succ]
    go_wp2_with (first | (go_at_call 10; (with_reducible refine (takes_any _ _ _ _).mono ?_); rintro e w' ⟨rfl, hbl⟩) | (go_at_call 8; (with_reducible refine (do_any _ _ _ _).mono ?_); rintro e w' ⟨rfl, rfl⟩))
    rw [rounds_succ]
    go_wp2_with (first | (go_at_call 9; (with_reducible refine (one_any _).mono ?_); rintro e w' ⟨rfl, rfl⟩))
    go_ret
    refine ⟨rfl, ?_⟩
    repeat (first | exact Below.refl _ _ | assumption | refine below_drewN ?_ _ | refine below_alloc ?_ _ | refine belows ?_ (by assumption))

theorem walk (a b : BitVec 64) (w : World) :
    Calls Try.prog 5 #[.int .u64 (U a), .int .u64 (U b)] w fun e w' => e = .returned (.bool true) ∧ Below w.heap.size w w' := by
  refine core a b (a == b) (decide (S a < S b)) (decide (S b < S a)) (decide (U a < U b)) (decide (U b < U a)) w rfl rfl rfl rfl rfl rfl rfl rfl rfl rfl ?_ ?_
  · by_cases h : a = b
    · subst h; left; simp
    · have h1 : S a ≠ S b := fun e => h ((S_inj a b).1 e)
      have h2 : (a == b) = false := by simpa using h
      rw [h2]
      by_cases c : S a < S b
      · right; left; refine ⟨rfl, decide_eq_true c, decide_eq_false (by omega)⟩
      · right; right; refine ⟨rfl, decide_eq_false c, decide_eq_true (by omega)⟩
  · by_cases h : a = b
    · subst h; left; simp
    · have h1 : U a ≠ U b := fun e => h ((U_inj a b).1 e)
      have h2 : (a == b) = false := by simpa using h
      rw [h2]
      by_cases c : U a < U b
      · right; left; refine ⟨rfl, decide_eq_true c, decide_eq_false (by omega)⟩
      · right; right; refine ⟨rfl, decide_eq_false c, decide_eq_true (by omega)⟩

set_option maxRecDepth 100000 in
theorem lifted (os : Os) (started : os.Started) (H : Type) (enc : TypeId × Value → H) :
    ReturnsInHanded {} Try.checked os 5 .any (Rows.aluOrdersSpec.pre6 enc Try.prog Try.f5 Rows.aluOrdersRow.domain false) (Rows.aluOrdersSpec.post enc Try.prog Try.f5 false true false false) := by
  refine law_lift (C := Try.checked) (tb := 4) started (by kernel_rfl) (by kernel_rfl) Try.func5 rfl rfl Try.underlying4 (by kernel_rfl) (by kernel_rfl)
    (fun ds h => by match ds, h with | [_, _], _ => rfl)
    (ChangeSpec.witness6 (enc := enc) (C := Try.checked) false ⟨#[], #[.int .u64 0, .int .u64 0], []⟩ 8 (by kernel_rfl) (by kernel_rfl) (by kernel_rfl) (by kernel_rfl)) ?_
  intro W base args ds ps hval hA hlt hfz hsz
  rw [Try.params5] at hA hval hsz
  obtain ⟨v0, v1, d0, d1, p0, p1, rfl, rfl, rfl, h0, h1⟩ := trodAll_two hA
  obtain ⟨a0, rfl, rfl, rfl, w0⟩ := open_int Try.underlying22 (hval 0 _ v0 rfl rfl) h0
  obtain ⟨a1, rfl, rfl, rfl, w1⟩ := open_int Try.underlying22 (hval 1 _ v1 rfl rfl) h1
  obtain ⟨x, rfl⟩ := exists_U a0 w0
  obtain ⟨y, rfl⟩ := exists_U a1 w1
  exact walk x y W

theorem over : Rows.aluOrdersRow.holds Try.pinned (OpenSpec.ofChange Rows.aluOrdersSpec) :=
  OpenClaim.holds_of_wide 5 Try.f5 rfl rfl rfl rfl rfl rfl rfl ⟨rfl, rfl, rfl, rfl, rfl⟩ rfl rfl rfl rfl rfl (by kernel_rfl) Try.func5 (by kernel_rfl)
    (of_decide_eq_true (by kernel_rfl)) (by unfold Func.isWrapper; first | (rw [if_pos (by decide +kernel)]; kernel_rfl) | (rw [if_neg (by decide +kernel)]; exact ⟨rfl, rfl⟩))
    (fun os started H enc _ => lifted os started H enc)

theorem proved : Rows.AluOrdersSaid := over
end Go.Proofs.Ytfnniojgcmnloaa.Orders
