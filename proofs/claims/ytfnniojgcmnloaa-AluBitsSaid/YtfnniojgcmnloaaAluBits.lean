
/-
  AluBits: what two numbers have, and what one has alone, and the other, are all that any has; and a number made of the others is it again. Every input.
-/
import Derived.Test.YtfnniojgcmnloaaRows
import Derived.Test.YtfnniojgcmnloaaLaw
import Derived.Test.YtfnniojgcmnloaaAluOne
namespace Go.Proofs.Ytfnniojgcmnloaa.AluBits
open Go Go.RowKit Go.ChangeShapes Go.WideShapes Go.ChangeAt
set_option linter.unusedVariables false

theorem f1 (a b : BitVec 64) : (a &&& b) ||| (a ^^^ b) = a ||| b := by
  apply ext64
  intro j hj
  simp only [BitVec.getLsbD_or, BitVec.getLsbD_and, BitVec.getLsbD_xor]
  cases a.getLsbD j <;> cases b.getLsbD j <;> rfl
theorem f2 (a b : BitVec 64) : (a &&& b) &&& (a ^^^ b) = 0#64 := by
  apply ext64
  intro j hj
  simp only [BitVec.getLsbD_and, BitVec.getLsbD_xor, BitVec.getLsbD_zero]
  cases a.getLsbD j <;> cases b.getLsbD j <;> rfl
theorem f3 (a b : BitVec 64) : (a ^^^ b) ^^^ b = a := by
  apply ext64
  intro j hj
  simp only [BitVec.getLsbD_xor]
  cases a.getLsbD j <;> cases b.getLsbD j <;> rfl
theorem f4 (a b : BitVec 64) : (a &&& b) + (a ||| b) = a + b := by
  have e1 : (a &&& b) + (b &&& ~~~ a) = b := by
    rw [BitVec.add_eq_or_of_and_eq_zero]
    · apply ext64
      intro j hj
      simp only [BitVec.getLsbD_or, BitVec.getLsbD_and, BitVec.getLsbD_not, decide_eq_true hj]
      cases a.getLsbD j <;> cases b.getLsbD j <;> rfl
    · apply ext64
      intro j hj
      simp only [BitVec.getLsbD_and, BitVec.getLsbD_not, decide_eq_true hj, BitVec.getLsbD_zero]
      cases a.getLsbD j <;> cases b.getLsbD j <;> rfl
  have e2 : a + (b &&& ~~~ a) = a ||| b := by
    rw [BitVec.add_eq_or_of_and_eq_zero]
    · apply ext64
      intro j hj
      simp only [BitVec.getLsbD_or, BitVec.getLsbD_and, BitVec.getLsbD_not, decide_eq_true hj]
      cases a.getLsbD j <;> cases b.getLsbD j <;> rfl
    · apply ext64
      intro j hj
      simp only [BitVec.getLsbD_and, BitVec.getLsbD_not, decide_eq_true hj, BitVec.getLsbD_zero]
      cases a.getLsbD j <;> cases b.getLsbD j <;> rfl
  rw [← e2, ← BitVec.add_assoc, BitVec.add_comm (a &&& b) a, BitVec.add_assoc, e1]

set_option maxHeartbeats 1000000 in
theorem walk (a b : BitVec 64) (w : World) :
    Calls Try.prog 4 #[.int .u64 (U a), .int .u64 (U b)] w fun e w' => e = .returned (.bool true) ∧ Below w.heap.size w w' := by
  have e1 : doV 40 a b = a &&& b := rfl
  have e2 : doV 39 a b = a ||| b := rfl
  have e3 : ∀ x, doV 36 x b = x ^^^ b := fun x => rfl
  have e4 : ∀ x y, doV 31 x y = x + y := fun x y => rfl
  have e5 : doV 25 a b = a ^^^ b := rfl
  have g1 := f1 a b
  have g2 := f2 a b
  have g3 := f3 a b
  have g4 := f4 a b
  go_enter Try.func4, Try.ntmps4
  go_wp2_with (first | (go_at_call 8; (with_reducible refine (do_any _ _ _ _).mono ?_); rintro e w' ⟨rfl, rfl⟩) | (go_at_call 9; (with_reducible refine (one_any _).mono ?_); rintro e w' ⟨rfl, rfl⟩))
  go_ret
  exact ⟨rfl, Below.refl _ _⟩

set_option maxRecDepth 100000 in
theorem lifted (os : Os) (started : os.Started) (H : Type) (enc : TypeId × Value → H) :
    ReturnsInHanded {} Try.checked os 4 .any (Rows.aluBitsSpec.pre6 enc Try.prog Try.f4 Rows.aluBitsRow.domain false) (Rows.aluBitsSpec.post enc Try.prog Try.f4 false true false false) := by
  refine law_lift (C := Try.checked) (tb := 4) started (by kernel_rfl) (by kernel_rfl) Try.func4 rfl rfl Try.underlying4 (by kernel_rfl) (by kernel_rfl)
    (fun ds h => by match ds, h with | [_, _], _ => rfl)
    (ChangeSpec.witness6 (enc := enc) (C := Try.checked) false ⟨#[], #[.int .u64 0, .int .u64 0], []⟩ 8 (by kernel_rfl) (by kernel_rfl) (by kernel_rfl) (by kernel_rfl)) ?_
  intro W base args ds ps hval hA hlt hfz hsz
  rw [Try.params4] at hA hval hsz
  obtain ⟨v0, v1, d0, d1, p0, p1, rfl, rfl, rfl, h0, h1⟩ := trodAll_two hA
  obtain ⟨a0, rfl, rfl, rfl, w0⟩ := open_int Try.underlying22 (hval 0 _ v0 rfl rfl) h0
  obtain ⟨a1, rfl, rfl, rfl, w1⟩ := open_int Try.underlying22 (hval 1 _ v1 rfl rfl) h1
  obtain ⟨x, rfl⟩ := exists_U a0 w0
  obtain ⟨y, rfl⟩ := exists_U a1 w1
  exact walk x y W

theorem over : Rows.aluBitsRow.holds Try.pinned (OpenSpec.ofChange Rows.aluBitsSpec) :=
  OpenClaim.holds_of_wide 4 Try.f4 rfl rfl rfl rfl rfl rfl rfl ⟨rfl, rfl, rfl, rfl, rfl⟩ rfl rfl rfl rfl rfl (by kernel_rfl) Try.func4 (by kernel_rfl)
    (of_decide_eq_true (by kernel_rfl)) (by unfold Func.isWrapper; first | (rw [if_pos (by decide +kernel)]; kernel_rfl) | (rw [if_neg (by decide +kernel)]; exact ⟨rfl, rfl⟩))
    (fun os started H enc _ => lifted os started H enc)

theorem proved : Rows.AluBitsSaid := over
end Go.Proofs.Ytfnniojgcmnloaa.AluBits
