
/-
  AluShifts: what is moved up and down again has its lower bits, with the sign or without; a sum less one of both is the other one. Every input.
-/
import Derived.Test.YtfnniojgcmnloaaRows
import Derived.Test.YtfnniojgcmnloaaLaw
import Derived.Test.YtfnniojgcmnloaaAluOne
namespace Go.Proofs.Ytfnniojgcmnloaa.Shifts
open Go Go.RowKit Go.ChangeShapes Go.WideShapes Go.ChangeAt
set_option linter.unusedVariables false

set_option maxHeartbeats 1000000 in
theorem walk (a b : BitVec 64) (w : World) :
    Calls Try.prog 3 #[.int .u64 (U a), .int .u64 (U b)] w fun e w' => e = .returned (.bool true) ∧ Below w.heap.size w w' := by
  have e1 : doV 33 a b = a <<< (U (b % 64#64)).toNat := rfl
  have e2 : ∀ x, doV 37 x b = x >>> (U (b % 64#64)).toNat := fun x => rfl
  have e3 : ∀ x, doV 38 x b = x.sshiftRight (U (b % 64#64)).toNat := fun x => rfl
  have e4 : doV 31 a b = a + b := rfl
  have e5 : ∀ x, doV 32 x b = x - b := fun x => rfl
  obtain ⟨n, hn⟩ : ∃ n, n = (U (b % 64#64)).toNat := ⟨_, rfl⟩
  have hU : U (b % 64#64) = ((b.toNat % 64 : Nat) : Int) := by unfold U; rw [BitVec.toNat_umod]; rfl
  have n64 : n < 64 := by rw [hn, hU]; omega
  have e6 : (U (63#64 - b % 64#64)).toNat = 63 - n := by
    rw [hn, hU]
    unfold U
    rw [BitVec.toNat_sub, BitVec.toNat_umod]
    show ((((2 ^ 64 - b.toNat % 64 + 63) % 2 ^ 64 : Nat) : Int)).toNat = _
    omega
  have f1 := shl_shr a n n64
  have f2 := shl_sshr a n n64
  have f3 : a + b - b = a := BitVec.add_sub_cancel a b
  have f4 := bit_test a (63 - n)
  have f5 : U (b % 64#64) < 64 := by rw [hU]; omega
  rw [← e6] at f4
  rw [hn] at f1 f2
  cases hb : a.getLsbD (63 - n)
  all_goals
    rw [← hn, hb] at f2
    rw [e6, hb, ← e6] at f4
    rw [hn] at f2
    first | rw [if_pos rfl] at f2 | rw [if_neg (by decide), BitVec.or_zero] at f2
    clear hU n64 e6 hb hn n
    go_enter Try.func3, Try.ntmps3
    go_wp2_with (first | (go_at_call 8; (with_reducible refine (do_any _ _ _ _).mono ?_); rintro e w' ⟨rfl, rfl⟩) | (go_at_call 9; (with_reducible refine (one_any _).mono ?_); rintro e w' ⟨rfl, rfl⟩))
    go_ret
    exact ⟨rfl, Below.refl _ _⟩

set_option maxRecDepth 100000 in
theorem lifted (os : Os) (started : os.Started) (H : Type) (enc : TypeId × Value → H) :
    ReturnsInHanded {} Try.checked os 3 .any (Rows.aluShiftsSpec.pre6 enc Try.prog Try.f3 Rows.aluShiftsRow.domain false) (Rows.aluShiftsSpec.post enc Try.prog Try.f3 false true false false) := by
  refine law_lift (C := Try.checked) (tb := 4) started (by kernel_rfl) (by kernel_rfl) Try.func3 rfl rfl Try.underlying4 (by kernel_rfl) (by kernel_rfl)
    (fun ds h => by match ds, h with | [_, _], _ => rfl)
    (ChangeSpec.witness6 (enc := enc) (C := Try.checked) false ⟨#[], #[.int .u64 0, .int .u64 0], []⟩ 8 (by kernel_rfl) (by kernel_rfl) (by kernel_rfl) (by kernel_rfl)) ?_
  intro W base args ds ps hval hA hlt hfz hsz
  rw [Try.params3] at hA hval hsz
  obtain ⟨v0, v1, d0, d1, p0, p1, rfl, rfl, rfl, h0, h1⟩ := trodAll_two hA
  obtain ⟨a0, rfl, rfl, rfl, w0⟩ := open_int Try.underlying22 (hval 0 _ v0 rfl rfl) h0
  obtain ⟨a1, rfl, rfl, rfl, w1⟩ := open_int Try.underlying22 (hval 1 _ v1 rfl rfl) h1
  obtain ⟨x, rfl⟩ := exists_U a0 w0
  obtain ⟨y, rfl⟩ := exists_U a1 w1
  exact walk x y W

theorem over : Rows.aluShiftsRow.holds Try.pinned (OpenSpec.ofChange Rows.aluShiftsSpec) :=
  OpenClaim.holds_of_wide 3 Try.f3 rfl rfl rfl rfl rfl rfl rfl ⟨rfl, rfl, rfl, rfl, rfl⟩ rfl rfl rfl rfl rfl (by kernel_rfl) Try.func3 (by kernel_rfl)
    (of_decide_eq_true (by kernel_rfl)) (by unfold Func.isWrapper; first | (rw [if_pos (by decide +kernel)]; kernel_rfl) | (rw [if_neg (by decide +kernel)]; exact ⟨rfl, rfl⟩))
    (fun os started H enc _ => lifted os started H enc)

theorem proved : Rows.AluShiftsSaid := over
end Go.Proofs.Ytfnniojgcmnloaa.Shifts
