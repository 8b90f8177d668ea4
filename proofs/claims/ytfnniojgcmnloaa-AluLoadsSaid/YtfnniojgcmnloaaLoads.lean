
/-
  AluLoads: what is loaded with its sign, and without, has the same lowest bits, as many as there are bytes; and above them the sign, or zeros. Every input.
-/
import Derived.Test.YtfnniojgcmnloaaRows
import Derived.Test.YtfnniojgcmnloaaLaw
import Derived.Test.YtfnniojgcmnloaaAluOne
namespace Go.Proofs.Ytfnniojgcmnloaa.Loads
open Go Go.RowKit Go.ChangeShapes Go.WideShapes Go.ChangeAt
set_option linter.unusedVariables false

theorem w11 (w : World) : Calls Try.prog 11 #[.int .i64 11] w fun e w' => e = .returned (.int .i64 1) ∧ Below w.heap.size w w' := (width_any 11 (by decide) w).mono fun _ _ h => ⟨by rw [h.1]; rfl, h.2⟩
theorem w12 (w : World) : Calls Try.prog 11 #[.int .i64 12] w fun e w' => e = .returned (.int .i64 2) ∧ Below w.heap.size w w' := (width_any 12 (by decide) w).mono fun _ _ h => ⟨by rw [h.1]; rfl, h.2⟩
theorem w13 (w : World) : Calls Try.prog 11 #[.int .i64 13] w fun e w' => e = .returned (.int .i64 4) ∧ Below w.heap.size w w' := (width_any 13 (by decide) w).mono fun _ _ h => ⟨by rw [h.1]; rfl, h.2⟩
theorem w14 (w : World) : Calls Try.prog 11 #[.int .i64 14] w fun e w' => e = .returned (.int .i64 8) ∧ Below w.heap.size w w' := (width_any 14 (by decide) w).mono fun _ _ h => ⟨by rw [h.1]; rfl, h.2⟩
theorem w15 (w : World) : Calls Try.prog 11 #[.int .i64 15] w fun e w' => e = .returned (.int .i64 1) ∧ Below w.heap.size w w' := (width_any 15 (by decide) w).mono fun _ _ h => ⟨by rw [h.1]; rfl, h.2⟩
theorem w16 (w : World) : Calls Try.prog 11 #[.int .i64 16] w fun e w' => e = .returned (.int .i64 2) ∧ Below w.heap.size w w' := (width_any 16 (by decide) w).mono fun _ _ h => ⟨by rw [h.1]; rfl, h.2⟩
theorem w17 (w : World) : Calls Try.prog 11 #[.int .i64 17] w fun e w' => e = .returned (.int .i64 4) ∧ Below w.heap.size w w' := (width_any 17 (by decide) w).mono fun _ _ h => ⟨by rw [h.1]; rfl, h.2⟩
theorem w18 (w : World) : Calls Try.prog 11 #[.int .i64 18] w fun e w' => e = .returned (.int .i64 1) ∧ Below w.heap.size w w' := (width_any 18 (by decide) w).mono fun _ _ h => ⟨by rw [h.1]; rfl, h.2⟩
theorem w19 (w : World) : Calls Try.prog 11 #[.int .i64 19] w fun e w' => e = .returned (.int .i64 2) ∧ Below w.heap.size w w' := (width_any 19 (by decide) w).mono fun _ _ h => ⟨by rw [h.1]; rfl, h.2⟩
theorem w20 (w : World) : Calls Try.prog 11 #[.int .i64 20] w fun e w' => e = .returned (.int .i64 4) ∧ Below w.heap.size w w' := (width_any 20 (by decide) w).mono fun _ _ h => ⟨by rw [h.1]; rfl, h.2⟩
theorem x11 (v : BitVec 64) (w : World) : Calls Try.prog 12 #[.int .i64 11, .int .u64 (U v)] w fun e w' => e = .returned (.int .u64 (U (extendF 11 v))) ∧ Below w.heap.size w w' := extend_any 11 v (by decide) w
theorem x12 (v : BitVec 64) (w : World) : Calls Try.prog 12 #[.int .i64 12, .int .u64 (U v)] w fun e w' => e = .returned (.int .u64 (U (extendF 12 v))) ∧ Below w.heap.size w w' := extend_any 12 v (by decide) w
theorem x13 (v : BitVec 64) (w : World) : Calls Try.prog 12 #[.int .i64 13, .int .u64 (U v)] w fun e w' => e = .returned (.int .u64 (U (extendF 13 v))) ∧ Below w.heap.size w w' := extend_any 13 v (by decide) w
theorem x14 (v : BitVec 64) (w : World) : Calls Try.prog 12 #[.int .i64 14, .int .u64 (U v)] w fun e w' => e = .returned (.int .u64 (U (extendF 14 v))) ∧ Below w.heap.size w w' := extend_any 14 v (by decide) w
theorem x15 (v : BitVec 64) (w : World) : Calls Try.prog 12 #[.int .i64 15, .int .u64 (U v)] w fun e w' => e = .returned (.int .u64 (U (extendF 15 v))) ∧ Below w.heap.size w w' := extend_any 15 v (by decide) w
theorem x16 (v : BitVec 64) (w : World) : Calls Try.prog 12 #[.int .i64 16, .int .u64 (U v)] w fun e w' => e = .returned (.int .u64 (U (extendF 16 v))) ∧ Below w.heap.size w w' := extend_any 16 v (by decide) w
theorem x17 (v : BitVec 64) (w : World) : Calls Try.prog 12 #[.int .i64 17, .int .u64 (U v)] w fun e w' => e = .returned (.int .u64 (U (extendF 17 v))) ∧ Below w.heap.size w w' := extend_any 17 v (by decide) w
theorem low_is (v : BitVec 64) (n : Nat) (h : 1 ≤ n ∧ n ≤ 64) : getF v 0 n = v &&& maskF n := by
  have g : mayF 0 n = true := (mayF_iff _ _).2 (by omega)
  apply ext64
  intro j hj
  rw [get_lsb _ _ _ g, BitVec.getLsbD_and, mask_lsb _ (by omega), Bool.and_comm]
  rw [show (0 : Int).toNat + j = j by omega]
theorem sgn_is (v : BitVec 64) (n : Nat) (h : 1 ≤ n ∧ n ≤ 64) : sgnF v n = (v &&& maskF n) ||| (if v.getLsbD (n - 1) = true then ~~~ maskF n else 0#64) := by
  apply ext64
  intro j hj
  rw [sgn_lsb _ _ (by omega) _ hj, BitVec.getLsbD_or, BitVec.getLsbD_and, mask_lsb _ (by omega)]
  rw [show (n : Int).toNat = n by omega]
  by_cases c : j < n
  · rw [if_pos c, decide_eq_true c]
    split
    · rw [BitVec.getLsbD_not, mask_lsb _ (by omega), show (n : Int).toNat = n by omega, decide_eq_true c]; simp
    · simp
  · rw [if_neg c, decide_eq_false c]
    cases h1 : v.getLsbD (n - 1)
    · simp
    · rw [if_pos rfl, BitVec.getLsbD_not, mask_lsb _ (by omega), show (n : Int).toNat = n by omega, decide_eq_false c, decide_eq_true hj]; simp

set_option maxHeartbeats 16000000 in
set_option maxRecDepth 100000 in
theorem walk (v : BitVec 64) (w : World) :
    Calls Try.prog 6 #[.int .u64 (U v)] w fun e w' => e = .returned (.bool true) ∧ Below w.heap.size w w' := by
  have u8 : U 8#64 = 8 := rfl
  have u16 : U 16#64 = 16 := rfl
  have u32 : U 32#64 = 32 := rfl
  have e15 : extendF 15 v = v &&& 255#64 := low_is v 8 (by omega)
  have e16 : extendF 16 v = v &&& 65535#64 := low_is v 16 (by omega)
  have e17 : extendF 17 v = v &&& 4294967295#64 := low_is v 32 (by omega)
  have e11 : extendF 11 v = (v &&& 255#64) ||| (if v.getLsbD 7 = true then 18446744073709551360#64 else 0#64) := sgn_is v 8 (by omega)
  have e12 : extendF 12 v = (v &&& 65535#64) ||| (if v.getLsbD 15 = true then 18446744073709486080#64 else 0#64) := sgn_is v 16 (by omega)
  have e13 : extendF 13 v = (v &&& 4294967295#64) ||| (if v.getLsbD 31 = true then 18446744069414584320#64 else 0#64) := sgn_is v 32 (by omega)
  have e14 : extendF 14 v = v := by
    show sgnF v 64 = v
    apply ext64
    intro j hj
    rw [sgn_lsb _ _ (by omega) _ hj, if_pos (show j < (64 : Int).toNat by omega)]
  have b7 := bit_test v 7
  have b15 := bit_test v 15
  have b31 := bit_test v 31
  cases h7 : v.getLsbD 7
  all_goals cases h15 : v.getLsbD 15
  all_goals cases h31 : v.getLsbD 31
  all_goals
    rw [h7] at e11 b7
    rw [h15] at e12 b15
    rw [h31] at e13 b31
    first | rw [if_pos rfl] at e11 | rw [if_neg (by decide), BitVec.or_zero] at e11
    first | rw [if_pos rfl] at e12 | rw [if_neg (by decide), BitVec.or_zero] at e12
    first | rw [if_pos rfl] at e13 | rw [if_neg (by decide), BitVec.or_zero] at e13
    clear h7 h15 h31
  all_goals
    go_enter Try.func6, Try.ntmps6
    go_wp2_with fail
    refine wp_loop_rounds 4 ?_
    rw [rounds_succ]
    go_wp2_with (first | (go_at_call 11; (with_reducible refine (w11 _).mono ?_); rintro e w' ⟨rfl, hbl⟩) | (go_at_call 11; (with_reducible refine (w12 _).mono ?_); rintro e w' ⟨rfl, hbl⟩) | (go_at_call 11; (with_reducible refine (w13 _).mono ?_); rintro e w' ⟨rfl, hbl⟩) | (go_at_call 11; (with_reducible refine (w14 _).mono ?_); rintro e w' ⟨rfl, hbl⟩) | (go_at_call 11; (with_reducible refine (w15 _).mono ?_); rintro e w' ⟨rfl, hbl⟩) | (go_at_call 11; (with_reducible refine (w16 _).mono ?_); rintro e w' ⟨rfl, hbl⟩) | (go_at_call 11; (with_reducible refine (w17 _).mono ?_); rintro e w' ⟨rfl, hbl⟩) | (go_at_call 11; (with_reducible refine (w18 _).mono ?_); rintro e w' ⟨rfl, hbl⟩) | (go_at_call 11; (with_reducible refine (w19 _).mono ?_); rintro e w' ⟨rfl, hbl⟩) | (go_at_call 11; (with_reducible refine (w20 _).mono ?_); rintro e w' ⟨rfl, hbl⟩) | (go_at_call 12; (with_reducible refine (x11 _ _).mono ?_); rintro e w' ⟨rfl, hbl⟩) | (go_at_call 12; (with_reducible refine (x12 _ _).mono ?_); rintro e w' ⟨rfl, hbl⟩) | (go_at_call 12; (with_reducible refine (x13 _ _).mono ?_); rintro e w' ⟨rfl, hbl⟩) | (go_at_call 12; (with_reducible refine (x14 _ _).mono ?_); rintro e w' ⟨rfl, hbl⟩) | (go_at_call 12; (with_reducible refine (x15 _ _).mono ?_); rintro e w' ⟨rfl, hbl⟩) | (go_at_call 12; (with_reducible refine (x16 _ _).mono ?_); rintro e w' ⟨rfl, hbl⟩) | (go_at_call 12; (with_reducible refine (x17 _ _).mono ?_); rintro e w' ⟨rfl, hbl⟩) | (go_at_call 9; (with_reducible refine (one_any _).mono ?_); rintro e w' ⟨rfl, rfl⟩))
    rw [rounds_succ]
    go_wp2_with (first | (go_at_call 11; (with_reducible refine (w11 _).mono ?_); rintro e w' ⟨rfl, hbl⟩) | (go_at_call 11; (with_reducible refine (w12 _).mono ?_); rintro e w' ⟨rfl, hbl⟩) | (go_at_call 11; (with_reducible refine (w13 _).mono ?_); rintro e w' ⟨rfl, hbl⟩) | (go_at_call 11; (with_reducible refine (w14 _).mono ?_); rintro e w' ⟨rfl, hbl⟩) | (go_at_call 11; (with_reducible refine (w15 _).mono ?_); rintro e w' ⟨rfl, hbl⟩) | (go_at_call 11; (with_reducible refine (w16 _).mono ?_); rintro e w' ⟨rfl, hbl⟩) | (go_at_call 11; (with_reducible refine (w17 _).mono ?_); rintro e w' ⟨rfl, hbl⟩) | (go_at_call 11; (with_reducible refine (w18 _).mono ?_); rintro e w' ⟨rfl, hbl⟩) | (go_at_call 11; (with_reducible refine (w19 _).mono ?_); rintro e w' ⟨rfl, hbl⟩) | (go_at_call 11; (with_reducible refine (w20 _).mono ?_); rintro e w' ⟨rfl, hbl⟩) | (go_at_call 12; (with_reducible refine (x11 _ _).mono ?_); rintro e w' ⟨rfl, hbl⟩) | (go_at_call 12; (with_reducible refine (x12 _ _).mono ?_); rintro e w' ⟨rfl, hbl⟩) | (go_at_call 12; (with_reducible refine (x13 _ _).mono ?_); rintro e w' ⟨rfl, hbl⟩) | (go_at_call 12; (with_reducible refine (x14 _ _).mono ?_); rintro e w' ⟨rfl, hbl⟩) | (go_at_call 12; (with_reducible refine (x15 _ _).mono ?_); rintro e w' ⟨rfl, hbl⟩) | (go_at_call 12; (with_reducible refine (x16 _ _).mono ?_); rintro e w' ⟨rfl, hbl⟩) | (go_at_call 12; (with_reducible refine (x17 _ _).mono ?_); rintro e w' ⟨rfl, hbl⟩) | (go_at_call 9; (with_reducible refine (one_any _).mono ?_); rintro e w' ⟨rfl, rfl⟩))
    rw [rounds_succ]
    go_wp2_with (first | (go_at_call 11; (with_reducible refine (w11 _).mono ?_); rintro e w' ⟨rfl, hbl⟩) | (go_at_call 11; (with_reducible refine (w12 _).mono ?_); rintro e w' ⟨rfl, hbl⟩) | (go_at_call 11; (with_reducible refine (w13 _).mono ?_); rintro e w' ⟨rfl, hbl⟩) | (go_at_call 11; (with_reducible refine (w14 _).mono ?_); rintro e w' ⟨rfl, hbl⟩) | (go_at_call 11; (with_reducible refine (w15 _).mono ?_); rintro e w' ⟨rfl, hbl⟩) | (go_at_call 11; (with_reducible refine (w16 _).mono ?_); rintro e w' ⟨rfl, hbl⟩) | (go_at_call 11; (with_reducible refine (w17 _).mono ?_); rintro e w' ⟨rfl, hbl⟩) | (go_at_call 11; (with_reducible refine (w18 _).mono ?_); rintro e w' ⟨rfl, hbl⟩) | (go_at_call 11; (with_reducible refine (w19 _).mono ?_); rintro e w' ⟨rfl, hbl⟩) | (go_at_call 11; (with_reducible refine (w20 _).mono ?_); rintro e w' ⟨rfl, hbl⟩) | (go_at_call 12; (with_reducible refine (x11 _ _).mono ?_); rintro e w' ⟨rfl, hbl⟩) | (go_at_call 12; (with_reducible refine (x12 _ _).mono ?_); rintro e w' ⟨rfl, hbl⟩) | (go_at_call 12; (with_reducible refine (x13 _ _).mono ?_); rintro e w' ⟨rfl, hbl⟩) | (go_at_call 12; (with_reducible refine (x14 _ _).mono ?_); rintro e w' ⟨rfl, hbl⟩) | (go_at_call 12; (with_reducible refine (x15 _ _).mono ?_); rintro e w' ⟨rfl, hbl⟩) | (go_at_call 12; (with_reducible refine (x16 _ _).mono ?_); rintro e w' ⟨rfl, hbl⟩) | (go_at_call 12; (with_reducible refine (x17 _ _).mono ?_); rintro e w' ⟨rfl, hbl⟩) | (go_at_call 9; (with_reducible refine (one_any _).mono ?_); rintro e w' ⟨rfl, rfl⟩))
    rw [rounds_succ]
    go_wp2_with (first | (go_at_call 11; (with_reducible refine (w11 _).mono ?_); rintro e w' ⟨rfl, hbl⟩) | (go_at_call 11; (with_reducible refine (w12 _).mono ?_); rintro e w' ⟨rfl, hbl⟩) | (go_at_call 11; (with_reducible refine (w13 _).mono ?_); rintro e w' ⟨rfl, hbl⟩) | (go_at_call 11; (with_reducible refine (w14 _).mono ?_); rintro e w' ⟨rfl, hbl⟩) | (go_at_call 11; (with_reducible refine (w15 _).mono ?_); rintro e w' ⟨rfl, hbl⟩) | (go_at_call 11; (with_reducible refine (w16 _).mono ?_); rintro e w' ⟨rfl, hbl⟩) | (go_at_call 11; (with_reducible refine (w17 _).mono ?_); rintro e w' ⟨rfl, hbl⟩) | (go_at_call 11; (with_reducible refine (w18 _).mono ?_); rintro e w' ⟨rfl, hbl⟩) | (go_at_call 11; (with_reducible refine (w19 _).mono ?_); rintro e w' ⟨rfl, hbl⟩) | (go_at_call 11; (with_reducible refine (w20 _).mono ?_); rintro e w' ⟨rfl, hbl⟩) | (go_at_call 12; (with_reducible refine (x11 _ _).mono ?_); rintro e w' ⟨rfl, hbl⟩) | (go_at_call 12; (with_reducible refine (x12 _ _).mono ?_); rintro e w' ⟨rfl, hbl⟩) | (go_at_call 12; (with_reducible refine (x13 _ _).mono ?_); rintro e w' ⟨rfl, hbl⟩) | (go_at_call 12; (with_reducible refine (x14 _ _).mono ?_); rintro e w' ⟨rfl, hbl⟩) | (go_at_call 12; (with_reducible refine (x15 _ _).mono ?_); rintro e w' ⟨rfl, hbl⟩) | (go_at_call 12; (with_reducible refine (x16 _ _).mono ?_); rintro e w' ⟨rfl, hbl⟩) | (go_at_call 12; (with_reducible refine (x17 _ _).mono ?_); rintro e w' ⟨rfl, hbl⟩) | (go_at_call 9; (with_reducible refine (one_any _).mono ?_); rintro e w' ⟨rfl, rfl⟩))
    go_ret
    refine ⟨rfl, ?_⟩
    repeat (first | exact Below.refl _ _ | assumption | refine below_drewN ?_ _ | refine below_alloc ?_ _ | refine belows ?_ (by assumption))

set_option maxRecDepth 100000 in
theorem lifted (os : Os) (started : os.Started) (H : Type) (enc : TypeId × Value → H) :
    ReturnsInHanded {} Try.checked os 6 .any (Rows.aluLoadsSpec.pre6 enc Try.prog Try.f6 Rows.aluLoadsRow.domain false) (Rows.aluLoadsSpec.post enc Try.prog Try.f6 false true false false) := by
  refine law_lift (C := Try.checked) (tb := 4) started (by kernel_rfl) (by kernel_rfl) Try.func6 rfl rfl Try.underlying4 (by kernel_rfl) (by kernel_rfl)
    (fun ds h => by match ds, h with | [_], _ => rfl)
    (ChangeSpec.witness6 (enc := enc) (C := Try.checked) false ⟨#[], #[.int .u64 0], []⟩ 8 (by kernel_rfl) (by kernel_rfl) (by kernel_rfl) (by kernel_rfl)) ?_
  intro W base args ds ps hval hA hlt hfz hsz
  rw [Try.params6] at hA hval hsz
  obtain ⟨v0, d0, rfl, rfl, h0⟩ := trodAll_one hA
  obtain ⟨a0, rfl, rfl, rfl, w0⟩ := open_int Try.underlying22 (hval 0 _ v0 rfl rfl) h0
  obtain ⟨x, rfl⟩ := exists_U a0 w0
  exact walk x W

theorem over : Rows.aluLoadsRow.holds Try.pinned (OpenSpec.ofChange Rows.aluLoadsSpec) :=
  OpenClaim.holds_of_wide 6 Try.f6 rfl rfl rfl rfl rfl rfl rfl ⟨rfl, rfl, rfl, rfl, rfl⟩ rfl rfl rfl rfl rfl (by kernel_rfl) Try.func6 (by kernel_rfl)
    (of_decide_eq_true (by kernel_rfl)) (by unfold Func.isWrapper; first | (rw [if_pos (by decide +kernel)]; kernel_rfl) | (rw [if_neg (by decide +kernel)]; exact ⟨rfl, rfl⟩))
    (fun os started H enc _ => lifted os started H enc)

theorem proved : Rows.AluLoadsSaid := over
end Go.Proofs.Ytfnniojgcmnloaa.Loads
