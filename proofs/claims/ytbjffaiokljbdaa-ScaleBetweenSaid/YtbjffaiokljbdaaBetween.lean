/-
  ScaleBetween: a number is between its multiples below and above, which are less than a power apart; of one both are it. Every input.
-/
import Derived.Test.YtbjffaiokljbdaaRows
import Derived.Test.YtbjffaiokljbdaaLaw
import Derived.Test.YtbjffaiokljbdaaLog
namespace Go.Proofs.Ytbjffaiokljbdaa.Between
open Go Go.RowKit Go.ChangeShapes Go.WideShapes Go.ChangeAt
set_option linter.unusedVariables false

theorem zeros_ge (y : BitVec 64) (m : Nat) (hm : m ≤ 64) (h : y.toNat % 2 ^ m = 0) : m ≤ zerosF y := by
  have hz : ∀ j, j < m → y.getLsbD j = false := fun j hj => by
    have h1 : (y.toNat % 2 ^ m).testBit j = (decide (j < m) && y.toNat.testBit j) := Nat.testBit_mod_two_pow _ _ _
    rw [h, decide_eq_true hj] at h1
    simpa [BitVec.getLsbD] using h1.symm
  by_cases c : ∃ k, k < 64 ∧ y.getLsbD k = true ∧ ∀ i, i < k → y.getLsbD i = false
  · obtain ⟨k, hk, hb, hl⟩ := c
    rw [zerosF_of y k hk hb hl]
    by_cases d : k < m
    · rw [hz k d] at hb; cases hb
    · omega
  · have : zerosF y = 64 ∨ ∃ k, zerosF y = k ∧ m ≤ k := by
      unfold zerosF
      cases hf : (List.range 64).find? (fun i => y.getLsbD i) with
      | none => exact .inl rfl
      | some k =>
        refine .inr ⟨k, rfl, ?_⟩
        have := List.find?_some hf
        by_cases d : k < m
        · rw [hz k d] at this; cases this
        · omega
    rcases this with h | ⟨k, h, h2⟩ <;> omega
theorem down_5 (w : World) : Calls Try.prog 17 #[.int .u64 5, .int .i64 2] w fun e w' => e = .returned (.int .u64 4) ∧ w = w' :=
  (down_any 5#64 2 w).mono fun _ _ h => ⟨by rw [h.1]; rfl, h.2⟩
theorem shl_toNat (m : Nat) (h : m < 64) : U (1#64 <<< m) = ((2 ^ m : Nat) : Int) := by
  unfold U
  rw [BitVec.toNat_shiftLeft, Nat.shiftLeft_eq]
  show ((1 * 2 ^ m % 2 ^ 64 : Nat) : Int) = _
  rw [Nat.one_mul, Nat.mod_eq_of_lt (Nat.pow_lt_pow_right (by omega) h)]
theorem up_of_mult (y : BitVec 64) (m : Nat) (hm : m ≤ 64) (h : y.toNat % 2 ^ m = 0) : upF y m = y ∧ downF y m = y := by
  have h1 : (y &&& maskF m == 0#64) = true := by rw [zero_iff y m hm]; simpa using h
  constructor
  · unfold upF; rw [if_pos h1]
  · apply BitVec.eq_of_toNat_eq
    rw [up_lsb y m hm]
    have := Nat.div_add_mod y.toNat (2 ^ m)
    rw [h, Nat.mul_comm] at this
    omega

set_option maxHeartbeats 4000000 in
theorem walk (x : BitVec 64) (m : Nat) (n : Int) (hm : m < 64) (hn : bits .and .i64 n 63 = (m : Int)) (w : World) :
    Calls Try.prog 6 #[.int .u64 (U x), .int .i64 n] w fun e w' => e = .returned (.bool true) ∧ Below w.heap.size w w' := by
  have hq : 0 < 2 ^ m := Nat.two_pow_pos m
  have hx := Nat.div_add_mod x.toNat (2 ^ m)
  have hlt := Nat.mod_lt x.toNat hq
  rw [Nat.mul_comm] at hx
  have hd := up_lsb x m (by omega)
  have hdU : U (downF x m) = ((x.toNat / 2 ^ m * 2 ^ m : Nat) : Int) := by unfold U; rw [hd]
  have hxU : U x = ((x.toNat / 2 ^ m * 2 ^ m + x.toNat % 2 ^ m : Nat) : Int) := by unfold U; rw [hx]
  have hsub : U (x - downF x m) = ((x.toNat % 2 ^ m : Nat) : Int) := by
    unfold U
    rw [BitVec.toNat_sub, hd]
    have := x.isLt
    generalize x.toNat / 2 ^ m * 2 ^ m = q at *
    generalize x.toNat % 2 ^ m = r at *
    omega
  have hp := shl_toNat m hm
  have hz1 := zeros_ge (downF x m) m (by omega) (by rw [hd]; exact Nat.mul_mod_left _ _)
  have t1 : U (downF x m) ≤ U x := by rw [hdU, hxU]; omega
  have t2 : ¬ ((zerosF (downF x m) : Int) < (m : Int)) := by omega
  have t3 : ¬ (U (1#64 <<< m) ≤ U (x - downF x m)) := by rw [hp, hsub]; omega
  have m0 : 0 ≤ (m : Int) := by omega
  have m1 : (m : Int) < 64 := by omega
  by_cases hr : x.toNat % 2 ^ m = 0
  · obtain ⟨hu, hdx⟩ := up_of_mult x m (by omega) hr
    have hok : upOk x m = true := by
      unfold upOk
      rw [zero_iff x m (by omega), decide_eq_true hr]; rfl
    have t4 : U (x - downF x m) ≤ U (1#64 <<< m) := by rw [hp, hsub, hr]; omega
    have e1 : (downF x m == x) = true := by rw [hdx]; simp
    have t6 : (m : Int) ≤ (zerosF x : Int) := by have := zeros_ge x m (by omega) hr; omega
    have e2 : (downF x m != x) = false := by rw [hdx]; simp
    clear hx hlt hd hdU hxU hsub hp hz1 hq hr hdx
    go_enter Try.func6, Try.ntmps6
    go_wp2_with (first | (go_at_call 18; (with_reducible refine (up_any _ _ _).mono ?_); rintro e w' ⟨rfl, rfl⟩) | (go_at_call 13; (with_reducible refine (zeros_any _ _).mono ?_); rintro e w' ⟨rfl, hb⟩) | (go_at_call 17; (with_reducible refine (down_any _ _ _).mono ?_); rintro e w' ⟨rfl, rfl⟩) | (go_at_call 17; (with_reducible refine (down_5 _).mono ?_); rintro e w' ⟨rfl, rfl⟩))
    go_ret
    exact ⟨rfl, by repeat (first | exact Below.refl _ _ | assumption | exact Below.trans (by assumption) (Below.mono (by assumption) (Below.size (by assumption))))⟩
  · have hup := up_more x m (by omega) hr
    have hz0 : (x &&& maskF m == 0#64) = false := by rw [zero_iff x m (by omega), decide_eq_false hr]
    have e2 : (downF x m != x) = true := by
      rw [bne_iff_ne]
      intro h
      rw [h] at hd
      omega
    cases ho : overF x (maskF m)
    · have hlt2 : x.toNat / 2 ^ m * 2 ^ m + 2 ^ m < 18446744073709551616 := by
        have := hup.1
        rw [ho] at this
        have := of_decide_eq_false this.symm
        omega
      have huN : (upF x m).toNat = x.toNat / 2 ^ m * 2 ^ m + 2 ^ m := by
        unfold upF
        rw [hz0, ho, if_neg (by decide), if_neg (by decide)]
        exact hup.2 ho
      have hok : upOk x m = true := by unfold upOk; rw [ho]; simp
      have hum : (upF x m).toNat % 2 ^ m = 0 := by rw [huN, Nat.add_mod_right]; exact Nat.mul_mod_left _ _
      obtain ⟨hu, hdx⟩ := up_of_mult (upF x m) m (by omega) hum
      have hz2 := zeros_ge (upF x m) m (by omega) hum
      have t4 : U (upF x m - downF x m) ≤ U (1#64 <<< m) := by
        rw [hp]
        unfold U
        rw [BitVec.toNat_sub, hd, huN]
        omega
      have t5 : U x ≤ U (upF x m) := by unfold U; rw [huN]; omega
      have t6 : (m : Int) ≤ (zerosF (upF x m) : Int) := by omega
      clear hx hlt hd hdU hxU hsub hp hz1 hq hr hz2 hup ho hz0 huN hum hlt2
      go_enter Try.func6, Try.ntmps6
      go_wp2_with (first | (go_at_call 18; (with_reducible refine (up_any _ _ _).mono ?_); rintro e w' ⟨rfl, rfl⟩) | (go_at_call 13; (with_reducible refine (zeros_any _ _).mono ?_); rintro e w' ⟨rfl, hb⟩) | (go_at_call 17; (with_reducible refine (down_any _ _ _).mono ?_); rintro e w' ⟨rfl, rfl⟩) | (go_at_call 17; (with_reducible refine (down_5 _).mono ?_); rintro e w' ⟨rfl, rfl⟩))
      go_ret
      exact ⟨rfl, by repeat (first | exact Below.refl _ _ | assumption | exact Below.trans (by assumption) (Below.mono (by assumption) (Below.size (by assumption))))⟩
    · have hok : upOk x m = false := by unfold upOk; rw [ho, hz0]; rfl
      have hu : upF x m = 0#64 := by unfold upF; rw [hz0, ho, if_neg (by decide), if_pos rfl]
      have hu' : U (0#64) = 0 := rfl
      clear hx hlt hd hdU hxU hsub hp hz1 hq hr hup ho hz0
      go_enter Try.func6, Try.ntmps6
      go_wp2_with (first | (go_at_call 18; (with_reducible refine (up_any _ _ _).mono ?_); rintro e w' ⟨rfl, rfl⟩) | (go_at_call 13; (with_reducible refine (zeros_any _ _).mono ?_); rintro e w' ⟨rfl, hb⟩) | (go_at_call 17; (with_reducible refine (down_any _ _ _).mono ?_); rintro e w' ⟨rfl, rfl⟩) | (go_at_call 17; (with_reducible refine (down_5 _).mono ?_); rintro e w' ⟨rfl, rfl⟩))
      go_ret
      exact ⟨rfl, by repeat (first | exact Below.refl _ _ | assumption | exact Below.trans (by assumption) (Below.mono (by assumption) (Below.size (by assumption))))⟩

set_option maxRecDepth 100000 in
theorem lifted (os : Os) (started : os.Started) (H : Type) (enc : TypeId × Value → H) :
    ReturnsInHanded {} Try.checked os 6 .any (Rows.scaleBetweenSpec.pre6 enc Try.prog Try.f6 Rows.scaleBetweenRow.domain false) (Rows.scaleBetweenSpec.post enc Try.prog Try.f6 false true false false) := by
  refine law_lift (C := Try.checked) (tb := 4) started (by kernel_rfl) (by kernel_rfl) Try.func6 rfl rfl Try.underlying4 (by kernel_rfl) (by kernel_rfl)
    (fun ds h => by match ds, h with | [_, _], _ => rfl)
    (ChangeSpec.witness6 (enc := enc) (C := Try.checked) false ⟨#[], #[.int .u64 0, .int .i64 0], []⟩ 8 (by kernel_rfl) (by kernel_rfl) (by kernel_rfl) (by kernel_rfl)) ?_
  intro W base args ds ps hval hA hlt hfz hsz
  rw [Try.params6] at hA hval hsz
  obtain ⟨v0, v1, d0, d1, p0, p1, rfl, rfl, rfl, h0, h1⟩ := trodAll_two hA
  obtain ⟨a0, rfl, rfl, rfl, w0⟩ := open_int Try.underlying22 (hval 0 _ v0 rfl rfl) h0
  obtain ⟨a1, rfl, rfl, rfl, w1⟩ := open_int Try.underlying3 (hval 1 _ v1 rfl rfl) h1
  obtain ⟨x, rfl⟩ := exists_U a0 w0
  exact walk x (a1 % 64).toNat a1 (by omega) (by rw [and_63]; omega) W

theorem over : Rows.scaleBetweenRow.holds Try.pinned (OpenSpec.ofChange Rows.scaleBetweenSpec) :=
  OpenClaim.holds_of_wide 6 Try.f6 rfl rfl rfl rfl rfl rfl rfl ⟨rfl, rfl, rfl, rfl, rfl⟩ rfl rfl rfl rfl rfl (by kernel_rfl) Try.func6 (by kernel_rfl)
    (of_decide_eq_true (by kernel_rfl)) (by unfold Func.isWrapper; first | (rw [if_pos (by decide +kernel)]; kernel_rfl) | (rw [if_neg (by decide +kernel)]; exact ⟨rfl, rfl⟩))
    (fun os started H enc _ => lifted os started H enc)

theorem proved : Rows.ScaleBetweenSaid := over
end Go.Proofs.Ytbjffaiokljbdaa.Between
