
/-
  The document's answer for spans that are kept, function by function.
-/
import Derived.Test.YtikpkoeeinkecaaBoundsW
namespace Go.Proofs.Ytikpkoeeinkecaa
open Go Go.RowKit
set_option linter.unusedVariables false
set_option linter.unusedSimpArgs false

set_option maxRecDepth 100000
theorem rspan_guard : Try.prog.eqGuardType Try.prog.depth 34 = false := by kernel_rfl
theorem rspan_stood : Try.prog.stoodInHeld 34 = false := by kernel_rfl
theorem rspan_eql (a b a' b' : BitVec 64) (w : World) : (binOp .eql 34 (.agg #[.int .u64 (U a), .int .u64 (U b)]) (.agg #[.int .u64 (U a'), .int .u64 (U b')])).run Try.prog w = .ok (.bool (a == a' && b == b')) w := by
  have hs := rspan_stood
  rw [run_eql_struct]
  rw [show (10000 : Nat) = 9999 + 1 from rfl, run_equalIn_struct _ _ _ _ _ Try.underlying34 hs]
  simp [go_sem, Try.underlying34]
  by_cases h1 : a = a' <;> by_cases h2 : b = b' <;> simp [h1, h2]
theorem rfields_guard : Try.prog.eqGuardType Try.prog.depth 68 = false := by kernel_rfl
theorem rfields_stood : Try.prog.stoodInHeld 68 = false := by kernel_rfl
theorem rfields_eql (a b c a' b' c' : BitVec 64) (w : World) : (binOp .eql 68 (.agg #[.int .u64 (U a), .int .u64 (U b), .int .u64 (U c)]) (.agg #[.int .u64 (U a'), .int .u64 (U b'), .int .u64 (U c')])).run Try.prog w = .ok (.bool (a == a' && b == b' && c == c')) w := by
  have hs := rfields_stood
  rw [run_eql_struct]
  rw [show (10000 : Nat) = 9999 + 1 from rfl, run_equalIn_struct _ _ _ _ _ Try.underlying68 hs]
  simp [go_sem, Try.underlying68]
  by_cases h1 : a = a' <;> by_cases h2 : b = b' <;> by_cases h3 : c = c' <;> simp [h1, h2, h3]
attribute [go_sem 3000] rspan_guard rspan_eql rfields_guard rfields_eql

theorem U_pred (k : Nat) (h : 1 ≤ k) (hk : k ≤ 37) : U (BitVec.ofNat 64 k - 1#64) = ((k - 1 : Nat) : Int) := by
  unfold U
  rw [BitVec.toNat_sub_of_le (by rw [BitVec.le_def]; simp; omega)]
  simp
  omega
theorem rexponent_any (k : Nat) (hk : k ≤ 37) (w : World) : Calls Try.prog 42 #[.int .u64 (k : Int)] w fun r w' => r = .returned (.int .u64 ((k - 1 : Nat) : Int)) ∧ w = w' := by
  by_cases h : k = 0
  · subst h
    go_enter Try.func42, Try.ntmps42
    go_wp2_with fail
    go_ret
    exact ⟨rfl, rfl⟩
  · have h0 : ((k : Int) == 0) = false := by simp; omega
    have h1 : (0 : Int) ≤ (k : Int) - 1 := by omega
    go_enter Try.func42, Try.ntmps42
    go_wp2_with fail
    go_ret
    exact ⟨ret_int (U_pred k (by omega) (by omega)), rfl⟩
theorem rmay_any (b t : BitVec 64) (w : World) : Calls Try.prog 40 #[.agg #[.int .u64 (U b), .int .u64 (U t)]] w fun r w' => r = .returned (.bool (mayS b t)) ∧ Below w.heap.size w w' := by
  cases h1 : decide (U b ≤ U t)
  · go_enter Try.func40, Try.ntmps40
    go_wp2_with fail
    go_ret
    exact ⟨ret_bool (by unfold mayS; rw [show decide (b.toNat ≤ t.toNat) = false from by unfold U at h1; simpa using h1]; rfl), by (repeat (first | with_reducible exact Below.refl _ _ | with_reducible assumption | with_reducible refine below_drewN ?_ _ | with_reducible refine Below.drew ?_ | with_reducible refine below_alloc ?_ _ | (with_reducible refine Below.setCell ?_ (by first | (simp; done) | omega | (simp; omega)) _) | with_reducible refine belows ?_ (by assumption)))⟩
  · cases h2 : decide (U t ≤ 281474976710656)
    · go_enter Try.func40, Try.ntmps40
      go_wp2_with fail
      go_ret
      exact ⟨ret_bool (by unfold mayS; unfold U at h2; rw [show decide (t.toNat ≤ 281474976710656) = false from by simp at h2 ⊢; omega]; simp), by (repeat (first | with_reducible exact Below.refl _ _ | with_reducible assumption | with_reducible refine below_drewN ?_ _ | with_reducible refine Below.drew ?_ | with_reducible refine below_alloc ?_ _ | (with_reducible refine Below.setCell ?_ (by first | (simp; done) | omega | (simp; omega)) _) | with_reducible refine belows ?_ (by assumption)))⟩
    · go_enter Try.func40, Try.ntmps40
      go_wp2_with fail
      go_ret
      exact ⟨ret_bool (by unfold mayS; unfold U at h1 h2; simp at h1 h2 ⊢; omega), by (repeat (first | with_reducible exact Below.refl _ _ | with_reducible assumption | with_reducible refine below_drewN ?_ _ | with_reducible refine Below.drew ?_ | with_reducible refine below_alloc ?_ _ | (with_reducible refine Below.setCell ?_ (by first | (simp; done) | omega | (simp; omega)) _) | with_reducible refine belows ?_ (by assumption)))⟩
def rkEnd (t : BitVec 64) (x : Nat) : BitVec 64 := if U ((t >>> x) <<< x) < U t then t >>> x + 1#64 else t >>> x
def rkN (b t : BitVec 64) (x : Nat) : BitVec 64 := rkEnd t x - b >>> x
theorem rkept_0 (b t : BitVec 64) (w : World) : Calls Try.prog 41 #[.agg #[.int .u64 (U b), .int .u64 (U t)], .int .u64 0] w fun r w' => r = .returned (.tuple #[.agg #[.int .u64 (U b), .int .u64 (U t)], .bool (decide (U (t - b) < 4096))]) ∧ Below w.heap.size w w' := by
  have ce : ∀ w : World, Calls Try.prog 42 #[.int .u64 0] w fun r w' => r = .returned (.int .u64 0) ∧ w = w' := fun w => rexponent_any 0 (by omega) w
  go_enter Try.func41, Try.ntmps41
  go_wp2_with (go_at_call 42; (with_reducible refine (ce _).mono ?_); rintro e w' ⟨rfl, rfl⟩)
  refine bodyPost_ret (results_ct [.int .u64 (U b), .int .u64 (U t)] (.bool (decide (U (t - b) < 4096))) Try.results41 rfl rfl ?_ Try.underlying34 rfl (by kernel_rfl)) rfl ?_
  · (first | (go_simp; done) | (go_simp; (simp [↓IntWalk.iteOmega]; done)) | (go_simp; intros; omega) | (go_simp; simp [↓IntWalk.iteOmega]; intros; omega))
  · exact ⟨rfl, by (repeat (first | with_reducible exact Below.refl _ _ | with_reducible assumption | with_reducible refine below_drewN ?_ _ | with_reducible refine Below.drew ?_ | with_reducible refine below_alloc ?_ _ | (with_reducible refine Below.setCell ?_ (by first | (simp; done) | omega | (simp; omega)) _) | with_reducible refine belows ?_ (by assumption)))⟩
set_option maxHeartbeats 1000000 in
theorem rkept_s (b t : BitVec 64) (x : Nat) (hx : x ≤ 36) (w : World) : Calls Try.prog 41 #[.agg #[.int .u64 (U b), .int .u64 (U t)], .int .u64 ((x : Int) + 1)] w fun r w' => r = .returned (.tuple #[.agg #[.int .u64 (U ((b >>> x) <<< x)), .int .u64 (U (rkEnd t x <<< x))], .bool (decide (4096 ≤ U (rkN b t x)) && decide (U (rkN b t x) < 8192))]) ∧ Below w.heap.size w w' := by
  have ce : ∀ w : World, Calls Try.prog 42 #[.int .u64 ((x : Int) + 1)] w fun r w' => r = .returned (.int .u64 (x : Int)) ∧ w = w' := fun w => rexponent_any (x + 1) (by omega) w
  have h0 : ((x : Int) + 1 == 0) = false := by simp; omega
  have h1 : (0 : Int) ≤ (x : Int) := by omega
  by_cases h : U ((t >>> x) <<< x) < U t
  · have he : rkEnd t x = t >>> x + 1#64 := by unfold rkEnd; rw [if_pos h]
    unfold rkN
    rw [he]
    clear he
    go_enter Try.func41, Try.ntmps41
    go_wp2_with (go_at_call 42; (with_reducible refine (ce _).mono ?_); rintro e w' ⟨rfl, rfl⟩)
    · refine bodyPost_ret (results_ct [.int .u64 (U ((b >>> x) <<< x)), .int .u64 (U ((t >>> x + 1#64) <<< x))] (.bool (decide (U (t >>> x + 1#64 - b >>> x) < 8192))) Try.results41 rfl rfl ?_ Try.underlying34 rfl (by kernel_rfl)) rfl ?_
      · (first | (go_simp; done) | (go_simp; (simp [↓IntWalk.iteOmega]; done)) | (go_simp; intros; omega) | (go_simp; simp [↓IntWalk.iteOmega]; intros; omega))
      · have g : 4096 ≤ U (t >>> x + 1#64 - b >>> x) := by with_reducible assumption
        exact ⟨by simp [g], by (repeat (first | with_reducible exact Below.refl _ _ | with_reducible assumption | with_reducible refine below_drewN ?_ _ | with_reducible refine Below.drew ?_ | with_reducible refine below_alloc ?_ _ | (with_reducible refine Below.setCell ?_ (by first | (simp; done) | omega | (simp; omega)) _) | with_reducible refine belows ?_ (by assumption)))⟩
    · refine bodyPost_ret (results_ct [.int .u64 (U ((b >>> x) <<< x)), .int .u64 (U ((t >>> x + 1#64) <<< x))] (.bool false) Try.results41 rfl rfl ?_ Try.underlying34 rfl (by kernel_rfl)) rfl ?_
      · (first | (go_simp; done) | (go_simp; (simp [↓IntWalk.iteOmega]; done)) | (go_simp; intros; omega) | (go_simp; simp [↓IntWalk.iteOmega]; intros; omega))
      · have g : U (t >>> x + 1#64 - b >>> x) < 4096 := by with_reducible assumption
        exact ⟨by rw [decide_eq_false (show ¬ 4096 ≤ U (t >>> x + 1#64 - b >>> x) by omega)]; simp, by (repeat (first | with_reducible exact Below.refl _ _ | with_reducible assumption | with_reducible refine below_drewN ?_ _ | with_reducible refine Below.drew ?_ | with_reducible refine below_alloc ?_ _ | (with_reducible refine Below.setCell ?_ (by first | (simp; done) | omega | (simp; omega)) _) | with_reducible refine belows ?_ (by assumption)))⟩
  · have he : rkEnd t x = t >>> x := by unfold rkEnd; rw [if_neg h]
    have h' : U t ≤ U ((t >>> x) <<< x) := by omega
    unfold rkN
    rw [he]
    clear he h
    go_enter Try.func41, Try.ntmps41
    go_wp2_with (go_at_call 42; (with_reducible refine (ce _).mono ?_); rintro e w' ⟨rfl, rfl⟩)
    · refine bodyPost_ret (results_ct [.int .u64 (U ((b >>> x) <<< x)), .int .u64 (U ((t >>> x) <<< x))] (.bool (decide (U (t >>> x - b >>> x) < 8192))) Try.results41 rfl rfl ?_ Try.underlying34 rfl (by kernel_rfl)) rfl ?_
      · (first | (go_simp; done) | (go_simp; (simp [↓IntWalk.iteOmega]; done)) | (go_simp; intros; omega) | (go_simp; simp [↓IntWalk.iteOmega]; intros; omega))
      · have g : 4096 ≤ U (t >>> x - b >>> x) := by with_reducible assumption
        exact ⟨by simp [g], by (repeat (first | with_reducible exact Below.refl _ _ | with_reducible assumption | with_reducible refine below_drewN ?_ _ | with_reducible refine Below.drew ?_ | with_reducible refine below_alloc ?_ _ | (with_reducible refine Below.setCell ?_ (by first | (simp; done) | omega | (simp; omega)) _) | with_reducible refine belows ?_ (by assumption)))⟩
    · refine bodyPost_ret (results_ct [.int .u64 (U ((b >>> x) <<< x)), .int .u64 (U ((t >>> x) <<< x))] (.bool false) Try.results41 rfl rfl ?_ Try.underlying34 rfl (by kernel_rfl)) rfl ?_
      · (first | (go_simp; done) | (go_simp; (simp [↓IntWalk.iteOmega]; done)) | (go_simp; intros; omega) | (go_simp; simp [↓IntWalk.iteOmega]; intros; omega))
      · have g : U (t >>> x - b >>> x) < 4096 := by with_reducible assumption
        exact ⟨by rw [decide_eq_false (show ¬ 4096 ≤ U (t >>> x - b >>> x) by omega)]; simp, by (repeat (first | with_reducible exact Below.refl _ _ | with_reducible assumption | with_reducible refine below_drewN ?_ _ | with_reducible refine Below.drew ?_ | with_reducible refine below_alloc ?_ _ | (with_reducible refine Below.setCell ?_ (by first | (simp; done) | omega | (simp; omega)) _) | with_reducible refine belows ?_ (by assumption)))⟩
/-! What the document keeps is what is kept. -/
theorem hi_cases (t x : Nat) : hiN t x = if t % 2 ^ x = 0 then t / 2 ^ x else t / 2 ^ x + 1 := by
  have hq := pow_pos' x
  have hx' := Nat.div_add_mod t (2 ^ x)
  have hl := Nat.mod_lt t hq
  rw [Nat.mul_comm] at hx'
  by_cases h : t % 2 ^ x = 0
  · rw [if_pos h]
    have e : t = t / 2 ^ x * 2 ^ x := by omega
    conv => lhs; rw [e, hi_of_mul]
  · rw [if_neg h]
    unfold hiN
    have e0 : (t / 2 ^ x + 1) * 2 ^ x = t / 2 ^ x * 2 ^ x + 2 ^ x := by rw [Nat.add_mul, Nat.one_mul]
    have e2 : t + (2 ^ x - 1) = 2 ^ x * (t / 2 ^ x + 1) + (t % 2 ^ x - 1) := by rw [Nat.mul_comm (2 ^ x) (t / 2 ^ x + 1), e0]; omega
    rw [e2, Nat.mul_add_div hq, Nat.div_eq_of_lt (show t % 2 ^ x - 1 < 2 ^ x by omega), Nat.add_zero]
theorem floor_N (t : BitVec 64) (x : Nat) : ((t >>> x) <<< x).toNat = t.toNat / 2 ^ x * 2 ^ x := by
  have h1 := Nat.div_mul_le_self t.toNat (2 ^ x)
  have h2 := t.isLt
  rw [BitVec.toNat_shiftLeft, BitVec.toNat_ushiftRight, Nat.shiftRight_eq_div_pow, Nat.shiftLeft_eq, Nat.mod_eq_of_lt (by omega)]
theorem rkEnd_N (t : BitVec 64) (x : Nat) (ht : t.toNat ≤ 281474976710656) : (rkEnd t x).toNat = hiN t.toNat x := by
  have hx' := Nat.div_add_mod t.toNat (2 ^ x)
  rw [Nat.mul_comm] at hx'
  have h1 : (t >>> x).toNat = t.toNat / 2 ^ x := by rw [BitVec.toNat_ushiftRight, Nat.shiftRight_eq_div_pow]
  have h2 := Nat.div_le_self t.toNat (2 ^ x)
  rw [hi_cases]
  unfold rkEnd
  by_cases h : t.toNat % 2 ^ x = 0
  · rw [if_pos h, if_neg (by unfold U; rw [floor_N]; omega), h1]
  · rw [if_neg h, if_pos (by unfold U; rw [floor_N]; omega), BitVec.toNat_add, h1]
    simp only [show (1#64).toNat = 1 from rfl]
    omega
theorem rkN_N {b t : BitVec 64} (h : mayS b t = true) (x : Nat) : (rkN b t x).toNat = stN b.toNat t.toNat x := by
  obtain ⟨h1, h2⟩ := mayS_true h
  have h3 := lo_le_hi h1 x
  have h4 : (b >>> x).toNat = loN b.toNat x := by rw [BitVec.toNat_ushiftRight, Nat.shiftRight_eq_div_pow]; rfl
  unfold rkN
  rw [BitVec.toNat_sub_of_le (by rw [BitVec.le_def, rkEnd_N t x h2, h4]; exact h3), rkEnd_N t x h2, h4]
  rfl
theorem rk_no {b t : BitVec 64} (h : mayS b t = true) (x : Nat) (hx : x < kX b t) : (decide (4096 ≤ U (rkN b t x)) && decide (U (rkN b t x) < 8192)) = false := by
  obtain ⟨h1, h2⟩ := mayS_true h
  have hn : ¬ t.toNat - b.toNat < 4096 := fun c => by
    have := exp_small c
    unfold kX at hx
    omega
  have h3 := (exp_spec h1 (by omega)).2.2 x hx
  rw [decide_eq_false (show ¬ U (rkN b t x) < 8192 by unfold U; rw [rkN_N h x]; omega)]
  simp
theorem rk_yes {b t : BitVec 64} (h : mayS b t = true) (hn : ¬ t.toNat - b.toNat < 4096) : (decide (4096 ≤ U (rkN b t (kX b t))) && decide (U (rkN b t (kX b t)) < 8192)) = true ∧ (b >>> kX b t) <<< kX b t = kB b t ∧ rkEnd t (kX b t) <<< kX b t = kT b t := by
  obtain ⟨h1, h2⟩ := mayS_true h
  obtain ⟨s1, s2, s3⟩ := exp_spec h1 (by omega)
  refine ⟨?_, BitVec.eq_of_toNat_eq ?_, BitVec.eq_of_toNat_eq ?_⟩
  · have := rkN_N h (kX b t)
    unfold U kX at *
    rw [decide_eq_true (by omega), decide_eq_true (by omega)]
    rfl
  · rw [floor_N, kB_nat h]; rfl
  · have := kt_48 h1 h2
    rw [BitVec.toNat_shiftLeft, rkEnd_N t _ h2, kT_nat h, Nat.shiftLeft_eq]
    unfold ktN kX at *
    rw [Nat.mod_eq_of_lt (by omega)]
end Go.Proofs.Ytikpkoeeinkecaa
