
/-
  The document's answers for what may be done with capabilities.
-/
import Derived.Test.YtpinjngmlelleaaRefPerm
namespace Go.Proofs.Ytpinjngmlelleaa
open Go Go.RowKit
set_option linter.unusedVariables false
set_option linter.unusedSimpArgs false


theorem sub_part (m x : BitVec 64) (h : ∀ j, j < 64 → x.getLsbD j = true → m.getLsbD j = true) : m - x = m &&& ~~~ x := by
  have e : (m &&& ~~~ x) + x = m := by
    rw [add_apart _ _ (fun j hj => by
      rw [BitVec.getLsbD_and, BitVec.getLsbD_not, decide_eq_true hj, Bool.true_and]
      cases x.getLsbD j <;> simp)]
    apply ext64
    intro j hj
    rw [BitVec.getLsbD_or, BitVec.getLsbD_and, BitVec.getLsbD_not, decide_eq_true hj, Bool.true_and]
    have := h j hj
    cases hx : x.getLsbD j
    · simp
    · rw [this hx]; rfl
  calc m - x = ((m &&& ~~~ x) + x) - x := by rw [e]
    _ = m &&& ~~~ x := BitVec.add_sub_cancel _ _
theorem get_bit (x : BitVec 64) (a n : Nat) (h : a + n ≤ 64) (j : Nat) : (getF x a n).getLsbD j = (decide (j < n) && x.getLsbD (a + j)) := by
  rw [get_lsb _ _ _ ((mayF_iff _ _).2 (by omega))]
  simp
theorem P_bit (m : BitVec 64) (j : Nat) : (mP m).getLsbD j = (decide (j < 9) && m.getLsbD (32 + j)) := get_bit m 32 9 (by omega) j
theorem Y_bit (m : BitVec 64) (j : Nat) : (mY m).getLsbD j = (decide (j < 12) && m.getLsbD (48 + j)) := get_bit m 48 12 (by omega) j
def andM (m n : BitVec 64) : BitVec 64 := m &&& ~~~ ((mP m &&& ~~~ n) <<< 32)
theorem and_sub (m n : BitVec 64) : m - (mP m &&& ~~~ n) <<< 32 = andM m n := by
  unfold andM
  apply sub_part
  intro j hj h
  rw [BitVec.getLsbD_shiftLeft, BitVec.getLsbD_and, P_bit] at h
  simp only [Bool.and_eq_true, Bool.not_eq_true', decide_eq_true_eq, decide_eq_false_iff_not] at h
  obtain ⟨⟨-, h1⟩, ⟨h2, h3⟩, -⟩ := h
  rw [show 32 + (j - 32) = j by omega] at h3
  exact h3
theorem tyM_sum (m t : BitVec 64) (ht : t.toNat < 4096) : m - mY m <<< 48 + t <<< 48 = tyM m t := by
  have hs : m - mY m <<< 48 = m &&& ~~~ (mY m <<< 48) := sub_part _ _ (by
    intro j hj h
    rw [BitVec.getLsbD_shiftLeft, Y_bit] at h
    simp only [Bool.and_eq_true, Bool.not_eq_true', decide_eq_true_eq, decide_eq_false_iff_not] at h
    obtain ⟨⟨-, h1⟩, h2, h3⟩ := h
    rw [show 48 + (j - 48) = j by omega] at h3
    exact h3)
  have sl : ∀ (z : BitVec 64) (j : Nat), j < 64 → (z <<< 48).getLsbD j = (decide (48 ≤ j) && z.getLsbD (j - 48)) := by
    intro z j hj
    rw [BitVec.getLsbD_shiftLeft, decide_eq_true hj, Bool.true_and]
    by_cases c : j < 48
    · rw [decide_eq_true c, decide_eq_false (show ¬ 48 ≤ j by omega)]; rfl
    · rw [decide_eq_false c, decide_eq_true (show 48 ≤ j by omega)]; rfl
  have t12 : ∀ j, 12 ≤ j → t.getLsbD j = false := fun j hj => high_lsb t 12 j ht hj
  unfold tyM
  rw [hs, add_apart _ _ (fun j hj => by
    rw [BitVec.getLsbD_and, BitVec.getLsbD_not, decide_eq_true hj, Bool.true_and, sl _ _ hj, sl _ _ hj, Y_bit]
    by_cases c : 48 ≤ j
    · by_cases d : j - 48 < 12
      · rw [show 48 + (j - 48) = j by omega, decide_eq_true c, decide_eq_true d]
        cases m.getLsbD j <;> simp
      · rw [t12 _ (by omega)]; simp
    · rw [decide_eq_false c]; simp)]
  apply ext64
  intro j hj
  rw [BitVec.getLsbD_or, BitVec.getLsbD_xor, BitVec.getLsbD_and, BitVec.getLsbD_not, decide_eq_true hj, Bool.true_and, sl _ _ hj, sl _ _ hj, sl _ _ hj, BitVec.getLsbD_xor, Y_bit]
  by_cases c : 48 ≤ j
  · by_cases d : j - 48 < 12
    · rw [show 48 + (j - 48) = j by omega, decide_eq_true c, decide_eq_true d]
      cases m.getLsbD j <;> cases t.getLsbD (j - 48) <;> rfl
    · rw [t12 _ (by omega), decide_eq_false d, decide_eq_true c]
      cases m.getLsbD j <;> rfl
  · rw [decide_eq_false c]
    cases m.getLsbD j <;> rfl

set_option maxHeartbeats 4000000 in
set_option maxRecDepth 100000 in
theorem rlives_any (g : Bool) (m a : BitVec 64) (w : World) : Calls Try.prog 60 #[.agg #[.bool g, .int .u64 (U m), .int .u64 (U a)]] w fun r w' => r = .returned (.bool (g && rtF m a)) ∧ Below w.heap.size w w' := by
  cases g
  all_goals
    go_enter Try.func60, Try.ntmps60
    go_wp2_with (first | (go_at_call 85; (with_reducible refine (rright_any _ _ _ _).mono ?_); rintro e w' ⟨rfl, hbl⟩; obtain ⟨hcw, hfw, hsw⟩ := below_ifs hbl; (try simp only [World.size_alloc, World.size_setCell, World.size_drew, size_drewN_] at hcw hfw hsw)))
    go_ret
    exact ⟨ret_bool (by simp), by (repeat (first | with_reducible exact Below.refl _ _ | with_reducible assumption | with_reducible refine below_drewN ?_ _ | with_reducible refine Below.drew ?_ | with_reducible refine below_alloc ?_ _ | (with_reducible refine Below.setCell ?_ (by first | (simp; done) | omega | (simp; omega)) _) | with_reducible refine belows ?_ (by assumption)))⟩

set_option maxHeartbeats 4000000 in
set_option maxRecDepth 100000 in
theorem rLives_any (g : Bool) (m a : BitVec 64) (w : World) : Calls Try.prog 26 #[.agg #[.bool g, .int .u64 (U m), .int .u64 (U a)]] w fun r w' => r = .returned (.bool (g && rtF m a)) ∧ Below w.heap.size w w' := by
  go_enter Try.func26, Try.ntmps26
  go_wp2_with (first | (go_at_call 60; (with_reducible refine (rlives_any _ _ _ _).mono ?_); rintro e w' ⟨rfl, hbl⟩; obtain ⟨hcw, hfw, hsw⟩ := below_ifs hbl; (try simp only [World.size_alloc, World.size_setCell, World.size_drew, size_drewN_] at hcw hfw hsw)))
  go_ret
  exact ⟨ret_bool (by simp), by (repeat (first | with_reducible exact Below.refl _ _ | with_reducible assumption | with_reducible refine below_drewN ?_ _ | with_reducible refine Below.drew ?_ | with_reducible refine below_alloc ?_ _ | (with_reducible refine Below.setCell ?_ (by first | (simp; done) | omega | (simp; omega)) _) | with_reducible refine belows ?_ (by assumption)))⟩

set_option maxHeartbeats 4000000 in
set_option maxRecDepth 100000 in
theorem rkind_any (g : Bool) (m a : BitVec 64) (w : World) : Calls Try.prog 65 #[.agg #[.bool g, .int .u64 (U m), .int .u64 (U a)]] w fun r w' => r = .returned (.int .u64 (U (mY m))) ∧ Below w.heap.size w w' := by
  go_enter Try.func65, Try.ntmps65
  go_wp2_with fail
  go_ret
  exact ⟨by first | rfl | (rw [← rem_Y]; rfl) | (simp [rem_Y]), by (repeat (first | with_reducible exact Below.refl _ _ | with_reducible assumption | with_reducible refine below_drewN ?_ _ | with_reducible refine Below.drew ?_ | with_reducible refine below_alloc ?_ _ | (with_reducible refine Below.setCell ?_ (by first | (simp; done) | omega | (simp; omega)) _) | with_reducible refine belows ?_ (by assumption)))⟩

set_option maxHeartbeats 4000000 in
set_option maxRecDepth 100000 in
theorem rperms_any (g : Bool) (m a : BitVec 64) (w : World) : Calls Try.prog 48 #[.agg #[.bool g, .int .u64 (U m), .int .u64 (U a)]] w fun r w' => r = .returned (.int .u64 (U (mP m))) ∧ Below w.heap.size w w' := by
  go_enter Try.func48, Try.ntmps48
  go_wp2_with fail
  go_ret
  exact ⟨by first | rfl | (rw [← rem_P]; rfl) | (simp [rem_P]), by (repeat (first | with_reducible exact Below.refl _ _ | with_reducible assumption | with_reducible refine below_drewN ?_ _ | with_reducible refine Below.drew ?_ | with_reducible refine below_alloc ?_ _ | (with_reducible refine Below.setCell ?_ (by first | (simp; done) | omega | (simp; omega)) _) | with_reducible refine belows ?_ (by assumption)))⟩

set_option maxHeartbeats 4000000 in
set_option maxRecDepth 100000 in
theorem risopen_any (g : Bool) (m a : BitVec 64) (w : World) : Calls Try.prog 42 #[.agg #[.bool g, .int .u64 (U m), .int .u64 (U a)]] w fun r w' => r = .returned (.bool (opF g m a)) ∧ Below w.heap.size w w' := by
  have cl : ∀ w : World, Calls Try.prog 60 #[.agg #[.bool g, .int .u64 (U m), .int .u64 (U a)]] w fun r w' => r = .returned (.bool (g && rtF m a)) ∧ Below w.heap.size w w' := fun w => rlives_any g m a w
  unfold opF
  generalize (g && rtF m a) = l at cl ⊢
  cases l
  all_goals
    go_enter Try.func42, Try.ntmps42
    go_wp2_with (first | (go_at_call 60; (with_reducible refine (cl _).mono ?_); rintro e w' ⟨rfl, hbl⟩; obtain ⟨hcw, hfw, hsw⟩ := below_ifs hbl; (try simp only [World.size_alloc, World.size_setCell, World.size_drew, size_drewN_] at hcw hfw hsw)) | (go_at_call 65; (with_reducible refine (rkind_any _ _ _ _).mono ?_); rintro e w' ⟨rfl, hbl⟩; obtain ⟨hcw, hfw, hsw⟩ := below_ifs hbl; (try simp only [World.size_alloc, World.size_setCell, World.size_drew, size_drewN_] at hcw hfw hsw)))
    go_ret
    exact ⟨ret_bool (by simp), by (repeat (first | with_reducible exact Below.refl _ _ | with_reducible assumption | with_reducible refine below_drewN ?_ _ | with_reducible refine Below.drew ?_ | with_reducible refine below_alloc ?_ _ | (with_reducible refine Below.setCell ?_ (by first | (simp; done) | omega | (simp; omega)) _) | with_reducible refine belows ?_ (by assumption)))⟩
theorem rclear_any (g : Bool) (m a : BitVec 64) (w : World) : Calls Try.prog 11 #[.agg #[.bool g, .int .u64 (U m), .int .u64 (U a)]] w fun r w' => r = .returned (.agg #[.bool false, .int .u64 (U m), .int .u64 (U a)]) ∧ Below w.heap.size w w' := by
  go_enter Try.func11, Try.ntmps11
  go_wp2_with fail
  refine ret_c Try.results11 rfl rfl Try.underlying25 rfl (by kernel_rfl) (by (repeat (first | with_reducible exact Below.refl _ _ | with_reducible assumption | with_reducible refine below_drewN ?_ _ | with_reducible refine Below.drew ?_ | with_reducible refine below_alloc ?_ _ | (with_reducible refine Below.setCell ?_ (by first | (simp; done) | omega | (simp; omega)) _) | with_reducible refine belows ?_ (by assumption)))) ?_
  (first | (first | (go_simp; done) | (go_simp; (simp [↓IntWalk.iteOmega]; done)) | (go_simp; intros; omega) | (go_simp; simp [↓IntWalk.iteOmega]; intros; omega)) | (go_simp; simp [*]) | (simp [*]))

set_option maxHeartbeats 4000000 in
set_option maxRecDepth 100000 in
theorem raddress_any (g : Bool) (m a n : BitVec 64) (w : World) : Calls Try.prog 13 #[.agg #[.bool g, .int .u64 (U m), .int .u64 (U a)], .int .u64 (U n)] w fun r w' => r = .returned (.agg #[.bool (opF g m a && (lkOk m n && (lkB m n == lkB m a && lkT m n == lkT m a))), .int .u64 (U m), .int .u64 (U n)]) ∧ Below w.heap.size w w' := by
  have co : ∀ w : World, Calls Try.prog 42 #[.agg #[.bool g, .int .u64 (U m), .int .u64 (U a)]] w fun r w' => r = .returned (.bool (opF g m a)) ∧ Below w.heap.size w w' := fun w => risopen_any g m a w
  have ck : ∀ w : World, Calls Try.prog 41 #[.agg #[.bool false, .int .u64 (U m), .int .u64 (U n)]] w fun r w' => r = .returned (.tuple #[.agg #[.int .u64 (U (lkB m n)), .int .u64 (U (lkT m n)), .int .u64 (U (mP m)), .int .u64 (U (mY m))], .bool (lkOk m n)]) ∧ Below w.heap.size w w' := fun w => rlook_any false m n w
  rw [Bool.beq_comm (a := lkB m n), Bool.beq_comm (a := lkT m n)]
  generalize opF g m a = o at co ⊢
  generalize lkOk m n = k at ck ⊢
  cases o
  all_goals try cases k
  all_goals
    go_enter Try.func13, Try.ntmps13
    go_wp2_with (first | (go_at_call 42; (with_reducible refine (co _).mono ?_); rintro e w' ⟨rfl, hbl⟩; obtain ⟨hcw, hfw, hsw⟩ := below_ifs hbl; (try simp only [World.size_alloc, World.size_setCell, World.size_drew, size_drewN_] at hcw hfw hsw)) | (go_at_call 41; (with_reducible refine (ck _).mono ?_); rintro e w' ⟨rfl, hbl⟩; obtain ⟨hcw, hfw, hsw⟩ := below_ifs hbl; (try simp only [World.size_alloc, World.size_setCell, World.size_drew, size_drewN_] at hcw hfw hsw)) | (go_at_call 41; (with_reducible refine (rlook_any _ _ _ _).mono ?_); rintro e w' ⟨rfl, hbl⟩; obtain ⟨hcw, hfw, hsw⟩ := below_ifs hbl; (try simp only [World.size_alloc, World.size_setCell, World.size_drew, size_drewN_] at hcw hfw hsw)))
    refine ret_c Try.results13 rfl rfl Try.underlying25 rfl (by kernel_rfl) (by (repeat (first | with_reducible exact Below.refl _ _ | with_reducible assumption | with_reducible refine below_drewN ?_ _ | with_reducible refine Below.drew ?_ | with_reducible refine below_alloc ?_ _ | (with_reducible refine Below.setCell ?_ (by first | (simp; done) | omega | (simp; omega)) _) | with_reducible refine belows ?_ (by assumption)))) ?_
    (first | (first | (go_simp; done) | (go_simp; (simp [↓IntWalk.iteOmega]; done)) | (go_simp; intros; omega) | (go_simp; simp [↓IntWalk.iteOmega]; intros; omega)) | (go_simp; simp [*]) | (simp [*]))

set_option maxHeartbeats 4000000 in
set_option maxRecDepth 100000 in
theorem rand_any (g : Bool) (m a n : BitVec 64) (w : World) : Calls Try.prog 18 #[.agg #[.bool g, .int .u64 (U m), .int .u64 (U a)], .int .u64 (U n)] w fun r w' => r = .returned (.agg #[.bool (opF g m a), .int .u64 (U (andM m n)), .int .u64 (U a)]) ∧ Below w.heap.size w w' := by
  rw [← and_sub]
  go_enter Try.func18, Try.ntmps18
  go_wp2_with (first | (go_at_call 48; (with_reducible refine (rperms_any _ _ _ _).mono ?_); rintro e w' ⟨rfl, hbl⟩; obtain ⟨hcw, hfw, hsw⟩ := below_ifs hbl; (try simp only [World.size_alloc, World.size_setCell, World.size_drew, size_drewN_] at hcw hfw hsw)))
  refine wp_region_below_tail 10 (by kernel_rfl) (by kernel_rfl) (fun hcr hfr => ?_)
  (try simp only [World.size_alloc, World.size_setCell, World.size_drew, size_drewN_] at hcr hfr)
  simp only [List.take_succ_cons, List.take_zero, List.drop_succ_cons, List.drop_zero]
  repeat (go_big_quiet_step ((first | (go_at_call 42; first | with_reducible exact Calls.regrown_of (risopen_any _ _ _ _) | with_reducible exact regrown_k (risopen_any _ _ _ _) | with_reducible exact regrown_1 (risopen_any _ _ _ _) | with_reducible exact regrown_a (risopen_any _ _ _ _)))))
  refine wpQuiet_nil ?_
  intro w' hbl
  clear hcr hfr
  obtain ⟨hcw, hfw, hsw⟩ := below_ifs hbl; (try simp only [World.size_alloc, World.size_setCell, World.size_drew, size_drewN_] at hcw hfw hsw)
  go_wp2_with fail
  refine ret_c Try.results18 rfl rfl Try.underlying25 rfl (by kernel_rfl) (by (repeat (first | with_reducible exact Below.refl _ _ | with_reducible assumption | with_reducible refine below_drewN ?_ _ | with_reducible refine Below.drew ?_ | with_reducible refine below_alloc ?_ _ | (with_reducible refine Below.setCell ?_ (by first | (simp; done) | omega | (simp; omega)) _) | with_reducible refine belows ?_ (by assumption)))) ?_
  (first | (first | (go_simp; done) | (go_simp; (simp [↓IntWalk.iteOmega]; done)) | (go_simp; intros; omega) | (go_simp; simp [↓IntWalk.iteOmega]; intros; omega)) | (go_simp; simp [*]) | (simp [*]))

set_option maxHeartbeats 4000000 in
set_option maxRecDepth 100000 in
theorem rtyped_any (g : Bool) (m a t : BitVec 64) (ht : t.toNat < 4096) (w : World) : Calls Try.prog 64 #[.agg #[.bool g, .int .u64 (U m), .int .u64 (U a)], .int .u64 (U t)] w fun r w' => r = .returned (.agg #[.bool true, .int .u64 (U (tyM m t)), .int .u64 (U a)]) ∧ Below w.heap.size w w' := by
  rw [← tyM_sum m t ht]
  clear ht
  go_enter Try.func64, Try.ntmps64
  go_wp2_with fail
  refine wp_region_below_tail 12 (by kernel_rfl) (by kernel_rfl) (fun hcr hfr => ?_)
  (try simp only [World.size_alloc, World.size_setCell, World.size_drew, size_drewN_] at hcr hfr)
  simp only [List.take_succ_cons, List.take_zero, List.drop_succ_cons, List.drop_zero]
  repeat (go_big_quiet_step ((first | (go_at_call 65; first | with_reducible exact Calls.regrown_of (rkind_any _ _ _ _) | with_reducible exact regrown_k (rkind_any _ _ _ _) | with_reducible exact regrown_1 (rkind_any _ _ _ _) | with_reducible exact regrown_a (rkind_any _ _ _ _)))))
  refine wpQuiet_nil ?_
  intro w' hbl
  clear hcr hfr
  obtain ⟨hcw, hfw, hsw⟩ := below_ifs hbl; (try simp only [World.size_alloc, World.size_setCell, World.size_drew, size_drewN_] at hcw hfw hsw)
  go_wp2_with fail
  refine ret_c Try.results64 rfl rfl Try.underlying25 rfl (by kernel_rfl) (by (repeat (first | with_reducible exact Below.refl _ _ | with_reducible assumption | with_reducible refine below_drewN ?_ _ | with_reducible refine Below.drew ?_ | with_reducible refine below_alloc ?_ _ | (with_reducible refine Below.setCell ?_ (by first | (simp; done) | omega | (simp; omega)) _) | with_reducible refine belows ?_ (by assumption)))) ?_
  (first | (first | (go_simp; done) | (go_simp; (simp [↓IntWalk.iteOmega]; done)) | (go_simp; intros; omega) | (go_simp; simp [↓IntWalk.iteOmega]; intros; omega)) | (go_simp; simp [*]) | (simp [*]))

set_option maxHeartbeats 4000000 in
set_option maxRecDepth 100000 in
theorem rmay6_any (g : Bool) (m a q : BitVec 64) (w : World) : Calls Try.prog 63 #[.agg #[.bool g, .int .u64 (U m), .int .u64 (U a)], .int .u64 (U q)] w fun r w' => r = .returned (.bool (hasF g m a q)) ∧ Below w.heap.size w w' := by
  have co : ∀ w : World, Calls Try.prog 42 #[.agg #[.bool g, .int .u64 (U m), .int .u64 (U a)]] w fun r w' => r = .returned (.bool (opF g m a)) ∧ Below w.heap.size w w' := fun w => risopen_any g m a w
  have cw : ∀ w : World, Calls Try.prog 86 #[.int .u64 (U q), .int .u64 (U (mP m))] w fun r w' => r = .returned (.bool (q &&& ~~~ mP m == 0#64)) ∧ w = w' := fun w => rwithin4_any q (mP m) w
  unfold hasF
  generalize opF g m a = o at co ⊢
  generalize (q &&& ~~~ mP m == 0#64) = k at cw ⊢
  cases h3 : decide (U (lkB m a) ≤ U a)
  all_goals cases o
  all_goals try cases k
  all_goals
    go_enter Try.func63, Try.ntmps63
    go_wp2_with (first | (go_at_call 42; (with_reducible refine (co _).mono ?_); rintro e w' ⟨rfl, hbl⟩; obtain ⟨hcw, hfw, hsw⟩ := below_ifs hbl; (try simp only [World.size_alloc, World.size_setCell, World.size_drew, size_drewN_] at hcw hfw hsw)) | (go_at_call 41; (with_reducible refine (rlook_any _ _ _ _).mono ?_); rintro e w' ⟨rfl, hbl⟩; obtain ⟨hcw, hfw, hsw⟩ := below_ifs hbl; (try simp only [World.size_alloc, World.size_setCell, World.size_drew, size_drewN_] at hcw hfw hsw)) | (go_at_call 86; (with_reducible refine (cw _).mono ?_); rintro e w' ⟨rfl, rfl⟩))
    go_ret
    exact ⟨ret_bool (by simp), by (repeat (first | with_reducible exact Below.refl _ _ | with_reducible assumption | with_reducible refine below_drewN ?_ _ | with_reducible refine Below.drew ?_ | with_reducible refine below_alloc ?_ _ | (with_reducible refine Below.setCell ?_ (by first | (simp; done) | omega | (simp; omega)) _) | with_reducible refine belows ?_ (by assumption)))⟩

end Go.Proofs.Ytpinjngmlelleaa
