
/-
  What may be done with capabilities (algebra): sealing.
-/
import Derived.Test.YtpinjngmlelleaaAlgebra
namespace Go.Proofs.Ytpinjngmlelleaa
open Go Go.RowKit
set_option linter.unusedVariables false
set_option linter.unusedSimpArgs false


def sealF (g h : Bool) (m a n b : BitVec 64) : Bool := opF g m a && (hasF h n b 32#64 && (decide (16 ≤ U b) && decide (U b ≤ 4095)))

set_option maxHeartbeats 4000000 in
set_option maxRecDepth 100000 in
theorem seal_any (g h : Bool) (m a n b : BitVec 64) (w : World) : Calls Try.prog 27 #[.agg #[.bool g, .int .u64 (U m), .int .u64 (U a)], .agg #[.bool h, .int .u64 (U n), .int .u64 (U b)]] w fun r w' => r = .returned (.agg #[.bool (sealF g h m a n b && g), .int .u64 (U (tyIf (sealF g h m a n b) m b)), .int .u64 (U a)]) ∧ Below w.heap.size w w' := by
  have cf : ∀ w : World, Calls Try.prog 39 #[.agg #[.bool g, .int .u64 (U m), .int .u64 (U a)]] w fun r w' => r = .returned (.agg #[.bool g, .int .u64 (U m), .int .u64 (U a), .int .u64 (U (lkB m a)), .int .u64 (U (lkT m a)), .int .u64 (U (mP m)), .int .u64 (U (mY m)), .bool (g && rtF m a)]) ∧ Below w.heap.size w w' := fun w => lof_any g m a w
  have co : ∀ w : World, Calls Try.prog 40 #[.agg #[.bool g, .int .u64 (U m), .int .u64 (U a), .int .u64 (U (lkB m a)), .int .u64 (U (lkT m a)), .int .u64 (U (mP m)), .int .u64 (U (mY m)), .bool (g && rtF m a)]] w fun r w' => r = .returned (.bool (opF g m a)) ∧ Below w.heap.size w w' := fun w => lopenF_any g m a w
  have ch : ∀ w : World, Calls Try.prog 39 #[.agg #[.bool h, .int .u64 (U n), .int .u64 (U b)]] w fun r w' => r = .returned (.agg #[.bool h, .int .u64 (U n), .int .u64 (U b), .int .u64 (U (lkB n b)), .int .u64 (U (lkT n b)), .int .u64 (U (mP n)), .int .u64 (U (mY n)), .bool (h && rtF n b)]) ∧ Below w.heap.size w w' := fun w => lof_any h n b w
  have cx : ∀ w : World, Calls Try.prog 62 #[.agg #[.bool h, .int .u64 (U n), .int .u64 (U b), .int .u64 (U (lkB n b)), .int .u64 (U (lkT n b)), .int .u64 (U (mP n)), .int .u64 (U (mY n)), .bool (h && rtF n b)], .int .u64 32] w fun r w' => r = .returned (.bool (hasF h n b 32#64)) ∧ Below w.heap.size w w' := fun w => lhasF_any h n b 32#64 w
  have ct : ∀ (k : Bool) (w : World), Calls Try.prog 61 #[.agg #[.bool g, .int .u64 (U m), .int .u64 (U a), .int .u64 (U (lkB m a)), .int .u64 (U (lkT m a)), .int .u64 (U (mP m)), .int .u64 (U (mY m)), .bool (g && rtF m a)], .bool k, .int .u64 (U b)] w fun r w' => r = .returned (.agg #[.bool (k && g), .int .u64 (U (tyIf k m b)), .int .u64 (U a)]) ∧ Below w.heap.size w w' := fun k w => ltyped_any g _ k m a _ _ _ _ b w
  unfold sealF
  generalize (g && rtF m a) = l at cf co ct
  generalize (h && rtF n b) = l' at ch cx
  generalize opF g m a = o at co ⊢
  generalize hasF h n b 32#64 = x at cx ⊢
  cases h3 : decide (16 ≤ U b)
  all_goals try cases h4 : decide (U b ≤ 4095)
  all_goals cases o
  all_goals try cases x
  all_goals
    go_enter Try.func27, Try.ntmps27
    go_wp2_with (first | (go_at_call 39; (with_reducible refine (cf _).mono ?_); rintro e w' ⟨rfl, hbl⟩; obtain ⟨hcw, hfw, hsw⟩ := below_ifs hbl; (try simp only [World.size_alloc, World.size_setCell, World.size_drew, size_drewN_] at hcw hfw hsw)))
    refine wp_region_below_tail 21 (by kernel_rfl) (by kernel_rfl) (fun hcr hfr => ?_)
    (try simp only [World.size_alloc, World.size_setCell, World.size_drew, size_drewN_] at hcr hfr)
    simp only [List.take_succ_cons, List.take_zero, List.drop_succ_cons, List.drop_zero]
    repeat (go_big_quiet_step ((first | (go_at_call 39; first | with_reducible exact Calls.regrown_of (ch _) | with_reducible exact regrown_k (ch _) | with_reducible exact regrown_1 (ch _) | with_reducible exact regrown_a (ch _)) | (go_at_call 40; first | with_reducible exact Calls.regrown_of (co _) | with_reducible exact regrown_k (co _) | with_reducible exact regrown_1 (co _) | with_reducible exact regrown_a (co _)) | (go_at_call 62; first | with_reducible exact Calls.regrown_of (cx _) | with_reducible exact regrown_k (cx _) | with_reducible exact regrown_1 (cx _) | with_reducible exact regrown_a (cx _)) | (go_at_call 61; first | with_reducible exact Calls.regrown_of (ct _ _) | with_reducible exact regrown_k (ct _ _) | with_reducible exact regrown_1 (ct _ _) | with_reducible exact regrown_a (ct _ _)))))
    refine wpQuiet_nil ?_
    intro w' hbl
    clear hcr hfr
    obtain ⟨hcw, hfw, hsw⟩ := below_ifs hbl; (try simp only [World.size_alloc, World.size_setCell, World.size_drew, size_drewN_] at hcw hfw hsw)
    go_wp2_with fail
    refine ret_c Try.results27 rfl rfl Try.underlying24 rfl (by kernel_rfl) (by (repeat (first | with_reducible exact Below.refl _ _ | with_reducible assumption | with_reducible refine below_drewN ?_ _ | with_reducible refine Below.drew ?_ | with_reducible refine below_alloc ?_ _ | (with_reducible refine Below.setCell ?_ (by first | (simp; done) | omega | (simp; omega)) _) | with_reducible refine belows ?_ (by assumption)))) ?_
    (first | (first | (go_simp; done) | (go_simp; (simp [↓IntWalk.iteOmega]; done)) | (go_simp; intros; omega) | (go_simp; simp [↓IntWalk.iteOmega]; intros; omega)) | (go_simp; simp [*]) | (simp [*]))

def unsealF (g h : Bool) (m a n b : BitVec 64) : Bool := (g && rtF m a) && (decide (16 ≤ U (mY m)) && (hasF h n b 64#64 && (b == mY m)))

set_option maxHeartbeats 4000000 in
set_option maxRecDepth 100000 in
theorem unseal_any (g h : Bool) (m a n b : BitVec 64) (w : World) : Calls Try.prog 29 #[.agg #[.bool g, .int .u64 (U m), .int .u64 (U a)], .agg #[.bool h, .int .u64 (U n), .int .u64 (U b)]] w fun r w' => r = .returned (.agg #[.bool (unsealF g h m a n b && g), .int .u64 (U (tyIf (unsealF g h m a n b) m 0#64)), .int .u64 (U a)]) ∧ Below w.heap.size w w' := by
  have cf : ∀ w : World, Calls Try.prog 39 #[.agg #[.bool g, .int .u64 (U m), .int .u64 (U a)]] w fun r w' => r = .returned (.agg #[.bool g, .int .u64 (U m), .int .u64 (U a), .int .u64 (U (lkB m a)), .int .u64 (U (lkT m a)), .int .u64 (U (mP m)), .int .u64 (U (mY m)), .bool (g && rtF m a)]) ∧ Below w.heap.size w w' := fun w => lof_any g m a w
  have ch : ∀ w : World, Calls Try.prog 39 #[.agg #[.bool h, .int .u64 (U n), .int .u64 (U b)]] w fun r w' => r = .returned (.agg #[.bool h, .int .u64 (U n), .int .u64 (U b), .int .u64 (U (lkB n b)), .int .u64 (U (lkT n b)), .int .u64 (U (mP n)), .int .u64 (U (mY n)), .bool (h && rtF n b)]) ∧ Below w.heap.size w w' := fun w => lof_any h n b w
  have cx : ∀ w : World, Calls Try.prog 62 #[.agg #[.bool h, .int .u64 (U n), .int .u64 (U b), .int .u64 (U (lkB n b)), .int .u64 (U (lkT n b)), .int .u64 (U (mP n)), .int .u64 (U (mY n)), .bool (h && rtF n b)], .int .u64 64] w fun r w' => r = .returned (.bool (hasF h n b 64#64)) ∧ Below w.heap.size w w' := fun w => lhasF_any h n b 64#64 w
  have ct : ∀ (k : Bool) (w : World), Calls Try.prog 61 #[.agg #[.bool g, .int .u64 (U m), .int .u64 (U a), .int .u64 (U (lkB m a)), .int .u64 (U (lkT m a)), .int .u64 (U (mP m)), .int .u64 (U (mY m)), .bool (g && rtF m a)], .bool k, .int .u64 0] w fun r w' => r = .returned (.agg #[.bool (k && g), .int .u64 (U (tyIf k m 0#64)), .int .u64 (U a)]) ∧ Below w.heap.size w w' := fun k w => ltyped_any g _ k m a _ _ _ _ 0#64 w
  unfold unsealF
  generalize (g && rtF m a) = l at cf ct ⊢
  generalize (h && rtF n b) = l' at ch cx
  generalize hasF h n b 64#64 = x at cx ⊢
  cases h3 : decide (16 ≤ U (mY m))
  all_goals cases l
  all_goals try cases x
  all_goals
    go_enter Try.func29, Try.ntmps29
    go_wp2_with (first | (go_at_call 39; (with_reducible refine (cf _).mono ?_); rintro e w' ⟨rfl, hbl⟩; obtain ⟨hcw, hfw, hsw⟩ := below_ifs hbl; (try simp only [World.size_alloc, World.size_setCell, World.size_drew, size_drewN_] at hcw hfw hsw)))
    refine wp_region_below_tail 23 (by kernel_rfl) (by kernel_rfl) (fun hcr hfr => ?_)
    (try simp only [World.size_alloc, World.size_setCell, World.size_drew, size_drewN_] at hcr hfr)
    simp only [List.take_succ_cons, List.take_zero, List.drop_succ_cons, List.drop_zero]
    repeat (go_big_quiet_step ((first | (go_at_call 39; first | with_reducible exact Calls.regrown_of (ch _) | with_reducible exact regrown_k (ch _) | with_reducible exact regrown_1 (ch _) | with_reducible exact regrown_a (ch _)) | (go_at_call 62; first | with_reducible exact Calls.regrown_of (cx _) | with_reducible exact regrown_k (cx _) | with_reducible exact regrown_1 (cx _) | with_reducible exact regrown_a (cx _)) | (go_at_call 61; first | with_reducible exact Calls.regrown_of (ct _ _) | with_reducible exact regrown_k (ct _ _) | with_reducible exact regrown_1 (ct _ _) | with_reducible exact regrown_a (ct _ _)))))
    refine wpQuiet_nil ?_
    intro w' hbl
    clear hcr hfr
    obtain ⟨hcw, hfw, hsw⟩ := below_ifs hbl; (try simp only [World.size_alloc, World.size_setCell, World.size_drew, size_drewN_] at hcw hfw hsw)
    go_wp2_with fail
    refine ret_c Try.results29 rfl rfl Try.underlying24 rfl (by kernel_rfl) (by (repeat (first | with_reducible exact Below.refl _ _ | with_reducible assumption | with_reducible refine below_drewN ?_ _ | with_reducible refine Below.drew ?_ | with_reducible refine below_alloc ?_ _ | (with_reducible refine Below.setCell ?_ (by first | (simp; done) | omega | (simp; omega)) _) | with_reducible refine belows ?_ (by assumption)))) ?_
    (first | (first | (go_simp; done) | (go_simp; (simp [↓IntWalk.iteOmega]; done)) | (go_simp; intros; omega) | (go_simp; simp [↓IntWalk.iteOmega]; intros; omega)) | (go_simp; simp [*]) | (simp [*]))

def enterF (g : Bool) (m a : BitVec 64) : Bool := opF g m a && (4#64 &&& ~~~ mP m == 0#64)

set_option maxHeartbeats 4000000 in
set_option maxRecDepth 100000 in
theorem enter_any (g : Bool) (m a : BitVec 64) (w : World) : Calls Try.prog 31 #[.agg #[.bool g, .int .u64 (U m), .int .u64 (U a)]] w fun r w' => r = .returned (.agg #[.bool (enterF g m a && g), .int .u64 (U (tyIf (enterF g m a) m 1#64)), .int .u64 (U a)]) ∧ Below w.heap.size w w' := by
  have cf : ∀ w : World, Calls Try.prog 39 #[.agg #[.bool g, .int .u64 (U m), .int .u64 (U a)]] w fun r w' => r = .returned (.agg #[.bool g, .int .u64 (U m), .int .u64 (U a), .int .u64 (U (lkB m a)), .int .u64 (U (lkT m a)), .int .u64 (U (mP m)), .int .u64 (U (mY m)), .bool (g && rtF m a)]) ∧ Below w.heap.size w w' := fun w => lof_any g m a w
  have co : ∀ w : World, Calls Try.prog 40 #[.agg #[.bool g, .int .u64 (U m), .int .u64 (U a), .int .u64 (U (lkB m a)), .int .u64 (U (lkT m a)), .int .u64 (U (mP m)), .int .u64 (U (mY m)), .bool (g && rtF m a)]] w fun r w' => r = .returned (.bool (opF g m a)) ∧ Below w.heap.size w w' := fun w => lopenF_any g m a w
  have ct : ∀ (k : Bool) (w : World), Calls Try.prog 61 #[.agg #[.bool g, .int .u64 (U m), .int .u64 (U a), .int .u64 (U (lkB m a)), .int .u64 (U (lkT m a)), .int .u64 (U (mP m)), .int .u64 (U (mY m)), .bool (g && rtF m a)], .bool k, .int .u64 1] w fun r w' => r = .returned (.agg #[.bool (k && g), .int .u64 (U (tyIf k m 1#64)), .int .u64 (U a)]) ∧ Below w.heap.size w w' := fun k w => ltyped_any g _ k m a _ _ _ _ 1#64 w
  have cw : ∀ w : World, Calls Try.prog 57 #[.int .u64 4, .int .u64 (U (mP m))] w fun r w' => r = .returned (.bool (4#64 &&& ~~~ mP m == 0#64)) ∧ w = w' := fun w => pwithin_any 4#64 (mP m) w
  unfold enterF
  generalize (g && rtF m a) = l at cf co ct
  generalize opF g m a = o at co ⊢
  generalize (4#64 &&& ~~~ mP m == 0#64) = k at cw ⊢
  cases o
  all_goals
    go_enter Try.func31, Try.ntmps31
    go_wp2_with (first | (go_at_call 39; (with_reducible refine (cf _).mono ?_); rintro e w' ⟨rfl, hbl⟩; obtain ⟨hcw, hfw, hsw⟩ := below_ifs hbl; (try simp only [World.size_alloc, World.size_setCell, World.size_drew, size_drewN_] at hcw hfw hsw)))
    refine wp_region_below_tail 10 (by kernel_rfl) (by kernel_rfl) (fun hcr hfr => ?_)
    (try simp only [World.size_alloc, World.size_setCell, World.size_drew, size_drewN_] at hcr hfr)
    simp only [List.take_succ_cons, List.take_zero, List.drop_succ_cons, List.drop_zero]
    repeat (go_big_quiet_step ((first | (go_at_call 40; first | with_reducible exact Calls.regrown_of (co _) | with_reducible exact regrown_k (co _) | with_reducible exact regrown_1 (co _) | with_reducible exact regrown_a (co _)) | (go_at_call 57; first | with_reducible exact Calls.regrown_of (cw _) | with_reducible exact regrown_k (cw _) | with_reducible exact regrown_1 (cw _) | with_reducible exact regrown_a (cw _)) | (go_at_call 61; first | with_reducible exact Calls.regrown_of (ct _ _) | with_reducible exact regrown_k (ct _ _) | with_reducible exact regrown_1 (ct _ _) | with_reducible exact regrown_a (ct _ _)))))
    refine wpQuiet_nil ?_
    intro w' hbl
    clear hcr hfr
    obtain ⟨hcw, hfw, hsw⟩ := below_ifs hbl; (try simp only [World.size_alloc, World.size_setCell, World.size_drew, size_drewN_] at hcw hfw hsw)
    go_wp2_with fail
    refine ret_c Try.results31 rfl rfl Try.underlying24 rfl (by kernel_rfl) (by (repeat (first | with_reducible exact Below.refl _ _ | with_reducible assumption | with_reducible refine below_drewN ?_ _ | with_reducible refine Below.drew ?_ | with_reducible refine below_alloc ?_ _ | (with_reducible refine Below.setCell ?_ (by first | (simp; done) | omega | (simp; omega)) _) | with_reducible refine belows ?_ (by assumption)))) ?_
    (first | (first | (go_simp; done) | (go_simp; (simp [↓IntWalk.iteOmega]; done)) | (go_simp; intros; omega) | (go_simp; simp [↓IntWalk.iteOmega]; intros; omega)) | (go_simp; simp [*]) | (simp [*]))

def sentF (g : Bool) (m a : BitVec 64) : Bool := (g && rtF m a) && (mY m == 1#64)

set_option maxHeartbeats 4000000 in
set_option maxRecDepth 100000 in
theorem open_any (g : Bool) (m a : BitVec 64) (w : World) : Calls Try.prog 33 #[.agg #[.bool g, .int .u64 (U m), .int .u64 (U a)]] w fun r w' => r = .returned (.agg #[.bool g, .int .u64 (U (tyIf (sentF g m a) m 0#64)), .int .u64 (U a)]) ∧ Below w.heap.size w w' := by
  have cf : ∀ w : World, Calls Try.prog 39 #[.agg #[.bool g, .int .u64 (U m), .int .u64 (U a)]] w fun r w' => r = .returned (.agg #[.bool g, .int .u64 (U m), .int .u64 (U a), .int .u64 (U (lkB m a)), .int .u64 (U (lkT m a)), .int .u64 (U (mP m)), .int .u64 (U (mY m)), .bool (g && rtF m a)]) ∧ Below w.heap.size w w' := fun w => lof_any g m a w
  have ct : ∀ (w : World), Calls Try.prog 61 #[.agg #[.bool g, .int .u64 (U m), .int .u64 (U a), .int .u64 (U (lkB m a)), .int .u64 (U (lkT m a)), .int .u64 (U (mP m)), .int .u64 (U (mY m)), .bool (g && rtF m a)], .bool true, .int .u64 0] w fun r w' => r = .returned (.agg #[.bool g, .int .u64 (U (tyM m 0#64)), .int .u64 (U a)]) ∧ Below w.heap.size w w' := fun w => ltyped_any g _ true m a _ _ _ _ 0#64 w
  unfold sentF
  generalize (g && rtF m a) = l at cf ct ⊢
  have hy : (mY m == 1#64) = !(mY m != 1#64) := by unfold bne; rw [Bool.not_not]
  rw [hy]
  clear hy
  cases hz : (mY m != 1#64)
  all_goals cases l
  all_goals
    go_enter Try.func33, Try.ntmps33
    go_wp2_with (first | (go_at_call 39; (with_reducible refine (cf _).mono ?_); rintro e w' ⟨rfl, hbl⟩; obtain ⟨hcw, hfw, hsw⟩ := below_ifs hbl; (try simp only [World.size_alloc, World.size_setCell, World.size_drew, size_drewN_] at hcw hfw hsw)) | (go_at_call 61; (with_reducible refine (ct _).mono ?_); rintro e w' ⟨rfl, hbl⟩; obtain ⟨hcw, hfw, hsw⟩ := below_ifs hbl; (try simp only [World.size_alloc, World.size_setCell, World.size_drew, size_drewN_] at hcw hfw hsw)))
    all_goals refine ret_c Try.results33 rfl rfl Try.underlying24 rfl (by kernel_rfl) (by (repeat (first | with_reducible exact Below.refl _ _ | with_reducible assumption | with_reducible refine below_drewN ?_ _ | with_reducible refine Below.drew ?_ | with_reducible refine below_alloc ?_ _ | (with_reducible refine Below.setCell ?_ (by first | (simp; done) | omega | (simp; omega)) _) | with_reducible refine belows ?_ (by assumption)))) ?_
    all_goals (first | (first | (go_simp; done) | (go_simp; (simp [↓IntWalk.iteOmega]; done)) | (go_simp; intros; omega) | (go_simp; simp [↓IntWalk.iteOmega]; intros; omega)) | (go_simp; simp [*]) | (simp [*]))

def buildF (h : Bool) (m a n b : BitVec 64) : Bool := opF h n b && (withinF m a n b && decide (U (mY m) ≤ 1))

theorem live_view (v0 v1 v2 v3 v4 v5 v6 v7 : Value) (w : World) : (Instr.field 57 (.agg #[v0, v1, v2, v3, v4, v5, v6, v7]) 1).run Try.prog w = .ok (.agg #[v3, v4, v5, v6]) w := by kernel_rfl
theorem view_type (v3 v4 v5 v6 : Value) (w : World) : (Instr.field 39 (.agg #[v3, v4, v5, v6]) 2).run Try.prog w = .ok v6 w := by kernel_rfl
theorem view_perms (v3 v4 v5 v6 : Value) (w : World) : (Instr.field 39 (.agg #[v3, v4, v5, v6]) 1).run Try.prog w = .ok v5 w := by kernel_rfl
attribute [local go_sem 3000] live_view view_type view_perms

set_option maxHeartbeats 4000000 in
set_option maxRecDepth 100000 in
theorem build_any (g h : Bool) (m a n b : BitVec 64) (w : World) : Calls Try.prog 35 #[.agg #[.bool g, .int .u64 (U m), .int .u64 (U a)], .agg #[.bool h, .int .u64 (U n), .int .u64 (U b)]] w fun r w' => r = .returned (.agg #[.bool (buildF h m a n b), .int .u64 (U m), .int .u64 (U a)]) ∧ Below w.heap.size w w' := by
  have cf : ∀ w : World, Calls Try.prog 39 #[.agg #[.bool g, .int .u64 (U m), .int .u64 (U a)]] w fun r w' => r = .returned (.agg #[.bool g, .int .u64 (U m), .int .u64 (U a), .int .u64 (U (lkB m a)), .int .u64 (U (lkT m a)), .int .u64 (U (mP m)), .int .u64 (U (mY m)), .bool (g && rtF m a)]) ∧ Below w.heap.size w w' := fun w => lof_any g m a w
  have ch : ∀ w : World, Calls Try.prog 39 #[.agg #[.bool h, .int .u64 (U n), .int .u64 (U b)]] w fun r w' => r = .returned (.agg #[.bool h, .int .u64 (U n), .int .u64 (U b), .int .u64 (U (lkB n b)), .int .u64 (U (lkT n b)), .int .u64 (U (mP n)), .int .u64 (U (mY n)), .bool (h && rtF n b)]) ∧ Below w.heap.size w w' := fun w => lof_any h n b w
  have co : ∀ w : World, Calls Try.prog 40 #[.agg #[.bool h, .int .u64 (U n), .int .u64 (U b), .int .u64 (U (lkB n b)), .int .u64 (U (lkT n b)), .int .u64 (U (mP n)), .int .u64 (U (mY n)), .bool (h && rtF n b)]] w fun r w' => r = .returned (.bool (opF h n b)) ∧ Below w.heap.size w w' := fun w => lopenF_any h n b w
  have cw : ∀ w : World, Calls Try.prog 38 #[.agg #[.bool g, .int .u64 (U m), .int .u64 (U a)], .agg #[.bool h, .int .u64 (U n), .int .u64 (U b)]] w fun r w' => r = .returned (.bool (withinF m a n b)) ∧ Below w.heap.size w w' := fun w => within_any g h m a n b w
  unfold buildF
  generalize (g && rtF m a) = l at cf
  generalize (h && rtF n b) = l' at ch co
  generalize opF h n b = o at co ⊢
  generalize withinF m a n b = k at cw ⊢
  cases o
  all_goals try cases k
  all_goals
    go_enter Try.func35, Try.ntmps35
    go_wp2_with (first | (go_at_call 39; (with_reducible refine (cf _).mono ?_); rintro e w' ⟨rfl, hbl⟩; obtain ⟨hcw, hfw, hsw⟩ := below_ifs hbl; (try simp only [World.size_alloc, World.size_setCell, World.size_drew, size_drewN_] at hcw hfw hsw)) | (go_at_call 39; (with_reducible refine (ch _).mono ?_); rintro e w' ⟨rfl, hbl⟩; obtain ⟨hcw, hfw, hsw⟩ := below_ifs hbl; (try simp only [World.size_alloc, World.size_setCell, World.size_drew, size_drewN_] at hcw hfw hsw)) | (go_at_call 40; (with_reducible refine (co _).mono ?_); rintro e w' ⟨rfl, hbl⟩; obtain ⟨hcw, hfw, hsw⟩ := below_ifs hbl; (try simp only [World.size_alloc, World.size_setCell, World.size_drew, size_drewN_] at hcw hfw hsw)) | (go_at_call 38; (with_reducible refine (cw _).mono ?_); rintro e w' ⟨rfl, hbl⟩; obtain ⟨hcw, hfw, hsw⟩ := below_ifs hbl; (try simp only [World.size_alloc, World.size_setCell, World.size_drew, size_drewN_] at hcw hfw hsw)))
    refine ret_c Try.results35 rfl rfl Try.underlying24 rfl (by kernel_rfl) (by (repeat (first | with_reducible exact Below.refl _ _ | with_reducible assumption | with_reducible refine below_drewN ?_ _ | with_reducible refine Below.drew ?_ | with_reducible refine below_alloc ?_ _ | (with_reducible refine Below.setCell ?_ (by first | (simp; done) | omega | (simp; omega)) _) | with_reducible refine belows ?_ (by assumption)))) ?_
    (first | (first | (go_simp; done) | (go_simp; (simp [↓IntWalk.iteOmega]; done)) | (go_simp; intros; omega) | (go_simp; simp [↓IntWalk.iteOmega]; intros; omega)) | (go_simp; simp [*]) | (simp [*]))

end Go.Proofs.Ytpinjngmlelleaa
