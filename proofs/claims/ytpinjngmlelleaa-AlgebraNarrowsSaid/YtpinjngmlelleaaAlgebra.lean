
/-
  What may be done with capabilities (algebra): what each function makes of words.
-/
import Derived.Test.YtpinjngmlelleaaRefCapabM
import Derived.Test.YtpinjngmlelleaaCapabP
import Derived.Test.YtpinjngmlelleaaRet
namespace Go.Proofs.Ytpinjngmlelleaa
open Go Go.RowKit
set_option linter.unusedVariables false
set_option linter.unusedSimpArgs false


set_option maxHeartbeats 4000000 in
set_option maxRecDepth 100000 in
theorem lof_any (g : Bool) (m a : BitVec 64) (w : World) : Calls Try.prog 39 #[.agg #[.bool g, .int .u64 (U m), .int .u64 (U a)]] w fun r w' => r = .returned (.agg #[.bool g, .int .u64 (U m), .int .u64 (U a), .int .u64 (U (lkB m a)), .int .u64 (U (lkT m a)), .int .u64 (U (mP m)), .int .u64 (U (mY m)), .bool (g && rtF m a)]) ∧ Below w.heap.size w w' := by
  cases g
  all_goals
    go_enter Try.func39, Try.ntmps39
    go_wp2_with (first | (go_at_call 24; (with_reducible refine (look_any _ _ _ _).mono ?_); rintro e w' ⟨rfl, hbl⟩; obtain ⟨hcw, hfw, hsw⟩ := below_ifs hbl; (try simp only [World.size_alloc, World.size_setCell, World.size_drew, size_drewN_] at hcw hfw hsw)))
    refine wp_region_below_tail 9 (by kernel_rfl) (by kernel_rfl) (fun hcr hfr => ?_)
    (try simp only [World.size_alloc, World.size_setCell, World.size_drew, size_drewN_] at hcr hfr)
    simp only [List.take_succ_cons, List.take_zero, List.drop_succ_cons, List.drop_zero]
    repeat (go_big_quiet_step ((first | (go_at_call 37; first | with_reducible exact Calls.regrown_of (right_any _ _ _ _) | with_reducible exact regrown_k (right_any _ _ _ _) | with_reducible exact regrown_1 (right_any _ _ _ _) | with_reducible exact regrown_a (right_any _ _ _ _)))))
    refine wpQuiet_nil ?_
    intro w' hbl
    clear hcr hfr
    obtain ⟨hcw, hfw, hsw⟩ := below_ifs hbl; (try simp only [World.size_alloc, World.size_setCell, World.size_drew, size_drewN_] at hcw hfw hsw)
    go_wp2_with fail
    refine ret_c Try.results39 rfl rfl Try.underlying57 rfl (by kernel_rfl) (by (repeat (first | with_reducible exact Below.refl _ _ | with_reducible assumption | with_reducible refine below_drewN ?_ _ | with_reducible refine Below.drew ?_ | with_reducible refine below_alloc ?_ _ | (with_reducible refine Below.setCell ?_ (by first | (simp; done) | omega | (simp; omega)) _) | with_reducible refine belows ?_ (by assumption)))) ?_
    (first | (first | (go_simp; done) | (go_simp; (simp [↓IntWalk.iteOmega]; done)) | (go_simp; intros; omega) | (go_simp; simp [↓IntWalk.iteOmega]; intros; omega)) | (go_simp; simp [*]) | (simp [*]))

theorem lopen_any (g ok : Bool) (m a b t p y : BitVec 64) (w : World) : Calls Try.prog 40 #[.agg #[.bool g, .int .u64 (U m), .int .u64 (U a), .int .u64 (U b), .int .u64 (U t), .int .u64 (U p), .int .u64 (U y), .bool ok]] w fun r w' => r = .returned (.bool (ok && (y == 0#64))) ∧ Below w.heap.size w w' := by
  cases ok
  all_goals
    go_enter Try.func40, Try.ntmps40
    go_wp2_with fail
    go_ret
    exact ⟨ret_bool (by simp), by (repeat (first | with_reducible exact Below.refl _ _ | with_reducible assumption | with_reducible refine below_drewN ?_ _ | with_reducible refine Below.drew ?_ | with_reducible refine below_alloc ?_ _ | (with_reducible refine Below.setCell ?_ (by first | (simp; done) | omega | (simp; omega)) _) | with_reducible refine belows ?_ (by assumption)))⟩
theorem clear_any (g : Bool) (m a : BitVec 64) (w : World) : Calls Try.prog 10 #[.agg #[.bool g, .int .u64 (U m), .int .u64 (U a)]] w fun r w' => r = .returned (.agg #[.bool false, .int .u64 (U m), .int .u64 (U a)]) ∧ Below w.heap.size w w' := by
  go_enter Try.func10, Try.ntmps10
  go_wp2_with fail
  refine ret_c Try.results10 rfl rfl Try.underlying24 rfl (by kernel_rfl) (by (repeat (first | with_reducible exact Below.refl _ _ | with_reducible assumption | with_reducible refine below_drewN ?_ _ | with_reducible refine Below.drew ?_ | with_reducible refine below_alloc ?_ _ | (with_reducible refine Below.setCell ?_ (by first | (simp; done) | omega | (simp; omega)) _) | with_reducible refine belows ?_ (by assumption)))) ?_
  (first | (first | (go_simp; done) | (go_simp; (simp [↓IntWalk.iteOmega]; done)) | (go_simp; intros; omega) | (go_simp; simp [↓IntWalk.iteOmega]; intros; omega)) | (go_simp; simp [*]) | (simp [*]))

set_option maxHeartbeats 4000000 in
set_option maxRecDepth 100000 in
theorem lhas_any (g ok : Bool) (m a b t p y q : BitVec 64) (w : World) : Calls Try.prog 62 #[.agg #[.bool g, .int .u64 (U m), .int .u64 (U a), .int .u64 (U b), .int .u64 (U t), .int .u64 (U p), .int .u64 (U y), .bool ok], .int .u64 (U q)] w fun r w' => r = .returned (.bool ((ok && (y == 0#64)) && ((q &&& ~~~ p == 0#64) && (decide (U b ≤ U a) && decide (U a < U t))))) ∧ Below w.heap.size w w' := by
  have co : ∀ w : World, Calls Try.prog 40 #[.agg #[.bool g, .int .u64 (U m), .int .u64 (U a), .int .u64 (U b), .int .u64 (U t), .int .u64 (U p), .int .u64 (U y), .bool ok]] w fun r w' => r = .returned (.bool (ok && (y == 0#64))) ∧ Below w.heap.size w w' := fun w => lopen_any g ok m a b t p y w
  have cw : ∀ w : World, Calls Try.prog 57 #[.int .u64 (U q), .int .u64 (U p)] w fun r w' => r = .returned (.bool (q &&& ~~~ p == 0#64)) ∧ w = w' := fun w => pwithin_any q p w
  generalize (ok && (y == 0#64)) = o at co ⊢
  generalize (q &&& ~~~ p == 0#64) = k at cw ⊢
  cases h3 : decide (U b ≤ U a)
  all_goals cases o
  all_goals try cases k
  all_goals
    go_enter Try.func62, Try.ntmps62
    go_wp2_with (first | (go_at_call 40; (with_reducible refine (co _).mono ?_); rintro e w' ⟨rfl, hbl⟩; obtain ⟨hcw, hfw, hsw⟩ := below_ifs hbl; (try simp only [World.size_alloc, World.size_setCell, World.size_drew, size_drewN_] at hcw hfw hsw)) | (go_at_call 57; (with_reducible refine (cw _).mono ?_); rintro e w' ⟨rfl, rfl⟩))
    go_ret
    exact ⟨ret_bool (by simp), by (repeat (first | with_reducible exact Below.refl _ _ | with_reducible assumption | with_reducible refine below_drewN ?_ _ | with_reducible refine Below.drew ?_ | with_reducible refine below_alloc ?_ _ | (with_reducible refine Below.setCell ?_ (by first | (simp; done) | omega | (simp; omega)) _) | with_reducible refine belows ?_ (by assumption)))⟩
def opF (g : Bool) (m a : BitVec 64) : Bool := (g && rtF m a) && (mY m == 0#64)
def hasF (g : Bool) (m a q : BitVec 64) : Bool := opF g m a && ((q &&& ~~~ mP m == 0#64) && (decide (U (lkB m a) ≤ U a) && decide (U a < U (lkT m a))))
def tyM (m k : BitVec 64) : BitVec 64 := m ^^^ ((mY m ^^^ k) <<< 48)
def tyIf (k : Bool) (m n : BitVec 64) : BitVec 64 := if k = true then m ^^^ ((mY m ^^^ n) <<< 48) else m
@[simp, go_sem] theorem tyIf_false (m n : BitVec 64) : tyIf false m n = m := rfl
@[simp, go_sem] theorem tyIf_true (m n : BitVec 64) : tyIf true m n = tyM m n := rfl

theorem lhasF_any (g : Bool) (m a q : BitVec 64) (w : World) : Calls Try.prog 62 #[.agg #[.bool g, .int .u64 (U m), .int .u64 (U a), .int .u64 (U (lkB m a)), .int .u64 (U (lkT m a)), .int .u64 (U (mP m)), .int .u64 (U (mY m)), .bool (g && rtF m a)], .int .u64 (U q)] w fun r w' => r = .returned (.bool (hasF g m a q)) ∧ Below w.heap.size w w' := lhas_any g _ m a _ _ _ _ q w

theorem lopenF_any (g : Bool) (m a : BitVec 64) (w : World) : Calls Try.prog 40 #[.agg #[.bool g, .int .u64 (U m), .int .u64 (U a), .int .u64 (U (lkB m a)), .int .u64 (U (lkT m a)), .int .u64 (U (mP m)), .int .u64 (U (mY m)), .bool (g && rtF m a)]] w fun r w' => r = .returned (.bool (opF g m a)) ∧ Below w.heap.size w w' := lopen_any g _ m a _ _ _ _ w

set_option maxHeartbeats 4000000 in
set_option maxRecDepth 100000 in
theorem address_any (g : Bool) (m a n : BitVec 64) (w : World) : Calls Try.prog 12 #[.agg #[.bool g, .int .u64 (U m), .int .u64 (U a)], .int .u64 (U n)] w fun r w' => r = .returned (.agg #[.bool (opF g m a && (lkOk m n && (lkB m n == lkB m a && lkT m n == lkT m a))), .int .u64 (U m), .int .u64 (U n)]) ∧ Below w.heap.size w w' := by
  have cf : ∀ w : World, Calls Try.prog 39 #[.agg #[.bool g, .int .u64 (U m), .int .u64 (U a)]] w fun r w' => r = .returned (.agg #[.bool g, .int .u64 (U m), .int .u64 (U a), .int .u64 (U (lkB m a)), .int .u64 (U (lkT m a)), .int .u64 (U (mP m)), .int .u64 (U (mY m)), .bool (g && rtF m a)]) ∧ Below w.heap.size w w' := fun w => lof_any g m a w
  have co : ∀ w : World, Calls Try.prog 40 #[.agg #[.bool g, .int .u64 (U m), .int .u64 (U a), .int .u64 (U (lkB m a)), .int .u64 (U (lkT m a)), .int .u64 (U (mP m)), .int .u64 (U (mY m)), .bool (g && rtF m a)]] w fun r w' => r = .returned (.bool (opF g m a)) ∧ Below w.heap.size w w' := fun w => lopenF_any g m a w
  have ck : ∀ w : World, Calls Try.prog 24 #[.agg #[.bool g, .int .u64 (U m), .int .u64 (U n)]] w fun r w' => r = .returned (.tuple #[.agg #[.int .u64 (U (lkB m n)), .int .u64 (U (lkT m n)), .int .u64 (U (mP m)), .int .u64 (U (mY m))], .bool (lkOk m n)]) ∧ Below w.heap.size w w' := fun w => look_any g m n w
  generalize (g && rtF m a) = l at cf co
  generalize opF g m a = o at co ⊢
  generalize lkOk m n = k at ck ⊢
  cases o
  all_goals try cases k
  all_goals
    go_enter Try.func12, Try.ntmps12
    go_wp2_with (first | (go_at_call 39; (with_reducible refine (cf _).mono ?_); rintro e w' ⟨rfl, hbl⟩; obtain ⟨hcw, hfw, hsw⟩ := below_ifs hbl; (try simp only [World.size_alloc, World.size_setCell, World.size_drew, size_drewN_] at hcw hfw hsw)) | (go_at_call 40; (with_reducible refine (co _).mono ?_); rintro e w' ⟨rfl, hbl⟩; obtain ⟨hcw, hfw, hsw⟩ := below_ifs hbl; (try simp only [World.size_alloc, World.size_setCell, World.size_drew, size_drewN_] at hcw hfw hsw)) | (go_at_call 24; (with_reducible refine (ck _).mono ?_); rintro e w' ⟨rfl, hbl⟩; obtain ⟨hcw, hfw, hsw⟩ := below_ifs hbl; (try simp only [World.size_alloc, World.size_setCell, World.size_drew, size_drewN_] at hcw hfw hsw)))
    refine ret_c Try.results12 rfl rfl Try.underlying24 rfl (by kernel_rfl) (by (repeat (first | with_reducible exact Below.refl _ _ | with_reducible assumption | with_reducible refine below_drewN ?_ _ | with_reducible refine Below.drew ?_ | with_reducible refine below_alloc ?_ _ | (with_reducible refine Below.setCell ?_ (by first | (simp; done) | omega | (simp; omega)) _) | with_reducible refine belows ?_ (by assumption)))) ?_
    (first | (first | (go_simp; done) | (go_simp; (simp [↓IntWalk.iteOmega]; done)) | (go_simp; intros; omega) | (go_simp; simp [↓IntWalk.iteOmega]; intros; omega)) | (go_simp; simp [*]) | (simp [*]))

set_option maxHeartbeats 4000000 in
set_option maxRecDepth 100000 in
theorem move_any (g : Bool) (m a n : BitVec 64) (w : World) : Calls Try.prog 14 #[.agg #[.bool g, .int .u64 (U m), .int .u64 (U a)], .int .u64 (U n)] w fun r w' => r = .returned (.agg #[.bool (opF g m a && (lkOk m (a + n) && (lkB m (a + n) == lkB m a && lkT m (a + n) == lkT m a))), .int .u64 (U m), .int .u64 (U (a + n))]) ∧ Below w.heap.size w w' := by
  go_enter Try.func14, Try.ntmps14
  go_wp2_with (first | (go_at_call 12; (with_reducible refine (address_any _ _ _ _ _).mono ?_); rintro e w' ⟨rfl, hbl⟩; obtain ⟨hcw, hfw, hsw⟩ := below_ifs hbl; (try simp only [World.size_alloc, World.size_setCell, World.size_drew, size_drewN_] at hcw hfw hsw)))
  refine ret_c Try.results14 rfl rfl Try.underlying24 rfl (by kernel_rfl) (by (repeat (first | with_reducible exact Below.refl _ _ | with_reducible assumption | with_reducible refine below_drewN ?_ _ | with_reducible refine Below.drew ?_ | with_reducible refine below_alloc ?_ _ | (with_reducible refine Below.setCell ?_ (by first | (simp; done) | omega | (simp; omega)) _) | with_reducible refine belows ?_ (by assumption)))) ?_
  (first | (first | (go_simp; done) | (go_simp; (simp [↓IntWalk.iteOmega]; done)) | (go_simp; intros; omega) | (go_simp; simp [↓IntWalk.iteOmega]; intros; omega)) | (go_simp; simp [*]) | (simp [*]))

set_option maxHeartbeats 4000000 in
set_option maxRecDepth 100000 in
theorem and_any (g : Bool) (m a n : BitVec 64) (w : World) : Calls Try.prog 17 #[.agg #[.bool g, .int .u64 (U m), .int .u64 (U a)], .int .u64 (U n)] w fun r w' => r = .returned (.agg #[.bool (opF g m a), .int .u64 (U (m &&& ~~~ ((mP m &&& ~~~ n) <<< 32))), .int .u64 (U a)]) ∧ Below w.heap.size w w' := by
  have cf : ∀ w : World, Calls Try.prog 39 #[.agg #[.bool g, .int .u64 (U m), .int .u64 (U a)]] w fun r w' => r = .returned (.agg #[.bool g, .int .u64 (U m), .int .u64 (U a), .int .u64 (U (lkB m a)), .int .u64 (U (lkT m a)), .int .u64 (U (mP m)), .int .u64 (U (mY m)), .bool (g && rtF m a)]) ∧ Below w.heap.size w w' := fun w => lof_any g m a w
  have co : ∀ w : World, Calls Try.prog 40 #[.agg #[.bool g, .int .u64 (U m), .int .u64 (U a), .int .u64 (U (lkB m a)), .int .u64 (U (lkT m a)), .int .u64 (U (mP m)), .int .u64 (U (mY m)), .bool (g && rtF m a)]] w fun r w' => r = .returned (.bool (opF g m a)) ∧ Below w.heap.size w w' := fun w => lopenF_any g m a w
  generalize (g && rtF m a) = l at cf co
  generalize opF g m a = o at co ⊢
  go_enter Try.func17, Try.ntmps17
  go_wp2_with (first | (go_at_call 39; (with_reducible refine (cf _).mono ?_); rintro e w' ⟨rfl, hbl⟩; obtain ⟨hcw, hfw, hsw⟩ := below_ifs hbl; (try simp only [World.size_alloc, World.size_setCell, World.size_drew, size_drewN_] at hcw hfw hsw)) | (go_at_call 40; (with_reducible refine (co _).mono ?_); rintro e w' ⟨rfl, hbl⟩; obtain ⟨hcw, hfw, hsw⟩ := below_ifs hbl; (try simp only [World.size_alloc, World.size_setCell, World.size_drew, size_drewN_] at hcw hfw hsw)))
  refine ret_c Try.results17 rfl rfl Try.underlying24 rfl (by kernel_rfl) (by (repeat (first | with_reducible exact Below.refl _ _ | with_reducible assumption | with_reducible refine below_drewN ?_ _ | with_reducible refine Below.drew ?_ | with_reducible refine below_alloc ?_ _ | (with_reducible refine Below.setCell ?_ (by first | (simp; done) | omega | (simp; omega)) _) | with_reducible refine belows ?_ (by assumption)))) ?_
  (first | (first | (go_simp; done) | (go_simp; (simp [↓IntWalk.iteOmega]; done)) | (go_simp; intros; omega) | (go_simp; simp [↓IntWalk.iteOmega]; intros; omega)) | (go_simp; simp [*]) | (simp [*]))

set_option maxHeartbeats 4000000 in
set_option maxRecDepth 100000 in
theorem ltyped_any (g ok k : Bool) (m a b t p y n : BitVec 64) (w : World) : Calls Try.prog 61 #[.agg #[.bool g, .int .u64 (U m), .int .u64 (U a), .int .u64 (U b), .int .u64 (U t), .int .u64 (U p), .int .u64 (U y), .bool ok], .bool k, .int .u64 (U n)] w fun r w' => r = .returned (.agg #[.bool (k && g), .int .u64 (U (if k = true then m ^^^ ((y ^^^ n) <<< 48) else m)), .int .u64 (U a)]) ∧ Below w.heap.size w w' := by
  cases k
  all_goals
    go_enter Try.func61, Try.ntmps61
    go_wp2_with (first | (go_at_call 10; (with_reducible refine (clear_any _ _ _ _).mono ?_); rintro e w' ⟨rfl, hbl⟩; obtain ⟨hcw, hfw, hsw⟩ := below_ifs hbl; (try simp only [World.size_alloc, World.size_setCell, World.size_drew, size_drewN_] at hcw hfw hsw)))
    refine ret_c Try.results61 rfl rfl Try.underlying24 rfl (by kernel_rfl) (by (repeat (first | with_reducible exact Below.refl _ _ | with_reducible assumption | with_reducible refine below_drewN ?_ _ | with_reducible refine Below.drew ?_ | with_reducible refine below_alloc ?_ _ | (with_reducible refine Below.setCell ?_ (by first | (simp; done) | omega | (simp; omega)) _) | with_reducible refine belows ?_ (by assumption)))) ?_
    (first | (first | (go_simp; done) | (go_simp; (simp [↓IntWalk.iteOmega]; done)) | (go_simp; intros; omega) | (go_simp; simp [↓IntWalk.iteOmega]; intros; omega)) | (go_simp; simp [*]) | (simp [*]))

end Go.Proofs.Ytpinjngmlelleaa
