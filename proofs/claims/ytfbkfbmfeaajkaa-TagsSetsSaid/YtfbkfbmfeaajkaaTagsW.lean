
/-
  Sets of granules (tags): With; the document's Get and With.
-/
import Derived.Test.YtfbkfbmfeaajkaaTags
namespace Go.Proofs.Ytfbkfbmfeaajkaa
open Go Go.RowKit
set_option linter.unusedVariables false
set_option linter.unusedSimpArgs false

set_option maxHeartbeats 4000000 in
set_option maxRecDepth 100000 in
theorem with_out (f : Nat → Bool) (i : Int) (t : Bool) (h : ¬ (0 ≤ i ∧ i < 256)) (w : World) : Calls Try.prog 16 #[.agg #[.int .u64 (U (wd f 0)), .int .u64 (U (wd f 1)), .int .u64 (U (wd f 2)), .int .u64 (U (wd f 3))], .int .i64 i, .bool t] w fun r w' => r = .returned (.agg #[.int .u64 (U (wd f 0)), .int .u64 (U (wd f 1)), .int .u64 (U (wd f 2)), .int .u64 (U (wd f 3))]) ∧ Below w.heap.size w w' := by
  have ci : ∀ w : World, Calls Try.prog 21 #[.int .i64 i] w fun r w' => r = .returned (.bool false) ∧ w = w' := fun w => (is_any i w).mono fun _ _ q => ⟨by
    rw [q.1]
    by_cases c : 0 ≤ i
    · rw [decide_eq_false (show ¬ i < 256 by omega), Bool.and_false]
    · rw [decide_eq_false c, Bool.false_and], q.2⟩
  clear h
  go_enter Try.func16, Try.ntmps16
  go_wp2_with (first | (go_at_call 21; (with_reducible refine (ci _).mono ?_); rintro e w' ⟨rfl, rfl⟩))
  refine ret_c Try.results16 rfl rfl Try.underlying26 rfl (by kernel_rfl) (by (repeat (first | with_reducible exact Below.refl _ _ | with_reducible assumption | with_reducible refine below_drewN ?_ _ | with_reducible refine Below.drew ?_ | with_reducible refine below_alloc ?_ _ | (with_reducible refine Below.setCell ?_ (by first | (simp; done) | omega | (simp; omega)) _) | with_reducible refine belows ?_ (by assumption)))) ?_
  (first | (go_simp; done) | (go_simp; (simp [↓IntWalk.iteOmega]; done)) | (go_simp; intros; omega) | (go_simp; simp [↓IntWalk.iteOmega]; intros; omega))
set_option maxHeartbeats 4000000 in
set_option maxRecDepth 100000 in
theorem with_true (f : Nat → Bool) (i : Int) (h0 : 0 ≤ i) (h1 : i < 256) (w : World) : Calls Try.prog 16 #[.agg #[.int .u64 (U (wd f 0)), .int .u64 (U (wd f 1)), .int .u64 (U (wd f 2)), .int .u64 (U (wd f 3))], .int .i64 i, .bool true] w fun r w' => r = .returned (.agg #[.int .u64 (U (wd (updS f i true) 0)), .int .u64 (U (wd (updS f i true) 1)), .int .u64 (U (wd (updS f i true) 2)), .int .u64 (U (wd (updS f i true) 3))]) ∧ Below w.heap.size w w' := by
  have ci : ∀ w : World, Calls Try.prog 21 #[.int .i64 i] w fun r w' => r = .returned (.bool true) ∧ w = w' := fun w => (is_any i w).mono fun _ _ q => ⟨by rw [q.1, decide_eq_true h0, decide_eq_true h1]; rfl, q.2⟩
  obtain ⟨q, r, hq, hr, e1, e2, e3⟩ := place i h0 h1
  have hr0 : (0 : Int) ≤ (r : Int) := by omega
  rcases hq with rfl | rfl | rfl | rfl
  · have e1' : i / 64 = 0 := e1
    rw [wd_upd_true f i h0 h1 e3 hr, wd_upd_other f i true h0 h1 e3 hr (k := 1) (by decide), wd_upd_other f i true h0 h1 e3 hr (k := 2) (by decide), wd_upd_other f i true h0 h1 e3 hr (k := 3) (by decide)]
    clear e1 e3
    go_enter Try.func16, Try.ntmps16
    go_wp2_with (first | (go_at_call 21; (with_reducible refine (ci _).mono ?_); rintro e w' ⟨rfl, rfl⟩))
    all_goals first | (refine ret_c Try.results16 rfl rfl Try.underlying26 rfl (by kernel_rfl) (by (repeat (first | with_reducible exact Below.refl _ _ | with_reducible assumption | with_reducible refine below_drewN ?_ _ | with_reducible refine Below.drew ?_ | with_reducible refine below_alloc ?_ _ | (with_reducible refine Below.setCell ?_ (by first | (simp; done) | omega | (simp; omega)) _) | with_reducible refine belows ?_ (by assumption)))) ?_; (first | (go_simp; done) | (go_simp; (simp [↓IntWalk.iteOmega]; done)) | (go_simp; intros; omega) | (go_simp; simp [↓IntWalk.iteOmega]; intros; omega))) | skip
    all_goals (go_region; all_goals (go_wp2_with fail; refine ret_c Try.results16 rfl rfl Try.underlying26 rfl (by kernel_rfl) (by (repeat (first | with_reducible exact Below.refl _ _ | with_reducible assumption | with_reducible refine below_drewN ?_ _ | with_reducible refine Below.drew ?_ | with_reducible refine below_alloc ?_ _ | (with_reducible refine Below.setCell ?_ (by first | (simp; done) | omega | (simp; omega)) _) | with_reducible refine belows ?_ (by assumption)))) ?_; (first | (go_simp; done) | (go_simp; (simp [↓IntWalk.iteOmega]; done)) | (go_simp; intros; omega) | (go_simp; simp [↓IntWalk.iteOmega]; intros; omega))))
  · have e1' : i / 64 = 1 := e1
    rw [wd_upd_other f i true h0 h1 e3 hr (k := 0) (by decide), wd_upd_true f i h0 h1 e3 hr, wd_upd_other f i true h0 h1 e3 hr (k := 2) (by decide), wd_upd_other f i true h0 h1 e3 hr (k := 3) (by decide)]
    clear e1 e3
    go_enter Try.func16, Try.ntmps16
    go_wp2_with (first | (go_at_call 21; (with_reducible refine (ci _).mono ?_); rintro e w' ⟨rfl, rfl⟩))
    all_goals first | (refine ret_c Try.results16 rfl rfl Try.underlying26 rfl (by kernel_rfl) (by (repeat (first | with_reducible exact Below.refl _ _ | with_reducible assumption | with_reducible refine below_drewN ?_ _ | with_reducible refine Below.drew ?_ | with_reducible refine below_alloc ?_ _ | (with_reducible refine Below.setCell ?_ (by first | (simp; done) | omega | (simp; omega)) _) | with_reducible refine belows ?_ (by assumption)))) ?_; (first | (go_simp; done) | (go_simp; (simp [↓IntWalk.iteOmega]; done)) | (go_simp; intros; omega) | (go_simp; simp [↓IntWalk.iteOmega]; intros; omega))) | skip
    all_goals (go_region; all_goals (go_wp2_with fail; refine ret_c Try.results16 rfl rfl Try.underlying26 rfl (by kernel_rfl) (by (repeat (first | with_reducible exact Below.refl _ _ | with_reducible assumption | with_reducible refine below_drewN ?_ _ | with_reducible refine Below.drew ?_ | with_reducible refine below_alloc ?_ _ | (with_reducible refine Below.setCell ?_ (by first | (simp; done) | omega | (simp; omega)) _) | with_reducible refine belows ?_ (by assumption)))) ?_; (first | (go_simp; done) | (go_simp; (simp [↓IntWalk.iteOmega]; done)) | (go_simp; intros; omega) | (go_simp; simp [↓IntWalk.iteOmega]; intros; omega))))
  · have e1' : i / 64 = 2 := e1
    rw [wd_upd_other f i true h0 h1 e3 hr (k := 0) (by decide), wd_upd_other f i true h0 h1 e3 hr (k := 1) (by decide), wd_upd_true f i h0 h1 e3 hr, wd_upd_other f i true h0 h1 e3 hr (k := 3) (by decide)]
    clear e1 e3
    go_enter Try.func16, Try.ntmps16
    go_wp2_with (first | (go_at_call 21; (with_reducible refine (ci _).mono ?_); rintro e w' ⟨rfl, rfl⟩))
    all_goals first | (refine ret_c Try.results16 rfl rfl Try.underlying26 rfl (by kernel_rfl) (by (repeat (first | with_reducible exact Below.refl _ _ | with_reducible assumption | with_reducible refine below_drewN ?_ _ | with_reducible refine Below.drew ?_ | with_reducible refine below_alloc ?_ _ | (with_reducible refine Below.setCell ?_ (by first | (simp; done) | omega | (simp; omega)) _) | with_reducible refine belows ?_ (by assumption)))) ?_; (first | (go_simp; done) | (go_simp; (simp [↓IntWalk.iteOmega]; done)) | (go_simp; intros; omega) | (go_simp; simp [↓IntWalk.iteOmega]; intros; omega))) | skip
    all_goals (go_region; all_goals (go_wp2_with fail; refine ret_c Try.results16 rfl rfl Try.underlying26 rfl (by kernel_rfl) (by (repeat (first | with_reducible exact Below.refl _ _ | with_reducible assumption | with_reducible refine below_drewN ?_ _ | with_reducible refine Below.drew ?_ | with_reducible refine below_alloc ?_ _ | (with_reducible refine Below.setCell ?_ (by first | (simp; done) | omega | (simp; omega)) _) | with_reducible refine belows ?_ (by assumption)))) ?_; (first | (go_simp; done) | (go_simp; (simp [↓IntWalk.iteOmega]; done)) | (go_simp; intros; omega) | (go_simp; simp [↓IntWalk.iteOmega]; intros; omega))))
  · have e1' : i / 64 = 3 := e1
    rw [wd_upd_other f i true h0 h1 e3 hr (k := 0) (by decide), wd_upd_other f i true h0 h1 e3 hr (k := 1) (by decide), wd_upd_other f i true h0 h1 e3 hr (k := 2) (by decide), wd_upd_true f i h0 h1 e3 hr]
    clear e1 e3
    go_enter Try.func16, Try.ntmps16
    go_wp2_with (first | (go_at_call 21; (with_reducible refine (ci _).mono ?_); rintro e w' ⟨rfl, rfl⟩))
    all_goals first | (refine ret_c Try.results16 rfl rfl Try.underlying26 rfl (by kernel_rfl) (by (repeat (first | with_reducible exact Below.refl _ _ | with_reducible assumption | with_reducible refine below_drewN ?_ _ | with_reducible refine Below.drew ?_ | with_reducible refine below_alloc ?_ _ | (with_reducible refine Below.setCell ?_ (by first | (simp; done) | omega | (simp; omega)) _) | with_reducible refine belows ?_ (by assumption)))) ?_; (first | (go_simp; done) | (go_simp; (simp [↓IntWalk.iteOmega]; done)) | (go_simp; intros; omega) | (go_simp; simp [↓IntWalk.iteOmega]; intros; omega))) | skip
    all_goals (go_region; all_goals (go_wp2_with fail; refine ret_c Try.results16 rfl rfl Try.underlying26 rfl (by kernel_rfl) (by (repeat (first | with_reducible exact Below.refl _ _ | with_reducible assumption | with_reducible refine below_drewN ?_ _ | with_reducible refine Below.drew ?_ | with_reducible refine below_alloc ?_ _ | (with_reducible refine Below.setCell ?_ (by first | (simp; done) | omega | (simp; omega)) _) | with_reducible refine belows ?_ (by assumption)))) ?_; (first | (go_simp; done) | (go_simp; (simp [↓IntWalk.iteOmega]; done)) | (go_simp; intros; omega) | (go_simp; simp [↓IntWalk.iteOmega]; intros; omega))))
set_option maxHeartbeats 4000000 in
set_option maxRecDepth 100000 in
theorem with_false (f : Nat → Bool) (i : Int) (h0 : 0 ≤ i) (h1 : i < 256) (w : World) : Calls Try.prog 16 #[.agg #[.int .u64 (U (wd f 0)), .int .u64 (U (wd f 1)), .int .u64 (U (wd f 2)), .int .u64 (U (wd f 3))], .int .i64 i, .bool false] w fun r w' => r = .returned (.agg #[.int .u64 (U (wd (updS f i false) 0)), .int .u64 (U (wd (updS f i false) 1)), .int .u64 (U (wd (updS f i false) 2)), .int .u64 (U (wd (updS f i false) 3))]) ∧ Below w.heap.size w w' := by
  have ci : ∀ w : World, Calls Try.prog 21 #[.int .i64 i] w fun r w' => r = .returned (.bool true) ∧ w = w' := fun w => (is_any i w).mono fun _ _ q => ⟨by rw [q.1, decide_eq_true h0, decide_eq_true h1]; rfl, q.2⟩
  obtain ⟨q, r, hq, hr, e1, e2, e3⟩ := place i h0 h1
  have hr0 : (0 : Int) ≤ (r : Int) := by omega
  rcases hq with rfl | rfl | rfl | rfl
  · have e1' : i / 64 = 0 := e1
    rw [wd_upd_false f i h0 h1 e3 hr, wd_upd_other f i false h0 h1 e3 hr (k := 1) (by decide), wd_upd_other f i false h0 h1 e3 hr (k := 2) (by decide), wd_upd_other f i false h0 h1 e3 hr (k := 3) (by decide)]
    clear e1 e3
    go_enter Try.func16, Try.ntmps16
    go_wp2_with (first | (go_at_call 21; (with_reducible refine (ci _).mono ?_); rintro e w' ⟨rfl, rfl⟩))
    all_goals first | (refine ret_c Try.results16 rfl rfl Try.underlying26 rfl (by kernel_rfl) (by (repeat (first | with_reducible exact Below.refl _ _ | with_reducible assumption | with_reducible refine below_drewN ?_ _ | with_reducible refine Below.drew ?_ | with_reducible refine below_alloc ?_ _ | (with_reducible refine Below.setCell ?_ (by first | (simp; done) | omega | (simp; omega)) _) | with_reducible refine belows ?_ (by assumption)))) ?_; (first | (go_simp; done) | (go_simp; (simp [↓IntWalk.iteOmega]; done)) | (go_simp; intros; omega) | (go_simp; simp [↓IntWalk.iteOmega]; intros; omega))) | skip
    all_goals (go_region; all_goals (go_wp2_with fail; refine ret_c Try.results16 rfl rfl Try.underlying26 rfl (by kernel_rfl) (by (repeat (first | with_reducible exact Below.refl _ _ | with_reducible assumption | with_reducible refine below_drewN ?_ _ | with_reducible refine Below.drew ?_ | with_reducible refine below_alloc ?_ _ | (with_reducible refine Below.setCell ?_ (by first | (simp; done) | omega | (simp; omega)) _) | with_reducible refine belows ?_ (by assumption)))) ?_; (first | (go_simp; done) | (go_simp; (simp [↓IntWalk.iteOmega]; done)) | (go_simp; intros; omega) | (go_simp; simp [↓IntWalk.iteOmega]; intros; omega))))
  · have e1' : i / 64 = 1 := e1
    rw [wd_upd_other f i false h0 h1 e3 hr (k := 0) (by decide), wd_upd_false f i h0 h1 e3 hr, wd_upd_other f i false h0 h1 e3 hr (k := 2) (by decide), wd_upd_other f i false h0 h1 e3 hr (k := 3) (by decide)]
    clear e1 e3
    go_enter Try.func16, Try.ntmps16
    go_wp2_with (first | (go_at_call 21; (with_reducible refine (ci _).mono ?_); rintro e w' ⟨rfl, rfl⟩))
    all_goals first | (refine ret_c Try.results16 rfl rfl Try.underlying26 rfl (by kernel_rfl) (by (repeat (first | with_reducible exact Below.refl _ _ | with_reducible assumption | with_reducible refine below_drewN ?_ _ | with_reducible refine Below.drew ?_ | with_reducible refine below_alloc ?_ _ | (with_reducible refine Below.setCell ?_ (by first | (simp; done) | omega | (simp; omega)) _) | with_reducible refine belows ?_ (by assumption)))) ?_; (first | (go_simp; done) | (go_simp; (simp [↓IntWalk.iteOmega]; done)) | (go_simp; intros; omega) | (go_simp; simp [↓IntWalk.iteOmega]; intros; omega))) | skip
    all_goals (go_region; all_goals (go_wp2_with fail; refine ret_c Try.results16 rfl rfl Try.underlying26 rfl (by kernel_rfl) (by (repeat (first | with_reducible exact Below.refl _ _ | with_reducible assumption | with_reducible refine below_drewN ?_ _ | with_reducible refine Below.drew ?_ | with_reducible refine below_alloc ?_ _ | (with_reducible refine Below.setCell ?_ (by first | (simp; done) | omega | (simp; omega)) _) | with_reducible refine belows ?_ (by assumption)))) ?_; (first | (go_simp; done) | (go_simp; (simp [↓IntWalk.iteOmega]; done)) | (go_simp; intros; omega) | (go_simp; simp [↓IntWalk.iteOmega]; intros; omega))))
  · have e1' : i / 64 = 2 := e1
    rw [wd_upd_other f i false h0 h1 e3 hr (k := 0) (by decide), wd_upd_other f i false h0 h1 e3 hr (k := 1) (by decide), wd_upd_false f i h0 h1 e3 hr, wd_upd_other f i false h0 h1 e3 hr (k := 3) (by decide)]
    clear e1 e3
    go_enter Try.func16, Try.ntmps16
    go_wp2_with (first | (go_at_call 21; (with_reducible refine (ci _).mono ?_); rintro e w' ⟨rfl, rfl⟩))
    all_goals first | (refine ret_c Try.results16 rfl rfl Try.underlying26 rfl (by kernel_rfl) (by (repeat (first | with_reducible exact Below.refl _ _ | with_reducible assumption | with_reducible refine below_drewN ?_ _ | with_reducible refine Below.drew ?_ | with_reducible refine below_alloc ?_ _ | (with_reducible refine Below.setCell ?_ (by first | (simp; done) | omega | (simp; omega)) _) | with_reducible refine belows ?_ (by assumption)))) ?_; (first | (go_simp; done) | (go_simp; (simp [↓IntWalk.iteOmega]; done)) | (go_simp; intros; omega) | (go_simp; simp [↓IntWalk.iteOmega]; intros; omega))) | skip
    all_goals (go_region; all_goals (go_wp2_with fail; refine ret_c Try.results16 rfl rfl Try.underlying26 rfl (by kernel_rfl) (by (repeat (first | with_reducible exact Below.refl _ _ | with_reducible assumption | with_reducible refine below_drewN ?_ _ | with_reducible refine Below.drew ?_ | with_reducible refine below_alloc ?_ _ | (with_reducible refine Below.setCell ?_ (by first | (simp; done) | omega | (simp; omega)) _) | with_reducible refine belows ?_ (by assumption)))) ?_; (first | (go_simp; done) | (go_simp; (simp [↓IntWalk.iteOmega]; done)) | (go_simp; intros; omega) | (go_simp; simp [↓IntWalk.iteOmega]; intros; omega))))
  · have e1' : i / 64 = 3 := e1
    rw [wd_upd_other f i false h0 h1 e3 hr (k := 0) (by decide), wd_upd_other f i false h0 h1 e3 hr (k := 1) (by decide), wd_upd_other f i false h0 h1 e3 hr (k := 2) (by decide), wd_upd_false f i h0 h1 e3 hr]
    clear e1 e3
    go_enter Try.func16, Try.ntmps16
    go_wp2_with (first | (go_at_call 21; (with_reducible refine (ci _).mono ?_); rintro e w' ⟨rfl, rfl⟩))
    all_goals first | (refine ret_c Try.results16 rfl rfl Try.underlying26 rfl (by kernel_rfl) (by (repeat (first | with_reducible exact Below.refl _ _ | with_reducible assumption | with_reducible refine below_drewN ?_ _ | with_reducible refine Below.drew ?_ | with_reducible refine below_alloc ?_ _ | (with_reducible refine Below.setCell ?_ (by first | (simp; done) | omega | (simp; omega)) _) | with_reducible refine belows ?_ (by assumption)))) ?_; (first | (go_simp; done) | (go_simp; (simp [↓IntWalk.iteOmega]; done)) | (go_simp; intros; omega) | (go_simp; simp [↓IntWalk.iteOmega]; intros; omega))) | skip
    all_goals (go_region; all_goals (go_wp2_with fail; refine ret_c Try.results16 rfl rfl Try.underlying26 rfl (by kernel_rfl) (by (repeat (first | with_reducible exact Below.refl _ _ | with_reducible assumption | with_reducible refine below_drewN ?_ _ | with_reducible refine Below.drew ?_ | with_reducible refine below_alloc ?_ _ | (with_reducible refine Below.setCell ?_ (by first | (simp; done) | omega | (simp; omega)) _) | with_reducible refine belows ?_ (by assumption)))) ?_; (first | (go_simp; done) | (go_simp; (simp [↓IntWalk.iteOmega]; done)) | (go_simp; intros; omega) | (go_simp; simp [↓IntWalk.iteOmega]; intros; omega))))
theorem with_any (f : Nat → Bool) (i : Int) (t : Bool) (w : World) : Calls Try.prog 16 #[.agg #[.int .u64 (U (wd f 0)), .int .u64 (U (wd f 1)), .int .u64 (U (wd f 2)), .int .u64 (U (wd f 3))], .int .i64 i, .bool t] w fun r w' => r = .returned (.agg #[.int .u64 (U (wd (updS f i t) 0)), .int .u64 (U (wd (updS f i t) 1)), .int .u64 (U (wd (updS f i t) 2)), .int .u64 (U (wd (updS f i t) 3))]) ∧ Below w.heap.size w w' := by
  by_cases h : 0 ≤ i ∧ i < 256
  · cases t
    · exact with_false f i h.1 h.2 w
    · exact with_true f i h.1 h.2 w
  · rw [upd_out f i t h]
    exact with_out f i t h w
end Go.Proofs.Ytfbkfbmfeaajkaa
