
/-
  Sets of granules, by the document: Get, With.
-/
import Derived.Test.YtfbkfbmfeaajkaaTagsW
namespace Go.Proofs.Ytfbkfbmfeaajkaa
open Go Go.RowKit
set_option linter.unusedVariables false
set_option linter.unusedSimpArgs false

theorem or_after (x b : BitVec 64) : (x &&& ~~~ b) ||| b = x ||| b := by
  apply ext64
  intro j hj
  rw [BitVec.getLsbD_or, BitVec.getLsbD_or, BitVec.getLsbD_and, BitVec.getLsbD_not, decide_eq_true hj]
  cases x.getLsbD j <;> cases b.getLsbD j <;> rfl
set_option maxHeartbeats 4000000 in
set_option maxRecDepth 100000 in
theorem rget_any (f : Nat → Bool) (i : Int) (w : World) : Calls Try.prog 15 #[.agg #[.int .u64 (U (wd f 0)), .int .u64 (U (wd f 1)), .int .u64 (U (wd f 2)), .int .u64 (U (wd f 3))], .int .i64 i] w fun r w' => r = .returned (.bool (getS f i)) ∧ Below w.heap.size w w' := by
  unfold getS
  cases h0 : decide (0 ≤ i)
  · go_enter Try.func15, Try.ntmps15
    go_wp2_with fail
    go_ret
    exact ⟨rfl, by (repeat (first | with_reducible exact Below.refl _ _ | with_reducible assumption | with_reducible refine below_drewN ?_ _ | with_reducible refine Below.drew ?_ | with_reducible refine below_alloc ?_ _ | (with_reducible refine Below.setCell ?_ (by first | (simp; done) | omega | (simp; omega)) _) | with_reducible refine belows ?_ (by assumption)))⟩
  · cases h1 : decide (i < 256)
    · go_enter Try.func15, Try.ntmps15
      go_wp2_with fail
      go_ret
      exact ⟨rfl, by (repeat (first | with_reducible exact Below.refl _ _ | with_reducible assumption | with_reducible refine below_drewN ?_ _ | with_reducible refine Below.drew ?_ | with_reducible refine below_alloc ?_ _ | (with_reducible refine Below.setCell ?_ (by first | (simp; done) | omega | (simp; omega)) _) | with_reducible refine belows ?_ (by assumption)))⟩
    · have g0 := of_decide_eq_true h0
      have g1 := of_decide_eq_true h1
      obtain ⟨q, r, hq, hr, e1, e2, e3⟩ := place i g0 g1
      rw [e3]
      clear e3
      have hr0 : (0 : Int) ≤ (r : Int) := by omega
      have hwr : IntKind.u64.wrap (r : Int) = (r : Int) := wrap_small _ (by omega) (by omega)
      rcases hq with rfl | rfl | rfl | rfl
      · have g := bit_test (wd f 0) r
        rw [wd_bit _ _ _ hr] at g
        generalize f (64 * 0 + r) = v at g ⊢
        have e1' : i / 64 = 0 := e1
        clear e1
        go_enter Try.func15, Try.ntmps15
        go_wp2_with fail
        go_ret
        exact ⟨ret_bool (by first | rfl | (simp [g]; done)), by (repeat (first | with_reducible exact Below.refl _ _ | with_reducible assumption | with_reducible refine below_drewN ?_ _ | with_reducible refine Below.drew ?_ | with_reducible refine below_alloc ?_ _ | (with_reducible refine Below.setCell ?_ (by first | (simp; done) | omega | (simp; omega)) _) | with_reducible refine belows ?_ (by assumption)))⟩
      · have g := bit_test (wd f 1) r
        rw [wd_bit _ _ _ hr] at g
        generalize f (64 * 1 + r) = v at g ⊢
        have e1' : i / 64 = 1 := e1
        clear e1
        go_enter Try.func15, Try.ntmps15
        go_wp2_with fail
        go_ret
        exact ⟨ret_bool (by first | rfl | (simp [g]; done)), by (repeat (first | with_reducible exact Below.refl _ _ | with_reducible assumption | with_reducible refine below_drewN ?_ _ | with_reducible refine Below.drew ?_ | with_reducible refine below_alloc ?_ _ | (with_reducible refine Below.setCell ?_ (by first | (simp; done) | omega | (simp; omega)) _) | with_reducible refine belows ?_ (by assumption)))⟩
      · have g := bit_test (wd f 2) r
        rw [wd_bit _ _ _ hr] at g
        generalize f (64 * 2 + r) = v at g ⊢
        have e1' : i / 64 = 2 := e1
        clear e1
        go_enter Try.func15, Try.ntmps15
        go_wp2_with fail
        go_ret
        exact ⟨ret_bool (by first | rfl | (simp [g]; done)), by (repeat (first | with_reducible exact Below.refl _ _ | with_reducible assumption | with_reducible refine below_drewN ?_ _ | with_reducible refine Below.drew ?_ | with_reducible refine below_alloc ?_ _ | (with_reducible refine Below.setCell ?_ (by first | (simp; done) | omega | (simp; omega)) _) | with_reducible refine belows ?_ (by assumption)))⟩
      · have g := bit_test (wd f 3) r
        rw [wd_bit _ _ _ hr] at g
        generalize f (64 * 3 + r) = v at g ⊢
        have e1' : i / 64 = 3 := e1
        clear e1
        go_enter Try.func15, Try.ntmps15
        go_wp2_with fail
        go_ret
        exact ⟨ret_bool (by first | rfl | (simp [g]; done)), by (repeat (first | with_reducible exact Below.refl _ _ | with_reducible assumption | with_reducible refine below_drewN ?_ _ | with_reducible refine Below.drew ?_ | with_reducible refine below_alloc ?_ _ | (with_reducible refine Below.setCell ?_ (by first | (simp; done) | omega | (simp; omega)) _) | with_reducible refine belows ?_ (by assumption)))⟩
set_option maxHeartbeats 4000000 in
set_option maxRecDepth 100000 in
theorem rwith_any (f : Nat → Bool) (i : Int) (t : Bool) (w : World) : Calls Try.prog 17 #[.agg #[.int .u64 (U (wd f 0)), .int .u64 (U (wd f 1)), .int .u64 (U (wd f 2)), .int .u64 (U (wd f 3))], .int .i64 i, .bool t] w fun r w' => r = .returned (.agg #[.int .u64 (U (wd (updS f i t) 0)), .int .u64 (U (wd (updS f i t) 1)), .int .u64 (U (wd (updS f i t) 2)), .int .u64 (U (wd (updS f i t) 3))]) ∧ Below w.heap.size w w' := by
  cases h0 : decide (i < 0)
  · have g0 := of_decide_eq_false h0
    cases h1 : decide (255 < i)
    · have g1 := of_decide_eq_false h1
      obtain ⟨q, r, hq, hr, e1, e2, e3⟩ := place i (by omega) (by omega)
      have hr0 : (0 : Int) ≤ (r : Int) := by omega
      have hwr : IntKind.u64.wrap (r : Int) = (r : Int) := wrap_small _ (by omega) (by omega)
      have p0 : 0 ≤ i := by omega
      have p1 : i < 256 := by omega
      rcases hq with rfl | rfl | rfl | rfl
      · have e1' : i / 64 = 0 := e1
        cases t
        · rw [wd_upd_false f i p0 p1 e3 hr, wd_upd_other f i false p0 p1 e3 hr (k := 1) (by decide), wd_upd_other f i false p0 p1 e3 hr (k := 2) (by decide), wd_upd_other f i false p0 p1 e3 hr (k := 3) (by decide)]
          clear e1 e3
          go_enter Try.func17, Try.ntmps17
          go_wp2_with fail
          refine ret_c Try.results17 rfl rfl Try.underlying25 rfl (by kernel_rfl) (by (repeat (first | with_reducible exact Below.refl _ _ | with_reducible assumption | with_reducible refine below_drewN ?_ _ | with_reducible refine Below.drew ?_ | with_reducible refine below_alloc ?_ _ | (with_reducible refine Below.setCell ?_ (by first | (simp; done) | omega | (simp; omega)) _) | with_reducible refine belows ?_ (by assumption)))) ?_
          (first | (go_simp; done) | (go_simp; (simp [↓IntWalk.iteOmega]; done)) | (go_simp; intros; omega) | (go_simp; simp [↓IntWalk.iteOmega]; intros; omega))
        · rw [wd_upd_true f i p0 p1 e3 hr, ← or_after, wd_upd_other f i true p0 p1 e3 hr (k := 1) (by decide), wd_upd_other f i true p0 p1 e3 hr (k := 2) (by decide), wd_upd_other f i true p0 p1 e3 hr (k := 3) (by decide)]
          clear e1 e3
          go_enter Try.func17, Try.ntmps17
          go_wp2_with fail
          refine ret_c Try.results17 rfl rfl Try.underlying25 rfl (by kernel_rfl) (by (repeat (first | with_reducible exact Below.refl _ _ | with_reducible assumption | with_reducible refine below_drewN ?_ _ | with_reducible refine Below.drew ?_ | with_reducible refine below_alloc ?_ _ | (with_reducible refine Below.setCell ?_ (by first | (simp; done) | omega | (simp; omega)) _) | with_reducible refine belows ?_ (by assumption)))) ?_
          (first | (go_simp; done) | (go_simp; (simp [↓IntWalk.iteOmega]; done)) | (go_simp; intros; omega) | (go_simp; simp [↓IntWalk.iteOmega]; intros; omega))
      · have e1' : i / 64 = 1 := e1
        cases t
        · rw [wd_upd_other f i false p0 p1 e3 hr (k := 0) (by decide), wd_upd_false f i p0 p1 e3 hr, wd_upd_other f i false p0 p1 e3 hr (k := 2) (by decide), wd_upd_other f i false p0 p1 e3 hr (k := 3) (by decide)]
          clear e1 e3
          go_enter Try.func17, Try.ntmps17
          go_wp2_with fail
          refine ret_c Try.results17 rfl rfl Try.underlying25 rfl (by kernel_rfl) (by (repeat (first | with_reducible exact Below.refl _ _ | with_reducible assumption | with_reducible refine below_drewN ?_ _ | with_reducible refine Below.drew ?_ | with_reducible refine below_alloc ?_ _ | (with_reducible refine Below.setCell ?_ (by first | (simp; done) | omega | (simp; omega)) _) | with_reducible refine belows ?_ (by assumption)))) ?_
          (first | (go_simp; done) | (go_simp; (simp [↓IntWalk.iteOmega]; done)) | (go_simp; intros; omega) | (go_simp; simp [↓IntWalk.iteOmega]; intros; omega))
        · rw [wd_upd_other f i true p0 p1 e3 hr (k := 0) (by decide), wd_upd_true f i p0 p1 e3 hr, ← or_after, wd_upd_other f i true p0 p1 e3 hr (k := 2) (by decide), wd_upd_other f i true p0 p1 e3 hr (k := 3) (by decide)]
          clear e1 e3
          go_enter Try.func17, Try.ntmps17
          go_wp2_with fail
          refine ret_c Try.results17 rfl rfl Try.underlying25 rfl (by kernel_rfl) (by (repeat (first | with_reducible exact Below.refl _ _ | with_reducible assumption | with_reducible refine below_drewN ?_ _ | with_reducible refine Below.drew ?_ | with_reducible refine below_alloc ?_ _ | (with_reducible refine Below.setCell ?_ (by first | (simp; done) | omega | (simp; omega)) _) | with_reducible refine belows ?_ (by assumption)))) ?_
          (first | (go_simp; done) | (go_simp; (simp [↓IntWalk.iteOmega]; done)) | (go_simp; intros; omega) | (go_simp; simp [↓IntWalk.iteOmega]; intros; omega))
      · have e1' : i / 64 = 2 := e1
        cases t
        · rw [wd_upd_other f i false p0 p1 e3 hr (k := 0) (by decide), wd_upd_other f i false p0 p1 e3 hr (k := 1) (by decide), wd_upd_false f i p0 p1 e3 hr, wd_upd_other f i false p0 p1 e3 hr (k := 3) (by decide)]
          clear e1 e3
          go_enter Try.func17, Try.ntmps17
          go_wp2_with fail
          refine ret_c Try.results17 rfl rfl Try.underlying25 rfl (by kernel_rfl) (by (repeat (first | with_reducible exact Below.refl _ _ | with_reducible assumption | with_reducible refine below_drewN ?_ _ | with_reducible refine Below.drew ?_ | with_reducible refine below_alloc ?_ _ | (with_reducible refine Below.setCell ?_ (by first | (simp; done) | omega | (simp; omega)) _) | with_reducible refine belows ?_ (by assumption)))) ?_
          (first | (go_simp; done) | (go_simp; (simp [↓IntWalk.iteOmega]; done)) | (go_simp; intros; omega) | (go_simp; simp [↓IntWalk.iteOmega]; intros; omega))
        · rw [wd_upd_other f i true p0 p1 e3 hr (k := 0) (by decide), wd_upd_other f i true p0 p1 e3 hr (k := 1) (by decide), wd_upd_true f i p0 p1 e3 hr, ← or_after, wd_upd_other f i true p0 p1 e3 hr (k := 3) (by decide)]
          clear e1 e3
          go_enter Try.func17, Try.ntmps17
          go_wp2_with fail
          refine ret_c Try.results17 rfl rfl Try.underlying25 rfl (by kernel_rfl) (by (repeat (first | with_reducible exact Below.refl _ _ | with_reducible assumption | with_reducible refine below_drewN ?_ _ | with_reducible refine Below.drew ?_ | with_reducible refine below_alloc ?_ _ | (with_reducible refine Below.setCell ?_ (by first | (simp; done) | omega | (simp; omega)) _) | with_reducible refine belows ?_ (by assumption)))) ?_
          (first | (go_simp; done) | (go_simp; (simp [↓IntWalk.iteOmega]; done)) | (go_simp; intros; omega) | (go_simp; simp [↓IntWalk.iteOmega]; intros; omega))
      · have e1' : i / 64 = 3 := e1
        cases t
        · rw [wd_upd_other f i false p0 p1 e3 hr (k := 0) (by decide), wd_upd_other f i false p0 p1 e3 hr (k := 1) (by decide), wd_upd_other f i false p0 p1 e3 hr (k := 2) (by decide), wd_upd_false f i p0 p1 e3 hr]
          clear e1 e3
          go_enter Try.func17, Try.ntmps17
          go_wp2_with fail
          refine ret_c Try.results17 rfl rfl Try.underlying25 rfl (by kernel_rfl) (by (repeat (first | with_reducible exact Below.refl _ _ | with_reducible assumption | with_reducible refine below_drewN ?_ _ | with_reducible refine Below.drew ?_ | with_reducible refine below_alloc ?_ _ | (with_reducible refine Below.setCell ?_ (by first | (simp; done) | omega | (simp; omega)) _) | with_reducible refine belows ?_ (by assumption)))) ?_
          (first | (go_simp; done) | (go_simp; (simp [↓IntWalk.iteOmega]; done)) | (go_simp; intros; omega) | (go_simp; simp [↓IntWalk.iteOmega]; intros; omega))
        · rw [wd_upd_other f i true p0 p1 e3 hr (k := 0) (by decide), wd_upd_other f i true p0 p1 e3 hr (k := 1) (by decide), wd_upd_other f i true p0 p1 e3 hr (k := 2) (by decide), wd_upd_true f i p0 p1 e3 hr, ← or_after]
          clear e1 e3
          go_enter Try.func17, Try.ntmps17
          go_wp2_with fail
          refine ret_c Try.results17 rfl rfl Try.underlying25 rfl (by kernel_rfl) (by (repeat (first | with_reducible exact Below.refl _ _ | with_reducible assumption | with_reducible refine below_drewN ?_ _ | with_reducible refine Below.drew ?_ | with_reducible refine below_alloc ?_ _ | (with_reducible refine Below.setCell ?_ (by first | (simp; done) | omega | (simp; omega)) _) | with_reducible refine belows ?_ (by assumption)))) ?_
          (first | (go_simp; done) | (go_simp; (simp [↓IntWalk.iteOmega]; done)) | (go_simp; intros; omega) | (go_simp; simp [↓IntWalk.iteOmega]; intros; omega))
    · have g1 := of_decide_eq_true h1
      rw [upd_out f i t (by omega)]
      clear g1
      go_enter Try.func17, Try.ntmps17
      go_wp2_with fail
      refine ret_c Try.results17 rfl rfl Try.underlying25 rfl (by kernel_rfl) (by (repeat (first | with_reducible exact Below.refl _ _ | with_reducible assumption | with_reducible refine below_drewN ?_ _ | with_reducible refine Below.drew ?_ | with_reducible refine below_alloc ?_ _ | (with_reducible refine Below.setCell ?_ (by first | (simp; done) | omega | (simp; omega)) _) | with_reducible refine belows ?_ (by assumption)))) ?_
      (first | (go_simp; done) | (go_simp; (simp [↓IntWalk.iteOmega]; done)) | (go_simp; intros; omega) | (go_simp; simp [↓IntWalk.iteOmega]; intros; omega))
  · have g0 := of_decide_eq_true h0
    rw [upd_out f i t (by omega)]
    clear g0
    go_enter Try.func17, Try.ntmps17
    go_wp2_with fail
    refine ret_c Try.results17 rfl rfl Try.underlying25 rfl (by kernel_rfl) (by (repeat (first | with_reducible exact Below.refl _ _ | with_reducible assumption | with_reducible refine below_drewN ?_ _ | with_reducible refine Below.drew ?_ | with_reducible refine below_alloc ?_ _ | (with_reducible refine Below.setCell ?_ (by first | (simp; done) | omega | (simp; omega)) _) | with_reducible refine belows ?_ (by assumption)))) ?_
    (first | (go_simp; done) | (go_simp; (simp [↓IntWalk.iteOmega]; done)) | (go_simp; intros; omega) | (go_simp; simp [↓IntWalk.iteOmega]; intros; omega))
end Go.Proofs.Ytfbkfbmfeaajkaa
