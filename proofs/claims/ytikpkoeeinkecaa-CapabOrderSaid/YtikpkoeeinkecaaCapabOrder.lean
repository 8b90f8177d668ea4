
/-
  CapabOrder: what is within another one is within what that is within; two that are within each other have one span, and the same permissions. Every input.
-/
import Derived.Test.YtikpkoeeinkecaaRows
import Derived.Test.YtikpkoeeinkecaaLaw
import Derived.Test.YtikpkoeeinkecaaCapabRoots
import Derived.Test.YtikpkoeeinkecaaCapabP
import Derived.Test.YtikpkoeeinkecaaTail
namespace Go.Proofs.Ytikpkoeeinkecaa.Order
open Go Go.RowKit Go.ChangeShapes Go.WideShapes Go.ChangeAt
set_option linter.unusedVariables false
set_option linter.unusedSimpArgs false

theorem split8 (p q r s e1 e2 : Bool) (ht : p = true → q = true → r = true) (hb : (p && s) = (e1 && e2)) : (p = false ∧ e1 = false) ∨ (p = false ∧ e1 = true ∧ e2 = false) ∨ (p = true ∧ q = false ∧ s = false ∧ e1 = false) ∨ (p = true ∧ q = false ∧ s = false ∧ e1 = true ∧ e2 = false) ∨ (p = true ∧ q = false ∧ s = true ∧ e1 = true ∧ e2 = true) ∨ (p = true ∧ q = true ∧ r = true ∧ s = false ∧ e1 = false) ∨ (p = true ∧ q = true ∧ r = true ∧ s = false ∧ e1 = true ∧ e2 = false) ∨ (p = true ∧ q = true ∧ r = true ∧ s = true ∧ e1 = true ∧ e2 = true) := by
  cases p <;> cases q <;> cases r <;> cases s <;> cases e1 <;> cases e2 <;> simp_all
set_option maxHeartbeats 4000000 in
set_option maxRecDepth 100000 in
theorem core_0 (bp bq br bs e1 e2 : Bool) (b0 t0 p0 y0 M0 A0 b1 t1 p1 y1 M1 A1 b2 t2 p2 y2 M2 A2 : BitVec 64)  (m0 : ∀ w : World, Calls Try.prog 9 #[.agg #[.int .u64 (U b0), .int .u64 (U t0), .int .u64 (U p0), .int .u64 (U y0)], .int .u64 (U b0)] w fun r w' => r = .returned (.tuple #[.agg #[.bool false, .int .u64 (U M0), .int .u64 (U A0)], .bool false]) ∧ Below w.heap.size w w') (w : World) : Calls Try.prog 5 #[.agg #[.int .u64 (U b0), .int .u64 (U t0), .int .u64 (U p0), .int .u64 (U y0), .int .u64 (U b1), .int .u64 (U t1), .int .u64 (U p1), .int .u64 (U y1), .int .u64 (U b2), .int .u64 (U t2), .int .u64 (U p2), .int .u64 (U y2)]] w fun r w' => r = .returned (.bool true) ∧ Below w.heap.size w w' := by
  go_enter Try.func5, Try.ntmps5
  go_wp2_with fail
  refine wp_loop_rounds 4 ?_
  rw [rounds_succ]
  go_upto_region 5 with (fail)
  go_cut [5, 6] from 15 to 26 (fun s5 s6 wx => ∃ c : Nat, s5 = .pointer (some ⟨c, 0, none⟩) ∧ s6 = .bool false ∧ w.heap.size + 2 ≤ c ∧ c < wx.heap.size ∧ Hid (Below w.heap.size w wx) ∧ Hid (cellsAre wx w.heap.size 0 [.int .u64 (U b0), .int .u64 (U t0), .int .u64 (U p0), .int .u64 (U y0), .int .u64 (U b1), .int .u64 (U t1), .int .u64 (U p1), .int .u64 (U y1), .int .u64 (U b2), .int .u64 (U t2), .int .u64 (U p2), .int .u64 (U y2)] ∧ cellsAre wx (w.heap.size + 1) 0 [.bool false, .int .u64 0, .int .u64 0, .bool false, .int .u64 0, .int .u64 0, .bool false, .int .u64 0, .int .u64 0] ∧ cellsAre wx c 0 [.bool false, .int .u64 (U M0), .int .u64 (U A0)]) ∧ Hid (∀ o : Nat, o < 9 → wx.frozen? ⟨w.heap.size + 1, o, none⟩ = false))
  case first =>
    go_wp2_with fail
    go_region_held3 (fun w'' => Below w.heap.size w w'' ∧ w.heap.size + 2 ≤ w''.heap.size ∧ w''.cell? ⟨w.heap.size, 0, none⟩ = some (.int .u64 (U b0)) ∧ w''.cell? ⟨w.heap.size, 1, none⟩ = some (.int .u64 (U t0)) ∧ w''.cell? ⟨w.heap.size, 2, none⟩ = some (.int .u64 (U p0)) ∧ w''.cell? ⟨w.heap.size, 3, none⟩ = some (.int .u64 (U y0)))
      (first
        | (go_keep; done)
        | (refine ⟨?_, ?_, ?_, ?_, ?_, ?_⟩; (· (repeat (first | with_reducible exact Below.refl _ _ | with_reducible assumption | with_reducible refine below_drewN ?_ _ | with_reducible refine Below.drew ?_ | with_reducible refine below_alloc ?_ _ | (with_reducible refine Below.setCell ?_ (by first | (simp; done) | omega | (simp; omega)) _) | with_reducible refine belows ?_ (by assumption)))); (· first | omega | (simp; done) | (simp; omega)); (· (first | (go_simp; done) | (go_simp; (simp [↓IntWalk.iteOmega]; done)) | (go_simp; intros; omega) | (go_simp; simp [↓IntWalk.iteOmega]; intros; omega))); (· (first | (go_simp; done) | (go_simp; (simp [↓IntWalk.iteOmega]; done)) | (go_simp; intros; omega) | (go_simp; simp [↓IntWalk.iteOmega]; intros; omega))); (· (first | (go_simp; done) | (go_simp; (simp [↓IntWalk.iteOmega]; done)) | (go_simp; intros; omega) | (go_simp; simp [↓IntWalk.iteOmega]; intros; omega))); (· (first | (go_simp; done) | (go_simp; (simp [↓IntWalk.iteOmega]; done)) | (go_simp; intros; omega) | (go_simp; simp [↓IntWalk.iteOmega]; intros; omega)))))
      (first | (go_at_call 9; (with_reducible refine (m0 _).mono ?_); rintro e w' ⟨rfl, hbl⟩; obtain ⟨hcw, hfw, hsw⟩ := below_ifs hbl; (try simp only [World.size_alloc, World.size_setCell, World.size_drew, size_drewN_] at hcw hfw hsw)))
    all_goals go_wp2_with fail
    all_goals go_meet
    all_goals refine ⟨_, rfl, rfl, by first | omega | (simp; done) | (simp; omega), by first | omega | (simp; done) | (simp; omega), Lib.hid ?_, Lib.hid ?_, Lib.hid ?_⟩
    all_goals first | (refine ⟨?_, ?_, ?_⟩ <;> (first | (go_simp; done) | (go_simp; (simp [↓IntWalk.iteOmega]; done)) | (go_simp; intros; omega) | (go_simp; simp [↓IntWalk.iteOmega]; intros; omega))) | ((intro o ho; obtain rfl | rfl | rfl | rfl | rfl | rfl | rfl | rfl | rfl : o = 0 ∨ o = 1 ∨ o = 2 ∨ o = 3 ∨ o = 4 ∨ o = 5 ∨ o = 6 ∨ o = 7 ∨ o = 8 := by omega) <;> (first | (go_simp; done) | (go_simp; (simp [↓IntWalk.iteOmega]; done)) | (go_simp; intros; omega) | (go_simp; simp [↓IntWalk.iteOmega]; intros; omega))) | (repeat (first | with_reducible exact Below.refl _ _ | with_reducible assumption | with_reducible refine below_drewN ?_ _ | with_reducible refine Below.drew ?_ | with_reducible refine below_alloc ?_ _ | (with_reducible refine Below.setCell ?_ (by first | (simp; done) | omega | (simp; omega)) _) | with_reducible refine belows ?_ (by assumption)))
  case rest =>
  obtain ⟨c0, rfl, rfl, hc0, hd0, HB, HC, HF⟩ := hcut
  obtain ⟨c0, c1, c2⟩ := HC.out
  have hB0 := HB.out
  have f0_0 := HF.out 0 (by omega)
  have f0_1 := HF.out 1 (by omega)
  have f0_2 := HF.out 2 (by omega)
  have f0_3 := HF.out 3 (by omega)
  have f0_4 := HF.out 4 (by omega)
  have f0_5 := HF.out 5 (by omega)
  have f0_6 := HF.out 6 (by omega)
  have f0_7 := HF.out 7 (by omega)
  have f0_8 := HF.out 8 (by omega)
  simp only [cellsAre_cons, cellsAre_nil] at c0 c1 c2
  obtain ⟨p0_0, p0_1, p0_2, p0_3, p0_4, p0_5, p0_6, p0_7, p0_8, p0_9, p0_10, p0_11, _⟩ := c0
  obtain ⟨q0_0, q0_1, q0_2, q0_3, q0_4, q0_5, q0_6, q0_7, q0_8, _⟩ := c1
  obtain ⟨r0_0, r0_1, r0_2, _⟩ := c2
  clear HB HC HF
  go_wp2_with (first | (go_at_call 14; (with_reducible refine (one_any _).mono ?_); rintro e w' ⟨rfl, hbl⟩; obtain ⟨hcw, hfw, hsw⟩ := below_ifs hbl; (try simp only [World.size_alloc, World.size_setCell, World.size_drew, size_drewN_] at hcw hfw hsw)))
  go_ret
  exact ⟨rfl, by (repeat (first | with_reducible exact Below.refl _ _ | with_reducible assumption | with_reducible refine below_drewN ?_ _ | with_reducible refine Below.drew ?_ | with_reducible refine below_alloc ?_ _ | (with_reducible refine Below.setCell ?_ (by first | (simp; done) | omega | (simp; omega)) _) | with_reducible refine belows ?_ (by assumption)))⟩
set_option maxHeartbeats 4000000 in
set_option maxRecDepth 100000 in
theorem core_1 (bp bq br bs e1 e2 : Bool) (b0 t0 p0 y0 M0 A0 b1 t1 p1 y1 M1 A1 b2 t2 p2 y2 M2 A2 : BitVec 64)  (m0 : ∀ w : World, Calls Try.prog 9 #[.agg #[.int .u64 (U b0), .int .u64 (U t0), .int .u64 (U p0), .int .u64 (U y0)], .int .u64 (U b0)] w fun r w' => r = .returned (.tuple #[.agg #[.bool false, .int .u64 (U M0), .int .u64 (U A0)], .bool true]) ∧ Below w.heap.size w w') (m1 : ∀ w : World, Calls Try.prog 9 #[.agg #[.int .u64 (U b1), .int .u64 (U t1), .int .u64 (U p1), .int .u64 (U y1)], .int .u64 (U b1)] w fun r w' => r = .returned (.tuple #[.agg #[.bool false, .int .u64 (U M1), .int .u64 (U A1)], .bool false]) ∧ Below w.heap.size w w') (w : World) : Calls Try.prog 5 #[.agg #[.int .u64 (U b0), .int .u64 (U t0), .int .u64 (U p0), .int .u64 (U y0), .int .u64 (U b1), .int .u64 (U t1), .int .u64 (U p1), .int .u64 (U y1), .int .u64 (U b2), .int .u64 (U t2), .int .u64 (U p2), .int .u64 (U y2)]] w fun r w' => r = .returned (.bool true) ∧ Below w.heap.size w w' := by
  go_enter Try.func5, Try.ntmps5
  go_wp2_with fail
  refine wp_loop_rounds 4 ?_
  rw [rounds_succ]
  go_upto_region 5 with (fail)
  go_cut [5, 6] from 15 to 26 (fun s5 s6 wx => ∃ c : Nat, s5 = .pointer (some ⟨c, 0, none⟩) ∧ s6 = .bool true ∧ w.heap.size + 2 ≤ c ∧ c < wx.heap.size ∧ Hid (Below w.heap.size w wx) ∧ Hid (cellsAre wx w.heap.size 0 [.int .u64 (U b0), .int .u64 (U t0), .int .u64 (U p0), .int .u64 (U y0), .int .u64 (U b1), .int .u64 (U t1), .int .u64 (U p1), .int .u64 (U y1), .int .u64 (U b2), .int .u64 (U t2), .int .u64 (U p2), .int .u64 (U y2)] ∧ cellsAre wx (w.heap.size + 1) 0 [.bool false, .int .u64 0, .int .u64 0, .bool false, .int .u64 0, .int .u64 0, .bool false, .int .u64 0, .int .u64 0] ∧ cellsAre wx c 0 [.bool false, .int .u64 (U M0), .int .u64 (U A0)]) ∧ Hid (∀ o : Nat, o < 9 → wx.frozen? ⟨w.heap.size + 1, o, none⟩ = false))
  case first =>
    go_wp2_with fail
    go_region_held3 (fun w'' => Below w.heap.size w w'' ∧ w.heap.size + 2 ≤ w''.heap.size ∧ w''.cell? ⟨w.heap.size, 0, none⟩ = some (.int .u64 (U b0)) ∧ w''.cell? ⟨w.heap.size, 1, none⟩ = some (.int .u64 (U t0)) ∧ w''.cell? ⟨w.heap.size, 2, none⟩ = some (.int .u64 (U p0)) ∧ w''.cell? ⟨w.heap.size, 3, none⟩ = some (.int .u64 (U y0)))
      (first
        | (go_keep; done)
        | (refine ⟨?_, ?_, ?_, ?_, ?_, ?_⟩; (· (repeat (first | with_reducible exact Below.refl _ _ | with_reducible assumption | with_reducible refine below_drewN ?_ _ | with_reducible refine Below.drew ?_ | with_reducible refine below_alloc ?_ _ | (with_reducible refine Below.setCell ?_ (by first | (simp; done) | omega | (simp; omega)) _) | with_reducible refine belows ?_ (by assumption)))); (· first | omega | (simp; done) | (simp; omega)); (· (first | (go_simp; done) | (go_simp; (simp [↓IntWalk.iteOmega]; done)) | (go_simp; intros; omega) | (go_simp; simp [↓IntWalk.iteOmega]; intros; omega))); (· (first | (go_simp; done) | (go_simp; (simp [↓IntWalk.iteOmega]; done)) | (go_simp; intros; omega) | (go_simp; simp [↓IntWalk.iteOmega]; intros; omega))); (· (first | (go_simp; done) | (go_simp; (simp [↓IntWalk.iteOmega]; done)) | (go_simp; intros; omega) | (go_simp; simp [↓IntWalk.iteOmega]; intros; omega))); (· (first | (go_simp; done) | (go_simp; (simp [↓IntWalk.iteOmega]; done)) | (go_simp; intros; omega) | (go_simp; simp [↓IntWalk.iteOmega]; intros; omega)))))
      (first | (go_at_call 9; (with_reducible refine (m0 _).mono ?_); rintro e w' ⟨rfl, hbl⟩; obtain ⟨hcw, hfw, hsw⟩ := below_ifs hbl; (try simp only [World.size_alloc, World.size_setCell, World.size_drew, size_drewN_] at hcw hfw hsw)))
    all_goals go_wp2_with fail
    all_goals go_meet
    all_goals refine ⟨_, rfl, rfl, by first | omega | (simp; done) | (simp; omega), by first | omega | (simp; done) | (simp; omega), Lib.hid ?_, Lib.hid ?_, Lib.hid ?_⟩
    all_goals first | (refine ⟨?_, ?_, ?_⟩ <;> (first | (go_simp; done) | (go_simp; (simp [↓IntWalk.iteOmega]; done)) | (go_simp; intros; omega) | (go_simp; simp [↓IntWalk.iteOmega]; intros; omega))) | ((intro o ho; obtain rfl | rfl | rfl | rfl | rfl | rfl | rfl | rfl | rfl : o = 0 ∨ o = 1 ∨ o = 2 ∨ o = 3 ∨ o = 4 ∨ o = 5 ∨ o = 6 ∨ o = 7 ∨ o = 8 := by omega) <;> (first | (go_simp; done) | (go_simp; (simp [↓IntWalk.iteOmega]; done)) | (go_simp; intros; omega) | (go_simp; simp [↓IntWalk.iteOmega]; intros; omega))) | (repeat (first | with_reducible exact Below.refl _ _ | with_reducible assumption | with_reducible refine below_drewN ?_ _ | with_reducible refine Below.drew ?_ | with_reducible refine below_alloc ?_ _ | (with_reducible refine Below.setCell ?_ (by first | (simp; done) | omega | (simp; omega)) _) | with_reducible refine belows ?_ (by assumption)))
  case rest =>
  obtain ⟨c0, rfl, rfl, hc0, hd0, HB, HC, HF⟩ := hcut
  obtain ⟨c0, c1, c2⟩ := HC.out
  have hB0 := HB.out
  have f0_0 := HF.out 0 (by omega)
  have f0_1 := HF.out 1 (by omega)
  have f0_2 := HF.out 2 (by omega)
  have f0_3 := HF.out 3 (by omega)
  have f0_4 := HF.out 4 (by omega)
  have f0_5 := HF.out 5 (by omega)
  have f0_6 := HF.out 6 (by omega)
  have f0_7 := HF.out 7 (by omega)
  have f0_8 := HF.out 8 (by omega)
  simp only [cellsAre_cons, cellsAre_nil] at c0 c1 c2
  obtain ⟨p0_0, p0_1, p0_2, p0_3, p0_4, p0_5, p0_6, p0_7, p0_8, p0_9, p0_10, p0_11, _⟩ := c0
  obtain ⟨q0_0, q0_1, q0_2, q0_3, q0_4, q0_5, q0_6, q0_7, q0_8, _⟩ := c1
  obtain ⟨r0_0, r0_1, r0_2, _⟩ := c2
  clear HB HC HF
  go_wp2_with fail
  rw [rounds_succ]
  go_upto_region 5 with (fail)
  go_cut [5, 6] from 15 to 26 (fun s5 s6 wx => ∃ c : Nat, s5 = .pointer (some ⟨c, 0, none⟩) ∧ s6 = .bool false ∧ w.heap.size + 2 ≤ c ∧ c < wx.heap.size ∧ Hid (Below w.heap.size w wx) ∧ Hid (cellsAre wx w.heap.size 0 [.int .u64 (U b0), .int .u64 (U t0), .int .u64 (U p0), .int .u64 (U y0), .int .u64 (U b1), .int .u64 (U t1), .int .u64 (U p1), .int .u64 (U y1), .int .u64 (U b2), .int .u64 (U t2), .int .u64 (U p2), .int .u64 (U y2)] ∧ cellsAre wx (w.heap.size + 1) 0 [.bool false, .int .u64 (U M0), .int .u64 (U A0), .bool false, .int .u64 0, .int .u64 0, .bool false, .int .u64 0, .int .u64 0] ∧ cellsAre wx c 0 [.bool false, .int .u64 (U M1), .int .u64 (U A1)]) ∧ Hid (∀ o : Nat, o < 9 → wx.frozen? ⟨w.heap.size + 1, o, none⟩ = false))
  case first =>
    go_wp2_with fail
    go_region_held3 (fun w'' => Below w.heap.size w w'' ∧ w.heap.size + 2 ≤ w''.heap.size ∧ w''.cell? ⟨w.heap.size, 4, none⟩ = some (.int .u64 (U b1)) ∧ w''.cell? ⟨w.heap.size, 5, none⟩ = some (.int .u64 (U t1)) ∧ w''.cell? ⟨w.heap.size, 6, none⟩ = some (.int .u64 (U p1)) ∧ w''.cell? ⟨w.heap.size, 7, none⟩ = some (.int .u64 (U y1)))
      (first
        | (go_keep; done)
        | (refine ⟨?_, ?_, ?_, ?_, ?_, ?_⟩; (· (repeat (first | with_reducible exact Below.refl _ _ | with_reducible assumption | with_reducible refine below_drewN ?_ _ | with_reducible refine Below.drew ?_ | with_reducible refine below_alloc ?_ _ | (with_reducible refine Below.setCell ?_ (by first | (simp; done) | omega | (simp; omega)) _) | with_reducible refine belows ?_ (by assumption)))); (· first | omega | (simp; done) | (simp; omega)); (· (first | (go_simp; done) | (go_simp; (simp [↓IntWalk.iteOmega]; done)) | (go_simp; intros; omega) | (go_simp; simp [↓IntWalk.iteOmega]; intros; omega))); (· (first | (go_simp; done) | (go_simp; (simp [↓IntWalk.iteOmega]; done)) | (go_simp; intros; omega) | (go_simp; simp [↓IntWalk.iteOmega]; intros; omega))); (· (first | (go_simp; done) | (go_simp; (simp [↓IntWalk.iteOmega]; done)) | (go_simp; intros; omega) | (go_simp; simp [↓IntWalk.iteOmega]; intros; omega))); (· (first | (go_simp; done) | (go_simp; (simp [↓IntWalk.iteOmega]; done)) | (go_simp; intros; omega) | (go_simp; simp [↓IntWalk.iteOmega]; intros; omega)))))
      (first | (go_at_call 9; (with_reducible refine (m1 _).mono ?_); rintro e w' ⟨rfl, hbl⟩; obtain ⟨hcw, hfw, hsw⟩ := below_ifs hbl; (try simp only [World.size_alloc, World.size_setCell, World.size_drew, size_drewN_] at hcw hfw hsw)))
    all_goals go_wp2_with fail
    all_goals go_meet
    all_goals refine ⟨_, rfl, rfl, by first | omega | (simp; done) | (simp; omega), by first | omega | (simp; done) | (simp; omega), Lib.hid ?_, Lib.hid ?_, Lib.hid ?_⟩
    all_goals first | (refine ⟨?_, ?_, ?_⟩ <;> (first | (go_simp; done) | (go_simp; (simp [↓IntWalk.iteOmega]; done)) | (go_simp; intros; omega) | (go_simp; simp [↓IntWalk.iteOmega]; intros; omega))) | ((intro o ho; obtain rfl | rfl | rfl | rfl | rfl | rfl | rfl | rfl | rfl : o = 0 ∨ o = 1 ∨ o = 2 ∨ o = 3 ∨ o = 4 ∨ o = 5 ∨ o = 6 ∨ o = 7 ∨ o = 8 := by omega) <;> (first | (go_simp; done) | (go_simp; (simp [↓IntWalk.iteOmega]; done)) | (go_simp; intros; omega) | (go_simp; simp [↓IntWalk.iteOmega]; intros; omega))) | (repeat (first | with_reducible exact Below.refl _ _ | with_reducible assumption | with_reducible refine below_drewN ?_ _ | with_reducible refine Below.drew ?_ | with_reducible refine below_alloc ?_ _ | (with_reducible refine Below.setCell ?_ (by first | (simp; done) | omega | (simp; omega)) _) | with_reducible refine belows ?_ (by assumption)))
  case rest =>
  obtain ⟨c1, rfl, rfl, hc1, hd1, HB, HC, HF⟩ := hcut
  obtain ⟨c0, c1, c2⟩ := HC.out
  have hB1 := HB.out
  have f1_0 := HF.out 0 (by omega)
  have f1_1 := HF.out 1 (by omega)
  have f1_2 := HF.out 2 (by omega)
  have f1_3 := HF.out 3 (by omega)
  have f1_4 := HF.out 4 (by omega)
  have f1_5 := HF.out 5 (by omega)
  have f1_6 := HF.out 6 (by omega)
  have f1_7 := HF.out 7 (by omega)
  have f1_8 := HF.out 8 (by omega)
  simp only [cellsAre_cons, cellsAre_nil] at c0 c1 c2
  obtain ⟨p1_0, p1_1, p1_2, p1_3, p1_4, p1_5, p1_6, p1_7, p1_8, p1_9, p1_10, p1_11, _⟩ := c0
  obtain ⟨q1_0, q1_1, q1_2, q1_3, q1_4, q1_5, q1_6, q1_7, q1_8, _⟩ := c1
  obtain ⟨r1_0, r1_1, r1_2, _⟩ := c2
  clear HB HC HF
  go_wp2_with (first | (go_at_call 14; (with_reducible refine (one_any _).mono ?_); rintro e w' ⟨rfl, hbl⟩; obtain ⟨hcw, hfw, hsw⟩ := below_ifs hbl; (try simp only [World.size_alloc, World.size_setCell, World.size_drew, size_drewN_] at hcw hfw hsw)))
  go_ret
  exact ⟨rfl, by (repeat (first | with_reducible exact Below.refl _ _ | with_reducible assumption | with_reducible refine below_drewN ?_ _ | with_reducible refine Below.drew ?_ | with_reducible refine below_alloc ?_ _ | (with_reducible refine Below.setCell ?_ (by first | (simp; done) | omega | (simp; omega)) _) | with_reducible refine belows ?_ (by assumption)))⟩
set_option maxHeartbeats 4000000 in
set_option maxRecDepth 100000 in
theorem core_2 (bp bq br bs e1 e2 : Bool) (b0 t0 p0 y0 M0 A0 b1 t1 p1 y1 M1 A1 b2 t2 p2 y2 M2 A2 : BitVec 64)  (m0 : ∀ w : World, Calls Try.prog 9 #[.agg #[.int .u64 (U b0), .int .u64 (U t0), .int .u64 (U p0), .int .u64 (U y0)], .int .u64 (U b0)] w fun r w' => r = .returned (.tuple #[.agg #[.bool false, .int .u64 (U M0), .int .u64 (U A0)], .bool true]) ∧ Below w.heap.size w w') (m1 : ∀ w : World, Calls Try.prog 9 #[.agg #[.int .u64 (U b1), .int .u64 (U t1), .int .u64 (U p1), .int .u64 (U y1)], .int .u64 (U b1)] w fun r w' => r = .returned (.tuple #[.agg #[.bool false, .int .u64 (U M1), .int .u64 (U A1)], .bool true]) ∧ Below w.heap.size w w') (m2 : ∀ w : World, Calls Try.prog 9 #[.agg #[.int .u64 (U b2), .int .u64 (U t2), .int .u64 (U p2), .int .u64 (U y2)], .int .u64 (U b2)] w fun r w' => r = .returned (.tuple #[.agg #[.bool false, .int .u64 (U M2), .int .u64 (U A2)], .bool false]) ∧ Below w.heap.size w w') (w : World) : Calls Try.prog 5 #[.agg #[.int .u64 (U b0), .int .u64 (U t0), .int .u64 (U p0), .int .u64 (U y0), .int .u64 (U b1), .int .u64 (U t1), .int .u64 (U p1), .int .u64 (U y1), .int .u64 (U b2), .int .u64 (U t2), .int .u64 (U p2), .int .u64 (U y2)]] w fun r w' => r = .returned (.bool true) ∧ Below w.heap.size w w' := by
  go_enter Try.func5, Try.ntmps5
  go_wp2_with fail
  refine wp_loop_rounds 4 ?_
  rw [rounds_succ]
  go_upto_region 5 with (fail)
  go_cut [5, 6] from 15 to 26 (fun s5 s6 wx => ∃ c : Nat, s5 = .pointer (some ⟨c, 0, none⟩) ∧ s6 = .bool true ∧ w.heap.size + 2 ≤ c ∧ c < wx.heap.size ∧ Hid (Below w.heap.size w wx) ∧ Hid (cellsAre wx w.heap.size 0 [.int .u64 (U b0), .int .u64 (U t0), .int .u64 (U p0), .int .u64 (U y0), .int .u64 (U b1), .int .u64 (U t1), .int .u64 (U p1), .int .u64 (U y1), .int .u64 (U b2), .int .u64 (U t2), .int .u64 (U p2), .int .u64 (U y2)] ∧ cellsAre wx (w.heap.size + 1) 0 [.bool false, .int .u64 0, .int .u64 0, .bool false, .int .u64 0, .int .u64 0, .bool false, .int .u64 0, .int .u64 0] ∧ cellsAre wx c 0 [.bool false, .int .u64 (U M0), .int .u64 (U A0)]) ∧ Hid (∀ o : Nat, o < 9 → wx.frozen? ⟨w.heap.size + 1, o, none⟩ = false))
  case first =>
    go_wp2_with fail
    go_region_held3 (fun w'' => Below w.heap.size w w'' ∧ w.heap.size + 2 ≤ w''.heap.size ∧ w''.cell? ⟨w.heap.size, 0, none⟩ = some (.int .u64 (U b0)) ∧ w''.cell? ⟨w.heap.size, 1, none⟩ = some (.int .u64 (U t0)) ∧ w''.cell? ⟨w.heap.size, 2, none⟩ = some (.int .u64 (U p0)) ∧ w''.cell? ⟨w.heap.size, 3, none⟩ = some (.int .u64 (U y0)))
      (first
        | (go_keep; done)
        | (refine ⟨?_, ?_, ?_, ?_, ?_, ?_⟩; (· (repeat (first | with_reducible exact Below.refl _ _ | with_reducible assumption | with_reducible refine below_drewN ?_ _ | with_reducible refine Below.drew ?_ | with_reducible refine below_alloc ?_ _ | (with_reducible refine Below.setCell ?_ (by first | (simp; done) | omega | (simp; omega)) _) | with_reducible refine belows ?_ (by assumption)))); (· first | omega | (simp; done) | (simp; omega)); (· (first | (go_simp; done) | (go_simp; (simp [↓IntWalk.iteOmega]; done)) | (go_simp; intros; omega) | (go_simp; simp [↓IntWalk.iteOmega]; intros; omega))); (· (first | (go_simp; done) | (go_simp; (simp [↓IntWalk.iteOmega]; done)) | (go_simp; intros; omega) | (go_simp; simp [↓IntWalk.iteOmega]; intros; omega))); (· (first | (go_simp; done) | (go_simp; (simp [↓IntWalk.iteOmega]; done)) | (go_simp; intros; omega) | (go_simp; simp [↓IntWalk.iteOmega]; intros; omega))); (· (first | (go_simp; done) | (go_simp; (simp [↓IntWalk.iteOmega]; done)) | (go_simp; intros; omega) | (go_simp; simp [↓IntWalk.iteOmega]; intros; omega)))))
      (first | (go_at_call 9; (with_reducible refine (m0 _).mono ?_); rintro e w' ⟨rfl, hbl⟩; obtain ⟨hcw, hfw, hsw⟩ := below_ifs hbl; (try simp only [World.size_alloc, World.size_setCell, World.size_drew, size_drewN_] at hcw hfw hsw)))
    all_goals go_wp2_with fail
    all_goals go_meet
    all_goals refine ⟨_, rfl, rfl, by first | omega | (simp; done) | (simp; omega), by first | omega | (simp; done) | (simp; omega), Lib.hid ?_, Lib.hid ?_, Lib.hid ?_⟩
    all_goals first | (refine ⟨?_, ?_, ?_⟩ <;> (first | (go_simp; done) | (go_simp; (simp [↓IntWalk.iteOmega]; done)) | (go_simp; intros; omega) | (go_simp; simp [↓IntWalk.iteOmega]; intros; omega))) | ((intro o ho; obtain rfl | rfl | rfl | rfl | rfl | rfl | rfl | rfl | rfl : o = 0 ∨ o = 1 ∨ o = 2 ∨ o = 3 ∨ o = 4 ∨ o = 5 ∨ o = 6 ∨ o = 7 ∨ o = 8 := by omega) <;> (first | (go_simp; done) | (go_simp; (simp [↓IntWalk.iteOmega]; done)) | (go_simp; intros; omega) | (go_simp; simp [↓IntWalk.iteOmega]; intros; omega))) | (repeat (first | with_reducible exact Below.refl _ _ | with_reducible assumption | with_reducible refine below_drewN ?_ _ | with_reducible refine Below.drew ?_ | with_reducible refine below_alloc ?_ _ | (with_reducible refine Below.setCell ?_ (by first | (simp; done) | omega | (simp; omega)) _) | with_reducible refine belows ?_ (by assumption)))
  case rest =>
  obtain ⟨c0, rfl, rfl, hc0, hd0, HB, HC, HF⟩ := hcut
  obtain ⟨c0, c1, c2⟩ := HC.out
  have hB0 := HB.out
  have f0_0 := HF.out 0 (by omega)
  have f0_1 := HF.out 1 (by omega)
  have f0_2 := HF.out 2 (by omega)
  have f0_3 := HF.out 3 (by omega)
  have f0_4 := HF.out 4 (by omega)
  have f0_5 := HF.out 5 (by omega)
  have f0_6 := HF.out 6 (by omega)
  have f0_7 := HF.out 7 (by omega)
  have f0_8 := HF.out 8 (by omega)
  simp only [cellsAre_cons, cellsAre_nil] at c0 c1 c2
  obtain ⟨p0_0, p0_1, p0_2, p0_3, p0_4, p0_5, p0_6, p0_7, p0_8, p0_9, p0_10, p0_11, _⟩ := c0
  obtain ⟨q0_0, q0_1, q0_2, q0_3, q0_4, q0_5, q0_6, q0_7, q0_8, _⟩ := c1
  obtain ⟨r0_0, r0_1, r0_2, _⟩ := c2
  clear HB HC HF
  go_wp2_with fail
  rw [rounds_succ]
  go_upto_region 5 with (fail)
  go_cut [5, 6] from 15 to 26 (fun s5 s6 wx => ∃ c : Nat, s5 = .pointer (some ⟨c, 0, none⟩) ∧ s6 = .bool true ∧ w.heap.size + 2 ≤ c ∧ c < wx.heap.size ∧ Hid (Below w.heap.size w wx) ∧ Hid (cellsAre wx w.heap.size 0 [.int .u64 (U b0), .int .u64 (U t0), .int .u64 (U p0), .int .u64 (U y0), .int .u64 (U b1), .int .u64 (U t1), .int .u64 (U p1), .int .u64 (U y1), .int .u64 (U b2), .int .u64 (U t2), .int .u64 (U p2), .int .u64 (U y2)] ∧ cellsAre wx (w.heap.size + 1) 0 [.bool false, .int .u64 (U M0), .int .u64 (U A0), .bool false, .int .u64 0, .int .u64 0, .bool false, .int .u64 0, .int .u64 0] ∧ cellsAre wx c 0 [.bool false, .int .u64 (U M1), .int .u64 (U A1)]) ∧ Hid (∀ o : Nat, o < 9 → wx.frozen? ⟨w.heap.size + 1, o, none⟩ = false))
  case first =>
    go_wp2_with fail
    go_region_held3 (fun w'' => Below w.heap.size w w'' ∧ w.heap.size + 2 ≤ w''.heap.size ∧ w''.cell? ⟨w.heap.size, 4, none⟩ = some (.int .u64 (U b1)) ∧ w''.cell? ⟨w.heap.size, 5, none⟩ = some (.int .u64 (U t1)) ∧ w''.cell? ⟨w.heap.size, 6, none⟩ = some (.int .u64 (U p1)) ∧ w''.cell? ⟨w.heap.size, 7, none⟩ = some (.int .u64 (U y1)))
      (first
        | (go_keep; done)
        | (refine ⟨?_, ?_, ?_, ?_, ?_, ?_⟩; (· (repeat (first | with_reducible exact Below.refl _ _ | with_reducible assumption | with_reducible refine below_drewN ?_ _ | with_reducible refine Below.drew ?_ | with_reducible refine below_alloc ?_ _ | (with_reducible refine Below.setCell ?_ (by first | (simp; done) | omega | (simp; omega)) _) | with_reducible refine belows ?_ (by assumption)))); (· first | omega | (simp; done) | (simp; omega)); (· (first | (go_simp; done) | (go_simp; (simp [↓IntWalk.iteOmega]; done)) | (go_simp; intros; omega) | (go_simp; simp [↓IntWalk.iteOmega]; intros; omega))); (· (first | (go_simp; done) | (go_simp; (simp [↓IntWalk.iteOmega]; done)) | (go_simp; intros; omega) | (go_simp; simp [↓IntWalk.iteOmega]; intros; omega))); (· (first | (go_simp; done) | (go_simp; (simp [↓IntWalk.iteOmega]; done)) | (go_simp; intros; omega) | (go_simp; simp [↓IntWalk.iteOmega]; intros; omega))); (· (first | (go_simp; done) | (go_simp; (simp [↓IntWalk.iteOmega]; done)) | (go_simp; intros; omega) | (go_simp; simp [↓IntWalk.iteOmega]; intros; omega)))))
      (first | (go_at_call 9; (with_reducible refine (m1 _).mono ?_); rintro e w' ⟨rfl, hbl⟩; obtain ⟨hcw, hfw, hsw⟩ := below_ifs hbl; (try simp only [World.size_alloc, World.size_setCell, World.size_drew, size_drewN_] at hcw hfw hsw)))
    all_goals go_wp2_with fail
    all_goals go_meet
    all_goals refine ⟨_, rfl, rfl, by first | omega | (simp; done) | (simp; omega), by first | omega | (simp; done) | (simp; omega), Lib.hid ?_, Lib.hid ?_, Lib.hid ?_⟩
    all_goals first | (refine ⟨?_, ?_, ?_⟩ <;> (first | (go_simp; done) | (go_simp; (simp [↓IntWalk.iteOmega]; done)) | (go_simp; intros; omega) | (go_simp; simp [↓IntWalk.iteOmega]; intros; omega))) | ((intro o ho; obtain rfl | rfl | rfl | rfl | rfl | rfl | rfl | rfl | rfl : o = 0 ∨ o = 1 ∨ o = 2 ∨ o = 3 ∨ o = 4 ∨ o = 5 ∨ o = 6 ∨ o = 7 ∨ o = 8 := by omega) <;> (first | (go_simp; done) | (go_simp; (simp [↓IntWalk.iteOmega]; done)) | (go_simp; intros; omega) | (go_simp; simp [↓IntWalk.iteOmega]; intros; omega))) | (repeat (first | with_reducible exact Below.refl _ _ | with_reducible assumption | with_reducible refine below_drewN ?_ _ | with_reducible refine Below.drew ?_ | with_reducible refine below_alloc ?_ _ | (with_reducible refine Below.setCell ?_ (by first | (simp; done) | omega | (simp; omega)) _) | with_reducible refine belows ?_ (by assumption)))
  case rest =>
  obtain ⟨c1, rfl, rfl, hc1, hd1, HB, HC, HF⟩ := hcut
  obtain ⟨c0, c1, c2⟩ := HC.out
  have hB1 := HB.out
  have f1_0 := HF.out 0 (by omega)
  have f1_1 := HF.out 1 (by omega)
  have f1_2 := HF.out 2 (by omega)
  have f1_3 := HF.out 3 (by omega)
  have f1_4 := HF.out 4 (by omega)
  have f1_5 := HF.out 5 (by omega)
  have f1_6 := HF.out 6 (by omega)
  have f1_7 := HF.out 7 (by omega)
  have f1_8 := HF.out 8 (by omega)
  simp only [cellsAre_cons, cellsAre_nil] at c0 c1 c2
  obtain ⟨p1_0, p1_1, p1_2, p1_3, p1_4, p1_5, p1_6, p1_7, p1_8, p1_9, p1_10, p1_11, _⟩ := c0
  obtain ⟨q1_0, q1_1, q1_2, q1_3, q1_4, q1_5, q1_6, q1_7, q1_8, _⟩ := c1
  obtain ⟨r1_0, r1_1, r1_2, _⟩ := c2
  clear HB HC HF
  go_wp2_with fail
  rw [rounds_succ]
  go_upto_region 5 with (fail)
  go_cut [5, 6] from 15 to 26 (fun s5 s6 wx => ∃ c : Nat, s5 = .pointer (some ⟨c, 0, none⟩) ∧ s6 = .bool false ∧ w.heap.size + 2 ≤ c ∧ c < wx.heap.size ∧ Hid (Below w.heap.size w wx) ∧ Hid (cellsAre wx w.heap.size 0 [.int .u64 (U b0), .int .u64 (U t0), .int .u64 (U p0), .int .u64 (U y0), .int .u64 (U b1), .int .u64 (U t1), .int .u64 (U p1), .int .u64 (U y1), .int .u64 (U b2), .int .u64 (U t2), .int .u64 (U p2), .int .u64 (U y2)] ∧ cellsAre wx (w.heap.size + 1) 0 [.bool false, .int .u64 (U M0), .int .u64 (U A0), .bool false, .int .u64 (U M1), .int .u64 (U A1), .bool false, .int .u64 0, .int .u64 0] ∧ cellsAre wx c 0 [.bool false, .int .u64 (U M2), .int .u64 (U A2)]) ∧ Hid (∀ o : Nat, o < 9 → wx.frozen? ⟨w.heap.size + 1, o, none⟩ = false))
  case first =>
    go_wp2_with fail
    go_region_held3 (fun w'' => Below w.heap.size w w'' ∧ w.heap.size + 2 ≤ w''.heap.size ∧ w''.cell? ⟨w.heap.size, 8, none⟩ = some (.int .u64 (U b2)) ∧ w''.cell? ⟨w.heap.size, 9, none⟩ = some (.int .u64 (U t2)) ∧ w''.cell? ⟨w.heap.size, 10, none⟩ = some (.int .u64 (U p2)) ∧ w''.cell? ⟨w.heap.size, 11, none⟩ = some (.int .u64 (U y2)))
      (first
        | (go_keep; done)
        | (refine ⟨?_, ?_, ?_, ?_, ?_, ?_⟩; (· (repeat (first | with_reducible exact Below.refl _ _ | with_reducible assumption | with_reducible refine below_drewN ?_ _ | with_reducible refine Below.drew ?_ | with_reducible refine below_alloc ?_ _ | (with_reducible refine Below.setCell ?_ (by first | (simp; done) | omega | (simp; omega)) _) | with_reducible refine belows ?_ (by assumption)))); (· first | omega | (simp; done) | (simp; omega)); (· (first | (go_simp; done) | (go_simp; (simp [↓IntWalk.iteOmega]; done)) | (go_simp; intros; omega) | (go_simp; simp [↓IntWalk.iteOmega]; intros; omega))); (· (first | (go_simp; done) | (go_simp; (simp [↓IntWalk.iteOmega]; done)) | (go_simp; intros; omega) | (go_simp; simp [↓IntWalk.iteOmega]; intros; omega))); (· (first | (go_simp; done) | (go_simp; (simp [↓IntWalk.iteOmega]; done)) | (go_simp; intros; omega) | (go_simp; simp [↓IntWalk.iteOmega]; intros; omega))); (· (first | (go_simp; done) | (go_simp; (simp [↓IntWalk.iteOmega]; done)) | (go_simp; intros; omega) | (go_simp; simp [↓IntWalk.iteOmega]; intros; omega)))))
      (first | (go_at_call 9; (with_reducible refine (m2 _).mono ?_); rintro e w' ⟨rfl, hbl⟩; obtain ⟨hcw, hfw, hsw⟩ := below_ifs hbl; (try simp only [World.size_alloc, World.size_setCell, World.size_drew, size_drewN_] at hcw hfw hsw)))
    all_goals go_wp2_with fail
    all_goals go_meet
    all_goals refine ⟨_, rfl, rfl, by first | omega | (simp; done) | (simp; omega), by first | omega | (simp; done) | (simp; omega), Lib.hid ?_, Lib.hid ?_, Lib.hid ?_⟩
    all_goals first | (refine ⟨?_, ?_, ?_⟩ <;> (first | (go_simp; done) | (go_simp; (simp [↓IntWalk.iteOmega]; done)) | (go_simp; intros; omega) | (go_simp; simp [↓IntWalk.iteOmega]; intros; omega))) | ((intro o ho; obtain rfl | rfl | rfl | rfl | rfl | rfl | rfl | rfl | rfl : o = 0 ∨ o = 1 ∨ o = 2 ∨ o = 3 ∨ o = 4 ∨ o = 5 ∨ o = 6 ∨ o = 7 ∨ o = 8 := by omega) <;> (first | (go_simp; done) | (go_simp; (simp [↓IntWalk.iteOmega]; done)) | (go_simp; intros; omega) | (go_simp; simp [↓IntWalk.iteOmega]; intros; omega))) | (repeat (first | with_reducible exact Below.refl _ _ | with_reducible assumption | with_reducible refine below_drewN ?_ _ | with_reducible refine Below.drew ?_ | with_reducible refine below_alloc ?_ _ | (with_reducible refine Below.setCell ?_ (by first | (simp; done) | omega | (simp; omega)) _) | with_reducible refine belows ?_ (by assumption)))
  case rest =>
  obtain ⟨c2, rfl, rfl, hc2, hd2, HB, HC, HF⟩ := hcut
  obtain ⟨c0, c1, c2⟩ := HC.out
  have hB2 := HB.out
  have f2_0 := HF.out 0 (by omega)
  have f2_1 := HF.out 1 (by omega)
  have f2_2 := HF.out 2 (by omega)
  have f2_3 := HF.out 3 (by omega)
  have f2_4 := HF.out 4 (by omega)
  have f2_5 := HF.out 5 (by omega)
  have f2_6 := HF.out 6 (by omega)
  have f2_7 := HF.out 7 (by omega)
  have f2_8 := HF.out 8 (by omega)
  simp only [cellsAre_cons, cellsAre_nil] at c0 c1 c2
  obtain ⟨p2_0, p2_1, p2_2, p2_3, p2_4, p2_5, p2_6, p2_7, p2_8, p2_9, p2_10, p2_11, _⟩ := c0
  obtain ⟨q2_0, q2_1, q2_2, q2_3, q2_4, q2_5, q2_6, q2_7, q2_8, _⟩ := c1
  obtain ⟨r2_0, r2_1, r2_2, _⟩ := c2
  clear HB HC HF
  go_wp2_with (first | (go_at_call 14; (with_reducible refine (one_any _).mono ?_); rintro e w' ⟨rfl, hbl⟩; obtain ⟨hcw, hfw, hsw⟩ := below_ifs hbl; (try simp only [World.size_alloc, World.size_setCell, World.size_drew, size_drewN_] at hcw hfw hsw)))
  go_ret
  exact ⟨rfl, by (repeat (first | with_reducible exact Below.refl _ _ | with_reducible assumption | with_reducible refine below_drewN ?_ _ | with_reducible refine Below.drew ?_ | with_reducible refine below_alloc ?_ _ | (with_reducible refine Below.setCell ?_ (by first | (simp; done) | omega | (simp; omega)) _) | with_reducible refine belows ?_ (by assumption)))⟩
set_option maxHeartbeats 16000000 in
set_option maxRecDepth 100000 in
theorem core_all (bp bq br bs e1 e2 : Bool) (b0 t0 p0 y0 M0 A0 b1 t1 p1 y1 M1 A1 b2 t2 p2 y2 M2 A2 : BitVec 64) (h1 : (b0 == b1 && t0 == t1) = e1) (h2 : (p0 == p1) = e2) (ht : bp = true → bq = true → br = true) (hb : (bp && bs) = (e1 && e2)) (m0 : ∀ w : World, Calls Try.prog 9 #[.agg #[.int .u64 (U b0), .int .u64 (U t0), .int .u64 (U p0), .int .u64 (U y0)], .int .u64 (U b0)] w fun r w' => r = .returned (.tuple #[.agg #[.bool false, .int .u64 (U M0), .int .u64 (U A0)], .bool true]) ∧ Below w.heap.size w w') (m1 : ∀ w : World, Calls Try.prog 9 #[.agg #[.int .u64 (U b1), .int .u64 (U t1), .int .u64 (U p1), .int .u64 (U y1)], .int .u64 (U b1)] w fun r w' => r = .returned (.tuple #[.agg #[.bool false, .int .u64 (U M1), .int .u64 (U A1)], .bool true]) ∧ Below w.heap.size w w') (m2 : ∀ w : World, Calls Try.prog 9 #[.agg #[.int .u64 (U b2), .int .u64 (U t2), .int .u64 (U p2), .int .u64 (U y2)], .int .u64 (U b2)] w fun r w' => r = .returned (.tuple #[.agg #[.bool false, .int .u64 (U M2), .int .u64 (U A2)], .bool true]) ∧ Below w.heap.size w w') (w01 : ∀ w : World, Calls Try.prog 17 #[.agg #[.bool false, .int .u64 (U M0), .int .u64 (U A0)], .agg #[.bool false, .int .u64 (U M1), .int .u64 (U A1)]] w fun r w' => r = .returned (.bool bp) ∧ Below w.heap.size w w') (w12 : ∀ w : World, Calls Try.prog 17 #[.agg #[.bool false, .int .u64 (U M1), .int .u64 (U A1)], .agg #[.bool false, .int .u64 (U M2), .int .u64 (U A2)]] w fun r w' => r = .returned (.bool bq) ∧ Below w.heap.size w w') (w02 : ∀ w : World, Calls Try.prog 17 #[.agg #[.bool false, .int .u64 (U M0), .int .u64 (U A0)], .agg #[.bool false, .int .u64 (U M2), .int .u64 (U A2)]] w fun r w' => r = .returned (.bool br) ∧ Below w.heap.size w w') (w10 : ∀ w : World, Calls Try.prog 17 #[.agg #[.bool false, .int .u64 (U M1), .int .u64 (U A1)], .agg #[.bool false, .int .u64 (U M0), .int .u64 (U A0)]] w fun r w' => r = .returned (.bool bs) ∧ Below w.heap.size w w') (wal : ∀ w : World, Calls Try.prog 17 #[.agg #[.bool false, .int .u64 (U M0), .int .u64 (U A0)], .agg #[.bool true, .int .u64 (U Roots.allM), .int .u64 0]] w fun r w' => r = .returned (.bool true) ∧ Below w.heap.size w w') (w : World) : Calls Try.prog 5 #[.agg #[.int .u64 (U b0), .int .u64 (U t0), .int .u64 (U p0), .int .u64 (U y0), .int .u64 (U b1), .int .u64 (U t1), .int .u64 (U p1), .int .u64 (U y1), .int .u64 (U b2), .int .u64 (U t2), .int .u64 (U p2), .int .u64 (U y2)]] w fun r w' => r = .returned (.bool true) ∧ Below w.heap.size w w' := by
  have HT := Lib.hid ht
  have HBB := Lib.hid hb
  have H1 := Lib.hid h1
  have H2 := Lib.hid h2
  clear ht hb h1 h2
  go_enter Try.func5, Try.ntmps5
  go_wp2_with fail
  refine wp_loop_rounds 4 ?_
  rw [rounds_succ]
  go_upto_region 5 with (fail)
  go_cut [5, 6] from 15 to 26 (fun s5 s6 wx => ∃ c : Nat, s5 = .pointer (some ⟨c, 0, none⟩) ∧ s6 = .bool true ∧ w.heap.size + 2 ≤ c ∧ c < wx.heap.size ∧ Hid (Below w.heap.size w wx) ∧ Hid (cellsAre wx w.heap.size 0 [.int .u64 (U b0), .int .u64 (U t0), .int .u64 (U p0), .int .u64 (U y0), .int .u64 (U b1), .int .u64 (U t1), .int .u64 (U p1), .int .u64 (U y1), .int .u64 (U b2), .int .u64 (U t2), .int .u64 (U p2), .int .u64 (U y2)] ∧ cellsAre wx (w.heap.size + 1) 0 [.bool false, .int .u64 0, .int .u64 0, .bool false, .int .u64 0, .int .u64 0, .bool false, .int .u64 0, .int .u64 0] ∧ cellsAre wx c 0 [.bool false, .int .u64 (U M0), .int .u64 (U A0)]) ∧ Hid (∀ o : Nat, o < 9 → wx.frozen? ⟨w.heap.size + 1, o, none⟩ = false))
  case first =>
    go_wp2_with fail
    go_region_held3 (fun w'' => Below w.heap.size w w'' ∧ w.heap.size + 2 ≤ w''.heap.size ∧ w''.cell? ⟨w.heap.size, 0, none⟩ = some (.int .u64 (U b0)) ∧ w''.cell? ⟨w.heap.size, 1, none⟩ = some (.int .u64 (U t0)) ∧ w''.cell? ⟨w.heap.size, 2, none⟩ = some (.int .u64 (U p0)) ∧ w''.cell? ⟨w.heap.size, 3, none⟩ = some (.int .u64 (U y0)))
      (first
        | (go_keep; done)
        | (refine ⟨?_, ?_, ?_, ?_, ?_, ?_⟩; (· (repeat (first | with_reducible exact Below.refl _ _ | with_reducible assumption | with_reducible refine below_drewN ?_ _ | with_reducible refine Below.drew ?_ | with_reducible refine below_alloc ?_ _ | (with_reducible refine Below.setCell ?_ (by first | (simp; done) | omega | (simp; omega)) _) | with_reducible refine belows ?_ (by assumption)))); (· first | omega | (simp; done) | (simp; omega)); (· (first | (go_simp; done) | (go_simp; (simp [↓IntWalk.iteOmega]; done)) | (go_simp; intros; omega) | (go_simp; simp [↓IntWalk.iteOmega]; intros; omega))); (· (first | (go_simp; done) | (go_simp; (simp [↓IntWalk.iteOmega]; done)) | (go_simp; intros; omega) | (go_simp; simp [↓IntWalk.iteOmega]; intros; omega))); (· (first | (go_simp; done) | (go_simp; (simp [↓IntWalk.iteOmega]; done)) | (go_simp; intros; omega) | (go_simp; simp [↓IntWalk.iteOmega]; intros; omega))); (· (first | (go_simp; done) | (go_simp; (simp [↓IntWalk.iteOmega]; done)) | (go_simp; intros; omega) | (go_simp; simp [↓IntWalk.iteOmega]; intros; omega)))))
      (first | (go_at_call 9; (with_reducible refine (m0 _).mono ?_); rintro e w' ⟨rfl, hbl⟩; obtain ⟨hcw, hfw, hsw⟩ := below_ifs hbl; (try simp only [World.size_alloc, World.size_setCell, World.size_drew, size_drewN_] at hcw hfw hsw)))
    all_goals go_wp2_with fail
    all_goals go_meet
    all_goals refine ⟨_, rfl, rfl, by first | omega | (simp; done) | (simp; omega), by first | omega | (simp; done) | (simp; omega), Lib.hid ?_, Lib.hid ?_, Lib.hid ?_⟩
    all_goals first | (refine ⟨?_, ?_, ?_⟩ <;> (first | (go_simp; done) | (go_simp; (simp [↓IntWalk.iteOmega]; done)) | (go_simp; intros; omega) | (go_simp; simp [↓IntWalk.iteOmega]; intros; omega))) | ((intro o ho; obtain rfl | rfl | rfl | rfl | rfl | rfl | rfl | rfl | rfl : o = 0 ∨ o = 1 ∨ o = 2 ∨ o = 3 ∨ o = 4 ∨ o = 5 ∨ o = 6 ∨ o = 7 ∨ o = 8 := by omega) <;> (first | (go_simp; done) | (go_simp; (simp [↓IntWalk.iteOmega]; done)) | (go_simp; intros; omega) | (go_simp; simp [↓IntWalk.iteOmega]; intros; omega))) | (repeat (first | with_reducible exact Below.refl _ _ | with_reducible assumption | with_reducible refine below_drewN ?_ _ | with_reducible refine Below.drew ?_ | with_reducible refine below_alloc ?_ _ | (with_reducible refine Below.setCell ?_ (by first | (simp; done) | omega | (simp; omega)) _) | with_reducible refine belows ?_ (by assumption)))
  case rest =>
  obtain ⟨c0, rfl, rfl, hc0, hd0, HB, HC, HF⟩ := hcut
  obtain ⟨c0, c1, c2⟩ := HC.out
  have hB0 := HB.out
  have f0_0 := HF.out 0 (by omega)
  have f0_1 := HF.out 1 (by omega)
  have f0_2 := HF.out 2 (by omega)
  have f0_3 := HF.out 3 (by omega)
  have f0_4 := HF.out 4 (by omega)
  have f0_5 := HF.out 5 (by omega)
  have f0_6 := HF.out 6 (by omega)
  have f0_7 := HF.out 7 (by omega)
  have f0_8 := HF.out 8 (by omega)
  simp only [cellsAre_cons, cellsAre_nil] at c0 c1 c2
  obtain ⟨p0_0, p0_1, p0_2, p0_3, p0_4, p0_5, p0_6, p0_7, p0_8, p0_9, p0_10, p0_11, _⟩ := c0
  obtain ⟨q0_0, q0_1, q0_2, q0_3, q0_4, q0_5, q0_6, q0_7, q0_8, _⟩ := c1
  obtain ⟨r0_0, r0_1, r0_2, _⟩ := c2
  clear HB HC HF
  go_wp2_with fail
  rw [rounds_succ]
  go_upto_region 5 with (fail)
  go_cut [5, 6] from 15 to 26 (fun s5 s6 wx => ∃ c : Nat, s5 = .pointer (some ⟨c, 0, none⟩) ∧ s6 = .bool true ∧ w.heap.size + 2 ≤ c ∧ c < wx.heap.size ∧ Hid (Below w.heap.size w wx) ∧ Hid (cellsAre wx w.heap.size 0 [.int .u64 (U b0), .int .u64 (U t0), .int .u64 (U p0), .int .u64 (U y0), .int .u64 (U b1), .int .u64 (U t1), .int .u64 (U p1), .int .u64 (U y1), .int .u64 (U b2), .int .u64 (U t2), .int .u64 (U p2), .int .u64 (U y2)] ∧ cellsAre wx (w.heap.size + 1) 0 [.bool false, .int .u64 (U M0), .int .u64 (U A0), .bool false, .int .u64 0, .int .u64 0, .bool false, .int .u64 0, .int .u64 0] ∧ cellsAre wx c 0 [.bool false, .int .u64 (U M1), .int .u64 (U A1)]) ∧ Hid (∀ o : Nat, o < 9 → wx.frozen? ⟨w.heap.size + 1, o, none⟩ = false))
  case first =>
    go_wp2_with fail
    go_region_held3 (fun w'' => Below w.heap.size w w'' ∧ w.heap.size + 2 ≤ w''.heap.size ∧ w''.cell? ⟨w.heap.size, 4, none⟩ = some (.int .u64 (U b1)) ∧ w''.cell? ⟨w.heap.size, 5, none⟩ = some (.int .u64 (U t1)) ∧ w''.cell? ⟨w.heap.size, 6, none⟩ = some (.int .u64 (U p1)) ∧ w''.cell? ⟨w.heap.size, 7, none⟩ = some (.int .u64 (U y1)))
      (first
        | (go_keep; done)
        | (refine ⟨?_, ?_, ?_, ?_, ?_, ?_⟩; (· (repeat (first | with_reducible exact Below.refl _ _ | with_reducible assumption | with_reducible refine below_drewN ?_ _ | with_reducible refine Below.drew ?_ | with_reducible refine below_alloc ?_ _ | (with_reducible refine Below.setCell ?_ (by first | (simp; done) | omega | (simp; omega)) _) | with_reducible refine belows ?_ (by assumption)))); (· first | omega | (simp; done) | (simp; omega)); (· (first | (go_simp; done) | (go_simp; (simp [↓IntWalk.iteOmega]; done)) | (go_simp; intros; omega) | (go_simp; simp [↓IntWalk.iteOmega]; intros; omega))); (· (first | (go_simp; done) | (go_simp; (simp [↓IntWalk.iteOmega]; done)) | (go_simp; intros; omega) | (go_simp; simp [↓IntWalk.iteOmega]; intros; omega))); (· (first | (go_simp; done) | (go_simp; (simp [↓IntWalk.iteOmega]; done)) | (go_simp; intros; omega) | (go_simp; simp [↓IntWalk.iteOmega]; intros; omega))); (· (first | (go_simp; done) | (go_simp; (simp [↓IntWalk.iteOmega]; done)) | (go_simp; intros; omega) | (go_simp; simp [↓IntWalk.iteOmega]; intros; omega)))))
      (first | (go_at_call 9; (with_reducible refine (m1 _).mono ?_); rintro e w' ⟨rfl, hbl⟩; obtain ⟨hcw, hfw, hsw⟩ := below_ifs hbl; (try simp only [World.size_alloc, World.size_setCell, World.size_drew, size_drewN_] at hcw hfw hsw)))
    all_goals go_wp2_with fail
    all_goals go_meet
    all_goals refine ⟨_, rfl, rfl, by first | omega | (simp; done) | (simp; omega), by first | omega | (simp; done) | (simp; omega), Lib.hid ?_, Lib.hid ?_, Lib.hid ?_⟩
    all_goals first | (refine ⟨?_, ?_, ?_⟩ <;> (first | (go_simp; done) | (go_simp; (simp [↓IntWalk.iteOmega]; done)) | (go_simp; intros; omega) | (go_simp; simp [↓IntWalk.iteOmega]; intros; omega))) | ((intro o ho; obtain rfl | rfl | rfl | rfl | rfl | rfl | rfl | rfl | rfl : o = 0 ∨ o = 1 ∨ o = 2 ∨ o = 3 ∨ o = 4 ∨ o = 5 ∨ o = 6 ∨ o = 7 ∨ o = 8 := by omega) <;> (first | (go_simp; done) | (go_simp; (simp [↓IntWalk.iteOmega]; done)) | (go_simp; intros; omega) | (go_simp; simp [↓IntWalk.iteOmega]; intros; omega))) | (repeat (first | with_reducible exact Below.refl _ _ | with_reducible assumption | with_reducible refine below_drewN ?_ _ | with_reducible refine Below.drew ?_ | with_reducible refine below_alloc ?_ _ | (with_reducible refine Below.setCell ?_ (by first | (simp; done) | omega | (simp; omega)) _) | with_reducible refine belows ?_ (by assumption)))
  case rest =>
  obtain ⟨c1, rfl, rfl, hc1, hd1, HB, HC, HF⟩ := hcut
  obtain ⟨c0, c1, c2⟩ := HC.out
  have hB1 := HB.out
  have f1_0 := HF.out 0 (by omega)
  have f1_1 := HF.out 1 (by omega)
  have f1_2 := HF.out 2 (by omega)
  have f1_3 := HF.out 3 (by omega)
  have f1_4 := HF.out 4 (by omega)
  have f1_5 := HF.out 5 (by omega)
  have f1_6 := HF.out 6 (by omega)
  have f1_7 := HF.out 7 (by omega)
  have f1_8 := HF.out 8 (by omega)
  simp only [cellsAre_cons, cellsAre_nil] at c0 c1 c2
  obtain ⟨p1_0, p1_1, p1_2, p1_3, p1_4, p1_5, p1_6, p1_7, p1_8, p1_9, p1_10, p1_11, _⟩ := c0
  obtain ⟨q1_0, q1_1, q1_2, q1_3, q1_4, q1_5, q1_6, q1_7, q1_8, _⟩ := c1
  obtain ⟨r1_0, r1_1, r1_2, _⟩ := c2
  clear HB HC HF
  go_wp2_with fail
  rw [rounds_succ]
  go_upto_region 5 with (fail)
  go_cut [5, 6] from 15 to 26 (fun s5 s6 wx => ∃ c : Nat, s5 = .pointer (some ⟨c, 0, none⟩) ∧ s6 = .bool true ∧ w.heap.size + 2 ≤ c ∧ c < wx.heap.size ∧ Hid (Below w.heap.size w wx) ∧ Hid (cellsAre wx w.heap.size 0 [.int .u64 (U b0), .int .u64 (U t0), .int .u64 (U p0), .int .u64 (U y0), .int .u64 (U b1), .int .u64 (U t1), .int .u64 (U p1), .int .u64 (U y1), .int .u64 (U b2), .int .u64 (U t2), .int .u64 (U p2), .int .u64 (U y2)] ∧ cellsAre wx (w.heap.size + 1) 0 [.bool false, .int .u64 (U M0), .int .u64 (U A0), .bool false, .int .u64 (U M1), .int .u64 (U A1), .bool false, .int .u64 0, .int .u64 0] ∧ cellsAre wx c 0 [.bool false, .int .u64 (U M2), .int .u64 (U A2)]) ∧ Hid (∀ o : Nat, o < 9 → wx.frozen? ⟨w.heap.size + 1, o, none⟩ = false))
  case first =>
    go_wp2_with fail
    go_region_held3 (fun w'' => Below w.heap.size w w'' ∧ w.heap.size + 2 ≤ w''.heap.size ∧ w''.cell? ⟨w.heap.size, 8, none⟩ = some (.int .u64 (U b2)) ∧ w''.cell? ⟨w.heap.size, 9, none⟩ = some (.int .u64 (U t2)) ∧ w''.cell? ⟨w.heap.size, 10, none⟩ = some (.int .u64 (U p2)) ∧ w''.cell? ⟨w.heap.size, 11, none⟩ = some (.int .u64 (U y2)))
      (first
        | (go_keep; done)
        | (refine ⟨?_, ?_, ?_, ?_, ?_, ?_⟩; (· (repeat (first | with_reducible exact Below.refl _ _ | with_reducible assumption | with_reducible refine below_drewN ?_ _ | with_reducible refine Below.drew ?_ | with_reducible refine below_alloc ?_ _ | (with_reducible refine Below.setCell ?_ (by first | (simp; done) | omega | (simp; omega)) _) | with_reducible refine belows ?_ (by assumption)))); (· first | omega | (simp; done) | (simp; omega)); (· (first | (go_simp; done) | (go_simp; (simp [↓IntWalk.iteOmega]; done)) | (go_simp; intros; omega) | (go_simp; simp [↓IntWalk.iteOmega]; intros; omega))); (· (first | (go_simp; done) | (go_simp; (simp [↓IntWalk.iteOmega]; done)) | (go_simp; intros; omega) | (go_simp; simp [↓IntWalk.iteOmega]; intros; omega))); (· (first | (go_simp; done) | (go_simp; (simp [↓IntWalk.iteOmega]; done)) | (go_simp; intros; omega) | (go_simp; simp [↓IntWalk.iteOmega]; intros; omega))); (· (first | (go_simp; done) | (go_simp; (simp [↓IntWalk.iteOmega]; done)) | (go_simp; intros; omega) | (go_simp; simp [↓IntWalk.iteOmega]; intros; omega)))))
      (first | (go_at_call 9; (with_reducible refine (m2 _).mono ?_); rintro e w' ⟨rfl, hbl⟩; obtain ⟨hcw, hfw, hsw⟩ := below_ifs hbl; (try simp only [World.size_alloc, World.size_setCell, World.size_drew, size_drewN_] at hcw hfw hsw)))
    all_goals go_wp2_with fail
    all_goals go_meet
    all_goals refine ⟨_, rfl, rfl, by first | omega | (simp; done) | (simp; omega), by first | omega | (simp; done) | (simp; omega), Lib.hid ?_, Lib.hid ?_, Lib.hid ?_⟩
    all_goals first | (refine ⟨?_, ?_, ?_⟩ <;> (first | (go_simp; done) | (go_simp; (simp [↓IntWalk.iteOmega]; done)) | (go_simp; intros; omega) | (go_simp; simp [↓IntWalk.iteOmega]; intros; omega))) | ((intro o ho; obtain rfl | rfl | rfl | rfl | rfl | rfl | rfl | rfl | rfl : o = 0 ∨ o = 1 ∨ o = 2 ∨ o = 3 ∨ o = 4 ∨ o = 5 ∨ o = 6 ∨ o = 7 ∨ o = 8 := by omega) <;> (first | (go_simp; done) | (go_simp; (simp [↓IntWalk.iteOmega]; done)) | (go_simp; intros; omega) | (go_simp; simp [↓IntWalk.iteOmega]; intros; omega))) | (repeat (first | with_reducible exact Below.refl _ _ | with_reducible assumption | with_reducible refine below_drewN ?_ _ | with_reducible refine Below.drew ?_ | with_reducible refine below_alloc ?_ _ | (with_reducible refine Below.setCell ?_ (by first | (simp; done) | omega | (simp; omega)) _) | with_reducible refine belows ?_ (by assumption)))
  case rest =>
  obtain ⟨c2, rfl, rfl, hc2, hd2, HB, HC, HF⟩ := hcut
  obtain ⟨c0, c1, c2⟩ := HC.out
  have hB2 := HB.out
  have f2_0 := HF.out 0 (by omega)
  have f2_1 := HF.out 1 (by omega)
  have f2_2 := HF.out 2 (by omega)
  have f2_3 := HF.out 3 (by omega)
  have f2_4 := HF.out 4 (by omega)
  have f2_5 := HF.out 5 (by omega)
  have f2_6 := HF.out 6 (by omega)
  have f2_7 := HF.out 7 (by omega)
  have f2_8 := HF.out 8 (by omega)
  simp only [cellsAre_cons, cellsAre_nil] at c0 c1 c2
  obtain ⟨p2_0, p2_1, p2_2, p2_3, p2_4, p2_5, p2_6, p2_7, p2_8, p2_9, p2_10, p2_11, _⟩ := c0
  obtain ⟨q2_0, q2_1, q2_2, q2_3, q2_4, q2_5, q2_6, q2_7, q2_8, _⟩ := c1
  obtain ⟨r2_0, r2_1, r2_2, _⟩ := c2
  clear HB HC HF
  go_wp2_with fail
  rw [rounds_succ]
  go_upto_region 9 with (fail)
  have ht := HT.out
  have hb := HBB.out
  have h1 := H1.out
  have h2 := H2.out
  clear HT HBB H1 H2
  have split := split8 bp bq br bs e1 e2 ht hb
  clear ht hb
  rcases split with ⟨rfl, rfl⟩ | ⟨rfl, rfl, rfl⟩ | ⟨rfl, rfl, rfl, rfl⟩ | ⟨rfl, rfl, rfl, rfl, rfl⟩ | ⟨rfl, rfl, rfl, rfl, rfl⟩ | ⟨rfl, rfl, rfl, rfl, rfl⟩ | ⟨rfl, rfl, rfl, rfl, rfl, rfl⟩ | ⟨rfl, rfl, rfl, rfl, rfl, rfl⟩
  all_goals
    go_wp2_with (first | (go_at_call 17; (with_reducible refine (w01 _).mono ?_); rintro e w' ⟨rfl, hbl⟩; obtain ⟨hcw, hfw, hsw⟩ := below_ifs hbl; (try simp only [World.size_alloc, World.size_setCell, World.size_drew, size_drewN_] at hcw hfw hsw)) | (go_at_call 17; (with_reducible refine (w12 _).mono ?_); rintro e w' ⟨rfl, hbl⟩; obtain ⟨hcw, hfw, hsw⟩ := below_ifs hbl; (try simp only [World.size_alloc, World.size_setCell, World.size_drew, size_drewN_] at hcw hfw hsw)) | (go_at_call 17; (with_reducible refine (w02 _).mono ?_); rintro e w' ⟨rfl, hbl⟩; obtain ⟨hcw, hfw, hsw⟩ := below_ifs hbl; (try simp only [World.size_alloc, World.size_setCell, World.size_drew, size_drewN_] at hcw hfw hsw)) | (go_at_call 17; (with_reducible refine (w10 _).mono ?_); rintro e w' ⟨rfl, hbl⟩; obtain ⟨hcw, hfw, hsw⟩ := below_ifs hbl; (try simp only [World.size_alloc, World.size_setCell, World.size_drew, size_drewN_] at hcw hfw hsw)) | (go_at_call 17; (with_reducible refine (wal _).mono ?_); rintro e w' ⟨rfl, hbl⟩; obtain ⟨hcw, hfw, hsw⟩ := below_ifs hbl; (try simp only [World.size_alloc, World.size_setCell, World.size_drew, size_drewN_] at hcw hfw hsw)) | (go_at_call 12; (with_reducible refine (Roots.root_all _).mono ?_); rintro e w' ⟨rfl, hbl⟩; obtain ⟨hcw, hfw, hsw⟩ := below_ifs hbl; (try simp only [World.size_alloc, World.size_setCell, World.size_drew, size_drewN_] at hcw hfw hsw)) | (go_at_call 14; (with_reducible refine (one_any _).mono ?_); rintro e w' ⟨rfl, hbl⟩; obtain ⟨hcw, hfw, hsw⟩ := below_ifs hbl; (try simp only [World.size_alloc, World.size_setCell, World.size_drew, size_drewN_] at hcw hfw hsw)))
    go_ret
    exact ⟨ret_bool (by simp), by (repeat (first | with_reducible exact Below.refl _ _ | with_reducible assumption | with_reducible refine below_drewN ?_ _ | with_reducible refine Below.drew ?_ | with_reducible refine below_alloc ?_ _ | (with_reducible refine Below.setCell ?_ (by first | (simp; done) | omega | (simp; omega)) _) | with_reducible refine belows ?_ (by assumption)))⟩
theorem in_iff (b t p y b' t' p' y' : BitVec 64) (h : mkOk b t p y b = true) (k : mkOk b' t' p' y' b' = true) : withinF (mkM b t p y b) (mkA b t p y b) (mkM b' t' p' y' b') (mkA b' t' p' y' b') = (decide (U b' ≤ U b) && (decide (U t ≤ U t') && (p &&& ~~~ p' == 0#64))) := by
  obtain ⟨a1, a2, a3, a4, a5, a6, a7, a8, a9, a10⟩ := made h
  obtain ⟨c1, c2, c3, c4, c5, c6, c7, c8, c9, c10⟩ := made k
  unfold withinF
  rw [a1, c1, a10, c10, a8, a9, a5, c8, c9, c5]
  rfl
theorem perm_trans {x y z : BitVec 64} (h : (x &&& ~~~ y == 0#64) = true) (k : (y &&& ~~~ z == 0#64) = true) : (x &&& ~~~ z == 0#64) = true := by
  rw [beq_iff_eq] at h k ⊢
  apply ext64
  intro j hj
  have e := congrArg (fun v => v.getLsbD j) h
  have f := congrArg (fun v => v.getLsbD j) k
  simp only [BitVec.getLsbD_and, BitVec.getLsbD_not, decide_eq_true hj, Bool.true_and, BitVec.getLsbD_zero] at e f ⊢
  cases hx : x.getLsbD j <;> cases hy : y.getLsbD j <;> cases hz : z.getLsbD j <;> simp_all
theorem perm_same {x y : BitVec 64} (h : (x &&& ~~~ y == 0#64) = true) (k : (y &&& ~~~ x == 0#64) = true) : x = y := by
  rw [beq_iff_eq] at h k
  apply ext64
  intro j hj
  have e := congrArg (fun v => v.getLsbD j) h
  have f := congrArg (fun v => v.getLsbD j) k
  simp only [BitVec.getLsbD_and, BitVec.getLsbD_not, decide_eq_true hj, Bool.true_and, BitVec.getLsbD_zero] at e f
  cases hx : x.getLsbD j <;> cases hy : y.getLsbD j <;> simp_all
theorem perm_self (x : BitVec 64) : (x &&& ~~~ x == 0#64) = true := by
  rw [beq_iff_eq]
  apply ext64
  intro j hj
  simp only [BitVec.getLsbD_and, BitVec.getLsbD_not, decide_eq_true hj, Bool.true_and, BitVec.getLsbD_zero]
  cases x.getLsbD j <;> rfl
def inQ (b t p b' t' p' : BitVec 64) : Bool := decide (U b' ≤ U b) && (decide (U t ≤ U t') && (p &&& ~~~ p' == 0#64))
theorem inQ_iff (b t p b' t' p' : BitVec 64) : inQ b t p b' t' p' = true ↔ U b' ≤ U b ∧ U t ≤ U t' ∧ (p &&& ~~~ p' == 0#64) = true := by
  unfold inQ
  simp only [Bool.and_eq_true, decide_eq_true_eq]
theorem plain_trans (b t p b' t' p' b'' t'' p'' : BitVec 64) (h : inQ b t p b' t' p' = true) (k : inQ b' t' p' b'' t'' p'' = true) : inQ b t p b'' t'' p'' = true := by
  rw [inQ_iff] at h k ⊢
  exact ⟨by omega, by omega, perm_trans h.2.2 k.2.2⟩
theorem plain_same (b t p b' t' p' : BitVec 64) : (inQ b t p b' t' p' && inQ b' t' p' b t p) = ((b == b' && t == t') && (p == p')) := by
  rw [Bool.eq_iff_iff, Bool.and_eq_true, inQ_iff, inQ_iff]
  simp only [Bool.and_eq_true, beq_iff_eq]
  constructor
  · rintro ⟨⟨h1, h2, h3⟩, k1, k2, k3⟩
    refine ⟨⟨(U_inj _ _).1 (by omega), (U_inj _ _).1 (by omega)⟩, perm_same (beq_iff_eq.2 h3) (beq_iff_eq.2 k3)⟩
  · rintro ⟨⟨rfl, rfl⟩, rfl⟩
    have := beq_iff_eq.1 (perm_self p)
    exact ⟨⟨Int.le_refl _, Int.le_refl _, this⟩, Int.le_refl _, Int.le_refl _, this⟩
theorem walk (b0 t0 p0 y0 b1 t1 p1 y1 b2 t2 p2 y2 : BitVec 64) (w : World) : Calls Try.prog 5 #[.agg #[.int .u64 (U b0), .int .u64 (U t0), .int .u64 (U p0), .int .u64 (U y0), .int .u64 (U b1), .int .u64 (U t1), .int .u64 (U p1), .int .u64 (U y1), .int .u64 (U b2), .int .u64 (U t2), .int .u64 (U p2), .int .u64 (U y2)]] w fun r w' => r = .returned (.bool true) ∧ Below w.heap.size w w' := by
  have m0 : ∀ w : World, Calls Try.prog 9 #[.agg #[.int .u64 (U b0), .int .u64 (U t0), .int .u64 (U p0), .int .u64 (U y0)], .int .u64 (U b0)] w fun r w' => r = .returned (.tuple #[.agg #[.bool false, .int .u64 (U (mkM b0 t0 p0 y0 b0)), .int .u64 (U (mkA b0 t0 p0 y0 b0))], .bool (mkOk b0 t0 p0 y0 b0)]) ∧ Below w.heap.size w w' := make_any b0 t0 p0 y0 b0
  have m1 : ∀ w : World, Calls Try.prog 9 #[.agg #[.int .u64 (U b1), .int .u64 (U t1), .int .u64 (U p1), .int .u64 (U y1)], .int .u64 (U b1)] w fun r w' => r = .returned (.tuple #[.agg #[.bool false, .int .u64 (U (mkM b1 t1 p1 y1 b1)), .int .u64 (U (mkA b1 t1 p1 y1 b1))], .bool (mkOk b1 t1 p1 y1 b1)]) ∧ Below w.heap.size w w' := make_any b1 t1 p1 y1 b1
  have m2 : ∀ w : World, Calls Try.prog 9 #[.agg #[.int .u64 (U b2), .int .u64 (U t2), .int .u64 (U p2), .int .u64 (U y2)], .int .u64 (U b2)] w fun r w' => r = .returned (.tuple #[.agg #[.bool false, .int .u64 (U (mkM b2 t2 p2 y2 b2)), .int .u64 (U (mkA b2 t2 p2 y2 b2))], .bool (mkOk b2 t2 p2 y2 b2)]) ∧ Below w.heap.size w w' := make_any b2 t2 p2 y2 b2
  cases k0 : mkOk b0 t0 p0 y0 b0
  · rw [k0] at m0
    exact core_0 true true true true true true b0 t0 p0 y0 _ _ b1 t1 p1 y1 0#64 0#64 b2 t2 p2 y2 0#64 0#64 m0 w
  cases k1 : mkOk b1 t1 p1 y1 b1
  · rw [k0] at m0; rw [k1] at m1
    exact core_1 true true true true true true b0 t0 p0 y0 _ _ b1 t1 p1 y1 _ _ b2 t2 p2 y2 0#64 0#64 m0 m1 w
  cases k2 : mkOk b2 t2 p2 y2 b2
  · rw [k0] at m0; rw [k1] at m1; rw [k2] at m2
    exact core_2 true true true true true true b0 t0 p0 y0 _ _ b1 t1 p1 y1 _ _ b2 t2 p2 y2 _ _ m0 m1 m2 w
  rw [k0] at m0; rw [k1] at m1; rw [k2] at m2
  have w01 : ∀ w : World, Calls Try.prog 17 #[.agg #[.bool false, .int .u64 (U (mkM b0 t0 p0 y0 b0)), .int .u64 (U (mkA b0 t0 p0 y0 b0))], .agg #[.bool false, .int .u64 (U (mkM b1 t1 p1 y1 b1)), .int .u64 (U (mkA b1 t1 p1 y1 b1))]] w fun r w' => r = .returned (.bool (inQ b0 t0 p0 b1 t1 p1)) ∧ Below w.heap.size w w' := fun w => (within_any false false _ _ _ _ w).mono fun _ _ q => ⟨by rw [q.1, in_iff _ _ _ _ _ _ _ _ k0 k1]; rfl, q.2⟩
  have w12 : ∀ w : World, Calls Try.prog 17 #[.agg #[.bool false, .int .u64 (U (mkM b1 t1 p1 y1 b1)), .int .u64 (U (mkA b1 t1 p1 y1 b1))], .agg #[.bool false, .int .u64 (U (mkM b2 t2 p2 y2 b2)), .int .u64 (U (mkA b2 t2 p2 y2 b2))]] w fun r w' => r = .returned (.bool (inQ b1 t1 p1 b2 t2 p2)) ∧ Below w.heap.size w w' := fun w => (within_any false false _ _ _ _ w).mono fun _ _ q => ⟨by rw [q.1, in_iff _ _ _ _ _ _ _ _ k1 k2]; rfl, q.2⟩
  have w02 : ∀ w : World, Calls Try.prog 17 #[.agg #[.bool false, .int .u64 (U (mkM b0 t0 p0 y0 b0)), .int .u64 (U (mkA b0 t0 p0 y0 b0))], .agg #[.bool false, .int .u64 (U (mkM b2 t2 p2 y2 b2)), .int .u64 (U (mkA b2 t2 p2 y2 b2))]] w fun r w' => r = .returned (.bool (inQ b0 t0 p0 b2 t2 p2)) ∧ Below w.heap.size w w' := fun w => (within_any false false _ _ _ _ w).mono fun _ _ q => ⟨by rw [q.1, in_iff _ _ _ _ _ _ _ _ k0 k2]; rfl, q.2⟩
  have w10 : ∀ w : World, Calls Try.prog 17 #[.agg #[.bool false, .int .u64 (U (mkM b1 t1 p1 y1 b1)), .int .u64 (U (mkA b1 t1 p1 y1 b1))], .agg #[.bool false, .int .u64 (U (mkM b0 t0 p0 y0 b0)), .int .u64 (U (mkA b0 t0 p0 y0 b0))]] w fun r w' => r = .returned (.bool (inQ b1 t1 p1 b0 t0 p0)) ∧ Below w.heap.size w w' := fun w => (within_any false false _ _ _ _ w).mono fun _ _ q => ⟨by rw [q.1, in_iff _ _ _ _ _ _ _ _ k1 k0]; rfl, q.2⟩
  have wal : ∀ w : World, Calls Try.prog 17 #[.agg #[.bool false, .int .u64 (U (mkM b0 t0 p0 y0 b0)), .int .u64 (U (mkA b0 t0 p0 y0 b0))], .agg #[.bool true, .int .u64 (U Roots.allM), .int .u64 0]] w fun r w' => r = .returned (.bool true) ∧ Below w.heap.size w w' := fun w => (within_any false true _ _ Roots.allM 0#64 w).mono fun _ _ q => ⟨by rw [q.1, Roots.within_all, (made k0).1, (made k0).2.2.2.2.2.2.2.2.2], q.2⟩
  exact core_all _ _ _ _ _ _ b0 t0 p0 y0 _ _ b1 t1 p1 y1 _ _ b2 t2 p2 y2 _ _ rfl rfl (plain_trans b0 t0 p0 b1 t1 p1 b2 t2 p2) (plain_same b0 t0 p0 b1 t1 p1) m0 m1 m2 w01 w12 w02 w10 wal w

set_option maxRecDepth 100000 in
theorem lifted (os : Os) (started : os.Started) (H : Type) (enc : TypeId × Value → H) :
    ReturnsInHanded {} Try.checked os 5 .any (Rows.capabOrderSpec.pre6 enc Try.prog Try.f5 Rows.capabOrderRow.domain false) (Rows.capabOrderSpec.post enc Try.prog Try.f5 false true false false) := by
  refine law_lift (C := Try.checked) (tb := 4) started (by kernel_rfl) (by kernel_rfl) Try.func5 rfl rfl Try.underlying4 (by kernel_rfl) (by kernel_rfl)
    (fun ds h => by match ds, h with | [_], _ => rfl)
    (ChangeSpec.witness6 (enc := enc) (C := Try.checked) false ⟨#[], #[.agg #[.int .u64 0, .int .u64 0, .int .u64 0, .int .u64 0, .int .u64 0, .int .u64 0, .int .u64 0, .int .u64 0, .int .u64 0, .int .u64 0, .int .u64 0, .int .u64 0]], []⟩ 8 (by kernel_rfl) (by kernel_rfl) (by kernel_rfl) (by kernel_rfl)) ?_
  intro W base args ds ps hval hA hlt hfz hsz
  rw [Try.params5] at hA hval hsz
  obtain ⟨v0, d0, rfl, rfl, h0⟩ := trodAll_one hA
  obtain ⟨n0, q0, n1, q1, n2, q2, n3, q3, n4, q4, n5, q5, n6, q6, n7, q7, n8, q8, n9, q9, n10, q10, n11, q11, rfl⟩ := open_leaves (d := 6) (ls := [.int .u64, .int .u64, .int .u64, .int .u64, .int .u64, .int .u64, .int .u64, .int .u64, .int .u64, .int .u64, .int .u64, .int .u64]) (by kernel_rfl) (by kernel_rfl) (hval 0 _ v0 rfl rfl) h0
  obtain ⟨b0, rfl⟩ := exists_U n0 q0
  obtain ⟨t0, rfl⟩ := exists_U n1 q1
  obtain ⟨p0, rfl⟩ := exists_U n2 q2
  obtain ⟨y0, rfl⟩ := exists_U n3 q3
  obtain ⟨b1, rfl⟩ := exists_U n4 q4
  obtain ⟨t1, rfl⟩ := exists_U n5 q5
  obtain ⟨p1, rfl⟩ := exists_U n6 q6
  obtain ⟨y1, rfl⟩ := exists_U n7 q7
  obtain ⟨b2, rfl⟩ := exists_U n8 q8
  obtain ⟨t2, rfl⟩ := exists_U n9 q9
  obtain ⟨p2, rfl⟩ := exists_U n10 q10
  obtain ⟨y2, rfl⟩ := exists_U n11 q11
  exact walk b0 t0 p0 y0 b1 t1 p1 y1 b2 t2 p2 y2 W

theorem over : Rows.capabOrderRow.holds Try.pinned (OpenSpec.ofChange Rows.capabOrderSpec) :=
  OpenClaim.holds_of_wide 5 Try.f5 rfl rfl rfl rfl rfl rfl rfl ⟨rfl, rfl, rfl, rfl, rfl⟩ rfl rfl rfl rfl rfl (by kernel_rfl) Try.func5 (by kernel_rfl)
    (of_decide_eq_true (by kernel_rfl)) (by unfold Func.isWrapper; first | (rw [if_pos (by decide +kernel)]; kernel_rfl) | (rw [if_neg (by decide +kernel)]; exact ⟨rfl, rfl⟩))
    (fun os started H enc _ => lifted os started H enc)

theorem proved : Rows.CapabOrderSaid := over
end Go.Proofs.Ytikpkoeeinkecaa.Order
