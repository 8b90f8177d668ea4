
/-
  What some bytes touch, by the document (mintmarkref07.Cover).
-/
import Derived.Test.YtfbkfbmfeaajkaaTagsR
import Derived.Test.YtfbkfbmfeaajkaaTagsC
namespace Go.Proofs.Ytfbkfbmfeaajkaa
open Go Go.RowKit
set_option linter.unusedVariables false
set_option linter.unusedSimpArgs false

/-- What a place's bytes are to some. -/
theorem cov_at (off n : Int) (hn : 1 ≤ n) (k : Nat) : covS off n k = (decide (off ≤ 16 * (k : Int) + 15) && decide (16 * (k : Int) < off + n)) := by
  unfold covS
  rw [decide_eq_true hn, Bool.true_and]
theorem sub_is (off : Int) (k : Nat) (hk : k < 256) (h0 : -9223372036854775808 ≤ off) (h1 : off < 16 * (k : Int)) : U (16#64 * BitVec.ofNat 64 k - BitVec.ofInt 64 off) = 16 * (k : Int) - off := by
  unfold U
  rw [BitVec.toNat_sub, BitVec.toNat_mul, BitVec.toNat_ofInt]
  simp only [BitVec.toNat_ofNat]
  omega
theorem acc_skip (c : Nat → Bool) (k : Nat) (h : c k = false) : accS c (k + 1) = accS c k := by
  funext j
  unfold accS
  by_cases e : j = k
  · subst e; rw [h]; simp
  · by_cases d : j < k
    · rw [decide_eq_true d, decide_eq_true (show j < k + 1 by omega)]
    · rw [decide_eq_false d, decide_eq_false (show ¬ j < k + 1 by omega)]
set_option maxHeartbeats 4000000 in
set_option maxRecDepth 100000 in
theorem rcover_yes (off n : Int) (ho : -9223372036854775808 ≤ off ∧ off ≤ 9223372036854775807) (h1 : 1 ≤ n) (h2 : n ≤ 9223372036854775807) (w : World) : Calls Try.prog 9 #[.int .i64 off, .int .i64 n] w fun r w' => r = .returned (.agg #[.int .u64 (U (wd (covS off n) 0)), .int .u64 (U (wd (covS off n) 1)), .int .u64 (U (wd (covS off n) 2)), .int .u64 (U (wd (covS off n) 3))]) ∧ Below w.heap.size w w' := by
  go_enter Try.func9, Try.ntmps9
  go_wp2_with fail
  go_loopw [6] (fun i wr => ∃ k : Nat, i = .int .i64 (k : Int) ∧ k ≤ 256 ∧ Below w.heap.size w wr ∧ w.heap.size + 1 < wr.heap.size ∧ wr.cell? ⟨w.heap.size + 1, 0, none⟩ = some (.int .u64 (U (wd (accS (covS off n) k) 0))) ∧ wr.cell? ⟨w.heap.size + 1, 1, none⟩ = some (.int .u64 (U (wd (accS (covS off n) k) 1))) ∧ wr.cell? ⟨w.heap.size + 1, 2, none⟩ = some (.int .u64 (U (wd (accS (covS off n) k) 2))) ∧ wr.cell? ⟨w.heap.size + 1, 3, none⟩ = some (.int .u64 (U (wd (accS (covS off n) k) 3))) ∧ wr.frozen? ⟨w.heap.size + 1, 0, none⟩ = false ∧ wr.frozen? ⟨w.heap.size + 1, 1, none⟩ = false ∧ wr.frozen? ⟨w.heap.size + 1, 2, none⟩ = false ∧ wr.frozen? ⟨w.heap.size + 1, 3, none⟩ = false ∧ wr.cell? ⟨w.heap.size, 0, none⟩ = some (.int .u64 0) ∧ wr.cell? ⟨w.heap.size, 1, none⟩ = some (.int .u64 0) ∧ wr.cell? ⟨w.heap.size, 2, none⟩ = some (.int .u64 0) ∧ wr.cell? ⟨w.heap.size, 3, none⟩ = some (.int .u64 0) ∧ wr.frozen? ⟨w.heap.size, 0, none⟩ = false ∧ wr.frozen? ⟨w.heap.size, 1, none⟩ = false ∧ wr.frozen? ⟨w.heap.size, 2, none⟩ = false ∧ wr.frozen? ⟨w.heap.size, 3, none⟩ = false) (fun i _ => 256 - (intOf i).toNat)
  case atStart => exact ⟨0, rfl, by omega, by (repeat (first | with_reducible exact Below.refl _ _ | with_reducible assumption | with_reducible refine below_drewN ?_ _ | with_reducible refine Below.drew ?_ | with_reducible refine below_alloc ?_ _ | (with_reducible refine Below.setCell ?_ (by first | (simp; done) | omega | (simp; omega)) _) | with_reducible refine belows ?_ (by assumption))), by first | omega | (simp; done) | (simp; omega), by (rw [acc_zero]; show _ = some (Value.int .u64 0); (first | (go_simp; done) | (go_simp; (simp [↓IntWalk.iteOmega]; done)) | (go_simp; intros; omega) | (go_simp; simp [↓IntWalk.iteOmega]; intros; omega))), by (rw [acc_zero]; show _ = some (Value.int .u64 0); (first | (go_simp; done) | (go_simp; (simp [↓IntWalk.iteOmega]; done)) | (go_simp; intros; omega) | (go_simp; simp [↓IntWalk.iteOmega]; intros; omega))), by (rw [acc_zero]; show _ = some (Value.int .u64 0); (first | (go_simp; done) | (go_simp; (simp [↓IntWalk.iteOmega]; done)) | (go_simp; intros; omega) | (go_simp; simp [↓IntWalk.iteOmega]; intros; omega))), by (rw [acc_zero]; show _ = some (Value.int .u64 0); (first | (go_simp; done) | (go_simp; (simp [↓IntWalk.iteOmega]; done)) | (go_simp; intros; omega) | (go_simp; simp [↓IntWalk.iteOmega]; intros; omega))), by (first | (first | (go_simp; done) | (go_simp; (simp [↓IntWalk.iteOmega]; done)) | (go_simp; intros; omega) | (go_simp; simp [↓IntWalk.iteOmega]; intros; omega)) | (go_simp; simp [*]) | (simp [*])), by (first | (first | (go_simp; done) | (go_simp; (simp [↓IntWalk.iteOmega]; done)) | (go_simp; intros; omega) | (go_simp; simp [↓IntWalk.iteOmega]; intros; omega)) | (go_simp; simp [*]) | (simp [*])), by (first | (first | (go_simp; done) | (go_simp; (simp [↓IntWalk.iteOmega]; done)) | (go_simp; intros; omega) | (go_simp; simp [↓IntWalk.iteOmega]; intros; omega)) | (go_simp; simp [*]) | (simp [*])), by (first | (first | (go_simp; done) | (go_simp; (simp [↓IntWalk.iteOmega]; done)) | (go_simp; intros; omega) | (go_simp; simp [↓IntWalk.iteOmega]; intros; omega)) | (go_simp; simp [*]) | (simp [*])), by (first | (first | (go_simp; done) | (go_simp; (simp [↓IntWalk.iteOmega]; done)) | (go_simp; intros; omega) | (go_simp; simp [↓IntWalk.iteOmega]; intros; omega)) | (go_simp; simp [*]) | (simp [*])), by (first | (first | (go_simp; done) | (go_simp; (simp [↓IntWalk.iteOmega]; done)) | (go_simp; intros; omega) | (go_simp; simp [↓IntWalk.iteOmega]; intros; omega)) | (go_simp; simp [*]) | (simp [*])), by (first | (first | (go_simp; done) | (go_simp; (simp [↓IntWalk.iteOmega]; done)) | (go_simp; intros; omega) | (go_simp; simp [↓IntWalk.iteOmega]; intros; omega)) | (go_simp; simp [*]) | (simp [*])), by (first | (first | (go_simp; done) | (go_simp; (simp [↓IntWalk.iteOmega]; done)) | (go_simp; intros; omega) | (go_simp; simp [↓IntWalk.iteOmega]; intros; omega)) | (go_simp; simp [*]) | (simp [*])), by (first | (first | (go_simp; done) | (go_simp; (simp [↓IntWalk.iteOmega]; done)) | (go_simp; intros; omega) | (go_simp; simp [↓IntWalk.iteOmega]; intros; omega)) | (go_simp; simp [*]) | (simp [*])), by (first | (first | (go_simp; done) | (go_simp; (simp [↓IntWalk.iteOmega]; done)) | (go_simp; intros; omega) | (go_simp; simp [↓IntWalk.iteOmega]; intros; omega)) | (go_simp; simp [*]) | (simp [*])), by (first | (first | (go_simp; done) | (go_simp; (simp [↓IntWalk.iteOmega]; done)) | (go_simp; intros; omega) | (go_simp; simp [↓IntWalk.iteOmega]; intros; omega)) | (go_simp; simp [*]) | (simp [*])), by (first | (first | (go_simp; done) | (go_simp; (simp [↓IntWalk.iteOmega]; done)) | (go_simp; intros; omega) | (go_simp; simp [↓IntWalk.iteOmega]; intros; omega)) | (go_simp; simp [*]) | (simp [*]))⟩
  case round =>
    obtain ⟨k, rfl, hk, hbw, hsz, x0, x1, x2, x3, z0, z1, z2, z3, y0, y1, y2, y3, u0, u1, u2, u3⟩ := hrel
    by_cases hlt : k < 256
    · have ha := acc_upd (covS off n) k hlt
      have hq := cov_at off n h1 k
      have cw := rwith_any (accS (covS off n) k) (k : Int) true
      by_cases c1 : off ≤ 16 * (k : Int) + 15
      · rw [decide_eq_true c1, Bool.true_and] at hq
        by_cases c2 : 16 * (k : Int) ≤ off
        · rw [decide_eq_true (show 16 * (k : Int) < off + n by omega)] at hq
          rw [hq] at ha
          rw [ha] at cw
          clear ha hq
          have d1 : decide (off ≤ 16 * (k : Int) + 15) = true := decide_eq_true c1
          have d2 : decide (16 * (k : Int) ≤ off) = true := decide_eq_true c2
          go_wp2_with (first | (go_at_call 17; (with_reducible refine (cw _).mono ?_); rintro e w' ⟨rfl, hbl⟩; obtain ⟨hcw, hfw, hsw⟩ := below_ifs hbl; (try simp only [World.size_alloc, World.size_setCell, World.size_drew, size_drewN_] at hcw hfw hsw)))
          go_roundw
          case rel => exact ⟨k + 1, by go_num, by omega, by (repeat (first | with_reducible exact Below.refl _ _ | with_reducible assumption | with_reducible refine below_drewN ?_ _ | with_reducible refine Below.drew ?_ | with_reducible refine below_alloc ?_ _ | (with_reducible refine Below.setCell ?_ (by first | (simp; done) | omega | (simp; omega)) _) | with_reducible refine belows ?_ (by assumption))), by first | omega | (simp; omega), by (first | (first | (go_simp; done) | (go_simp; (simp [↓IntWalk.iteOmega]; done)) | (go_simp; intros; omega) | (go_simp; simp [↓IntWalk.iteOmega]; intros; omega)) | (go_simp; simp [*]) | (simp [*])), by (first | (first | (go_simp; done) | (go_simp; (simp [↓IntWalk.iteOmega]; done)) | (go_simp; intros; omega) | (go_simp; simp [↓IntWalk.iteOmega]; intros; omega)) | (go_simp; simp [*]) | (simp [*])), by (first | (first | (go_simp; done) | (go_simp; (simp [↓IntWalk.iteOmega]; done)) | (go_simp; intros; omega) | (go_simp; simp [↓IntWalk.iteOmega]; intros; omega)) | (go_simp; simp [*]) | (simp [*])), by (first | (first | (go_simp; done) | (go_simp; (simp [↓IntWalk.iteOmega]; done)) | (go_simp; intros; omega) | (go_simp; simp [↓IntWalk.iteOmega]; intros; omega)) | (go_simp; simp [*]) | (simp [*])), by (first | (first | (go_simp; done) | (go_simp; (simp [↓IntWalk.iteOmega]; done)) | (go_simp; intros; omega) | (go_simp; simp [↓IntWalk.iteOmega]; intros; omega)) | (go_simp; simp [*]) | (simp [*])), by (first | (first | (go_simp; done) | (go_simp; (simp [↓IntWalk.iteOmega]; done)) | (go_simp; intros; omega) | (go_simp; simp [↓IntWalk.iteOmega]; intros; omega)) | (go_simp; simp [*]) | (simp [*])), by (first | (first | (go_simp; done) | (go_simp; (simp [↓IntWalk.iteOmega]; done)) | (go_simp; intros; omega) | (go_simp; simp [↓IntWalk.iteOmega]; intros; omega)) | (go_simp; simp [*]) | (simp [*])), by (first | (first | (go_simp; done) | (go_simp; (simp [↓IntWalk.iteOmega]; done)) | (go_simp; intros; omega) | (go_simp; simp [↓IntWalk.iteOmega]; intros; omega)) | (go_simp; simp [*]) | (simp [*])), by (first | (first | (go_simp; done) | (go_simp; (simp [↓IntWalk.iteOmega]; done)) | (go_simp; intros; omega) | (go_simp; simp [↓IntWalk.iteOmega]; intros; omega)) | (go_simp; simp [*]) | (simp [*])), by (first | (first | (go_simp; done) | (go_simp; (simp [↓IntWalk.iteOmega]; done)) | (go_simp; intros; omega) | (go_simp; simp [↓IntWalk.iteOmega]; intros; omega)) | (go_simp; simp [*]) | (simp [*])), by (first | (first | (go_simp; done) | (go_simp; (simp [↓IntWalk.iteOmega]; done)) | (go_simp; intros; omega) | (go_simp; simp [↓IntWalk.iteOmega]; intros; omega)) | (go_simp; simp [*]) | (simp [*])), by (first | (first | (go_simp; done) | (go_simp; (simp [↓IntWalk.iteOmega]; done)) | (go_simp; intros; omega) | (go_simp; simp [↓IntWalk.iteOmega]; intros; omega)) | (go_simp; simp [*]) | (simp [*])), by (first | (first | (go_simp; done) | (go_simp; (simp [↓IntWalk.iteOmega]; done)) | (go_simp; intros; omega) | (go_simp; simp [↓IntWalk.iteOmega]; intros; omega)) | (go_simp; simp [*]) | (simp [*])), by (first | (first | (go_simp; done) | (go_simp; (simp [↓IntWalk.iteOmega]; done)) | (go_simp; intros; omega) | (go_simp; simp [↓IntWalk.iteOmega]; intros; omega)) | (go_simp; simp [*]) | (simp [*])), by (first | (first | (go_simp; done) | (go_simp; (simp [↓IntWalk.iteOmega]; done)) | (go_simp; intros; omega) | (go_simp; simp [↓IntWalk.iteOmega]; intros; omega)) | (go_simp; simp [*]) | (simp [*])), by (first | (first | (go_simp; done) | (go_simp; (simp [↓IntWalk.iteOmega]; done)) | (go_simp; intros; omega) | (go_simp; simp [↓IntWalk.iteOmega]; intros; omega)) | (go_simp; simp [*]) | (simp [*]))⟩
          case measure => (simp [intOf]; omega)
        · have e1 : IntKind.u64.wrap n = n := IntWalk.u64_in _ (by omega)
          have e2 : IntKind.u64.wrap (16 * (k : Int)) = 16 * (k : Int) := IntWalk.u64_in _ (by omega)
          have hsub := sub_is off k hlt ho.1 (by omega)
          have d1 : decide (off ≤ 16 * (k : Int) + 15) = true := decide_eq_true c1
          have d2 : decide (16 * (k : Int) ≤ off) = false := decide_eq_false c2
          by_cases c3 : 16 * (k : Int) < off + n
          · rw [decide_eq_true c3] at hq
            rw [hq] at ha
            rw [ha] at cw
            clear ha hq
            go_wp2_with (first | (go_at_call 17; (with_reducible refine (cw _).mono ?_); rintro e w' ⟨rfl, hbl⟩; obtain ⟨hcw, hfw, hsw⟩ := below_ifs hbl; (try simp only [World.size_alloc, World.size_setCell, World.size_drew, size_drewN_] at hcw hfw hsw)))
            go_roundw
            case rel => exact ⟨k + 1, by go_num, by omega, by (repeat (first | with_reducible exact Below.refl _ _ | with_reducible assumption | with_reducible refine below_drewN ?_ _ | with_reducible refine Below.drew ?_ | with_reducible refine below_alloc ?_ _ | (with_reducible refine Below.setCell ?_ (by first | (simp; done) | omega | (simp; omega)) _) | with_reducible refine belows ?_ (by assumption))), by first | omega | (simp; omega), by (first | (first | (go_simp; done) | (go_simp; (simp [↓IntWalk.iteOmega]; done)) | (go_simp; intros; omega) | (go_simp; simp [↓IntWalk.iteOmega]; intros; omega)) | (go_simp; simp [*]) | (simp [*])), by (first | (first | (go_simp; done) | (go_simp; (simp [↓IntWalk.iteOmega]; done)) | (go_simp; intros; omega) | (go_simp; simp [↓IntWalk.iteOmega]; intros; omega)) | (go_simp; simp [*]) | (simp [*])), by (first | (first | (go_simp; done) | (go_simp; (simp [↓IntWalk.iteOmega]; done)) | (go_simp; intros; omega) | (go_simp; simp [↓IntWalk.iteOmega]; intros; omega)) | (go_simp; simp [*]) | (simp [*])), by (first | (first | (go_simp; done) | (go_simp; (simp [↓IntWalk.iteOmega]; done)) | (go_simp; intros; omega) | (go_simp; simp [↓IntWalk.iteOmega]; intros; omega)) | (go_simp; simp [*]) | (simp [*])), by (first | (first | (go_simp; done) | (go_simp; (simp [↓IntWalk.iteOmega]; done)) | (go_simp; intros; omega) | (go_simp; simp [↓IntWalk.iteOmega]; intros; omega)) | (go_simp; simp [*]) | (simp [*])), by (first | (first | (go_simp; done) | (go_simp; (simp [↓IntWalk.iteOmega]; done)) | (go_simp; intros; omega) | (go_simp; simp [↓IntWalk.iteOmega]; intros; omega)) | (go_simp; simp [*]) | (simp [*])), by (first | (first | (go_simp; done) | (go_simp; (simp [↓IntWalk.iteOmega]; done)) | (go_simp; intros; omega) | (go_simp; simp [↓IntWalk.iteOmega]; intros; omega)) | (go_simp; simp [*]) | (simp [*])), by (first | (first | (go_simp; done) | (go_simp; (simp [↓IntWalk.iteOmega]; done)) | (go_simp; intros; omega) | (go_simp; simp [↓IntWalk.iteOmega]; intros; omega)) | (go_simp; simp [*]) | (simp [*])), by (first | (first | (go_simp; done) | (go_simp; (simp [↓IntWalk.iteOmega]; done)) | (go_simp; intros; omega) | (go_simp; simp [↓IntWalk.iteOmega]; intros; omega)) | (go_simp; simp [*]) | (simp [*])), by (first | (first | (go_simp; done) | (go_simp; (simp [↓IntWalk.iteOmega]; done)) | (go_simp; intros; omega) | (go_simp; simp [↓IntWalk.iteOmega]; intros; omega)) | (go_simp; simp [*]) | (simp [*])), by (first | (first | (go_simp; done) | (go_simp; (simp [↓IntWalk.iteOmega]; done)) | (go_simp; intros; omega) | (go_simp; simp [↓IntWalk.iteOmega]; intros; omega)) | (go_simp; simp [*]) | (simp [*])), by (first | (first | (go_simp; done) | (go_simp; (simp [↓IntWalk.iteOmega]; done)) | (go_simp; intros; omega) | (go_simp; simp [↓IntWalk.iteOmega]; intros; omega)) | (go_simp; simp [*]) | (simp [*])), by (first | (first | (go_simp; done) | (go_simp; (simp [↓IntWalk.iteOmega]; done)) | (go_simp; intros; omega) | (go_simp; simp [↓IntWalk.iteOmega]; intros; omega)) | (go_simp; simp [*]) | (simp [*])), by (first | (first | (go_simp; done) | (go_simp; (simp [↓IntWalk.iteOmega]; done)) | (go_simp; intros; omega) | (go_simp; simp [↓IntWalk.iteOmega]; intros; omega)) | (go_simp; simp [*]) | (simp [*])), by (first | (first | (go_simp; done) | (go_simp; (simp [↓IntWalk.iteOmega]; done)) | (go_simp; intros; omega) | (go_simp; simp [↓IntWalk.iteOmega]; intros; omega)) | (go_simp; simp [*]) | (simp [*])), by (first | (first | (go_simp; done) | (go_simp; (simp [↓IntWalk.iteOmega]; done)) | (go_simp; intros; omega) | (go_simp; simp [↓IntWalk.iteOmega]; intros; omega)) | (go_simp; simp [*]) | (simp [*]))⟩
            case measure => (simp [intOf]; omega)
          · rw [decide_eq_false c3] at hq
            have hs := acc_skip (covS off n) k hq
            clear ha hq cw
            go_wp2_with fail
            go_roundw
            case rel => exact ⟨k + 1, by go_num, by omega, by (repeat (first | with_reducible exact Below.refl _ _ | with_reducible assumption | with_reducible refine below_drewN ?_ _ | with_reducible refine Below.drew ?_ | with_reducible refine below_alloc ?_ _ | (with_reducible refine Below.setCell ?_ (by first | (simp; done) | omega | (simp; omega)) _) | with_reducible refine belows ?_ (by assumption))), by first | omega | (simp; omega), by rw [hs]; assumption, by rw [hs]; assumption, by rw [hs]; assumption, by rw [hs]; assumption, z0, z1, z2, z3, y0, y1, y2, y3, u0, u1, u2, u3⟩
            case measure => (simp [intOf]; omega)
      · rw [decide_eq_false c1, Bool.false_and] at hq
        have hs := acc_skip (covS off n) k hq
        clear ha hq cw
        have d1 : decide (off ≤ 16 * (k : Int) + 15) = false := decide_eq_false c1
        go_wp2_with fail
        go_roundw
        case rel => exact ⟨k + 1, by go_num, by omega, by (repeat (first | with_reducible exact Below.refl _ _ | with_reducible assumption | with_reducible refine below_drewN ?_ _ | with_reducible refine Below.drew ?_ | with_reducible refine below_alloc ?_ _ | (with_reducible refine Below.setCell ?_ (by first | (simp; done) | omega | (simp; omega)) _) | with_reducible refine belows ?_ (by assumption))), by first | omega | (simp; omega), by rw [hs]; assumption, by rw [hs]; assumption, by rw [hs]; assumption, by rw [hs]; assumption, z0, z1, z2, z3, y0, y1, y2, y3, u0, u1, u2, u3⟩
        case measure => (simp [intOf]; omega)
    · obtain rfl : k = 256 := by omega
      rw [acc_all _ 0 (by omega)] at x0
      rw [acc_all _ 1 (by omega)] at x1
      rw [acc_all _ 2 (by omega)] at x2
      rw [acc_all _ 3 (by omega)] at x3
      go_wp2_with fail
      refine ret_c Try.results9 rfl rfl Try.underlying25 rfl (by kernel_rfl) (by (repeat (first | with_reducible exact Below.refl _ _ | with_reducible assumption | with_reducible refine below_drewN ?_ _ | with_reducible refine Below.drew ?_ | with_reducible refine below_alloc ?_ _ | (with_reducible refine Below.setCell ?_ (by first | (simp; done) | omega | (simp; omega)) _) | with_reducible refine belows ?_ (by assumption)))) ?_
      (first | (go_simp; done) | (go_simp; (simp [↓IntWalk.iteOmega]; done)) | (go_simp; intros; omega) | (go_simp; simp [↓IntWalk.iteOmega]; intros; omega))
set_option maxHeartbeats 4000000 in
set_option maxRecDepth 100000 in
theorem rcover_no (off n : Int) (h1 : n < 1) (w : World) : Calls Try.prog 9 #[.int .i64 off, .int .i64 n] w fun r w' => r = .returned (.agg #[.int .u64 (U (wd (covS off n) 0)), .int .u64 (U (wd (covS off n) 1)), .int .u64 (U (wd (covS off n) 2)), .int .u64 (U (wd (covS off n) 3))]) ∧ Below w.heap.size w w' := by
  rw [cov_none (off := off) (n := n) (by omega) 0 (by omega), cov_none (off := off) (n := n) (by omega) 1 (by omega), cov_none (off := off) (n := n) (by omega) 2 (by omega), cov_none (off := off) (n := n) (by omega) 3 (by omega), U_zero]
  have hd : decide (0 < n) = false := decide_eq_false (by omega)
  go_enter Try.func9, Try.ntmps9
  go_wp2_with fail
  refine wp_loop_rounds 1 ?_
  rw [rounds_succ]
  go_wp2_with fail
  refine ret_c Try.results9 rfl rfl Try.underlying25 rfl (by kernel_rfl) (by (repeat (first | with_reducible exact Below.refl _ _ | with_reducible assumption | with_reducible refine below_drewN ?_ _ | with_reducible refine Below.drew ?_ | with_reducible refine below_alloc ?_ _ | (with_reducible refine Below.setCell ?_ (by first | (simp; done) | omega | (simp; omega)) _) | with_reducible refine belows ?_ (by assumption)))) ?_
  (first | (go_simp; done) | (go_simp; (simp [↓IntWalk.iteOmega]; done)) | (go_simp; intros; omega) | (go_simp; simp [↓IntWalk.iteOmega]; intros; omega))
theorem rcover_any (off n : Int) (ho : -9223372036854775808 ≤ off ∧ off ≤ 9223372036854775807) (hn : n ≤ 9223372036854775807) (w : World) : Calls Try.prog 9 #[.int .i64 off, .int .i64 n] w fun r w' => r = .returned (.agg #[.int .u64 (U (wd (covS off n) 0)), .int .u64 (U (wd (covS off n) 1)), .int .u64 (U (wd (covS off n) 2)), .int .u64 (U (wd (covS off n) 3))]) ∧ Below w.heap.size w w' := by
  by_cases h : n < 1
  · exact rcover_no off n h w
  · exact rcover_yes off n ho (by omega) hn w
end Go.Proofs.Ytfbkfbmfeaajkaa
