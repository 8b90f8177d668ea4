
/-
  The bytes of a capability, by the document (mintmarkref05.Bytes).
-/
import Derived.Test.YtikpkoeeinkecaaBytes
import Derived.Test.YtikpkoeeinkecaaNumber
namespace Go.Proofs.Ytikpkoeeinkecaa
open Go Go.RowKit
set_option linter.unusedVariables false
set_option linter.unusedSimpArgs false

theorem byteI_sh (x : BitVec 64) (k : Nat) : U (x >>> (8 * k)) % 256 = byteI x k := by
  unfold byteI U
  rw [BitVec.toNat_ushiftRight, Nat.shiftRight_eq_div_pow, Int.natCast_ediv, Int.natCast_pow]
  rfl
theorem inB_step2 {wr : World} {b k : Nat} {a m : BitVec 64} (h : inB wr b a m k) (hk : k < 8) : inB ((wr.setCell ⟨b, k, none⟩ (.int .u8 (U (a >>> (8 * k)) % 256))).setCell ⟨b, 8 + k, none⟩ (.int .u8 (U (m >>> (8 * k)) % 256))) b a m (k + 1) := by
  rw [byteI_sh, byteI_sh]
  exact inB_step h hk
set_option maxHeartbeats 8000000 in
set_option maxRecDepth 100000 in
theorem rbytes_any (g : Bool) (m a : BitVec 64) (w : World) : Calls Try.prog 25 #[.agg #[.bool g, .int .u64 (U m), .int .u64 (U a)]] w fun r w' => r = .returned (.agg #[.int .u8 (byteI a 0), .int .u8 (byteI a 1), .int .u8 (byteI a 2), .int .u8 (byteI a 3), .int .u8 (byteI a 4), .int .u8 (byteI a 5), .int .u8 (byteI a 6), .int .u8 (byteI a 7), .int .u8 (byteI m 0), .int .u8 (byteI m 1), .int .u8 (byteI m 2), .int .u8 (byteI m 3), .int .u8 (byteI m 4), .int .u8 (byteI m 5), .int .u8 (byteI m 6), .int .u8 (byteI m 7)]) ∧ Below w.heap.size w w' := by
  go_enter Try.func25, Try.ntmps25
  go_wp2_with fail
  go_loopw [4] (fun i wr => ∃ k : Nat, i = .int .i64 (k : Int) ∧ k ≤ 8 ∧ Below w.heap.size w wr ∧ w.heap.size + 1 + 1 < wr.heap.size ∧ wr.cell? ⟨w.heap.size, 0, none⟩ = some (.bool g) ∧ wr.cell? ⟨w.heap.size, 1, none⟩ = some (.int .u64 (U m)) ∧ wr.cell? ⟨w.heap.size, 2, none⟩ = some (.int .u64 (U a)) ∧ Hid (inB wr (w.heap.size + 1 + 1) a m k) ∧ Hid (inB wr (w.heap.size + 1) a m 0)) (fun i _ => 8 - (intOf i).toNat)
  case atStart =>
    refine ⟨0, rfl, by omega, by (repeat (first | with_reducible exact Below.refl _ _ | with_reducible assumption | with_reducible refine below_drewN ?_ _ | with_reducible refine Below.drew ?_ | with_reducible refine below_alloc ?_ _ | (with_reducible refine Below.setCell ?_ (by first | (simp; done) | omega | (simp; omega)) _) | with_reducible refine belows ?_ (by assumption))), by first | omega | (simp; done) | (simp; omega), by (first | (go_simp; done) | (go_simp; (simp [↓IntWalk.iteOmega]; done)) | (go_simp; intros; omega) | (go_simp; simp [↓IntWalk.iteOmega]; intros; omega)), by (first | (go_simp; done) | (go_simp; (simp [↓IntWalk.iteOmega]; done)) | (go_simp; intros; omega) | (go_simp; simp [↓IntWalk.iteOmega]; intros; omega)), by (first | (go_simp; done) | (go_simp; (simp [↓IntWalk.iteOmega]; done)) | (go_simp; intros; omega) | (go_simp; simp [↓IntWalk.iteOmega]; intros; omega)), Lib.hid ?_, Lib.hid ?_⟩
    all_goals
     intro j hj
     obtain rfl | rfl | rfl | rfl | rfl | rfl | rfl | rfl | rfl | rfl | rfl | rfl | rfl | rfl | rfl | rfl : j = 0 ∨ j = 1 ∨ j = 2 ∨ j = 3 ∨ j = 4 ∨ j = 5 ∨ j = 6 ∨ j = 7 ∨ j = 8 ∨ j = 9 ∨ j = 10 ∨ j = 11 ∨ j = 12 ∨ j = 13 ∨ j = 14 ∨ j = 15 := by omega
     all_goals (show _ = some (Value.int .u8 0) ∧ _; exact ⟨by (first | (go_simp; done) | (go_simp; (simp [↓IntWalk.iteOmega]; done)) | (go_simp; intros; omega) | (go_simp; simp [↓IntWalk.iteOmega]; intros; omega)), by (first | (go_simp; done) | (go_simp; (simp [↓IntWalk.iteOmega]; done)) | (go_simp; intros; omega) | (go_simp; simp [↓IntWalk.iteOmega]; intros; omega))⟩)
  case round =>
    obtain ⟨k, rfl, hk, hbw, hsz, e0, e1, e2, HB, HR⟩ := hrel
    by_cases hlt : k < 8
    · obtain ⟨x1, x2⟩ := HB.out k (by omega)
      obtain ⟨y1, y2⟩ := HB.out (8 + k) (by omega)
      have hwr : IntKind.u64.wrap (8 * (k : Int)) = 8 * (k : Int) := wrap_small _ (by omega) (by omega)
      have hk8 : (0 : Int) ≤ 8 * (k : Int) := by omega
      go_wp2_with fail
      all_goals
        go_roundw
        case rel => exact ⟨k + 1, by go_num, by omega, by (repeat (first | with_reducible exact Below.refl _ _ | with_reducible assumption | with_reducible refine below_drewN ?_ _ | with_reducible refine Below.drew ?_ | with_reducible refine below_alloc ?_ _ | (with_reducible refine Below.setCell ?_ (by first | (simp; done) | omega | (simp; omega)) _) | with_reducible refine belows ?_ (by assumption))), by first | omega | (simp; omega), by (first | (go_simp; done) | (go_simp; (simp [↓IntWalk.iteOmega]; done)) | (go_simp; intros; omega) | (go_simp; simp [↓IntWalk.iteOmega]; intros; omega)), by (first | (go_simp; done) | (go_simp; (simp [↓IntWalk.iteOmega]; done)) | (go_simp; intros; omega) | (go_simp; simp [↓IntWalk.iteOmega]; intros; omega)), by (first | (go_simp; done) | (go_simp; (simp [↓IntWalk.iteOmega]; done)) | (go_simp; intros; omega) | (go_simp; simp [↓IntWalk.iteOmega]; intros; omega)), Lib.hid (inB_step2 HB.out hlt), Lib.hid (inB_other (inB_other HR.out (by omega)) (by omega))⟩
        case measure => (simp [intOf]; omega)
    · obtain rfl : k = 8 := by omega
      obtain ⟨y0, q0⟩ : wr.cell? ⟨w.heap.size + 1, 0, none⟩ = some (.int .u8 0) ∧ wr.frozen? ⟨w.heap.size + 1, 0, none⟩ = false := HR.out 0 (by omega)
      obtain ⟨y1, q1⟩ : wr.cell? ⟨w.heap.size + 1, 1, none⟩ = some (.int .u8 0) ∧ wr.frozen? ⟨w.heap.size + 1, 1, none⟩ = false := HR.out 1 (by omega)
      obtain ⟨y2, q2⟩ : wr.cell? ⟨w.heap.size + 1, 2, none⟩ = some (.int .u8 0) ∧ wr.frozen? ⟨w.heap.size + 1, 2, none⟩ = false := HR.out 2 (by omega)
      obtain ⟨y3, q3⟩ : wr.cell? ⟨w.heap.size + 1, 3, none⟩ = some (.int .u8 0) ∧ wr.frozen? ⟨w.heap.size + 1, 3, none⟩ = false := HR.out 3 (by omega)
      obtain ⟨y4, q4⟩ : wr.cell? ⟨w.heap.size + 1, 4, none⟩ = some (.int .u8 0) ∧ wr.frozen? ⟨w.heap.size + 1, 4, none⟩ = false := HR.out 4 (by omega)
      obtain ⟨y5, q5⟩ : wr.cell? ⟨w.heap.size + 1, 5, none⟩ = some (.int .u8 0) ∧ wr.frozen? ⟨w.heap.size + 1, 5, none⟩ = false := HR.out 5 (by omega)
      obtain ⟨y6, q6⟩ : wr.cell? ⟨w.heap.size + 1, 6, none⟩ = some (.int .u8 0) ∧ wr.frozen? ⟨w.heap.size + 1, 6, none⟩ = false := HR.out 6 (by omega)
      obtain ⟨y7, q7⟩ : wr.cell? ⟨w.heap.size + 1, 7, none⟩ = some (.int .u8 0) ∧ wr.frozen? ⟨w.heap.size + 1, 7, none⟩ = false := HR.out 7 (by omega)
      obtain ⟨y8, q8⟩ : wr.cell? ⟨w.heap.size + 1, 8, none⟩ = some (.int .u8 0) ∧ wr.frozen? ⟨w.heap.size + 1, 8, none⟩ = false := HR.out 8 (by omega)
      obtain ⟨y9, q9⟩ : wr.cell? ⟨w.heap.size + 1, 9, none⟩ = some (.int .u8 0) ∧ wr.frozen? ⟨w.heap.size + 1, 9, none⟩ = false := HR.out 9 (by omega)
      obtain ⟨y10, q10⟩ : wr.cell? ⟨w.heap.size + 1, 10, none⟩ = some (.int .u8 0) ∧ wr.frozen? ⟨w.heap.size + 1, 10, none⟩ = false := HR.out 10 (by omega)
      obtain ⟨y11, q11⟩ : wr.cell? ⟨w.heap.size + 1, 11, none⟩ = some (.int .u8 0) ∧ wr.frozen? ⟨w.heap.size + 1, 11, none⟩ = false := HR.out 11 (by omega)
      obtain ⟨y12, q12⟩ : wr.cell? ⟨w.heap.size + 1, 12, none⟩ = some (.int .u8 0) ∧ wr.frozen? ⟨w.heap.size + 1, 12, none⟩ = false := HR.out 12 (by omega)
      obtain ⟨y13, q13⟩ : wr.cell? ⟨w.heap.size + 1, 13, none⟩ = some (.int .u8 0) ∧ wr.frozen? ⟨w.heap.size + 1, 13, none⟩ = false := HR.out 13 (by omega)
      obtain ⟨y14, q14⟩ : wr.cell? ⟨w.heap.size + 1, 14, none⟩ = some (.int .u8 0) ∧ wr.frozen? ⟨w.heap.size + 1, 14, none⟩ = false := HR.out 14 (by omega)
      obtain ⟨y15, q15⟩ : wr.cell? ⟨w.heap.size + 1, 15, none⟩ = some (.int .u8 0) ∧ wr.frozen? ⟨w.heap.size + 1, 15, none⟩ = false := HR.out 15 (by omega)
      have z0 : wr.cell? ⟨w.heap.size + 1 + 1, 0, none⟩ = some (.int .u8 (byteI a 0)) := (HB.out 0 (by omega)).1
      have z1 : wr.cell? ⟨w.heap.size + 1 + 1, 1, none⟩ = some (.int .u8 (byteI a 1)) := (HB.out 1 (by omega)).1
      have z2 : wr.cell? ⟨w.heap.size + 1 + 1, 2, none⟩ = some (.int .u8 (byteI a 2)) := (HB.out 2 (by omega)).1
      have z3 : wr.cell? ⟨w.heap.size + 1 + 1, 3, none⟩ = some (.int .u8 (byteI a 3)) := (HB.out 3 (by omega)).1
      have z4 : wr.cell? ⟨w.heap.size + 1 + 1, 4, none⟩ = some (.int .u8 (byteI a 4)) := (HB.out 4 (by omega)).1
      have z5 : wr.cell? ⟨w.heap.size + 1 + 1, 5, none⟩ = some (.int .u8 (byteI a 5)) := (HB.out 5 (by omega)).1
      have z6 : wr.cell? ⟨w.heap.size + 1 + 1, 6, none⟩ = some (.int .u8 (byteI a 6)) := (HB.out 6 (by omega)).1
      have z7 : wr.cell? ⟨w.heap.size + 1 + 1, 7, none⟩ = some (.int .u8 (byteI a 7)) := (HB.out 7 (by omega)).1
      have z8 : wr.cell? ⟨w.heap.size + 1 + 1, 8, none⟩ = some (.int .u8 (byteI m 0)) := (HB.out 8 (by omega)).1
      have z9 : wr.cell? ⟨w.heap.size + 1 + 1, 9, none⟩ = some (.int .u8 (byteI m 1)) := (HB.out 9 (by omega)).1
      have z10 : wr.cell? ⟨w.heap.size + 1 + 1, 10, none⟩ = some (.int .u8 (byteI m 2)) := (HB.out 10 (by omega)).1
      have z11 : wr.cell? ⟨w.heap.size + 1 + 1, 11, none⟩ = some (.int .u8 (byteI m 3)) := (HB.out 11 (by omega)).1
      have z12 : wr.cell? ⟨w.heap.size + 1 + 1, 12, none⟩ = some (.int .u8 (byteI m 4)) := (HB.out 12 (by omega)).1
      have z13 : wr.cell? ⟨w.heap.size + 1 + 1, 13, none⟩ = some (.int .u8 (byteI m 5)) := (HB.out 13 (by omega)).1
      have z14 : wr.cell? ⟨w.heap.size + 1 + 1, 14, none⟩ = some (.int .u8 (byteI m 6)) := (HB.out 14 (by omega)).1
      have z15 : wr.cell? ⟨w.heap.size + 1 + 1, 15, none⟩ = some (.int .u8 (byteI m 7)) := (HB.out 15 (by omega)).1
      go_wp2_with fail
      refine ret_c Try.results25 rfl rfl Try.underlying56 rfl (by kernel_rfl) (by (repeat (first | with_reducible exact Below.refl _ _ | with_reducible assumption | with_reducible refine below_drewN ?_ _ | with_reducible refine Below.drew ?_ | with_reducible refine below_alloc ?_ _ | (with_reducible refine Below.setCell ?_ (by first | (simp; done) | omega | (simp; omega)) _) | with_reducible refine belows ?_ (by assumption)))) ?_
      (first | (go_simp; done) | (go_simp; (simp [↓IntWalk.iteOmega]; done)) | (go_simp; intros; omega) | (go_simp; simp [↓IntWalk.iteOmega]; intros; omega))
end Go.Proofs.Ytikpkoeeinkecaa
