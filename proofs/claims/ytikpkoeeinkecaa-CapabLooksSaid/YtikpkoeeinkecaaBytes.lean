
/-
  The bytes of a capability (capab.Bytes, number, Of).
-/
import Derived.Test.YtikpkoeeinkecaaProg
import Derived.Test.YtikpkoeeinkecaaChecked
import Derived.Test.YtikpkoeeinkecaaBits
import Derived.Test.YtikpkoeeinkecaaCells
import Derived.Test.YtikpkoeeinkecaaWalk
import Derived.Test.YtikpkoeeinkecaaRet
import Derived.Deep.QuietTactic
import Derived.BigQuiet
import Derived.BigRegion
import Derived.LoopTactic
namespace Go.Proofs.Ytikpkoeeinkecaa
open Go Go.RowKit
set_option linter.unusedVariables false
set_option linter.unusedSimpArgs false

/-- A byte of a word. -/
def byteI (x : BitVec 64) (k : Nat) : Int := U x / 2 ^ (8 * k) % 256
/-- What is in a place, of the bytes of two words, when some are there. -/
def valB (a m : BitVec 64) (k j : Nat) : Int := if j < 8 then (if j < k then byteI a j else 0) else (if j - 8 < k then byteI m (j - 8) else 0)
def inB (w : World) (b : Nat) (a m : BitVec 64) (k : Nat) : Prop := ∀ j, j < 16 → w.cell? ⟨b, j, none⟩ = some (.int .u8 (valB a m k j)) ∧ w.frozen? ⟨b, j, none⟩ = false
theorem inB_step {wr : World} {b k : Nat} {a m : BitVec 64} (h : inB wr b a m k) (hk : k < 8) : inB ((wr.setCell ⟨b, k, none⟩ (.int .u8 (byteI a k))).setCell ⟨b, 8 + k, none⟩ (.int .u8 (byteI m k))) b a m (k + 1) := by
  intro j hj
  obtain ⟨h1, h2⟩ := h j hj
  refine ⟨?_, by rw [World.frozen?_setCell, World.frozen?_setCell]; exact h2⟩
  by_cases c : j = 8 + k
  · subst c
    rw [World.cell?_setCell_same (u := .int .u8 (valB a m k (8 + k))) _ _ _ (by rw [World.cell?_setCell_other _ _ _ _ (by first | (simp; done) | (simp; omega))]; exact h1)]
    unfold valB
    rw [if_neg (by omega), if_pos (by omega), Nat.add_sub_cancel_left]
  · rw [World.cell?_setCell_other _ _ _ _ (by first | (simp; done) | (simp; omega))]
    by_cases d : j = k
    · subst d
      rw [World.cell?_setCell_same _ _ _ h1]
      unfold valB
      rw [if_pos (by omega), if_pos (by omega)]
    · rw [World.cell?_setCell_other _ _ _ _ (by first | (simp; done) | (simp; omega)), h1]
      unfold valB
      by_cases e : j < 8
      · rw [if_pos e, if_pos e]
        by_cases f : j < k
        · rw [if_pos f, if_pos (by omega)]
        · rw [if_neg f, if_neg (by omega)]
      · rw [if_neg e, if_neg e]
        by_cases f : j - 8 < k
        · rw [if_pos f, if_pos (by omega)]
        · rw [if_neg f, if_neg (by omega)]
theorem inB_other {w : World} {b b' o k : Nat} {a m : BitVec 64} {v : Value} (h : inB w b a m k) (hb : b' ≠ b) : inB (w.setCell ⟨b', o, none⟩ v) b a m k := by
  intro j hj
  obtain ⟨h1, h2⟩ := h j hj
  refine ⟨?_, by rw [World.frozen?_setCell]; exact h2⟩
  rw [World.cell?_setCell_other _ _ _ _ (by simp [hb])]
  exact h1
theorem inB_drew {w : World} {b k : Nat} {a m : BitVec 64} (h : inB w b a m k) : inB w.drew b a m k := h
set_option maxHeartbeats 8000000 in
set_option maxRecDepth 100000 in
theorem bytes_any (g : Bool) (m a : BitVec 64) (w : World) : Calls Try.prog 20 #[.agg #[.bool g, .int .u64 (U m), .int .u64 (U a)]] w fun r w' => r = .returned (.agg #[.int .u8 (byteI a 0), .int .u8 (byteI a 1), .int .u8 (byteI a 2), .int .u8 (byteI a 3), .int .u8 (byteI a 4), .int .u8 (byteI a 5), .int .u8 (byteI a 6), .int .u8 (byteI a 7), .int .u8 (byteI m 0), .int .u8 (byteI m 1), .int .u8 (byteI m 2), .int .u8 (byteI m 3), .int .u8 (byteI m 4), .int .u8 (byteI m 5), .int .u8 (byteI m 6), .int .u8 (byteI m 7)]) ∧ Below w.heap.size w w' := by
  go_enter Try.func20, Try.ntmps20
  go_wp2_with fail
  go_loopw [5] (fun i wr => ∃ k : Nat, i = .int .i64 (k : Int) ∧ k ≤ 8 ∧ Below w.heap.size w wr ∧ w.heap.size + 1 + 1 < wr.heap.size ∧ wr.cell? ⟨w.heap.size, 0, none⟩ = some (.bool g) ∧ wr.cell? ⟨w.heap.size, 1, none⟩ = some (.int .u64 (U m)) ∧ wr.cell? ⟨w.heap.size, 2, none⟩ = some (.int .u64 (U a)) ∧ Hid (inB wr (w.heap.size + 1 + 1) a m k) ∧ Hid (inB wr (w.heap.size + 1) a m 0)) (fun i _ => 8 - (intOf i).toNat)
  case atStart =>
    refine ⟨0, rfl, by omega, by (repeat (first | with_reducible exact Below.refl _ _ | with_reducible assumption | with_reducible refine below_drewN ?_ _ | with_reducible refine Below.drew ?_ | with_reducible refine below_alloc ?_ _ | (with_reducible refine Below.setCell ?_ (by first | (simp; done) | omega | (simp; omega)) _) | with_reducible refine belows ?_ (by assumption))), by first | omega | (simp; done) | (simp; omega), by (first | (go_simp; done) | (go_simp; (simp [↓IntWalk.iteOmega]; done)) | (go_simp; intros; omega) | (go_simp; simp [↓IntWalk.iteOmega]; intros; omega)), by (first | (go_simp; done) | (go_simp; (simp [↓IntWalk.iteOmega]; done)) | (go_simp; intros; omega) | (go_simp; simp [↓IntWalk.iteOmega]; intros; omega)), by (first | (go_simp; done) | (go_simp; (simp [↓IntWalk.iteOmega]; done)) | (go_simp; intros; omega) | (go_simp; simp [↓IntWalk.iteOmega]; intros; omega)), Lib.hid ?_, Lib.hid ?_⟩
    all_goals
     intro j hj
     obtain rfl | rfl | rfl | rfl | rfl | rfl | rfl | rfl | rfl | rfl | rfl | rfl | rfl | rfl | rfl | rfl : j = 0 ∨ j = 1 ∨ j = 2 ∨ j = 3 ∨ j = 4 ∨ j = 5 ∨ j = 6 ∨ j = 7 ∨ j = 8 ∨ j = 9 ∨ j = 10 ∨ j = 11 ∨ j = 12 ∨ j = 13 ∨ j = 14 ∨ j = 15 := by omega
     all_goals (show _ = some (Value.int .u8 0) ∧ _; exact ⟨by (first | (go_simp; done) | (go_simp; (simp [↓IntWalk.iteOmega]; done)) | (go_simp; intros; omega) | (go_simp; simp [↓IntWalk.iteOmega]; intros; omega)), by (first | (go_simp; done) | (go_simp; (simp [↓IntWalk.iteOmega]; done)) | (go_simp; intros; omega) | (go_simp; simp [↓IntWalk.iteOmega]; intros; omega))⟩)
  case round =>
    obtain ⟨k, rfl, hk, hbw, hsz, e0, e1, e2, HB, HR⟩ := hrel
    by_cases hlt : k < 8
    · obtain ⟨x1, x2⟩ := HB.out k (by omega)
      obtain ⟨y1, y2⟩ := HB.out (8 + k) (by omega)
      go_wp2_with fail
      go_region
      all_goals go_wp2_with fail
      all_goals
        go_roundw
        case rel => exact ⟨k + 1, by go_num, by omega, by (repeat (first | with_reducible exact Below.refl _ _ | with_reducible assumption | with_reducible refine below_drewN ?_ _ | with_reducible refine Below.drew ?_ | with_reducible refine below_alloc ?_ _ | (with_reducible refine Below.setCell ?_ (by first | (simp; done) | omega | (simp; omega)) _) | with_reducible refine belows ?_ (by assumption))), by first | omega | (simp; omega), by (first | (go_simp; done) | (go_simp; (simp [↓IntWalk.iteOmega]; done)) | (go_simp; intros; omega) | (go_simp; simp [↓IntWalk.iteOmega]; intros; omega)), by (first | (go_simp; done) | (go_simp; (simp [↓IntWalk.iteOmega]; done)) | (go_simp; intros; omega) | (go_simp; simp [↓IntWalk.iteOmega]; intros; omega)), by (first | (go_simp; done) | (go_simp; (simp [↓IntWalk.iteOmega]; done)) | (go_simp; intros; omega) | (go_simp; simp [↓IntWalk.iteOmega]; intros; omega)), Lib.hid (inB_drew (inB_step HB.out hlt)), Lib.hid (inB_drew (inB_other (inB_other HR.out (by omega)) (by omega)))⟩
        case measure => (simp [intOf]; omega)
    · obtain rfl : k = 8 := by omega
      obtain ⟨y0, q0⟩ : wr.cell? ⟨w.heap.size + 1, 0, none⟩ = some (.int .u8 0) ∧ wr.frozen? ⟨w.heap.size + 1, 0, none⟩ = false := HR.out 0 (by omega)
      obtain ⟨y1, q1⟩ : wr.cell? ⟨w.heap.size + 1, 1, none⟩ = some (.int .u8 0) ∧ wr.frozen? ⟨w.heap.size + 1, 1, none⟩ = false := HR.out 1 (by omega)
      obtain ⟨y2, q2⟩ : wr.cell? ⟨w.heap.size + 1, 2, none⟩ = some (.int .u8 0) ∧ wr.frozen? ⟨w.heap.size + 1, 2, none⟩ = false := HR.out 2 (by omega)
      obtain ⟨y3, q3⟩ : wr.cell? ⟨w.heap.size + 1, 3, none⟩ = some (.int .u8 0) ∧ wr.frozen? ⟨w.heap.size + 1, 3, none⟩ = false := HR.out 3 (by omega)
      obtain ⟨y4, q4⟩ : wr.cell? ⟨w.heap.size + 1, 4, none⟩ = some (.int .u8 0) ∧ wr.frozen? ⟨w.heap.size + 1, 4, none⟩ = false := HR.out 4 (by omega)
      obtain ⟨y5, q5⟩ : wr.cell? ⟨w.heap.size + 1, 5, none⟩ = some (.int .u8 0) ∧ wr.frozen? ⟨w.heap.size + 1, 5, none⟩ = false := HR.out 5 (by omega)
      obtain ⟨y6, q6⟩ : wr.cell? ⟨w.heap.size + 1, 6, none⟩ = some (.int .u8 0) ∧ wr.frozen? ⟨w.heap.size + 1, 6, none⟩ = false := HR.out 6 (by omega)
      obtain ⟨y7, q7⟩ : wr.cell? ⟨w.heap.size + 1, 7, none⟩ = some (.int .u8 0) ∧ wr.frozen? ⟨w.heap.size + 1, 7, none⟩ = false := HR.out 7 (by omega)
      obtain ⟨y8, q8⟩ : wr.cell? ⟨w.heap.size + 1, 8, none⟩ = some (.int .u8 0) ∧ wr.frozen? ⟨w.heap.size + 1, 8, none⟩ = false := HR.out 8 (by omega)
      obtain ⟨y9, q9⟩ : wr.cell? ⟨w.heap.size + 1, 9, none⟩ = some (.int .u8 0) ∧ wr.frozen? ⟨w.heap.size + 1, 9, none⟩ = false := HR.out 9 (by omega)
      obtain ⟨y10, q10⟩ : wr.cell? ⟨w.heap.size + 1, 10, none⟩ = some (.int .u8 0) ∧ wr.frozen? ⟨w.heap.size + 1, 10, none⟩ = false := HR.out 10 (by omega)
      obtain ⟨y11, q11⟩ : wr.cell? ⟨w.heap.size + 1, 11, none⟩ = some (.int .u8 0) ∧ wr.frozen? ⟨w.heap.size + 1, 11, none⟩ = false := HR.out 11 (by omega)
      obtain ⟨y12, q12⟩ : wr.cell? ⟨w.heap.size + 1, 12, none⟩ = some (.int .u8 0) ∧ wr.frozen? ⟨w.heap.size + 1, 12, none⟩ = false := HR.out 12 (by omega)
      obtain ⟨y13, q13⟩ : wr.cell? ⟨w.heap.size + 1, 13, none⟩ = some (.int .u8 0) ∧ wr.frozen? ⟨w.heap.size + 1, 13, none⟩ = false := HR.out 13 (by omega)
      obtain ⟨y14, q14⟩ : wr.cell? ⟨w.heap.size + 1, 14, none⟩ = some (.int .u8 0) ∧ wr.frozen? ⟨w.heap.size + 1, 14, none⟩ = false := HR.out 14 (by omega)
      obtain ⟨y15, q15⟩ : wr.cell? ⟨w.heap.size + 1, 15, none⟩ = some (.int .u8 0) ∧ wr.frozen? ⟨w.heap.size + 1, 15, none⟩ = false := HR.out 15 (by omega)
      have z0 : wr.cell? ⟨w.heap.size + 1 + 1, 0, none⟩ = some (.int .u8 (byteI a 0)) := (HB.out 0 (by omega)).1
      have z1 : wr.cell? ⟨w.heap.size + 1 + 1, 1, none⟩ = some (.int .u8 (byteI a 1)) := (HB.out 1 (by omega)).1
      have z2 : wr.cell? ⟨w.heap.size + 1 + 1, 2, none⟩ = some (.int .u8 (byteI a 2)) := (HB.out 2 (by omega)).1
      have z3 : wr.cell? ⟨w.heap.size + 1 + 1, 3, none⟩ = some (.int .u8 (byteI a 3)) := (HB.out 3 (by omega)).1
      have z4 : wr.cell? ⟨w.heap.size + 1 + 1, 4, none⟩ = some (.int .u8 (byteI a 4)) := (HB.out 4 (by omega)).1
      have z5 : wr.cell? ⟨w.heap.size + 1 + 1, 5, none⟩ = some (.int .u8 (byteI a 5)) := (HB.out 5 (by omega)).1
      have z6 : wr.cell? ⟨w.heap.size + 1 + 1, 6, none⟩ = some (.int .u8 (byteI a 6)) := (HB.out 6 (by omega)).1
      have z7 : wr.cell? ⟨w.heap.size + 1 + 1, 7, none⟩ = some (.int .u8 (byteI a 7)) := (HB.out 7 (by omega)).1
      have z8 : wr.cell? ⟨w.heap.size + 1 + 1, 8, none⟩ = some (.int .u8 (byteI m 0)) := (HB.out 8 (by omega)).1
      have z9 : wr.cell? ⟨w.heap.size + 1 + 1, 9, none⟩ = some (.int .u8 (byteI m 1)) := (HB.out 9 (by omega)).1
      have z10 : wr.cell? ⟨w.heap.size + 1 + 1, 10, none⟩ = some (.int .u8 (byteI m 2)) := (HB.out 10 (by omega)).1
      have z11 : wr.cell? ⟨w.heap.size + 1 + 1, 11, none⟩ = some (.int .u8 (byteI m 3)) := (HB.out 11 (by omega)).1
      have z12 : wr.cell? ⟨w.heap.size + 1 + 1, 12, none⟩ = some (.int .u8 (byteI m 4)) := (HB.out 12 (by omega)).1
      have z13 : wr.cell? ⟨w.heap.size + 1 + 1, 13, none⟩ = some (.int .u8 (byteI m 5)) := (HB.out 13 (by omega)).1
      have z14 : wr.cell? ⟨w.heap.size + 1 + 1, 14, none⟩ = some (.int .u8 (byteI m 6)) := (HB.out 14 (by omega)).1
      have z15 : wr.cell? ⟨w.heap.size + 1 + 1, 15, none⟩ = some (.int .u8 (byteI m 7)) := (HB.out 15 (by omega)).1
      go_wp2_with fail
      refine ret_c Try.results20 rfl rfl Try.underlying56 rfl (by kernel_rfl) (by (repeat (first | with_reducible exact Below.refl _ _ | with_reducible assumption | with_reducible refine below_drewN ?_ _ | with_reducible refine Below.drew ?_ | with_reducible refine below_alloc ?_ _ | (with_reducible refine Below.setCell ?_ (by first | (simp; done) | omega | (simp; omega)) _) | with_reducible refine belows ?_ (by assumption)))) ?_
      (first | (go_simp; done) | (go_simp; (simp [↓IntWalk.iteOmega]; done)) | (go_simp; intros; omega) | (go_simp; simp [↓IntWalk.iteOmega]; intros; omega))
end Go.Proofs.Ytikpkoeeinkecaa
