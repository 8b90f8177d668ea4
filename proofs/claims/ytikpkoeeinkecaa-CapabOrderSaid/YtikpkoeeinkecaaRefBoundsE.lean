
/-
  The document's answer for spans that are kept: Encode, Rounded, Decode.
-/
import Derived.Test.YtikpkoeeinkecaaRefBounds
import Derived.Test.YtikpkoeeinkecaaBoundsD
import Derived.Outline
namespace Go.Proofs.Ytikpkoeeinkecaa
open Go Go.RowKit
set_option linter.unusedVariables false
set_option linter.unusedSimpArgs false

theorem rem_16384 (a : BitVec 64) : a % 16384#64 = a &&& 16383#64 := rem_mask a 14 _ (by omega) rfl
theorem rem_4096 (a : BitVec 64) : a % 4096#64 = a &&& 4095#64 := rem_mask a 12 _ (by omega) rfl
/-- What one round asks, at an exponent that does not do. -/
theorem rkept_no {b t : BitVec 64} (h : mayS b t = true) (k : Nat) (hk : k < eN b.toNat t.toNat) : ∃ v1 v2 : BitVec 64, ∀ w : World, Calls Try.prog 41 #[.agg #[.int .u64 (U b), .int .u64 (U t)], .int .u64 (k : Int)] w fun r w' => r = .returned (.tuple #[.agg #[.int .u64 (U v1), .int .u64 (U v2)], .bool false]) ∧ Below w.heap.size w w' := by
  obtain ⟨h1, h2⟩ := mayS_true h
  have hn : ¬ t.toNat - b.toNat < 4096 := fun c => by unfold eN at hk; rw [if_pos c] at hk; omega
  have e : eN b.toNat t.toNat = kX b t + 1 := by unfold eN; rw [if_neg hn]; rfl
  have h36 := kX_le h
  cases k with
  | zero =>
    refine ⟨b, t, fun w => (rkept_0 b t w).mono fun _ _ g => ⟨?_, g.2⟩⟩
    rw [g.1, decide_eq_false]
    unfold U
    rw [BitVec.toNat_sub_of_le (by rw [BitVec.le_def]; exact h1)]
    omega
  | succ x =>
    refine ⟨(b >>> x) <<< x, rkEnd t x <<< x, fun w => (rkept_s b t x (by omega) w).mono fun _ _ g => ⟨?_, g.2⟩⟩
    rw [g.1, rk_no h x (by omega)]
theorem rkept_yes {b t : BitVec 64} (h : mayS b t = true) (k : Nat) (hk : k = eN b.toNat t.toNat) (w : World) : Calls Try.prog 41 #[.agg #[.int .u64 (U b), .int .u64 (U t)], .int .u64 (k : Int)] w fun r w' => r = .returned (.tuple #[.agg #[.int .u64 (U (kB b t)), .int .u64 (U (kT b t))], .bool true]) ∧ Below w.heap.size w w' := by
  obtain ⟨h1, h2⟩ := mayS_true h
  have h36 := kX_le h
  by_cases c : t.toNat - b.toNat < 4096
  · have e : eN b.toNat t.toNat = 0 := by unfold eN; rw [if_pos c]
    obtain rfl : k = 0 := by omega
    refine (rkept_0 b t w).mono fun _ _ g => ⟨?_, g.2⟩
    have e1 : kB b t = b := by unfold kB; rw [(kept_small c).1]; simp
    have e2 : kT b t = t := by unfold kT; rw [(kept_small c).2]; simp
    rw [g.1, e1, e2, decide_eq_true]
    unfold U
    rw [BitVec.toNat_sub_of_le (by rw [BitVec.le_def]; exact h1)]
    omega
  · have e : eN b.toNat t.toNat = kX b t + 1 := by unfold eN; rw [if_neg c]; rfl
    obtain rfl : k = kX b t + 1 := by omega
    obtain ⟨g1, g2, g3⟩ := rk_yes h c
    refine (rkept_s b t (kX b t) h36 w).mono fun _ _ g => ⟨?_, g.2⟩
    rw [g.1, g1, g2, g3]
theorem U_succ (k : Nat) (h : k ≤ 37) : U (BitVec.ofNat 64 k + 1#64) = ((k + 1 : Nat) : Int) := by
  unfold U; rw [ofNat_succ_, BitVec.toNat_ofNat]; omega
set_option maxHeartbeats 4000000 in
set_option maxRecDepth 100000 in
theorem rencode_yes (b t : BitVec 64) (h : mayS b t = true) (w : World) : Calls Try.prog 28 #[.agg #[.int .u64 (U b), .int .u64 (U t)]] w fun r w' => r = .returned (.tuple #[.agg #[.int .u64 (U (fB b t)), .int .u64 (U (fT b t)), .int .u64 (U (kE b t))], .bool (kB b t == b && kT b t == t)]) ∧ Below w.heap.size w w' := by
  have cm : ∀ w : World, Calls Try.prog 40 #[.agg #[.int .u64 (U b), .int .u64 (U t)]] w fun r w' => r = .returned (.bool true) ∧ Below w.heap.size w w' := fun w => (rmay_any b t w).mono fun _ _ g => ⟨by rw [g.1, h], g.2⟩
  have h37 := eN_le (mayS_true h).1 (mayS_true h).2
  have hno := Lib.hid (rkept_no h)
  have hyes := Lib.hid (rkept_yes h)
  have hE := kE_nat h
  have hx : eN b.toNat t.toNat - 1 = kX b t := e_exp _ _
  have HE : Hid (((eN b.toNat t.toNat : Nat) : Int) = U (kE b t)) := by unfold Hid U; rw [hE]
  generalize hm : eN b.toNat t.toNat = m at *
  clear hm hE
  go_enter Try.func28, Try.ntmps28
  go_wp2
  go_loopw [4] (fun e wr => ∃ k : Nat, e = .int .u64 (k : Int) ∧ k ≤ m ∧ wr.cell? ⟨w.heap.size, 0, none⟩ = some (.int .u64 (U b)) ∧ wr.cell? ⟨w.heap.size, 1, none⟩ = some (.int .u64 (U t)) ∧
    wr.cell? ⟨w.heap.size + 1, 0, none⟩ = some (.int .u64 0) ∧ wr.cell? ⟨w.heap.size + 1, 1, none⟩ = some (.int .u64 0) ∧ wr.cell? ⟨w.heap.size + 1, 2, none⟩ = some (.int .u64 0) ∧
    wr.frozen? ⟨w.heap.size + 1, 0, none⟩ = false ∧ wr.frozen? ⟨w.heap.size + 1, 1, none⟩ = false ∧ wr.frozen? ⟨w.heap.size + 1, 2, none⟩ = false ∧ w.heap.size + 2 ≤ wr.heap.size ∧ Below w.heap.size w wr) (fun e _ => 38 - (intOf e).toNat)
  case atStart => exact ⟨0, rfl, by omega, by go_simp, by go_simp, by go_simp, by go_simp, by go_simp, by go_simp, by go_simp, by go_simp, by simp, by (repeat (first | with_reducible exact Below.refl _ _ | with_reducible assumption | with_reducible refine below_drewN ?_ _ | with_reducible refine Below.drew ?_ | with_reducible refine below_alloc ?_ _ | (with_reducible refine Below.setCell ?_ (by first | (simp; done) | omega | (simp; omega)) _) | with_reducible refine belows ?_ (by assumption)))⟩
  case round =>
    obtain ⟨k, rfl, hk, c0, c1, d0, d1, d2, f0, f1, f2, hs, hB⟩ := hrel
    have k37 : (k : Int) ≤ 37 := by omega
    have ce : ∀ w : World, Calls Try.prog 42 #[.int .u64 (k : Int)] w fun r w' => r = .returned (.int .u64 ((k - 1 : Nat) : Int)) ∧ w = w' := fun w => rexponent_any k (by omega) w
    by_cases c : k < m
    · obtain ⟨v1, v2, ck⟩ := hno.out k c
      go_wp2_with (first | (go_at_call 40; (with_reducible refine (cm _).mono ?_); rintro e w' ⟨rfl, hbl⟩; obtain ⟨hcw, hfw, hsw⟩ := below_ifs hbl; (try simp only [World.size_alloc, World.size_setCell, World.size_drew, size_drewN_] at hcw hfw hsw)) | (go_at_call 41; (with_reducible refine (ck _).mono ?_); rintro e w' ⟨rfl, hbl⟩; obtain ⟨hcw, hfw, hsw⟩ := below_ifs hbl; (try simp only [World.size_alloc, World.size_setCell, World.size_drew, size_drewN_] at hcw hfw hsw)))
      go_roundw
      case rel => exact ⟨k + 1, congrArg (Value.int .u64) (U_succ k (by omega)), by omega, by (first | (go_simp; done) | (go_simp; (simp [↓IntWalk.iteOmega]; done)) | (go_simp; intros; omega) | (go_simp; simp [↓IntWalk.iteOmega]; intros; omega)), by (first | (go_simp; done) | (go_simp; (simp [↓IntWalk.iteOmega]; done)) | (go_simp; intros; omega) | (go_simp; simp [↓IntWalk.iteOmega]; intros; omega)), by (first | (go_simp; done) | (go_simp; (simp [↓IntWalk.iteOmega]; done)) | (go_simp; intros; omega) | (go_simp; simp [↓IntWalk.iteOmega]; intros; omega)), by (first | (go_simp; done) | (go_simp; (simp [↓IntWalk.iteOmega]; done)) | (go_simp; intros; omega) | (go_simp; simp [↓IntWalk.iteOmega]; intros; omega)), by (first | (go_simp; done) | (go_simp; (simp [↓IntWalk.iteOmega]; done)) | (go_simp; intros; omega) | (go_simp; simp [↓IntWalk.iteOmega]; intros; omega)), by (first | (go_simp; done) | (go_simp; (simp [↓IntWalk.iteOmega]; done)) | (go_simp; intros; omega) | (go_simp; simp [↓IntWalk.iteOmega]; intros; omega)), by (first | (go_simp; done) | (go_simp; (simp [↓IntWalk.iteOmega]; done)) | (go_simp; intros; omega) | (go_simp; simp [↓IntWalk.iteOmega]; intros; omega)), by (first | (go_simp; done) | (go_simp; (simp [↓IntWalk.iteOmega]; done)) | (go_simp; intros; omega) | (go_simp; simp [↓IntWalk.iteOmega]; intros; omega)), by simp; omega, by (repeat (first | with_reducible exact Below.refl _ _ | with_reducible assumption | with_reducible refine below_drewN ?_ _ | with_reducible refine Below.drew ?_ | with_reducible refine below_alloc ?_ _ | (with_reducible refine Below.setCell ?_ (by first | (simp; done) | omega | (simp; omega)) _) | with_reducible refine belows ?_ (by assumption)))⟩
      case measure => (simp only [intOf]; rw [U_succ k (by omega)]; omega)
    · have ck : ∀ w : World, _ := fun w => hyes.out k (by omega) w
      obtain rfl : k = m := by omega
      rw [hx] at ce
      have h0 : (0 : Int) ≤ (kX b t : Int) := by omega
      go_wp2_with (first | (go_at_call 40; (with_reducible refine (cm _).mono ?_); rintro e w' ⟨rfl, hbl⟩; obtain ⟨hcw, hfw, hsw⟩ := below_ifs hbl; (try simp only [World.size_alloc, World.size_setCell, World.size_drew, size_drewN_] at hcw hfw hsw)) | (go_at_call 41; (with_reducible refine (ck _).mono ?_); rintro e w' ⟨rfl, hbl⟩; obtain ⟨hcw, hfw, hsw⟩ := below_ifs hbl; (try simp only [World.size_alloc, World.size_setCell, World.size_drew, size_drewN_] at hcw hfw hsw)) | (go_at_call 42; (with_reducible refine (ce _).mono ?_); rintro e w' ⟨rfl, rfl⟩))
      go_region
      go_wp2
      have HX := HE.out
      refine bodyPost_ret (results_ct [.int .u64 (U (fB b t)), .int .u64 (U (fT b t)), .int .u64 (U (kE b t))] (.bool (kB b t == b && kT b t == t)) Try.results28 rfl rfl ?_ Try.underlying68 rfl (by kernel_rfl)) rfl ?_
      · (go_simp; simp [↓IntWalk.iteOmega]; exact ⟨by rw [rem_16384]; rfl, by rw [rem_4096]; rfl⟩)
      · exact ⟨rfl, by (repeat (first | with_reducible exact Below.refl _ _ | with_reducible assumption | with_reducible refine below_drewN ?_ _ | with_reducible refine Below.drew ?_ | with_reducible refine below_alloc ?_ _ | (with_reducible refine Below.setCell ?_ (by first | (simp; done) | omega | (simp; omega)) _) | with_reducible refine belows ?_ (by assumption)))⟩
set_option maxHeartbeats 4000000 in
theorem rencode_no (b t : BitVec 64) (h : mayS b t = false) (w : World) : Calls Try.prog 28 #[.agg #[.int .u64 (U b), .int .u64 (U t)]] w fun r w' => r = .returned (.tuple #[.agg #[.int .u64 0, .int .u64 0, .int .u64 0], .bool false]) ∧ Below w.heap.size w w' := by
  have cm : ∀ w : World, Calls Try.prog 40 #[.agg #[.int .u64 (U b), .int .u64 (U t)]] w fun r w' => r = .returned (.bool false) ∧ Below w.heap.size w w' := fun w => (rmay_any b t w).mono fun _ _ g => ⟨by rw [g.1, h], g.2⟩
  go_enter Try.func28, Try.ntmps28
  go_wp2
  refine wp_loop_rounds 1 ?_
  rw [rounds_succ]
  go_wp2_with (first | (go_at_call 40; (with_reducible refine (cm _).mono ?_); rintro e w' ⟨rfl, hbl⟩; obtain ⟨hcw, hfw, hsw⟩ := below_ifs hbl; (try simp only [World.size_alloc, World.size_setCell, World.size_drew, size_drewN_] at hcw hfw hsw)))
  refine bodyPost_ret (results_ct [.int .u64 0, .int .u64 0, .int .u64 0] (.bool false) Try.results28 rfl rfl ?_ Try.underlying68 rfl (by kernel_rfl)) rfl ?_
  · (first | (go_simp; done) | (go_simp; (simp [↓IntWalk.iteOmega]; done)) | (go_simp; intros; omega) | (go_simp; simp [↓IntWalk.iteOmega]; intros; omega))
  · exact ⟨rfl, by (repeat (first | with_reducible exact Below.refl _ _ | with_reducible assumption | with_reducible refine below_drewN ?_ _ | with_reducible refine Below.drew ?_ | with_reducible refine below_alloc ?_ _ | (with_reducible refine Below.setCell ?_ (by first | (simp; done) | omega | (simp; omega)) _) | with_reducible refine belows ?_ (by assumption)))⟩
theorem rencode_any (b t : BitVec 64) (w : World) : Calls Try.prog 28 #[.agg #[.int .u64 (U b), .int .u64 (U t)]] w fun r w' => r = .returned (.tuple #[.agg #[.int .u64 (U (encB b t)), .int .u64 (U (encT b t)), .int .u64 (U (encE b t))], .bool (encX b t)]) ∧ Below w.heap.size w w' := by
  cases h : mayS b t
  · have := rencode_no b t h w
    unfold encB encT encE encX
    rw [h]
    exact this
  · have := rencode_yes b t h w
    unfold encB encT encE encX
    rw [h]
    exact this
theorem rencode_0 (t : BitVec 64) (w : World) : Calls Try.prog 28 #[.agg #[.int .u64 0, .int .u64 (U t)]] w fun r w' => r = .returned (.tuple #[.agg #[.int .u64 (U (encB 0#64 t)), .int .u64 (U (encT 0#64 t)), .int .u64 (U (encE 0#64 t))], .bool (encX 0#64 t)]) ∧ Below w.heap.size w w' := rencode_any 0#64 t w
end Go.Proofs.Ytikpkoeeinkecaa
