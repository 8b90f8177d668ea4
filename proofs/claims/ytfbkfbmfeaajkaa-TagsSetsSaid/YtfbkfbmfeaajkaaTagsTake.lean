
/-
  What is in a set, the lowest first, by the program (All).
-/
import Derived.Test.YtfbkfbmfeaajkaaTagsAll
namespace Go.Proofs.Ytfbkfbmfeaajkaa
open Go Go.RowKit
set_option linter.unusedVariables false
set_option linter.unusedSimpArgs false

set_option maxHeartbeats 4000000 in
set_option maxRecDepth 100000 in
theorem take_no (f : Nat → Bool) (k A C : Nat) (w : World) (hk : k < 256) (hf : f k = false) (hA : A < w.heap.size) (a0 : w.cell? ⟨A, 0, none⟩ = some (.int .u64 (U (wd f 0)))) (a1 : w.cell? ⟨A, 1, none⟩ = some (.int .u64 (U (wd f 1)))) (a2 : w.cell? ⟨A, 2, none⟩ = some (.int .u64 (U (wd f 2)))) (a3 : w.cell? ⟨A, 3, none⟩ = some (.int .u64 (U (wd f 3)))) : Calls Try.prog 19 #[.int .i64 (k : Int), .pointer (some ⟨A, 0, none⟩), .pointer (some ⟨C, 0, none⟩)] w fun r w' => r = .returned (.tuple #[]) ∧ Below w.heap.size w w' := by
  have cg : ∀ w : World, Calls Try.prog 14 #[.agg #[.int .u64 (U (wd f 0)), .int .u64 (U (wd f 1)), .int .u64 (U (wd f 2)), .int .u64 (U (wd f 3))], .int .i64 (k : Int)] w fun r w' => r = .returned (.bool false) ∧ Below w.heap.size w w' := fun w => (get_in f (k : Int) (by omega) (by omega) w).mono fun _ _ q => ⟨by rw [q.1]; exact congrArg (fun b => Ending.returned (Value.bool b)) hf, q.2⟩
  clear hf
  go_enter Try.func19, Try.ntmps19
  go_wp2_with (first | (go_at_call 14; (with_reducible refine (cg _).mono ?_); rintro e w' ⟨rfl, hbl⟩; obtain ⟨hcw, hfw, hsw⟩ := below_ifs hbl; (try simp only [World.size_alloc, World.size_setCell, World.size_drew, size_drewN_] at hcw hfw hsw)))
  refine bodyPost_end (results_none rfl _ _ _) rfl ?_
  exact ⟨rfl, by (repeat (first | with_reducible exact Below.refl _ _ | with_reducible assumption | with_reducible refine below_drewN ?_ _ | with_reducible refine Below.drew ?_ | with_reducible refine below_alloc ?_ _ | (with_reducible refine Below.setCell ?_ (by first | (simp; done) | omega | (simp; omega)) _) | with_reducible refine belows ?_ (by assumption)))⟩
set_option maxHeartbeats 8000000 in
set_option maxRecDepth 100000 in
theorem take_yes (f : Nat → Bool) (k A C : Nat) (v : Value) (w : World) (hk : k < 256) (hf : f k = true) (hA : A < C) (hC : C < w.heap.size) (a0 : w.cell? ⟨A, 0, none⟩ = some (.int .u64 (U (wd f 0)))) (a1 : w.cell? ⟨A, 1, none⟩ = some (.int .u64 (U (wd f 1)))) (a2 : w.cell? ⟨A, 2, none⟩ = some (.int .u64 (U (wd f 2)))) (a3 : w.cell? ⟨A, 3, none⟩ = some (.int .u64 (U (wd f 3)))) (h0 : w.cell? ⟨C, 0, none⟩ = some v) (h1 : w.frozen? ⟨C, 0, none⟩ = false) (hown : w.ownsRow (C + 1) 3 1 v (elemsN f (k)).length (valsN (elemsN f (k)))) : Calls Try.prog 19 #[.int .i64 (k : Int), .pointer (some ⟨A, 0, none⟩), .pointer (some ⟨C, 0, none⟩)] w fun r w' => r = .returned (.tuple #[]) ∧ ∃ v', w'.cell? ⟨C, 0, none⟩ = some v' ∧ w'.frozen? ⟨C, 0, none⟩ = false ∧ (w'.ownsRow (C + 1) 3 1 v' (elemsN f (k + 1)).length (valsN (elemsN f (k + 1)))) ∧ Below C w w' := by
  have cg : ∀ w : World, Calls Try.prog 14 #[.agg #[.int .u64 (U (wd f 0)), .int .u64 (U (wd f 1)), .int .u64 (U (wd f 2)), .int .u64 (U (wd f 3))], .int .i64 (k : Int)] w fun r w' => r = .returned (.bool true) ∧ Below w.heap.size w w' := fun w => (get_in f (k : Int) (by omega) (by omega) w).mono fun _ _ q => ⟨by rw [q.1]; exact congrArg (fun b => Ending.returned (Value.bool b)) hf, q.2⟩
  have hb := hf
  clear hf
  obtain ⟨i0, hi0, hz0, hz1, hz2⟩ := info_parts info_int
  have hl := elemsN_le f k
  have hA2 : A < w.heap.size := by omega
  go_enter Try.func19, Try.ntmps19
  go_wp2_with (first | (go_at_call 14; (with_reducible refine (cg _).mono ?_); rintro e w' ⟨rfl, hbl⟩; obtain ⟨hcw, hfw, hsw⟩ := below_ifs hbl; (try simp only [World.size_alloc, World.size_setCell, World.size_drew, size_drewN_] at hcw hfw hsw)) | (at_builtin; refine wpList_append_own _ rfl _ _ 30 rfl (C + 1) 3 i0 (.int .i64 0) 1 8 Try.underlying30 hi0 hz0 hz1 hz2 rfl (by decide) _ _ _ rfl ((owns_below hown hbl).alloc _) ⟨w'.heap.size, 0, none⟩ 1 1 [.int .i64 (k : Int)] rfl rfl ?c1 ?c2 ?c3 ?c4 ?c5 ?_))
  case c1 =>
    intro j u hj
    match j, hj with
    | 0, hj => simp at hj; subst hj; simp [Addr.add]
  case c2 => intro u hu; simp at hu; subst hu; rfl
  case c3 => unfold maxLen; omega
  case c4 => omega
  case c5 => simp; omega
  · intro v' w1 hown' hgrow _
    have hr := fun k h => ((owns_below hown hbl).lt k h).1
    have y0 := (kept_cell hgrow hr (x := ⟨C, 0, none⟩) (by simp) (by simp; omega)).trans ((old_cell w' _ (by show C < _; omega)).trans ((hbl.cell (p := ⟨C, 0, none⟩) hC).trans h0))
    have y1 := (kept_frozen hgrow hr (x := ⟨C, 0, none⟩) (by simp) (by simp; omega)).trans ((old_frozen w' _ (by show C < _; omega)).trans ((hbl.frozen (p := ⟨C, 0, none⟩) hC).trans h1))
    have hb1 : Below C w w1 := (((hbl.mono (by omega : C ≤ w.heap.size))).alloc (by omega) _).grown hgrow (by simp; omega) (fun k h => by have := hr k h; omega)
    have ho2 : w1.ownsRow (C + 1) 3 1 v' (elemsN f (k + 1)).length (valsN (elemsN f (k + 1))) := by
      rw [elems_yes hb, List.length_append, ← valsN_snoc]
      exact hown'
    clear hown' hgrow hown
    obtain ⟨ad, nn, cp, rfl⟩ : ∃ (ad : Option Addr) (nn cp : Nat), v' = .slice ad nn cp := by
      rcases ho2.2 with ⟨h, -⟩ | ⟨g, cap, cur, h, -⟩
      · exact ⟨_, _, _, h⟩
      · exact ⟨_, _, _, h⟩
    go_wp2_with fail
    refine bodyPost_end (results_none rfl _ _ _) rfl ?_
    exact ⟨rfl, _, World.cell?_setCell_same _ _ _ y0, (World.frozen?_setCell _ _ _ _).trans y1, ownsRow_setCell_below ho2 (by simp) _, hb1.setCell (by simp) _⟩
set_option maxHeartbeats 8000000 in
set_option maxRecDepth 100000 in
theorem all_any (f : Nat → Bool) (w : World) : Calls Try.prog 10 #[.agg #[.int .u64 (U (wd f 0)), .int .u64 (U (wd f 1)), .int .u64 (U (wd f 2)), .int .u64 (U (wd f 3))]] w fun r w' => ∃ v, r = .returned v ∧ Below w.heap.size w w' ∧ w'.ownsRow (w.heap.size + 1 + 1) 3 1 v (elemsN f (256)).length (valsN (elemsN f (256))) := by
  have hmf : ∀ (fn : Fn) (first cap : Array Value) (w : World), (Instr.makeFunc fn first cap).run Try.prog w = .ok (.func fn first cap) w := fun _ _ _ _ => rfl
  go_enter Try.func10, Try.ntmps10
  go_wp2_with fail
  go_loopw [7] (fun x wr => ∃ (k : Nat) (v : Value), x = .int .i64 (k : Int) ∧ k ≤ 256 ∧ Below w.heap.size w wr ∧ w.heap.size + 1 < wr.heap.size ∧ wr.cell? ⟨w.heap.size + 1, 0, none⟩ = some v ∧ wr.frozen? ⟨w.heap.size + 1, 0, none⟩ = false ∧ Hid (wr.ownsRow (w.heap.size + 1 + 1) 3 1 v (elemsN f (k)).length (valsN (elemsN f (k)))) ∧ wr.cell? ⟨w.heap.size, 0, none⟩ = some (.int .u64 (U (wd f 0))) ∧ wr.cell? ⟨w.heap.size, 1, none⟩ = some (.int .u64 (U (wd f 1))) ∧ wr.cell? ⟨w.heap.size, 2, none⟩ = some (.int .u64 (U (wd f 2))) ∧ wr.cell? ⟨w.heap.size, 3, none⟩ = some (.int .u64 (U (wd f 3)))) (fun x _ => 256 - (intOf x).toNat)
  case atStart => exact ⟨0, _, rfl, by omega, by (repeat (first | with_reducible exact Below.refl _ _ | with_reducible assumption | with_reducible refine below_drewN ?_ _ | with_reducible refine Below.drew ?_ | with_reducible refine below_alloc ?_ _ | (with_reducible refine Below.setCell ?_ (by first | (simp; done) | omega | (simp; omega)) _) | with_reducible refine belows ?_ (by assumption))), by first | omega | (simp; done) | (simp; omega), by (first | (go_simp; done) | (go_simp; (simp [↓IntWalk.iteOmega]; done)) | (go_simp; intros; omega) | (go_simp; simp [↓IntWalk.iteOmega]; intros; omega)), by (first | (go_simp; done) | (go_simp; (simp [↓IntWalk.iteOmega]; done)) | (go_simp; intros; omega) | (go_simp; simp [↓IntWalk.iteOmega]; intros; omega)), Lib.hid (World.ownsRow_nil _ _ _ _), by (first | (go_simp; done) | (go_simp; (simp [↓IntWalk.iteOmega]; done)) | (go_simp; intros; omega) | (go_simp; simp [↓IntWalk.iteOmega]; intros; omega)), by (first | (go_simp; done) | (go_simp; (simp [↓IntWalk.iteOmega]; done)) | (go_simp; intros; omega) | (go_simp; simp [↓IntWalk.iteOmega]; intros; omega)), by (first | (go_simp; done) | (go_simp; (simp [↓IntWalk.iteOmega]; done)) | (go_simp; intros; omega) | (go_simp; simp [↓IntWalk.iteOmega]; intros; omega)), by (first | (go_simp; done) | (go_simp; (simp [↓IntWalk.iteOmega]; done)) | (go_simp; intros; omega) | (go_simp; simp [↓IntWalk.iteOmega]; intros; omega))⟩
  case round =>
    obtain ⟨k, v, rfl, hk, hbw, hsz, h0, h1, HO, x0, x1, x2, x3⟩ := hrel
    by_cases c : k < 256
    · cases hb : f k
      · have ct := take_no f k w.heap.size (w.heap.size + 1) wr c hb (by omega) x0 x1 x2 x3
        go_wp2_with (go_at_call 19; (with_reducible refine ct.mono ?_); rintro e' w' ⟨rfl, hbl⟩; obtain ⟨hcw, hfw, hsw⟩ := below_ifs hbl)
        go_roundw
        case rel => exact ⟨k + 1, v, by go_num, by omega, by (repeat (first | with_reducible exact Below.refl _ _ | with_reducible assumption | with_reducible refine below_drewN ?_ _ | with_reducible refine Below.drew ?_ | with_reducible refine below_alloc ?_ _ | (with_reducible refine Below.setCell ?_ (by first | (simp; done) | omega | (simp; omega)) _) | with_reducible refine belows ?_ (by assumption))), by omega, by (first | (go_simp; done) | (go_simp; (simp [↓IntWalk.iteOmega]; done)) | (go_simp; intros; omega) | (go_simp; simp [↓IntWalk.iteOmega]; intros; omega)), by (first | (go_simp; done) | (go_simp; (simp [↓IntWalk.iteOmega]; done)) | (go_simp; intros; omega) | (go_simp; simp [↓IntWalk.iteOmega]; intros; omega)), Lib.hid (by rw [elems_no hb]; exact owns_below HO.out hbl), by (first | (go_simp; done) | (go_simp; (simp [↓IntWalk.iteOmega]; done)) | (go_simp; intros; omega) | (go_simp; simp [↓IntWalk.iteOmega]; intros; omega)), by (first | (go_simp; done) | (go_simp; (simp [↓IntWalk.iteOmega]; done)) | (go_simp; intros; omega) | (go_simp; simp [↓IntWalk.iteOmega]; intros; omega)), by (first | (go_simp; done) | (go_simp; (simp [↓IntWalk.iteOmega]; done)) | (go_simp; intros; omega) | (go_simp; simp [↓IntWalk.iteOmega]; intros; omega)), by (first | (go_simp; done) | (go_simp; (simp [↓IntWalk.iteOmega]; done)) | (go_simp; intros; omega) | (go_simp; simp [↓IntWalk.iteOmega]; intros; omega))⟩
        case measure => (simp [intOf]; omega)
      · have ct := take_yes f k w.heap.size (w.heap.size + 1) v wr c hb (by omega) hsz x0 x1 x2 x3 h0 h1 HO.out
        go_wp2_with (go_at_call 19; (with_reducible refine ct.mono ?_); rintro e' w' ⟨rfl, v', z0, z1, z2, hbl⟩)
        have y0 := (hbl.cell (p := ⟨w.heap.size, 0, none⟩) (by simp)).trans x0
        have y1 := (hbl.cell (p := ⟨w.heap.size, 1, none⟩) (by simp)).trans x1
        have y2 := (hbl.cell (p := ⟨w.heap.size, 2, none⟩) (by simp)).trans x2
        have y3 := (hbl.cell (p := ⟨w.heap.size, 3, none⟩) (by simp)).trans x3
        have hb1 := hbw.trans (hbl.mono (by omega : w.heap.size ≤ w.heap.size + 1))
        have hs1 := hbl.size
        go_roundw
        case rel => exact ⟨k + 1, v', by go_num, by omega, hb1, by omega, z0, z1, Lib.hid z2, y0, y1, y2, y3⟩
        case measure => (simp [intOf]; omega)
    · obtain rfl : k = 256 := by omega
      have hown := HO.out
      clear HO
      go_wp2_with fail
      go_ret
      exact ⟨_, rfl, hbw, hown⟩
end Go.Proofs.Ytfbkfbmfeaajkaa
