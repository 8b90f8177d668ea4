
/-
  What is in a set, the lowest first: by the program (All) and by the document.
-/
import Derived.WalkKit
import Derived.Test.YtfbkfbmfeaajkaaTagsPop
import Derived.Test.YtfbkfbmfeaajkaaTagsR
namespace Go.Proofs.Ytfbkfbmfeaajkaa
open Go Go.RowKit
set_option linter.unusedVariables false
set_option linter.unusedSimpArgs false

theorem info_int : (Try.prog.info? 3).map (fun i => (i.zero, i.size, i.bytes)) = some (some (.int .i64 0), 1, 8) := by kernel_rfl
def valsN (l : List Nat) : List Value := l.map fun n : Nat => Value.int .i64 (n : Int)
theorem valsN_snoc (l : List Nat) (n : Nat) : valsN l ++ [.int .i64 (n : Int)] = valsN (l ++ [n]) := by unfold valsN; rw [List.map_append]; rfl
theorem elems_yes {f : Nat → Bool} {n : Nat} (h : f n = true) : elemsN f (n + 1) = elemsN f n ++ [n] := by rw [elemsN, if_pos h]
theorem elems_no {f : Nat → Bool} {n : Nat} (h : f n = false) : elemsN f (n + 1) = elemsN f n := by rw [elemsN, if_neg (by rw [h]; decide), List.append_nil]
theorem owns_below {w w' : World} {base : Nat} {e : TypeId} {size : Nat} {v : Value} {n : Nat} {xs : List Value} (h : w.ownsRow base e size v n xs) (hb : Below w.heap.size w w') : w'.ownsRow base e size v n xs :=
  h.kept (row := none) ⟨hb.os, hb.tape, hb.output, hb.size, fun k hk _ => hb.block k hk⟩ (by cases v.ownBlock <;> simp)
theorem kept_cell {w w' : World} {row : Option Nat} {base : Nat} (hg : w.grownBy w' row) (hr : ∀ k, row = some k → base ≤ k) {x : Addr} (hb : x.block < base) (hl : x.block < w.heap.size) : w'.cell? x = w.cell? x :=
  World.cell?_of_block (hg.block _ hl (fun e => by have := hr _ e.symm; omega))
theorem kept_frozen {w w' : World} {row : Option Nat} {base : Nat} (hg : w.grownBy w' row) (hr : ∀ k, row = some k → base ≤ k) {x : Addr} (hb : x.block < base) (hl : x.block < w.heap.size) : w'.frozen? x = w.frozen? x :=
  World.frozen?_of_block (hg.block _ hl (fun e => by have := hr _ e.symm; omega))
theorem old_cell (w : World) (o : Obj) {x : Addr} (hl : x.block < w.heap.size) : (w.alloc o).cell? x = w.cell? x := World.cell?_of_block (heap_alloc_old w o hl)
theorem old_frozen (w : World) (o : Obj) {x : Addr} (hl : x.block < w.heap.size) : (w.alloc o).frozen? x = w.frozen? x := World.frozen?_of_block (heap_alloc_old w o hl)
set_option maxHeartbeats 8000000 in
set_option maxRecDepth 100000 in
theorem rall_any (f : Nat → Bool) (w : World) : Calls Try.prog 11 #[.agg #[.int .u64 (U (wd f 0)), .int .u64 (U (wd f 1)), .int .u64 (U (wd f 2)), .int .u64 (U (wd f 3))]] w fun r w' => ∃ v, r = .returned v ∧ Below w.heap.size w w' ∧ w'.ownsRow (w.heap.size + 1) 3 1 v (elemsN f (256)).length (valsN (elemsN f (256))) := by
  obtain ⟨i0, hi0, hz0, hz1, hz2⟩ := info_parts info_int
  go_enter Try.func11, Try.ntmps11
  go_wp2_with fail
  go_loopw [3, 4] (fun v x wr => ∃ k : Nat, x = .int .i64 (k : Int) ∧ k ≤ 256 ∧ Below w.heap.size w wr ∧ w.heap.size < wr.heap.size ∧ wr.ownsRow (w.heap.size + 1) 3 1 v (elemsN f (k)).length (valsN (elemsN f (k))) ∧ wr.cell? ⟨w.heap.size, 0, none⟩ = some (.int .u64 (U (wd f 0))) ∧ wr.cell? ⟨w.heap.size, 1, none⟩ = some (.int .u64 (U (wd f 1))) ∧ wr.cell? ⟨w.heap.size, 2, none⟩ = some (.int .u64 (U (wd f 2))) ∧ wr.cell? ⟨w.heap.size, 3, none⟩ = some (.int .u64 (U (wd f 3)))) (fun _ x _ => 256 - (intOf x).toNat)
  case atStart => exact ⟨0, rfl, by omega, by (repeat (first | with_reducible exact Below.refl _ _ | with_reducible assumption | with_reducible refine below_drewN ?_ _ | with_reducible refine Below.drew ?_ | with_reducible refine below_alloc ?_ _ | (with_reducible refine Below.setCell ?_ (by first | (simp; done) | omega | (simp; omega)) _) | with_reducible refine belows ?_ (by assumption))), by first | omega | (simp; done) | (simp; omega), World.ownsRow_nil _ _ _ _, by (first | (go_simp; done) | (go_simp; (simp [↓IntWalk.iteOmega]; done)) | (go_simp; intros; omega) | (go_simp; simp [↓IntWalk.iteOmega]; intros; omega)), by (first | (go_simp; done) | (go_simp; (simp [↓IntWalk.iteOmega]; done)) | (go_simp; intros; omega) | (go_simp; simp [↓IntWalk.iteOmega]; intros; omega)), by (first | (go_simp; done) | (go_simp; (simp [↓IntWalk.iteOmega]; done)) | (go_simp; intros; omega) | (go_simp; simp [↓IntWalk.iteOmega]; intros; omega)), by (first | (go_simp; done) | (go_simp; (simp [↓IntWalk.iteOmega]; done)) | (go_simp; intros; omega) | (go_simp; simp [↓IntWalk.iteOmega]; intros; omega))⟩
  case round =>
    obtain ⟨k, rfl, hk, hbw, hsz, hown, x0, x1, x2, x3⟩ := hrel
    have hl := elemsN_le f k
    by_cases c : k < 256
    · have cg : ∀ w : World, Calls Try.prog 15 #[.agg #[.int .u64 (U (wd f 0)), .int .u64 (U (wd f 1)), .int .u64 (U (wd f 2)), .int .u64 (U (wd f 3))], .int .i64 (k : Int)] w fun r w' => r = .returned (.bool (f k)) ∧ Below w.heap.size w w' := fun w => (rget_any f (k : Int) w).mono fun _ _ q => ⟨by rw [q.1]; unfold getS; rw [decide_eq_true (by omega), decide_eq_true (by omega)]; rfl, q.2⟩
      cases hb : f k
      · rw [hb] at cg
        go_wp2_with (first | (go_at_call 15; (with_reducible refine (cg _).mono ?_); rintro e w' ⟨rfl, hbl⟩; obtain ⟨hcw, hfw, hsw⟩ := below_ifs hbl; (try simp only [World.size_alloc, World.size_setCell, World.size_drew, size_drewN_] at hcw hfw hsw)))
        go_roundw
        case rel => exact ⟨k + 1, by go_num, by omega, by (repeat (first | with_reducible exact Below.refl _ _ | with_reducible assumption | with_reducible refine below_drewN ?_ _ | with_reducible refine Below.drew ?_ | with_reducible refine below_alloc ?_ _ | (with_reducible refine Below.setCell ?_ (by first | (simp; done) | omega | (simp; omega)) _) | with_reducible refine belows ?_ (by assumption))), by omega, by rw [elems_no hb]; exact owns_below hown hbl, by (first | (go_simp; done) | (go_simp; (simp [↓IntWalk.iteOmega]; done)) | (go_simp; intros; omega) | (go_simp; simp [↓IntWalk.iteOmega]; intros; omega)), by (first | (go_simp; done) | (go_simp; (simp [↓IntWalk.iteOmega]; done)) | (go_simp; intros; omega) | (go_simp; simp [↓IntWalk.iteOmega]; intros; omega)), by (first | (go_simp; done) | (go_simp; (simp [↓IntWalk.iteOmega]; done)) | (go_simp; intros; omega) | (go_simp; simp [↓IntWalk.iteOmega]; intros; omega)), by (first | (go_simp; done) | (go_simp; (simp [↓IntWalk.iteOmega]; done)) | (go_simp; intros; omega) | (go_simp; simp [↓IntWalk.iteOmega]; intros; omega))⟩
        case measure => (simp [intOf]; omega)
      · rw [hb] at cg
        go_wp2_with (first | (go_at_call 15; (with_reducible refine (cg _).mono ?_); rintro e w' ⟨rfl, hbl⟩; obtain ⟨hcw, hfw, hsw⟩ := below_ifs hbl; (try simp only [World.size_alloc, World.size_setCell, World.size_drew, size_drewN_] at hcw hfw hsw)) | (at_builtin; refine wpList_append_own _ rfl _ _ 30 rfl (w.heap.size + 1) 3 i0 (.int .i64 0) 1 8 Try.underlying30 hi0 hz0 hz1 hz2 rfl (by decide) _ _ _ rfl ((owns_below hown hbl).alloc _) ⟨w'.heap.size, 0, none⟩ 1 1 [.int .i64 (k : Int)] rfl rfl ?c1 ?c2 ?c3 ?c4 ?c5 ?_))
        case c1 =>
          intro j u hj
          match j, hj with
          | 0, hj => simp at hj; subst hj; simp [Addr.add]
        case c2 => intro u hu; simp at hu; subst hu; rfl
        case c3 => unfold maxLen; omega
        case c4 => omega
        case c5 => simp; omega
        · intro v' w1 hown' hgrow _
          have hr := fun k h => ((owns_below hown hbl).lt k h).1
          have hb1 : Below w.heap.size w w1 := ((hbw.trans (hbl.mono (by omega))).alloc (by omega) _).grown hgrow (by simp; omega) (fun k h => by have := hr k h; omega)
          have y0 := (kept_cell hgrow hr (x := ⟨w.heap.size, 0, none⟩) (by simp) (by simp; omega)).trans ((old_cell w' _ (by show w.heap.size < _; omega)).trans ((hbl.cell (p := ⟨w.heap.size, 0, none⟩) hsz).trans x0))
          have y1 := (kept_cell hgrow hr (x := ⟨w.heap.size, 1, none⟩) (by simp) (by simp; omega)).trans ((old_cell w' _ (by show w.heap.size < _; omega)).trans ((hbl.cell (p := ⟨w.heap.size, 1, none⟩) hsz).trans x1))
          have y2 := (kept_cell hgrow hr (x := ⟨w.heap.size, 2, none⟩) (by simp) (by simp; omega)).trans ((old_cell w' _ (by show w.heap.size < _; omega)).trans ((hbl.cell (p := ⟨w.heap.size, 2, none⟩) hsz).trans x2))
          have y3 := (kept_cell hgrow hr (x := ⟨w.heap.size, 3, none⟩) (by simp) (by simp; omega)).trans ((old_cell w' _ (by show w.heap.size < _; omega)).trans ((hbl.cell (p := ⟨w.heap.size, 3, none⟩) hsz).trans x3))
          have hs1 := hgrow.size
          simp only [World.size_alloc] at hs1
          go_wp2_with fail
          go_roundw
          case rel => exact ⟨k + 1, by go_num, by omega, hb1, by omega, by rw [elems_yes hb, List.length_append, ← valsN_snoc]; exact hown', y0, y1, y2, y3⟩
          case measure => (simp [intOf]; omega)
    · obtain rfl : k = 256 := by omega
      go_wp2_with fail
      go_ret
      exact ⟨_, rfl, hbw, hown⟩
end Go.Proofs.Ytfbkfbmfeaajkaa
