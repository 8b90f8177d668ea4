
/-
  Heaps: how many Held tells.
-/
import Derived.Test.YtlhhahafmmfhhaaHpC
namespace Go.Proofs.Ytlhhahafmmfhhaa
open Go Go.RowKit
set_option linter.unusedVariables false
set_option linter.unusedSimpArgs false

theorem kept_cell {w w' : World} {row : Option Nat} {base : Nat} (hg : w.grownBy w' row) (hr : ∀ k, row = some k → base ≤ k) {x : Addr} (hb : x.block < base) (hl : x.block < w.heap.size) : w'.cell? x = w.cell? x :=
  World.cell?_of_block (hg.block _ hl (fun e => by have := hr _ e.symm; omega))
theorem kept_frozen {w w' : World} {row : Option Nat} {base : Nat} (hg : w.grownBy w' row) (hr : ∀ k, row = some k → base ≤ k) {x : Addr} (hb : x.block < base) (hl : x.block < w.heap.size) : w'.frozen? x = w.frozen? x :=
  World.frozen?_of_block (hg.block _ hl (fun e => by have := hr _ e.symm; omega))
def cntH (L : List Hb) : Nat := (L.filter (fun r => r.fr)).length
theorem cnt_no (L : List Hb) (k : Nat) (r : Hb) (h : L[k]? = some r) (hf : r.fr = false) : cntH (L.take (k + 1)) = cntH (L.take k) := by
  unfold cntH
  rw [List.take_add_one, h, List.filter_append]
  simp [hf]
theorem cnt_yes (L : List Hb) (k : Nat) (r : Hb) (h : L[k]? = some r) (hf : r.fr = true) : cntH (L.take (k + 1)) = cntH (L.take k) + 1 := by
  unfold cntH
  rw [List.take_add_one, h, List.filter_append, List.length_append]
  simp [hf]
theorem info_span : (Try.prog.info? 24).map (fun i => (i.zero, i.size, i.bytes)) = some (some (.agg #[.int .u64 0, .int .u64 0]), 2, 16) := by kernel_rfl
set_option maxHeartbeats 4000000 in
set_option maxRecDepth 100000 in
theorem held_no (r : Hb) (hf : r.fr = false) (C : Nat) (w : World) : Calls Try.prog 19 #[.agg #[.int .u64 (U r.b), .int .u64 (U r.t), .bool r.fr, .int .i64 r.tm], .pointer (some ⟨C, 0, none⟩)] w fun e w' => e = .returned (.tuple #[]) ∧ Below w.heap.size w w' := by
  obtain ⟨b, t, fr, tm⟩ := r
  obtain rfl : fr = false := hf
  go_enter Try.func19, Try.ntmps19
  go_wp2_with fail
  refine bodyPost_end (results_none rfl _ _ _) rfl ?_
  exact ⟨rfl, by (repeat (first | with_reducible exact Below.refl _ _ | with_reducible assumption | with_reducible refine below_drewN ?_ _ | with_reducible refine Below.drew ?_ | with_reducible refine below_alloc ?_ _ | (with_reducible refine Below.setCell ?_ (by first | (simp; done) | omega | (simp; omega)) _) | with_reducible refine belows ?_ (by assumption)))⟩
theorem held_yes (r : Hb) (hf : r.fr = true) (C c : Nat) (v : Value) (xs : List Value) (w : World) (hC : C < w.heap.size) (h0 : w.cell? ⟨C, 0, none⟩ = some v) (h1 : w.frozen? ⟨C, 0, none⟩ = false) (hown : w.ownsRow (C + 1) 24 2 v c xs) (hc : c ≤ 1000) : Calls Try.prog 19 #[.agg #[.int .u64 (U r.b), .int .u64 (U r.t), .bool r.fr, .int .i64 r.tm], .pointer (some ⟨C, 0, none⟩)] w fun e w' => e = .returned (.tuple #[]) ∧ ∃ (v' : Value) (ys : List Value), w'.cell? ⟨C, 0, none⟩ = some v' ∧ w'.frozen? ⟨C, 0, none⟩ = false ∧ w'.ownsRow (C + 1) 24 2 v' (c + 1) ys ∧ Below C w w' := by
  obtain ⟨b, t, fr, tm⟩ := r
  obtain rfl : fr = true := hf
  obtain ⟨i0, hi0, hz0, hz1, hz2⟩ := info_parts info_span
  obtain ⟨a0, n0, cp0, rfl⟩ : ∃ (ad : Option Addr) (nn cp : Nat), v = .slice ad nn cp := by
    rcases hown.2 with ⟨h, -⟩ | ⟨g, cap, cur, h, -⟩
    · exact ⟨_, _, _, h⟩
    · exact ⟨_, _, _, h⟩
  have HO := Lib.hid hown
  clear hown
  go_enter Try.func19, Try.ntmps19
  go_wp2_with (first | (at_builtin; refine wpList_append_own _ rfl _ _ 34 rfl (C + 1) 24 i0 (.agg #[.int .u64 0, .int .u64 0]) 2 16 Try.underlying34 hi0 hz0 hz1 hz2 rfl (by decide) _ c xs rfl ((HO.out.alloc _).alloc _) ⟨w.heap.size + 1, 0, none⟩ 1 1 [.int .u64 (U b), .int .u64 (U t)] rfl rfl ?c1 ?c2 ?c3 ?c4 ?c5 ?_))
  case c1 =>
    intro j u hj
    match j, hj with
    | 0, hj => simp at hj; subst hj; simp [Addr.add]
    | 1, hj => simp at hj; subst hj; simp [Addr.add]
    | j + 2, hj => simp at hj
  case c2 => intro u hu; simp at hu; rcases hu with rfl | rfl <;> rfl
  case c3 => unfold maxLen; omega
  case c4 => omega
  case c5 => simp; omega
  · intro v' w1 hown' hgrow _
    have hr := fun k h => (World.ownsRow.lt HO.out k h).1
    have y0 : w1.cell? ⟨C, 0, none⟩ = some (.slice a0 n0 cp0) := by
      refine (kept_cell hgrow hr (x := ⟨C, 0, none⟩) (by simp) (by simp; omega)).trans ?_
      (first | (go_simp; done) | (go_simp; (simp [↓IntWalk.iteOmega]; done)) | (go_simp; intros; omega) | (go_simp; simp [↓IntWalk.iteOmega]; intros; omega))
    have y1 : w1.frozen? ⟨C, 0, none⟩ = false := by
      refine (kept_frozen hgrow hr (x := ⟨C, 0, none⟩) (by simp) (by simp; omega)).trans ?_
      (first | (go_simp; done) | (go_simp; (simp [↓IntWalk.iteOmega]; done)) | (go_simp; intros; omega) | (go_simp; simp [↓IntWalk.iteOmega]; intros; omega))
    have hb1 : Below C w w1 := (((Below.refl C w).alloc (by omega) _).alloc (by simp; omega) _).grown hgrow (by simp; omega) (fun k h => by have := hr k h; omega)
    have HO2 := Lib.hid hown'
    clear hown' hgrow
    obtain ⟨ad, nn, cp, rfl⟩ : ∃ (ad : Option Addr) (nn cp : Nat), v' = .slice ad nn cp := by
      rcases HO2.out.2 with ⟨h, -⟩ | ⟨g, cap, cur, h, -⟩
      · exact ⟨_, _, _, h⟩
      · exact ⟨_, _, _, h⟩
    go_wp2_with fail
    refine bodyPost_end (results_none rfl _ _ _) rfl ?_
    exact ⟨rfl, _, _, World.cell?_setCell_same _ _ _ y0, (World.frozen?_setCell _ _ _ _).trans y1, ownsRow_setCell_below HO2.out (by simp) _, hb1.setCell (by simp) _⟩
set_option maxHeartbeats 4000000 in
set_option maxRecDepth 100000 in
theorem held_any (B : Nat) (rb rt : BitVec 64) (v : Value) (L : List Hb) (w : World) (hs : SlH w B v L) (hbig : L.length ≤ 100) : Calls Try.prog 7 #[.agg #[.int .u64 (U rb), .int .u64 (U rt), v]] w fun e w' => ∃ a c, e = .returned (.slice a (cntH L) c) ∧ Below w.heap.size w w' := by
  have hrow : ∀ W : World, Below w.heap.size w W → 0 < L.length → _ := fun W h hn => (hs.below h).row hn
  have HROW := Lib.hid hrow
  obtain ⟨a', cap, rfl, hcap, hcap2, hblt, hform⟩ := hs.form
  clear hrow hform hs hblt
  generalize hn : L.length = N at hcap hbig HROW
  go_enter Try.func7, Try.ntmps7
  go_wp2_with fail
  go_loopw [11] (fun x wr => ∃ (k : Nat) (u : Value) (xs : List Value), x = .int .i64 (k : Int) ∧ k ≤ N ∧ Hid (Below w.heap.size w wr) ∧ w.heap.size + 1 < wr.heap.size ∧ wr.cell? ⟨w.heap.size + 1, 0, none⟩ = some u ∧ wr.frozen? ⟨w.heap.size + 1, 0, none⟩ = false ∧ Hid (wr.ownsRow (w.heap.size + 1 + 1) 24 2 u (cntH (L.take k)) xs)) (fun x _ => N - (intOf x).toNat)
  case atStart => exact ⟨0, _, [], rfl, by omega, Lib.hid (by (repeat (first | with_reducible exact Below.refl _ _ | with_reducible assumption | with_reducible refine below_drewN ?_ _ | with_reducible refine Below.drew ?_ | with_reducible refine below_alloc ?_ _ | (with_reducible refine Below.setCell ?_ (by first | (simp; done) | omega | (simp; omega)) _) | with_reducible refine belows ?_ (by assumption)))), by first | omega | (simp; done) | (simp; omega), by (first | (go_simp; done) | (go_simp; (simp [↓IntWalk.iteOmega]; done)) | (go_simp; intros; omega) | (go_simp; simp [↓IntWalk.iteOmega]; intros; omega)), by (first | (go_simp; done) | (go_simp; (simp [↓IntWalk.iteOmega]; done)) | (go_simp; intros; omega) | (go_simp; simp [↓IntWalk.iteOmega]; intros; omega)), Lib.hid (World.ownsRow_nil _ _ _ _)⟩
  case round =>
    obtain ⟨k, u, xs, rfl, hk, HB, hsz, h0, h1, HO⟩ := hrel
    have hle : cntH (L.take k) ≤ k := by unfold cntH; exact Nat.le_trans (List.length_filter_le _ _) (by rw [List.length_take]; omega)
    by_cases c : k < N
    · have d3 : decide ((k : Int) < (N : Int)) = true := decide_eq_true (by omega)
      obtain ⟨g, cap', hva, -, hg', -, -, hx⟩ := HROW.out wr HB.out (by omega)
      obtain ⟨rfl, rfl⟩ : a' = some ⟨g, 0, none⟩ ∧ cap = cap' := by simpa using hva
      obtain ⟨r, hr⟩ : ∃ r, L[k]? = some r := ⟨L[k]'(by omega), List.getElem?_eq_getElem (by omega)⟩
      obtain ⟨⟨x0, x1, x2, x3⟩, -⟩ := hx k r hr
      have HRr := Lib.hid hr
      clear hx hva hr
      have hal : Below wr.heap.size wr (wr.alloc (.cells #[.int .u64 (U r.b), .int .u64 (U r.t), .bool r.fr, .int .i64 r.tm] 47)) := (Below.refl _ _).alloc (Nat.le_refl _) _
      have HAL := Lib.hid hal
      clear hal
      cases hf : r.fr
      · have cc := held_no r hf (w.heap.size + 1) (wr.alloc (.cells #[.int .u64 (U r.b), .int .u64 (U r.t), .bool r.fr, .int .i64 r.tm] 47))
        have e1 := cnt_no L k r HRr.out hf
        rw [hf] at x2 cc HAL
        have CC := Lib.hid cc
        have E1 := Lib.hid e1
        clear cc e1 hf
        go_wp2_with (go_at_call 19; refine CC.out.mono ?_; rintro e w2 ⟨rfl, hb2⟩)
        have hb3 := HAL.out.trans (hb2.mono (by simp))
        have hs3 := hb3.size
        have z0 := (hb3.cell (p := ⟨w.heap.size + 1, 0, none⟩) hsz).trans h0
        have z1 := (hb3.frozen (p := ⟨w.heap.size + 1, 0, none⟩) hsz).trans h1
        go_roundw
        case rel => exact ⟨k + 1, u, xs, by go_num, by omega, Lib.hid (HB.out.trans (hb3.mono HB.out.size)), by omega, z0, z1, Lib.hid (by rw [E1.out]; exact own_keep HO.out hb3 (fun g hg => (World.ownsRow.lt HO.out g hg).2))⟩
        case measure => (simp [intOf]; omega)
      · have cc := held_yes r hf (w.heap.size + 1) (cntH (L.take k)) u xs (wr.alloc (.cells #[.int .u64 (U r.b), .int .u64 (U r.t), .bool r.fr, .int .i64 r.tm] 47)) (by simp; omega) ((HAL.out.cell (p := ⟨w.heap.size + 1, 0, none⟩) hsz).trans h0) ((HAL.out.frozen (p := ⟨w.heap.size + 1, 0, none⟩) hsz).trans h1) (HO.out.alloc _) (by omega)
        have e1 := cnt_yes L k r HRr.out hf
        rw [hf] at x2 cc HAL
        have CC := Lib.hid cc
        have E1 := Lib.hid e1
        clear cc e1 hf
        go_wp2_with (go_at_call 19; refine CC.out.mono ?_; rintro e w2 ⟨rfl, v', ys, z0, z1, z2, hb2⟩)
        have hb3 := (HB.out.trans (HAL.out.mono HB.out.size)).trans (hb2.mono (Nat.le_succ _))
        have hs3 := hb2.size
        simp only [World.size_alloc] at hs3
        go_roundw
        case rel => exact ⟨k + 1, v', ys, by go_num, by omega, Lib.hid hb3, by omega, z0, z1, Lib.hid (by rw [E1.out]; exact z2)⟩
        case measure => (simp [intOf]; omega)
    · obtain rfl : k = N := by omega
      obtain ⟨ad, cp, rfl⟩ : ∃ (ad : Option Addr) (cp : Nat), u = .slice ad (cntH L) cp := by
        have e : L.take k = L := List.take_of_length_le (by omega)
        have ho := HO.out
        rw [e] at ho
        rcases ho.2 with ⟨h, h0⟩ | ⟨g, cap, cur, h, -⟩
        · exact ⟨none, 0, by rw [h, h0]⟩
        · exact ⟨_, _, h⟩
      have hb := HB.out
      go_wp2_with fail
      go_ret
      exact ⟨_, _, rfl, by (repeat (first | with_reducible exact Below.refl _ _ | with_reducible assumption | with_reducible refine below_drewN ?_ _ | with_reducible refine Below.drew ?_ | with_reducible refine below_alloc ?_ _ | (with_reducible refine Below.setCell ?_ (by first | (simp; done) | omega | (simp; omega)) _) | with_reducible refine belows ?_ (by assumption)))⟩
end Go.Proofs.Ytlhhahafmmfhhaa
