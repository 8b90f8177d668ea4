
/-
  Maps of reservations: New, All, At, Hold, Drop.
-/
import Derived.Test.YtnillifinnmigaaRgE
namespace Go.Proofs.Ytnillifinnmigaa
open Go Go.RowKit
set_option linter.unusedVariables false
set_option linter.unusedSimpArgs false

theorem heap_setCell_ne (w : World) (a : Addr) (u : Value) (g : Nat) (h : g ≠ a.block) : (w.setCell a u).heap[g]? = w.heap[g]? := by
  unfold World.setCell
  simp only [Array.getElem?_modify]
  rw [if_neg (fun e => h e.symm)]
theorem SlR.other {w : World} {B : Nat} {v : Value} {L : List Rg} (h : SlR w B v L) (a : Addr) (u : Value) (ha : ∀ g, v.ownBlock = some g → g ≠ a.block) : SlR (w.setCell a u) B v L := by
  refine ⟨h.1, ?_⟩
  rcases h.2 with hn | ⟨g, cap, cur, rfl, hb, hg, rest⟩
  · exact .inl hn
  · exact .inr ⟨g, cap, cur, rfl, hb, (heap_setCell_ne w a u g (ha g rfl)).trans hg, rest⟩
theorem SlR.ge {w : World} {B : Nat} {v : Value} {L : List Rg} (h : SlR w B v L) : ∀ g, v.ownBlock = some g → B ≤ g := fun g hg => (World.ownsRow.lt h g hg).1
theorem SlR.row {w : World} {B : Nat} {v : Value} {L : List Rg} (h : SlR w B v L) (hn : 0 < L.length) : ∃ g cap, v = .slice (some ⟨g, 0, none⟩) L.length cap ∧ B ≤ g ∧ g < w.heap.size ∧ L.length ≤ cap ∧ cap ≤ 9223372036854775807 ∧ ∀ j r, L[j]? = some r → (w.cell? ⟨g, j * 3, none⟩ = some (.int .u64 (U r.b)) ∧ w.cell? ⟨g, j * 3 + 1, none⟩ = some (.int .u64 (U r.t)) ∧ w.cell? ⟨g, j * 3 + 2, none⟩ = some (.int .i64 r.kd)) ∧ (∀ q, w.frozen? ⟨g, q, none⟩ = false) := by
  obtain ⟨g, cap, cur, rfl, hb, hl, hg, h1, h2, h3, h4⟩ := own_row h hn
  obtain ⟨a', c', e, _, _, _, hform⟩ := h.form
  rcases hform with rfl | ⟨g', ha, _, _, hx⟩
  · simp at hn
  · simp at e
    obtain ⟨e1, e2⟩ := e
    subst e1
    have hg' : g = g' := by simpa using ha
    subst hg'
    exact ⟨g, cap, rfl, hb, hl, h1, by simpa [maxLen] using h2, fun j r hj => ⟨hx j r hj, fun q => frozen_of_row _ _ _ _ _ hg⟩⟩
theorem cellsR_set : ∀ (L : List Rg) (k : Nat) (r : Rg) (x : Int), L[k]? = some r → (cellsR L).set (k * 3 + 2) (.int .i64 x) = cellsR (L.set k ⟨r.b, r.t, x⟩)
  | [], _, _, _, h => by simp at h
  | y :: L, 0, r, x, h => by
    obtain rfl : y = r := by simpa using h
    rfl
  | y :: L, k + 1, r, x, h => by
    have e : cellsR (y :: L) = encR y ++ cellsR L := rfl
    rw [e, List.set_append_right _ _ (by show 3 ≤ _; omega), show (k + 1) * 3 + 2 - (encR y).length = k * 3 + 2 by show (k + 1) * 3 + 2 - 3 = _; omega, cellsR_set L k r x (by simpa using h)]
    rfl
theorem SlR.set {w : World} {B g cap : Nat} {L : List Rg} (h : SlR w B (.slice (some ⟨g, 0, none⟩) L.length cap) L) (k : Nat) (r : Rg) (x : Int) (hk : L[k]? = some r) : SlR (w.setCell ⟨g, k * 3 + 2, none⟩ (.int .i64 x)) B (.slice (some ⟨g, 0, none⟩) L.length cap) (L.set k ⟨r.b, r.t, x⟩) := by
  have hlt : k < L.length := (List.getElem?_eq_some_iff.1 hk).1
  obtain ⟨g', cap', cur, e, hb, hl, hg, h1, h2, h3, h4⟩ := own_row h (by omega)
  simp at e
  obtain ⟨rfl, rfl⟩ := e
  have e1 := setCell_eq_setRow w g (k * 3 + 2) cur.toArray 41 (0, 0) (.int .i64 x) hg
  have hg2 : (w.setCell ⟨g, k * 3 + 2, none⟩ (.int .i64 x)).heap[g]? = some (.cells (cur.set (k * 3 + 2) (.int .i64 x)).toArray 41 (0, 0)) := by
    rw [e1, setRow_heap w g _ _ _ _ hg]
    simp
  unfold SlR
  rw [List.length_set]
  refine own_of hb hg2 h1 h2 (by rw [List.length_set, h3]) ?_
  rw [← cellsR_set L k r x hk, ← h4]
  rw [List.take_set]
def mapV (rb rt : BitVec 64) (v : Value) : Value := .agg #[.int .u64 (U rb), .int .u64 (U rt), v]
def newOk (b t : BitVec 64) : Bool := pagesF b t && decide (U t ≤ 274877906944)
def newV (b t : BitVec 64) : Value := if newOk b t = true then .tuple #[.agg #[.int .u64 (U b), .int .u64 (U t), .slice none 0 0], .int .i64 0] else .tuple #[.agg #[.int .u64 0, .int .u64 0, .slice none 0 0], .int .i64 2]
set_option maxHeartbeats 4000000 in
set_option maxRecDepth 100000 in
theorem new_any (b t : BitVec 64) (w : World) : Calls Try.prog 5 #[.agg #[.int .u64 (U b), .int .u64 (U t)]] w fun e w' => e = .returned (newV b t) ∧ Below w.heap.size w w' := by
  have cp := fun w => pages_any b t w
  have hv : newV b t = if (pagesF b t && decide (U t ≤ 274877906944)) = true then .tuple #[.agg #[.int .u64 (U b), .int .u64 (U t), .slice none 0 0], .int .i64 0] else .tuple #[.agg #[.int .u64 0, .int .u64 0, .slice none 0 0], .int .i64 2] := rfl
  rw [hv]
  clear hv
  generalize pagesF b t = p at cp
  go_enter Try.func5, Try.ntmps5
  cases p
  · go_wp2_with (first | (go_at_call 15; (with_reducible refine (cp _).mono ?_); rintro e w' ⟨rfl, hbl⟩; obtain ⟨hcw, hfw, hsw⟩ := below_ifs hbl; (try simp only [World.size_alloc, World.size_setCell, World.size_drew, size_drewN_] at hcw hfw hsw)))
    refine bodyPost_ret (results_ct [.int .u64 0, .int .u64 0, .slice none 0 0] (.int .i64 2) Try.results5 rfl rfl ?_ Try.underlying28 rfl (by kernel_rfl)) rfl ?_
    · (first | (go_simp; done) | (go_simp; (simp [↓IntWalk.iteOmega]; done)) | (go_simp; intros; omega) | (go_simp; simp [↓IntWalk.iteOmega]; intros; omega))
    · exact ⟨rfl, by (repeat (first | with_reducible exact Below.refl _ _ | with_reducible assumption | with_reducible refine below_drewN ?_ _ | with_reducible refine Below.drew ?_ | with_reducible refine below_alloc ?_ _ | (with_reducible refine Below.setCell ?_ (by first | (simp; done) | omega | (simp; omega)) _) | with_reducible refine belows ?_ (by assumption)))⟩
  · by_cases h : U t ≤ 274877906944
    · have d1 : decide (274877906944 < U t) = false := decide_eq_false (by omega)
      have d2 : decide (U t ≤ 274877906944) = true := decide_eq_true h
      rw [d2]
      clear d2 h
      go_wp2_with (first | (go_at_call 15; (with_reducible refine (cp _).mono ?_); rintro e w' ⟨rfl, hbl⟩; obtain ⟨hcw, hfw, hsw⟩ := below_ifs hbl; (try simp only [World.size_alloc, World.size_setCell, World.size_drew, size_drewN_] at hcw hfw hsw)))
      refine bodyPost_ret (results_ct [.int .u64 (U b), .int .u64 (U t), .slice none 0 0] (.int .i64 0) Try.results5 rfl rfl ?_ Try.underlying28 rfl (by kernel_rfl)) rfl ?_
      · (first | (go_simp; done) | (go_simp; (simp [↓IntWalk.iteOmega]; done)) | (go_simp; intros; omega) | (go_simp; simp [↓IntWalk.iteOmega]; intros; omega))
      · exact ⟨rfl, by (repeat (first | with_reducible exact Below.refl _ _ | with_reducible assumption | with_reducible refine below_drewN ?_ _ | with_reducible refine Below.drew ?_ | with_reducible refine below_alloc ?_ _ | (with_reducible refine Below.setCell ?_ (by first | (simp; done) | omega | (simp; omega)) _) | with_reducible refine belows ?_ (by assumption)))⟩
    · have d1 : decide (274877906944 < U t) = true := decide_eq_true (by omega)
      have d2 : decide (U t ≤ 274877906944) = false := decide_eq_false h
      rw [d2]
      clear d2 h
      go_wp2_with (first | (go_at_call 15; (with_reducible refine (cp _).mono ?_); rintro e w' ⟨rfl, hbl⟩; obtain ⟨hcw, hfw, hsw⟩ := below_ifs hbl; (try simp only [World.size_alloc, World.size_setCell, World.size_drew, size_drewN_] at hcw hfw hsw)))
      refine bodyPost_ret (results_ct [.int .u64 0, .int .u64 0, .slice none 0 0] (.int .i64 2) Try.results5 rfl rfl ?_ Try.underlying28 rfl (by kernel_rfl)) rfl ?_
      · (first | (go_simp; done) | (go_simp; (simp [↓IntWalk.iteOmega]; done)) | (go_simp; intros; omega) | (go_simp; simp [↓IntWalk.iteOmega]; intros; omega))
      · exact ⟨rfl, by (repeat (first | with_reducible exact Below.refl _ _ | with_reducible assumption | with_reducible refine below_drewN ?_ _ | with_reducible refine Below.drew ?_ | with_reducible refine below_alloc ?_ _ | (with_reducible refine Below.setCell ?_ (by first | (simp; done) | omega | (simp; omega)) _) | with_reducible refine belows ?_ (by assumption)))⟩
set_option maxHeartbeats 4000000 in
set_option maxRecDepth 100000 in
theorem all_any (B : Nat) (rb rt : BitVec 64) (v : Value) (L : List Rg) (w : World) (hs : SlR w B v L) (hbig : L.length ≤ 1099511627775) : Calls Try.prog 9 #[.agg #[.int .u64 (U rb), .int .u64 (U rt), v]] w fun e w' => ∃ v', e = .returned v' ∧ SlR w' w.heap.size v' L ∧ Below w.heap.size w w' := by
  have HS := Lib.hid (hs.below ((Below.refl _ w).alloc (Nat.le_refl _) (.cells #[.int .u64 (U rb), .int .u64 (U rt), v] 28)))
  obtain ⟨a', cap, rfl, hcap, hcap2, hblt, hform⟩ := hs.form
  clear hform hs hblt
  generalize hn : L.length = n at hcap hbig HS
  go_enter Try.func9, Try.ntmps9
  go_wp2_with (first | (go_at_call 23; refine (clone_R B _ L _ HS.out (by omega)).mono ?_; rintro e w' ⟨v', rfl, hs', hb'⟩))
  go_ret
  exact ⟨v', rfl, hs'.mono (by simp), ((Below.refl _ w).alloc (Nat.le_refl _) _).trans (hb'.mono (by simp))⟩
end Go.Proofs.Ytnillifinnmigaa
