
/-
  The document's Get, With; both by one name.
-/
import Derived.Test.YtpjcijmdoofcbaaGyA
namespace Go.Proofs.Ytpjcijmdoofcbaa
open Go Go.RowKit
set_option linter.unusedVariables false
set_option linter.unusedSimpArgs false

def gotF (L : List Cp) (n : Int) : Cp := if 1 ≤ n ∧ n < 32 then capAt L n.toNat else ⟨false, 0#64, 0#64⟩
def withF (L : List Cp) (n : Int) (c : Cp) : List Cp := if 1 ≤ n ∧ n < 32 then L.set n.toNat c else L
theorem withF_len {L : List Cp} (hL : L.length = 33) (n : Int) (c : Cp) : (withF L n c).length = 33 := by
  unfold withF
  split
  · exact setR_len L _ c hL
  · exact hL
set_option maxHeartbeats 4000000 in
set_option maxRecDepth 100000 in
theorem rget_no (L : List Cp) (n : Int) (h : ¬ (1 ≤ n ∧ n < 32)) (w : World) : Calls Try.prog 21 #[.agg (cellsC L).toArray, .int .i64 n] w fun e w' => e = .returned (.agg #[.bool false, .int .u64 0, .int .u64 0]) ∧ Below w.heap.size w w' := by
  by_cases h1 : n < 1
  all_goals
    go_enter Try.func21, Try.ntmps21
    go_wp2_with fail
    refine bodyPost_ret (results_c [.bool false, .int .u64 0, .int .u64 0] Try.results21 rfl ?_ Try.underlying42 rfl (by kernel_rfl)) rfl ?_
    · (first | (go_simp; done) | (go_simp; (simp [↓IntWalk.iteOmega]; done)) | (go_simp; intros; omega) | (go_simp; simp [↓IntWalk.iteOmega]; intros; omega))
    · exact ⟨rfl, by (repeat (first | with_reducible exact Below.refl _ _ | with_reducible assumption | with_reducible refine below_drewN ?_ _ | with_reducible refine Below.drew ?_ | with_reducible refine below_alloc ?_ _ | (with_reducible refine Below.setCell ?_ (by first | (simp; done) | omega | (simp; omega)) _) | with_reducible refine belows ?_ (by assumption)))⟩
set_option maxHeartbeats 4000000 in
set_option maxRecDepth 100000 in
theorem rget_yes (L : List Cp) (k : Nat) (hL : L.length = 33) (h1 : 1 ≤ k) (h2 : k < 32) (w : World) : Calls Try.prog 21 #[.agg (cellsC L).toArray, .int .i64 (k : Int)] w fun e w' => e = .returned (capV (capAt L k)) ∧ Below w.heap.size w w' := by
  have HC : ∀ T, RtxAt ((w.alloc (.cells (cellsC L).toArray 45)).alloc T) w.heap.size L := fun T => RtxAt.alloc (World.alloc_heap_new _ _) _
  obtain ⟨x0, x1, x2⟩ := (HC (.cells #[.bool false, .int .u64 0, .int .u64 0] 42)).cells k _ (capAt_get L k (by omega))
  go_enter Try.func21, Try.ntmps21
  go_wp2_with fail
  refine bodyPost_ret (results_c [.bool (capAt L k).g, .int .u64 (U (capAt L k).m), .int .u64 (U (capAt L k).a)] Try.results21 rfl ?_ Try.underlying42 rfl (by kernel_rfl)) rfl ?_
  · (first | (go_simp; done) | (go_simp; (simp [↓IntWalk.iteOmega]; done)) | (go_simp; intros; omega) | (go_simp; simp [↓IntWalk.iteOmega]; intros; omega))
  · exact ⟨rfl, by (repeat (first | with_reducible exact Below.refl _ _ | with_reducible assumption | with_reducible refine below_drewN ?_ _ | with_reducible refine Below.drew ?_ | with_reducible refine below_alloc ?_ _ | (with_reducible refine Below.setCell ?_ (by first | (simp; done) | omega | (simp; omega)) _) | with_reducible refine belows ?_ (by assumption)))⟩
set_option maxHeartbeats 4000000 in
set_option maxRecDepth 100000 in
theorem rwith_no (L : List Cp) (hL : L.length = 33) (n : Int) (c : Cp) (h : ¬ (1 ≤ n ∧ n < 32)) (w : World) : Calls Try.prog 23 #[.agg (cellsC L).toArray, .int .i64 n, capV c] w fun e w' => e = .returned (.agg (cellsC L).toArray) ∧ Below w.heap.size w w' := by
  have HA0 : ∀ T S, RtxAt (((w.alloc (.cells (cellsC L).toArray 45)).alloc T).alloc S) w.heap.size L := fun T S => RtxAt.alloc (RtxAt.alloc (World.alloc_heap_new _ _) _) _
  have HB0 : ∀ T : Obj, RtxAt (((w.alloc (.cells (cellsC L).toArray 45)).alloc T).alloc (.cells (cellsC zeroL).toArray 45)) (w.heap.size + 1 + 1) zeroL := fun T => by
    have := World.alloc_heap_new ((w.alloc (.cells (cellsC L).toArray 45)).alloc T) (.cells (cellsC zeroL).toArray 45)
    simpa [RtxAt] using this
  have HA := Lib.hid HA0
  have HB := Lib.hid HB0
  clear HA0 HB0
  unfold capV
  by_cases h1 : 1 ≤ n
  all_goals
    go_enter Try.func23, Try.ntmps23
    go_wp2_with (first | (refine rwpList_load_ctx rfl _ rfl w.heap.size rfl L (HA.out _ _) hL ?_) | (refine rwpList_store_ctx rfl _ _ rfl (w.heap.size + 1 + 1) zeroL L rfl rfl (HB.out _) zeroL_len hL ?_; intro w3 hst; have HST := Lib.hid hst; clear hst))
    refine bodyPost_ret (rret_ctx Try.results23 _ _ (w.heap.size + 1 + 1) L rfl HST.out.at_ hL) rfl ?_
    exact ⟨rfl, HST.out.below (by (repeat (first | with_reducible exact Below.refl _ _ | with_reducible assumption | with_reducible refine below_drewN ?_ _ | with_reducible refine Below.drew ?_ | with_reducible refine below_alloc ?_ _ | (with_reducible refine Below.setCell ?_ (by first | (simp; done) | omega | (simp; omega)) _) | with_reducible refine belows ?_ (by assumption)))) (by omega)⟩
set_option maxHeartbeats 4000000 in
set_option maxRecDepth 100000 in
theorem rwith_yes (L : List Cp) (hL : L.length = 33) (k : Nat) (h1 : 1 ≤ k) (h2 : k < 32) (c : Cp) (w : World) : Calls Try.prog 23 #[.agg (cellsC L).toArray, .int .i64 (k : Int), capV c] w fun e w' => e = .returned (.agg (cellsC (L.set k c)).toArray) ∧ Below w.heap.size w w' := by
  obtain ⟨W, hW⟩ : ∃ W, W = ((w.alloc (.cells (cellsC L).toArray 45)).alloc (.cells #[.bool c.g, .int .u64 (U c.m), .int .u64 (U c.a)] 42)).alloc (.cells (cellsC zeroL).toArray 45) := ⟨_, rfl⟩
  have ha : RtxAt W w.heap.size L := by rw [hW]; exact RtxAt.alloc (RtxAt.alloc (World.alloc_heap_new _ _) _) _
  have hb : RtxAt W (w.heap.size + 1 + 1) zeroL := by
    have := World.alloc_heap_new ((w.alloc (.cells (cellsC L).toArray 45)).alloc (.cells #[.bool c.g, .int .u64 (U c.m), .int .u64 (U c.a)] 42)) (.cells (cellsC zeroL).toArray 45)
    rw [hW]
    simpa [RtxAt] using this
  have hbw : Below w.heap.size w W := by rw [hW]; (repeat (first | with_reducible exact Below.refl _ _ | with_reducible assumption | with_reducible refine below_drewN ?_ _ | with_reducible refine Below.drew ?_ | with_reducible refine below_alloc ?_ _ | (with_reducible refine Below.setCell ?_ (by first | (simp; done) | omega | (simp; omega)) _) | with_reducible refine belows ?_ (by assumption)))
  have HA := Lib.hid ha
  have HB := Lib.hid hb
  have HW := Lib.hid hbw
  obtain ⟨x0, x1, x2⟩ := ha.cells k _ (capAt_get L k (by omega))
  have f0 := ha.frozen (k * 3)
  have f1 := ha.frozen (k * 3 + 1)
  have f2 := ha.frozen (k * 3 + 2)
  have hc : W.heap[w.heap.size + 1]? = some (.cells #[.bool c.g, .int .u64 (U c.m), .int .u64 (U c.a)] 42 (0, 0)) := by
    have := World.alloc_heap_new (w.alloc (.cells (cellsC L).toArray 45)) (.cells #[.bool c.g, .int .u64 (U c.m), .int .u64 (U c.a)] 42)
    rw [World.size_alloc] at this
    rw [hW]
    exact (heap_alloc_old _ _ (by simp)).trans this
  have y0 : W.cell? ⟨w.heap.size + 1, 0, none⟩ = some (.bool c.g) := (cell_of_row W (w.heap.size + 1) 0 _ _ _ hc).trans rfl
  have y1 : W.cell? ⟨w.heap.size + 1, 1, none⟩ = some (.int .u64 (U c.m)) := (cell_of_row W (w.heap.size + 1) 1 _ _ _ hc).trans rfl
  have y2 : W.cell? ⟨w.heap.size + 1, 2, none⟩ = some (.int .u64 (U c.a)) := (cell_of_row W (w.heap.size + 1) 2 _ _ _ hc).trans rfl
  have s0 : W.heap.size = w.heap.size + 1 + 1 + 1 := by rw [hW]; simp
  clear ha hb hbw hc
  unfold capV
  go_enter Try.func23, Try.ntmps23
  go_upto_region 1 with (fail)
  rw [← hW]
  clear hW
  go_wp2_with (first | (refine rwpList_load_ctx rfl _ rfl w.heap.size rfl (L.set k c) ?_ (setR_len L k c hL) ?_; (focus exact HA.out.set k c (by omega))) | (refine rwpList_store_ctx rfl _ _ rfl (w.heap.size + 1 + 1) zeroL (L.set k c) rfl rfl ?_ zeroL_len (setR_len L k c hL) ?_; (focus exact ((HB.out.other _ _ (show w.heap.size + 1 + 1 ≠ w.heap.size by omega)).other _ _ (show w.heap.size + 1 + 1 ≠ w.heap.size by omega)).other _ _ (show w.heap.size + 1 + 1 ≠ w.heap.size by omega)); intro w3 hst; have HST := Lib.hid hst; clear hst))
  refine bodyPost_ret (rret_ctx Try.results23 _ _ (w.heap.size + 1 + 1) (L.set k c) rfl HST.out.at_ (setR_len L k c hL)) rfl ?_
  exact ⟨rfl, HST.out.below (((HW.out.setCell (show w.heap.size ≤ w.heap.size from Nat.le_refl _) _).setCell (show w.heap.size ≤ w.heap.size from Nat.le_refl _) _).setCell (show w.heap.size ≤ w.heap.size from Nat.le_refl _) _) (by omega)⟩
theorem get_is (L : List Cp) (hL : L.length = 33) (n : Int) (w : World) : Calls Try.prog 8 #[.agg (cellsC L).toArray, .int .i64 n] w fun e w' => e = .returned (capV (gotF L n)) ∧ Below w.heap.size w w' := by
  unfold gotF
  by_cases h : 1 ≤ n ∧ n < 32
  · obtain ⟨k, rfl⟩ := Int.eq_ofNat_of_zero_le (show 0 ≤ n by omega)
    rw [if_pos h]
    exact get_yes L k hL (by omega) (by omega) w
  · rw [if_neg h]
    exact get_no L n (by simpa using h) w
theorem with_is (L : List Cp) (hL : L.length = 33) (n : Int) (c : Cp) (w : World) : Calls Try.prog 22 #[.agg (cellsC L).toArray, .int .i64 n, capV c] w fun e w' => e = .returned (.agg (cellsC (withF L n c)).toArray) ∧ Below w.heap.size w w' := by
  unfold withF
  by_cases h : 1 ≤ n ∧ n < 32
  · obtain ⟨k, rfl⟩ := Int.eq_ofNat_of_zero_le (show 0 ≤ n by omega)
    rw [if_pos h]
    exact with_yes L hL k (by omega) (by omega) c w
  · rw [if_neg h]
    exact with_no L hL n c (by simpa using h) w
theorem rget_is (L : List Cp) (hL : L.length = 33) (n : Int) (w : World) : Calls Try.prog 21 #[.agg (cellsC L).toArray, .int .i64 n] w fun e w' => e = .returned (capV (gotF L n)) ∧ Below w.heap.size w w' := by
  unfold gotF
  by_cases h : 1 ≤ n ∧ n < 32
  · obtain ⟨k, rfl⟩ := Int.eq_ofNat_of_zero_le (show 0 ≤ n by omega)
    rw [if_pos h]
    exact rget_yes L k hL (by omega) (by omega) w
  · rw [if_neg h]
    exact rget_no L n h w
theorem rwith_is (L : List Cp) (hL : L.length = 33) (n : Int) (c : Cp) (w : World) : Calls Try.prog 23 #[.agg (cellsC L).toArray, .int .i64 n, capV c] w fun e w' => e = .returned (.agg (cellsC (withF L n c)).toArray) ∧ Below w.heap.size w w' := by
  unfold withF
  by_cases h : 1 ≤ n ∧ n < 32
  · obtain ⟨k, rfl⟩ := Int.eq_ofNat_of_zero_le (show 0 ≤ n by omega)
    rw [if_pos h]
    exact rwith_yes L hL k (by omega) (by omega) c w
  · rw [if_neg h]
    exact rwith_no L hL n c h w
end Go.Proofs.Ytpjcijmdoofcbaa
