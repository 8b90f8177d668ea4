
/-
  regs.Get, With, Zero, Tagged.
-/
import Derived.Test.YtpjcijmdoofcbaaGxB
import Derived.Laws.Rows
import Derived.Laws.Tables
import Derived.Deep.WholeRow
import Derived.Laws.CopyOwn
namespace Go.Proofs.Ytpjcijmdoofcbaa
open Go Go.RowKit Go.Shelf
set_option linter.unusedVariables false
set_option linter.unusedSimpArgs false

def zeroL : List Cp := List.replicate 33 ⟨false, 0#64, 0#64⟩
theorem zero_info : (Try.prog.info? 27).map (fun i => (i.zero, i.size)) = some (some (.agg (cellsC zeroL).toArray), 99) := by kernel_rfl
set_option maxHeartbeats 4000000 in
set_option maxRecDepth 100000 in
theorem zero_ctx (w : World) : (zeroValue 27).run Try.prog w = .ok (.agg (cellsC zeroL).toArray) w := (zero_of_info zero_info).1 w
theorem size_ctx : (Try.prog.info? 27).map (·.size) = some 99 := (zero_of_info zero_info).2
attribute [go_sem 3000] zero_ctx
theorem ctx_size {L : List Cp} (hL : L.length = 33) : (cellsC L).toArray.size = 99 := by rw [List.size_toArray, cellsC_len, hL]
theorem load_ctx {W : World} {g : Nat} {L : List Cp} (h : CtxAt W g L) (hL : L.length = 33) : (loadVar 27 ⟨g, 0, none⟩).run Try.prog W = .ok (.agg (cellsC L).toArray) W :=
  run_loadVar_row W g _ _ _ _ _ h Try.underlying27 rfl (by rw [ctx_size hL]; exact size_ctx)
theorem store_ctx {W : World} {g : Nat} {L M : List Cp} (h : CtxAt W g L) (hL : L.length = 33) (hM : M.length = 33) : (storeVar 27 ⟨g, 0, none⟩ (.agg (cellsC M).toArray)).run Try.prog W = .ok () (W.setRow g (cellsC M).toArray) :=
  run_storeVar_row W g _ _ _ _ h (by rw [ctx_size hM]; exact size_ctx) (by rw [ctx_size hL, ctx_size hM]) (Array.all_eq_true_iff_forall_mem.2 fun v hv => cellsC_one M v (by simpa using hv))
theorem setRow_size (W : World) (g : Nat) (c : Array Value) : (W.setRow g c).heap.size = W.heap.size := by
  unfold World.setRow
  simp
/-- What a store of a whole context leaves. -/
structure Stored (W W' : World) (g : Nat) (M : List Cp) : Prop where
  at_ : CtxAt W' g M
  same : ∀ b, b ≠ g → W'.heap[b]? = W.heap[b]?
  size : W'.heap.size = W.heap.size
  below : ∀ {B : Nat} {w : World}, Below B w W → B ≤ g → Below B w W'
theorem Stored.cell {W W' : World} {g : Nat} {M : List Cp} (h : Stored W W' g M) (b o : Nat) (hb : b ≠ g) : W'.cell? ⟨b, o, none⟩ = W.cell? ⟨b, o, none⟩ := World.cell?_of_block (h.same b hb)
theorem Stored.frozen {W W' : World} {g : Nat} {M : List Cp} (h : Stored W W' g M) (b o : Nat) (hb : b ≠ g) : W'.frozen? ⟨b, o, none⟩ = W.frozen? ⟨b, o, none⟩ := World.frozen?_of_block (h.same b hb)
theorem Stored.ctx {W W' : World} {g q : Nat} {M L : List Cp} (h : Stored W W' g M) (hq : CtxAt W q L) (hne : q ≠ g) : CtxAt W' q L := (h.same q hne).trans hq
theorem stored_ctx {W : World} {g : Nat} {L M : List Cp} (h : CtxAt W g L) : Stored W (W.setRow g (cellsC M).toArray) g M :=
  ⟨setRow_heap W g _ _ _ _ h, fun b hb => setRow_other W g b _ hb, setRow_size W g _, fun hb hB => below_setRow hb hB _⟩
theorem wpList_load_ctx {ops : Array Oper} {rest : List Oper} {o : Oper} {a : Act} {w : World} {Q : Exit → Act → World → Prop} (hgd : o.guard = none) (x : Operand) (ho : o.op = .load 27 x)
    (g : Nat) (hx : a.eval x = .pointer (some ⟨g, 0, none⟩)) (L : List Cp) (hg : CtxAt w g L) (hL : L.length = 33)
    (h : wpList Try.prog ops Q rest (a.put o.dst (.agg (cellsC L).toArray)) w) : wpList Try.prog ops Q (o :: rest) a w :=
  wpList_load_row hgd 27 x ho g hx _ _ (0, 0) _ hg Try.underlying27 rfl (by rw [ctx_size hL]; exact size_ctx) h
theorem wpList_store_ctx {ops : Array Oper} {rest : List Oper} {o : Oper} {a : Act} {w : World} {Q : Exit → Act → World → Prop} (hgd : o.guard = none) (x y : Operand) (ho : o.op = .store 27 x y)
    (g : Nat) (L M : List Cp) (hx : a.eval x = .pointer (some ⟨g, 0, none⟩)) (hy : a.eval y = .agg (cellsC M).toArray) (hg : CtxAt w g L) (hL : L.length = 33) (hM : M.length = 33)
    (h : ∀ W', Stored w W' g M → wpList Try.prog ops Q rest (a.put o.dst undef) W') : wpList Try.prog ops Q (o :: rest) a w :=
  wpList_store_row hgd 27 x y ho g _ hx hy _ _ hg (by rw [ctx_size hM]; exact size_ctx) (by rw [ctx_size hL, ctx_size hM]) (Array.all_eq_true_iff_forall_mem.2 fun v hv => cellsC_one M v (by simpa using hv)) (h _ (stored_ctx hg))
theorem step_load_ctx {ops : Array Oper} {o : Oper} {a : Act} {w : World} {K : Act → World → Prop} {Q : Exit → Act → World → Prop} {E : Prop} (hgd : o.guard = none) (x : Operand) (ho : o.op = .load 27 x)
    (g : Nat) (hx : a.eval x = .pointer (some ⟨g, 0, none⟩)) (L : List Cp) (hg : CtxAt w g L) (hL : L.length = 33) (h : K (a.put o.dst (.agg (cellsC L).toArray)) w) : if Region.wanted o (yielded ops a.tmps) = true then Oper.wp Try.prog o a w K Q else E := by
  have hw : Region.wanted o (yielded ops a.tmps) = true := by simp [Region.wanted, hgd]
  rw [if_pos hw]
  exact wp_load_row 27 x ho g hx _ _ (0, 0) _ hg Try.underlying27 rfl (by rw [ctx_size hL]; exact size_ctx) h
theorem step_store_ctx {ops : Array Oper} {o : Oper} {a : Act} {w : World} {K : Act → World → Prop} {Q : Exit → Act → World → Prop} {E : Prop} (hgd : o.guard = none) (x y : Operand) (ho : o.op = .store 27 x y)
    (g : Nat) (L M : List Cp) (hx : a.eval x = .pointer (some ⟨g, 0, none⟩)) (hy : a.eval y = .agg (cellsC M).toArray) (hg : CtxAt w g L) (hL : L.length = 33) (hM : M.length = 33)
    (h : ∀ W', Stored w W' g M → K (a.put o.dst undef) W') : if Region.wanted o (yielded ops a.tmps) = true then Oper.wp Try.prog o a w K Q else E := by
  have hw : Region.wanted o (yielded ops a.tmps) = true := by simp [Region.wanted, hgd]
  rw [if_pos hw]
  exact wp_store_row 27 x y ho g _ hx hy _ _ hg (by rw [ctx_size hM]; exact size_ctx) (by rw [ctx_size hL, ctx_size hM]) (Array.all_eq_true_iff_forall_mem.2 fun v hv => cellsC_one M v (by simpa using hv)) (h _ (stored_ctx hg))
theorem ret_ctx {fn : Func} {p : Tmp} (h : fn.results = #[.cell p 27]) (tmps : Array Value) (w : World) (g : Nat) (L : List Cp) (hp : tmps.getD p undef = .pointer (some ⟨g, 0, none⟩)) (hg : CtxAt w g L) (hL : L.length = 33) : (results fn tmps).run Try.prog w = .ok (.agg (cellsC L).toArray) w :=
  results_cell_row h tmps w g _ _ (0, 0) _ hp hg Try.underlying27 rfl (by rw [ctx_size hL]; exact size_ctx)
theorem ret_ctx_t {fn : Func} {p t : Tmp} (h : fn.results = #[.cell p 27, .tmp t]) (tmps : Array Value) (w : World) (g : Nat) (L : List Cp) (v : Value) (hp : tmps.getD p undef = .pointer (some ⟨g, 0, none⟩)) (ht : tmps.getD t undef = v) (hg : CtxAt w g L) (hL : L.length = 33) : (results fn tmps).run Try.prog w = .ok (.tuple #[.agg (cellsC L).toArray, v]) w := by
  have hp' : tmps[p]?.getD undef = .pointer (some ⟨g, 0, none⟩) := by simpa using hp
  have ht' : tmps[t]?.getD undef = v := by simpa using ht
  simp [results, h, hp', ht', asAddr, load_ctx hg hL]
theorem load_cells_ctx {W : World} {g : Nat} {L : List Cp} (h : CtxAt W g L) (hL : L.length = 33) : (loadCellsFrom ⟨g, 0, none⟩ 0 99 #[]).run Try.prog W = .ok (cellsC L).toArray W := by
  have := run_loadCells_list (P := Try.prog) W ⟨g, 0, none⟩ (cellsC L) (fun j v hv => by
    have hadd : (⟨g, 0, none⟩ : Addr).add j = ⟨g, j, none⟩ := by unfold Addr.add; split <;> simp_all
    rw [hadd, cell_of_row _ _ j _ _ _ h]
    simpa using hv)
  rw [cellsC_len, hL] at this
  simpa [loadCells] using this
theorem store_cells_ctx {W : World} {g : Nat} {L M : List Cp} (h : CtxAt W g L) (hL : L.length = 33) (hM : M.length = 33) : (storeCells ⟨g, 0, none⟩ (cellsC M) 0).run Try.prog W = .ok () (W.setRow g (cellsC M).toArray) := by
  have := run_storeCells_from (P := Try.prog) g 27 (cellsC M) 0 (cellsC L).toArray W h (by rw [ctx_size hL, cellsC_len, hM]) (fun v hv => cellsC_one M v hv)
  simpa using this
theorem cellsC_99 {M : List Cp} (hM : M.length = 33) : (cellsC M).length = 99 := by rw [cellsC_len, hM]
theorem zeroL_len : zeroL.length = 33 := rfl
set_option maxHeartbeats 4000000 in
set_option maxRecDepth 100000 in
theorem is_any (n : Int) (w : World) : Calls Try.prog 27 #[.int .i64 n] w fun e w' => e = .returned (.bool (decide (1 ≤ n) && decide (n < 32))) ∧ Below w.heap.size w w' := by
  go_enter Try.func27, Try.ntmps27
  cases h1 : decide (1 ≤ n) <;> cases h2 : decide (n < 32)
  all_goals
    go_wp2_with fail
    go_ret
    exact ⟨rfl, by (repeat (first | with_reducible exact Below.refl _ _ | with_reducible assumption | with_reducible refine below_drewN ?_ _ | with_reducible refine Below.drew ?_ | with_reducible refine below_alloc ?_ _ | (with_reducible refine Below.setCell ?_ (by first | (simp; done) | omega | (simp; omega)) _) | with_reducible refine belows ?_ (by assumption)))⟩
set_option maxHeartbeats 4000000 in
set_option maxRecDepth 100000 in
theorem get_no (L : List Cp) (n : Int) (h : (decide (1 ≤ n) && decide (n < 32)) = false) (w : World) : Calls Try.prog 8 #[.agg (cellsC L).toArray, .int .i64 n] w fun e w' => e = .returned (.agg #[.bool false, .int .u64 0, .int .u64 0]) ∧ Below w.heap.size w w' := by
  have ci := fun w => is_any n w
  rw [h] at ci
  go_enter Try.func8, Try.ntmps8
  go_wp2_with (first | (go_at_call 27; (with_reducible refine (ci _).mono ?_); rintro e w' ⟨rfl, hbl⟩; obtain ⟨hcw, hfw, hsw⟩ := below_ifs hbl; (try simp only [World.size_alloc, World.size_setCell, World.size_drew, size_drewN_] at hcw hfw hsw)))
  refine bodyPost_ret (results_c [.bool false, .int .u64 0, .int .u64 0] Try.results8 rfl ?_ Try.underlying24 rfl (by kernel_rfl)) rfl ?_
  · (first | (go_simp; done) | (go_simp; (simp [↓IntWalk.iteOmega]; done)) | (go_simp; intros; omega) | (go_simp; simp [↓IntWalk.iteOmega]; intros; omega))
  · exact ⟨rfl, by (repeat (first | with_reducible exact Below.refl _ _ | with_reducible assumption | with_reducible refine below_drewN ?_ _ | with_reducible refine Below.drew ?_ | with_reducible refine below_alloc ?_ _ | (with_reducible refine Below.setCell ?_ (by first | (simp; done) | omega | (simp; omega)) _) | with_reducible refine belows ?_ (by assumption)))⟩
set_option maxHeartbeats 4000000 in
set_option maxRecDepth 100000 in
theorem get_yes (L : List Cp) (k : Nat) (hL : L.length = 33) (h1 : 1 ≤ k) (h2 : k < 32) (w : World) : Calls Try.prog 8 #[.agg (cellsC L).toArray, .int .i64 (k : Int)] w fun e w' => e = .returned (capV (capAt L k)) ∧ Below w.heap.size w w' := by
  have ci := fun w => is_any (k : Int) w
  rw [decide_eq_true (by omega), decide_eq_true (by omega)] at ci
  go_enter Try.func8, Try.ntmps8
  have HC : ∀ T, CtxAt (w.alloc (.cells (cellsC L).toArray 27)) w.heap.size L ∧ CtxAt ((w.alloc (.cells (cellsC L).toArray 27)).alloc T) w.heap.size L := fun T => ⟨World.alloc_heap_new _ _, CtxAt.alloc (World.alloc_heap_new _ _) _⟩
  have HC' := Lib.hid HC
  clear HC
  go_wp2_with (first | (go_at_call 27; refine (ci _).mono ?_; rintro e w' ⟨rfl, hbl⟩; obtain ⟨x0, x1, x2⟩ := (CtxAt.below (HC'.out _).2 hbl (by first | (simp; done) | (simp; omega))).cells k _ (capAt_get L k (by omega)); obtain ⟨hcw, hfw, hsw⟩ := below_ifs hbl; (try simp only [World.size_alloc] at hcw hfw hsw)))
  refine bodyPost_ret (results_c [.bool (capAt L k).g, .int .u64 (U (capAt L k).m), .int .u64 (U (capAt L k).a)] Try.results8 rfl ?_ Try.underlying24 rfl (by kernel_rfl)) rfl ?_
  · (first | (go_simp; done) | (go_simp; (simp [↓IntWalk.iteOmega]; done)) | (go_simp; intros; omega) | (go_simp; simp [↓IntWalk.iteOmega]; intros; omega))
  · exact ⟨rfl, by (repeat (first | with_reducible exact Below.refl _ _ | with_reducible assumption | with_reducible refine below_drewN ?_ _ | with_reducible refine Below.drew ?_ | with_reducible refine below_alloc ?_ _ | (with_reducible refine Below.setCell ?_ (by first | (simp; done) | omega | (simp; omega)) _) | with_reducible refine belows ?_ (by assumption)))⟩
set_option maxHeartbeats 4000000 in
set_option maxRecDepth 100000 in
theorem with_no (L : List Cp) (hL : L.length = 33) (n : Int) (c : Cp) (h : (decide (1 ≤ n) && decide (n < 32)) = false) (w : World) : Calls Try.prog 22 #[.agg (cellsC L).toArray, .int .i64 n, capV c] w fun e w' => e = .returned (.agg (cellsC L).toArray) ∧ Below w.heap.size w w' := by
  have ci := fun w => is_any n w
  rw [h] at ci
  have HC : ∀ T S, CtxAt (((w.alloc (.cells (cellsC L).toArray 27)).alloc T).alloc S) w.heap.size L := fun T S => CtxAt.alloc (CtxAt.alloc (World.alloc_heap_new _ _) _) _
  have HZ : ∀ T : Obj, CtxAt (((w.alloc (.cells (cellsC L).toArray 27)).alloc T).alloc (.cells (cellsC zeroL).toArray 27)) (w.heap.size + 1 + 1) zeroL := fun T => by
    have := World.alloc_heap_new ((w.alloc (.cells (cellsC L).toArray 27)).alloc T) (.cells (cellsC zeroL).toArray 27)
    simpa [CtxAt] using this
  have HC' := Lib.hid HC
  have HZ' := Lib.hid HZ
  clear HC HZ
  unfold capV
  go_enter Try.func22, Try.ntmps22
  go_wp2_with (first | (go_at_call 27; refine (ci _).mono ?_; rintro e w' ⟨rfl, hbl⟩; have HA := Lib.hid (CtxAt.below (HC'.out _ _) hbl (by first | (simp; done) | (simp; omega))); have HB := Lib.hid (CtxAt.below (HZ'.out _) hbl (by first | (simp; done) | (simp; omega)))) | (refine wpList_load_ctx rfl _ rfl w.heap.size rfl L HA.out hL ?_) | (refine wpList_store_ctx rfl _ _ rfl (w.heap.size + 1 + 1) zeroL L rfl rfl HB.out zeroL_len hL ?_; intro w3 hst; have HST := Lib.hid hst; clear hst))
  refine bodyPost_ret (ret_ctx Try.results22 _ _ (w.heap.size + 1 + 1) L rfl HST.out.at_ hL) rfl ?_
  exact ⟨rfl, HST.out.below (by (repeat (first | with_reducible exact Below.refl _ _ | with_reducible assumption | with_reducible refine below_drewN ?_ _ | with_reducible refine Below.drew ?_ | with_reducible refine below_alloc ?_ _ | (with_reducible refine Below.setCell ?_ (by first | (simp; done) | omega | (simp; omega)) _) | with_reducible refine belows ?_ (by assumption)))) (by omega)⟩
set_option maxHeartbeats 4000000 in
set_option maxRecDepth 100000 in
theorem with_yes (L : List Cp) (hL : L.length = 33) (k : Nat) (h1 : 1 ≤ k) (h2 : k < 32) (c : Cp) (w : World) : Calls Try.prog 22 #[.agg (cellsC L).toArray, .int .i64 (k : Int), capV c] w fun e w' => e = .returned (.agg (cellsC (L.set k c)).toArray) ∧ Below w.heap.size w w' := by
  have ci := fun w => is_any (k : Int) w
  rw [decide_eq_true (by omega), decide_eq_true (by omega)] at ci
  have HC : ∀ T S, CtxAt (((w.alloc (.cells (cellsC L).toArray 27)).alloc T).alloc S) w.heap.size L := fun T S => CtxAt.alloc (CtxAt.alloc (World.alloc_heap_new _ _) _) _
  have HZ : ∀ T : Obj, CtxAt (((w.alloc (.cells (cellsC L).toArray 27)).alloc T).alloc (.cells (cellsC zeroL).toArray 27)) (w.heap.size + 1 + 1) zeroL := fun T => by
    have := World.alloc_heap_new ((w.alloc (.cells (cellsC L).toArray 27)).alloc T) (.cells (cellsC zeroL).toArray 27)
    simpa [CtxAt] using this
  have HC' := Lib.hid HC
  have HZ' := Lib.hid HZ
  clear HC HZ
  unfold capV
  go_enter Try.func22, Try.ntmps22
  go_wp2_with (first | (go_at_call 27; refine (ci _).mono ?_; rintro e w' ⟨rfl, hbl⟩; have HA := Lib.hid (CtxAt.below (HC'.out _ _) hbl (by first | (simp; done) | (simp; omega))); have HB := Lib.hid (CtxAt.below (HZ'.out _) hbl (by first | (simp; done) | (simp; omega))); obtain ⟨x0, x1, x2⟩ := HA.out.cells k _ (capAt_get L k (by omega)); have f0 := HA.out.frozen (k * 3); have f1 := HA.out.frozen (k * 3 + 1); have f2 := HA.out.frozen (k * 3 + 2); obtain ⟨hcw, hfw, hsw⟩ := below_ifs hbl; (try simp only [World.size_alloc] at hcw hfw hsw)) | (refine wpList_load_ctx rfl _ rfl w.heap.size rfl (L.set k c) (CtxAt.set HA.out k c (by omega)) (by rw [List.length_set]; exact hL) ?_) | (refine wpList_store_ctx rfl _ _ rfl (w.heap.size + 1 + 1) zeroL (L.set k c) rfl rfl (((HB.out.other _ _ (show w.heap.size + 1 + 1 ≠ w.heap.size by omega)).other _ _ (show w.heap.size + 1 + 1 ≠ w.heap.size by omega)).other _ _ (show w.heap.size + 1 + 1 ≠ w.heap.size by omega)) zeroL_len (by rw [List.length_set]; exact hL) ?_; intro w3 hst; have HST := Lib.hid hst; clear hst))
  refine bodyPost_ret (ret_ctx Try.results22 _ _ (w.heap.size + 1 + 1) (L.set k c) rfl HST.out.at_ (by rw [List.length_set]; exact hL)) rfl ?_
  exact ⟨rfl, HST.out.below (by (repeat (first | with_reducible exact Below.refl _ _ | with_reducible assumption | with_reducible refine below_drewN ?_ _ | with_reducible refine Below.drew ?_ | with_reducible refine below_alloc ?_ _ | (with_reducible refine Below.setCell ?_ (by first | (simp; done) | omega | (simp; omega)) _) | with_reducible refine belows ?_ (by assumption)))) (by omega)⟩
theorem zero_built (g : Bool) (m a : BitVec 64) : Try.prog.built 27 [(1, .agg #[.bool g, .int .u64 (U m), .int .u64 (U a)])] = some (cellsC (zeroL.set 32 ⟨g, m, a⟩)).toArray := by kernel_rfl
set_option maxHeartbeats 4000000 in
set_option maxRecDepth 100000 in
theorem zero_ctx_any (c : Cp) (w : World) : Calls Try.prog 25 #[capV c] w fun e w' => e = .returned (.agg (cellsC (zeroL.set 32 c)).toArray) ∧ Below w.heap.size w w' := by
  obtain ⟨g, m, a⟩ := c
  have hb := zero_built g m a
  have HZ : ∀ T : Obj, CtxAt ((w.alloc T).alloc (.cells (cellsC zeroL).toArray 27)) (w.heap.size + 1) zeroL := fun T => by
    have := World.alloc_heap_new (w.alloc T) (.cells (cellsC zeroL).toArray 27)
    simpa [CtxAt] using this
  have HZ' := Lib.hid HZ
  clear HZ
  unfold capV
  go_enter Try.func25, Try.ntmps25
  go_wp2_with (first | (refine wpList_store_ctx rfl _ _ rfl (w.heap.size + 1) zeroL (zeroL.set 32 ⟨g, m, a⟩) rfl rfl (HZ'.out _) zeroL_len rfl ?_; intro w3 hst; have HST := Lib.hid hst; clear hst))
  refine bodyPost_ret (ret_ctx Try.results25 _ _ (w.heap.size + 1) (zeroL.set 32 ⟨g, m, a⟩) rfl HST.out.at_ rfl) rfl ?_
  exact ⟨rfl, HST.out.below (by (repeat (first | with_reducible exact Below.refl _ _ | with_reducible assumption | with_reducible refine below_drewN ?_ _ | with_reducible refine Below.drew ?_ | with_reducible refine below_alloc ?_ _ | (with_reducible refine Below.setCell ?_ (by first | (simp; done) | omega | (simp; omega)) _) | with_reducible refine belows ?_ (by assumption)))) (by omega)⟩
set_option maxHeartbeats 4000000 in
set_option maxRecDepth 100000 in
theorem tagged_any (L : List Cp) (w : World) : Calls Try.prog 6 #[.agg (cellsC L).toArray] w fun e w' => e = .returned (.func (.func 26) #[] #[.pointer (some ⟨w.heap.size, 0, none⟩)]) ∧ w' = w.alloc (.cells (cellsC L).toArray 27) := by
  go_enter Try.func6, Try.ntmps6
  go_wp2_with fail
  go_ret
  exact ⟨rfl, rfl⟩
end Go.Proofs.Ytpjcijmdoofcbaa
