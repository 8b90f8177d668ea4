
/-
  The document's contexts: as lists, in blocks, loaded and stored whole, compared.
-/
import Derived.Test.YtpjcijmdoofcbaaGxG
import Derived.Laws.Rows
import Derived.Laws.Tables
import Derived.Deep.WholeRow
import Derived.Laws.CopyOwn
import Derived.DeepKeys
namespace Go.Proofs.Ytpjcijmdoofcbaa
open Go Go.RowKit
set_option linter.unusedVariables false
set_option linter.unusedSimpArgs false

def RtxAt (W : World) (g : Nat) (L : List Cp) : Prop := W.heap[g]? = some (.cells (cellsC L).toArray 45 (0, 0))
theorem RtxAt.lt {W : World} {g : Nat} {L : List Cp} (h : RtxAt W g L) : g < W.heap.size := by
  unfold RtxAt at h
  exact (Array.getElem?_eq_some_iff.1 h).1
theorem RtxAt.below {W W' : World} {g B : Nat} {L : List Cp} (h : RtxAt W g L) (hb : Below B W W') (hB : g < B) : RtxAt W' g L := (hb.block _ hB).trans h
theorem RtxAt.cells {W : World} {g : Nat} {L : List Cp} (h : RtxAt W g L) (k : Nat) (c : Cp) (hk : L[k]? = some c) : W.cell? ⟨g, k * 3, none⟩ = some (.bool c.g) ∧ W.cell? ⟨g, k * 3 + 1, none⟩ = some (.int .u64 (U c.m)) ∧ W.cell? ⟨g, k * 3 + 2, none⟩ = some (.int .u64 (U c.a)) := by
  obtain ⟨h1, h2, h3⟩ := cellsC_at L k c hk
  refine ⟨?_, ?_, ?_⟩ <;> rw [cell_of_row _ _ _ _ _ _ h] <;> simpa using by assumption
theorem RtxAt.frozen {W : World} {g : Nat} {L : List Cp} (h : RtxAt W g L) (q : Nat) : W.frozen? ⟨g, q, none⟩ = false := frozen_of_row _ _ _ _ _ h
theorem RtxAt.set {W : World} {g : Nat} {L : List Cp} (h : RtxAt W g L) (k : Nat) (c : Cp) (hk : k < L.length) : RtxAt (((W.setCell ⟨g, k * 3, none⟩ (.bool c.g)).setCell ⟨g, k * 3 + 1, none⟩ (.int .u64 (U c.m))).setCell ⟨g, k * 3 + 2, none⟩ (.int .u64 (U c.a))) g (L.set k c) := by
  have one : ∀ (W : World) (l : List Value) (o : Nat) (x : Value), W.heap[g]? = some (.cells l.toArray 45 (0, 0)) → (W.setCell ⟨g, o, none⟩ x).heap[g]? = some (.cells (l.set o x).toArray 45 (0, 0)) := fun W l o x hg => by
    rw [setCell_eq_setRow W g o l.toArray 45 (0, 0) x hg, setRow_heap W g _ _ _ _ hg]
    simp
  have h3 := one _ _ (k * 3 + 2) (.int .u64 (U c.a)) (one _ _ (k * 3 + 1) (.int .u64 (U c.m)) (one _ _ (k * 3) (.bool c.g) h))
  rw [cellsC_set L k c hk] at h3
  exact h3
theorem RtxAt.other {W : World} {g : Nat} {L : List Cp} (h : RtxAt W g L) (a : Addr) (u : Value) (ha : g ≠ a.block) : RtxAt (W.setCell a u) g L := by
  unfold RtxAt
  unfold World.setCell
  simp only [Array.getElem?_modify]
  rw [if_neg (fun e => ha e.symm)]
  exact h
theorem RtxAt.alloc {W : World} {g : Nat} {L : List Cp} (h : RtxAt W g L) (o : Obj) : RtxAt (W.alloc o) g L := (heap_alloc_old W o h.lt).trans h
theorem rzero_info : (Try.prog.info? 45).map (fun i => (i.zero, i.size)) = some (some (.agg (cellsC zeroL).toArray), 99) := by kernel_rfl
set_option maxHeartbeats 4000000 in
set_option maxRecDepth 100000 in
theorem rzero_ctx (w : World) : (zeroValue 45).run Try.prog w = .ok (.agg (cellsC zeroL).toArray) w := (zero_of_info rzero_info).1 w
theorem rsize_ctx : (Try.prog.info? 45).map (·.size) = some 99 := (zero_of_info rzero_info).2
attribute [go_sem 3000] rzero_ctx
theorem rload_ctx {W : World} {g : Nat} {L : List Cp} (h : RtxAt W g L) (hL : L.length = 33) : (loadVar 45 ⟨g, 0, none⟩).run Try.prog W = .ok (.agg (cellsC L).toArray) W :=
  run_loadVar_row W g _ _ _ _ _ h Try.underlying45 rfl (by rw [ctx_size hL]; exact rsize_ctx)
theorem rstore_ctx {W : World} {g : Nat} {L M : List Cp} (h : RtxAt W g L) (hL : L.length = 33) (hM : M.length = 33) : (storeVar 45 ⟨g, 0, none⟩ (.agg (cellsC M).toArray)).run Try.prog W = .ok () (W.setRow g (cellsC M).toArray) :=
  run_storeVar_row W g _ _ _ _ h (by rw [ctx_size hM]; exact rsize_ctx) (by rw [ctx_size hL, ctx_size hM]) (Array.all_eq_true_iff_forall_mem.2 fun v hv => cellsC_one M v (by simpa using hv))
structure StoredR (W W' : World) (g : Nat) (M : List Cp) : Prop where
  at_ : RtxAt W' g M
  same : ∀ b, b ≠ g → W'.heap[b]? = W.heap[b]?
  size : W'.heap.size = W.heap.size
  below : ∀ {B : Nat} {w : World}, Below B w W → B ≤ g → Below B w W'
theorem StoredR.cell {W W' : World} {g : Nat} {M : List Cp} (h : StoredR W W' g M) (b o : Nat) (hb : b ≠ g) : W'.cell? ⟨b, o, none⟩ = W.cell? ⟨b, o, none⟩ := World.cell?_of_block (h.same b hb)
theorem StoredR.frozen {W W' : World} {g : Nat} {M : List Cp} (h : StoredR W W' g M) (b o : Nat) (hb : b ≠ g) : W'.frozen? ⟨b, o, none⟩ = W.frozen? ⟨b, o, none⟩ := World.frozen?_of_block (h.same b hb)
theorem StoredR.rtx {W W' : World} {g q : Nat} {M L : List Cp} (h : StoredR W W' g M) (hq : RtxAt W q L) (hne : q ≠ g) : RtxAt W' q L := (h.same q hne).trans hq
theorem rstored_ctx {W : World} {g : Nat} {L M : List Cp} (h : RtxAt W g L) : StoredR W (W.setRow g (cellsC M).toArray) g M :=
  ⟨setRow_heap W g _ _ _ _ h, fun b hb => setRow_other W g b _ hb, setRow_size W g _, fun hb hB => below_setRow hb hB _⟩
theorem rwpList_load_ctx {ops : Array Oper} {rest : List Oper} {o : Oper} {a : Act} {w : World} {Q : Exit → Act → World → Prop} (hgd : o.guard = none) (x : Operand) (ho : o.op = .load 45 x)
    (g : Nat) (hx : a.eval x = .pointer (some ⟨g, 0, none⟩)) (L : List Cp) (hg : RtxAt w g L) (hL : L.length = 33)
    (h : wpList Try.prog ops Q rest (a.put o.dst (.agg (cellsC L).toArray)) w) : wpList Try.prog ops Q (o :: rest) a w :=
  wpList_load_row hgd 45 x ho g hx _ _ (0, 0) _ hg Try.underlying45 rfl (by rw [ctx_size hL]; exact rsize_ctx) h
theorem rwpList_store_ctx {ops : Array Oper} {rest : List Oper} {o : Oper} {a : Act} {w : World} {Q : Exit → Act → World → Prop} (hgd : o.guard = none) (x y : Operand) (ho : o.op = .store 45 x y)
    (g : Nat) (L M : List Cp) (hx : a.eval x = .pointer (some ⟨g, 0, none⟩)) (hy : a.eval y = .agg (cellsC M).toArray) (hg : RtxAt w g L) (hL : L.length = 33) (hM : M.length = 33)
    (h : ∀ W', StoredR w W' g M → wpList Try.prog ops Q rest (a.put o.dst undef) W') : wpList Try.prog ops Q (o :: rest) a w :=
  wpList_store_row hgd 45 x y ho g _ hx hy _ _ hg (by rw [ctx_size hM]; exact rsize_ctx) (by rw [ctx_size hL, ctx_size hM]) (Array.all_eq_true_iff_forall_mem.2 fun v hv => cellsC_one M v (by simpa using hv)) (h _ (rstored_ctx hg))
theorem rstep_load_ctx {ops : Array Oper} {o : Oper} {a : Act} {w : World} {K : Act → World → Prop} {Q : Exit → Act → World → Prop} {E : Prop} (hgd : o.guard = none) (x : Operand) (ho : o.op = .load 45 x)
    (g : Nat) (hx : a.eval x = .pointer (some ⟨g, 0, none⟩)) (L : List Cp) (hg : RtxAt w g L) (hL : L.length = 33) (h : K (a.put o.dst (.agg (cellsC L).toArray)) w) : if Region.wanted o (yielded ops a.tmps) = true then Oper.wp Try.prog o a w K Q else E := by
  have hw : Region.wanted o (yielded ops a.tmps) = true := by simp [Region.wanted, hgd]
  rw [if_pos hw]
  exact wp_load_row 45 x ho g hx _ _ (0, 0) _ hg Try.underlying45 rfl (by rw [ctx_size hL]; exact rsize_ctx) h
theorem rstep_store_ctx {ops : Array Oper} {o : Oper} {a : Act} {w : World} {K : Act → World → Prop} {Q : Exit → Act → World → Prop} {E : Prop} (hgd : o.guard = none) (x y : Operand) (ho : o.op = .store 45 x y)
    (g : Nat) (L M : List Cp) (hx : a.eval x = .pointer (some ⟨g, 0, none⟩)) (hy : a.eval y = .agg (cellsC M).toArray) (hg : RtxAt w g L) (hL : L.length = 33) (hM : M.length = 33)
    (h : ∀ W', StoredR w W' g M → K (a.put o.dst undef) W') : if Region.wanted o (yielded ops a.tmps) = true then Oper.wp Try.prog o a w K Q else E := by
  have hw : Region.wanted o (yielded ops a.tmps) = true := by simp [Region.wanted, hgd]
  rw [if_pos hw]
  exact wp_store_row 45 x y ho g _ hx hy _ _ hg (by rw [ctx_size hM]; exact rsize_ctx) (by rw [ctx_size hL, ctx_size hM]) (Array.all_eq_true_iff_forall_mem.2 fun v hv => cellsC_one M v (by simpa using hv)) (h _ (rstored_ctx hg))
theorem rret_ctx {fn : Func} {p : Tmp} (h : fn.results = #[.cell p 45]) (tmps : Array Value) (w : World) (g : Nat) (L : List Cp) (hp : tmps.getD p undef = .pointer (some ⟨g, 0, none⟩)) (hg : RtxAt w g L) (hL : L.length = 33) : (results fn tmps).run Try.prog w = .ok (.agg (cellsC L).toArray) w :=
  results_cell_row h tmps w g _ _ (0, 0) _ hp hg Try.underlying45 rfl (by rw [ctx_size hL]; exact rsize_ctx)
theorem rret_ctx_t {fn : Func} {p t : Tmp} (h : fn.results = #[.cell p 45, .tmp t]) (tmps : Array Value) (w : World) (g : Nat) (L : List Cp) (v : Value) (hp : tmps.getD p undef = .pointer (some ⟨g, 0, none⟩)) (ht : tmps.getD t undef = v) (hg : RtxAt w g L) (hL : L.length = 33) : (results fn tmps).run Try.prog w = .ok (.tuple #[.agg (cellsC L).toArray, v]) w := by
  have hp' : tmps[p]?.getD undef = .pointer (some ⟨g, 0, none⟩) := by simpa using hp
  have ht' : tmps[t]?.getD undef = v := by simpa using ht
  simp [results, h, hp', ht', asAddr, rload_ctx hg hL]
theorem rcap_size : Try.prog.cellsOf 42 = 3 := by kernel_rfl
theorem rkey_cap (d : Nat) (c : Cp) : ∃ l, Try.prog.keyLits (d + 1 + 1) 42 (encC c) = some l := by
  have w1 := wf_U c.m
  have w2 := wf_U c.a
  have s1 : Try.prog.cellsOf 4 = 1 := by kernel_rfl
  have s2 : Try.prog.cellsOf 22 = 1 := by kernel_rfl
  refine ⟨[.bool c.g, .int .u64 (U c.m), .int .u64 (U c.a)], ?_⟩
  simp [Program.keyLits, Try.underlying42, Try.underlying4, Try.underlying22, rcap_size, encC, s1, s2, w1, w2]
theorem rkey_arr (d : Nat) (L : List Cp) (hL : L.length = 33) : ∃ l, Try.prog.keyLits (d + 1 + 1 + 1) 43 ((cellsC L).take 96) = some l := by
  have s1 : Try.prog.cellsOf 43 = 96 := by kernel_rfl
  have hlen : ((cellsC L).take 96).length = 96 := by rw [List.length_take, cellsC_len, hL]; rfl
  obtain ⟨ys, hys⟩ := mapM_some (fun i => Try.prog.keyLits (d + 1 + 1) 42 ((((cellsC L).take 96).drop (i * 3)).take 3)) (List.range 32) (fun i hi => by
    have hi' : i < 32 := by simpa using hi
    have e : (((cellsC L).take 96).drop (i * 3)).take 3 = encC (capAt L i) := by
      rw [List.drop_take, List.take_take, Nat.min_eq_left (by omega), cells_part L i (by omega)]
    show ∃ y, Try.prog.keyLits (d + 1 + 1) 42 ((((cellsC L).take 96).drop (i * 3)).take 3) = some y
    rw [e]
    exact rkey_cap d (capAt L i))
  refine ⟨ys.flatten, ?_⟩
  unfold Program.keyLits
  rw [Try.underlying43]
  dsimp only
  rw [if_pos (by rw [s1, hlen]), rcap_size, hys]
  rfl
theorem rkey_ctx (d : Nat) (L : List Cp) (hL : L.length = 33) : ∃ l, Try.prog.keyLits (d + 1 + 1 + 1 + 1) 45 (cellsC L) = some l := by
  have s1 : Try.prog.cellsOf 43 = 96 := by kernel_rfl
  have s2 : Try.prog.cellsOf 45 = 99 := by kernel_rfl
  obtain ⟨l1, h1⟩ := rkey_arr d L hL
  obtain ⟨l2, h2⟩ := rkey_cap (d + 1) (capAt L 32)
  have e2 : ((cellsC L).drop 96).take 3 = encC (capAt L 32) := cells_part L 32 (by omega)
  have hlen : (cellsC L).length = 99 := cellsC_99 hL
  refine ⟨l1 ++ l2, ?_⟩
  unfold Program.keyLits
  rw [Try.underlying45]
  dsimp only
  rw [if_pos ⟨by rw [s2, hlen], by decide +kernel⟩]
  simp [s1, s2, rcap_size, h1, e2, h2]
theorem rctx_eql (L : List Cp) (hL : L.length = 33) (w : World) : (binOp .eql 45 (.agg (cellsC L).toArray) (.agg (cellsC L).toArray)).run Try.prog w = .ok (.bool true) w := by
  obtain ⟨la, hla⟩ := rkey_ctx 0 L hL
  have s2 : Try.prog.cellsOf 45 = 99 := by kernel_rfl
  have hf : (Value.agg (cellsC L).toArray).formed Try.prog 45 = true := by
    simp [Value.formed, Try.underlying45, s2, cellsC_99 hL]
  obtain ⟨r, hr, hiff⟩ := run_equalIn_deep (P := Try.prog) 9996 4 45 (by decide +kernel) w 4 4 (.agg (cellsC L).toArray) (.agg (cellsC L).toArray) la la hf hf (by simpa [Value.cells] using hla) (by simpa [Value.cells] using hla)
  have hrt : r = true := hiff.2 rfl
  rw [hrt] at hr
  rw [run_eql_struct, show (10000 : Nat) = 9996 + 4 from rfl, hr]
  rfl
theorem rwpQuiet_load_ctx {ops : Array Oper} {C : World → Prop} {Q : Act → Prop} {a : Act} {o : Oper} {rest : List Oper} (hw : Region.wanted o (yielded ops a.tmps) = true) (x : Operand) (ho : o.op = .load 45 x) (g : Nat) (hx : a.eval x = .pointer (some ⟨g, 0, none⟩)) (L : List Cp) (hC : ∀ W, C W → RtxAt W g L) (hL : L.length = 33)
    (h : wpQuiet Try.prog ops C Q rest (a.put o.dst (.agg (cellsC L).toArray))) : wpQuiet Try.prog ops C Q (o :: rest) a := by
  unfold wpQuiet
  rw [if_pos hw]
  refine ⟨_, fun w hw' => ?_, h⟩
  unfold Oper.quietAt execOp
  simp only [ho, hx, Instr.loadAt, Instr.sureAddr, Sem.run_bind, Sem.run_pure, Result.andThen_ok, rload_ctx (hC w hw') hL]
  exact ⟨rfl, rfl⟩
theorem rcap_stood : Try.prog.stoodInHeld 42 = false := by kernel_rfl
theorem rcap_guard : Try.prog.eqGuardType Try.prog.depth 42 = false := by kernel_rfl
theorem rctx_guard : Try.prog.eqGuardType Try.prog.depth 45 = false := by kernel_rfl
theorem rcap_eql (g h : Bool) (a b a' b' : BitVec 64) (w : World) : (binOp .eql 42 (.agg #[.bool g, .int .u64 (U a), .int .u64 (U b)]) (.agg #[.bool h, .int .u64 (U a'), .int .u64 (U b')])).run Try.prog w = .ok (.bool (g == h && a == a' && b == b')) w := by
  have hs := rcap_stood
  rw [run_eql_struct]
  rw [show (10000 : Nat) = 9998 + 1 + 1 from rfl, run_equalIn_struct _ _ _ _ _ Try.underlying42 hs]
  simp [go_sem, Try.underlying42]
  cases g <;> cases h <;> by_cases h1 : a = a' <;> by_cases h2 : b = b' <;> simp [h1, h2]
theorem Stored.rtx {W W' : World} {g q : Nat} {M L : List Cp} (h : Stored W W' g M) (hq : RtxAt W q L) (hne : q ≠ g) : RtxAt W' q L := (h.same q hne).trans hq
theorem StoredR.ctx {W W' : World} {g q : Nat} {M L : List Cp} (h : StoredR W W' g M) (hq : CtxAt W q L) (hne : q ≠ g) : CtxAt W' q L := (h.same q hne).trans hq
theorem setR_len (L : List Cp) (k : Nat) (c : Cp) (hL : L.length = 33) : (L.set k c).length = 33 := by rw [List.length_set]; exact hL
end Go.Proofs.Ytpjcijmdoofcbaa
