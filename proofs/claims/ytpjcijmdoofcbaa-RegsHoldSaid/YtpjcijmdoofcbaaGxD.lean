
/-
  regs.Swept.
-/
import Derived.Test.YtpjcijmdoofcbaaGxC
import Derived.BigRegion
import Derived.Deep.RegionLaw
import Derived.Stop.RegionWithIn
namespace Go.Proofs.Ytpjcijmdoofcbaa
open Go Go.RowKit Go.Shelf
set_option linter.unusedVariables false
set_option linter.unusedSimpArgs false
attribute [local go_sem] Oper.semAt_some
attribute [local irreducible] zeroL cellsC

theorem gone_nil (f : Fn) (a b : Array Value) (w : World) : (binOp .eql 35 (.func f a b) Value.nilFunc).run Try.prog w = .ok (.bool false) w := by kernel_rfl
attribute [go_sem 3000] gone_nil
/-- What is left of a context behind some registers; how many went. -/
def sweptL (p : BitVec 64 → Bool) (L : List Cp) (ks : List Nat) : List Cp := ks.foldl (fun M k => if p (baseF (capAt L k)) = true then M.set k ⟨false, (capAt L k).m, (capAt L k).a⟩ else M) L
def sweptN (p : BitVec 64 → Bool) (L : List Cp) (ks : List Nat) : Nat := (ks.filter fun k => p (baseF (capAt L k))).length
theorem sweptL_snoc (p : BitVec 64 → Bool) (L : List Cp) (ks : List Nat) (k : Nat) : sweptL p L (ks ++ [k]) = if p (baseF (capAt L k)) = true then (sweptL p L ks).set k ⟨false, (capAt L k).m, (capAt L k).a⟩ else sweptL p L ks := by
  unfold sweptL
  rw [List.foldl_append]
  rfl
theorem sweptN_snoc (p : BitVec 64 → Bool) (L : List Cp) (ks : List Nat) (k : Nat) : sweptN p L (ks ++ [k]) = if p (baseF (capAt L k)) = true then sweptN p L ks + 1 else sweptN p L ks := by
  unfold sweptN
  rw [List.filter_append, List.length_append]
  cases h : p (baseF (capAt L k)) <;> simp [h]
theorem sweptL_len (p : BitVec 64 → Bool) (L : List Cp) (ks : List Nat) : (sweptL p L ks).length = L.length := by
  unfold sweptL
  have : ∀ (ks : List Nat) (M : List Cp), (ks.foldl (fun M k => if p (baseF (capAt L k)) = true then M.set k ⟨false, (capAt L k).m, (capAt L k).a⟩ else M) M).length = M.length := by
    intro ks
    induction ks with
    | nil => intro M; rfl
    | cons k ks ih =>
      intro M
      rw [List.foldl_cons, ih]
      split
      · rw [List.length_set]
      · rfl
  exact this ks L
theorem sweptN_len (p : BitVec 64 → Bool) (L : List Cp) (ks : List Nat) : sweptN p L ks ≤ ks.length := List.length_filter_le _ _
def keepsB (Bs : Nat) (A B : World) : Prop := B.heap[Bs]? = A.heap[Bs]?
theorem keepsB_b {Bs : Nat} {w : World} (hB : Bs < w.heap.size) (W : World) (l : Nat) (o o' : Obj) (hl : w.heap.size ≤ l) (_ : W.heap[l]? = some o) (_ : o.isCells = false) (_ : o.isWalk = false) : keepsB Bs W (W.putObj l o') := World.putObj_heap_other (by omega)
theorem tagged_stops (F : Fence) (n : Nat) (hf : F.fn 26) (hro : F.round = none) (hn : 1 ≤ n) (Bs : Nat) (L : List Cp) (hL : L.length = 33) (w : World) (hBs : Bs < w.heap.size) (hc : CtxAt w Bs L) :
    SeqStopsK F n Try.prog 26 #[.pointer (some ⟨Bs, 0, none⟩)] (fun x => argsC L (cl x)) (keepsB Bs) (fun ys => ys = tagsTo L 33) (fun pre => ∃ k, k < 33 ∧ tg L k = true ∧ pre = tagsTo L k ++ [k]) 33 w := fun l J Jx W hW _ _ hY h0 => by
  have hc' := hc.below hW hBs
  refine (tagged1_in F n hf hro hn l Bs L hL J Jx (fun pre q W h1 h2 hJ hlen => by have h3 : YieldAt F (n - 1) Try.prog l (argsC L (cl q)) W _ := hY pre q W hJ hlen; rw [cl_eq h1 h2] at h3; exact h3) W hc' h0).mono ?_
  rintro e W' ⟨he, hj | ⟨k, hk, hbit, hj⟩⟩
  · exact ⟨he, .inl ⟨_, rfl, hj⟩⟩
  · exact ⟨he, .inr ⟨_, ⟨k, hk, hbit, rfl⟩, hj⟩⟩
/-- What stands in a round: what the loop writes, and what it reads. -/
structure SwI (p : BitVec 64 → Bool) (G : Value) (L : List Cp) (w : World) (q : Nat) (pre : List Nat) (W : World) : Prop where
  out : CtxAt W (q + 1 + 1 + 1) (sweptL p L pre)
  cnt : Boxed W (q + 1 + 1 + 1 + 1) 3 (.int .i64 (sweptN p L pre : Int))
  gone : Boxed W (q + 1) 35 G
  zero : CtxAt W (q + 1 + 1) zeroL
  src : CtxAt W (q + 1 + 1 + 1 + 1 + 1) L
  below : Below w.heap.size w W
theorem ctx_own {B : Nat} (g : Nat) (f : List Nat → List Cp) : OwnFrom B (fun s W => CtxAt W g (f s)) := fun s X Y row hs hg hr => by
  refine (hg.block g hs.lt (fun e => ?_)).trans hs
  obtain ⟨_, o, ho, hc⟩ := hr g e.symm
  rw [show X.heap[g]? = _ from hs] at ho
  cases ho
  cases hc
theorem SwI.keep {p : BitVec 64 → Bool} {G : Value} {L : List Cp} {w W W' : World} {q : Nat} {pre : List Nat} (h : SwI p G L w q pre W) (hb : Below W.heap.size W W') : SwI p G L w q pre W' :=
  ⟨h.out.below hb h.out.lt, (hb.block _ h.cnt.lt).trans h.cnt, (hb.block _ h.gone.lt).trans h.gone, h.zero.below hb h.zero.lt, h.src.below hb h.src.lt, h.below.trans (hb.mono h.below.size)⟩
theorem box_other {W : World} {B : Nat} {t : TypeId} {v : Value} (h : Boxed W B t v) (a : Addr) (u : Value) (ha : B ≠ a.block) : Boxed (W.setCell a u) B t v := by
  unfold Boxed World.setCell
  simp only [Array.getElem?_modify]
  rw [if_neg (fun e => ha e.symm)]
  exact h
theorem SwI.skip {p : BitVec 64 → Bool} {G : Value} {L : List Cp} {w W : World} {q k : Nat} {pre : List Nat} (h : SwI p G L w q pre W) (hp : p (baseF (capAt L k)) = false) : SwI p G L w q (pre ++ [k]) W := by
  have e1 := sweptL_snoc p L pre k
  have e2 := sweptN_snoc p L pre k
  rw [hp] at e1 e2
  exact ⟨by rw [e1]; exact h.out, by rw [e2]; exact h.cnt, h.gone, h.zero, h.src, h.below⟩
theorem SwI.hit {p : BitVec 64 → Bool} {G : Value} {L : List Cp} {w W W5 : World} {q k : Nat} {pre : List Nat} (h : SwI p G L w q pre W) (hq : w.heap.size ≤ q) (hp : p (baseF (capAt L k)) = true) (hk : k < L.length)
    (hb5 : Below (W.setCell ⟨q + 1 + 1 + 1 + 1, 0, none⟩ (.int .i64 ((sweptN p L pre : Int) + 1))).heap.size (W.setCell ⟨q + 1 + 1 + 1 + 1, 0, none⟩ (.int .i64 ((sweptN p L pre : Int) + 1))) W5) :
    SwI p G L w q (pre ++ [k]) (((W5.setCell ⟨q + 1 + 1 + 1, k * 3, none⟩ (.bool false)).setCell ⟨q + 1 + 1 + 1, k * 3 + 1, none⟩ (.int .u64 (U (capAt L k).m))).setCell ⟨q + 1 + 1 + 1, k * 3 + 2, none⟩ (.int .u64 (U (capAt L k).a))) := by
  have e1 := sweptL_snoc p L pre k
  have e2 := sweptN_snoc p L pre k
  rw [if_pos hp] at e1 e2
  have n1 := h.out.lt
  have n2 := h.cnt.lt
  have n3 := h.gone.lt
  have n4 := h.zero.lt
  have n5 := h.src.lt
  have o5 : CtxAt W5 (q + 1 + 1 + 1) (sweptL p L pre) := (h.out.other _ _ (show q + 1 + 1 + 1 ≠ q + 1 + 1 + 1 + 1 by omega)).below hb5 (by simpa using n1)
  have c5 : Boxed W5 (q + 1 + 1 + 1 + 1) 3 (.int .i64 ((sweptN p L pre : Int) + 1)) := (hb5.block _ (by simpa using n2)).trans (Boxed.set _ h.cnt)
  have g5 : Boxed W5 (q + 1) 35 G := (hb5.block _ (by simpa using n3)).trans (box_other h.gone _ _ (show q + 1 ≠ q + 1 + 1 + 1 + 1 by omega))
  have z5 : CtxAt W5 (q + 1 + 1) zeroL := (h.zero.other _ _ (show q + 1 + 1 ≠ q + 1 + 1 + 1 + 1 by omega)).below hb5 (by simpa using n4)
  have s5 : CtxAt W5 (q + 1 + 1 + 1 + 1 + 1) L := (h.src.other _ _ (show q + 1 + 1 + 1 + 1 + 1 ≠ q + 1 + 1 + 1 + 1 by omega)).below hb5 (by simpa using n5)
  have b5 : Below w.heap.size w W5 := (h.below.setCell (show w.heap.size ≤ (⟨q + 1 + 1 + 1 + 1, 0, none⟩ : Addr).block by show _ ≤ q + 1 + 1 + 1 + 1; omega) _).trans (hb5.mono (by have := h.below.size; simpa using this))
  refine ⟨?_, ?_, ?_, ?_, ?_, ?_⟩
  · rw [e1]
    exact o5.set k ⟨false, (capAt L k).m, (capAt L k).a⟩ (by rw [sweptL_len]; exact hk)
  · rw [e2, show ((sweptN p L pre + 1 : Nat) : Int) = (sweptN p L pre : Int) + 1 by omega]
    exact box_other (box_other (box_other c5 _ _ (show q + 1 + 1 + 1 + 1 ≠ q + 1 + 1 + 1 by omega)) _ _ (show q + 1 + 1 + 1 + 1 ≠ q + 1 + 1 + 1 by omega)) _ _ (show q + 1 + 1 + 1 + 1 ≠ q + 1 + 1 + 1 by omega)
  · exact box_other (box_other (box_other g5 _ _ (show q + 1 ≠ q + 1 + 1 + 1 by omega)) _ _ (show q + 1 ≠ q + 1 + 1 + 1 by omega)) _ _ (show q + 1 ≠ q + 1 + 1 + 1 by omega)
  · exact ((z5.other _ _ (show q + 1 + 1 ≠ q + 1 + 1 + 1 by omega)).other _ _ (show q + 1 + 1 ≠ q + 1 + 1 + 1 by omega)).other _ _ (show q + 1 + 1 ≠ q + 1 + 1 + 1 by omega)
  · exact ((s5.other _ _ (show q + 1 + 1 + 1 + 1 + 1 ≠ q + 1 + 1 + 1 by omega)).other _ _ (show q + 1 + 1 + 1 + 1 + 1 ≠ q + 1 + 1 + 1 by omega)).other _ _ (show q + 1 + 1 + 1 + 1 + 1 ≠ q + 1 + 1 + 1 by omega)
  · have hh : w.heap.size ≤ q + 1 + 1 + 1 := by omega
    exact ((b5.setCell (show w.heap.size ≤ (⟨q + 1 + 1 + 1, k * 3, none⟩ : Addr).block from hh) _).setCell (show w.heap.size ≤ (⟨q + 1 + 1 + 1, k * 3 + 1, none⟩ : Addr).block from hh) _).setCell (show w.heap.size ≤ (⟨q + 1 + 1 + 1, k * 3 + 2, none⟩ : Addr).block from hh) _
theorem keepsO_below {W W' : World} (hb : Below W.heap.size W W') : KeepsOthers W W' := ⟨hb.size, fun k o hk _ => (hb.block k (Array.getElem?_eq_some_iff.1 hk).1).trans hk⟩
theorem keepsB_below {Bs : Nat} {W W' : World} (hB : Bs < W.heap.size) (hb : Below W.heap.size W W') : keepsB Bs W W' := hb.block Bs hB
theorem keepsB.tr {Bs : Nat} {A B C : World} (h : keepsB Bs A B) (k : keepsB Bs B C) : keepsB Bs A C := Eq.trans k h
theorem keepsB_set {Bs : Nat} {W : World} {a : Addr} (u : Value) (h : Bs ≠ a.block) : keepsB Bs W (W.setCell a u) := by
  unfold keepsB World.setCell
  simp only [Array.getElem?_modify]
  rw [if_neg (fun e => h e.symm)]
theorem KeepsOthers.tr {X Y Z : World} (h : KeepsOthers X Y) (k : KeepsOthers Y Z) : KeepsOthers X Z := ⟨Nat.le_trans h.size k.size, fun i o hi ho => k.same i o (h.same i o hi ho) ho⟩
theorem swI_own (p : BitVec 64 → Bool) (G : Value) (L : List Cp) (w : World) (q B : Nat) (hB : w.heap.size ≤ B) : OwnFrom B (SwI p G L w q) := fun s X Y row hs hg hr =>
  ⟨ctx_own _ (sweptL p L) s X Y row hs.out hg hr, Own.from (boxed_own _ _ (fun pre => .int .i64 (sweptN p L pre : Int))) B s X Y row hs.cnt hg hr, Own.from (boxed_own _ _ (fun _ => G)) B s X Y row hs.gone hg hr, ctx_own _ (fun _ => zeroL) s X Y row hs.zero hg hr, ctx_own _ (fun _ => L) s X Y row hs.src hg hr, ownFrom_below (Nat.le_refl _) hB s X Y row hs.below hg hr⟩
set_option maxHeartbeats 6000000 in
set_option maxRecDepth 100000 in
theorem swept_any (p : BitVec 64 → Bool) (gid : Nat) (caps : Array Value) (L : List Cp) (hL : L.length = 33) (w : World) (hen : ∀ (args : Array Value) (w : World), (callFunc gid args).run Try.prog w = .ok (.enter gid args) w) (hg : ∀ (b : BitVec 64) (W : World), Below w.heap.size w W → Calls Try.prog gid (#[.int .u64 (U b)] ++ caps) W fun e w' => e = .returned (.bool (p b)) ∧ Below W.heap.size W w') :
    Calls Try.prog 10 #[.agg (cellsC L).toArray, .func (.func gid) #[] caps] w fun e w' => e = .returned (.tuple #[.agg (cellsC (sweptL p L (tagsTo L 33))).toArray, .int .i64 (sweptN p L (tagsTo L 33) : Int)]) ∧ Below w.heap.size w w' := by
  have H0 : ∀ (T1 T2 T3 T4 : Obj), CtxAt (((((w.alloc (.cells (cellsC L).toArray 27)).alloc T1).alloc T2).alloc T3).alloc T4) w.heap.size L := fun T1 T2 T3 T4 => (((CtxAt.alloc (World.alloc_heap_new w _ : CtxAt _ _ _) T1).alloc T2).alloc T3).alloc T4
  have H2 : ∀ (T0 T1 T3 T4 : Obj), CtxAt (((((w.alloc T0).alloc T1).alloc (.cells (cellsC zeroL).toArray 27)).alloc T3).alloc T4) (w.heap.size + 1 + 1) zeroL := fun T0 T1 T3 T4 => by
    have h : CtxAt (((w.alloc T0).alloc T1).alloc (.cells (cellsC zeroL).toArray 27)) ((w.alloc T0).alloc T1).heap.size zeroL := World.alloc_heap_new _ _
    simp only [World.size_alloc] at h
    exact (h.alloc T3).alloc T4
  have H3 : ∀ (T0 T1 T2 T4 : Obj), CtxAt (((((w.alloc T0).alloc T1).alloc T2).alloc (.cells (cellsC zeroL).toArray 27)).alloc T4) (w.heap.size + 1 + 1 + 1) zeroL := fun T0 T1 T2 T4 => by
    have h : CtxAt ((((w.alloc T0).alloc T1).alloc T2).alloc (.cells (cellsC zeroL).toArray 27)) (((w.alloc T0).alloc T1).alloc T2).heap.size zeroL := World.alloc_heap_new _ _
    simp only [World.size_alloc] at h
    exact h.alloc T4
  have HP : ∀ (T1 T2 : Obj), CtxAt ((((w.alloc (.cells (cellsC L).toArray 27)).alloc T1).alloc T2)) w.heap.size L := fun T1 T2 => ((CtxAt.alloc (World.alloc_heap_new w _ : CtxAt _ _ _) T1).alloc T2)
  have HP0 := Lib.hid HP
  clear HP
  have H1 : ∀ (T0 T2 T3 T4 : Obj), Boxed (((((w.alloc T0).alloc (.cells #[.func (.func gid) #[] caps] 35)).alloc T2).alloc T3).alloc T4) (w.heap.size + 1) 35 (.func (.func gid) #[] caps) := fun T0 T2 T3 T4 => by
    have h := Boxed.new (w.alloc T0) 35 (.func (.func gid) #[] caps)
    simp only [World.size_alloc] at h
    exact ((h.alloc T2).alloc T3).alloc T4
  have H4 : ∀ (T0 T1 T2 T3 : Obj), Boxed (((((w.alloc T0).alloc T1).alloc T2).alloc T3).alloc (.cells #[.int .i64 0] 3)) (w.heap.size + 1 + 1 + 1 + 1) 3 (.int .i64 0) := fun T0 T1 T2 T3 => by
    have h := Boxed.new ((((w.alloc T0).alloc T1).alloc T2).alloc T3) 3 (.int .i64 0)
    simp only [World.size_alloc] at h
    exact h
  have HH1 := Lib.hid H1
  have HH4 := Lib.hid H4
  clear H1 H4
  have HH0 := Lib.hid H0
  have HH2 := Lib.hid H2
  have HH3 := Lib.hid H3
  have HG := Lib.hid hg
  clear H0 H2 H3 hg
  refine (callsIn_wide (n := 3)).1 (callsIn_of_wp_marks Try.func10 rfl trivial ?_ rfl)
  refine wpIn_wide.2 ?_
  simp only [Try.ntmps10, List.size_toArray, List.length_cons, List.length_nil, Nat.reduceAdd, Nat.reduceSub, Array.replicate_succ, Array.replicate_zero, List.push_toArray, List.append_toArray, List.nil_append, List.cons_append]
  go_upto_region 1 with (fail)
  go_wp2_with (first | (refine wpList_load_ctx rfl _ rfl w.heap.size rfl L ?_ hL ?_; (focus (first | exact CtxAt.other HST.out.1 ⟨w.heap.size + 1 + 1 + 1 + 1, 0, none⟩ _ (show w.heap.size ≠ w.heap.size + 1 + 1 + 1 + 1 by omega) | exact HP0.out _ _))) | (refine wpList_store_ctx rfl _ _ rfl (w.heap.size + 1 + 1 + 1) zeroL L rfl rfl ?_ zeroL_len hL ?_; (focus exact HH3.out _ _ _ _); intro w1 hst; have s1 := hst.cell (w.heap.size + 1) 0 (by omega); have s4 := hst.cell (w.heap.size + 1 + 1 + 1 + 1) 0 (by omega); have f4 := hst.frozen (w.heap.size + 1 + 1 + 1 + 1) 0 (by omega); have hsz := hst.size; (try simp only [World.size_alloc] at hsz); have HBX := Lib.hid (And.intro (show Boxed w1 (w.heap.size + 1) 35 (.func (.func gid) #[] caps) from (hst.same _ (by omega)).trans (HH1.out _ _ _ _)) (show Boxed w1 (w.heap.size + 1 + 1 + 1 + 1) 3 (.int .i64 0) from (hst.same _ (by omega)).trans (HH4.out _ _ _ _))); have HST := Lib.hid (And.intro (hst.ctx (HH0.out _ _ _ _) (by omega)) (And.intro (hst.ctx (HH2.out _ _ _ _) (by omega)) (And.intro hst.at_ (hst.below (B := w.heap.size) (w := w) (by (repeat (first | with_reducible exact Below.refl _ _ | with_reducible assumption | with_reducible refine below_drewN ?_ _ | with_reducible refine Below.drew ?_ | with_reducible refine below_alloc ?_ _ | (with_reducible refine Below.setCell ?_ (by first | (simp; done) | omega | (simp; omega)) _) | with_reducible refine belows ?_ (by assumption)))) (by omega))))); clear hst) | (go_at_call 6; refine (tagged_any L _).mono ?_; rintro e w2 ⟨rfl, rfl⟩))
  obtain ⟨W6, hW6⟩ : ∃ W6, W6 = (w1.setCell ⟨w.heap.size + 1 + 1 + 1 + 1, 0, none⟩ (.int .i64 0)).alloc (.cells (cellsC L).toArray 27) := ⟨_, rfl⟩
  have hs6 : W6.heap.size = w.heap.size + 1 + 1 + 1 + 1 + 1 + 1 := by rw [hW6]; simp; omega
  have hI0 : SwI p (.func (.func gid) #[] caps) L w w.heap.size [] W6 := by
    rw [hW6]
    refine ⟨CtxAt.alloc (CtxAt.other HST.out.2.2.1 _ _ (show w.heap.size + 1 + 1 + 1 ≠ w.heap.size + 1 + 1 + 1 + 1 by omega)) _, (Boxed.set _ HBX.out.2).alloc _, (HBX.out.1.other (by omega) _).alloc _, CtxAt.alloc (CtxAt.other HST.out.2.1 _ _ (show w.heap.size + 1 + 1 ≠ w.heap.size + 1 + 1 + 1 + 1 by omega)) _, ?_, (HST.out.2.2.2.setCell (show w.heap.size ≤ (⟨w.heap.size + 1 + 1 + 1 + 1, 0, none⟩ : Addr).block by show _ ≤ _ + 1; omega) _).alloc (by simp; omega) _⟩
    have h : CtxAt ((w1.setCell ⟨w.heap.size + 1 + 1 + 1 + 1, 0, none⟩ (.int .i64 0)).alloc (.cells (cellsC L).toArray 27)) (w1.setCell ⟨w.heap.size + 1 + 1 + 1 + 1, 0, none⟩ (.int .i64 0)).heap.size L := World.alloc_heap_new _ _
    rw [World.size_setCell, hsz] at h
    exact h
  rw [← hW6]
  clear hW6 s1 s4 f4 hsz HBX HST HH0 HH1 HH2 HH3 HH4 HP0
  refine (wpIn_wide (n := 3)).1 ?_
  refine wpIn_rangeFunc_ownH rfl (by omega) (gf := 26) (lb := #[.pointer (some ⟨w.heap.size + 1 + 1 + 1 + 1 + 1, 0, none⟩)]) rfl trivial (enters_of Try.func26 (by kernel_rfl) rfl)
    (tagged_stops Fence.wide (3 - 1) trivial rfl (by omega) (w.heap.size + 1 + 1 + 1 + 1 + 1) L hL W6 (by omega) hI0.src) (fun h k => Eq.trans k h) (keepsB_b (by omega)) (Below.refl _ _) (fun _ => rfl)
    (fun pre W => SwI p (.func (.func gid) #[] caps) L w w.heap.size (pre.map cl) W) (fun _ _ _ => False) (fun s X Y row hs hg hr => swI_own p _ L w w.heap.size W6.heap.size (by omega) (s.map cl) X Y row hs hg hr) (fun c s X Y row hs _ _ => hs.elim) hI0
    (fun x a' W => ∃ b, W6.heap.size ≤ b ∧ a' = { tmps := #[.agg (cellsC L).toArray, .func (.func gid) #[] caps, .pointer (some ⟨w.heap.size, 0, none⟩), .pointer (some ⟨w.heap.size + 1, 0, none⟩), .pointer (some ⟨w.heap.size + 1 + 1, 0, none⟩), .int .i64 0, .pointer (some ⟨w.heap.size + 1 + 1 + 1, 0, none⟩), .pointer (some ⟨w.heap.size + 1 + 1 + 1 + 1, 0, none⟩), .int .i64 (cl x : Int), .pointer (some ⟨b, 0, none⟩), .agg (cellsC L).toArray, .func (.func gid) #[] caps, .bool false, undef, undef, .agg (cellsC L).toArray, .func (.func 26) #[] #[.pointer (some ⟨w.heap.size + 1 + 1 + 1 + 1 + 1, 0, none⟩)], .int .i64 (cl x : Int), .agg #[.bool true, .int .u64 (U (capAt L (cl x)).m), .int .u64 (U (capAt L (cl x)).a)], undef, undef, undef, undef, undef, undef, undef, undef, undef, undef, undef, undef, undef, undef, undef, undef, undef, undef, undef], defers := [] } ∧ W.heap[b]? = some (.cells #[.bool true, .int .u64 (U (capAt L (cl x)).m), .int .u64 (U (capAt L (cl x)).a)] 24 (0, 0)))
    (fun x a' s X Y row hs hg hr => by
      obtain ⟨b, hb, ha, hX⟩ := hs
      refine ⟨b, hb, ha, (hg.block b (Array.getElem?_eq_some_iff.1 hX).1 (fun e => ?_)).trans hX⟩
      obtain ⟨_, o, ho, hc⟩ := hr b e.symm
      rw [hX] at ho
      cases ho
      cases hc) ?assign ?body ?done ?stop
  case assign =>
    intro l pre x W K hI hK
    unfold argsC
    gi_wp2
    have hlt := hI.src.lt
    exact hK _ _ ⟨by simp, fun k o _ hk _ => (heap_alloc_old W _ (Array.getElem?_eq_some_iff.1 hk).1).trans hk⟩ (heap_alloc_old W _ hlt) (hI.keep ((Below.refl _ W).alloc (Nat.le_refl _) _)) ⟨W.heap.size, by omega, rfl, World.alloc_heap_new _ _⟩
  case body =>
    rintro l pre x a' W hl hlr hI ⟨b, hb, rfl, hbc⟩ hlen
    obtain ⟨k1, k2⟩ := cl_in x
    obtain ⟨kk, hkk⟩ : ∃ kk, kk = cl x := ⟨_, rfl⟩
    rw [← hkk] at hbc k1 k2 ⊢
    have hsn : (pre ++ [x]).map cl = pre.map cl ++ [kk] := by rw [List.map_append, hkk]; rfl
    have HSN := Lib.hid hsn
    clear hsn hkk
    have c0 : W.cell? ⟨b, 0, none⟩ = some (.bool true) := (cell_of_row W b 0 _ _ _ hbc).trans rfl
    have c1 : W.cell? ⟨b, 1, none⟩ = some (.int .u64 (U (capAt L kk).m)) := (cell_of_row W b 1 _ _ _ hbc).trans rfl
    have c2 : W.cell? ⟨b, 2, none⟩ = some (.int .u64 (U (capAt L kk).a)) := (cell_of_row W b 2 _ _ _ hbc).trans rfl
    have hbW : b < W.heap.size := (Array.getElem?_eq_some_iff.1 hbc).1
    have g0 := hI.gone.cell
    have hgW := hI.gone.lt
    have HIh := Lib.hid hI
    have hbw := hI.below
    have cb : ∀ W' : World, CallsIn (Fence.wide.inRound l) 0 Try.prog 28 #[.agg #[.bool true, .int .u64 (U (capAt L kk).m), .int .u64 (U (capAt L kk).a)]] W' fun e w' => e = .returned (.int .u64 (U (baseF (capAt L kk)))) ∧ Below W'.heap.size W' w' := fun W' => (callsIn_wide.2 (base_any ⟨true, (capAt L kk).m, (capAt L kk).a⟩ W')).inRound l
    have hnn : sweptN p L (pre.map cl) ≤ 33 := by have := sweptN_len p L (pre.map cl); rw [List.length_map] at this; omega
    have fb : Fence.wide.fn 28 := trivial
    have fc : Fence.wide.fn 13 := trivial
    have fg : Fence.wide.fn gid := trivial
    cases hp : p (baseF (capAt L kk))
    · have cg : ∀ W' : World, Below w.heap.size w W' → CallsIn (Fence.wide.inRound l) 0 Try.prog gid (#[.int .u64 (U (baseF (capAt L kk)))] ++ caps) W' fun e w' => e = .returned (.bool false) ∧ Below W'.heap.size W' w' := fun W' h => by
        have := HG.out (baseF (capAt L kk)) W' h
        rw [hp] at this
        exact (callsIn_wide.2 this).inRound l
      gi_wp2_with fail
      gi_region_with (first | (refine (cb _).mono ?_; rintro e w3 ⟨rfl, hb3⟩; have hb3' : Below W.heap.size W w3 := ((Below.refl W.heap.size W).drew).trans hb3; have y0 := (hb3'.cell (p := ⟨w.heap.size + 1, 0, none⟩) hgW).trans g0; have y1 : Below w.heap.size w w3 := hbw.trans (hb3'.mono hbw.size)) | (refine (cg _ y1).mono ?_; rintro e w4 ⟨rfl, hb4⟩; have hb4' : Below W.heap.size W w4 := hb3'.trans (hb4.mono hb3'.size)))
      all_goals gi_wp2_with fail
      all_goals exact ⟨(keepsO_below hb4').from _, keepsB_below HIh.out.src.lt hb4', by show SwI _ _ _ _ _ ((pre ++ [x]).map cl) _; rw [HSN.out]; exact (HIh.out.keep hb4').skip hp⟩
    · have cg : ∀ W' : World, Below w.heap.size w W' → CallsIn (Fence.wide.inRound l) 0 Try.prog gid (#[.int .u64 (U (baseF (capAt L kk)))] ++ caps) W' fun e w' => e = .returned (.bool true) ∧ Below W'.heap.size W' w' := fun W' h => by
        have := HG.out (baseF (capAt L kk)) W' h
        rw [hp] at this
        exact (callsIn_wide.2 this).inRound l
      have cc : ∀ W' : World, CallsIn (Fence.wide.inRound l) 0 Try.prog 13 #[.agg #[.bool true, .int .u64 (U (capAt L kk).m), .int .u64 (U (capAt L kk).a)]] W' fun e w' => e = .returned (.agg #[.bool false, .int .u64 (U (capAt L kk).m), .int .u64 (U (capAt L kk).a)]) ∧ Below W'.heap.size W' w' := fun W' => (callsIn_wide.2 (clear_any ⟨true, (capAt L kk).m, (capAt L kk).a⟩ W')).inRound l
      by_cases k32 : kk = 32
      · subst k32
        gi_wp2_with fail
        gi_region_with (first | (refine (cb _).mono ?_; rintro e w3 ⟨rfl, hb3⟩; have hb3' : Below W.heap.size W w3 := ((Below.refl W.heap.size W).drew).trans hb3; have y0 := (hb3'.cell (p := ⟨w.heap.size + 1, 0, none⟩) hgW).trans g0; have y1 : Below w.heap.size w w3 := hbw.trans (hb3'.mono hbw.size)) | (refine (cg _ y1).mono ?_; rintro e w4 ⟨rfl, hb4⟩; have hb4' : Below W.heap.size W w4 := hb3'.trans (hb4.mono hb3'.size); have d0 := (hb4'.cell (p := ⟨b, 0, none⟩) hbW).trans c0; have d1 := (hb4'.cell (p := ⟨b, 1, none⟩) hbW).trans c1; have d2 := (hb4'.cell (p := ⟨b, 2, none⟩) hbW).trans c2; have HI4 := Lib.hid (HIh.out.keep hb4'); have e0 := HI4.out.cnt.cell; have e1 := HI4.out.cnt.frozen))
        all_goals gi_wp2_with (first | (gi_at_call 13; refine (cc _).mono ?_; rintro e w5 ⟨rfl, hb5⟩; have HC5 := Lib.hid (CtxAt.below (CtxAt.other HI4.out.out ⟨w.heap.size + 1 + 1 + 1 + 1, 0, none⟩ _ (show w.heap.size + 1 + 1 + 1 ≠ w.heap.size + 1 + 1 + 1 + 1 by omega)) hb5 (by have := HI4.out.out.lt; simpa using this)); obtain ⟨z0, z1, z2⟩ := HC5.out.cells 32 _ (capAt_get _ _ (by rw [sweptL_len]; omega)); have f0 := HC5.out.frozen (32 * 3); have f1 := HC5.out.frozen (32 * 3 + 1); have f2 := HC5.out.frozen (32 * 3 + 2)))
        all_goals exact ⟨(KeepsOthers.tr (KeepsOthers.tr (KeepsOthers.tr (KeepsOthers.tr (KeepsOthers.tr (keepsO_below hb4') (KeepsOthers.setCell _ _ _)) (keepsO_below hb5)) (KeepsOthers.setCell _ _ _)) (KeepsOthers.setCell _ _ _)) (KeepsOthers.setCell _ _ _)).from _, ((((((keepsB_below HIh.out.src.lt hb4').tr (keepsB_set _ (show w.heap.size + 1 + 1 + 1 + 1 + 1 ≠ w.heap.size + 1 + 1 + 1 + 1 by omega))).tr (keepsB_below (by have := HI4.out.src.lt; simpa using this) hb5)).tr (keepsB_set _ (show w.heap.size + 1 + 1 + 1 + 1 + 1 ≠ w.heap.size + 1 + 1 + 1 by omega))).tr (keepsB_set _ (show w.heap.size + 1 + 1 + 1 + 1 + 1 ≠ w.heap.size + 1 + 1 + 1 by omega))).tr (keepsB_set _ (show w.heap.size + 1 + 1 + 1 + 1 + 1 ≠ w.heap.size + 1 + 1 + 1 by omega))), by show SwI _ _ _ _ _ ((pre ++ [x]).map cl) _; rw [HSN.out]; exact HI4.out.hit (Nat.le_refl _) hp (by omega) hb5⟩
      · have k33 : ((kk : Int) == 32) = false := by rw [beq_eq_false_iff_ne]; omega
        have k34 : kk < 32 := by omega
        gi_wp2_with fail
        gi_region_with (first | (refine (cb _).mono ?_; rintro e w3 ⟨rfl, hb3⟩; have hb3' : Below W.heap.size W w3 := ((Below.refl W.heap.size W).drew).trans hb3; have y0 := (hb3'.cell (p := ⟨w.heap.size + 1, 0, none⟩) hgW).trans g0; have y1 : Below w.heap.size w w3 := hbw.trans (hb3'.mono hbw.size)) | (refine (cg _ y1).mono ?_; rintro e w4 ⟨rfl, hb4⟩; have hb4' : Below W.heap.size W w4 := hb3'.trans (hb4.mono hb3'.size); have d0 := (hb4'.cell (p := ⟨b, 0, none⟩) hbW).trans c0; have d1 := (hb4'.cell (p := ⟨b, 1, none⟩) hbW).trans c1; have d2 := (hb4'.cell (p := ⟨b, 2, none⟩) hbW).trans c2; have HI4 := Lib.hid (HIh.out.keep hb4'); have e0 := HI4.out.cnt.cell; have e1 := HI4.out.cnt.frozen))
        all_goals gi_wp2_with (first | (gi_at_call 13; refine (cc _).mono ?_; rintro e w5 ⟨rfl, hb5⟩; have HC5 := Lib.hid (CtxAt.below (CtxAt.other HI4.out.out ⟨w.heap.size + 1 + 1 + 1 + 1, 0, none⟩ _ (show w.heap.size + 1 + 1 + 1 ≠ w.heap.size + 1 + 1 + 1 + 1 by omega)) hb5 (by have := HI4.out.out.lt; simpa using this)); obtain ⟨z0, z1, z2⟩ := HC5.out.cells kk _ (capAt_get _ _ (by rw [sweptL_len]; omega)); have f0 := HC5.out.frozen (kk * 3); have f1 := HC5.out.frozen (kk * 3 + 1); have f2 := HC5.out.frozen (kk * 3 + 2)))
        all_goals exact ⟨(KeepsOthers.tr (KeepsOthers.tr (KeepsOthers.tr (KeepsOthers.tr (KeepsOthers.tr (keepsO_below hb4') (KeepsOthers.setCell _ _ _)) (keepsO_below hb5)) (KeepsOthers.setCell _ _ _)) (KeepsOthers.setCell _ _ _)) (KeepsOthers.setCell _ _ _)).from _, ((((((keepsB_below HIh.out.src.lt hb4').tr (keepsB_set _ (show w.heap.size + 1 + 1 + 1 + 1 + 1 ≠ w.heap.size + 1 + 1 + 1 + 1 by omega))).tr (keepsB_below (by have := HI4.out.src.lt; simpa using this) hb5)).tr (keepsB_set _ (show w.heap.size + 1 + 1 + 1 + 1 + 1 ≠ w.heap.size + 1 + 1 + 1 by omega))).tr (keepsB_set _ (show w.heap.size + 1 + 1 + 1 + 1 + 1 ≠ w.heap.size + 1 + 1 + 1 by omega))).tr (keepsB_set _ (show w.heap.size + 1 + 1 + 1 + 1 + 1 ≠ w.heap.size + 1 + 1 + 1 by omega))), by show SwI _ _ _ _ _ ((pre ++ [x]).map cl) _; rw [HSN.out]; exact HI4.out.hit (Nat.le_refl _) hp (by omega) hb5⟩
  case done =>
    rintro D xs W hD rfl hI hdef
    rw [tags_cl] at hI
    have hM : (sweptL p L (tagsTo L 33)).length = 33 := by rw [sweptL_len]; exact hL
    have e0 := hI.cnt.cell
    have HI := Lib.hid hI
    have HD := Lib.hid hdef
    clear hI hdef HG hen
    go_wp2_with fail
    obtain ⟨M, hMM⟩ : ∃ M, M = sweptL p L (tagsTo L 33) := ⟨_, rfl⟩
    have ho : CtxAt W.drew (w.heap.size + 1 + 1 + 1) M := by rw [hMM]; exact HI.out.out
    rw [← hMM] at hM
    have hMh := Lib.hid hMM
    clear hMM
    have HO := Lib.hid ho
    clear ho
    refine wp_region_any (by kernel_rfl) ?_
    change wpAny _ _ _ _ _ _ _ (World.drew _)
    repeat' (first
      | refine wpAny_done (by decide +kernel) ?_ _
      | refine wpAny_ready (rs := [0, 1]) (by decide +kernel) (by simp) ?_
      | refine wpAny_ready (rs := [1, 2]) (by decide +kernel) (by simp) ?_
      | refine wpAny_ready (rs := [0]) (by decide +kernel) (by simp) ?_
      | refine wpAny_ready (rs := [1]) (by decide +kernel) (by simp) ?_
      | refine wpAny_ready (rs := [2]) (by decide +kernel) (by simp) ?_
      | refine wpAny_ready (rs := [3]) (by decide +kernel) (by simp) ?_
      | exact AllReady.nil
      | refine AllReady.cons rfl (fun K hK => ?_) ?_
      | (refine step_load_ctx rfl _ rfl (w.heap.size + 1 + 1 + 1) rfl M ?_ hM ?_; (focus exact HO.out); refine hK _ _ ?_; clear hK K)
      | (refine step_store_ctx rfl _ _ rfl (w.heap.size + 1 + 1) zeroL M rfl rfl ?_ zeroL_len hM ?_; (focus exact HI.out.zero); intro w7 hst; have e7 := (hst.cell (w.heap.size + 1 + 1 + 1 + 1) 0 (by omega)).trans e0; have HST := Lib.hid hst; clear hst; refine hK _ _ ?_; clear hK K)
      | (go_simp; refine hK _ _ ?_; clear hK K))
    all_goals go_wp2_with fail
    all_goals
      have hK' : w7.heap[D]? = some (.deferred (some [])) := (HST.out.same D (by omega)).trans HD.out
      refine ⟨by simp, .inl ⟨_, _, rfl, run_takeDeferred hK', ?_⟩⟩
      have hc7 : CtxAt (w7.putObj D (.deferred none)) (w.heap.size + 1 + 1) M := (World.putObj_heap_other (by omega)).trans HST.out.at_
      refine ⟨_, ret_ctx_t Try.results10 _ _ (w.heap.size + 1 + 1) M _ rfl rfl hc7 hM, by rw [hMh.out]; rfl, (HST.out.below (B := w.heap.size) (w := w) HI.out.below.drew (by omega)).trans (belowK_b (w := w) (Nat.le_refl _) w7 D _ _ (by omega) hK' rfl rfl)⟩
  case stop =>
    rintro D c pre W hD _ h _
    exact h.elim
end Go.Proofs.Ytpjcijmdoofcbaa
