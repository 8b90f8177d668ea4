
/-
  RegsHold: the walk.
-/
import Derived.Test.YtpjcijmdoofcbaaGyG
import Derived.Test.YtpjcijmdoofcbaaGxI
namespace Go.Proofs.Ytpjcijmdoofcbaa
open Go Go.RowKit
set_option linter.unusedVariables false
set_option linter.unusedSimpArgs false

theorem built_run (c : Cp) (w : World) : (Instr.build 27 #[(1, .agg #[.bool c.g, .int .u64 (U c.m), .int .u64 (U c.a)])]).run Try.prog w = .ok (.agg (cellsC (zeroL.set 32 c)).toArray) w := run_build w _ _ _ (zero_built c.g c.m c.a)
theorem wpQuiet_build_ctx {ops : Array Oper} {C : World → Prop} {Q : Act → Prop} {a : Act} {o : Oper} {rest : List Oper} (hw : Region.wanted o (yielded ops a.tmps) = true) (x : Operand) (ho : o.op = .build 27 #[(1, x)]) (c : Cp) (hx : a.eval x = .agg #[.bool c.g, .int .u64 (U c.m), .int .u64 (U c.a)]) (Z : List Cp) (hZ : zeroL.set 32 c = Z)
    (h : wpQuiet Try.prog ops C Q rest (a.put o.dst (.agg (cellsC Z).toArray))) : wpQuiet Try.prog ops C Q (o :: rest) a := by
  subst hZ
  unfold wpQuiet
  rw [if_pos hw]
  refine ⟨_, fun w hw' => ?_, h⟩
  unfold Oper.quietAt execOp
  simp only [ho, List.map_toArray, List.map_cons, List.map_nil, hx, Sem.run_bind, Sem.run_pure, Result.andThen_ok, built_run c w]
  exact ⟨rfl, rfl⟩
/-- What stood stands. -/
def Kp (W W' : World) : Prop := ∀ (g : Nat) (o : Obj), W.heap[g]? = some o → W'.heap[g]? = some o
theorem kp_below {W W' : World} (h : Below W.heap.size W W') : Kp W W' := fun g o hg => (h.block g (Array.getElem?_eq_some_iff.1 hg).1).trans hg
theorem kp_alloc (W : World) (o : Obj) : Kp W (W.alloc o) := fun g o' hg => (heap_alloc_old W o (Array.getElem?_eq_some_iff.1 hg).1).trans hg
theorem kp_stored {W W' : World} {o : Obj} {S : List Cp} (h : Stored (W.alloc o) W' W.heap.size S) : Kp W W' := fun g o' hg => by
  have := (Array.getElem?_eq_some_iff.1 hg).1
  exact (h.same g (by omega)).trans (kp_alloc W o g o' hg)
theorem kp_storedR {W W' : World} {o : Obj} {S : List Cp} (h : StoredR (W.alloc o) W' W.heap.size S) : Kp W W' := fun g o' hg => by
  have := (Array.getElem?_eq_some_iff.1 hg).1
  exact (h.same g (by omega)).trans (kp_alloc W o g o' hg)
theorem Kp.tr {A B C : World} (h : Kp A B) (k : Kp B C) : Kp A C := fun g o hg => k g o (h g o hg)
theorem Kp.ctx {A B : World} (h : Kp A B) {g : Nat} {L : List Cp} (k : CtxAt A g L) : CtxAt B g L := h g _ k
theorem Kp.rtx {A B : World} (h : Kp A B) {g : Nat} {L : List Cp} (k : RtxAt A g L) : RtxAt B g L := h g _ k
theorem Kp.three {A B : World} (h : Kp A B) {g : Nat} {l0 l1 l2 : BitVec 64} (k : ThreeAt A g l0 l1 l2) : ThreeAt B g l0 l1 l2 := h g _ k
/-- A capability lies in a block. -/
def OneAt (t : TypeId) (W : World) (g : Nat) (c : Cp) : Prop := W.heap[g]? = some (.cells #[.bool c.g, .int .u64 (U c.m), .int .u64 (U c.a)] t (0, 0))
theorem Kp.one {A B : World} (h : Kp A B) {t : TypeId} {g : Nat} {c : Cp} (k : OneAt t A g c) : OneAt t B g c := h g _ k
theorem OneAt.lt {t : TypeId} {W : World} {g : Nat} {c : Cp} (h : OneAt t W g c) : g < W.heap.size := (Array.getElem?_eq_some_iff.1 h).1
theorem OneAt.cells {t : TypeId} {W : World} {g : Nat} {c : Cp} (h : OneAt t W g c) : W.cell? ⟨g, 0, none⟩ = some (.bool c.g) ∧ W.cell? ⟨g, 1, none⟩ = some (.int .u64 (U c.m)) ∧ W.cell? ⟨g, 2, none⟩ = some (.int .u64 (U c.a)) :=
  ⟨(cell_of_row W g 0 _ _ _ h).trans rfl, (cell_of_row W g 1 _ _ _ h).trans rfl, (cell_of_row W g 2 _ _ _ h).trans rfl⟩
/-- What the law reads at last. -/
structure HoldI (L S : List Cp) (c : Cp) (b1 b2 g8 g9 g11 g13 g14 : Nat) (W : World) : Prop where
  src : CtxAt W b1 L
  cap : OneAt 24 W b2 c
  own : RtxAt W g8 L
  swe : CtxAt W g9 S
  rsw : RtxAt W g11 S
  rcap : OneAt 42 W g13 c
  non : CtxAt W g14 L
attribute [local irreducible] zeroL cellsC withF gotF sweepF cntR
set_option maxHeartbeats 8000000 in
set_option maxRecDepth 100000 in
theorem hold_walk (L : List Cp) (hL : L.length = 33) (c : Cp) (l0 l1 l2 : BitVec 64) (w : World) : Calls Try.prog 5 #[.agg (cellsC L).toArray, .agg #[.bool c.g, .int .u64 (U c.m), .int .u64 (U c.a)], .agg #[.int .u64 (U l0), .int .u64 (U l1), .int .u64 (U l2)]] w fun e w' => e = .returned (.bool true) ∧ Below w.heap.size w w' := by
  obtain ⟨W1, hW1⟩ : ∃ W1, W1 = ((w.alloc (.cells (cellsC L).toArray 27)).alloc (.cells #[.bool c.g, .int .u64 (U c.m), .int .u64 (U c.a)] 24)).alloc (.cells #[.int .u64 (U l0), .int .u64 (U l1), .int .u64 (U l2)] 41) := ⟨_, rfl⟩
  have s1 : W1.heap.size = w.heap.size + 1 + 1 + 1 := by rw [hW1]; simp
  have src1 : CtxAt W1 w.heap.size L := by rw [hW1]; exact CtxAt.alloc (CtxAt.alloc (World.alloc_heap_new w _) _) _
  have cap1 : OneAt 24 W1 (w.heap.size + 1) c := by
    have h : OneAt 24 ((w.alloc (.cells (cellsC L).toArray 27)).alloc (.cells #[.bool c.g, .int .u64 (U c.m), .int .u64 (U c.a)] 24)) (w.alloc (.cells (cellsC L).toArray 27)).heap.size c := World.alloc_heap_new _ _
    rw [World.size_alloc] at h
    rw [hW1]
    exact (kp_alloc _ _).one h
  have thr1 : ThreeAt W1 (w.heap.size + 1 + 1) l0 l1 l2 := by
    have h : ThreeAt (((w.alloc (.cells (cellsC L).toArray 27)).alloc (.cells #[.bool c.g, .int .u64 (U c.m), .int .u64 (U c.a)] 24)).alloc (.cells #[.int .u64 (U l0), .int .u64 (U l1), .int .u64 (U l2)] 41)) ((w.alloc (.cells (cellsC L).toArray 27)).alloc (.cells #[.bool c.g, .int .u64 (U c.m), .int .u64 (U c.a)] 24)).heap.size l0 l1 l2 := World.alloc_heap_new _ _
    simp only [World.size_alloc] at h
    rw [hW1]
    exact h
  have bw1 : Below w.heap.size w W1 := by rw [hW1]; (repeat (first | with_reducible exact Below.refl _ _ | with_reducible assumption | with_reducible refine below_drewN ?_ _ | with_reducible refine Below.drew ?_ | with_reducible refine below_alloc ?_ _ | (with_reducible refine Below.setCell ?_ (by first | (simp; done) | omega | (simp; omega)) _) | with_reducible refine belows ?_ (by assumption)))
  obtain ⟨x0, x1, x2⟩ := thr1.cells
  go_enter Try.func5, Try.ntmps5
  go_upto_region 1 with (fail)
  rw [← hW1]
  clear hW1
  go_upto_region 2 with (fail)
  generalize S l0 = n
  have HS1 := Lib.hid src1
  go_upto_region 3 with (first
    | (refine wpList_load_ctx rfl _ rfl w.heap.size rfl L ?_ hL ?_; (focus exact HS1.out))
    | (go_at_call 18; refine (own_any L hL _).mono ?_; rintro e w2 ⟨rfl, hb2⟩)
    | (refine rwpList_store_ctx rfl _ _ rfl w2.heap.size zeroL L rfl rfl ?_ zeroL_len hL ?_; (focus exact World.alloc_heap_new _ _); intro W2 hst2; have HT2 := Lib.hid hst2; clear hst2))
  have k2 : Kp W1 W2 := (kp_below hb2).tr (kp_storedR HT2.out)
  have own2 : RtxAt W2 w2.heap.size L := HT2.out.at_
  have z2 : w.heap.size ≤ w2.heap.size := Nat.le_trans bw1.size hb2.size
  have bw2 : Below w.heap.size w W2 := HT2.out.below ((bw1.trans (hb2.mono bw1.size)).alloc z2 _) z2
  have src2 := k2.ctx src1
  have cap2 := k2.one cap1
  have thr2 := k2.three thr1
  generalize w2.heap.size = g8 at own2 HT2 ⊢
  clear HT2 hb2 k2 src1 cap1 thr1 x0 x1 x2 HS1 s1 z2 bw1
  obtain ⟨SW, hSW⟩ : ∃ SW, SW = sweepF (inB l1 l2) L := ⟨_, rfl⟩
  have hSl : SW.length = 33 := by rw [hSW]; exact sweepF_len _ _
  obtain ⟨kk, hkk⟩ : ∃ kk, kk = cntR (inB l1 l2) L 33 := ⟨_, rfl⟩
  have cS : Calls Try.prog 10 #[.agg (cellsC L).toArray, .func (.func 19) #[] #[.pointer (some ⟨w.heap.size + 1 + 1, 0, none⟩)]] W2 fun e w' => e = .returned (.tuple #[.agg (cellsC SW).toArray, .int .i64 (kk : Int)]) ∧ Below W2.heap.size W2 w' := by
    have := swept_any (inB l1 l2) 19 #[.pointer (some ⟨w.heap.size + 1 + 1, 0, none⟩)] L hL W2 (enters_of Try.func19 (by kernel_rfl) rfl) (fun b W3 h3 => hold1_any l0 l1 l2 b _ W3 (thr2.below h3 thr2.lt))
    rw [swept_is _ L hL, sweptN_is] at this
    rw [hSW, hkk]
    unfold cntR
    exact this
  have cR : ∀ W : World, Calls Try.prog 20 #[.agg (cellsC L).toArray, .int .u64 (U l1), .int .u64 (U l2)] W fun e w' => e = .returned (.tuple #[.agg (cellsC SW).toArray, .int .i64 (kk : Int)]) ∧ Below W.heap.size W w' := fun W => by
    rw [hSW, hkk]
    exact rswept_any L hL l1 l2 W
  have HCR := Lib.hid cR
  have HS2 := Lib.hid src2
  have HCS := Lib.hid cS
  clear cS cR hSW hkk
  go_upto_region 4 with (first
    | (refine wpList_load_ctx rfl _ rfl w.heap.size rfl L ?_ hL ?_; (focus exact HS2.out))
    | (go_at_call 10; refine HCS.out.mono ?_; rintro e w3 ⟨rfl, hb3⟩)
    | (refine wpList_store_ctx rfl _ _ rfl w3.heap.size zeroL SW rfl rfl ?_ zeroL_len hSl ?_; (focus exact World.alloc_heap_new _ _); intro W3 hst3; have HT3 := Lib.hid hst3; clear hst3))
  have k3 : Kp W2 W3 := (kp_below hb3).tr (kp_stored HT3.out)
  have swe3 : CtxAt W3 w3.heap.size SW := HT3.out.at_
  have z3 : w.heap.size ≤ w3.heap.size := Nat.le_trans bw2.size hb3.size
  have bw3 : Below w.heap.size w W3 := HT3.out.below ((bw2.trans (hb3.mono bw2.size)).alloc z3 _) z3
  have src3 := k3.ctx src2
  have cap3 := k3.one cap2
  have thr3 := k3.three thr2
  have own3 := k3.rtx own2
  generalize w3.heap.size = g9 at swe3 HT3 ⊢
  clear HT3 hb3 k3 src2 cap2 thr2 own2 HS2 HCS z3 bw2
  obtain ⟨x0, x1, x2⟩ := thr3.cells
  have HO3 := Lib.hid own3
  go_upto_region 5 with (first
    | (refine rwpList_load_ctx rfl _ rfl g8 rfl L ?_ hL ?_; (focus exact HO3.out))
    | (go_at_call 20; refine (HCR.out _).mono ?_; rintro e w4 ⟨rfl, hb4⟩)
    | (refine rwpList_store_ctx rfl _ _ rfl w4.heap.size zeroL SW rfl rfl ?_ zeroL_len hSl ?_; (focus exact World.alloc_heap_new _ _); intro W4 hst4; have HT4 := Lib.hid hst4; clear hst4))
  have k4 : Kp W3 W4 := (kp_below hb4).tr (kp_storedR HT4.out)
  have rsw4 : RtxAt W4 w4.heap.size SW := HT4.out.at_
  have z4 : w.heap.size ≤ w4.heap.size := Nat.le_trans bw3.size hb4.size
  have bw4 : Below w.heap.size w W4 := HT4.out.below ((bw3.trans (hb4.mono bw3.size)).alloc z4 _) z4
  have src4 := k4.ctx src3
  have cap4 := k4.one cap3
  have own4 := k4.rtx own3
  have swe4 := k4.ctx swe3
  generalize w4.heap.size = g11 at rsw4 HT4 ⊢
  clear HT4 hb4 k4 src3 cap3 thr3 own3 swe3 HO3 HCR z4 bw3 x0 x1 x2
  obtain ⟨y0, y1, y2⟩ := cap4.cells
  go_upto_region 6 with (fail)
  obtain ⟨W5, hW5⟩ : ∃ W5, W5 = W4.alloc (.cells #[.bool c.g, .int .u64 (U c.m), .int .u64 (U c.a)] 42) := ⟨_, rfl⟩
  have k5 : Kp W4 W5 := by rw [hW5]; exact kp_alloc _ _
  have rcap5 : OneAt 42 W5 W4.heap.size c := by rw [hW5]; exact World.alloc_heap_new _ _
  have bw5 : Below w.heap.size w W5 := by rw [hW5]; exact bw4.alloc bw4.size _
  rw [← hW5]
  have src5 := k5.ctx src4
  have cap5 := k5.one cap4
  have own5 := k5.rtx own4
  have swe5 := k5.ctx swe4
  have rsw5 := k5.rtx rsw4
  clear hW5 k5 src4 cap4 own4 swe4 rsw4 bw4 y0 y1 y2
  generalize W4.heap.size = g13 at rcap5 ⊢
  have HS5 := Lib.hid src5
  go_upto_region 7 with (first
    | (refine wpList_load_ctx rfl _ rfl w.heap.size rfl L ?_ hL ?_; (focus exact HS5.out))
    | (go_at_call 10; refine (swept_nil L hL _).mono ?_; rintro e w6 ⟨rfl, hb6⟩)
    | (refine wpList_store_ctx rfl _ _ rfl w6.heap.size zeroL L rfl rfl ?_ zeroL_len hL ?_; (focus exact World.alloc_heap_new _ _); intro W6 hst6; have HT6 := Lib.hid hst6; clear hst6))
  have k6 : Kp W5 W6 := (kp_below hb6).tr (kp_stored HT6.out)
  have z6 : w.heap.size ≤ w6.heap.size := Nat.le_trans bw5.size hb6.size
  have bw6 : Below w.heap.size w W6 := HT6.out.below ((bw5.trans (hb6.mono bw5.size)).alloc z6 _) z6
  have HH := Lib.hid (show HoldI L SW c w.heap.size (w.heap.size + 1) g8 g9 g11 g13 w6.heap.size W6 from ⟨k6.ctx src5, k6.one cap5, k6.rtx own5, k6.ctx swe5, k6.rtx rsw5, k6.one rcap5, HT6.out.at_⟩)
  generalize w6.heap.size = g14 at HH HT6 ⊢
  clear HT6 hb6 k6 src5 cap5 own5 swe5 rsw5 rcap5 HS5 z6 bw5
  obtain ⟨y0, y1, y2⟩ := HH.out.cap.cells
  obtain ⟨v0, v1, v2⟩ := HH.out.rcap.cells
  have lt1 := HH.out.cap.lt
  have lt2 := HH.out.rcap.lt
  have hA : ∀ W : World, (∃ q : Regrown, W = Go.Sort.grow (redrawn W6 q.d) q.os) → HoldI L SW c w.heap.size (w.heap.size + 1) g8 g9 g11 g13 g14 W := by
    rintro W ⟨q, rfl⟩
    have k := kp_below (below_regrown W6 q.d q.os)
    exact ⟨k.ctx HH.out.src, k.one HH.out.cap, k.rtx HH.out.own, k.ctx HH.out.swe, k.rtx HH.out.rsw, k.one HH.out.rcap, k.ctx HH.out.non⟩
  have HA := Lib.hid hA
  clear hA HH
  obtain ⟨gg, gm, ga, hgot⟩ : ∃ gg gm ga, gotF L n = ⟨gg, gm, ga⟩ := ⟨_, _, _, rfl⟩
  obtain ⟨M, hM⟩ : ∃ M, withF L n c = M := ⟨_, rfl⟩
  obtain ⟨N, hN⟩ : ∃ N, withF L n ⟨false, 0#64, c.a⟩ = N := ⟨_, rfl⟩
  obtain ⟨Z, hZ⟩ : ∃ Z, zeroL.set 32 c = Z := ⟨_, rfl⟩
  have lM : M.length = 33 := by rw [← hM]; exact withF_len hL n c
  have lN : N.length = 33 := by rw [← hN]; exact withF_len hL n _
  have lZ : Z.length = 33 := by rw [← hZ]; exact setR_len zeroL 32 c zeroL_len
  have c1 : ∀ W : World, Calls Try.prog 8 #[.agg (cellsC L).toArray, .int .i64 n] W fun e w' => e = .returned (.agg #[.bool gg, .int .u64 (U gm), .int .u64 (U ga)]) ∧ Below W.heap.size W w' := fun W => by
    have := get_is L hL n W
    rw [hgot] at this
    exact this
  have c2 : ∀ W : World, Calls Try.prog 21 #[.agg (cellsC L).toArray, .int .i64 n] W fun e w' => e = .returned (.agg #[.bool gg, .int .u64 (U gm), .int .u64 (U ga)]) ∧ Below W.heap.size W w' := fun W => by
    have := rget_is L hL n W
    rw [hgot] at this
    exact this
  have c3 : ∀ W : World, Calls Try.prog 22 #[.agg (cellsC L).toArray, .int .i64 n, .agg #[.bool c.g, .int .u64 (U c.m), .int .u64 (U c.a)]] W fun e w' => e = .returned (.agg (cellsC M).toArray) ∧ Below W.heap.size W w' := fun W => by
    have := with_is L hL n c W
    rw [hM] at this
    exact this
  have c4 : ∀ W : World, Calls Try.prog 23 #[.agg (cellsC L).toArray, .int .i64 n, .agg #[.bool c.g, .int .u64 (U c.m), .int .u64 (U c.a)]] W fun e w' => e = .returned (.agg (cellsC M).toArray) ∧ Below W.heap.size W w' := fun W => by
    have := rwith_is L hL n c W
    rw [hM] at this
    exact this
  have c5 : ∀ W : World, Calls Try.prog 24 #[.agg (cellsC L).toArray, .int .i64 n, .int .u64 (U c.a)] W fun e w' => e = .returned (.agg (cellsC N).toArray) ∧ Below W.heap.size W w' := fun W => by
    have := set_is L hL n c.a W
    rw [hN] at this
    exact this
  have c6 : ∀ W : World, Calls Try.prog 23 #[.agg (cellsC L).toArray, .int .i64 n, .agg #[.bool false, .int .u64 0, .int .u64 (U c.a)]] W fun e w' => e = .returned (.agg (cellsC N).toArray) ∧ Below W.heap.size W w' := fun W => by
    have := rwith_is L hL n ⟨false, 0#64, c.a⟩ W
    rw [hN] at this
    exact this
  have c7 : ∀ W : World, Calls Try.prog 18 #[.agg (cellsC M).toArray] W fun e w' => e = .returned (.agg (cellsC M).toArray) ∧ Below W.heap.size W w' := fun W => own_any M lM W
  have c8 : ∀ W : World, Calls Try.prog 18 #[.agg (cellsC N).toArray] W fun e w' => e = .returned (.agg (cellsC N).toArray) ∧ Below W.heap.size W w' := fun W => own_any N lN W
  have c9 : ∀ W : World, Calls Try.prog 18 #[.agg (cellsC SW).toArray] W fun e w' => e = .returned (.agg (cellsC SW).toArray) ∧ Below W.heap.size W w' := fun W => own_any SW hSl W
  have c10 : ∀ W : World, Calls Try.prog 25 #[.agg #[.bool c.g, .int .u64 (U c.m), .int .u64 (U c.a)]] W fun e w' => e = .returned (.agg (cellsC Z).toArray) ∧ Below W.heap.size W w' := fun W => by
    have := zero_ctx_any c W
    rw [hZ] at this
    exact this
  have c11 := one_any
  have q1 : ∀ W : World, (binOp .eql 42 (.agg #[.bool gg, .int .u64 (U gm), .int .u64 (U ga)]) (.agg #[.bool gg, .int .u64 (U gm), .int .u64 (U ga)])).run Try.prog W = .ok (.bool true) W := fun W => by
    have := rcap_eql gg gg gm ga gm ga W
    simpa using this
  have q2 := rctx_eql M lM
  have q3 := rctx_eql N lN
  have q4 := rctx_eql SW hSl
  have q5 := ctx_eql L hL
  have q6 := ctx_eql Z lZ
  have e1 := rcap_guard
  have e2 := rctx_guard
  have e3 := ctx_guard
  clear hgot hM hN lM lN
  refine wp_region_below (by kernel_rfl) (by kernel_rfl) (fun hcr hfr => ?_)
  skip
  refine wpQuiet_load_ctx (by rfl) _ rfl w.heap.size rfl L ?_ hL ?_
  · exact fun W h => (HA.out W h).src
  go_simp
  go_big_quiet_step (fail)
  go_big_quiet_step (first | (go_at_call 8; first | with_reducible exact Calls.regrown_of (c1 _) | with_reducible exact regrown_k (c1 _) | with_reducible exact regrown_1 (c1 _) | with_reducible exact regrown_a (c1 _)))
  refine rwpQuiet_load_ctx (by rfl) _ rfl g8 rfl L ?_ hL ?_
  · exact fun W h => (HA.out W h).own
  go_simp
  go_big_quiet_step (fail)
  go_big_quiet_step (first | (go_at_call 21; first | with_reducible exact Calls.regrown_of (c2 _) | with_reducible exact regrown_k (c2 _) | with_reducible exact regrown_1 (c2 _) | with_reducible exact regrown_a (c2 _)))
  go_big_quiet_step (fail)
  go_big_quiet_step (fail)
  refine wpQuiet_load_ctx (by rfl) _ rfl w.heap.size rfl L ?_ hL ?_
  · exact fun W h => (HA.out W h).src
  go_simp
  go_big_quiet_step (fail)
  go_big_quiet_step (fail)
  go_big_quiet_step (first | (go_at_call 22; first | with_reducible exact Calls.regrown_of (c3 _) | with_reducible exact regrown_k (c3 _) | with_reducible exact regrown_1 (c3 _) | with_reducible exact regrown_a (c3 _)))
  go_big_quiet_step (first | (go_at_call 18; first | with_reducible exact Calls.regrown_of (c7 _) | with_reducible exact regrown_k (c7 _) | with_reducible exact regrown_1 (c7 _) | with_reducible exact regrown_a (c7 _)))
  refine rwpQuiet_load_ctx (by rfl) _ rfl g8 rfl L ?_ hL ?_
  · exact fun W h => (HA.out W h).own
  go_simp
  go_big_quiet_step (fail)
  go_big_quiet_step (fail)
  go_big_quiet_step (first | (go_at_call 23; first | with_reducible exact Calls.regrown_of (c4 _) | with_reducible exact regrown_k (c4 _) | with_reducible exact regrown_1 (c4 _) | with_reducible exact regrown_a (c4 _)))
  go_big_quiet_step (fail)
  go_big_quiet_step (fail)
  go_big_quiet_step (fail)
  refine wpQuiet_load_ctx (by rfl) _ rfl w.heap.size rfl L ?_ hL ?_
  · exact fun W h => (HA.out W h).src
  go_simp
  go_big_quiet_step (fail)
  go_big_quiet_step (fail)
  go_big_quiet_step (fail)
  go_big_quiet_step (first | (go_at_call 24; first | with_reducible exact Calls.regrown_of (c5 _) | with_reducible exact regrown_k (c5 _) | with_reducible exact regrown_1 (c5 _) | with_reducible exact regrown_a (c5 _)))
  go_big_quiet_step (first | (go_at_call 18; first | with_reducible exact Calls.regrown_of (c8 _) | with_reducible exact regrown_k (c8 _) | with_reducible exact regrown_1 (c8 _) | with_reducible exact regrown_a (c8 _)))
  refine rwpQuiet_load_ctx (by rfl) _ rfl g8 rfl L ?_ hL ?_
  · exact fun W h => (HA.out W h).own
  go_simp
  go_big_quiet_step (fail)
  go_big_quiet_step (fail)
  go_big_quiet_step (fail)
  go_big_quiet_step (fail)
  go_big_quiet_step (first | (go_at_call 23; first | with_reducible exact Calls.regrown_of (c6 _) | with_reducible exact regrown_k (c6 _) | with_reducible exact regrown_1 (c6 _) | with_reducible exact regrown_a (c6 _)))
  go_big_quiet_step (fail)
  go_big_quiet_step (fail)
  go_big_quiet_step (fail)
  refine wpQuiet_load_ctx (by rfl) _ rfl g9 rfl SW ?_ hSl ?_
  · exact fun W h => (HA.out W h).swe
  go_simp
  go_big_quiet_step (first | (go_at_call 18; first | with_reducible exact Calls.regrown_of (c9 _) | with_reducible exact regrown_k (c9 _) | with_reducible exact regrown_1 (c9 _) | with_reducible exact regrown_a (c9 _)))
  refine rwpQuiet_load_ctx (by rfl) _ rfl g11 rfl SW ?_ hSl ?_
  · exact fun W h => (HA.out W h).rsw
  go_simp
  go_big_quiet_step (fail)
  go_big_quiet_step (fail)
  go_big_quiet_step (fail)
  go_big_quiet_step (fail)
  go_big_quiet_step (fail)
  go_big_quiet_step (fail)
  go_big_quiet_step (fail)
  go_big_quiet_step (fail)
  refine wpQuiet_load_ctx (by rfl) _ rfl g14 rfl L ?_ hL ?_
  · exact fun W h => (HA.out W h).non
  go_simp
  refine wpQuiet_load_ctx (by rfl) _ rfl w.heap.size rfl L ?_ hL ?_
  · exact fun W h => (HA.out W h).src
  go_simp
  go_big_quiet_step (fail)
  go_big_quiet_step (fail)
  go_big_quiet_step (fail)
  go_big_quiet_step (fail)
  go_big_quiet_step (fail)
  go_big_quiet_step (fail)
  go_big_quiet_step (fail)
  go_big_quiet_step (fail)
  go_big_quiet_step (first | (go_at_call 25; first | with_reducible exact Calls.regrown_of (c10 _) | with_reducible exact regrown_k (c10 _) | with_reducible exact regrown_1 (c10 _) | with_reducible exact regrown_a (c10 _)))
  go_big_quiet_step (fail)
  refine wpQuiet_build_ctx (by rfl) _ rfl c rfl Z hZ ?_
  go_simp
  go_big_quiet_step (fail)
  go_big_quiet_step (fail)
  go_big_quiet_step (fail)
  go_big_quiet_step (first | (go_at_call 14; first | with_reducible exact Calls.regrown_of (c11 _) | with_reducible exact regrown_k (c11 _) | with_reducible exact regrown_1 (c11 _) | with_reducible exact regrown_a (c11 _)))
  go_big_quiet_step (fail)
  go_big_quiet_step (fail)
  refine wpQuiet_nil ?_
  intro wz hbz
  clear hcr hfr
  go_wp2_with (fail)
  go_ret
  exact ⟨rfl, bw6.trans (hbz.mono bw6.size)⟩
end Go.Proofs.Ytpjcijmdoofcbaa
