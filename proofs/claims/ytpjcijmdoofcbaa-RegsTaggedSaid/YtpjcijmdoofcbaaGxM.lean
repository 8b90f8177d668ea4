
/-
  RegsTagged: what stands.
-/
import Derived.Test.YtpjcijmdoofcbaaGxL
import Derived.Test.YtpjcijmdoofcbaaGxI
namespace Go.Proofs.Ytpjcijmdoofcbaa
open Go Go.RowKit
set_option linter.unusedVariables false
set_option linter.unusedSimpArgs false

def lastOf (l : List Nat) : Nat := l.getLastD 0
theorem lastOf_snoc (l : List Nat) (p : Nat) : lastOf (l ++ [p]) = p := by
  unfold lastOf
  simp
theorem lastOf_lt (L : List Cp) (k : Nat) (hk : 1 ≤ k) : lastOf (tagsTo L k) < k := by
  unfold lastOf
  rw [List.getLastD_eq_getLast?]
  cases h : (tagsTo L k).getLast? with
  | none => simp; omega
  | some x =>
    have hx := List.mem_of_getLast? h
    unfold tagsTo at hx
    rw [List.mem_filter, List.mem_range] at hx
    exact hx.1
structure TgI (M : List Cp) (y n l : Int) (w W : World) : Prop where
  src : CtxAt W (w.heap.size) M
  most : Boxed W (w.heap.size + 1) 3 (.int .i64 y)
  cpy : CtxAt W (w.heap.size + 1 + 1) M
  bn : Boxed W (w.heap.size + 1 + 1 + 1) 3 (.int .i64 n)
  bl : Boxed W (w.heap.size + 1 + 1 + 1 + 1) 3 (.int .i64 l)
  bf : Boxed W (w.heap.size + 1 + 1 + 1 + 1 + 1) 4 (.bool true)
  below : Below w.heap.size w W
section
variable {M : List Cp} {y n l : Int} {w W W' W3 : World}
theorem TgI.keep (h : TgI M y n l w W) (hb : Below W.heap.size W W') : TgI M y n l w W' :=
  ⟨h.src.below hb h.src.lt, (hb.block _ h.most.lt).trans h.most, h.cpy.below hb h.cpy.lt, (hb.block _ h.bn.lt).trans h.bn, (hb.block _ h.bl.lt).trans h.bl, (hb.block _ h.bf.lt).trans h.bf, h.below.trans (hb.mono h.below.size)⟩
theorem TgI.set (h : TgI M y n l w W) (f : Nat) (v : Value) (hf : w.heap.size + 1 + 1 + 1 + 1 + 1 < f) : TgI M y n l w (W.setCell ⟨f, 0, none⟩ v) :=
  ⟨h.src.other _ _ (show w.heap.size ≠ f by omega), box_other h.most _ _ (show w.heap.size + 1 ≠ f by omega), h.cpy.other _ _ (show w.heap.size + 1 + 1 ≠ f by omega), box_other h.bn _ _ (show w.heap.size + 1 + 1 + 1 ≠ f by omega), box_other h.bl _ _ (show w.heap.size + 1 + 1 + 1 + 1 ≠ f by omega), box_other h.bf _ _ (show w.heap.size + 1 + 1 + 1 + 1 + 1 ≠ f by omega), h.below.setCell (show w.heap.size ≤ f by omega) _⟩
theorem TgI.hit (h : TgI M y n l w W) (hb : Below W.heap.size W W3) (p : Int) : TgI M y (n + 1) p w (((W3.setCell ⟨w.heap.size + 1 + 1 + 1 + 1 + 1, 0, none⟩ (.bool true)).setCell ⟨w.heap.size + 1 + 1 + 1 + 1, 0, none⟩ (.int .i64 p)).setCell ⟨w.heap.size + 1 + 1 + 1, 0, none⟩ (.int .i64 (n + 1))) := by
  have k := h.keep hb
  refine ⟨?_, ?_, ?_, ?_, ?_, ?_, ?_⟩
  · exact ((k.src.other _ _ (show w.heap.size ≠ w.heap.size + 1 + 1 + 1 + 1 + 1 by omega)).other _ _ (show w.heap.size ≠ w.heap.size + 1 + 1 + 1 + 1 by omega)).other _ _ (show w.heap.size ≠ w.heap.size + 1 + 1 + 1 by omega)
  · exact box_other (box_other (box_other k.most _ _ (show w.heap.size + 1 ≠ w.heap.size + 1 + 1 + 1 + 1 + 1 by omega)) _ _ (show w.heap.size + 1 ≠ w.heap.size + 1 + 1 + 1 + 1 by omega)) _ _ (show w.heap.size + 1 ≠ w.heap.size + 1 + 1 + 1 by omega)
  · exact ((k.cpy.other _ _ (show w.heap.size + 1 + 1 ≠ w.heap.size + 1 + 1 + 1 + 1 + 1 by omega)).other _ _ (show w.heap.size + 1 + 1 ≠ w.heap.size + 1 + 1 + 1 + 1 by omega)).other _ _ (show w.heap.size + 1 + 1 ≠ w.heap.size + 1 + 1 + 1 by omega)
  · exact Boxed.set _ (box_other (box_other k.bn _ _ (show w.heap.size + 1 + 1 + 1 ≠ w.heap.size + 1 + 1 + 1 + 1 + 1 by omega)) _ _ (show w.heap.size + 1 + 1 + 1 ≠ w.heap.size + 1 + 1 + 1 + 1 by omega))
  · exact box_other (Boxed.set _ (box_other k.bl _ _ (show w.heap.size + 1 + 1 + 1 + 1 ≠ w.heap.size + 1 + 1 + 1 + 1 + 1 by omega))) _ _ (show w.heap.size + 1 + 1 + 1 + 1 ≠ w.heap.size + 1 + 1 + 1 by omega)
  · exact box_other (box_other (Boxed.set _ k.bf) _ _ (show w.heap.size + 1 + 1 + 1 + 1 + 1 ≠ w.heap.size + 1 + 1 + 1 + 1 by omega)) _ _ (show w.heap.size + 1 + 1 + 1 + 1 + 1 ≠ w.heap.size + 1 + 1 + 1 by omega)
  · exact ((k.below.setCell (show w.heap.size ≤ w.heap.size + 1 + 1 + 1 + 1 + 1 by omega) _).setCell (show w.heap.size ≤ w.heap.size + 1 + 1 + 1 + 1 by omega) _).setCell (show w.heap.size ≤ w.heap.size + 1 + 1 + 1 by omega) _
end
theorem tg_len (M : List Cp) (k : Nat) (hk : k < 33) (h : tg M k = true) : (tagsTo M k).length + 1 ≤ (tagsTo M 33).length := by
  have gen : ∀ d, (tagsTo M (k + 1)).length ≤ (tagsTo M (k + 1 + d)).length := by
    intro d
    induction d with
    | zero => exact Nat.le_refl _
    | succ d ih =>
      refine Nat.le_trans ih ?_
      rw [← Nat.add_assoc, tagsTo_succ, List.length_append]
      omega
  have h1 := gen (32 - k)
  rw [show k + 1 + (32 - k) = 33 by omega, tagsTo_succ, h] at h1
  simpa using h1
theorem seq1 (M : List Cp) (hM : M.length = 33) (y : Int) (w W : World) (h0 : TgI M y 0 0 w W) : Calls Try.prog 26 #[.func (.func 7) #[] #[.pointer (some ⟨w.heap.size, 0, none⟩), .pointer (some ⟨w.heap.size + 1 + 1 + 1 + 1 + 1, 0, none⟩), .pointer (some ⟨w.heap.size + 1 + 1 + 1 + 1, 0, none⟩), .pointer (some ⟨w.heap.size + 1 + 1 + 1, 0, none⟩)], .pointer (some ⟨w.heap.size + 1 + 1, 0, none⟩)] W fun e W' => (∃ v, e = .returned v) ∧ ∃ l, TgI M y ((tagsTo M 33).length : Nat) l w W' := by
  refine (tagged1_by 7 _ M hM (w.heap.size + 1 + 1) (fun pre W => TgI M y (pre.length : Nat) (lastOf pre : Nat) w W) (fun _ _ => False) (enters_of Try.func7 (by kernel_rfl) rfl) (fun p W h1 h2 ht hJ hc => ?_) W h0.cpy h0).mono ?_
  · have hg : (capAt M p).g = true := by
      have := ht
      unfold tg at this
      simpa [h1] using this
    have hl := lastOf_lt M p h1
    have hlen := tagsTo_len M p
    refine (tg1_any M hM p h1 h2 hg (tagsTo M p).length (lastOf (tagsTo M p)) (by omega) (by omega) (by omega) (w.heap.size) (w.heap.size + 1 + 1 + 1 + 1 + 1) (w.heap.size + 1 + 1 + 1 + 1) (w.heap.size + 1 + 1 + 1) W hJ.src hJ.bf hJ.bl hJ.bn (by omega) (by omega) (by omega) (by omega) (by omega) (by omega)).mono ?_
    rintro e W' ⟨rfl, W3, hb, rfl⟩
    have hh := hJ.hit hb (p : Int)
    refine .inl ⟨rfl, ?_, hh.cpy.trans hc.symm⟩
    show TgI M y _ _ w _
    rw [List.length_append, lastOf_snoc]
    exact hh
  · rintro e W' ⟨he, hj | ⟨k, _, _, hj⟩⟩
    · exact ⟨he, _, hj⟩
    · exact hj.elim
theorem seq2 (M : List Cp) (hM : M.length = 33) (y n l : Int) (w W : World) (h0 : TgI M y n l w W) (f : Nat) (hf : w.heap.size + 1 + 1 + 1 + 1 + 1 < f) (hb : Boxed W f 3 (.int .i64 0)) : Calls Try.prog 26 #[.func (.func 9) #[] #[.pointer (some ⟨f, 0, none⟩), .pointer (some ⟨w.heap.size + 1, 0, none⟩)], .pointer (some ⟨w.heap.size + 1 + 1, 0, none⟩)] W fun e W' => (∃ v, e = .returned v) ∧ TgI M y n l w W' ∧ Boxed W' f 3 (.int .i64 (min ((tagsTo M 33).length : Int) (y % 32 + 1))) := by
  refine (tagged1_by 9 _ M hM (w.heap.size + 1 + 1) (fun pre W => TgI M y n l w W ∧ Boxed W f 3 (.int .i64 (pre.length : Nat)) ∧ (pre.length : Int) ≤ y % 32) (fun pre W => TgI M y n l w W ∧ Boxed W f 3 (.int .i64 (pre.length : Nat)) ∧ (pre.length : Int) = y % 32 + 1) (enters_of Try.func9 (by kernel_rfl) rfl) (fun p W h1 h2 ht hJ hc => ?_) W h0.cpy ⟨h0, hb, by simp; omega⟩).mono ?_
  · have hg : (capAt M p).g = true := by
      have := ht
      unfold tg at this
      simpa [h1] using this
    have hlen := tagsTo_len M p
    obtain ⟨j1, j2, j3⟩ := hJ
    have hc2 := tg2_any (p : Int) (capAt M p) ((tagsTo M p).length : Nat) y f (w.heap.size + 1) W j2 j1.most (by omega) (by omega) (by omega)
    rw [hg] at hc2
    refine hc2.mono ?_
    rintro e W' ⟨rfl, rfl⟩
    have n1 := j1.set f (.int .i64 (((tagsTo M p).length : Nat) + 1)) hf
    have n2 := Boxed.set (.int .i64 (((tagsTo M p).length : Nat) + 1)) j2
    have k1 := n1.keep ((Below.refl _ _).alloc (Nat.le_refl _) (.cells #[.bool true, .int .u64 (U (capAt M p).m), .int .u64 (U (capAt M p).a)] 24))
    have k2 := n2.alloc (.cells #[.bool true, .int .u64 (U (capAt M p).m), .int .u64 (U (capAt M p).a)] 24)
    by_cases hle : ((tagsTo M p).length : Int) + 1 ≤ y % 32
    · rw [decide_eq_true hle]
      refine .inl ⟨rfl, ⟨k1, ?_, ?_⟩, k1.cpy.trans hc.symm⟩
      · rw [List.length_append]
        exact k2
      · rw [List.length_append]
        simpa using hle
    · rw [decide_eq_false hle]
      refine .inr ⟨rfl, k1, ?_, ?_⟩
      · rw [List.length_append]
        exact k2
      · rw [List.length_append]
        simp
        omega
  · rintro e W' ⟨he, ⟨j1, j2, j3⟩ | ⟨k, hk, ht, j1, j2, j3⟩⟩
    · refine ⟨he, j1, ?_⟩
      rw [show min ((tagsTo M 33).length : Int) (y % 32 + 1) = ((tagsTo M 33).length : Nat) by omega]
      exact j2
    · refine ⟨he, j1, ?_⟩
      have h5 := tg_len M k hk ht
      rw [List.length_append, List.length_singleton] at j2 j3
      rw [show min ((tagsTo M 33).length : Int) (y % 32 + 1) = (((tagsTo M k).length + 1 : Nat) : Int) by omega]
      exact j2
theorem tg_sweep (M : List Cp) (k : Nat) (hk : k < 33) : tg (sweepF (fun _ => true) M) k = false := by
  unfold tg
  rw [capAt_sweep _ M k hk]
  unfold hitF tg
  cases h : (decide (1 ≤ k) && (capAt M k).g)
  · simpa using h
  · simp [clearC]
theorem tags_swept (M : List Cp) : tagsTo (sweepF (fun _ => true) M) 33 = [] := by
  unfold tagsTo
  rw [List.filter_eq_nil_iff]
  intro k hk
  rw [tg_sweep M k (by simpa using hk)]
  simp
theorem cnt_all (M : List Cp) : cntF (fun _ => true) M = (tagsTo M 33).length := by
  unfold cntF tagsTo
  congr 1
  apply List.filter_congr
  intro k _
  unfold hitF
  simp
theorem pcc_swept (M : List Cp) : capAt (sweepF (fun _ => true) M) 32 = clearC (capAt M 32) := by
  rw [capAt_sweep _ M 32 (by omega)]
  unfold hitF tg
  generalize capAt M 32 = c
  obtain ⟨g, m, a⟩ := c
  cases g <;> simp [clearC]
theorem seq4 (S : List Cp) (hS : S.length = 33) (hn : tagsTo S 33 = []) (Bs : Nat) (gid : Nat) (caps : Array Value) (hen : ∀ (args : Array Value) (w : World), (callFunc gid args).run Try.prog w = .ok (.enter gid args) w) (W : World) (hc : CtxAt W Bs S) : Calls Try.prog 26 #[.func (.func gid) #[] caps, .pointer (some ⟨Bs, 0, none⟩)] W fun e W' => (∃ v, e = .returned v) ∧ W' = W := by
  have ht : ∀ k, k < 33 → tg S k ≠ true := fun k hk h => by
    have : k ∈ tagsTo S 33 := by
      unfold tagsTo
      rw [List.mem_filter, List.mem_range]
      exact ⟨hk, h⟩
    rw [hn] at this
    cases this
  refine (tagged1_by gid caps S hS Bs (fun _ X => X = W) (fun _ _ => False) hen (fun p W h1 h2 h3 _ _ => (ht p (by omega) h3).elim) W hc rfl).mono ?_
  rintro e W' ⟨he, hj | ⟨k, _, _, hj⟩⟩
  · exact ⟨he, hj⟩
  · exact hj.elim
theorem TgI.stored {M S : List Cp} {y n l : Int} {w W W' : World} {o : Obj} (h : TgI M y n l w W) (hst : Stored (W.alloc o) W' W.heap.size S) : TgI M y n l w W' := by
  have hs := h.below.size
  have n0 := h.src.lt
  have n1 := h.most.lt
  have n2 := h.cpy.lt
  have n3 := h.bn.lt
  have n4 := h.bl.lt
  have n5 := h.bf.lt
  exact ⟨hst.ctx (h.src.alloc o) (by omega), (hst.same _ (by omega)).trans (h.most.alloc o), hst.ctx (h.cpy.alloc o) (by omega), (hst.same _ (by omega)).trans (h.bn.alloc o), (hst.same _ (by omega)).trans (h.bl.alloc o), (hst.same _ (by omega)).trans (h.bf.alloc o), hst.below (h.below.alloc hs o) hs⟩
theorem stored_box {S : List Cp} {W W' : World} {o : Obj} {f : Nat} {t : TypeId} {v : Value} (hst : Stored (W.alloc o) W' W.heap.size S) (h : Boxed W f t v) : Boxed W' f t v := by
  have := h.lt
  exact (hst.same _ (by omega)).trans (h.alloc o)
theorem ctx_second (W : World) (S : List Cp) : CtxAt ((W.alloc (.cells #[.int .i64 0] 3)).alloc (.cells (cellsC S).toArray 27)) (W.heap.size + 1) S := by
  have : CtxAt ((W.alloc (.cells #[.int .i64 0] 3)).alloc (.cells (cellsC S).toArray 27)) (W.alloc (.cells #[.int .i64 0] 3)).heap.size S := World.alloc_heap_new _ _
  rw [World.size_alloc] at this
  exact this
theorem last_facts {M S : List Cp} {y n l : Int} {w W : World} {f s : Nat} {t : TypeId} {v : Value} (hI : TgI M y n l w W) (hF : Boxed W f t v) (hS : CtxAt W s S) (sz : W.heap.size = s + 1) :
    TgI M y n l w ((W.alloc (.cells #[.int .i64 0] 3)).alloc (.cells (cellsC S).toArray 27)) ∧ Boxed ((W.alloc (.cells #[.int .i64 0] 3)).alloc (.cells (cellsC S).toArray 27)) f t v ∧ Boxed ((W.alloc (.cells #[.int .i64 0] 3)).alloc (.cells (cellsC S).toArray 27)) (s + 1) 3 (.int .i64 0) ∧ CtxAt ((W.alloc (.cells #[.int .i64 0] 3)).alloc (.cells (cellsC S).toArray 27)) s S := by
  have h := (Boxed.new W 3 (.int .i64 0)).alloc (.cells (cellsC S).toArray 27)
  rw [sz] at h
  exact ⟨hI.keep (((Below.refl _ _).alloc (Nat.le_refl _) _).alloc (by simp) _), (hF.alloc _).alloc _, h, (hS.alloc _).alloc _⟩
theorem tagged_calls (M : List Cp) (hM : M.length = 33) (y : Int) (w : World) : ∃ (S : List Cp) (z : Int), z = ((tagsTo M 33).length : Nat) ∧ 0 ≤ z ∧ z ≤ 33 ∧ S.length = 33 ∧ capAt S 32 = clearC (capAt M 32) ∧
    (∀ W, TgI M y 0 0 w W → Calls Try.prog 26 #[.func (.func 7) #[] #[.pointer (some ⟨w.heap.size, 0, none⟩), .pointer (some ⟨w.heap.size + 1 + 1 + 1 + 1 + 1, 0, none⟩), .pointer (some ⟨w.heap.size + 1 + 1 + 1 + 1, 0, none⟩), .pointer (some ⟨w.heap.size + 1 + 1 + 1, 0, none⟩)], .pointer (some ⟨w.heap.size + 1 + 1, 0, none⟩)] W fun e W' => (∃ v, e = .returned v) ∧ ∃ l, TgI M y z l w W') ∧
    (∀ n l W, TgI M y n l w W → Calls Try.prog 26 #[.func (.func 9) #[] #[.pointer (some ⟨W.heap.size, 0, none⟩), .pointer (some ⟨w.heap.size + 1, 0, none⟩)], .pointer (some ⟨w.heap.size + 1 + 1, 0, none⟩)] (W.alloc (.cells #[.int .i64 0] 3)) fun e W' => (∃ v, e = .returned v) ∧ TgI M y n l w W' ∧ Boxed W' W.heap.size 3 (.int .i64 (min z (y % 32 + 1)))) ∧
    (∀ W, Calls Try.prog 10 #[.agg (cellsC M).toArray, .func (.func 11) #[] #[]] W fun e w' => e = .returned (.tuple #[.agg (cellsC S).toArray, .int .i64 z]) ∧ Below W.heap.size W w') ∧
    (∀ (Bs : Nat) (caps : Array Value) (W : World), CtxAt W Bs S → Calls Try.prog 26 #[.func (.func 12) #[] caps, .pointer (some ⟨Bs, 0, none⟩)] W fun e W' => (∃ v, e = .returned v) ∧ W' = W) := by
  have hl := tagsTo_len M 33
  refine ⟨sweepF (fun _ => true) M, _, rfl, by omega, by omega, sweepF_len _ _, pcc_swept M, fun W h => seq1 M hM y w W h, fun n l W h => ?_, fun W => ?_, fun Bs caps W h => ?_⟩
  · have hlt := h.bf.lt
    exact seq2 M hM y n l w _ (h.keep ((Below.refl _ _).alloc (Nat.le_refl _) _)) _ (by omega) (Boxed.new _ _ _)
  · have := swept_any (fun _ => true) 11 #[] M hM W (enters_of Try.func11 (by kernel_rfl) rfl) (fun b W1 h1 => tg3_any b W1)
    have hc := cnt_all M
    unfold cntF at hc
    rw [swept_is _ M hM, sweptN_is, hc] at this
    exact this
  · exact seq4 _ (sweepF_len _ _) (tags_swept M) Bs _ caps (enters_of Try.func12 (by kernel_rfl) rfl) W h
end Go.Proofs.Ytpjcijmdoofcbaa
