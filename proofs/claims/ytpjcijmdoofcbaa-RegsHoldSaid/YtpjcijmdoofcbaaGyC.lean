
/-
  The law's Own: a context as the document has it.
-/
import Derived.Test.YtpjcijmdoofcbaaGyA
namespace Go.Proofs.Ytpjcijmdoofcbaa
open Go Go.RowKit
set_option linter.unusedVariables false
set_option linter.unusedSimpArgs false

/-- What is there behind some rounds. -/
def ownTo (L : List Cp) (n : Nat) : List Cp := (List.range 33).map fun k => if k < n ∨ k = 32 then capAt L k else ⟨false, 0#64, 0#64⟩
theorem ownTo_len (L : List Cp) (n : Nat) : (ownTo L n).length = 33 := by unfold ownTo; rw [List.length_map, List.length_range]
theorem ownTo_get (L : List Cp) (n k : Nat) (hk : k < 33) : (ownTo L n)[k]? = some (if k < n ∨ k = 32 then capAt L k else ⟨false, 0#64, 0#64⟩) := by
  unfold ownTo
  rw [List.getElem?_map, List.getElem?_range hk]
  rfl
theorem ownTo_0 (L : List Cp) : ownTo L 0 = zeroL.set 32 (capAt L 32) := by
  apply List.ext_getElem?
  intro k
  by_cases hk : k < 33
  · rw [ownTo_get L 0 k hk]
    by_cases h : k = 32
    · subst h
      rw [List.getElem?_set_self (by rw [zeroL_len]; omega)]
      rfl
    · rw [List.getElem?_set_ne (fun e => h e.symm), if_neg (by omega)]
      unfold zeroL
      rw [List.getElem?_replicate, if_pos hk]
  · rw [List.getElem?_eq_none (by rw [ownTo_len]; omega), List.getElem?_eq_none (by rw [List.length_set, zeroL_len]; omega)]
theorem ownTo_succ (L : List Cp) (n : Nat) (hn : n < 32) : (ownTo L n).set n (capAt L n) = ownTo L (n + 1) := by
  apply List.ext_getElem?
  intro k
  by_cases hk : k < 33
  · rw [ownTo_get L (n + 1) k hk]
    by_cases h : k = n
    · subst h
      rw [List.getElem?_set_self (by rw [ownTo_len]; omega), if_pos (by omega)]
    · rw [List.getElem?_set_ne (fun e => h e.symm), ownTo_get L n k hk]
      by_cases h2 : k < n ∨ k = 32
      · rw [if_pos h2, if_pos (by omega)]
      · rw [if_neg h2, if_neg (by omega)]
  · rw [List.getElem?_eq_none (by rw [List.length_set, ownTo_len]; omega), List.getElem?_eq_none (by rw [ownTo_len]; omega)]
theorem ownTo_all (L : List Cp) (hL : L.length = 33) : ownTo L 32 = L := by
  apply List.ext_getElem?
  intro k
  by_cases hk : k < 33
  · rw [ownTo_get L 32 k hk, if_pos (by omega)]
    exact (capAt_get L k (by omega)).symm
  · rw [List.getElem?_eq_none (by rw [ownTo_len]; omega), List.getElem?_eq_none (by omega)]
theorem rzero_built (g : Bool) (m a : BitVec 64) : Try.prog.built 45 [(1, .agg #[.bool g, .int .u64 (U m), .int .u64 (U a)])] = some (cellsC (zeroL.set 32 ⟨g, m, a⟩)).toArray := by kernel_rfl
theorem rbuilt_run (c : Cp) (w : World) : (Instr.build 45 #[(1, .agg #[.bool c.g, .int .u64 (U c.m), .int .u64 (U c.a)])]).run Try.prog w = .ok (.agg (cellsC (zeroL.set 32 c)).toArray) w := run_build w _ _ _ (rzero_built c.g c.m c.a)
theorem wpList_build_rtx {ops : Array Oper} {rest : List Oper} {o : Oper} {a : Act} {w : World} {Q : Exit → Act → World → Prop} (hgd : o.guard = none) (x : Operand) (ho : o.op = .build 45 #[(1, x)])
    (c : Cp) (hx : a.eval x = .agg #[.bool c.g, .int .u64 (U c.m), .int .u64 (U c.a)]) (h : wpList Try.prog ops Q rest (a.put o.dst (.agg (cellsC (zeroL.set 32 c)).toArray)) w) : wpList Try.prog ops Q (o :: rest) a w :=
  wpList_plain hgd fun K hK => by
    unfold Oper.wp execOp
    simp only [ho, List.map_toArray, List.map_cons, List.map_nil, hx, Sem.run_bind, Sem.run_pure, Result.andThen_ok, rbuilt_run c w]
    exact hK _ _ h
/-- What stands in a round. -/
structure OwI (L : List Cp) (w : World) (n : Nat) (W : World) : Prop where
  src : CtxAt W w.heap.size L
  zero : RtxAt W (w.heap.size + 1) zeroL
  out : RtxAt W (w.heap.size + 1 + 1) (ownTo L n)
  below : Below w.heap.size w W
theorem OwI.step {L : List Cp} {w W : World} {n : Nat} (h : OwI L w n W) (hn : n < 32) : OwI L w (n + 1) (((W.setCell ⟨w.heap.size + 1 + 1, n * 3, none⟩ (.bool (capAt L n).g)).setCell ⟨w.heap.size + 1 + 1, n * 3 + 1, none⟩ (.int .u64 (U (capAt L n).m))).setCell ⟨w.heap.size + 1 + 1, n * 3 + 2, none⟩ (.int .u64 (U (capAt L n).a))) := by
  have o := h.out.set n (capAt L n) (by rw [ownTo_len]; omega)
  rw [ownTo_succ L n hn] at o
  have hq : w.heap.size ≤ (⟨w.heap.size + 1 + 1, 0, none⟩ : Addr).block := by show _ ≤ _ + 1; omega
  exact ⟨((h.src.other _ _ (show w.heap.size ≠ w.heap.size + 1 + 1 by omega)).other _ _ (show w.heap.size ≠ w.heap.size + 1 + 1 by omega)).other _ _ (show w.heap.size ≠ w.heap.size + 1 + 1 by omega), ((h.zero.other _ _ (show w.heap.size + 1 ≠ w.heap.size + 1 + 1 by omega)).other _ _ (show w.heap.size + 1 ≠ w.heap.size + 1 + 1 by omega)).other _ _ (show w.heap.size + 1 ≠ w.heap.size + 1 + 1 by omega), o, ((h.below.setCell (p := ⟨w.heap.size + 1 + 1, n * 3, none⟩) hq _).setCell (p := ⟨w.heap.size + 1 + 1, n * 3 + 1, none⟩) hq _).setCell (p := ⟨w.heap.size + 1 + 1, n * 3 + 2, none⟩) hq _⟩
attribute [local irreducible] zeroL cellsC
set_option maxHeartbeats 8000000 in
set_option maxRecDepth 100000 in
theorem own_any (L : List Cp) (hL : L.length = 33) (w : World) : Calls Try.prog 18 #[.agg (cellsC L).toArray] w fun e w' => e = .returned (.agg (cellsC L).toArray) ∧ Below w.heap.size w w' := by
  obtain ⟨W1, hW1⟩ : ∃ W1, W1 = (w.alloc (.cells (cellsC L).toArray 27)).alloc (.cells (cellsC zeroL).toArray 45) := ⟨_, rfl⟩
  have s1 : W1.heap.size = w.heap.size + 1 + 1 := by rw [hW1]; simp
  have c1 : CtxAt W1 w.heap.size L := by rw [hW1]; exact CtxAt.alloc (World.alloc_heap_new w _) _
  have z1 : RtxAt W1 (w.heap.size + 1) zeroL := by
    have := World.alloc_heap_new (w.alloc (.cells (cellsC L).toArray 27)) (.cells (cellsC zeroL).toArray 45)
    rw [hW1]
    simpa [RtxAt] using this
  have b1 : Below w.heap.size w W1 := by rw [hW1]; (repeat (first | with_reducible exact Below.refl _ _ | with_reducible assumption | with_reducible refine below_drewN ?_ _ | with_reducible refine Below.drew ?_ | with_reducible refine below_alloc ?_ _ | (with_reducible refine Below.setCell ?_ (by first | (simp; done) | omega | (simp; omega)) _) | with_reducible refine belows ?_ (by assumption)))
  obtain ⟨x0, x1, x2⟩ := c1.cells 32 _ (capAt_get L 32 (by omega))
  have hA : RtxAt (W1.alloc (.cells (cellsC zeroL).toArray 45)) (w.heap.size + 1 + 1) zeroL := by
    have := World.alloc_heap_new W1 (.cells (cellsC zeroL).toArray 45)
    rw [s1] at this
    exact this
  have HC := Lib.hid (And.intro c1 (And.intro z1 (And.intro b1 hA)))
  clear c1 z1 b1 hA
  go_enter Try.func18, Try.ntmps18
  go_upto_region 1 with (fail)
  rw [← hW1]
  clear hW1
  go_wp2_with (first | (refine wpList_build_rtx rfl _ rfl (capAt L 32) rfl ?_; rewrite [← ownTo_0]) | (refine rwpList_store_ctx rfl _ _ rfl (w.heap.size + 1 + 1) zeroL (ownTo L 0) rfl rfl ?_ zeroL_len (ownTo_len L 0) ?_; (focus exact HC.out.2.2.2); intro w3 hst; have hI : OwI L w 0 w3 := ⟨hst.ctx (HC.out.1.alloc _) (by omega), hst.rtx (HC.out.2.1.alloc _) (by omega), hst.at_, hst.below (HC.out.2.2.1.alloc (by omega) _) (by omega)⟩; have HI := Lib.hid hI; clear hI hst))
  clear x0 x1 x2 HC s1
  go_loopw [4] (fun i wr => ∃ k : Nat, k ≤ 32 ∧ i = .int .i64 k ∧ Hid (OwI L w k wr)) (fun i _ => 32 - (intOf i).toNat)
  case atStart => exact ⟨0, by omega, rfl, HI⟩
  case round =>
    obtain ⟨k, hk, rfl, HJ⟩ := hrel
    clear HI
    by_cases hlt : (k : Int) < 32
    · obtain ⟨x0, x1, x2⟩ := HJ.out.src.cells k _ (capAt_get L k (by omega))
      obtain ⟨y0, y1, y2⟩ := HJ.out.out.cells k _ (capAt_get (ownTo L k) k (by rw [ownTo_len]; omega))
      have f0 := HJ.out.out.frozen (k * 3)
      have f1 := HJ.out.out.frozen (k * 3 + 1)
      have f2 := HJ.out.out.frozen (k * 3 + 2)
      go_wp2
      go_roundw
      case rel => exact ⟨k + 1, by omega, by go_num, Lib.hid (HJ.out.step (by omega))⟩
      case measure => (simp [intOf]; omega)
    · obtain rfl : k = 32 := by omega
      have ho := HJ.out.out
      rw [ownTo_all L hL] at ho
      have HO := Lib.hid ho
      clear ho
      go_wp2_with (first
        | (refine rwpList_load_ctx rfl _ rfl (w.heap.size + 1 + 1) rfl L ?_ hL ?_; (focus exact HO.out))
        | (refine rwpList_store_ctx rfl _ _ rfl (w.heap.size + 1) zeroL L rfl rfl ?_ zeroL_len hL ?_; (focus exact HJ.out.zero); intro w9 hst; have HST := Lib.hid hst; clear hst))
      refine bodyPost_ret (rret_ctx Try.results18 _ _ (w.heap.size + 1) L rfl HST.out.at_ hL) rfl ?_
      exact ⟨rfl, HST.out.below HJ.out.below (by omega)⟩
end Go.Proofs.Ytpjcijmdoofcbaa
