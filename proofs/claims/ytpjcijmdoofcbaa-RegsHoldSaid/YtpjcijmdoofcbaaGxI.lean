
/-
  RegsSweeps: the walk.
-/
import Derived.Test.YtpjcijmdoofcbaaGxH
namespace Go.Proofs.Ytpjcijmdoofcbaa
open Go Go.RowKit
set_option linter.unusedVariables false
set_option linter.unusedSimpArgs false

attribute [local irreducible] zeroL cellsC oneL
/-- What stands between the sweeps. -/
structure LwI (L : List Cp) (l0 l1 l2 l3 : BitVec 64) (w W : World) (xs : List (Nat × List Cp)) : Prop where
  src : CtxAt W w.heap.size L
  four : FourAt W (w.heap.size + 1) l0 l1 l2 l3
  fa : Boxed W (w.heap.size + 1 + 1) 35 (.func (.func 15) #[] #[.pointer (some ⟨w.heap.size + 1, 0, none⟩)])
  fb : Boxed W (w.heap.size + 1 + 1 + 1) 35 (.func (.func 16) #[] #[.pointer (some ⟨w.heap.size + 1, 0, none⟩)])
  ctxs : ∀ x ∈ xs, CtxAt W x.1 x.2
  below : Below w.heap.size w W
section
variable {L M : List Cp} {l0 l1 l2 l3 : BitVec 64} {w W W' W2 : World} {g : Nat} {xs : List (Nat × List Cp)} {a b c : Nat × List Cp}
theorem LwI.one (h : LwI L l0 l1 l2 l3 w W (a :: xs)) : CtxAt W a.1 a.2 := h.ctxs _ List.mem_cons_self
theorem LwI.keep (h : LwI L l0 l1 l2 l3 w W xs) (hb : Below W.heap.size W W') : LwI L l0 l1 l2 l3 w W' xs :=
  ⟨h.src.below hb h.src.lt, h.four.below hb h.four.lt, (hb.block _ h.fa.lt).trans h.fa, (hb.block _ h.fb.lt).trans h.fb, fun x hx => (h.ctxs x hx).below hb (h.ctxs x hx).lt, h.below.trans (hb.mono h.below.size)⟩
theorem LwI.step (h : LwI L l0 l1 l2 l3 w W xs) (hb : Below W.heap.size W W') (o : Obj) (hst : Stored (W'.alloc o) W2 W'.heap.size M) : LwI L l0 l1 l2 l3 w W2 ((W'.heap.size, M) :: xs) := by
  have h' := h.keep hb
  have hs := h'.below.size
  have n1 := h'.src.lt
  have n2 := h'.four.lt
  have n3 := h'.fa.lt
  have n4 := h'.fb.lt
  refine ⟨hst.ctx (h'.src.alloc o) (by omega), (hst.same _ (by omega)).trans ((heap_alloc_old W' o n2).trans h'.four), (hst.same _ (by omega)).trans (h'.fa.alloc o), (hst.same _ (by omega)).trans (h'.fb.alloc o), ?_, hst.below (h'.below.alloc (Nat.le_trans hs (Nat.le_refl _)) o) hs⟩
  intro x hx
  rcases List.mem_cons.1 hx with rfl | hx
  · exact hst.at_
  · have := (h'.ctxs x hx).lt
    exact hst.ctx ((h'.ctxs x hx).alloc o) (by omega)
end
def cntF (p : BitVec 64 → Bool) (L : List Cp) : Nat := ((List.range 33).filter (hitF p L)).length
theorem cntF_le (p : BitVec 64 → Bool) (L : List Cp) : cntF p L ≤ 33 := by
  have := List.length_filter_le (hitF p L) (List.range 33)
  unfold cntF
  simpa using this
theorem six (L : List Cp) (hL : L.length = 33) (l0 l1 l2 l3 : BitVec 64) (w : World) : ∃ (X Z V O : List Cp) (n m k n4 n5 : Nat), X.length = 33 ∧ Z.length = 33 ∧ V.length = 33 ∧ O.length = 33 ∧ n ≤ 33 ∧ m ≤ 33 ∧ n + m = k ∧
    (∀ (W : World) (xs : List (Nat × List Cp)), LwI L l0 l1 l2 l3 w W xs → Calls Try.prog 10 #[.agg (cellsC L).toArray, .func (.func 15) #[] #[.pointer (some ⟨w.heap.size + 1, 0, none⟩)]] W fun e w' => e = .returned (.tuple #[.agg (cellsC X).toArray, .int .i64 n]) ∧ Below W.heap.size W w') ∧
    (∀ (W : World) (xs : List (Nat × List Cp)), LwI L l0 l1 l2 l3 w W xs → Calls Try.prog 10 #[.agg (cellsC X).toArray, .func (.func 16) #[] #[.pointer (some ⟨w.heap.size + 1, 0, none⟩)]] W fun e w' => e = .returned (.tuple #[.agg (cellsC Z).toArray, .int .i64 m]) ∧ Below W.heap.size W w') ∧
    (∀ (W : World) (xs : List (Nat × List Cp)), LwI L l0 l1 l2 l3 w W xs → Calls Try.prog 10 #[.agg (cellsC L).toArray, .func (.func 17) #[] #[.pointer (some ⟨w.heap.size + 1 + 1, 0, none⟩), .pointer (some ⟨w.heap.size + 1 + 1 + 1, 0, none⟩)]] W fun e w' => e = .returned (.tuple #[.agg (cellsC Z).toArray, .int .i64 k]) ∧ Below W.heap.size W w') ∧
    (∀ (W : World) (xs : List (Nat × List Cp)), LwI L l0 l1 l2 l3 w W xs → Calls Try.prog 10 #[.agg (cellsC L).toArray, .func (.func 16) #[] #[.pointer (some ⟨w.heap.size + 1, 0, none⟩)]] W fun e w' => e = .returned (.tuple #[.agg (cellsC V).toArray, .int .i64 n4]) ∧ Below W.heap.size W w') ∧
    (∀ (W : World) (xs : List (Nat × List Cp)), LwI L l0 l1 l2 l3 w W xs → Calls Try.prog 10 #[.agg (cellsC V).toArray, .func (.func 15) #[] #[.pointer (some ⟨w.heap.size + 1, 0, none⟩)]] W fun e w' => e = .returned (.tuple #[.agg (cellsC Z).toArray, .int .i64 n5]) ∧ Below W.heap.size W w') ∧
    (∀ (W : World) (xs : List (Nat × List Cp)), LwI L l0 l1 l2 l3 w W xs → Calls Try.prog 10 #[.agg (cellsC Z).toArray, .func (.func 16) #[] #[.pointer (some ⟨w.heap.size + 1, 0, none⟩)]] W fun e w' => e = .returned (.tuple #[.agg (cellsC O).toArray, .int .i64 0]) ∧ Below W.heap.size W w') := by
  have ga : ∀ (M : List Cp), M.length = 33 → (∀ (W : World) (xs : List (Nat × List Cp)), LwI L l0 l1 l2 l3 w W xs → Calls Try.prog 10 #[.agg (cellsC M).toArray, .func (.func 15) #[] #[.pointer (some ⟨w.heap.size + 1, 0, none⟩)]] W fun e w' => e = .returned (.tuple #[.agg (cellsC (sweepF (inB l0 l1) M)).toArray, .int .i64 (cntF (inB l0 l1) M : Int)]) ∧ Below W.heap.size W w') := fun M hM W xs h => by
    have := swept_any (inB l0 l1) 15 #[.pointer (some ⟨w.heap.size + 1, 0, none⟩)] M hM W (enters_of Try.func15 (by kernel_rfl) rfl) (fun b W1 h1 => sw1_any l0 l1 l2 l3 b _ W1 (h.four.below h1 h.four.lt))
    rw [swept_is _ M hM, sweptN_is] at this
    exact this
  have gb : ∀ (M : List Cp), M.length = 33 → (∀ (W : World) (xs : List (Nat × List Cp)), LwI L l0 l1 l2 l3 w W xs → Calls Try.prog 10 #[.agg (cellsC M).toArray, .func (.func 16) #[] #[.pointer (some ⟨w.heap.size + 1, 0, none⟩)]] W fun e w' => e = .returned (.tuple #[.agg (cellsC (sweepF (inB l2 l3) M)).toArray, .int .i64 (cntF (inB l2 l3) M : Int)]) ∧ Below W.heap.size W w') := fun M hM W xs h => by
    have := swept_any (inB l2 l3) 16 #[.pointer (some ⟨w.heap.size + 1, 0, none⟩)] M hM W (enters_of Try.func16 (by kernel_rfl) rfl) (fun b W1 h1 => sw2_any l0 l1 l2 l3 b _ W1 (h.four.below h1 h.four.lt))
    rw [swept_is _ M hM, sweptN_is] at this
    exact this
  have gc : ∀ (M : List Cp), M.length = 33 → (∀ (W : World) (xs : List (Nat × List Cp)), LwI L l0 l1 l2 l3 w W xs → Calls Try.prog 10 #[.agg (cellsC M).toArray, .func (.func 17) #[] #[.pointer (some ⟨w.heap.size + 1 + 1, 0, none⟩), .pointer (some ⟨w.heap.size + 1 + 1 + 1, 0, none⟩)]] W fun e w' => e = .returned (.tuple #[.agg (cellsC (sweepF (fun b => inB l0 l1 b || inB l2 l3 b) M)).toArray, .int .i64 (cntF (fun b => inB l0 l1 b || inB l2 l3 b) M : Int)]) ∧ Below W.heap.size W w') := fun M hM W xs h => by
    have := swept_any (fun b => inB l0 l1 b || inB l2 l3 b) 17 #[.pointer (some ⟨w.heap.size + 1 + 1, 0, none⟩), .pointer (some ⟨w.heap.size + 1 + 1 + 1, 0, none⟩)] M hM W (enters_of Try.func17 (by kernel_rfl) rfl) (fun b W1 h1 => sw3_any l0 l1 l2 l3 b (w.heap.size + 1) _ _ W1 (h.four.below h1 h.four.lt) ((h1.cell (p := ⟨_, 0, none⟩) h.fa.lt).trans h.fa.cell) ((h1.cell (p := ⟨_, 0, none⟩) h.fb.lt).trans h.fb.cell) (Nat.lt_of_lt_of_le h.fa.lt h1.size) (Nat.lt_of_lt_of_le h.fb.lt h1.size))
    rw [swept_is _ M hM, sweptN_is] at this
    exact this
  have e1 : sweepF (inB l2 l3) (sweepF (inB l0 l1) L) = sweepF (fun b => inB l0 l1 b || inB l2 l3 b) L := sweep_both _ _ _ (fun _ => rfl) L
  have e2 : sweepF (inB l0 l1) (sweepF (inB l2 l3) L) = sweepF (fun b => inB l0 l1 b || inB l2 l3 b) L := sweep_both _ _ _ (fun _ => Bool.or_comm _ _) L
  have e3 : cntF (inB l2 l3) (sweepF (fun b => inB l0 l1 b || inB l2 l3 b) L) = 0 := by
    rw [← e1]
    exact count_again (inB l2 l3) (inB l2 l3) (sweepF (inB l0 l1) L)
  have g2 := gb _ (sweepF_len (inB l0 l1) L)
  rw [e1] at g2
  have g5 := ga _ (sweepF_len (inB l2 l3) L)
  rw [e2] at g5
  have g6 := gb _ (sweepF_len (fun b => inB l0 l1 b || inB l2 l3 b) L)
  rw [e3] at g6
  exact ⟨_, _, _, _, _, _, _, _, _, sweepF_len _ _, sweepF_len _ _, sweepF_len _ _, sweepF_len _ _, cntF_le _ _, cntF_le _ _, count_both (inB l0 l1) (inB l2 l3) _ (fun _ => rfl) L, ga L hL, g2, gc L hL, gb L hL, g5, g6⟩
end Go.Proofs.Ytpjcijmdoofcbaa
