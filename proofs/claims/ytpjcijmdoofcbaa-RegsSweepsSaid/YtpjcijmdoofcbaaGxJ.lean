
/-
  RegsSweeps: the walk.
-/
import Derived.Test.YtpjcijmdoofcbaaGxI
import Derived.BigRegion
import Derived.Laws.EntriesVeiled
namespace Go.Proofs.Ytpjcijmdoofcbaa
open Go Go.RowKit
set_option linter.unusedVariables false
set_option linter.unusedSimpArgs false

attribute [local irreducible] zeroL cellsC oneL
theorem wpList_load_ctx_w {ops : Array Oper} {rest : List Oper} {o : Oper} {a : Act} {w : World} {Q : Exit → Act → World → Prop} (hw : Region.wanted o (yielded ops a.tmps) = true) (x : Operand) (ho : o.op = .load 27 x)
    (g : Nat) (hx : a.eval x = .pointer (some ⟨g, 0, none⟩)) (L : List Cp) (hg : CtxAt w g L) (hL : L.length = 33)
    (h : wpList Try.prog ops Q rest (a.put o.dst (.agg (cellsC L).toArray)) w) : wpList Try.prog ops Q (o :: rest) a w := by
  unfold wpList
  rw [if_pos hw]
  exact .inl (wp_load_row 27 x ho g hx _ _ (0, 0) _ hg Try.underlying27 rfl (by rw [ctx_size hL]; exact size_ctx) h)
theorem LwI.at0 {L M : List Cp} {l0 l1 l2 l3 : BitVec 64} {w W : World} {g : Nat} {xs : List (Nat × List Cp)}  (h : LwI L l0 l1 l2 l3 w W ((g, M) :: xs)) : CtxAt W g M := h.ctxs (g, M) (by simp)
theorem LwI.at1 {L M : List Cp} {l0 l1 l2 l3 : BitVec 64} {w W : World} {g : Nat} {xs : List (Nat × List Cp)} {a0 : Nat × List Cp} (h : LwI L l0 l1 l2 l3 w W (a0 :: (g, M) :: xs)) : CtxAt W g M := h.ctxs (g, M) (by simp)
theorem LwI.at2 {L M : List Cp} {l0 l1 l2 l3 : BitVec 64} {w W : World} {g : Nat} {xs : List (Nat × List Cp)} {a0 : Nat × List Cp} {a1 : Nat × List Cp} (h : LwI L l0 l1 l2 l3 w W (a0 :: a1 :: (g, M) :: xs)) : CtxAt W g M := h.ctxs (g, M) (by simp)
theorem LwI.at3 {L M : List Cp} {l0 l1 l2 l3 : BitVec 64} {w W : World} {g : Nat} {xs : List (Nat × List Cp)} {a0 : Nat × List Cp} {a1 : Nat × List Cp} {a2 : Nat × List Cp} (h : LwI L l0 l1 l2 l3 w W (a0 :: a1 :: a2 :: (g, M) :: xs)) : CtxAt W g M := h.ctxs (g, M) (by simp)
theorem LwI.at4 {L M : List Cp} {l0 l1 l2 l3 : BitVec 64} {w W : World} {g : Nat} {xs : List (Nat × List Cp)} {a0 : Nat × List Cp} {a1 : Nat × List Cp} {a2 : Nat × List Cp} {a3 : Nat × List Cp} (h : LwI L l0 l1 l2 l3 w W (a0 :: a1 :: a2 :: a3 :: (g, M) :: xs)) : CtxAt W g M := h.ctxs (g, M) (by simp)
theorem LwI.at5 {L M : List Cp} {l0 l1 l2 l3 : BitVec 64} {w W : World} {g : Nat} {xs : List (Nat × List Cp)} {a0 : Nat × List Cp} {a1 : Nat × List Cp} {a2 : Nat × List Cp} {a3 : Nat × List Cp} {a4 : Nat × List Cp} (h : LwI L l0 l1 l2 l3 w W (a0 :: a1 :: a2 :: a3 :: a4 :: (g, M) :: xs)) : CtxAt W g M := h.ctxs (g, M) (by simp)
set_option maxHeartbeats 8000000 in
set_option maxRecDepth 100000 in
theorem sweeps_walk (L : List Cp) (hL : L.length = 33) (l0 l1 l2 l3 : BitVec 64) (w : World) : Calls Try.prog 4 #[.agg (cellsC L).toArray, .agg #[.int .u64 (U l0), .int .u64 (U l1), .int .u64 (U l2), .int .u64 (U l3)]] w fun e w' => e = .returned (.bool true) ∧ Below w.heap.size w w' := by
  obtain ⟨X, Z, V, O, n, m, k, n4, n5, hX, hZ, hV, hO, hn, hm, hk, s1, s2, s3, s4, s5, s6⟩ := six L hL l0 l1 l2 l3 w
  have hq : ((n : Int) + (m : Int) == (k : Int)) = true := by rw [beq_iff_eq]; omega
  have gd := ctx_guard
  have z1 := ctx_eql Z hZ
  have hI0 : LwI L l0 l1 l2 l3 w ((((w.alloc (.cells (cellsC L).toArray 27)).alloc (.cells #[.int .u64 (U l0), .int .u64 (U l1), .int .u64 (U l2), .int .u64 (U l3)] 39)).alloc (.cells #[.func (.func 15) #[] #[.pointer (some ⟨w.heap.size + 1, 0, none⟩)]] 35)).alloc (.cells #[.func (.func 16) #[] #[.pointer (some ⟨w.heap.size + 1, 0, none⟩)]] 35)) [] := by
    have h1 : FourAt ((w.alloc (.cells (cellsC L).toArray 27)).alloc (.cells #[.int .u64 (U l0), .int .u64 (U l1), .int .u64 (U l2), .int .u64 (U l3)] 39)) (w.heap.size + 1) l0 l1 l2 l3 := by
      have := World.alloc_heap_new (w.alloc (.cells (cellsC L).toArray 27)) (.cells #[.int .u64 (U l0), .int .u64 (U l1), .int .u64 (U l2), .int .u64 (U l3)] 39)
      simp only [World.size_alloc] at this
      exact this
    have h2 := Boxed.new ((w.alloc (.cells (cellsC L).toArray 27)).alloc (.cells #[.int .u64 (U l0), .int .u64 (U l1), .int .u64 (U l2), .int .u64 (U l3)] 39)) 35 (.func (.func 15) #[] #[.pointer (some ⟨w.heap.size + 1, 0, none⟩)])
    have h3 := Boxed.new (((w.alloc (.cells (cellsC L).toArray 27)).alloc (.cells #[.int .u64 (U l0), .int .u64 (U l1), .int .u64 (U l2), .int .u64 (U l3)] 39)).alloc (.cells #[.func (.func 15) #[] #[.pointer (some ⟨w.heap.size + 1, 0, none⟩)]] 35)) 35 (.func (.func 16) #[] #[.pointer (some ⟨w.heap.size + 1, 0, none⟩)])
    simp only [World.size_alloc] at h2 h3
    exact ⟨CtxAt.alloc (CtxAt.alloc (CtxAt.alloc (World.alloc_heap_new w _) _) _) _, (heap_alloc_old _ _ (by simp; try omega)).trans ((heap_alloc_old _ _ (by simp; try omega)).trans h1), h2.alloc _, h3, fun x hx => (by cases hx), by (repeat (first | with_reducible exact Below.refl _ _ | with_reducible assumption | with_reducible refine below_drewN ?_ _ | with_reducible refine Below.drew ?_ | with_reducible refine below_alloc ?_ _ | (with_reducible refine Below.setCell ?_ (by first | (simp; done) | omega | (simp; omega)) _) | with_reducible refine belows ?_ (by assumption)))⟩
  have HI := Lib.hid hI0
  clear hI0
  go_enter Try.func4, Try.ntmps4
  go_wp2_with (first
    | (refine wpList_load_ctx rfl _ rfl _ rfl L ?_ hL ?_; (focus (with_reducible exact HI.out.src)))
    | (refine wpList_load_ctx rfl _ rfl _ rfl X ?_ hX ?_; (focus (first | with_reducible exact HI.out.at0 | with_reducible exact HI.out.at1 | with_reducible exact HI.out.at2 | with_reducible exact HI.out.at3 | with_reducible exact HI.out.at4 | with_reducible exact HI.out.at5)))
    | (refine wpList_load_ctx rfl _ rfl _ rfl Z ?_ hZ ?_; (focus (first | with_reducible exact HI.out.at0 | with_reducible exact HI.out.at1 | with_reducible exact HI.out.at2 | with_reducible exact HI.out.at3 | with_reducible exact HI.out.at4 | with_reducible exact HI.out.at5)))
    | (refine wpList_load_ctx_w (by rfl) _ rfl _ rfl Z ?_ hZ ?_; (focus (first | with_reducible exact HI.out.at0 | with_reducible exact HI.out.at1 | with_reducible exact HI.out.at2 | with_reducible exact HI.out.at3 | with_reducible exact HI.out.at4 | with_reducible exact HI.out.at5)))
    | (refine wpList_load_ctx rfl _ rfl _ rfl V ?_ hV ?_; (focus (first | with_reducible exact HI.out.at0 | with_reducible exact HI.out.at1 | with_reducible exact HI.out.at2 | with_reducible exact HI.out.at3 | with_reducible exact HI.out.at4 | with_reducible exact HI.out.at5)))
    | (go_at_call 10; (first | with_reducible refine (s1 _ _ HI.out).mono ?_ | with_reducible refine (s2 _ _ HI.out).mono ?_ | with_reducible refine (s3 _ _ HI.out).mono ?_ | with_reducible refine (s4 _ _ HI.out).mono ?_ | with_reducible refine (s5 _ _ HI.out).mono ?_ | with_reducible refine (s6 _ _ HI.out).mono ?_); rintro e w1 ⟨rfl, hbl⟩)
    | (refine wpList_store_ctx rfl _ _ rfl _ zeroL _ rfl rfl ?_ zeroL_len ?_ ?_; (focus exact World.alloc_heap_new _ _); (focus (first | exact hX | exact hZ | exact hV | exact hO)); intro w2 hst; have HJ := Lib.hid (HI.out.step hbl _ hst); clear HI hst hbl; have HI := HJ; clear HJ; have xa := HI.out.fa.cell; have xb := HI.out.fb.cell)
    | (go_at_call 14; refine (one_any _).mono ?_; rintro e w1 ⟨rfl, hbl⟩))
  go_ret
  exact ⟨rfl, (HI.out.keep hbl).below⟩
end Go.Proofs.Ytpjcijmdoofcbaa
