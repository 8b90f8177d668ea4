
/-
  Swept of nothing.
-/
import Derived.Test.YtpjcijmdoofcbaaGyF
namespace Go.Proofs.Ytpjcijmdoofcbaa
open Go Go.RowKit
set_option linter.unusedVariables false
set_option linter.unusedSimpArgs false

attribute [local irreducible] zeroL cellsC
attribute [local go_sem 3000] nil_nil
set_option maxHeartbeats 4000000 in
set_option maxRecDepth 100000 in
theorem swept_nil (L : List Cp) (hL : L.length = 33) (w : World) : Calls Try.prog 10 #[.agg (cellsC L).toArray, Value.nilFunc] w fun e w' => e = .returned (.tuple #[.agg (cellsC L).toArray, .int .i64 0]) ∧ Below w.heap.size w w' := by
  obtain ⟨W1, hW1⟩ : ∃ W1, W1 = ((w.alloc (.cells (cellsC L).toArray 27)).alloc (.cells #[Value.nilFunc] 35)).alloc (.cells (cellsC zeroL).toArray 27) := ⟨_, rfl⟩
  have s1 : W1.heap.size = w.heap.size + 1 + 1 + 1 := by rw [hW1]; simp
  have c1 : CtxAt W1 w.heap.size L := by rw [hW1]; exact CtxAt.alloc (CtxAt.alloc (World.alloc_heap_new w _) _) _
  have n1 : Boxed W1 (w.heap.size + 1) 35 Value.nilFunc := by
    have h := Boxed.new (w.alloc (.cells (cellsC L).toArray 27)) 35 Value.nilFunc
    simp only [World.size_alloc] at h
    rw [hW1]
    exact h.alloc _
  have z1 : CtxAt W1 (w.heap.size + 1 + 1) zeroL := by
    have h : CtxAt (((w.alloc (.cells (cellsC L).toArray 27)).alloc (.cells #[Value.nilFunc] 35)).alloc (.cells (cellsC zeroL).toArray 27)) ((w.alloc (.cells (cellsC L).toArray 27)).alloc (.cells #[Value.nilFunc] 35)).heap.size zeroL := World.alloc_heap_new _ _
    simp only [World.size_alloc] at h
    rw [hW1]
    exact h
  have b1 : Below w.heap.size w W1 := by rw [hW1]; (repeat (first | with_reducible exact Below.refl _ _ | with_reducible assumption | with_reducible refine below_drewN ?_ _ | with_reducible refine Below.drew ?_ | with_reducible refine below_alloc ?_ _ | (with_reducible refine Below.setCell ?_ (by first | (simp; done) | omega | (simp; omega)) _) | with_reducible refine belows ?_ (by assumption)))
  have h3 : CtxAt ((W1.alloc (.cells (cellsC zeroL).toArray 27)).alloc (.cells #[.int .i64 0] 3)) (w.heap.size + 1 + 1 + 1) zeroL := by
    have h : CtxAt (W1.alloc (.cells (cellsC zeroL).toArray 27)) W1.heap.size zeroL := World.alloc_heap_new _ _
    rw [s1] at h
    exact h.alloc _
  have h4 : Boxed ((W1.alloc (.cells (cellsC zeroL).toArray 27)).alloc (.cells #[.int .i64 0] 3)) (w.heap.size + 1 + 1 + 1 + 1) 3 (.int .i64 0) := by
    have h := Boxed.new (W1.alloc (.cells (cellsC zeroL).toArray 27)) 3 (.int .i64 0)
    rw [World.size_alloc, s1] at h
    exact h
  have HC := Lib.hid (And.intro c1 (And.intro z1 (And.intro b1 (And.intro h3 (And.intro h4 n1)))))
  clear c1 z1 b1 h3 h4 n1
  go_enter Try.func10, Try.ntmps10
  go_upto_region 1 with (fail)
  rw [← hW1]
  clear hW1
  go_wp2_with (first
    | (refine wpList_load_ctx rfl _ rfl w.heap.size rfl L ?_ hL ?_; (focus exact HC.out.1))
    | (refine wpList_store_ctx rfl _ _ rfl (w.heap.size + 1 + 1 + 1) zeroL L rfl rfl ?_ zeroL_len hL ?_; (focus exact HC.out.2.2.2.1); intro w3 hst; have HST := Lib.hid hst; clear hst; have y4 : Boxed w3 (w.heap.size + 1 + 1 + 1 + 1) 3 (.int .i64 0) := (HST.out.same _ (by omega)).trans HC.out.2.2.2.2.1; have y1 : Boxed w3 (w.heap.size + 1) 35 Value.nilFunc := (HST.out.same _ (by omega)).trans (((HC.out.2.2.2.2.2).alloc _).alloc _); have e4 := y4.cell; have f4 := y4.frozen; have e1 := y1.cell; have sz3 := HST.out.size; (try simp only [World.size_alloc] at sz3)))
  obtain ⟨W4, hW4⟩ : ∃ W4, W4 = (w3.setCell ⟨w.heap.size + 1 + 1 + 1 + 1, 0, none⟩ (.int .i64 0)).drew := ⟨_, rfl⟩
  have o4 : CtxAt W4 (w.heap.size + 1 + 1 + 1) L := by rw [hW4]; exact HST.out.at_.other _ _ (show w.heap.size + 1 + 1 + 1 ≠ w.heap.size + 1 + 1 + 1 + 1 by omega)
  have z4 : CtxAt W4 (w.heap.size + 1 + 1) zeroL := by rw [hW4]; exact (HST.out.ctx ((HC.out.2.1.alloc _).alloc _) (by omega)).other _ _ (show w.heap.size + 1 + 1 ≠ w.heap.size + 1 + 1 + 1 + 1 by omega)
  have e0 : W4.cell? ⟨w.heap.size + 1 + 1 + 1 + 1, 0, none⟩ = some (.int .i64 0) := by
    rw [hW4]
    exact (Boxed.set (.int .i64 0) y4).cell
  have b4 : Below w.heap.size w W4 := by
    rw [hW4]
    exact ((HST.out.below ((HC.out.2.2.1.alloc (by omega) _).alloc (by simp; omega) _) (by omega)).setCell (show w.heap.size ≤ w.heap.size + 1 + 1 + 1 + 1 by omega) _).drew
  have HO := Lib.hid o4
  have HZ := Lib.hid z4
  have HB := Lib.hid b4
  clear o4 z4 b4 e4 f4 e1 y4 y1 sz3 HC HST
  refine wp_region_any (by kernel_rfl) ?_
  change wpAny _ _ _ _ _ _ _ (World.drew _)
  rw [← hW4]
  clear hW4
  repeat' (first
    | refine wpAny_done (by decide +kernel) ?_ _
    | refine wpAny_ready (rs := [0, 1]) (by decide +kernel) (by simp) ?_
    | refine wpAny_ready (rs := [1, 2]) (by decide +kernel) (by simp) ?_
    | refine wpAny_ready (rs := [0]) (by decide +kernel) (by simp) ?_
    | refine wpAny_ready (rs := [1]) (by decide +kernel) (by simp) ?_
    | refine wpAny_ready (rs := [2]) (by decide +kernel) (by simp) ?_
    | refine wpAny_ready (rs := [3]) (by decide +kernel) (by simp) ?_
    | exact AllReady.nil
    | refine AllReady.cons rfl (fun K hK => ?_) ?_
    | (refine step_load_ctx rfl _ rfl (w.heap.size + 1 + 1 + 1) rfl L ?_ hL ?_; (focus exact HO.out); refine hK _ _ ?_; clear hK K)
    | (refine step_store_ctx rfl _ _ rfl (w.heap.size + 1 + 1) zeroL L rfl rfl ?_ zeroL_len hL ?_; (focus exact HZ.out); intro w7 hst; have e7 := (hst.cell (w.heap.size + 1 + 1 + 1 + 1) 0 (by omega)).trans e0; have HST := Lib.hid hst; clear hst; refine hK _ _ ?_; clear hK K)
    | (go_simp; refine hK _ _ ?_; clear hK K))
  all_goals go_wp2_with fail
  all_goals
    refine bodyPost_ret (ret_ctx_t Try.results10 _ _ (w.heap.size + 1 + 1) L _ rfl rfl HST.out.at_ hL) rfl ?_
    exact ⟨rfl, HST.out.below HB.out (by omega)⟩
end Go.Proofs.Ytpjcijmdoofcbaa
