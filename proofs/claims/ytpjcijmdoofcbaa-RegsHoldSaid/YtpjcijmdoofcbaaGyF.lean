
/-
  regs.Set; Swept of nothing; the law's closure.
-/
import Derived.Test.YtpjcijmdoofcbaaGyE
import Derived.BigRegion
import Derived.Deep.RegionLaw
import Derived.Stop.RegionWithIn
import Derived.Laws.EntriesVeiled
namespace Go.Proofs.Ytpjcijmdoofcbaa
open Go Go.RowKit
set_option linter.unusedVariables false
set_option linter.unusedSimpArgs false

attribute [local irreducible] zeroL cellsC withF
theorem nil_nil (w : World) : (binOp .eql 35 Value.nilFunc Value.nilFunc).run Try.prog w = .ok (.bool true) w := by kernel_rfl
attribute [local go_sem 3000] nil_nil
/-- Three numbers lie in a block. -/
def ThreeAt (W : World) (g : Nat) (l0 l1 l2 : BitVec 64) : Prop := W.heap[g]? = some (.cells #[.int .u64 (U l0), .int .u64 (U l1), .int .u64 (U l2)] 41 (0, 0))
theorem ThreeAt.lt {W : World} {g : Nat} {l0 l1 l2 : BitVec 64} (h : ThreeAt W g l0 l1 l2) : g < W.heap.size := by
  unfold ThreeAt at h
  exact (Array.getElem?_eq_some_iff.1 h).1
theorem ThreeAt.below {W W' : World} {g B : Nat} {l0 l1 l2 : BitVec 64} (h : ThreeAt W g l0 l1 l2) (hb : Below B W W') (hB : g < B) : ThreeAt W' g l0 l1 l2 := (hb.block _ hB).trans h
theorem ThreeAt.cells {W : World} {g : Nat} {l0 l1 l2 : BitVec 64} (h : ThreeAt W g l0 l1 l2) : W.cell? ⟨g, 0, none⟩ = some (.int .u64 (U l0)) ∧ W.cell? ⟨g, 1, none⟩ = some (.int .u64 (U l1)) ∧ W.cell? ⟨g, 2, none⟩ = some (.int .u64 (U l2)) :=
  ⟨(cell_of_row W g 0 _ _ _ h).trans rfl, (cell_of_row W g 1 _ _ _ h).trans rfl, (cell_of_row W g 2 _ _ _ h).trans rfl⟩
set_option maxHeartbeats 4000000 in
set_option maxRecDepth 100000 in
theorem hold1_any (l0 l1 l2 b : BitVec 64) (g : Nat) (w : World) (h : ThreeAt w g l0 l1 l2) : Calls Try.prog 19 #[.int .u64 (U b), .pointer (some ⟨g, 0, none⟩)] w fun e w' => e = .returned (.bool (inB l1 l2 b)) ∧ Below w.heap.size w w' := by
  obtain ⟨x0, x1, x2⟩ := h.cells
  unfold inB
  go_enter Try.func19, Try.ntmps19
  cases h1 : decide (U l1 ≤ U b) <;> cases h2 : decide (U b < U l2)
  all_goals
    go_wp2_with fail
    go_ret
    exact ⟨rfl, by (repeat (first | with_reducible exact Below.refl _ _ | with_reducible assumption | with_reducible refine below_drewN ?_ _ | with_reducible refine Below.drew ?_ | with_reducible refine below_alloc ?_ _ | (with_reducible refine Below.setCell ?_ (by first | (simp; done) | omega | (simp; omega)) _) | with_reducible refine belows ?_ (by assumption)))⟩
set_option maxHeartbeats 4000000 in
set_option maxRecDepth 100000 in
theorem set_is (L : List Cp) (hL : L.length = 33) (n : Int) (x : BitVec 64) (w : World) : Calls Try.prog 24 #[.agg (cellsC L).toArray, .int .i64 n, .int .u64 (U x)] w fun e w' => e = .returned (.agg (cellsC (withF L n ⟨false, 0#64, x⟩)).toArray) ∧ Below w.heap.size w w' := by
  have cn : ∀ w : World, Calls Try.prog 29 #[.int .u64 (U x)] w fun r w' => r = .returned (.agg #[.bool false, .int .u64 0, .int .u64 (U x)]) ∧ Below w.heap.size w w' := fun w => null_any x w
  have cw : ∀ w : World, Calls Try.prog 22 #[.agg (cellsC L).toArray, .int .i64 n, .agg #[.bool false, .int .u64 0, .int .u64 (U x)]] w fun e w' => e = .returned (.agg (cellsC (withF L n ⟨false, 0#64, x⟩)).toArray) ∧ Below w.heap.size w w' := fun w => with_is L hL n ⟨false, 0#64, x⟩ w
  have hM := withF_len hL n ⟨false, 0#64, x⟩
  generalize withF L n ⟨false, 0#64, x⟩ = M at cw hM ⊢
  obtain ⟨W1, hW1⟩ : ∃ W1, W1 = (w.alloc (.cells (cellsC L).toArray 27)).alloc (.cells (cellsC zeroL).toArray 27) := ⟨_, rfl⟩
  have s1 : W1.heap.size = w.heap.size + 1 + 1 := by rw [hW1]; simp
  have c1 : CtxAt W1.drew w.heap.size L := by rw [hW1]; exact CtxAt.alloc (World.alloc_heap_new w _) _
  have z1 : CtxAt W1.drew (w.heap.size + 1) zeroL := by
    have : CtxAt ((w.alloc (.cells (cellsC L).toArray 27)).alloc (.cells (cellsC zeroL).toArray 27)) (w.alloc (.cells (cellsC L).toArray 27)).heap.size zeroL := World.alloc_heap_new _ _
    rw [World.size_alloc] at this
    rw [hW1]
    exact this
  have b1 : Below w.heap.size w W1.drew := by rw [hW1]; exact Below.drew (by (repeat (first | with_reducible exact Below.refl _ _ | with_reducible assumption | with_reducible refine below_drewN ?_ _ | with_reducible refine Below.drew ?_ | with_reducible refine below_alloc ?_ _ | (with_reducible refine Below.setCell ?_ (by first | (simp; done) | omega | (simp; omega)) _) | with_reducible refine belows ?_ (by assumption))))
  have HC := Lib.hid c1
  have HZ := Lib.hid z1
  have HB := Lib.hid b1
  clear c1 z1 b1
  go_enter Try.func24, Try.ntmps24
  go_upto_region 1 with (fail)
  rw [← hW1]
  clear hW1
  refine wp_region_any (by kernel_rfl) ?_
  change wpAny _ _ _ _ _ _ _ (World.drew _)
  refine wpAny_take (i := 1) (v := ?_) rfl (by kernel_rfl) (by kernel_rfl) (by kernel_rfl) (fun _ _ _ h => h) (Or.inl ⟨by rfl, ?_⟩) ?_
  rotate_left
  · intro w
    go_simp
    with_reducible rfl
  refine wpAny_take (i := 2) (v := ?_) rfl (by kernel_rfl) (by kernel_rfl) (by kernel_rfl) (fun _ _ _ h => h) (Or.inl ⟨by rfl, ?_⟩) ?_
  rotate_left
  · intro w
    go_simp
    with_reducible rfl
  have s1' : W1.drew.heap.size = w.heap.size + 1 + 1 := s1
  refine wpAny_ready (rs := [0, 3]) (by decide +kernel) (by simp) ?_
  refine AllReady.cons rfl (fun K hK => ?_) (AllReady.cons rfl (fun K hK => ?_) AllReady.nil)
  · skip
    refine step_load_ctx rfl _ rfl w.heap.size rfl L ?_ hL ?_
    · exact HC.out
    refine hK _ _ ?_
    clear hK K
    refine wpAny_ready (rs := [3]) (by decide +kernel) (by simp) ?_
    refine AllReady.cons rfl (fun K hK => ?_) AllReady.nil
    go_simp
    go_at_call 29
    refine (cn _).mono ?_
    rintro e w5 ⟨rfl, hb5⟩
    have HC5 := Lib.hid (HC.out.below hb5 (by omega))
    have HZ5 := Lib.hid (HZ.out.below hb5 (by omega))
    have HB5 := Lib.hid (HB.out.trans (hb5.mono (by omega)))
    have s5 := hb5.size
    refine hK _ _ ?_
    clear hK K
    refine wpAny_ready (rs := [4]) (by decide +kernel) (by simp) ?_
    refine AllReady.cons rfl (fun K hK => ?_) AllReady.nil
    go_simp
    go_at_call 22
    refine (cw _).mono ?_
    rintro e w6 ⟨rfl, hb6⟩
    have HZ6 := Lib.hid (HZ5.out.below hb6 (by omega))
    have HB6 := Lib.hid (HB5.out.trans (hb6.mono (by omega)))
    refine hK _ _ ?_
    clear hK K
    refine wpAny_ready (rs := [5]) (by decide +kernel) (by simp) ?_
    refine AllReady.cons rfl (fun K hK => ?_) AllReady.nil
    refine step_store_ctx rfl _ _ rfl (w.heap.size + 1) zeroL M rfl rfl ?_ zeroL_len hM ?_
    · exact HZ6.out
    intro w7 hst
    have HST := Lib.hid hst
    clear hst
    refine hK _ _ ?_
    clear hK K
    refine wpAny_done (by decide +kernel) ?_ _
    go_wp2_with fail
    refine bodyPost_ret (ret_ctx Try.results24 _ _ (w.heap.size + 1) M rfl HST.out.at_ hM) rfl ?_
    exact ⟨rfl, HST.out.below HB6.out (by omega)⟩
  · skip
    go_simp
    go_at_call 29
    refine (cn _).mono ?_
    rintro e w5 ⟨rfl, hb5⟩
    have HC5 := Lib.hid (HC.out.below hb5 (by omega))
    have HZ5 := Lib.hid (HZ.out.below hb5 (by omega))
    have HB5 := Lib.hid (HB.out.trans (hb5.mono (by omega)))
    have s5 := hb5.size
    refine hK _ _ ?_
    clear hK K
    refine wpAny_ready (rs := [0]) (by decide +kernel) (by simp) ?_
    refine AllReady.cons rfl (fun K hK => ?_) AllReady.nil
    refine step_load_ctx rfl _ rfl w.heap.size rfl L ?_ hL ?_
    · exact HC5.out
    refine hK _ _ ?_
    clear hK K
    refine wpAny_ready (rs := [4]) (by decide +kernel) (by simp) ?_
    refine AllReady.cons rfl (fun K hK => ?_) AllReady.nil
    go_simp
    go_at_call 22
    refine (cw _).mono ?_
    rintro e w6 ⟨rfl, hb6⟩
    have HZ6 := Lib.hid (HZ5.out.below hb6 (by omega))
    have HB6 := Lib.hid (HB5.out.trans (hb6.mono (by omega)))
    refine hK _ _ ?_
    clear hK K
    refine wpAny_ready (rs := [5]) (by decide +kernel) (by simp) ?_
    refine AllReady.cons rfl (fun K hK => ?_) AllReady.nil
    refine step_store_ctx rfl _ _ rfl (w.heap.size + 1) zeroL M rfl rfl ?_ zeroL_len hM ?_
    · exact HZ6.out
    intro w7 hst
    have HST := Lib.hid hst
    clear hst
    refine hK _ _ ?_
    clear hK K
    refine wpAny_done (by decide +kernel) ?_ _
    go_wp2_with fail
    refine bodyPost_ret (ret_ctx Try.results24 _ _ (w.heap.size + 1) M rfl HST.out.at_ hM) rfl ?_
    exact ⟨rfl, HST.out.below HB6.out (by omega)⟩
end Go.Proofs.Ytpjcijmdoofcbaa
