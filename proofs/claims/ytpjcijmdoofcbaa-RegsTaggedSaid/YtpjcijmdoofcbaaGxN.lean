
/-
  RegsTagged: the walk.
-/
import Derived.Test.YtpjcijmdoofcbaaGxM
import Derived.Laws.EntriesVeiled
namespace Go.Proofs.Ytpjcijmdoofcbaa
open Go Go.RowKit
set_option linter.unusedVariables false
set_option linter.unusedSimpArgs false

attribute [local irreducible] zeroL cellsC oneL
theorem min_ite (a b : Int) : min a b = if b < a then b else a := by omega
theorem seq_nil (f : Fn) (a b : Array Value) (w : World) : (binOp .eql 29 (.func f a b) Value.nilFunc).run Try.prog w = .ok (.bool false) w := by kernel_rfl
attribute [local go_sem 3000] seq_nil
set_option maxHeartbeats 8000000 in
set_option maxRecDepth 100000 in
theorem tagged_walk (L : List Cp) (hL : L.length = 33) (y : Int) (hy0 : -9223372036854775808 ≤ y) (hy1 : y ≤ 9223372036854775807) (w : World) : Calls Try.prog 3 #[.agg (cellsC L).toArray, .int .i64 y] w fun e w' => e = .returned (.bool true) ∧ Below w.heap.size w w' := by
  obtain ⟨M, hMM⟩ : ∃ M, M = L.set 0 ⟨false, 0#64, 0#64⟩ := ⟨_, rfl⟩
  have hM : M.length = 33 := by rw [hMM, List.length_set]; exact hL
  have hM0 : (capAt M 0).g = false := by
    have : M[0]? = some ⟨false, 0#64, 0#64⟩ := by rw [hMM, List.getElem?_set_self (by omega)]
    show ((M[0]?).getD default).g = false
    rw [this]
    rfl
  have gd := ctx_guard
  go_enter Try.func3, Try.ntmps3
  go_upto_region 1 with (fail)
  obtain ⟨W1, hW1⟩ : ∃ W1, W1 = (w.alloc (.cells (cellsC L).toArray 27)).alloc (.cells #[.int .i64 y] 3) := ⟨_, rfl⟩
  have hs1 : W1.heap.size = w.heap.size + 1 + 1 := by rw [hW1]; simp
  have c1 : CtxAt W1 w.heap.size L := by rw [hW1]; exact CtxAt.alloc (World.alloc_heap_new w _) _
  have b1 : Boxed W1 (w.heap.size + 1) 3 (.int .i64 y) := by
    have := Boxed.new (w.alloc (.cells (cellsC L).toArray 27)) 3 (.int .i64 y)
    rw [World.size_alloc] at this
    rw [hW1]
    exact this
  have bw1 : Below w.heap.size w W1 := by rw [hW1]; (repeat (first | with_reducible exact Below.refl _ _ | with_reducible assumption | with_reducible refine below_drewN ?_ _ | with_reducible refine Below.drew ?_ | with_reducible refine below_alloc ?_ _ | (with_reducible refine Below.setCell ?_ (by first | (simp; done) | omega | (simp; omega)) _) | with_reducible refine belows ?_ (by assumption)))
  rw [← hW1]
  clear hW1
  obtain ⟨x0, x1, x2⟩ := c1.cells 0 _ (capAt_get L 0 (by omega))
  have f0 := c1.frozen (0 * 3)
  have f1 := c1.frozen (0 * 3 + 1)
  have f2 := c1.frozen (0 * 3 + 2)
  have lt1 := c1.lt
  obtain ⟨W2, hW2⟩ : ∃ W2, W2 = ((W1.setCell ⟨w.heap.size, 0, none⟩ (.bool false)).setCell ⟨w.heap.size, 1, none⟩ (.int .u64 0)).setCell ⟨w.heap.size, 2, none⟩ (.int .u64 0) := ⟨_, rfl⟩
  have c2 : CtxAt W2 w.heap.size M := by rw [hW2, hMM]; exact c1.set 0 ⟨false, 0#64, 0#64⟩ (by omega)
  have b2 : Boxed W2 (w.heap.size + 1) 3 (.int .i64 y) := by
    rw [hW2]
    exact box_other (box_other (box_other b1 _ _ (show w.heap.size + 1 ≠ w.heap.size by omega)) _ _ (show w.heap.size + 1 ≠ w.heap.size by omega)) _ _ (show w.heap.size + 1 ≠ w.heap.size by omega)
  have hs2 : W2.heap.size = w.heap.size + 1 + 1 := by rw [hW2]; simpa using hs1
  have bw2 : Below w.heap.size w W2 := by rw [hW2]; exact ((bw1.setCell (show w.heap.size ≤ w.heap.size from Nat.le_refl _) _).setCell (show w.heap.size ≤ w.heap.size from Nat.le_refl _) _).setCell (show w.heap.size ≤ w.heap.size from Nat.le_refl _) _
  go_upto_region 2 with (fail)
  rw [← hW2]
  clear hW2 x0 x1 x2 f0 f1 f2 lt1 hMM c1 b1 hs1 bw1
  have hC2 := Lib.hid c2
  clear c2
  go_wp2_with (first
    | (refine wpList_load_ctx rfl _ rfl _ rfl M ?_ hM ?_; (focus (with_reducible exact hC2.out)))
    | (go_at_call 6; refine (tagged_any M _).mono ?_; rintro e w3 ⟨rfl, rfl⟩))
  obtain ⟨W3, hW3⟩ : ∃ W3, W3 = W2.alloc (.cells (cellsC M).toArray 27) := ⟨_, rfl⟩
  have hs3 : W3.heap.size = w.heap.size + 1 + 1 + 1 := by rw [hW3, World.size_alloc, hs2]
  have c3 : CtxAt W3 w.heap.size M := by rw [hW3]; exact hC2.out.alloc _
  have b3 : Boxed W3 (w.heap.size + 1) 3 (.int .i64 y) := by rw [hW3]; exact b2.alloc _
  have d3 : CtxAt W3 (w.heap.size + 1 + 1) M := by
    have : CtxAt (W2.alloc (.cells (cellsC M).toArray 27)) W2.heap.size M := World.alloc_heap_new _ _
    rw [hs2] at this
    rw [hW3]
    exact this
  have bw3 : Below w.heap.size w W3 := by rw [hW3]; exact bw2.alloc (by omega) _
  rw [← hW3]
  have hT : ∀ k, (capAt M k).g = tg M k := fun k => by
    unfold tg
    by_cases h : 1 ≤ k
    · rw [decide_eq_true h, Bool.true_and]
    · obtain rfl : k = 0 := by omega
      rw [hM0]
      rfl
  have HC := Lib.hid c3
  have HD := Lib.hid d3
  have HT := Lib.hid hT
  clear hW3 c3 d3 hT hM0 hC2 hs2 b2 bw2
  go_loop [6, 7] (fun c i => ∃ k : Nat, k ≤ 32 ∧ i = .int .i64 k ∧ c = .int .i64 ((tagsTo M k).length : Nat))
    (fun c i => 32 - (intOf i).toNat)
  case atStart => exact ⟨0, by omega, rfl, rfl⟩
  case round =>
    obtain ⟨k, hk, rfl, rfl⟩ := hrel
    have hlen := tagsTo_len M k
    by_cases hlt : (k : Int) < 32
    · obtain ⟨x0, x1, x2⟩ := HC.out.cells k _ (capAt_get M k (by omega))
      have HS := Lib.hid (tagsTo_succ M k)
      rw [HT.out] at x0
      cases hbit : tg M k
      all_goals
        rw [hbit] at x0
        go_wp2
        go_round
        case rel => exact ⟨k + 1, by omega, by go_num, by rw [HS.out, hbit]; simp⟩
        case measure => (simp [intOf]; omega)
    · obtain rfl : k = 32 := by omega
      obtain ⟨x0, x1, x2⟩ := HC.out.cells 32 _ (capAt_get M 32 (by omega))
      have HS := Lib.hid (tagsTo_succ M 32)
      rw [HT.out] at x0
      obtain ⟨S, z, hz, hz0, hz1, hS, hP, s1, s2, s3, s4⟩ := tagged_calls M hM y w
      have hI3 : TgI M y 0 0 w (((W3.alloc (.cells #[.int .i64 0] 3)).alloc (.cells #[.int .i64 0] 3)).alloc (.cells #[.bool true] 4)) := by
        have h1 := Boxed.new W3 3 (.int .i64 0)
        have h2 := Boxed.new (W3.alloc (.cells #[.int .i64 0] 3)) 3 (.int .i64 0)
        have h3 := Boxed.new ((W3.alloc (.cells #[.int .i64 0] 3)).alloc (.cells #[.int .i64 0] 3)) 4 (.bool true)
        simp only [World.size_alloc, hs3] at h1 h2 h3
        exact ⟨((HC.out.alloc _).alloc _).alloc _, ((b3.alloc _).alloc _).alloc _, ((HD.out.alloc _).alloc _).alloc _, (h1.alloc _).alloc _, h2.alloc _, h3, by (repeat (first | with_reducible exact Below.refl _ _ | with_reducible assumption | with_reducible refine below_drewN ?_ _ | with_reducible refine Below.drew ?_ | with_reducible refine below_alloc ?_ _ | (with_reducible refine Below.setCell ?_ (by first | (simp; done) | omega | (simp; omega)) _) | with_reducible refine belows ?_ (by assumption)))⟩
      have HI := Lib.hid hI3
      rw [HS.out, List.length_append] at hz
      clear hI3 HD HS
      generalize (tagsTo M 32).length = n32 at hz hlen ⊢
      cases hbit : tg M 32
      all_goals
        rw [hbit] at x0 hz
        simp at hz
        subst hz
        go_wp2_with (first
          | (go_at_call 26; with_reducible refine (s1 _ HI.out).mono ?_; rintro e W4 ⟨⟨v4, rfl⟩, l4, hI4⟩; clear HI; have HI := Lib.hid hI4; clear hI4; have sz4 := HI.out.bf.lt)
          | (go_at_call 26; with_reducible refine (s2 _ _ _ HI.out).mono ?_; rintro e W5 ⟨⟨v5, rfl⟩, hI5, hb5⟩; clear HI; have HI := Lib.hid hI5; have HF := Lib.hid hb5; clear hI5 hb5)
          | (go_at_call 26; with_reducible refine (s4 _ _ _ HS8.out).mono ?_; rintro e W8 ⟨⟨v8, rfl⟩, hW8⟩)
          | (go_at_call 10; refine (s3 _).mono ?_; rintro e W6 ⟨rfl, hb6⟩; have hI6 := HI.out.keep hb6; have hf6 : Boxed W6 _ _ _ := (hb6.block _ HF.out.lt).trans HF.out; clear HI HF hb6; have HI := Lib.hid hI6; have HF := Lib.hid hf6; clear hI6 hf6)
          | (refine wpList_load_ctx rfl _ rfl _ rfl M ?_ hM ?_; (focus (with_reducible exact HI.out.src)))
          | (refine wpList_load_ctx rfl _ rfl _ rfl S ?_ hS ?_; (focus (with_reducible exact HS7.out)))
          | (refine wpList_store_ctx rfl _ _ rfl _ zeroL S rfl rfl ?_ zeroL_len hS ?_; (focus exact World.alloc_heap_new _ _); intro W7 hst; have z1 := HI.out.bf.lt; have z2 := HF.out.lt; have hI7 := HI.out.stored hst; have hf7 := stored_box hst HF.out; have hs7 : CtxAt (W7.alloc (.cells #[.int .i64 0] 3)) _ S := hst.at_.alloc _; have hs6 := hst.at_; have hs8 := ctx_second W7 S; have sz7 := hst.size; rewrite [World.size_alloc] at sz7; rewrite [sz7] at hs8; clear HI HF; have HI := Lib.hid hI7; have HF := Lib.hid hf7; have HS7 := Lib.hid hs7; have HS8 := Lib.hid hs8; have HS6 := Lib.hid hs6; clear hI7 hf7 hs7 hs8 hs6 hst)
          | (go_at_call 6; refine (tagged_any S _).mono ?_; rintro e w8 ⟨rfl, rfl⟩))
      all_goals
        have hlast := last_facts HI.out HF.out HS6.out sz7
        generalize (W7.alloc (.cells #[.int .i64 0] 3)).alloc (.cells (cellsC S).toArray 27) = W8 at hlast ⊢
        obtain ⟨i8, f8, g8, s8⟩ := hlast
        clear HI HF HS6 HS7 HS8 HC HT s1 s2 s3 s4 sz7 z1 z2 sz4
        have e1 := i8.bf.cell
        have e2 := i8.bn.cell
        have e3 := f8.cell
        rw [min_ite] at e3
        have e4 := i8.most.cell
        have e5 := g8.cell
        have l1 := i8.bf.lt
        have l3 := f8.lt
        have l5 := g8.lt
        obtain ⟨p0, p1, p2⟩ := s8.cells 32 _ (capAt_get S 32 (by omega))
        obtain ⟨r0, r1, r2⟩ := i8.src.cells 32 _ (capAt_get M 32 (by omega))
        rw [hP] at p0 p1 p2
        simp only [clearC] at p0 p1 p2
        have bw8 := i8.below
        clear i8 f8 g8 s8 hP
        have cc := fun w : World => clear_any (capAt M 32) w
        have cg := cap_guard
        have hee : ∀ w : World, (binOp .eql 24 (.agg #[.bool false, .int .u64 (U (capAt M 32).m), .int .u64 (U (capAt M 32).a)]) (.agg #[.bool false, .int .u64 (U (capAt M 32).m), .int .u64 (U (capAt M 32).a)])).run Try.prog w = .ok (.bool true) w := fun w => by
          have := cap_eql false false (capAt M 32).m (capAt M 32).a (capAt M 32).m (capAt M 32).a w
          simpa using this
        refine wp_region_below (by kernel_rfl) (by kernel_rfl) (fun hcr hfr => ?_)
        repeat (go_big_quiet_step (first | (go_at_call 13; first | with_reducible exact Calls.regrown_of (cc _) | with_reducible exact regrown_k (cc _) | with_reducible exact regrown_1 (cc _) | with_reducible exact regrown_a (cc _)) | (go_at_call 14; first | with_reducible exact Calls.regrown_of (one_any _) | with_reducible exact regrown_k (one_any _) | with_reducible exact regrown_1 (one_any _) | with_reducible exact regrown_a (one_any _))))
        refine wpQuiet_nil ?_
        intro wz hbz
        clear hcr hfr
        go_wp2_with (fail)
        all_goals
          go_ret
          exact ⟨rfl, bw8.trans (hbz.mono (by omega))⟩
end Go.Proofs.Ytpjcijmdoofcbaa
