
/-
  block: writing and reading a block.
-/
import Derived.Test.YtiajkhlcmblfpaaDevM
import Derived.Deep.RegionHeld3
namespace Go.Proofs.Ytiajkhlcmblfpaa
open Go Go.RowKit
set_option linter.unusedVariables false
set_option linter.unusedSimpArgs false

theorem DevC.grown {w w' : World} {c bm n : Nat} {lf : Int} {row : Nat} (h : DevC w c bm n lf) (hg : w.grownBy w' (some row)) (hne : c ≠ row) : DevC w' c bm n lf := by
  have hb := hg.block c h.1 (by intro e; cases e; exact hne rfl)
  exact ⟨Nat.lt_of_lt_of_le h.1 hg.size, (World.cell?_of_block (a := ⟨c, 0, none⟩) hb).trans h.2.1, (World.cell?_of_block (a := ⟨c, 1, none⟩) hb).trans h.2.2.1, (World.cell?_of_block (a := ⟨c, 2, none⟩) hb).trans h.2.2.2.1, (World.frozen?_of_block (a := ⟨c, 2, none⟩) hb).trans h.2.2.2.2⟩
/-- A slice of bytes, where they are. -/
def SrcAt (w : World) (g off : Nat) (s : ByteArray) : Prop := g < w.heap.size ∧ ∀ j u, (byV s)[j]? = some u → w.cell? ⟨g, off + j, none⟩ = some u
theorem SrcAt.below {w w' : World} {g off : Nat} {s : ByteArray} (h : SrcAt w g off s) (hb : Below w.heap.size w w') : SrcAt w' g off s :=
  ⟨Nat.lt_of_lt_of_le h.1 hb.size, fun j u hj => (hb.cell (p := ⟨g, off + j, none⟩) h.1).trans (h.2 j u hj)⟩
theorem RowS.src {w : World} {n₀ g cap : Nat} {s : ByteArray} (h : RowS w n₀ (.slice (some ⟨g, 0, none⟩) 4096 cap) s) : SrcAt w g 0 s :=
  ⟨(h.2.lt g rfl).2, fun j u hj => by
    have hl : j < 4096 := by
      by_cases c : j < 4096
      · exact c
      · rw [List.getElem?_eq_none (by rw [byV_len, h.1]; omega)] at hj; cases hj
    rw [Nat.zero_add, h.2.cellAt j (by omega), hj]⟩
theorem add_off (g off j : Nat) : (⟨g, off, none⟩ : Addr).add j = ⟨g, off + j, none⟩ := by
  unfold Addr.add
  by_cases c : j = 0 <;> simp [c]
theorem grown_trans {w w1 w' : World} {row : Option Nat} (hb : Below w.heap.size w w1) (hg : w1.grownBy w' row) : w.grownBy w' row := by
  refine ⟨?_, ?_, ?_, Nat.le_trans hb.size hg.size, fun k hk hne => (hg.block k (Nat.lt_of_lt_of_le hk hb.size) hne).trans (hb.block k hk)⟩
  · first | exact hg.os.trans hb.os | exact hb.os.trans hg.os
  · first | exact hg.tape.trans hb.tape | exact hb.tape.trans hg.tape
  · first | exact hg.output.trans hb.output | exact hb.output.trans hg.output
section
variable {w : World} {c bm n q : Nat} {lf : Int} {v : Nat → Value}
theorem write_arg (h : DevC w c bm n lf) (k : Int) (a : Option Addr) (len cap : Nat) (hk : k < 0 ∨ (n : Int) ≤ k ∨ len ≠ 4096) : Calls Try.prog 8 #[.pointer (some ⟨c, 0, none⟩), .int .i64 k, .slice a len cap] w fun r w' => r = .returned (.int .i64 2) ∧ Below w.heap.size w w' := by
  have cm := may_arg h k (decide (len = 4096)) (by rcases hk with x | x | x; exact .inl x; exact .inr (.inl x); exact .inr (.inr (decide_eq_false x)))
  by_cases e : len = 4096
  · rw [decide_eq_true e] at cm
    subst e
    clear hk
    go_enter Try.func8, Try.ntmps8
    go_wp2_with (first | (go_at_call 16; (with_reducible refine (cm).mono ?_); rintro e w' ⟨rfl, hbl⟩; obtain ⟨hcw, hfw, hsw⟩ := below_ifs hbl; (try simp only [World.size_alloc, World.size_setCell, World.size_drew, size_drewN_] at hcw hfw hsw)))
    go_ret
    exact ⟨rfl, by (repeat (first | with_reducible exact Below.refl _ _ | with_reducible assumption | with_reducible refine below_drewN ?_ _ | with_reducible refine Below.drew ?_ | with_reducible refine below_alloc ?_ _ | (with_reducible refine Below.setCell ?_ (by first | (simp; done) | omega | (simp; omega)) _) | with_reducible refine belows ?_ (by assumption)))⟩
  · rw [decide_eq_false e] at cm
    have hl : ((len : Int) == 4096) = false := by rw [beq_eq_false_iff_ne]; omega
    clear hk
    go_enter Try.func8, Try.ntmps8
    go_wp2_with (first | (go_at_call 16; (with_reducible refine (cm).mono ?_); rintro e w' ⟨rfl, hbl⟩; obtain ⟨hcw, hfw, hsw⟩ := below_ifs hbl; (try simp only [World.size_alloc, World.size_setCell, World.size_drew, size_drewN_] at hcw hfw hsw)))
    go_ret
    exact ⟨rfl, by (repeat (first | with_reducible exact Below.refl _ _ | with_reducible assumption | with_reducible refine below_drewN ?_ _ | with_reducible refine Below.drew ?_ | with_reducible refine below_alloc ?_ _ | (with_reducible refine Below.setCell ?_ (by first | (simp; done) | omega | (simp; omega)) _) | with_reducible refine belows ?_ (by assumption)))⟩
theorem write_fail (h : DevC w c bm n lf) (k : Nat) (hk : k < n) (hl : 0 < lf) (hl2 : lf ≤ 9223372036854775807) (a : Option Addr) (cap : Nat) : Calls Try.prog 8 #[.pointer (some ⟨c, 0, none⟩), .int .i64 (k : Int), .slice a 4096 cap] w fun r w' => r = .returned (.int .i64 17) ∧ ∃ w1, Below w.heap.size w w1 ∧ w' = w1.setCell ⟨c, 2, none⟩ (.int .i64 (lf - 1)) := by
  have cm := may_fail h k hk hl hl2
  clear hl hl2
  go_enter Try.func8, Try.ntmps8
  go_wp2_with fail
  refine cm.mono ?_
  rintro e w2 ⟨rfl, w1, hb1, rfl⟩
  go_wp2_with fail
  go_ret
  exact ⟨rfl, w1, hb1, rfl⟩
theorem upd_fun (hn : n ≤ 64) (hq : q < 1000) (k : Nat) (hk : k < n) : ∃ F : World → Value → World, ∀ W u, MapV W bm n q v → (Instr.mapUpdate 46 (.map (some bm)) (.int .i64 (k : Int)) u).run Try.prog W = .ok () (F W u) ∧ MapV (F W u) bm n (q + 1) (fun i => if i = k then u else v i) ∧ W.grownBy (F W u) (some bm) := by
  classical
  refine ⟨fun W u => if h : MapV W bm n q v then (h.put hn hq k hk u).choose else W, fun W u hW => ?_⟩
  simp only [dif_pos hW]
  exact (hW.put hn hq k hk u).choose_spec
set_option maxHeartbeats 8000000 in
set_option maxRecDepth 100000 in
theorem write_ok (h : DevC w c bm n lf) (hM : MapV w bm n q v) (hcb : c ≠ bm) (hn : n ≤ 64) (hq : q < 1000) (k : Nat) (hk : k < n) (hl : lf ≤ 0) (g off cap : Nat) (s : ByteArray) (hs : s.size = 4096) (hsrc : SrcAt w g off s) : Calls Try.prog 8 #[.pointer (some ⟨c, 0, none⟩), .int .i64 (k : Int), .slice (some ⟨g, off, none⟩) 4096 cap] w fun r w' => r = .returned (.int .i64 0) ∧ ∃ u, MapV w' bm n (q + 1) (fun i => if i = k then u else v i) ∧ RowS w' w.heap.size u s ∧ w.grownBy w' (some bm) := by
  obtain ⟨i0, hi0, hz0, hz1, hz2⟩ := info_parts info_u8
  have cm := may_ok h k hk hl
  go_enter Try.func8, Try.ntmps8
  go_wp2_with fail
  refine cm.mono ?_
  rintro e w1 ⟨rfl, hb1⟩
  have h1 := h.below hb1
  have hM1 := hM.below hb1
  have hs1 := hsrc.below hb1
  have hx := h1.2.2.1
  have hsz := hb1.size
  have hc1 := h1.1
  have hbm := hM1.lt
  obtain ⟨F, hF⟩ := upd_fun (bm := bm) (v := v) hn hq k hk
  have HF := Lib.hid hF
  have hnews : ∀ j u, (byV s)[j]? = some u → (w1.alloc (.cells #[] 5)).cell? ((⟨g, off, none⟩ : Addr).add j) = some u := fun j u hj => by
    rw [add_off]
    exact (World.cell?_of_block (heap_alloc_old w1 _ hs1.1)).trans (hs1.2 j u hj)
  have h1c : ∀ u ∈ byV s, u.oneCell' = true := fun u hu => by
    obtain ⟨x, -, rfl⟩ := List.mem_map.1 hu
    rfl
  clear h1 cm hF
  go_wp2_with fail
  have hne : c ≠ w1.heap.size := by omega
  have hnb : bm ≠ w1.heap.size := by omega
  go_region_held3 (fun w'' => w''.cell? ⟨c, 1, none⟩ = some (.map (some bm)))
    (first | (go_keep; done) | (exact hfar) | (exact hx3))
    ((refine step_append_lies _ (by rfl) _ _ _ (by rfl) w1.heap.size 5 i0 (.int .u8 0) 1 1 Try.underlying26 hi0 hz0 hz1 hz2 (by rfl) (by decide) (.slice (some ⟨w1.heap.size, 0, none⟩) 0 0) 0 [] (by rfl) (World.ownsRow_lit w1 #[] 0 (Nat.le_refl _) (by unfold maxLen; omega) rfl) ⟨g, off, none⟩ 4096 cap (byV s) (by rfl) (by rw [byV_len, hs]) (hnews) (h1c) (by omega) (by unfold maxLen; omega) (by omega) (by simp) (w1.heap.size + 1) (by simp) ?_; intro g2 cap2 w2 hown2 hgrow hat hlt; have hM2 := (MapV.drew (MapV.alloc hM1 _)).kept hgrow (fun e => hnb (Option.some.inj e)); have hfar : w2.cell? ⟨c, 1, none⟩ = some (.map (some bm)) := (hgrow.cell_far (a := ⟨c, 1, none⟩) (by show c < _; simp; omega) (fun e => hne (Option.some.inj e))).trans ((World.cell?_of_block (heap_alloc_old w1 _ hc1)).trans hx); have hF2 := HF.out w2 (.slice (some ⟨g2, 0, none⟩) 4096 cap2) hM2; have hrun := hF2.1; have HF2 := Lib.hid (And.intro hF2.2 (And.intro hown2 (And.intro hgrow hlt))); have hx3 := (hF2.2.2.cell_far (a := ⟨c, 1, none⟩) (by show c < _; have := hgrow.size; simp at this; omega) (fun e => hcb (Option.some.inj e))).trans hfar; clear hF2 hown2 hgrow hM2))
  go_wp2_with fail
  go_ret
  obtain ⟨⟨hm, hgm⟩, hown, hgrow, hlt⟩ := HF2.out
  have hb2 : Below w.heap.size w w2 := (((hb1.alloc hsz _).drew).grown hgrow (by simp; omega) (fun j h => by cases h; exact hsz))
  have hown3 : w2.ownsRow w1.heap.size 5 1 (.slice (some ⟨g2, 0, none⟩) 4096 cap2) 4096 (byV s) := by simpa using hown
  have hg2 := (hown3.lt g2 rfl).1
  exact ⟨rfl, _, hm, RowS.lower ⟨hs, hown3.kept hgm (.inr (by show some g2 ≠ _; simp only [ne_eq, Option.some.injEq]; omega))⟩ hsz, grown_trans hb2 hgm⟩
set_option maxHeartbeats 4000000 in
theorem read_arg (h : DevC w c bm n lf) (k : Int) (hk : k < 0 ∨ (n : Int) ≤ k) : Calls Try.prog 10 #[.pointer (some ⟨c, 0, none⟩), .int .i64 k] w fun r w' => r = .returned (.tuple #[.slice none 0 0, .int .i64 2]) ∧ Below w.heap.size w w' := by
  have cm := may_arg h k true (by rcases hk with x | x; exact .inl x; exact .inr (.inl x))
  clear hk
  go_enter Try.func10, Try.ntmps10
  go_wp2_with (first | (go_at_call 16; (with_reducible refine (cm).mono ?_); rintro e w' ⟨rfl, hbl⟩; obtain ⟨hcw, hfw, hsw⟩ := below_ifs hbl; (try simp only [World.size_alloc, World.size_setCell, World.size_drew, size_drewN_] at hcw hfw hsw)))
  go_ret2
  exact ⟨rfl, by (repeat (first | with_reducible exact Below.refl _ _ | with_reducible assumption | with_reducible refine below_drewN ?_ _ | with_reducible refine Below.drew ?_ | with_reducible refine below_alloc ?_ _ | (with_reducible refine Below.setCell ?_ (by first | (simp; done) | omega | (simp; omega)) _) | with_reducible refine belows ?_ (by assumption)))⟩
theorem read_fail (h : DevC w c bm n lf) (k : Nat) (hk : k < n) (hl : 0 < lf) (hl2 : lf ≤ 9223372036854775807) : Calls Try.prog 10 #[.pointer (some ⟨c, 0, none⟩), .int .i64 (k : Int)] w fun r w' => r = .returned (.tuple #[.slice none 0 0, .int .i64 17]) ∧ ∃ w1, Below w.heap.size w w1 ∧ w' = w1.setCell ⟨c, 2, none⟩ (.int .i64 (lf - 1)) := by
  have cm := may_fail h k hk hl hl2
  clear hl hl2
  go_enter Try.func10, Try.ntmps10
  go_wp2_with fail
  refine cm.mono ?_
  rintro e w2 ⟨rfl, w1, hb1, rfl⟩
  go_wp2_with fail
  go_ret2
  exact ⟨rfl, w1, hb1, rfl⟩
set_option maxHeartbeats 8000000 in
set_option maxRecDepth 100000 in
theorem read_none (h : DevC w c bm n lf) (hM : MapV w bm n q v) (hn : n ≤ 64) (k : Nat) (hk : k < n) (hl : lf ≤ 0) (hv : v k = .slice none 0 0) : Calls Try.prog 10 #[.pointer (some ⟨c, 0, none⟩), .int .i64 (k : Int)] w fun r w' => ∃ u, r = .returned (.tuple #[u, .int .i64 0]) ∧ Below w.heap.size w w' ∧ RowS w' w.heap.size u zeroS := by
  have cm := may_ok h k hk hl
  have hmk := make_zero
  go_enter Try.func10, Try.ntmps10
  go_wp2_with fail
  refine cm.mono ?_
  rintro e w1 ⟨rfl, hb1⟩
  have h1 := h.below hb1
  have hM1 := hM.below hb1
  have hx := h1.2.2.1
  have hsz := hb1.size
  have hc1 := h1.1
  have hlk := (hM1.alloc (.cells zeroV 5)).look hn k hk
  rw [hv] at hlk
  clear h1 cm hM1 hv
  go_wp2_with (first | (refine wpList_copy_nothing (by rfl) _ _ _ _ (by rfl) 5 Try.underlying26 (by kernel_rfl) _ _ _ _ _ _ (by rfl) (by rfl) (by rfl) ?_))
  go_ret2
  exact ⟨_, rfl, hb1.alloc hsz _, RowS.lower (zero_row w1 w1.heap.size (Nat.le_refl _)) hsz⟩
set_option maxHeartbeats 8000000 in
set_option maxRecDepth 100000 in
theorem read_some (h : DevC w c bm n lf) (hM : MapV w bm n q v) (hn : n ≤ 64) (k : Nat) (hk : k < n) (hl : lf ≤ 0) (n₀ g cap : Nat) (s : ByteArray) (hv : v k = .slice (some ⟨g, 0, none⟩) 4096 cap) (hr : RowS w n₀ (.slice (some ⟨g, 0, none⟩) 4096 cap) s) : Calls Try.prog 10 #[.pointer (some ⟨c, 0, none⟩), .int .i64 (k : Int)] w fun r w' => ∃ u, r = .returned (.tuple #[u, .int .i64 0]) ∧ Below w.heap.size w w' ∧ RowS w' w.heap.size u s := by
  have cm := may_ok h k hk hl
  have hmk := make_zero
  go_enter Try.func10, Try.ntmps10
  go_wp2_with fail
  refine cm.mono ?_
  rintro e w1 ⟨rfl, hb1⟩
  have h1 := h.below hb1
  have hM1 := hM.below hb1
  have hx := h1.2.2.1
  have hsz := hb1.size
  have hc1 := h1.1
  have hlk := (hM1.alloc (.cells zeroV 5)).look hn k hk
  rw [hv] at hlk
  have hs := hr.1
  have hsrc := hr.src.below hb1
  have h1c : ∀ u ∈ byV s, u.oneCell' = true := fun u hu => by
    obtain ⟨x, -, rfl⟩ := List.mem_map.1 hu
    rfl
  have hcs : ∀ j u, (byV s)[j]? = some u → (w1.alloc (.cells zeroV 5)).cell? ((⟨g, 0, none⟩ : Addr).add j) = some u := fun j u hj => by
    rw [add_off]
    exact (World.cell?_of_block (heap_alloc_old w1 _ hsrc.1)).trans (hsrc.2 j u hj)
  clear h1 cm hM1 hv hsrc
  have hg0 : (w1.alloc (.cells zeroV 5)).heap[w1.heap.size]? = some (.cells zeroV.toList.toArray 5 (0, 0)) := by
    rw [Array.toArray_toList]
    exact heap_alloc_new w1 _
  go_wp2_with (first | (refine wpList_copy_splice (by rfl) _ _ _ _ (by rfl) 5 Try.underlying26 (by kernel_rfl) (some ⟨w1.heap.size, 0, none⟩) (some ⟨g, 0, none⟩) 4096 4096 4096 cap (by rfl) (by rfl) w1.heap.size 0 zeroV.toList 5 hg0 (byV s) (by rw [byV_len, hs]; rfl) (fun _ => ⟨rfl, _, rfl, hcs⟩) (by rw [byV_len, hs, Array.length_toList, zeroV_size]; omega) h1c w.heap.size w (hb1.alloc hsz _) hsz ?_; intro w3 H3 hb3))
  go_ret2
  refine ⟨_, rfl, hb3, ⟨hs, ?_⟩⟩
  have h3 := H3.out
  have hsp : splice zeroV.toList 0 (byV s) = byV s := by
    unfold splice
    rw [List.take_zero, List.nil_append, List.drop_of_length_le (by rw [byV_len, hs, Array.length_toList, zeroV_size]; omega), List.append_nil]
  rw [hsp] at h3
  exact ⟨by rw [byV_len, hs], .inr ⟨w1.heap.size, 4096, (byV s).toArray, rfl, hsz, h3, Nat.le_refl _, by unfold maxLen; omega, by simp [byV_len, hs], by simp only [Nat.mul_one]; exact List.take_of_length_le (by rw [byV_len, hs]; exact Nat.le_refl _)⟩⟩
end
/-- A device of n blocks that have the bytes of f; lf calls are to fail. -/
def DevAt (w : World) (c bm n q : Nat) (lf : Int) (f : Nat → ByteArray) : Prop :=
  DevC w c bm n lf ∧ bm < c ∧ ∃ v, MapV w bm n q v ∧ ∀ k, k < n → (v k = .slice none 0 0 ∧ f k = zeroS) ∨ RowS w (c + 1) (v k) (f k)
section
variable {w : World} {c bm n q : Nat} {lf : Int} {f : Nat → ByteArray}
theorem DevAt.lt (h : DevAt w c bm n q lf f) : c < w.heap.size := h.1.1
theorem DevAt.below {w' : World} (h : DevAt w c bm n q lf f) (hb : Below w.heap.size w w') : DevAt w' c bm n q lf f := by
  obtain ⟨h1, h2, v, h3, h4⟩ := h
  exact ⟨h1.below hb, h2, v, h3.below hb, fun k hk => (h4 k hk).imp id fun r => r.below hb⟩
theorem DevAt.turned (h : DevAt w c bm n q lf f) (x : Int) : DevAt (w.setCell ⟨c, 2, none⟩ (.int .i64 x)) c bm n q x f ∧ w.grownBy (w.setCell ⟨c, 2, none⟩ (.int .i64 x)) (some c) := by
  obtain ⟨h1, h2, v, h3, h4⟩ := h
  have hg : w.grownBy (w.setCell ⟨c, 2, none⟩ (.int .i64 x)) (some c) := ⟨rfl, rfl, rfl, by simp, fun k _ hk => heap_setCell_other w ⟨c, 2, none⟩ k _ (fun e => hk (by simp [e]))⟩
  exact ⟨⟨h1.turned x, h2, v, h3.setCell (by show bm ≠ c; omega) _, fun k hk => (h4 k hk).imp id fun r => r.grown hg (by omega)⟩, hg⟩
theorem dev_made (n : Nat) (w : World) : DevAt ((w.alloc (.map #[] 0)).alloc (.cells #[.int .i64 (n : Int), .map (some w.heap.size), .int .i64 0] 48)) (w.heap.size + 1) w.heap.size n 0 0 (fun _ => zeroS) := by
  refine ⟨⟨by simp, ?_, ?_, ?_, ?_⟩, by omega, _, (MapV.made w n).alloc _, fun k hk => .inl ⟨rfl, rfl⟩⟩ <;> simp [go_sem]
theorem dev_fail (h : DevAt w c bm n q lf f) (x : Int) : Calls Try.prog 9 #[.pointer (some ⟨c, 0, none⟩), .int .i64 x] w fun r w' => r = .returned (.tuple #[]) ∧ DevAt w' c bm n q x f ∧ w.grownBy w' (some c) :=
  (fail_made h.1 x).mono fun _ _ ⟨a, b⟩ => by rw [b]; exact ⟨a, h.turned x⟩
theorem dev_blocks (h : DevAt w c bm n q lf f) : Calls Try.prog 12 #[.pointer (some ⟨c, 0, none⟩)] w fun r w' => r = .returned (.int .i64 (n : Int)) ∧ w = w' := blocks_made h.1
theorem dev_write_arg (h : DevAt w c bm n q lf f) (k : Int) (a : Option Addr) (len cap : Nat) (hk : k < 0 ∨ (n : Int) ≤ k ∨ len ≠ 4096) : Calls Try.prog 8 #[.pointer (some ⟨c, 0, none⟩), .int .i64 k, .slice a len cap] w fun r w' => r = .returned (.int .i64 2) ∧ Below w.heap.size w w' := write_arg h.1 k a len cap hk
theorem dev_write_fail (h : DevAt w c bm n q lf f) (k : Nat) (hk : k < n) (hl : 0 < lf) (hl2 : lf ≤ 9223372036854775807) (a : Option Addr) (cap : Nat) : Calls Try.prog 8 #[.pointer (some ⟨c, 0, none⟩), .int .i64 (k : Int), .slice a 4096 cap] w fun r w' => r = .returned (.int .i64 17) ∧ DevAt w' c bm n q (lf - 1) f ∧ w.grownBy w' (some c) :=
  (write_fail h.1 k hk hl hl2 a cap).mono fun _ _ ⟨a, w1, hb, e⟩ => by rw [e]; exact ⟨a, ((h.below hb).turned _).1, grown_trans hb ((h.below hb).turned _).2⟩
theorem dev_write (h : DevAt w c bm n q lf f) (hn : n ≤ 64) (hq : q < 1000) (k : Nat) (hk : k < n) (hl : lf ≤ 0) (g off cap : Nat) (s : ByteArray) (hs : s.size = 4096) (hsrc : SrcAt w g off s) : Calls Try.prog 8 #[.pointer (some ⟨c, 0, none⟩), .int .i64 (k : Int), .slice (some ⟨g, off, none⟩) 4096 cap] w fun r w' => r = .returned (.int .i64 0) ∧ DevAt w' c bm n (q + 1) lf (fun i => if i = k then s else f i) ∧ w.grownBy w' (some bm) := by
  obtain ⟨h1, h2, v, h3, h4⟩ := h
  refine (write_ok h1 h3 (by omega) hn hq k hk hl g off cap s hs hsrc).mono ?_
  rintro r w' ⟨rfl, u, hM, hR, hg⟩
  refine ⟨rfl, ⟨h1.grown hg (by omega), h2, _, hM, fun i hi => ?_⟩, hg⟩
  have hc := h1.1
  dsimp only
  by_cases e : i = k
  · rw [if_pos e, if_pos e]
    exact .inr (hR.lower (by omega))
  · rw [if_neg e, if_neg e]
    exact (h4 i hi).imp id fun r => r.grown hg (by omega)
theorem dev_read_arg (h : DevAt w c bm n q lf f) (k : Int) (hk : k < 0 ∨ (n : Int) ≤ k) : Calls Try.prog 10 #[.pointer (some ⟨c, 0, none⟩), .int .i64 k] w fun r w' => r = .returned (.tuple #[.slice none 0 0, .int .i64 2]) ∧ Below w.heap.size w w' := read_arg h.1 k hk
theorem dev_read_fail (h : DevAt w c bm n q lf f) (k : Nat) (hk : k < n) (hl : 0 < lf) (hl2 : lf ≤ 9223372036854775807) : Calls Try.prog 10 #[.pointer (some ⟨c, 0, none⟩), .int .i64 (k : Int)] w fun r w' => r = .returned (.tuple #[.slice none 0 0, .int .i64 17]) ∧ DevAt w' c bm n q (lf - 1) f ∧ w.grownBy w' (some c) :=
  (read_fail h.1 k hk hl hl2).mono fun _ _ ⟨a, w1, hb, e⟩ => by rw [e]; exact ⟨a, ((h.below hb).turned _).1, grown_trans hb ((h.below hb).turned _).2⟩
theorem dev_read (h : DevAt w c bm n q lf f) (hn : n ≤ 64) (k : Nat) (hk : k < n) (hl : lf ≤ 0) : Calls Try.prog 10 #[.pointer (some ⟨c, 0, none⟩), .int .i64 (k : Int)] w fun r w' => ∃ g cap, r = .returned (.tuple #[.slice (some ⟨g, 0, none⟩) 4096 cap, .int .i64 0]) ∧ Below w.heap.size w w' ∧ RowS w' w.heap.size (.slice (some ⟨g, 0, none⟩) 4096 cap) (f k) := by
  obtain ⟨h1, h2, v, h3, h4⟩ := h
  rcases h4 k hk with ⟨a, b⟩ | r
  · refine (read_none h1 h3 hn k hk hl a).mono ?_
    rintro r w' ⟨u, rfl, hb, hR⟩
    obtain ⟨g, cap, rfl, -, -⟩ := hR.form
    exact ⟨g, cap, rfl, hb, by rw [b]; exact hR⟩
  · obtain ⟨g, cap, e, -, -⟩ := r.form
    rw [e] at r
    refine (read_some h1 h3 hn k hk hl _ g cap (f k) e r).mono ?_
    rintro r w' ⟨u, rfl, hb, hR⟩
    obtain ⟨g, cap, rfl, -, -⟩ := hR.form
    exact ⟨g, cap, rfl, hb, hR⟩
end
end Go.Proofs.Ytiajkhlcmblfpaa
