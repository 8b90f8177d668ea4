
/-
  slices.Insert of one struct of 3 cells into a row that the program made.
-/
import Derived.Test.YtnillifinnmigaaSlRC
import Derived.Shelf.RegionOpenPlain
namespace Go.Proofs.Ytnillifinnmigaa
open Go Go.RowKit
set_option linter.unusedVariables false
set_option linter.unusedSimpArgs false

set_option maxHeartbeats 4000000 in
set_option maxRecDepth 100000 in
theorem ins_end (B n vb : Nat) (v : Value) (xs news : List Value) (w : World) (hown : w.ownsRow B 41 3 v n xs) (hB : B ≤ w.heap.size) (h1 : ∀ u ∈ xs, u.oneCell' = true) (h1n : ∀ u ∈ news, u.oneCell' = true) (hbig : n ≤ 1099511627775) (hvb : w.heap[vb]? = some (.cells news.toArray 41 (0, 0))) (hnl : news.length = 3) (hne : ∀ g, v.ownBlock = some g → vb ≠ g) :
    Calls Try.prog 28 #[v, .int .i64 (n : Int), .slice (some ⟨vb, 0, none⟩) 1 1] w fun e w' => ∃ v', e = .returned v' ∧ w'.ownsRow B 41 3 v' (n + 1) (xs.take (n * 3) ++ news ++ xs.drop (n * 3)) ∧ Below B w w' := by
  obtain ⟨i0, hi0, hz0, hz1, hz2⟩ := info_parts elem_row
  have hlen := hown.1
  rw [List.take_of_length_le (by omega), List.drop_of_length_le (by omega), List.append_nil]
  have hnc : ∀ j u, news[j]? = some u → w.cell? ((⟨vb, 0, none⟩ : Addr).add j) = some u := fun j u hj => by
    rw [add_row, Nat.zero_add]
    exact cells_row hvb j u hj
  have HN := Lib.hid hnc
  have HO := Lib.hid hown
  have hq : ∀ g, v.ownBlock = some g → B ≤ g := fun g hg => (hown.lt g hg).1
  have HQ := Lib.hid hq
  rcases hown.2 with ⟨rfl, rfl⟩ | ⟨g, cap, cur, rfl, hbg, hg, hncp, hcm, hcs, ht⟩
  · clear hown hnc hvb hne hq
    go_enter Try.func28, Try.ntmps28
    go_wp2_with (at_builtin; refine wpList_append_own _ rfl _ _ 26 rfl B 41 i0 _ 3 24 Try.underlying26 hi0 hz0 hz1 hz2 rfl (by decide) _ 0 _ rfl HO.out ⟨vb, 0, none⟩ 1 1 news rfl (by omega) HN.out h1n (by unfold maxLen; omega) (by omega) hB ?_; intro v' w1 hown1 hgrow _)
    go_ret
    exact ⟨v', rfl, hown1, (Below.refl _ w).grown hgrow hB HQ.out⟩
  · clear hown hnc hvb hne hq hg ht hcs
    by_cases hc : cap = n
    · subst hc
      go_enter Try.func28, Try.ntmps28
      go_wp2_with (at_builtin; refine wpList_append_own _ rfl _ _ 26 rfl B 41 i0 _ 3 24 Try.underlying26 hi0 hz0 hz1 hz2 rfl (by decide) _ cap _ rfl HO.out ⟨vb, 0, none⟩ 1 1 news rfl (by omega) HN.out h1n (by unfold maxLen; omega) (by omega) hB ?_; intro v' w1 hown1 hgrow _)
      go_ret
      exact ⟨v', rfl, hown1, (Below.refl _ w).grown hgrow hB HQ.out⟩
    · go_enter Try.func28, Try.ntmps28
      go_wp2_with (at_builtin; refine wpList_append_own _ rfl _ _ 26 rfl B 41 i0 _ 3 24 Try.underlying26 hi0 hz0 hz1 hz2 rfl (by decide) _ n _ rfl HO.out ⟨vb, 0, none⟩ 1 1 news rfl (by omega) HN.out h1n (by unfold maxLen; omega) (by omega) hB ?_; intro v' w1 hown1 hgrow _)
      go_ret
      exact ⟨v', rfl, hown1, (Below.refl _ w).grown hgrow hB HQ.out⟩
set_option maxHeartbeats 4000000 in
set_option maxRecDepth 100000 in
theorem ins_room (B n i vb g cap : Nat) (xs news : List Value) (w : World) (hi : i < n) (hrm : n + 1 ≤ cap) (hown : w.ownsRow B 41 3 (.slice (some ⟨g, 0, none⟩) n cap) n xs) (h1 : ∀ u ∈ xs, u.oneCell' = true) (h1n : ∀ u ∈ news, u.oneCell' = true) (hbig : n ≤ 1099511627775) (hvb : w.heap[vb]? = some (.cells news.toArray 41 (0, 0))) (hnl : news.length = 3) (hne : vb ≠ g) :
    Calls Try.prog 28 #[.slice (some ⟨g, 0, none⟩) n cap, .int .i64 (i : Int), .slice (some ⟨vb, 0, none⟩) 1 1] w fun e w' => ∃ v', e = .returned v' ∧ w'.ownsRow B 41 3 v' (n + 1) (xs.take (i * 3) ++ news ++ xs.drop (i * 3)) ∧ Below B w w' := by
  have hlen := hown.1
  obtain ⟨g', cap', cur, hv, hbg, hglt, hg, hnc, hcm, hcl, htk⟩ := own_row hown (by omega)
  obtain ⟨rfl, rfl⟩ : g = g' ∧ cap = cap' := by simpa using hv
  clear hv
  have hcm' : cap ≤ 9223372036854775807 := by simpa [maxLen] using hcm
  have hov : ∀ lb cb, (callFunc 40 #[.slice (some ⟨vb, 0, none⟩) 1 1, .slice (some ⟨g, (i + 1) * 3, none⟩) lb cb]).run Try.prog w = .ok (.value (.bool false)) w := fun lb cb => by
    rw [run_callFunc_extern Try.func40 (by kernel_rfl) (by kernel_rfl) (by kernel_rfl) (e := Extern.SlicesOverlaps.overlaps #[26, 26] #[4]) (by kernel_rfl),
      Lib.run_overlaps_apart w 26 4 41 Try.underlying26 3 (fun w => by kernel_rfl) ⟨vb, 0, none⟩ ⟨g, (i + 1) * 3, none⟩ 1 1 lb cb hne 41 41 news.toArray.size cur.toArray.size (by simp [World.shape?, hvb]) (by simp [World.shape?, hg]) (by rw [List.size_toArray, hcl]; omega) (frozen_of_row _ _ _ _ _ hvb) (frozen_of_row _ _ _ _ _ hvb)]
    rfl
  have hb1 : (0 : Int) ≤ (i : Int) + 1 := by omega
  have htn : ((i : Int) + 1).toNat = i + 1 := by omega
  have hb2 : ¬ (cap = i + 1) := by omega
  have hb4 : ¬ (cap = i) := by omega
  have hz2 : ¬ ((i : Int) = (n : Int)) := by omega
  have hw1 : IntKind.i64.wrap ((i : Int) + 1) = (i : Int) + 1 := by rw [IntKind.wrap_i64]; omega
  have hb3 : (i : Int) ≤ (n : Int) + 1 := by omega
  have hb5 : (i : Int) + 1 ≤ (n : Int) + 1 := by omega
  have HG := Lib.hid hg
  have HV := Lib.hid hvb
  have hcs : ∀ j v, (xs.drop (i * 3))[j]? = some v → w.cell? ((⟨g, i * 3, none⟩ : Addr).add j) = some v := fun j v hj => by
    rw [add_row]
    refine cells_row HG.out _ v ?_
    rw [List.getElem?_drop, ← htk, List.getElem?_take] at hj
    split at hj
    · exact hj
    · cases hj
  have HCS := Lib.hid hcs
  clear hcs
  have hdl : (xs.drop (i * 3)).length = (n - i) * 3 := by rw [List.length_drop, hlen]; omega
  have hn1 : (xs.drop (i * 3)).length = Nat.min (n + 1 - i) (n - i) * 3 := by
    rw [hdl, show Nat.min (n + 1 - i) (n - i) = n - i from Nat.min_eq_right (by omega)]
  have hf1 : (i + 1) * 3 + (xs.drop (i * 3)).length ≤ cur.length := by rw [hdl, hcl]; omega
  have hd1 : ∀ u ∈ xs.drop (i * 3), u.oneCell' = true := fun u hu => h1 u (List.mem_of_mem_drop hu)
  obtain ⟨D, hD⟩ : ∃ D, D = xs.drop (i * 3) := ⟨_, rfl⟩
  rw [← hD] at hdl hn1 hf1 hd1 HCS ⊢
  have hB2 : Below B w w.drew := (Below.refl B w).drew
  have HD := Lib.hid hD
  clear hown hvb hg hD
  go_enter Try.func28, Try.ntmps28
  go_wp2_with (simp only [hov])
  go_region_law (refine step_copy_k rfl _ _ 26 26 rfl 41 3 Try.underlying26 (by kernel_rfl) g ((i + 1) * 3) (n - i) (cap - (i + 1)) ⟨g, i * 3, none⟩ (n + 1 - i) (cap - i) (by simp [Act.eval, Act.put]) (by simp [Act.eval, Act.put]) cur 41 HG.out D hn1 HCS.out hf1 hd1 B w hB2 hbg ?_; intro w2 HG2 HO2 hb2)
  go_wp2_with (((refine wpList_copy_k rfl _ _ 26 26 rfl 41 3 Try.underlying26 (by kernel_rfl) g (i * 3) (n + 1 - i) (cap - i) ⟨vb, 0, none⟩ 1 1 rfl rfl (splice cur ((i + 1) * 3) D) 41 HG2.out news (by rw [hnl, show Nat.min 1 (n + 1 - i) = 1 from Nat.min_eq_left (by omega)]) (fun j u hj => by rw [add_row, Nat.zero_add]; exact cells_row ((HO2.out vb hne).trans HV.out) j u hj) (by rw [length_splice _ _ _ hf1, hnl, hcl]; omega) h1n B w hb2 hbg ?_; intro w3 HG3 HO3 hb3)))
  go_ret
  refine ⟨_, rfl, own_of hbg HG3.out (by omega) hcm ?_ ?_, hb3⟩
  · rw [length_splice _ _ _ (by rw [length_splice _ _ _ hf1, hnl, hcl]; omega), length_splice _ _ _ hf1, hcl]
  · have e := splice_ab cur news D (i * 3) (by rw [hnl, hdl, hcl]; omega)
    rw [hnl, show i * 3 + 3 = (i + 1) * 3 by omega] at e
    rw [e, take_abc _ _ _ _ _ (by rw [List.length_take, hnl, hdl, hcl]; omega), ← htk, List.take_take, Nat.min_eq_left (by omega)]
set_option maxHeartbeats 4000000 in
set_option maxRecDepth 100000 in
theorem ins_grow (B n i vb g cap : Nat) (xs news : List Value) (w : World) (hi : i < n) (hrm : cap = n) (hown : w.ownsRow B 41 3 (.slice (some ⟨g, 0, none⟩) n cap) n xs) (hB : B ≤ w.heap.size) (h1 : ∀ u ∈ xs, u.oneCell' = true) (h1n : ∀ u ∈ news, u.oneCell' = true) (hbig : n ≤ 1099511627775) (hvb : w.heap[vb]? = some (.cells news.toArray 41 (0, 0))) (hnl : news.length = 3) :
    Calls Try.prog 28 #[.slice (some ⟨g, 0, none⟩) n cap, .int .i64 (i : Int), .slice (some ⟨vb, 0, none⟩) 1 1] w fun e w' => ∃ v', e = .returned v' ∧ w'.ownsRow B 41 3 v' (n + 1) (xs.take (i * 3) ++ news ++ xs.drop (i * 3)) ∧ Below B w w' := by
  obtain ⟨i0, hi0, hz0, hz1, hz2⟩ := info_parts elem_row
  have hlen := hown.1
  obtain ⟨g', cap', cur, hv, hbg, hglt, hg, hnc, hcm, hcl, htk⟩ := own_row hown (by omega)
  obtain ⟨rfl, rfl⟩ : g = g' ∧ cap = cap' := by simpa using hv
  clear hv
  subst hrm
  have hvlt : vb < w.heap.size := (Array.getElem?_eq_some_iff.1 hvb).1
  have hxc : ∀ j v, xs[j]? = some v → cur[j]? = some v := fun j v hj => by
    rw [← htk, List.getElem?_take] at hj
    split at hj
    · exact hj
    · cases hj
  have hrun := fun ty => run_append_zeros (P := Try.prog) w 26 3 ty 41 i0 _ .i64 Try.underlying26 Try.underlying3 hi0 hz0 ⟨g, 0, none⟩ i cap (xs.take (i * 3)) (by rw [List.length_take, hlen, hz1]; omega)
    (fun j v hj => by
      rw [add_row, Nat.zero_add]
      refine cells_row hg _ v (hxc _ _ ?_)
      rw [List.getElem?_take] at hj
      split at hj
      · exact hj
      · cases hj) (cap + 1 - i) (by omega) (by omega) (by omega) (by omega) (by rw [hz2]; omega)
  rw [show i + (cap + 1 - i) = cap + 1 by omega] at hrun
  have hge := grownCap_ge w (cap + 1) cap 41
  have hcm2 : grownCap w (cap + 1) cap 41 ≤ maxLen := grownCap_le_maxLen w (cap + 1) cap 41 (by unfold maxLen; omega)
  obtain ⟨c2, hc2⟩ : ∃ c2, c2 = grownCap w (cap + 1) cap 41 := ⟨_, rfl⟩
  obtain ⟨cur2, hcur2⟩ : ∃ cur2 : List Value, cur2 = ((xs.take (i * 3)).toArray ++ Builtin.zeroCells (.agg #[.int .u64 0, .int .u64 0, .int .i64 0] : Value).cells (cap + 1 - i) ++ Builtin.zeroCells (.agg #[.int .u64 0, .int .u64 0, .int .i64 0] : Value).cells (c2 - (cap + 1))).toList := ⟨_, rfl⟩
  have hcl2 : cur2.length = c2 * 3 := by
    rw [hcur2, Array.length_toList, Array.size_append, Array.size_append, size_zeroCells, size_zeroCells, List.size_toArray, List.length_take, hlen, show (.agg #[.int .u64 0, .int .u64 0, .int .i64 0] : Value).cells.size = 3 from rfl]
    omega
  have hct2 : cur2.take (i * 3) = xs.take (i * 3) := by
    rw [hcur2]
    simp only [Array.toList_append, List.append_assoc]
    rw [List.take_append_of_le_length (by rw [List.length_take, hlen]; omega), List.take_take, Nat.min_self]
  rw [← hc2] at hrun hge hcm2
  have hrun2 : ∀ ty, (Builtin.append_ #[26, 3] ty #[.slice (some ⟨g, 0, none⟩) i cap, .int .i64 ((cap + 1 - i : Nat) : Int)]).run Try.prog w = .ok (.slice (some ⟨w.heap.size, 0, none⟩) (cap + 1) c2) (w.drew.alloc (.cells cur2.toArray 41)) := fun ty => by
    rw [hrun, hcur2, Array.toArray_toList]
  rw [show ((cap + 1 - i : Nat) : Int) = (cap : Int) + 1 - (i : Int) by omega] at hrun2
  obtain ⟨w1, hw1⟩ : ∃ w1, w1 = w.drew.alloc (.cells cur2.toArray 41) := ⟨_, rfl⟩
  have hg1 : w1.heap[w.heap.size]? = some (.cells cur2.toArray 41 (0, 0)) := by rw [hw1]; exact heap_alloc_new w.drew _
  have hb1 : Below B w w1 := by rw [hw1]; exact ((Below.refl B w).drew).alloc hB _
  have ho1 : ∀ b, b < w.heap.size → w1.heap[b]? = w.heap[b]? := fun b hb => by rw [hw1]; exact heap_alloc_old w.drew _ (by simpa using hb)
  rw [← hw1] at hrun2
  have hcm' : c2 ≤ 9223372036854775807 := by simpa [maxLen] using hcm2
  have hb01 : (0 : Int) ≤ (i : Int) + 1 := by omega
  have htn : ((i : Int) + 1).toNat = i + 1 := by omega
  have hq2 : ¬ (c2 = i + 1) := by omega
  have hq4 : ¬ (c2 = i) := by omega
  have hq6 : ¬ (cap = i) := by omega
  have hq7 : i ≤ cap := by omega
  have hz2' : ¬ ((i : Int) = (cap : Int)) := by omega
  have hw1' : IntKind.i64.wrap ((i : Int) + 1) = (i : Int) + 1 := by rw [IntKind.wrap_i64]; omega
  have hb3 : (i : Int) ≤ (cap : Int) + 1 := by omega
  have hb5 : (i : Int) + 1 ≤ (cap : Int) + 1 := by omega
  have hwr : IntKind.i64.wrap ((cap : Int) + 1 - (i : Int)) = (cap : Int) + 1 - (i : Int) := by rw [IntKind.wrap_i64]; omega
  have HG1 := Lib.hid hg1
  have HV := Lib.hid hvb
  have HO1 := Lib.hid ho1
  have HGo := Lib.hid hg
  have HW1 := Lib.hid hw1
  have HX := Lib.hid hxc
  obtain ⟨D, hD⟩ : ∃ D, D = xs.drop (i * 3) := ⟨_, rfl⟩
  obtain ⟨X1, hX1⟩ : ∃ X1, X1 = xs.take (i * 3) := ⟨_, rfl⟩
  have hdl : D.length = (cap - i) * 3 := by rw [hD, List.length_drop, hlen]; omega
  have hd1 : ∀ u ∈ D, u.oneCell' = true := fun u hu => h1 u (by rw [hD] at hu; exact List.mem_of_mem_drop hu)
  have hDx : ∀ j v, D[j]? = some v → cur[i * 3 + j]? = some v := fun j v hj => hxc _ _ (by rw [hD, List.getElem?_drop] at hj; exact hj)
  have HDX := Lib.hid hDx
  rw [← hD, ← hX1]
  rw [← hX1] at hct2
  have hxl : X1.length = i * 3 := by rw [hX1, List.length_take, hlen]; omega
  clear hown hvb hg hD hX1 hg1 ho1 hw1 hxc hrun hcur2 hc2 htk hlen hDx
  generalize hsz : w.heap.size = gN at hrun2 HG1 HO1 hB hglt hvlt
  go_enter Try.func28, Try.ntmps28
  go_wp2_with (first | (at_builtin; refine Lib.wpList_append_run _ rfl _ _ 26 3 rfl _ _ rfl rfl _ _ (hrun2 _) ?_) | (refine wpList_copy_k rfl _ _ 26 26 rfl 41 3 Try.underlying26 (by kernel_rfl) gN (i * 3) (cap + 1 - i) (c2 - i) ⟨vb, 0, none⟩ 1 1 rfl rfl cur2 41 HG1.out news (by rw [hnl, show Nat.min 1 (cap + 1 - i) = 1 from Nat.min_eq_left (by omega)]) (fun j u hj => by rw [add_row, Nat.zero_add]; exact cells_row ((HO1.out vb hvlt).trans HV.out) j u hj) (by rw [hnl, hcl2]; omega) h1n B w hb1 hB ?_; intro w2 HG2 HO2 hb2))
  have hl2 : (splice cur2 (i * 3) news).length = c2 * 3 := by rw [length_splice _ _ _ (by rw [hnl, hcl2]; omega), hcl2]
  have hf3 : (i + 1) * 3 + D.length ≤ (splice cur2 (i * 3) news).length := by rw [hdl, hl2]; omega
  have hn3 : D.length = Nat.min (cap - i) (cap - i) * 3 := by rw [hdl, show Nat.min (cap - i) (cap - i) = cap - i from Nat.min_self _]
  have hs3 : ∀ j v, D[j]? = some v → (w2.drew).cell? ((⟨g, i * 3, none⟩ : Addr).add j) = some v := fun j v hj => by
    rw [add_row]
    exact cells_row (w := w2.drew) (((HO2.out g (by omega)).trans (HO1.out g hglt)).trans HGo.out) _ v (HDX.out j v hj)
  have hB3 : Below B w w2.drew := hb2.drew
  have HG2' : Hid (w2.drew.heap[gN]? = some (.cells (splice cur2 (i * 3) news).toArray 41 (0, 0))) := HG2
  have HS3 := Lib.hid hs3
  clear hs3 HG2
  go_region_law (refine step_copy_k rfl _ _ 26 26 rfl 41 3 Try.underlying26 (by kernel_rfl) gN ((i + 1) * 3) (cap - i) (c2 - (i + 1)) ⟨g, i * 3, none⟩ (cap - i) (cap - i) (by simp [Act.eval, Act.put]) (by simp [Act.eval, Act.put]) (splice cur2 (i * 3) news) 41 HG2'.out D hn3 HS3.out hf3 hd1 B w hB3 hB ?_; intro w3 HG3 HO3 hb3)
  go_wp2_with fail
  go_ret
  refine ⟨_, rfl, own_of hB HG3.out (by omega) hcm2 ?_ ?_, hb3⟩
  · rw [length_splice _ _ _ hf3, hl2]
  · have e := splice_ba cur2 news D (i * 3) (by rw [hnl, hdl, hcl2]; omega)
    rw [hnl, show i * 3 + 3 = (i + 1) * 3 by omega] at e
    rw [e, take_abc _ _ _ _ _ (by rw [List.length_take, hnl, hdl, hcl2]; omega), hct2]
end Go.Proofs.Ytnillifinnmigaa
