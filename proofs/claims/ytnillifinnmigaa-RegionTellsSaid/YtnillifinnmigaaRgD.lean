
/-
  Reservations: slices.Delete of one; slices.Insert, in their own words.
-/
import Derived.Test.YtnillifinnmigaaRgC
import Derived.Test.YtnillifinnmigaaSlD
import Derived.Test.YtnillifinnmigaaSlRI
namespace Go.Proofs.Ytnillifinnmigaa
open Go Go.RowKit
set_option linter.unusedVariables false
set_option linter.unusedSimpArgs false

theorem zc_one (m : Nat) : ∀ u ∈ (Builtin.zeroCells (.agg #[.int .u64 0, .int .u64 0, .int .i64 0] : Value).cells m).toList, u.oneCell' = true := fun u hu => by
  simp [Builtin.zeroCells] at hu
  obtain ⟨i, _, rfl⟩ := hu
  have : i % 3 = 0 ∨ i % 3 = 1 ∨ i % 3 = 2 := by omega
  rcases this with h | h | h <;> simp [Value.cells, h, Value.oneCell']
set_option maxHeartbeats 4000000 in
set_option maxRecDepth 100000 in
theorem del_row (B q k : Nat) (v : Value) (xs : List Value) (w : World) (hk : k < q + 1) (hown : w.ownsRow B 41 3 v (q + 1) xs) (h1 : ∀ u ∈ xs, u.oneCell' = true) (hbig : q ≤ 1099511627775) :
    Calls Try.prog 30 #[v, .int .i64 (k : Int), .int .i64 ((k : Int) + 1)] w fun e w' => ∃ v', e = .returned v' ∧ w'.ownsRow B 41 3 v' q (xs.take (k * 3) ++ xs.drop ((k + 1) * 3)) ∧ Below B w w' := by
  have hlen := hown.1
  obtain ⟨g, cap, cur, rfl, hbg, hglt, hg, hnc, hcm, hcl, htk⟩ := own_row hown (by omega)
  have hcm' : cap ≤ 9223372036854775807 := by simpa [maxLen] using hcm
  have hxc : ∀ j v, xs[j]? = some v → cur[j]? = some v := fun j v hj => by
    rw [← htk, List.getElem?_take] at hj
    split at hj
    · exact hj
    · cases hj
  obtain ⟨D, hD⟩ : ∃ D, D = xs.drop ((k + 1) * 3) := ⟨_, rfl⟩
  have hdl : D.length = (q - k) * 3 := by rw [hD, List.length_drop, hlen]; omega
  have hd1 : ∀ u ∈ D, u.oneCell' = true := fun u hu => h1 u (by rw [hD] at hu; exact List.mem_of_mem_drop hu)
  have hsrc : ∀ j u, D[j]? = some u → w.drew.cell? ((⟨g, (k + 1) * 3, none⟩ : Addr).add j) = some u := fun j u hj => by
    rw [add_row]
    refine cells_row (w := w.drew) hg _ u (hxc _ _ ?_)
    rw [hD, List.getElem?_drop] at hj
    exact hj
  have hrun : ∀ ty (sp : Option Addr), (sp = if cap = k + 1 then some ⟨g, 0, none⟩ else some ⟨g, (k + 1) * 3, none⟩) → (Builtin.append_ #[26, 26] ty #[.slice (some ⟨g, 0, none⟩) k cap, .slice sp (q - k) (cap - (k + 1))]).run Try.prog w.drew = .ok (.slice (some ⟨g, 0, none⟩) q cap) (w.drew.setRow g (splice cur (k * 3) D).toArray) := fun ty sp hsp => by
    rw [run_append_in (P := Try.prog) w.drew 26 ty 41 3 Try.underlying26 (by kernel_rfl) g k cap cur hg sp (q - k) (cap - (k + 1)) D hdl (fun hm => by
      rw [if_neg (by omega)] at hsp
      exact ⟨_, hsp, hsrc⟩) (by rw [hsp]; split <;> simp) hd1 (by omega) (by rw [hdl, hcl]; omega)]
    rw [show k + (q - k) = q by omega]
  obtain ⟨cur1, hc1⟩ : ∃ cur1, cur1 = splice cur (k * 3) D := ⟨_, rfl⟩
  have hl1 : cur1.length = cap * 3 := by rw [hc1, length_splice _ _ _ (by rw [hdl, hcl]; omega), hcl]
  obtain ⟨w1, hw1⟩ : ∃ w1, w1 = w.drew.setRow g cur1.toArray := ⟨_, rfl⟩
  have hg1 : w1.heap[g]? = some (.cells cur1.toArray 41 (0, 0)) := by rw [hw1]; exact setRow_heap w.drew g _ _ _ _ hg
  have hb1 : Below B w w1 := by rw [hw1]; exact below_setRow ((Below.refl B w).drew) hbg _
  rw [← hc1] at hrun
  rw [← hw1] at hrun
  obtain ⟨cur2, hc2⟩ : ∃ cur2, cur2 = splice cur1 (q * 3) (Builtin.zeroCells (.agg #[.int .u64 0, .int .u64 0, .int .i64 0] : Value).cells 1).toList := ⟨_, rfl⟩
  have hrun2 : ∀ ty c, (Builtin.clear_ #[26] ty #[.slice (some ⟨g, q * 3, none⟩) 1 c]).run Try.prog w1 = .ok (.tuple #[]) (w1.setRow g cur2.toArray) := fun ty c => by
    rw [hc2]
    exact run_clear_in (P := Try.prog) w1 26 ty 41 (.agg #[.int .u64 0, .int .u64 0, .int .i64 0]) 3 Try.underlying26 (by kernel_rfl) rfl g (q * 3) 1 c (by omega) cur1 hg1 (zc_one 1) (by omega)
  obtain ⟨w2, hw2⟩ : ∃ w2, w2 = w1.setRow g cur2.toArray := ⟨_, rfl⟩
  have hg2 : w2.heap[g]? = some (.cells cur2.toArray 41 (0, 0)) := by rw [hw2]; exact setRow_heap w1 g _ _ _ _ hg1
  have hb2 : Below B w w2 := by rw [hw2]; exact below_setRow hb1 hbg _
  rw [← hw2] at hrun2
  have hl2 : cur2.length = cap * 3 := by rw [hc2, length_splice _ _ _ (by simp [Builtin.zeroCells, Value.cells]; omega), hl1]
  have hres : w2.ownsRow B 41 3 (.slice (some ⟨g, 0, none⟩) q cap) q (xs.take (k * 3) ++ D) := by
    refine own_of hbg hg2 (by omega) hcm hl2 ?_
    rw [hc2]
    unfold splice
    rw [List.take_append_of_le_length (by rw [List.length_take, hl1]; omega), List.take_take, Nat.min_self, hc1]
    unfold splice
    rw [← List.append_assoc, List.take_append_of_le_length (by rw [List.length_append, List.length_take, hdl, hcl]; omega), List.take_of_length_le (by rw [List.length_append, List.length_take, hdl, hcl]; omega), ← htk, List.take_take, Nat.min_eq_left (by omega)]
  have HRES := Lib.hid (And.intro hres hb2)
  rw [← hD]
  have hz1 : ¬ (cap = k) := by omega
  have hz2 : ¬ (cap = q) := by omega
  have hz3 : k + 1 ≤ q + 1 := by omega
  have hz4 : (k : Int) + 1 ≤ (q : Int) + 1 := by omega
  have hz5 : (k : Int) ≤ (k : Int) + 1 := by omega
  have hz6 : ((k : Int) + 1).toNat = k + 1 := by omega
  have hz7 : ¬ (q + 1 = k) := by omega
  have hz8 : ¬ ((k : Int) = (k : Int) + 1) := by omega
  have hz9 : (q : Int) + 1 ≤ (cap : Int) := by omega
  have hz10 : (0 : Int) ≤ (k : Int) + 1 := by omega
  have hz11 : q ≤ q + 1 := by omega
  have hz12 : k ≤ cap := by omega
  have HR1 := Lib.hid hrun
  have HR2 := Lib.hid hrun2
  clear hown hg htk hxc hD hsrc hrun hc1 hw1 hg1 hc2 hrun2 hw2 hg2 hb2 hres hb1 hl1 hl2 hdl hd1 hlen h1
  by_cases hcase : cap = k + 1
  · have hr := fun ty => HR1.out ty (some ⟨g, 0, none⟩) (by rw [if_pos hcase])
    obtain rfl : q = k := by omega
    subst hcase
    rw [Nat.sub_self, Nat.sub_self] at hr
    go_enter Try.func30, Try.ntmps30
    go_wp2_with fail
    go_region_law (refine step_append_run rfl _ _ 26 26 rfl _ _ (by simp [Act.eval, Act.put]) (by simp [Act.eval, Act.put]) (hr _) ?_)
    go_wp2_with (first | (refine wpList_clear_run rfl _ 26 rfl _ rfl (HR2.out _ _) ?_))
    go_ret
    exact ⟨_, rfl, HRES.out.1, HRES.out.2⟩
  · have hr := fun ty => HR1.out ty (some ⟨g, (k + 1) * 3, none⟩) (by rw [if_neg hcase])
    go_enter Try.func30, Try.ntmps30
    go_wp2_with fail
    go_region_law (refine step_append_run rfl _ _ 26 26 rfl _ _ (by simp [Act.eval, Act.put]) (by simp [Act.eval, Act.put]) (hr _) ?_)
    go_wp2_with (first | (refine wpList_clear_run rfl _ 26 rfl _ rfl (HR2.out _ _) ?_))
    go_ret
    exact ⟨_, rfl, HRES.out.1, HRES.out.2⟩
end Go.Proofs.Ytnillifinnmigaa
