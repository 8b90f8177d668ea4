
/-
  Heaps: New, Blocks, Give.
-/
import Derived.Test.YtlhhahafmmfhhaaHpB
import Derived.BigRegion
import Derived.Deep.RegionLaw
namespace Go.Proofs.Ytlhhahafmmfhhaa
open Go Go.RowKit
set_option linter.unusedVariables false
set_option linter.unusedSimpArgs false

set_option maxHeartbeats 4000000 in
set_option maxRecDepth 100000 in
theorem new_yes (b t : BitVec 64) (h1 : U b < U t) (h2 : 4 ≤ zerosF (b ||| t)) (h3 : U t ≤ 274877906944) (w : World) : Calls Try.prog 4 #[.agg #[.int .u64 (U b), .int .u64 (U t)]] w fun e w' => e = .returned (.tuple #[.agg #[.int .u64 (U b), .int .u64 (U t), .slice none 0 0], .int .i64 0]) ∧ Below w.heap.size w w' := by
  have d1 : decide (U t ≤ U b) = false := decide_eq_false (by omega)
  have d2 : decide ((zerosF (b ||| t) : Int) < 4) = false := decide_eq_false (by omega)
  have d3 : decide (274877906944 < U t) = false := decide_eq_false (by omega)
  clear h1 h2 h3
  go_enter Try.func4, Try.ntmps4
  go_wp2_with (first | (go_at_call 12; (with_reducible refine (zeros_any _ _).mono ?_); rintro e w' ⟨rfl, hbl⟩; obtain ⟨hcw, hfw, hsw⟩ := below_ifs hbl; (try simp only [World.size_alloc, World.size_setCell, World.size_drew, size_drewN_] at hcw hfw hsw)))
  refine bodyPost_ret (results_ct [.int .u64 (U b), .int .u64 (U t), .slice none 0 0] (.int .i64 0) Try.results4 rfl rfl ?_ Try.underlying27 rfl (by kernel_rfl)) rfl ?_
  · (first | (go_simp; done) | (go_simp; (simp [↓IntWalk.iteOmega]; done)) | (go_simp; intros; omega) | (go_simp; simp [↓IntWalk.iteOmega]; intros; omega))
  · exact ⟨rfl, by (repeat (first | with_reducible exact Below.refl _ _ | with_reducible assumption | with_reducible refine below_drewN ?_ _ | with_reducible refine Below.drew ?_ | with_reducible refine below_alloc ?_ _ | (with_reducible refine Below.setCell ?_ (by first | (simp; done) | omega | (simp; omega)) _) | with_reducible refine belows ?_ (by assumption)))⟩
set_option maxHeartbeats 4000000 in
set_option maxRecDepth 100000 in
theorem blocks_any (B : Nat) (rb rt : BitVec 64) (v : Value) (L : List Hb) (w : World) (hs : SlH w B v L) (hbig : L.length ≤ 1099511627775) : Calls Try.prog 8 #[.agg #[.int .u64 (U rb), .int .u64 (U rt), v]] w fun e w' => ∃ v', e = .returned v' ∧ SlH w' w.heap.size v' L ∧ Below w.heap.size w w' := by
  have HS := Lib.hid (hs.below ((Below.refl _ w).alloc (Nat.le_refl _) (.cells #[.int .u64 (U rb), .int .u64 (U rt), v] 27)))
  obtain ⟨a', cap, rfl, hcap, hcap2, hblt, hform⟩ := hs.form
  clear hform hs hblt
  generalize hn : L.length = n at hcap hbig HS
  go_enter Try.func8, Try.ntmps8
  go_wp2_with (first | (go_at_call 16; refine (clone_H B _ L _ HS.out (by omega)).mono ?_; rintro e w' ⟨v', rfl, hs', hb'⟩))
  go_ret
  exact ⟨v', rfl, hs'.mono (by simp), ((Below.refl _ w).alloc (Nat.le_refl _) _).trans (hb'.mono (by simp))⟩
set_option maxHeartbeats 16000000 in
set_option maxRecDepth 100000 in
theorem give_yes (B : Nat) (rb rt a : BitVec 64) (x : Int) (v : Value) (L : List Hb) (w : World) (hs : SlH w B v L) (hbig : L.length ≤ 1099511627775) (k : Nat) (r : Hb) (hi : idxI (giveF a) L = (k : Int)) (hk : L[k]? = some r) : Calls Try.prog 6 #[.agg #[.int .u64 (U rb), .int .u64 (U rt), v], .int .u64 (U a), .int .i64 x] w fun e w' => ∃ v', e = .returned (.tuple #[.agg #[.int .u64 (U rb), .int .u64 (U rt), v'], .int .i64 0]) ∧ SlH w' w.heap.size v' (L.set k ⟨r.b, r.t, true, x⟩) ∧ Below w.heap.size w w' := by
  have hs3 : ∀ o1 o2 o3, SlH (((w.alloc o1).alloc o2).alloc o3) B v L := fun o1 o2 o3 => hs.below ((((Below.refl _ w).alloc (Nat.le_refl _) o1).alloc (by simp) o2).alloc (by simp; omega) o3)
  have HS := Lib.hid hs3
  have hsw_ := fun (W : World) (h : Below w.heap.size w W) => hs.below h
  have HSW := Lib.hid hsw_
  obtain ⟨a', cap, rfl, hcap, hcap2, hblt, hform⟩ := hs.form
  clear hsw_ hform hs hs3 hblt
  have hlt : k < L.length := (List.getElem?_eq_some_iff.1 hk).1
  have HK := Lib.hid hk
  clear hk
  have hnpos : 0 < L.length := by omega
  generalize hn : L.length = n at hcap hbig HS HSW hlt
  go_enter Try.func6, Try.ntmps6
  go_wp2_with (first | (go_at_call 17; refine (idx_give B _ L _ (HS.out _ _ _) (by omega) a (w.heap.size + 1) (by (first | (go_simp; done) | (go_simp; (simp [↓IntWalk.iteOmega]; done)) | (go_simp; intros; omega) | (go_simp; simp [↓IntWalk.iteOmega]; intros; omega))) (by simp)).mono ?_; rw [hi]; rintro e w' ⟨rfl, hbl⟩; obtain ⟨hcw, hfw, hsw⟩ := below_ifs hbl; (try simp only [World.size_alloc, World.size_setCell, World.size_drew, size_drewN_] at hcw hfw hsw)) | (go_at_call 16; refine (clone_H B _ L _ (HSW.out _ (by (repeat (first | with_reducible exact Below.refl _ _ | with_reducible assumption | with_reducible refine below_drewN ?_ _ | with_reducible refine Below.drew ?_ | with_reducible refine below_alloc ?_ _ | (with_reducible refine Below.setCell ?_ (by first | (simp; done) | omega | (simp; omega)) _) | with_reducible refine belows ?_ (by assumption))))) (by omega)).mono ?_; rintro e w2 ⟨v', rfl, hs', hb'⟩; obtain ⟨g', c', rfl, hge', hlt', hn', hm', hx'⟩ := hs'.row (by omega); obtain ⟨⟨x0, x1, x2, x3⟩, hfz⟩ := hx' k r HK.out; have HS2 := Lib.hid hs'; clear hx' hs'; obtain ⟨hcw2, hfw2, hsw2⟩ := below_ifs hb'; (try simp only [World.size_alloc, World.size_setCell, World.size_drew, size_drewN_] at hcw2 hfw2 hsw2 hge')))
  have y0 : w2.cell? ⟨w.heap.size, 0, none⟩ = some (.int .u64 (U rb)) := by (first | (go_simp; done) | (go_simp; (simp [↓IntWalk.iteOmega]; done)) | (go_simp; intros; omega) | (go_simp; simp [↓IntWalk.iteOmega]; intros; omega))
  have y1 : w2.cell? ⟨w.heap.size, 1, none⟩ = some (.int .u64 (U rt)) := by (first | (go_simp; done) | (go_simp; (simp [↓IntWalk.iteOmega]; done)) | (go_simp; intros; omega) | (go_simp; simp [↓IntWalk.iteOmega]; intros; omega))
  have y2 : w2.cell? ⟨w.heap.size, 2, none⟩ = some (.slice a' n cap) := by (first | (go_simp; done) | (go_simp; (simp [↓IntWalk.iteOmega]; done)) | (go_simp; intros; omega) | (go_simp; simp [↓IntWalk.iteOmega]; intros; omega))
  have z0 : w2.cell? ⟨w.heap.size + 1 + 1, 0, none⟩ = some (.int .u64 0) := by (first | (go_simp; done) | (go_simp; (simp [↓IntWalk.iteOmega]; done)) | (go_simp; intros; omega) | (go_simp; simp [↓IntWalk.iteOmega]; intros; omega))
  have z1 : w2.cell? ⟨w.heap.size + 1 + 1, 1, none⟩ = some (.int .u64 0) := by (first | (go_simp; done) | (go_simp; (simp [↓IntWalk.iteOmega]; done)) | (go_simp; intros; omega) | (go_simp; simp [↓IntWalk.iteOmega]; intros; omega))
  have z2 : w2.cell? ⟨w.heap.size + 1 + 1, 2, none⟩ = some (.slice none 0 0) := by (first | (go_simp; done) | (go_simp; (simp [↓IntWalk.iteOmega]; done)) | (go_simp; intros; omega) | (go_simp; simp [↓IntWalk.iteOmega]; intros; omega))
  have f0 : w2.frozen? ⟨w.heap.size, 2, none⟩ = false := by (first | (go_simp; done) | (go_simp; (simp [↓IntWalk.iteOmega]; done)) | (go_simp; intros; omega) | (go_simp; simp [↓IntWalk.iteOmega]; intros; omega))
  have f1 : w2.frozen? ⟨w.heap.size + 1 + 1, 0, none⟩ = false := by (first | (go_simp; done) | (go_simp; (simp [↓IntWalk.iteOmega]; done)) | (go_simp; intros; omega) | (go_simp; simp [↓IntWalk.iteOmega]; intros; omega))
  have f2 : w2.frozen? ⟨w.heap.size + 1 + 1, 1, none⟩ = false := by (first | (go_simp; done) | (go_simp; (simp [↓IntWalk.iteOmega]; done)) | (go_simp; intros; omega) | (go_simp; simp [↓IntWalk.iteOmega]; intros; omega))
  have f3 : w2.frozen? ⟨w.heap.size + 1 + 1, 2, none⟩ = false := by (first | (go_simp; done) | (go_simp; (simp [↓IntWalk.iteOmega]; done)) | (go_simp; intros; omega) | (go_simp; simp [↓IntWalk.iteOmega]; intros; omega))
  have hbw : Below w.heap.size w w2 := by (repeat (first | with_reducible exact Below.refl _ _ | with_reducible assumption | with_reducible refine below_drewN ?_ _ | with_reducible refine Below.drew ?_ | with_reducible refine below_alloc ?_ _ | (with_reducible refine Below.setCell ?_ (by first | (simp; done) | omega | (simp; omega)) _) | with_reducible refine belows ?_ (by assumption)))
  have hg0 : g' ≠ w.heap.size := by omega
  have hg2 : g' ≠ w.heap.size + 1 + 1 := by omega
  have hp0 : w.heap.size < w2.heap.size := by omega
  have hp2 : w.heap.size + 1 + 1 < w2.heap.size := by omega
  have hsz := hsw2
  clear hcw hfw hcw2 hfw2 hbl hb'
  go_region_law fail
  all_goals go_wp2_with fail
  all_goals refine bodyPost_ret (results_ct [.int .u64 (U rb), .int .u64 (U rt), .slice (some ⟨g', 0, none⟩) L.length c'] (.int .i64 0) Try.results6 rfl rfl ?_ Try.underlying27 rfl (by kernel_rfl)) rfl ?_
  all_goals first | ((first | (go_simp; done) | (go_simp; (simp [↓IntWalk.iteOmega]; done)) | (go_simp; intros; omega) | (go_simp; simp [↓IntWalk.iteOmega]; intros; omega)); done) | skip
  all_goals
    refine ⟨_, rfl, ?_, by (repeat (first | with_reducible exact Below.refl _ _ | with_reducible assumption | with_reducible refine below_drewN ?_ _ | with_reducible refine Below.drew ?_ | with_reducible refine below_alloc ?_ _ | (with_reducible refine Below.setCell ?_ (by first | (simp; done) | omega | (simp; omega)) _) | with_reducible refine belows ?_ (by assumption)))⟩
    have hne0 : ∀ g, (Value.slice (some ⟨g', 0, none⟩) L.length c').ownBlock = some g → g ≠ w.heap.size := fun g hg => by simp [Value.ownBlock] at hg; omega
    have hne : ∀ g, (Value.slice (some ⟨g', 0, none⟩) L.length c').ownBlock = some g → g ≠ w.heap.size + 1 + 1 := fun g hg => by simp [Value.ownBlock] at hg; omega
    have h1 := (HS2.out.other ⟨w.heap.size, 2, none⟩ (.slice (some ⟨g', 0, none⟩) L.length c') hne0).give k r x HK.out
    have h3 : w.heap.size ≤ w.heap.size + 1 + 1 + 1 := by omega
    have h5 := Nat.le_trans h3 hsw
    have h6 := ((((h1.1.other ⟨w.heap.size + 1 + 1, 0, none⟩ (.int .u64 (U rb)) hne).other ⟨w.heap.size + 1 + 1, 1, none⟩ (.int .u64 (U rt)) hne).other ⟨w.heap.size + 1 + 1, 2, none⟩ (.slice (some ⟨g', 0, none⟩) L.length c') hne).mono h5).drew
    have h7 := ((((h1.2.other ⟨w.heap.size + 1 + 1, 0, none⟩ (.int .u64 (U rb)) hne).other ⟨w.heap.size + 1 + 1, 1, none⟩ (.int .u64 (U rt)) hne).other ⟨w.heap.size + 1 + 1, 2, none⟩ (.slice (some ⟨g', 0, none⟩) L.length c') hne).mono h5).drew
    subst hn
    first
      | with_reducible exact h6
      | with_reducible exact h7
end Go.Proofs.Ytlhhahafmmfhhaa
