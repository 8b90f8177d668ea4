
/-
  Maps of reservations: Hold, Drop.
-/
import Derived.Test.YtnillifinnmigaaRgG
namespace Go.Proofs.Ytnillifinnmigaa
open Go Go.RowKit
set_option linter.unusedVariables false
set_option linter.unusedSimpArgs false

set_option maxHeartbeats 4000000 in
set_option maxRecDepth 100000 in
theorem hold_no (B : Nat) (rb rt b t : BitVec 64) (v : Value) (L : List Rg) (w : World) (hs : SlR w B v L) (hbig : L.length ≤ 1099511627775) (hi : idxI (isR b t 1) L = -1) : Calls Try.prog 11 #[.agg #[.int .u64 (U rb), .int .u64 (U rt), v], .agg #[.int .u64 (U b), .int .u64 (U t)]] w fun e w' => e = .returned (.tuple #[.agg #[.int .u64 (U rb), .int .u64 (U rt), v], .int .i64 13]) ∧ Below w.heap.size w w' := by
  have hs3 : ∀ o1 o2 o3, SlR (((w.alloc o1).alloc o2).alloc o3) B v L := fun o1 o2 o3 => hs.below ((((Below.refl _ w).alloc (Nat.le_refl _) o1).alloc (by simp) o2).alloc (by simp; omega) o3)
  have HS := Lib.hid hs3
  have hsw_ := fun (W : World) (h : Below w.heap.size w W) => hs.below h
  have HSW := Lib.hid hsw_
  obtain ⟨a', cap, rfl, hcap, hcap2, hblt, hform⟩ := hs.form
  clear hsw_ hform hs hs3 hblt
  generalize hn : L.length = n at hcap hbig HS HSW
  go_enter Try.func11, Try.ntmps11
  go_wp2_with (first | (go_at_call 29; refine (index_any B _ L _ (HS.out _ _ _) (by omega) b t 1).mono ?_; rw [hi]; rintro e w' ⟨rfl, hbl⟩; obtain ⟨hcw, hfw, hsw⟩ := below_ifs hbl; (try simp only [World.size_alloc, World.size_setCell, World.size_drew, size_drewN_] at hcw hfw hsw)))
  refine bodyPost_ret (results_ct [.int .u64 (U rb), .int .u64 (U rt), .slice a' n cap] (.int .i64 13) Try.results11 rfl rfl ?_ Try.underlying28 rfl (by kernel_rfl)) rfl ?_
  · (first | (go_simp; done) | (go_simp; (simp [↓IntWalk.iteOmega]; done)) | (go_simp; intros; omega) | (go_simp; simp [↓IntWalk.iteOmega]; intros; omega))
  · exact ⟨rfl, by (repeat (first | with_reducible exact Below.refl _ _ | with_reducible assumption | with_reducible refine below_drewN ?_ _ | with_reducible refine Below.drew ?_ | with_reducible refine below_alloc ?_ _ | (with_reducible refine Below.setCell ?_ (by first | (simp; done) | omega | (simp; omega)) _) | with_reducible refine belows ?_ (by assumption)))⟩
set_option maxHeartbeats 4000000 in
set_option maxRecDepth 100000 in
theorem drop_no (B : Nat) (rb rt b t : BitVec 64) (v : Value) (L : List Rg) (w : World) (hs : SlR w B v L) (hbig : L.length ≤ 1099511627775) (hi : idxI (isR b t 2) L = -1) : Calls Try.prog 12 #[.agg #[.int .u64 (U rb), .int .u64 (U rt), v], .agg #[.int .u64 (U b), .int .u64 (U t)]] w fun e w' => e = .returned (.tuple #[.agg #[.int .u64 (U rb), .int .u64 (U rt), v], .int .i64 13]) ∧ Below w.heap.size w w' := by
  have hs3 : ∀ o1 o2 o3, SlR (((w.alloc o1).alloc o2).alloc o3) B v L := fun o1 o2 o3 => hs.below ((((Below.refl _ w).alloc (Nat.le_refl _) o1).alloc (by simp) o2).alloc (by simp; omega) o3)
  have HS := Lib.hid hs3
  have hsw_ := fun (W : World) (h : Below w.heap.size w W) => hs.below h
  have HSW := Lib.hid hsw_
  obtain ⟨a', cap, rfl, hcap, hcap2, hblt, hform⟩ := hs.form
  clear hsw_ hform hs hs3 hblt
  generalize hn : L.length = n at hcap hbig HS HSW
  go_enter Try.func12, Try.ntmps12
  go_wp2_with (first | (go_at_call 29; refine (index_any B _ L _ (HS.out _ _ _) (by omega) b t 2).mono ?_; rw [hi]; rintro e w' ⟨rfl, hbl⟩; obtain ⟨hcw, hfw, hsw⟩ := below_ifs hbl; (try simp only [World.size_alloc, World.size_setCell, World.size_drew, size_drewN_] at hcw hfw hsw)))
  refine bodyPost_ret (results_ct [.int .u64 (U rb), .int .u64 (U rt), .slice a' n cap] (.int .i64 13) Try.results12 rfl rfl ?_ Try.underlying28 rfl (by kernel_rfl)) rfl ?_
  · (first | (go_simp; done) | (go_simp; (simp [↓IntWalk.iteOmega]; done)) | (go_simp; intros; omega) | (go_simp; simp [↓IntWalk.iteOmega]; intros; omega))
  · exact ⟨rfl, by (repeat (first | with_reducible exact Below.refl _ _ | with_reducible assumption | with_reducible refine below_drewN ?_ _ | with_reducible refine Below.drew ?_ | with_reducible refine below_alloc ?_ _ | (with_reducible refine Below.setCell ?_ (by first | (simp; done) | omega | (simp; omega)) _) | with_reducible refine belows ?_ (by assumption)))⟩
set_option maxHeartbeats 4000000 in
set_option maxRecDepth 100000 in
theorem hold_yes (B : Nat) (rb rt b t : BitVec 64) (v : Value) (L : List Rg) (w : World) (hs : SlR w B v L) (hbig : L.length ≤ 1099511627775) (k : Nat) (r : Rg) (hi : idxI (isR b t 1) L = (k : Int)) (hk : L[k]? = some r) : Calls Try.prog 11 #[.agg #[.int .u64 (U rb), .int .u64 (U rt), v], .agg #[.int .u64 (U b), .int .u64 (U t)]] w fun e w' => ∃ v', e = .returned (.tuple #[.agg #[.int .u64 (U rb), .int .u64 (U rt), v'], .int .i64 0]) ∧ SlR w' w.heap.size v' (L.set k ⟨r.b, r.t, 2⟩) ∧ Below w.heap.size w w' := by
  have hs3 : ∀ o1 o2 o3, SlR (((w.alloc o1).alloc o2).alloc o3) B v L := fun o1 o2 o3 => hs.below ((((Below.refl _ w).alloc (Nat.le_refl _) o1).alloc (by simp) o2).alloc (by simp; omega) o3)
  have HS := Lib.hid hs3
  have hsw_ := fun (W : World) (h : Below w.heap.size w W) => hs.below h
  have HSW := Lib.hid hsw_
  obtain ⟨a', cap, rfl, hcap, hcap2, hblt, hform⟩ := hs.form
  clear hsw_ hform hs hs3 hblt
  have hlt : k < L.length := (List.getElem?_eq_some_iff.1 hk).1
  have HK := Lib.hid hk
  clear hk
  have hnpos : 0 < L.length := by omega
  generalize hn : L.length = n at hcap hbig HS HSW hlt
  go_enter Try.func11, Try.ntmps11
  go_wp2_with (first | (go_at_call 29; refine (index_any B _ L _ (HS.out _ _ _) (by omega) b t 1).mono ?_; rw [hi]; rintro e w' ⟨rfl, hbl⟩; obtain ⟨hcw, hfw, hsw⟩ := below_ifs hbl; (try simp only [World.size_alloc, World.size_setCell, World.size_drew, size_drewN_] at hcw hfw hsw)) | (go_at_call 23; refine (clone_R B _ L _ (HSW.out _ (by (repeat (first | with_reducible exact Below.refl _ _ | with_reducible assumption | with_reducible refine below_drewN ?_ _ | with_reducible refine Below.drew ?_ | with_reducible refine below_alloc ?_ _ | (with_reducible refine Below.setCell ?_ (by first | (simp; done) | omega | (simp; omega)) _) | with_reducible refine belows ?_ (by assumption))))) (by omega)).mono ?_; rintro e w2 ⟨v', rfl, hs', hb'⟩; obtain ⟨g', c', rfl, hge', hlt', hn', hm', hx'⟩ := hs'.row (by omega); obtain ⟨⟨x0, x1, x2⟩, hfz⟩ := hx' k r HK.out; have HS2 := Lib.hid hs'; clear hx' hs'; obtain ⟨hcw2, hfw2, hsw2⟩ := below_ifs hb'; (try simp only [World.size_alloc, World.size_setCell, World.size_drew, size_drewN_] at hcw2 hfw2 hsw2 hge')))
  refine bodyPost_ret (results_ct [.int .u64 (U rb), .int .u64 (U rt), .slice (some ⟨g', 0, none⟩) L.length c'] (.int .i64 0) Try.results11 rfl rfl ?_ Try.underlying28 rfl (by kernel_rfl)) rfl ?_
  · (first | (go_simp; done) | (go_simp; (simp [↓IntWalk.iteOmega]; done)) | (go_simp; intros; omega) | (go_simp; simp [↓IntWalk.iteOmega]; intros; omega))
  · refine ⟨_, rfl, ?_, by (repeat (first | with_reducible exact Below.refl _ _ | with_reducible assumption | with_reducible refine below_drewN ?_ _ | with_reducible refine Below.drew ?_ | with_reducible refine below_alloc ?_ _ | (with_reducible refine Below.setCell ?_ (by first | (simp; done) | omega | (simp; omega)) _) | with_reducible refine belows ?_ (by assumption)))⟩
    have h1 := (HS2.out.other ⟨w.heap.size, 2, none⟩ (.slice (some ⟨g', 0, none⟩) L.length c') (fun g hg => by simp [Value.ownBlock] at hg; show g ≠ w.heap.size; omega)).set k r 2 HK.out
    have hne : ∀ g, (Value.slice (some ⟨g', 0, none⟩) L.length c').ownBlock = some g → g ≠ w.heap.size + 1 + 1 := fun g hg => by simp [Value.ownBlock] at hg; omega
    have h2 := (((h1.other ⟨w.heap.size + 1 + 1, 0, none⟩ (.int .u64 (U rb)) hne).other ⟨w.heap.size + 1 + 1, 1, none⟩ (.int .u64 (U rt)) hne).other ⟨w.heap.size + 1 + 1, 2, none⟩ (.slice (some ⟨g', 0, none⟩) L.length c') hne)
    subst hn
    have h3 : w.heap.size ≤ w.heap.size + 1 + 1 + 1 := by omega
    with_reducible exact h2.mono (Nat.le_trans h3 hsw)
set_option maxHeartbeats 4000000 in
set_option maxRecDepth 100000 in
theorem drop_yes (B : Nat) (rb rt b t : BitVec 64) (v : Value) (L : List Rg) (w : World) (hs : SlR w B v L) (hbig : L.length ≤ 1099511627775) (k : Nat) (r : Rg) (hi : idxI (isR b t 2) L = (k : Int)) (hk : L[k]? = some r) : Calls Try.prog 12 #[.agg #[.int .u64 (U rb), .int .u64 (U rt), v], .agg #[.int .u64 (U b), .int .u64 (U t)]] w fun e w' => ∃ v', e = .returned (.tuple #[.agg #[.int .u64 (U rb), .int .u64 (U rt), v'], .int .i64 0]) ∧ SlR w' w.heap.size v' (L.take k ++ L.drop (k + 1)) ∧ Below w.heap.size w w' := by
  have hs3 : ∀ o1 o2 o3, SlR (((w.alloc o1).alloc o2).alloc o3) B v L := fun o1 o2 o3 => hs.below ((((Below.refl _ w).alloc (Nat.le_refl _) o1).alloc (by simp) o2).alloc (by simp; omega) o3)
  have HS := Lib.hid hs3
  have hsw_ := fun (W : World) (h : Below w.heap.size w W) => hs.below h
  have HSW := Lib.hid hsw_
  obtain ⟨a', cap, rfl, hcap, hcap2, hblt, hform⟩ := hs.form
  clear hsw_ hform hs hs3 hblt
  have hlt : k < L.length := (List.getElem?_eq_some_iff.1 hk).1
  clear hk
  generalize hn : L.length = n at hcap hbig HS HSW hlt
  generalize hL' : L.take k ++ L.drop (k + 1) = L'
  have HL' := Lib.hid hL'
  clear hL'
  go_enter Try.func12, Try.ntmps12
  go_wp2_with (first | (go_at_call 29; refine (index_any B _ L _ (HS.out _ _ _) (by omega) b t 2).mono ?_; rw [hi]; rintro e w' ⟨rfl, hbl⟩; obtain ⟨hcw, hfw, hsw⟩ := below_ifs hbl; (try simp only [World.size_alloc, World.size_setCell, World.size_drew, size_drewN_] at hcw hfw hsw)) | (go_at_call 23; refine (clone_R B _ L _ (HSW.out _ (by (repeat (first | with_reducible exact Below.refl _ _ | with_reducible assumption | with_reducible refine below_drewN ?_ _ | with_reducible refine Below.drew ?_ | with_reducible refine below_alloc ?_ _ | (with_reducible refine Below.setCell ?_ (by first | (simp; done) | omega | (simp; omega)) _) | with_reducible refine belows ?_ (by assumption))))) (by omega)).mono ?_; rintro e w2 ⟨v', rfl, hs', hb'⟩; have HS2 := Lib.hid hs'; clear hs'; obtain ⟨hcw2, hfw2, hsw2⟩ := below_ifs hb'; (try simp only [World.size_alloc, World.size_setCell, World.size_drew, size_drewN_] at hcw2 hfw2 hsw2)) | (go_at_call 30; refine (del_R _ k _ L _ HS2.out (by omega) (by omega)).mono ?_; rintro e w3 ⟨v3, rfl, hs3', hb3'⟩; have HS3 := Lib.hid hs3'; clear hs3'; have hge3 : ∀ g, v3.ownBlock = some g → w.heap.size + 1 + 1 + 1 ≤ g := (fun g hg => by have := HS3.out.ge g hg; (try simp only [World.size_alloc, World.size_setCell, World.size_drew, size_drewN_] at this hsw); omega); obtain ⟨hcw3, hfw3, hsw3⟩ := below_ifs hb3'; (try simp only [World.size_alloc, World.size_setCell, World.size_drew, size_drewN_] at hcw3 hfw3 hsw3); obtain ⟨a3, c3, hv3, -, -, -, -⟩ := HS3.out.form; obtain ⟨l3, hl3⟩ : ∃ l3, l3 = (L.take k ++ L.drop (k + 1)).length := ⟨_, rfl⟩; rewrite [← hl3] at hv3; subst hv3; clear hl3; have hW3 : Below w.heap.size w w3 := Below.trans (b := w2) (by (repeat (first | with_reducible exact Below.refl _ _ | with_reducible assumption | with_reducible refine below_drewN ?_ _ | with_reducible refine Below.drew ?_ | with_reducible refine below_alloc ?_ _ | (with_reducible refine Below.setCell ?_ (by first | (simp; done) | omega | (simp; omega)) _) | with_reducible refine belows ?_ (by assumption)))) (hb3'.mono (by (try simp only [World.size_alloc, World.size_setCell, World.size_drew, size_drewN_] at hsw ⊢); omega))))
  refine bodyPost_ret (results_ct [.int .u64 (U rb), .int .u64 (U rt), .slice a3 l3 c3] (.int .i64 0) Try.results12 rfl rfl ?_ Try.underlying28 rfl (by kernel_rfl)) rfl ?_
  · (first | (go_simp; done) | (go_simp; (simp [↓IntWalk.iteOmega]; done)) | (go_simp; intros; omega) | (go_simp; simp [↓IntWalk.iteOmega]; intros; omega))
  · refine ⟨_, rfl, ?_, by (repeat (first | with_reducible exact Below.refl _ _ | with_reducible assumption | with_reducible refine below_drewN ?_ _ | with_reducible refine Below.drew ?_ | with_reducible refine below_alloc ?_ _ | (with_reducible refine Below.setCell ?_ (by first | (simp; done) | omega | (simp; omega)) _) | with_reducible refine belows ?_ (by assumption)))⟩
    have hne0 : ∀ g, (Value.slice a3 l3 c3).ownBlock = some g → g ≠ w.heap.size := fun g hg => by have := hge3 g hg; omega
    have hne : ∀ g, (Value.slice a3 l3 c3).ownBlock = some g → g ≠ w.heap.size + 1 + 1 := fun g hg => by have := hge3 g hg; omega
    have h2 := ((((HS3.out.other ⟨w.heap.size, 2, none⟩ (.slice a3 l3 c3) hne0).other ⟨w.heap.size + 1 + 1, 0, none⟩ (.int .u64 (U rb)) hne).other ⟨w.heap.size + 1 + 1, 1, none⟩ (.int .u64 (U rt)) hne).other ⟨w.heap.size + 1 + 1, 2, none⟩ (.slice a3 l3 c3) hne)
    have h3 : w.heap.size ≤ w.heap.size + 1 + 1 + 1 := by omega
    rw [← HL'.out]
    exact h2.mono (by first | exact Nat.le_trans h3 hsw | (simp; omega))
end Go.Proofs.Ytnillifinnmigaa
