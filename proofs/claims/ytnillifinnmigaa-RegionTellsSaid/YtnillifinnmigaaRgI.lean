
/-
  Maps of reservations: Add.
-/
import Derived.Test.YtnillifinnmigaaRgH
import Derived.Deep.RegionLaw
namespace Go.Proofs.Ytnillifinnmigaa
open Go Go.RowKit
set_option linter.unusedVariables false
set_option linter.unusedSimpArgs false

theorem SlR.form0 {w : World} {B : Nat} {v : Value} {L : List Rg} (h : SlR w B v L) : ∃ a n c, v = .slice a n c := by
  obtain ⟨a, c, e, -⟩ := h.form
  exact ⟨a, _, c, e⟩
def AddSt (W : World) (p : Nat) (rb rt b t : BitVec 64) (v : Value) : Prop := p + 3 ≤ W.heap.size ∧ (W.cell? ⟨p, 0, none⟩ = some (.int .u64 (U rb)) ∧ W.cell? ⟨p, 1, none⟩ = some (.int .u64 (U rt)) ∧ W.cell? ⟨p, 2, none⟩ = some v ∧ W.cell? ⟨p + 1, 0, none⟩ = some (.int .u64 (U b)) ∧ W.cell? ⟨p + 1, 1, none⟩ = some (.int .u64 (U t)) ∧ W.cell? ⟨p + 1 + 1, 0, none⟩ = some (.int .u64 0) ∧ W.cell? ⟨p + 1 + 1, 1, none⟩ = some (.int .u64 0) ∧ W.cell? ⟨p + 1 + 1, 2, none⟩ = some (.slice none 0 0)) ∧ (W.frozen? ⟨p, 2, none⟩ = false ∧ W.frozen? ⟨p + 1 + 1, 0, none⟩ = false ∧ W.frozen? ⟨p + 1 + 1, 1, none⟩ = false ∧ W.frozen? ⟨p + 1 + 1, 2, none⟩ = false)
theorem AddSt.below {W W' : World} {p B : Nat} {rb rt b t : BitVec 64} {v : Value} (h : AddSt W p rb rt b t v) (hb : Below B W W') (hB : p + 3 ≤ B) : AddSt W' p rb rt b t v := by
  obtain ⟨h0, ⟨c0, c1, c2, c3, c4, c5, c6, c7⟩, f0, f1, f2, f3⟩ := h
  have q0 : p < B := by omega
  have q1 : p + 1 < B := by omega
  have q2 : p + 1 + 1 < B := by omega
  exact ⟨Nat.le_trans h0 hb.size, ⟨(hb.cell (p := ⟨p, _, none⟩) q0).trans c0, (hb.cell (p := ⟨p, _, none⟩) q0).trans c1, (hb.cell (p := ⟨p, _, none⟩) q0).trans c2, (hb.cell (p := ⟨p + 1, _, none⟩) q1).trans c3, (hb.cell (p := ⟨p + 1, _, none⟩) q1).trans c4, (hb.cell (p := ⟨p + 1 + 1, _, none⟩) q2).trans c5, (hb.cell (p := ⟨p + 1 + 1, _, none⟩) q2).trans c6, (hb.cell (p := ⟨p + 1 + 1, _, none⟩) q2).trans c7⟩, (hb.frozen (p := ⟨p, _, none⟩) q0).trans f0, (hb.frozen (p := ⟨p + 1 + 1, _, none⟩) q2).trans f1, (hb.frozen (p := ⟨p + 1 + 1, _, none⟩) q2).trans f2, (hb.frozen (p := ⟨p + 1 + 1, _, none⟩) q2).trans f3⟩
theorem AddSt.drew {W : World} {p : Nat} {rb rt b t : BitVec 64} {v : Value} (h : AddSt W p rb rt b t v) : AddSt W.drew p rb rt b t v := h
theorem AddSt.alloc {W : World} {p : Nat} {rb rt b t : BitVec 64} {v : Value} (h : AddSt W p rb rt b t v) (o : Obj) : AddSt (W.alloc o) p rb rt b t v :=
  h.below (B := W.heap.size) ((Below.refl _ W).alloc (Nat.le_refl _) o) h.1
set_option maxHeartbeats 4000000 in
set_option maxRecDepth 100000 in
theorem add_arg (B : Nat) (rb rt b t : BitVec 64) (v : Value) (L : List Rg) (w : World) (hs : SlR w B v L) (h : (pagesF b t && inRF b t rb rt) = false) : Calls Try.prog 10 #[.agg #[.int .u64 (U rb), .int .u64 (U rt), v], .agg #[.int .u64 (U b), .int .u64 (U t)]] w fun e w' => e = .returned (.tuple #[.agg #[.int .u64 (U rb), .int .u64 (U rt), v], .int .i64 2]) ∧ Below w.heap.size w w' := by
  have hs3 : ∀ W, Below w.heap.size w W → SlR W B v L := fun W h => hs.below h
  have HSW := Lib.hid hs3
  obtain ⟨a', cap, rfl, hcap, hcap2, hblt, hform⟩ := hs.form
  clear hform hs hs3 hblt
  have cp := fun w => pages_any b t w
  have ci := fun w => inr_any b t rb rt w
  generalize L.length = n at hcap HSW
  generalize pagesF b t = p at cp h
  generalize inRF b t rb rt = q at ci h
  go_enter Try.func10, Try.ntmps10
  cases p <;> cases q <;> simp at h
  all_goals
    go_wp2_with (first | (go_at_call 15; (with_reducible refine (cp _).mono ?_); rintro e w' ⟨rfl, hbl⟩; obtain ⟨hcw, hfw, hsw⟩ := below_ifs hbl; (try simp only [World.size_alloc, World.size_setCell, World.size_drew, size_drewN_] at hcw hfw hsw)) | (go_at_call 18; (with_reducible refine (ci _).mono ?_); rintro e w' ⟨rfl, hbl⟩; obtain ⟨hcw, hfw, hsw⟩ := below_ifs hbl; (try simp only [World.size_alloc, World.size_setCell, World.size_drew, size_drewN_] at hcw hfw hsw)))
    refine bodyPost_ret (results_ct [.int .u64 (U rb), .int .u64 (U rt), .slice a' n cap] (.int .i64 2) Try.results10 rfl rfl ?_ Try.underlying28 rfl (by kernel_rfl)) rfl ?_
    · (first | (go_simp; done) | (go_simp; (simp [↓IntWalk.iteOmega]; done)) | (go_simp; intros; omega) | (go_simp; simp [↓IntWalk.iteOmega]; intros; omega))
    · exact ⟨rfl, by (repeat (first | with_reducible exact Below.refl _ _ | with_reducible assumption | with_reducible refine below_drewN ?_ _ | with_reducible refine Below.drew ?_ | with_reducible refine below_alloc ?_ _ | (with_reducible refine Below.setCell ?_ (by first | (simp; done) | omega | (simp; omega)) _) | with_reducible refine belows ?_ (by assumption)))⟩
set_option maxHeartbeats 4000000 in
set_option maxRecDepth 100000 in
theorem add_there (B : Nat) (rb rt b t : BitVec 64) (v : Value) (L : List Rg) (w : World) (hs : SlR w B v L) (hbig : L.length ≤ 1099511627774) (hp : pagesF b t = true) (hq : inRF b t rb rt = true) (hc : (L.any fun r => meetF r.b r.t b t) = true) : Calls Try.prog 10 #[.agg #[.int .u64 (U rb), .int .u64 (U rt), v], .agg #[.int .u64 (U b), .int .u64 (U t)]] w fun e w' => e = .returned (.tuple #[.agg #[.int .u64 (U rb), .int .u64 (U rt), v], .int .i64 14]) ∧ Below w.heap.size w w' := by
  have hs3 : ∀ W, Below w.heap.size w W → SlR W B v L := fun W h => hs.below h
  have HSW := Lib.hid hs3
  obtain ⟨a', cap, rfl, hcap, hcap2, hblt, hform⟩ := hs.form
  clear hform hs hs3 hblt
  have cp := fun w => pages_any b t w
  have ci := fun w => inr_any b t rb rt w
  rw [hp] at cp
  rw [hq] at ci
  generalize hn : L.length = n at hcap HSW hbig
  go_enter Try.func10, Try.ntmps10
  go_wp2_with (first | (go_at_call 15; (with_reducible refine (cp _).mono ?_); rintro e w' ⟨rfl, hbl⟩; obtain ⟨hcw, hfw, hsw⟩ := below_ifs hbl; (try simp only [World.size_alloc, World.size_setCell, World.size_drew, size_drewN_] at hcw hfw hsw)) | (go_at_call 18; (with_reducible refine (ci _).mono ?_); rintro e w' ⟨rfl, hbl⟩; obtain ⟨hcw, hfw, hsw⟩ := below_ifs hbl; (try simp only [World.size_alloc, World.size_setCell, World.size_drew, size_drewN_] at hcw hfw hsw)) | (go_at_call 24; refine (cont_any B _ L _ (HSW.out _ (by (repeat (first | with_reducible exact Below.refl _ _ | with_reducible assumption | with_reducible refine below_drewN ?_ _ | with_reducible refine Below.drew ?_ | with_reducible refine below_alloc ?_ _ | (with_reducible refine Below.setCell ?_ (by first | (simp; done) | omega | (simp; omega)) _) | with_reducible refine belows ?_ (by assumption))))) (by omega) b t (w.heap.size + 1) (by (first | (go_simp; done) | (go_simp; (simp [↓IntWalk.iteOmega]; done)) | (go_simp; intros; omega) | (go_simp; simp [↓IntWalk.iteOmega]; intros; omega))) (by (first | (go_simp; done) | (go_simp; (simp [↓IntWalk.iteOmega]; done)) | (go_simp; intros; omega) | (go_simp; simp [↓IntWalk.iteOmega]; intros; omega))) (by first | omega | (simp; done) | (simp; omega))).mono ?_; rw [hc]; rintro e w' ⟨rfl, hbl⟩; obtain ⟨hcw, hfw, hsw⟩ := below_ifs hbl; (try simp only [World.size_alloc, World.size_setCell, World.size_drew, size_drewN_] at hcw hfw hsw)))
  refine bodyPost_ret (results_ct [.int .u64 (U rb), .int .u64 (U rt), .slice a' n cap] (.int .i64 14) Try.results10 rfl rfl ?_ Try.underlying28 rfl (by kernel_rfl)) rfl ?_
  · (first | (go_simp; done) | (go_simp; (simp [↓IntWalk.iteOmega]; done)) | (go_simp; intros; omega) | (go_simp; simp [↓IntWalk.iteOmega]; intros; omega))
  · exact ⟨rfl, by (repeat (first | with_reducible exact Below.refl _ _ | with_reducible assumption | with_reducible refine below_drewN ?_ _ | with_reducible refine Below.drew ?_ | with_reducible refine below_alloc ?_ _ | (with_reducible refine Below.setCell ?_ (by first | (simp; done) | omega | (simp; omega)) _) | with_reducible refine belows ?_ (by assumption)))⟩
set_option maxHeartbeats 4000000 in
set_option maxRecDepth 100000 in
theorem add_yes (B : Nat) (rb rt b t : BitVec 64) (v : Value) (L : List Rg) (w : World) (hs : SlR w B v L) (hbig : L.length ≤ 1099511627774) (hsort : ∀ (p q : Nat) (x y : Rg), p ≤ q → L[p]? = some x → L[q]? = some y → U x.b ≤ U y.b) (hp : pagesF b t = true) (hq : inRF b t rb rt = true) (hc : (L.any fun r => meetF r.b r.t b t) = false) : Calls Try.prog 10 #[.agg #[.int .u64 (U rb), .int .u64 (U rt), v], .agg #[.int .u64 (U b), .int .u64 (U t)]] w fun e w' => ∃ (i : Nat) (v' : Value), e = .returned (.tuple #[.agg #[.int .u64 (U rb), .int .u64 (U rt), v'], .int .i64 0]) ∧ i ≤ L.length ∧ (∀ (q : Nat) (x : Rg), q < i → L[q]? = some x → U x.b < U b) ∧ (∀ (q : Nat) (x : Rg), i ≤ q → L[q]? = some x → U b ≤ U x.b) ∧ SlR w' w.heap.size v' (L.take i ++ [⟨b, t, 1⟩] ++ L.drop i) ∧ Below w.heap.size w w' := by
  have hs3 : ∀ W, Below w.heap.size w W → SlR W B v L := fun W h => hs.below h
  have HSW := Lib.hid hs3
  obtain ⟨a', cap, rfl, hcap, hcap2, hblt, hform⟩ := hs.form
  clear hform hs hs3 hblt
  have cp := fun w => pages_any b t w
  have ci := fun w => inr_any b t rb rt w
  rw [hp] at cp
  rw [hq] at ci
  have HSO := Lib.hid hsort
  clear hsort
  generalize hn : L.length = n at hcap HSW hbig
  go_enter Try.func10, Try.ntmps10
  go_wp2_with (first | (go_at_call 15; (with_reducible refine (cp _).mono ?_); rintro e w' ⟨rfl, hbl⟩; obtain ⟨hcw, hfw, hsw⟩ := below_ifs hbl; (try simp only [World.size_alloc, World.size_setCell, World.size_drew, size_drewN_] at hcw hfw hsw)) | (go_at_call 18; (with_reducible refine (ci _).mono ?_); rintro e w' ⟨rfl, hbl⟩; obtain ⟨hcw, hfw, hsw⟩ := below_ifs hbl; (try simp only [World.size_alloc, World.size_setCell, World.size_drew, size_drewN_] at hcw hfw hsw)) | (go_at_call 24; refine (cont_any B _ L _ (HSW.out _ (by (repeat (first | with_reducible exact Below.refl _ _ | with_reducible assumption | with_reducible refine below_drewN ?_ _ | with_reducible refine Below.drew ?_ | with_reducible refine below_alloc ?_ _ | (with_reducible refine Below.setCell ?_ (by first | (simp; done) | omega | (simp; omega)) _) | with_reducible refine belows ?_ (by assumption))))) (by omega) b t (w.heap.size + 1) (by (first | (go_simp; done) | (go_simp; (simp [↓IntWalk.iteOmega]; done)) | (go_simp; intros; omega) | (go_simp; simp [↓IntWalk.iteOmega]; intros; omega))) (by (first | (go_simp; done) | (go_simp; (simp [↓IntWalk.iteOmega]; done)) | (go_simp; intros; omega) | (go_simp; simp [↓IntWalk.iteOmega]; intros; omega))) (by first | omega | (simp; done) | (simp; omega))).mono ?_; rw [hc]; rintro e w' ⟨rfl, hbl⟩; obtain ⟨hcw, hfw, hsw⟩ := below_ifs hbl; (try simp only [World.size_alloc, World.size_setCell, World.size_drew, size_drewN_] at hcw hfw hsw)) | (go_at_call 26; refine (bs_any B _ L _ (HSW.out _ (by (repeat (first | with_reducible exact Below.refl _ _ | with_reducible assumption | with_reducible refine below_drewN ?_ _ | with_reducible refine Below.drew ?_ | with_reducible refine below_alloc ?_ _ | (with_reducible refine Below.setCell ?_ (by first | (simp; done) | omega | (simp; omega)) _) | with_reducible refine belows ?_ (by assumption))))) (by omega) b HSO.out).mono ?_; rintro e w' ⟨i, rfl, hi1, hi2, hi3, hbl⟩; have HI := Lib.hid (And.intro hi2 hi3); clear hi2 hi3; obtain ⟨hcw, hfw, hsw⟩ := below_ifs hbl; (try simp only [World.size_alloc, World.size_setCell, World.size_drew, size_drewN_] at hcw hfw hsw)))
  have HY : Hid (AddSt w' w.heap.size rb rt b t (.slice a' n cap)) := by
    refine Lib.hid (show AddSt w' w.heap.size rb rt b t (.slice a' n cap) from ⟨by omega, ⟨?_, ?_, ?_, ?_, ?_, ?_, ?_, ?_⟩, ?_, ?_, ?_, ?_⟩)
    all_goals (first | (go_simp; done) | (go_simp; (simp [↓IntWalk.iteOmega]; done)) | (go_simp; intros; omega) | (go_simp; simp [↓IntWalk.iteOmega]; intros; omega))
  have hbw : Below w.heap.size w w' := by (repeat (first | with_reducible exact Below.refl _ _ | with_reducible assumption | with_reducible refine below_drewN ?_ _ | with_reducible refine Below.drew ?_ | with_reducible refine below_alloc ?_ _ | (with_reducible refine Below.setCell ?_ (by first | (simp; done) | omega | (simp; omega)) _) | with_reducible refine belows ?_ (by assumption)))
  have HBW := Lib.hid hbw
  have hsz : w.heap.size + 3 ≤ w'.heap.size := by omega
  have hq0 : w.heap.size < w'.heap.size := by omega
  have hq1 : w.heap.size + 1 < w'.heap.size := by omega
  clear hcw hfw hbl
  obtain ⟨-, ⟨y0, y1, y2, y3, y4, y5, y6, y7⟩, e0, e1, e2, e3⟩ := (show AddSt w' w.heap.size rb rt b t (.slice a' n cap) from HY.out)
  go_region_law (first | (go_simp; go_at_call 23; refine (clone_R B _ L _ (HSW.out _ (by (repeat (first | with_reducible exact Below.refl _ _ | with_reducible assumption | with_reducible refine below_drewN ?_ _ | with_reducible refine Below.drew ?_ | with_reducible refine below_alloc ?_ _ | (with_reducible refine Below.setCell ?_ (by first | (simp; done) | omega | (simp; omega)) _) | with_reducible refine belows ?_ (by assumption))))) (by omega)).mono ?_; rintro e w2 ⟨v', rfl, hs', hb'⟩; have HS2 := Lib.hid hs'; clear hs'; (first | have HY2 := Lib.hid (AddSt.below HY.out hb' HY.out.1) | have HY2 := Lib.hid (AddSt.below HY.out.drew hb' HY.out.1) | have HY2 := Lib.hid (AddSt.below (HY.out.alloc _) hb' (HY.out.alloc _).1) | have HY2 := Lib.hid (AddSt.below (HY.out.alloc _).drew hb' (HY.out.alloc _).1) | have HY2 := Lib.hid (AddSt.below (HY.out.drew.alloc _) hb' (HY.out.alloc _).1)); have hb2 : Below w.heap.size w w2 := Below.trans (by (repeat (first | with_reducible exact Below.refl _ _ | with_reducible assumption | with_reducible refine below_drewN ?_ _ | with_reducible refine Below.drew ?_ | with_reducible refine below_alloc ?_ _ | (with_reducible refine Below.setCell ?_ (by first | (simp; done) | omega | (simp; omega)) _) | with_reducible refine belows ?_ (by assumption)))) (hb'.mono (by first | omega | (simp; done) | (simp; omega))); obtain ⟨a2, n2, c2, rfl⟩ := HS2.out.form0; obtain ⟨-, ⟨z0, z1, z2, z3, z4, z5, z6, z7⟩, f0, f1, f2, f3⟩ := HY2.out; have hr0 : w.heap.size < w2.heap.size := (Nat.lt_of_lt_of_le (Nat.lt_succ_of_le (Nat.le_add_right _ 2)) HY2.out.1); have hr1 : w.heap.size + 1 < w2.heap.size := (Nat.lt_of_lt_of_le (Nat.lt_succ_of_le (Nat.le_add_right _ 1)) HY2.out.1); have hsw2 := hb'.size; (try simp only [World.size_alloc, World.size_setCell, World.size_drew, size_drewN_] at hsw2)) | (go_simp; go_at_call 28; refine (ins_R w'.heap.size i _ _ L ⟨b, t, 1⟩ _ ?_ ?_ (by omega) (by omega) ?_ ?_).mono ?_; (focus (refine SlR.mono (SlR.below HS2.out ?_) ?_; (focus (repeat (first | with_reducible exact Below.refl _ _ | with_reducible assumption | with_reducible refine below_drewN ?_ _ | with_reducible refine Below.drew ?_ | with_reducible refine below_alloc ?_ _ | (with_reducible refine Below.setCell ?_ (by first | (simp; done) | omega | (simp; omega)) _) | with_reducible refine belows ?_ (by assumption)))); first | omega | (simp; done) | (simp; omega))); (focus (first | omega | (simp; done) | (simp; omega))); (focus (first | exact heap_alloc_new _ _ | exact (hb'.block _ (by simp)).trans (heap_alloc_new _ _))); (focus (intro g hg; first | (have := HS2.out.lt g hg; omega) | (have := HS2.out.ge g hg; simp at this; omega))); rintro e w3 ⟨v3, rfl, hs3', hb3⟩; have HS3 := Lib.hid hs3'; clear hs3'; have hge3 : ∀ g, v3.ownBlock = some g → w'.heap.size ≤ g := (fun g hg => HS3.out.ge g hg); (first | have HY3 := Lib.hid (AddSt.below HY2.out hb3 hsz) | have HY3 := Lib.hid (AddSt.below HY2.out.drew hb3 hsz) | have HY3 := Lib.hid (AddSt.below (HY2.out.alloc _) hb3 hsz) | have HY3 := Lib.hid (AddSt.below (HY2.out.alloc _).drew hb3 hsz) | have HY3 := Lib.hid (AddSt.below (HY2.out.drew.alloc _) hb3 hsz)); have hW3 : Below w.heap.size w w3 := Below.trans (by (repeat (first | with_reducible exact Below.refl _ _ | with_reducible assumption | with_reducible refine below_drewN ?_ _ | with_reducible refine Below.drew ?_ | with_reducible refine below_alloc ?_ _ | (with_reducible refine Below.setCell ?_ (by first | (simp; done) | omega | (simp; omega)) _) | with_reducible refine belows ?_ (by assumption)))) (hb3.mono (by omega)); obtain ⟨a3, l3, c3, rfl⟩ := HS3.out.form0; obtain ⟨-, ⟨x0, x1, x2, x3, x4, x5, x6, x7⟩, g0, g1, g2, g3⟩ := HY3.out))
  all_goals go_wp2_with fail
  all_goals refine bodyPost_ret (results_ct [.int .u64 (U rb), .int .u64 (U rt), .slice a3 l3 c3] (.int .i64 0) Try.results10 rfl rfl ?_ Try.underlying28 rfl (by kernel_rfl)) rfl ?_
  all_goals first | ((first | (go_simp; done) | (go_simp; (simp [↓IntWalk.iteOmega]; done)) | (go_simp; intros; omega) | (go_simp; simp [↓IntWalk.iteOmega]; intros; omega)); done) | skip
  all_goals
    refine ⟨i, _, rfl, by omega, HI.out.1, HI.out.2, ?_, by (repeat (first | with_reducible exact Below.refl _ _ | with_reducible assumption | with_reducible refine below_drewN ?_ _ | with_reducible refine Below.drew ?_ | with_reducible refine below_alloc ?_ _ | (with_reducible refine Below.setCell ?_ (by first | (simp; done) | omega | (simp; omega)) _) | with_reducible refine belows ?_ (by assumption)))⟩
    have hne0 : ∀ g, (Value.slice a3 l3 c3).ownBlock = some g → g ≠ w.heap.size := fun g hg => by have := hge3 g hg; omega
    have hne : ∀ g, (Value.slice a3 l3 c3).ownBlock = some g → g ≠ w.heap.size + 1 + 1 := fun g hg => by have := hge3 g hg; omega
    have h2 := ((((HS3.out.other ⟨w.heap.size, 2, none⟩ (.slice a3 l3 c3) hne0).other ⟨w.heap.size + 1 + 1, 0, none⟩ (.int .u64 (U rb)) hne).other ⟨w.heap.size + 1 + 1, 1, none⟩ (.int .u64 (U rt)) hne).other ⟨w.heap.size + 1 + 1, 2, none⟩ (.slice a3 l3 c3) hne)
    have h3 : w.heap.size ≤ w.heap.size + 1 + 1 + 1 := by omega
    exact h2.mono (by first | omega | (simp; done) | (simp; omega))
end Go.Proofs.Ytnillifinnmigaa
