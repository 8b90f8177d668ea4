
/-
  RegionApart: whatever is found is long enough, of pages, in the room, kept by a capability as it is, and meets nothing that was reserved; and it can be reserved. Every input.
-/
import Derived.Test.YtnillifinnmigaaRgM
import Derived.Test.YtnillifinnmigaaLaw
import Derived.Outline
import Derived.Deep.DeepCutAuto
import Derived.Deep.CutRange
import Derived.Deep.RegionLaw
namespace Go.Proofs.Ytnillifinnmigaa.Apart
open Go Go.RowKit Go.ChangeShapes Go.WideShapes Go.ChangeAt
set_option linter.unusedVariables false
set_option linter.unusedSimpArgs false

theorem below3 {B c : Nat} {w W : World} (h : Below B w W) (hc : B ≤ c) (x y z : Value) : Below B w (((W.setCell ⟨c, 0, none⟩ x).setCell ⟨c, 1, none⟩ y).setCell ⟨c, 2, none⟩ z) :=
  ((h.setCell (show B ≤ (⟨c, 0, none⟩ : Addr).block from hc) _).setCell (show B ≤ (⟨c, 1, none⟩ : Addr).block from hc) _).setCell (show B ≤ (⟨c, 2, none⟩ : Addr).block from hc) _
theorem SlR.other3 {w : World} {B : Nat} {v : Value} {L : List Rg} (h : SlR w B v L) (c : Nat) (hc : c < B) (x y z : Value) : SlR (((w.setCell ⟨c, 0, none⟩ x).setCell ⟨c, 1, none⟩ y).setCell ⟨c, 2, none⟩ z) B v L := by
  have hge := h.ge
  exact ((h.other _ _ fun g hg e => by have := hge g hg; simp at e; omega).other _ _ fun g hg e => by have := hge g hg; simp at e; omega).other _ _ fun g hg e => by have := hge g hg; simp at e; omega
set_option maxHeartbeats 4000000 in
set_option maxRecDepth 100000 in
theorem fin3 {w W : World} {q B : Nat} {rb rt : BitVec 64} {v v0 : Value} {L : List Rg} (hpw : w.heap.size < q) (hb : Below w.heap.size w W) (hs : SpAt W w.heap.size rb rt) (hm : MapAt W q rb rt v0) (hl : SlR W B v L) (hB : q < B) : ∀ W', W' = ((W.setCell ⟨q, 0, none⟩ (.int .u64 (U rb))).setCell ⟨q, 1, none⟩ (.int .u64 (U rt))).setCell ⟨q, 2, none⟩ v → Below w.heap.size w W' ∧ SpAt W' w.heap.size rb rt ∧ MapAt W' q rb rt v ∧ SlR W' (q + 1) v L ∧ q < W'.heap.size := by
  rintro W' rfl
  have hbW : Below q W (((W.setCell ⟨q, 0, none⟩ (.int .u64 (U rb))).setCell ⟨q, 1, none⟩ (.int .u64 (U rt))).setCell ⟨q, 2, none⟩ v) := below3 (Below.refl _ _) (Nat.le_refl _) _ _ _
  have hge := hl.ge
  refine ⟨hb.trans (hbW.mono (Nat.le_of_lt hpw)), hs.below hbW hpw, ?_, ?_, ?_⟩
  · obtain ⟨h0, ⟨c0, c1, c2⟩, f0, f1, f2⟩ := hm
    exact ⟨by simpa using h0, ⟨by (first | (go_simp; done) | (go_simp; (simp [↓IntWalk.iteOmega]; done)) | (go_simp; intros; omega) | (go_simp; simp [↓IntWalk.iteOmega]; intros; omega)), by (first | (go_simp; done) | (go_simp; (simp [↓IntWalk.iteOmega]; done)) | (go_simp; intros; omega) | (go_simp; simp [↓IntWalk.iteOmega]; intros; omega)), by (first | (go_simp; done) | (go_simp; (simp [↓IntWalk.iteOmega]; done)) | (go_simp; intros; omega) | (go_simp; simp [↓IntWalk.iteOmega]; intros; omega))⟩, by (first | (go_simp; done) | (go_simp; (simp [↓IntWalk.iteOmega]; done)) | (go_simp; intros; omega) | (go_simp; simp [↓IntWalk.iteOmega]; intros; omega)), by (first | (go_simp; done) | (go_simp; (simp [↓IntWalk.iteOmega]; done)) | (go_simp; intros; omega) | (go_simp; simp [↓IntWalk.iteOmega]; intros; omega)), by (first | (go_simp; done) | (go_simp; (simp [↓IntWalk.iteOmega]; done)) | (go_simp; intros; omega) | (go_simp; simp [↓IntWalk.iteOmega]; intros; omega))⟩
  · exact (((hl.other _ _ fun g hg e => by have := hge g hg; simp at e; omega).other _ _ fun g hg e => by have := hge g hg; simp at e; omega).other _ _ fun g hg e => by have := hge g hg; simp at e; omega).mono hB
  · simpa using hm.1
def FinS (w W : World) (q : Nat) (rb rt : BitVec 64) (v : Value) (L : List Rg) : Prop := Below w.heap.size w W ∧ SpAt W w.heap.size rb rt ∧ MapAt W q rb rt v ∧ SlR W (q + 1) v L ∧ q < W.heap.size
theorem fin_odd {w W5 w6 w7 : World} {o6 o7 : Obj} {q : Nat} {rb rt : BitVec 64} {v4 v6 : Value} {L4 L6 : List Rg} (FN : FinS w W5 q rb rt v4 L4) (hpw : w.heap.size < q) (hb6 : Below W5.heap.size W5 w6) (hs6 : SlR w6 W5.heap.size v6 L6) (hb7 : Below (w6.alloc o6).heap.size (w6.alloc o6) w7) : ∀ W', W' = ((((w7.alloc o7).setCell ⟨q, 0, none⟩ (.int .u64 (U rb))).setCell ⟨q, 1, none⟩ (.int .u64 (U rt))).setCell ⟨q, 2, none⟩ v6) → FinS w W' q rb rt v6 L6 := by
  obtain ⟨f1, f2, f3, f4, f5⟩ := FN
  have hb67 : Below w6.heap.size w6 (w7.alloc o7) := (((Below.refl _ w6).alloc (Nat.le_refl _) o6).trans (hb7.mono (by simp))).alloc (by have := hb7.size; simp at this; omega) o7
  have z7 := hb6.trans (hb67.mono hb6.size)
  exact fin3 hpw (f1.trans (z7.mono f1.size)) (f2.below z7 f2.1) (f3.below z7 f5) (hs6.below hb67) f5
theorem fin_even {w W5 w6 w7 : World} {o6 o7 : Obj} {q : Nat} {rb rt : BitVec 64} {v4 v7 : Value} {L4 L : List Rg} (FN : FinS w W5 q rb rt v4 L4) (hpw : w.heap.size < q) (hb6 : Below W5.heap.size W5 w6) (hb7 : Below (w6.alloc o6).heap.size (w6.alloc o6) w7) (hs7 : SlR w7 (w6.alloc o6).heap.size v7 L) : ∀ W', W' = (((((((w7.alloc o7).setCell ⟨w6.heap.size, 0, none⟩ (.int .u64 (U rb))).setCell ⟨w6.heap.size, 1, none⟩ (.int .u64 (U rt))).setCell ⟨w6.heap.size, 2, none⟩ v7).setCell ⟨q, 0, none⟩ (.int .u64 (U rb))).setCell ⟨q, 1, none⟩ (.int .u64 (U rt))).setCell ⟨q, 2, none⟩ v7) → FinS w W' q rb rt v7 L := by
  obtain ⟨f1, f2, f3, f4, f5⟩ := FN
  have hb67 : Below w6.heap.size w6 (w7.alloc o7) := (((Below.refl _ w6).alloc (Nat.le_refl _) o6).trans (hb7.mono (by simp))).alloc (by have := hb7.size; simp at this; omega) o7
  have hb68 := below3 hb67 (Nat.le_refl _) (.int .u64 (U rb)) (.int .u64 (U rt)) v7
  have z7 := hb6.trans (hb68.mono hb6.size)
  have s7 := SlR.other3 (hs7.below ((Below.refl _ w7).alloc (Nat.le_refl _) o7)) w6.heap.size (by simp) (.int .u64 (U rb)) (.int .u64 (U rt)) v7
  have h6 := hb6.size
  exact fin3 hpw (f1.trans (z7.mono f1.size)) (f2.below z7 f2.1) (f3.below z7 f5) s7 (by simp; omega)
set_option maxHeartbeats 4000000 in
set_option maxRecDepth 100000 in
theorem find_none (w : World) : Calls Try.prog 7 #[.agg #[.int .u64 0, .int .u64 0, .slice none 0 0], .int .u64 5] w fun e w' => e = .returned (.tuple #[.agg #[.int .u64 0, .int .u64 0], .int .i64 15]) ∧ Below w.heap.size w w' := by
  have h := find_any 0 0#64 0#64 5#64 (.slice none 0 0) [] w (SlR.nil w 0) (by simp) (by decide) (by decide) (fun j r base top h _ => by simp at h)
  have h2 : FR 0#64 0#64 (askN 5#64) (askX 5#64) [] (upF 0#64 (askX 5#64)) none := FR.out (by decide +kernel)
  refine h.mono fun e w' hx => ?_
  obtain ⟨res, hr, he, hb⟩ := hx
  have := h2.one hr
  subst this
  exact ⟨he, hb⟩
set_option maxHeartbeats 16000000 in
set_option maxRecDepth 100000 in
theorem walk_bad (rb rt : BitVec 64) (l : Value) (h : newOk rb rt = false) (w : World) : Calls Try.prog 3 #[.agg #[.int .u64 (U rb), .int .u64 (U rt)], l] w fun e w' => e = .returned (.bool true) ∧ Below w.heap.size w w' := by
  have cn : ∀ w : World, Calls Try.prog 5 #[.agg #[.int .u64 (U rb), .int .u64 (U rt)]] w fun e w' => e = .returned (.tuple #[.agg #[.int .u64 0, .int .u64 0, .slice none 0 0], .int .i64 2]) ∧ Below w.heap.size w w' := fun w => by
    have := new_any rb rt w
    unfold newV at this
    rw [h] at this
    exact this
  go_enter Try.func3, Try.ntmps3
  go_wp2_with (first | (go_at_call 5; (with_reducible refine (cn _).mono ?_); rintro e w' ⟨rfl, hbl⟩; obtain ⟨hcw, hfw, hsw⟩ := below_ifs hbl; (try simp only [World.size_alloc, World.size_setCell, World.size_drew, size_drewN_] at hcw hfw hsw)) | (go_at_call 6; (with_reducible refine (one_any _).mono ?_); rintro e w' ⟨rfl, hbl⟩; obtain ⟨hcw, hfw, hsw⟩ := below_ifs hbl; (try simp only [World.size_alloc, World.size_setCell, World.size_drew, size_drewN_] at hcw hfw hsw)))
  go_ret
  exact ⟨rfl, by (repeat (first | with_reducible exact Below.refl _ _ | with_reducible assumption | with_reducible refine below_drewN ?_ _ | with_reducible refine Below.drew ?_ | with_reducible refine below_alloc ?_ _ | (with_reducible refine Below.setCell ?_ (by first | (simp; done) | omega | (simp; omega)) _) | with_reducible refine belows ?_ (by assumption)))⟩
set_option maxHeartbeats 16000000 in
set_option maxRecDepth 100000 in
theorem walk_good (rb rt : BitVec 64) (la : Option Addr) (lb lo n cap : Nat) (ys : Nat → BitVec 64) (h : newOk rb rt = true) (hn : n ≤ 9223372036854775807) (w : World) (hla : ∀ i, i < n → la = some ⟨lb, lo, none⟩ ∧ lb < w.heap.size ∧ w.cell? ⟨lb, lo + i, none⟩ = some (.int .u64 (U (ys i)))) : Calls Try.prog 3 #[.agg #[.int .u64 (U rb), .int .u64 (U rt)], .slice la n cap] w fun e w' => e = .returned (.bool true) ∧ Below w.heap.size w w' := by
  have cn : ∀ w : World, Calls Try.prog 5 #[.agg #[.int .u64 (U rb), .int .u64 (U rt)]] w fun e w' => e = .returned (.tuple #[.agg #[.int .u64 (U rb), .int .u64 (U rt), .slice none 0 0], .int .i64 0]) ∧ Below w.heap.size w w' := fun w => by
    have := new_any rb rt w
    unfold newV at this
    rw [h] at this
    exact this
  have hroom : rb.toNat ≤ 274877906944 ∧ rt.toNat ≤ 274877906944 := by
    unfold newOk pagesF at h
    simp only [Bool.and_eq_true, decide_eq_true_eq] at h
    unfold U at h
    omega
  have HLA := Lib.hid hla
  clear hla h
  go_enter Try.func3, Try.ntmps3
  go_wp2_with (first | (go_at_call 5; (with_reducible refine (cn _).mono ?_); rintro e w' ⟨rfl, hbl⟩; obtain ⟨hcw, hfw, hsw⟩ := below_ifs hbl; (try simp only [World.size_alloc, World.size_setCell, World.size_drew, size_drewN_] at hcw hfw hsw)))
  generalize hpm : w'.heap.size = pm
  go_loopw [7] (fun x7 wr => ∃ (k : Nat) (L : List Rg) (v : Value), x7 = .int .i64 (k : Int) ∧ k ≤ 40 ∧ L.length ≤ k ∧ w.heap.size < pm ∧ pm < wr.heap.size ∧ Hid (Below w.heap.size w wr) ∧ Hid (SpAt wr w.heap.size rb rt) ∧ Hid (MapAt wr pm rb rt v) ∧ Hid (SlR wr (pm + 1) v L) ∧ Hid (Inv rb rt L)) (fun x7 _ => 40 - (intOf x7).toNat)
  case atStart =>
    subst hpm
    refine ⟨0, [], .slice none 0 0, rfl, by omega, Nat.le_refl _, by omega, by first | omega | (simp; done) | (simp; omega), Lib.hid (by (repeat (first | with_reducible exact Below.refl _ _ | with_reducible assumption | with_reducible refine below_drewN ?_ _ | with_reducible refine Below.drew ?_ | with_reducible refine below_alloc ?_ _ | (with_reducible refine Below.setCell ?_ (by first | (simp; done) | omega | (simp; omega)) _) | with_reducible refine belows ?_ (by assumption)))), Lib.hid ⟨by first | omega | (simp; done) | (simp; omega), by (first | (go_simp; done) | (go_simp; (simp [↓IntWalk.iteOmega]; done)) | (go_simp; intros; omega) | (go_simp; simp [↓IntWalk.iteOmega]; intros; omega)), by (first | (go_simp; done) | (go_simp; (simp [↓IntWalk.iteOmega]; done)) | (go_simp; intros; omega) | (go_simp; simp [↓IntWalk.iteOmega]; intros; omega))⟩, Lib.hid ⟨by first | omega | (simp; done) | (simp; omega), ⟨by (first | (go_simp; done) | (go_simp; (simp [↓IntWalk.iteOmega]; done)) | (go_simp; intros; omega) | (go_simp; simp [↓IntWalk.iteOmega]; intros; omega)), by (first | (go_simp; done) | (go_simp; (simp [↓IntWalk.iteOmega]; done)) | (go_simp; intros; omega) | (go_simp; simp [↓IntWalk.iteOmega]; intros; omega)), by (first | (go_simp; done) | (go_simp; (simp [↓IntWalk.iteOmega]; done)) | (go_simp; intros; omega) | (go_simp; simp [↓IntWalk.iteOmega]; intros; omega))⟩, by (first | (go_simp; done) | (go_simp; (simp [↓IntWalk.iteOmega]; done)) | (go_simp; intros; omega) | (go_simp; simp [↓IntWalk.iteOmega]; intros; omega)), by (first | (go_simp; done) | (go_simp; (simp [↓IntWalk.iteOmega]; done)) | (go_simp; intros; omega) | (go_simp; simp [↓IntWalk.iteOmega]; intros; omega)), by (first | (go_simp; done) | (go_simp; (simp [↓IntWalk.iteOmega]; done)) | (go_simp; intros; omega) | (go_simp; simp [↓IntWalk.iteOmega]; intros; omega))⟩, Lib.hid (SlR.nil _ _), Lib.hid (Inv.none hroom)⟩
  case round =>
    obtain ⟨k, L, v, rfl, hk, hLk, hpw, hpl, HB, HS, HM, HL, HI⟩ := hrel
    clear hcw hfw hsw hbl cn hroom
    have hcst : (k : Int) < (n : Int) ∧ (k : Int) < 40 ∨ ¬ ((k : Int) < (n : Int) ∧ (k : Int) < 40) := Classical.em _
    rcases hcst with ⟨d1, d2⟩ | hc
    · obtain ⟨rfl, hlb, hy⟩ := HLA.out k (by omega)
      have hyr : wr.cell? ⟨lb, lo + k, none⟩ = some (.int .u64 (U (ys k))) := (HB.out.cell (p := ⟨lb, _, none⟩) hlb).trans hy
      obtain ⟨s0, s1, s2⟩ := HS.out
      obtain ⟨m0, ⟨m1, m2, m3⟩, f1, f2, f3⟩ := HM.out
      have hlb2 : lb < wr.heap.size := Nat.lt_of_lt_of_le hlb HB.out.size
      have hpp : w.heap.size < wr.heap.size := by omega
      have HY := Lib.hid hy
      clear hy
      have dd1 : decide ((k : Int) < (n : Int)) = true := decide_eq_true d1
      have dd2 : decide ((k : Int) < 40) = true := decide_eq_true d2
      go_upto_region 7 with (fail)
      rcases find_case rb rt (ys k) v L HI.out (by omega) with ⟨er, her, cf⟩ | ⟨b, hF, cf⟩
      · go_cut [8, 9] from 30 to 167 (fun s8 s9 wx => ∃ c : Nat, s8 = .pointer (some ⟨c, 0, none⟩) ∧ s9 = .int .i64 er ∧ pm < c ∧ c < wx.heap.size ∧ Hid (Below wr.heap.size wr wx))
        case first =>
          go_region_law (first | (go_simp; go_at_call 7; refine (cf _ _ (HL.out.below (by (repeat (first | with_reducible exact Below.refl _ _ | with_reducible assumption | with_reducible refine below_drewN ?_ _ | with_reducible refine Below.drew ?_ | with_reducible refine below_alloc ?_ _ | (with_reducible refine Below.setCell ?_ (by first | (simp; done) | omega | (simp; omega)) _) | with_reducible refine belows ?_ (by assumption)))))).mono ?_; rintro e w2 ⟨rfl, hb2⟩; have hsz2 := hb2.size; (try simp only [World.size_alloc, World.size_setCell, World.size_drew, size_drewN_] at hsz2); (first | (have hz9 := cell_after hb2; obtain ⟨⟨z0, z1⟩, ⟨g0, g1⟩, hz⟩ := hz9) | skip)))
          all_goals go_wp2_with fail
          all_goals go_meet
          all_goals refine ⟨_, rfl, rfl, by first | omega | (simp; done) | (simp; omega), by first | omega | (simp; done) | (simp; omega), Lib.hid (by (repeat (first | with_reducible exact Below.refl _ _ | with_reducible assumption | with_reducible refine below_drewN ?_ _ | with_reducible refine Below.drew ?_ | with_reducible refine below_alloc ?_ _ | (with_reducible refine Below.setCell ?_ (by first | (simp; done) | omega | (simp; omega)) _) | with_reducible refine belows ?_ (by assumption))))⟩
        case rest =>
          obtain ⟨c, rfl, rfl, hc1, hc2, HBx⟩ := hcut
          have hbx := HBx.out
          have her2 : (er != 0) = true := by simpa using her
          go_wp2_with fail
          go_roundw
          case rel => exact ⟨k + 1, L, v, by go_num, by omega, by omega, hpw, Nat.lt_of_lt_of_le hpl hbx.size, Lib.hid (HB.out.trans (hbx.mono HB.out.size)), Lib.hid (HS.out.below hbx hpp), Lib.hid (HM.out.below hbx hpl), Lib.hid (HL.out.below hbx), HI⟩
          case measure => (simp [intOf]; omega)
      · go_cut [8, 9] from 30 to 167 (fun s8 s9 wx => ∃ c : Nat, s8 = .pointer (some ⟨c, 0, none⟩) ∧ s9 = .int .i64 0 ∧ pm < c ∧ c < wx.heap.size ∧ Hid (Below wr.heap.size wr wx) ∧ Hid (wr.heap.size ≤ c ∧ SpAt wx c b (b + askN (ys k))))
        case first =>
          go_region_law (first | (go_simp; go_at_call 7; refine (cf _ _ (HL.out.below (by (repeat (first | with_reducible exact Below.refl _ _ | with_reducible assumption | with_reducible refine below_drewN ?_ _ | with_reducible refine Below.drew ?_ | with_reducible refine below_alloc ?_ _ | (with_reducible refine Below.setCell ?_ (by first | (simp; done) | omega | (simp; omega)) _) | with_reducible refine belows ?_ (by assumption)))))).mono ?_; rintro e w2 ⟨rfl, hb2⟩; have hsz2 := hb2.size; (try simp only [World.size_alloc, World.size_setCell, World.size_drew, size_drewN_] at hsz2); (first | (have hz9 := cell_after hb2; obtain ⟨⟨z0, z1⟩, ⟨g0, g1⟩, hz⟩ := hz9) | skip)))
          all_goals go_wp2_with fail
          all_goals go_meet
          all_goals refine ⟨_, rfl, rfl, by first | omega | (simp; done) | (simp; omega), by first | omega | (simp; done) | (simp; omega), Lib.hid (by (repeat (first | with_reducible exact Below.refl _ _ | with_reducible assumption | with_reducible refine below_drewN ?_ _ | with_reducible refine Below.drew ?_ | with_reducible refine below_alloc ?_ _ | (with_reducible refine Below.setCell ?_ (by first | (simp; done) | omega | (simp; omega)) _) | with_reducible refine belows ?_ (by assumption)))), Lib.hid ⟨by first | omega | (simp; done) | (simp; omega), by first | omega | (simp; done) | (simp; omega), by (first | (go_simp; done) | (go_simp; (simp [↓IntWalk.iteOmega]; done)) | (go_simp; intros; omega) | (go_simp; simp [↓IntWalk.iteOmega]; intros; omega)), by (first | (go_simp; done) | (go_simp; (simp [↓IntWalk.iteOmega]; done)) | (go_simp; intros; omega) | (go_simp; simp [↓IntWalk.iteOmega]; intros; omega))⟩⟩
        case rest =>
          obtain ⟨c, rfl, rfl, hc1, hc2, HBx, HC⟩ := hcut
          have hbx := HBx.out
          obtain ⟨q0, q1, q2, q3⟩ := HC.out
          have ce := fun w => encode_any b (b + askN (ys k)) w
          rw [hF.exact_] at ce
          have g1 : decide (U (b + askN (ys k) - b) < U (ys k)) = false := decide_eq_false (by
            have e : (b + askN (ys k) - b) = askN (ys k) := by rw [BitVec.add_comm, BitVec.add_sub_cancel]
            rw [e]
            have := hF.len
            unfold U; omega)
          have g2 : (U (b % 4096#64) != 0) = false := by
            have e : U (b % 4096#64) = 0 := by unfold U; rw [BitVec.toNat_umod]; show ((b.toNat % 4096 : Nat) : Int) = 0; rw [hF.al]; rfl
            rw [e]; rfl
          have g3 : (U ((b + askN (ys k)) % 4096#64) != 0) = false := by
            have e : U ((b + askN (ys k)) % 4096#64) = 0 := by unfold U; rw [BitVec.toNat_umod]; show (((b + askN (ys k)).toNat % 4096 : Nat) : Int) = 0; rw [hF.alt]; rfl
            rw [e]; rfl
          have g4 : decide (U b < U rb) = false := decide_eq_false (by have := hF.ge; unfold U; omega)
          have g5 : decide (U rt < U (b + askN (ys k))) = false := decide_eq_false (by have := hF.le; unfold U; omega)
          have HF := Lib.hid hF
          clear hF cf
          have hyx : wc.cell? ⟨lb, lo + k, none⟩ = some (.int .u64 (U (ys k))) := (hbx.cell (p := ⟨lb, _, none⟩) hlb2).trans hyr
          obtain ⟨sx0, sx1, sx2⟩ := HS.out.below hbx hpp
          obtain ⟨mx0, ⟨mx1, mx2, mx3⟩, fx1, fx2, fx3⟩ := HM.out.below hbx hpl
          have hlb3 : lb < wc.heap.size := Nat.lt_of_lt_of_le hlb2 hbx.size
          generalize hT : b + askN (ys k) = T at *
          go_wp2_with (first | (go_at_call 8; (with_reducible refine (ce _).mono ?_); rintro e w' ⟨rfl, hbl⟩; obtain ⟨hcw, hfw, hsw⟩ := below_ifs hbl; (try simp only [World.size_alloc, World.size_setCell, World.size_drew, size_drewN_] at hcw hfw hsw)))
          refine wp_region_below (by kernel_rfl) (by kernel_rfl) (fun hcr hfr => ?_)
          (try simp only [World.size_alloc, World.size_setCell, World.size_drew, size_drewN_] at hcr hfr)
          repeat (go_big_quiet_step (fail))
          refine wpQuiet_nil ?_
          intro w' hbl
          clear hcr hfr
          obtain ⟨hcw, hfw, hsw⟩ := below_ifs hbl; (try simp only [World.size_alloc, World.size_setCell, World.size_drew, size_drewN_] at hcw hfw hsw)
          have k1 : Below wc.heap.size wc w' := by (repeat (first | with_reducible exact Below.refl _ _ | with_reducible assumption | with_reducible refine below_drewN ?_ _ | with_reducible refine Below.drew ?_ | with_reducible refine below_alloc ?_ _ | (with_reducible refine Below.setCell ?_ (by first | (simp; done) | omega | (simp; omega)) _) | with_reducible refine belows ?_ (by assumption)))
          have hbw : Below wr.heap.size wr w' := hbx.trans (k1.mono hbx.size)
          have HCW := Lib.hid (HC.out.2.below k1 HC.out.2.1)
          have HBW := Lib.hid hbw
          clear hcw hfw hsw hbl g1 g2 g3 g4 g5 hyx sx0 sx1 sx2 mx0 mx1 mx2 mx3 fx1 fx2 fx3 q0 q1 q2 q3 ce m0 m1 m2 m3 f1 f2 f3 s0 s1 s2 hyr dd1 dd2 hlb2 hlb3 hpp k1 HY
          obtain ⟨n0, ⟨n1, n2, n3⟩, e1, e2, e3⟩ := HM.out.below hbw hpl
          go_wp2_with (first | (go_at_call 9; refine (all_any (pm + 1) rb rt v L _ (HL.out.below hbw) (by omega)).mono ?_; rintro e w3 ⟨va, rfl, hsa, hba⟩; have HSA := Lib.hid hsa; obtain ⟨a3, c3, rfl, -, hc3, -, -⟩ := hsa.form; clear hsa))
          go_loopw [13] (fun x13 wy => ∃ j : Nat, x13 = .int .i64 (j : Int) ∧ j ≤ L.length ∧ Hid (Below w3.heap.size w3 wy)) (fun x13 _ => L.length - (intOf x13).toNat)
          case atStart => exact ⟨0, rfl, Nat.zero_le _, Lib.hid (by (repeat (first | with_reducible exact Below.refl _ _ | with_reducible assumption | with_reducible refine below_drewN ?_ _ | with_reducible refine Below.drew ?_ | with_reducible refine below_alloc ?_ _ | (with_reducible refine Below.setCell ?_ (by first | (simp; done) | omega | (simp; omega)) _) | with_reducible refine belows ?_ (by assumption))))⟩
          case round =>
            obtain ⟨j, rfl, hj, HBy⟩ := hrel
            have hby := HBy.out
            by_cases cj : j < L.length
            · obtain ⟨g, c4, hva, -, hg, -, -, hx⟩ := (HSA.out.below hby).row (by omega)
              obtain ⟨rfl, rfl⟩ : a3 = some ⟨g, 0, none⟩ ∧ c3 = c4 := (by simpa using hva)
              obtain ⟨r, hr⟩ : ∃ r, L[j]? = some r := ⟨L[j]'cj, List.getElem?_eq_getElem cj⟩
              obtain ⟨⟨x0, x1, x2⟩, -⟩ := hx j r hr
              obtain ⟨q0, q1, q2⟩ := (HCW.out.below hba HCW.out.1).below hby (Nat.lt_of_lt_of_le HCW.out.1 hba.size)
              have hm := HF.out.free j r hr
              rw [hT] at hm
              unfold meetF at hm
              have dj : decide ((j : Int) < (L.length : Int)) = true := decide_eq_true (by omega)
              clear hx hva hr n1 n2 n3 e1 e2 e3
              generalize hLn : L.length = M at *
              cases h1 : decide (U r.b < U T)
              · clear hm
                go_wp2_with fail
                refine wp_region_below (by kernel_rfl) (by kernel_rfl) (fun hcr hfr => ?_)
                (try simp only [World.size_alloc, World.size_setCell, World.size_drew, size_drewN_] at hcr hfr)
                repeat (go_big_quiet_step (fail))
                refine wpQuiet_nil ?_
                intro w' hbl
                clear hcr hfr
                obtain ⟨hcw, hfw, hsw⟩ := below_ifs hbl; (try simp only [World.size_alloc, World.size_setCell, World.size_drew, size_drewN_] at hcw hfw hsw)
                have hw9 : Below wr.heap.size wr w' := by (repeat (first | with_reducible exact Below.refl _ _ | with_reducible assumption | with_reducible refine below_drewN ?_ _ | with_reducible refine Below.drew ?_ | with_reducible refine below_alloc ?_ _ | (with_reducible refine Below.setCell ?_ (by first | (simp; done) | omega | (simp; omega)) _) | with_reducible refine belows ?_ (by assumption)))
                go_wp2_with fail
                go_roundw
                case rel => exact ⟨j + 1, by go_num, by omega, Lib.hid (hby.trans (hw9.mono hby.size))⟩
                case measure => (simp [intOf]; omega)
              · rw [h1, Bool.true_and] at hm
                go_wp2_with fail
                refine wp_region_below (by kernel_rfl) (by kernel_rfl) (fun hcr hfr => ?_)
                (try simp only [World.size_alloc, World.size_setCell, World.size_drew, size_drewN_] at hcr hfr)
                repeat (go_big_quiet_step (fail))
                refine wpQuiet_nil ?_
                intro w' hbl
                clear hcr hfr
                obtain ⟨hcw, hfw, hsw⟩ := below_ifs hbl; (try simp only [World.size_alloc, World.size_setCell, World.size_drew, size_drewN_] at hcw hfw hsw)
                have hw9 : Below wr.heap.size wr w' := by (repeat (first | with_reducible exact Below.refl _ _ | with_reducible assumption | with_reducible refine below_drewN ?_ _ | with_reducible refine Below.drew ?_ | with_reducible refine below_alloc ?_ _ | (with_reducible refine Below.setCell ?_ (by first | (simp; done) | omega | (simp; omega)) _) | with_reducible refine belows ?_ (by assumption)))
                go_wp2_with fail
                go_roundw
                case rel => exact ⟨j + 1, by go_num, by omega, Lib.hid (hby.trans (hw9.mono hby.size))⟩
                case measure => (simp [intOf]; omega)
            · obtain rfl : j = L.length := by omega
              have hbt := (HBW.out.trans (hba.mono HBW.out.size)).trans (hby.mono (Nat.le_trans HBW.out.size hba.size))
              obtain ⟨n0, ⟨n1, n2, n3⟩, e1, e2, e3⟩ := HM.out.below hbt hpl
              obtain ⟨q0, q1, q2⟩ := (HCW.out.below hba HCW.out.1).below hby (Nat.lt_of_lt_of_le HCW.out.1 hba.size)
              have hany : (L.any fun r => meetF r.b r.t b T) = false := by
                rw [List.any_eq_false]
                intro r hr
                obtain ⟨jj, hjj⟩ := List.mem_iff_getElem?.1 hr
                have := HF.out.free jj r hjj
                rw [hT] at this
                rw [this]; decide
              have hpg : pagesF b T = true := by have := HF.out.pages; rwa [hT] at this
              have hir : inRF b T rb rt = true := by have := HF.out.inr; rwa [hT] at this
              have hk3 : ((k : Int) % 3 == 2) = true ∨ ((k : Int) % 3 == 2) = false := by cases ((k : Int) % 3 == 2) <;> simp
              have hfr : ∀ (j : Nat) (r : Rg), L[j]? = some r → meetF r.b r.t b T = false := fun j r hj => by
                have := HF.out.free j r hj
                rwa [hT] at this
              have hbT : b.toNat < T.toNat ∧ rb.toNat ≤ b.toNat ∧ T.toNat ≤ rt.toNat := by
                have e1 := HF.out.lt
                have e2 := HF.out.ge
                have e3 := HF.out.le
                rw [hT] at e1 e3
                exact ⟨e1, e2, e3⟩
              have HFR := Lib.hid hfr
              have HBT := Lib.hid hbT
              clear hfr hbT
              rcases hk3 with hk3 | hk3
              · cases hk2 : ((k : Int) % 2 == 0)
                all_goals go_wp2_with (first | (go_at_call 10; refine (add_yes (pm + 1) rb rt b T v L _ (HL.out.below hbt) (by omega) HI.out.mono hpg hir hany).mono ?_; rintro e w4 ⟨i, v4, rfl, hi1, hi2, hi3, hs4, hb4⟩; have HS4 := Lib.hid hs4; have HI4 := Lib.hid (And.intro hi2 hi3); clear hs4 hi2 hi3; obtain ⟨a4, n4, c4, rfl⟩ := HS4.out.form0; obtain ⟨hcw4, hfw4, hsw4⟩ := below_ifs hb4; (try simp only [World.size_alloc, World.size_setCell, World.size_drew, size_drewN_] at hcw4 hfw4 hsw4)) | (go_at_call 9; refine (all_any _ rb rt _ _ _ (HS4.out.below (by (repeat (first | with_reducible exact Below.refl _ _ | with_reducible assumption | with_reducible refine below_drewN ?_ _ | with_reducible refine Below.drew ?_ | with_reducible refine below_alloc ?_ _ | (with_reducible refine Below.setCell ?_ (by first | (simp; done) | omega | (simp; omega)) _) | with_reducible refine belows ?_ (by assumption))))) (by rw [ins_len hi1]; omega)).mono ?_; rintro e w5 ⟨v5, rfl, hs5, hb5⟩; obtain ⟨a5, c5, hv5, -, -, -, -⟩ := hs5.form; rewrite [ins_len hi1] at hv5; subst hv5; clear hs5; obtain ⟨hcw5, hfw5, hsw5⟩ := below_ifs hb5; (try simp only [World.size_alloc, World.size_setCell, World.size_drew, size_drewN_] at hcw5 hfw5 hsw5)) | (go_at_call 11; have z0 : Below w4.heap.size w4 w5 := (by (repeat (first | with_reducible exact Below.refl _ _ | with_reducible assumption | with_reducible refine below_drewN ?_ _ | with_reducible refine Below.drew ?_ | with_reducible refine below_alloc ?_ _ | (with_reducible refine Below.setCell ?_ (by first | (simp; done) | omega | (simp; omega)) _) | with_reducible refine belows ?_ (by assumption)))); have z1 := hbt.trans ((by (repeat (first | with_reducible exact Below.refl _ _ | with_reducible assumption | with_reducible refine below_drewN ?_ _ | with_reducible refine Below.drew ?_ | with_reducible refine below_alloc ?_ _ | (with_reducible refine Below.setCell ?_ (by first | (simp; done) | omega | (simp; omega)) _) | with_reducible refine belows ?_ (by assumption))) : Below wr.heap.size wr w5).mono hbt.size); have FN := fin3 (W := w5) hpw (HB.out.trans (z1.mono HB.out.size)) (HS.out.below z1 (Nat.lt_trans hpw hpl)) (HM.out.below z1 hpl) (HS4.out.below z0) (Nat.lt_of_lt_of_le hpl hbt.size) _ rfl; have HFN := Lib.hid FN; clear FN; refine (hold_yes (pm + 1) rb rt b T _ _ _ HFN.out.2.2.2.1 (by rw [ins_len hi1]; omega) i ⟨b, T, 1⟩ (idx_ins hi1 HI4.out.1).1 (idx_ins hi1 HI4.out.1).2).mono ?_; rintro e w6 ⟨v6, rfl, hs6, hb6⟩; rewrite [ins_set hi1] at hs6; have HS6 := Lib.hid hs6; clear hs6; obtain ⟨a6, n6, c6, rfl⟩ := HS6.out.form0; have HB6 := Lib.hid hb6; obtain ⟨hcw6, hfw6, hsw6⟩ := below_ifs hb6; (try simp only [World.size_alloc, World.size_setCell, World.size_drew, size_drewN_] at hcw6 hfw6 hsw6)) | (go_at_call 12; refine (drop_yes _ rb rt b T _ _ _ (HS6.out.below (by (repeat (first | with_reducible exact Below.refl _ _ | with_reducible assumption | with_reducible refine below_drewN ?_ _ | with_reducible refine Below.drew ?_ | with_reducible refine below_alloc ?_ _ | (with_reducible refine Below.setCell ?_ (by first | (simp; done) | omega | (simp; omega)) _) | with_reducible refine belows ?_ (by assumption))))) (by rw [ins_len hi1]; omega) i ⟨b, T, 2⟩ (idx_ins hi1 HI4.out.1).1 (idx_ins hi1 HI4.out.1).2).mono ?_; rintro e w7 ⟨v7, rfl, hs7, hb7⟩; rewrite [ins_del hi1] at hs7; have HS7 := Lib.hid hs7; clear hs7; obtain ⟨a7, n7, c7, rfl⟩ := HS7.out.form0; have HB7 := Lib.hid hb7; obtain ⟨hcw7, hfw7, hsw7⟩ := below_ifs hb7; (try simp only [World.size_alloc, World.size_setCell, World.size_drew, size_drewN_] at hcw7 hfw7 hsw7)))
                all_goals go_roundw
                · obtain ⟨y1, y2, y3, y4, y5⟩ := fin_odd HFN.out hpw HB6.out HS6.out HB7.out _ rfl
                  exact ⟨k + 1, _, .slice a6 n6 c6, by go_num, by omega, by rw [ins_len hi1]; omega, hpw, y5, Lib.hid y1, Lib.hid y2, Lib.hid y3, Lib.hid y4, Lib.hid (HI.out.add i 2 hi1 HBT.out.1 HBT.out.2.1 HBT.out.2.2 HFR.out HI4.out.1 HI4.out.2)⟩
                · (simp [intOf]; omega)
                · obtain ⟨y1, y2, y3, y4, y5⟩ := fin_even HFN.out hpw HB6.out HB7.out HS7.out _ rfl
                  exact ⟨k + 1, L, .slice a7 n7 c7, by go_num, by omega, by omega, hpw, y5, Lib.hid y1, Lib.hid y2, Lib.hid y3, Lib.hid y4, HI⟩
                · (simp [intOf]; omega)
              · go_wp2_with (first | (go_at_call 10; refine (add_yes (pm + 1) rb rt b T v L _ (HL.out.below hbt) (by omega) HI.out.mono hpg hir hany).mono ?_; rintro e w4 ⟨i, v4, rfl, hi1, hi2, hi3, hs4, hb4⟩; have HS4 := Lib.hid hs4; have HI4 := Lib.hid (And.intro hi2 hi3); clear hs4 hi2 hi3; obtain ⟨a4, n4, c4, rfl⟩ := HS4.out.form0; obtain ⟨hcw4, hfw4, hsw4⟩ := below_ifs hb4; (try simp only [World.size_alloc, World.size_setCell, World.size_drew, size_drewN_] at hcw4 hfw4 hsw4)) | (go_at_call 9; refine (all_any _ rb rt _ _ _ (HS4.out.below (by (repeat (first | with_reducible exact Below.refl _ _ | with_reducible assumption | with_reducible refine below_drewN ?_ _ | with_reducible refine Below.drew ?_ | with_reducible refine below_alloc ?_ _ | (with_reducible refine Below.setCell ?_ (by first | (simp; done) | omega | (simp; omega)) _) | with_reducible refine belows ?_ (by assumption))))) (by rw [ins_len hi1]; omega)).mono ?_; rintro e w5 ⟨v5, rfl, hs5, hb5⟩; obtain ⟨a5, c5, hv5, -, -, -, -⟩ := hs5.form; rewrite [ins_len hi1] at hv5; subst hv5; clear hs5; obtain ⟨hcw5, hfw5, hsw5⟩ := below_ifs hb5; (try simp only [World.size_alloc, World.size_setCell, World.size_drew, size_drewN_] at hcw5 hfw5 hsw5)))
                go_roundw
                case rel =>
                  have z0 : Below w4.heap.size w4 w5 := by (repeat (first | with_reducible exact Below.refl _ _ | with_reducible assumption | with_reducible refine below_drewN ?_ _ | with_reducible refine Below.drew ?_ | with_reducible refine below_alloc ?_ _ | (with_reducible refine Below.setCell ?_ (by first | (simp; done) | omega | (simp; omega)) _) | with_reducible refine belows ?_ (by assumption)))
                  have z1 := hbt.trans ((by (repeat (first | with_reducible exact Below.refl _ _ | with_reducible assumption | with_reducible refine below_drewN ?_ _ | with_reducible refine Below.drew ?_ | with_reducible refine below_alloc ?_ _ | (with_reducible refine Below.setCell ?_ (by first | (simp; done) | omega | (simp; omega)) _) | with_reducible refine belows ?_ (by assumption))) : Below wr.heap.size wr w5).mono hbt.size)
                  obtain ⟨y1, y2, y3, y4, y5⟩ := fin3 (W := w5) hpw (HB.out.trans (z1.mono HB.out.size)) (HS.out.below z1 (Nat.lt_trans hpw hpl)) (HM.out.below z1 hpl) (HS4.out.below z0) (Nat.lt_of_lt_of_le hpl hbt.size) _ rfl
                  exact ⟨k + 1, _, .slice a4 n4 c4, by go_num, by omega, by rw [ins_len hi1]; omega, hpw, y5, Lib.hid y1, Lib.hid y2, Lib.hid y3, Lib.hid y4, Lib.hid (HI.out.add i 1 hi1 HBT.out.1 HBT.out.2.1 HBT.out.2.2 HFR.out HI4.out.1 HI4.out.2)⟩
                case measure => (simp [intOf]; omega)
    · have hbr := HB.out
      by_cases e1 : (k : Int) < (n : Int)
      · have dd1 : decide ((k : Int) < (n : Int)) = true := decide_eq_true e1
        have dd2 : decide ((k : Int) < 40) = false := decide_eq_false (by omega)
        clear hc
        go_wp2_with (first | (go_at_call 7; (with_reducible refine (find_none _).mono ?_); rintro e w' ⟨rfl, hbl⟩; obtain ⟨hcw, hfw, hsw⟩ := below_ifs hbl; (try simp only [World.size_alloc, World.size_setCell, World.size_drew, size_drewN_] at hcw hfw hsw)) | (go_at_call 6; (with_reducible refine (one_any _).mono ?_); rintro e w' ⟨rfl, hbl⟩; obtain ⟨hcw, hfw, hsw⟩ := below_ifs hbl; (try simp only [World.size_alloc, World.size_setCell, World.size_drew, size_drewN_] at hcw hfw hsw)))
        all_goals first | (exfalso; omega; done) | (go_ret; exact ⟨rfl, by (repeat (first | with_reducible exact Below.refl _ _ | with_reducible assumption | with_reducible refine below_drewN ?_ _ | with_reducible refine Below.drew ?_ | with_reducible refine below_alloc ?_ _ | (with_reducible refine Below.setCell ?_ (by first | (simp; done) | omega | (simp; omega)) _) | with_reducible refine belows ?_ (by assumption)))⟩)
      · have dd1 : decide ((k : Int) < (n : Int)) = false := decide_eq_false e1
        clear hc
        go_wp2_with (first | (go_at_call 7; (with_reducible refine (find_none _).mono ?_); rintro e w' ⟨rfl, hbl⟩; obtain ⟨hcw, hfw, hsw⟩ := below_ifs hbl; (try simp only [World.size_alloc, World.size_setCell, World.size_drew, size_drewN_] at hcw hfw hsw)) | (go_at_call 6; (with_reducible refine (one_any _).mono ?_); rintro e w' ⟨rfl, hbl⟩; obtain ⟨hcw, hfw, hsw⟩ := below_ifs hbl; (try simp only [World.size_alloc, World.size_setCell, World.size_drew, size_drewN_] at hcw hfw hsw)))
        all_goals first | (exfalso; omega; done) | (go_ret; exact ⟨rfl, by (repeat (first | with_reducible exact Below.refl _ _ | with_reducible assumption | with_reducible refine below_drewN ?_ _ | with_reducible refine Below.drew ?_ | with_reducible refine below_alloc ?_ _ | (with_reducible refine Below.setCell ?_ (by first | (simp; done) | omega | (simp; omega)) _) | with_reducible refine belows ?_ (by assumption)))⟩)

set_option maxRecDepth 100000 in
theorem lifted (os : Os) (started : os.Started) (H : Type) (enc : TypeId × Value → H) :
    ReturnsInHanded {} Try.checked os 3 .any (Rows.regionApartSpec.pre6 enc Try.prog Try.f3 Rows.regionApartRow.domain false) (Rows.regionApartSpec.post enc Try.prog Try.f3 false true false false) := by
  refine law_lift (C := Try.checked) (tb := 4) started (by kernel_rfl) (by kernel_rfl) Try.func3 rfl rfl Try.underlying4 (by kernel_rfl) (by kernel_rfl)
    (fun ds h => by match ds, h with | [_, _], _ => rfl)
    (ChangeSpec.witness6 (enc := enc) (C := Try.checked) false ⟨#[], #[.agg #[.int .u64 0, .int .u64 0], .slice none 0 0], []⟩ 8 (by kernel_rfl) (by kernel_rfl) (by kernel_rfl) (by kernel_rfl)) ?_
  intro W base args ds ps hval hA hlt hfz hsz
  rw [Try.params3] at hA hval hsz
  obtain ⟨v0, v1, d0, d1, p0, p1, rfl, rfl, rfl, h0, h1⟩ := trodAll_two hA
  obtain ⟨nb, wb, nt, wt, rfl⟩ := open_leaves (d := 5) (ls := [.int .u64, .int .u64]) (by kernel_rfl) (by kernel_rfl) (hval 0 _ v0 rfl rfl) h0
  obtain ⟨rb, rfl⟩ := exists_U nb wb
  obtain ⟨rt, rfl⟩ := exists_U nt wt
  cases hok : newOk rb rt
  · exact walk_bad rb rt v1 hok W
  · rcases open_elems (d := 5) (ls := [.int .u64]) Try.underlying25 (by kernel_rfl) (by kernel_rfl) (by decide) (hval 1 _ v1 rfl rfl) h1 with ⟨a, cap, rfl, hcap⟩ | ⟨b, off, len, cap, rfl, hpos, hlc, hcm, hb, hel⟩
    · exact walk_good rb rt a 0 0 0 cap (fun _ => 0#64) hok (by omega) W (fun i hi => absurd hi (Nat.not_lt_zero _))
    · have hx : ∀ i : Nat, ∃ z : BitVec 64, i < len → W.cell? ⟨b, off + i, none⟩ = some (.int .u64 (U z)) := fun i => by
        by_cases ci : i < len
        · obtain ⟨z, wz, hc⟩ := hel i ci
          obtain ⟨y, rfl⟩ := exists_U z wz
          exact ⟨y, fun _ => by have := hc 0 (by decide); simpa using this⟩
        · exact ⟨0#64, fun h => absurd h ci⟩
      have hlen : len ≤ 9223372036854775807 := by unfold maxLen at hcm; omega
      exact walk_good rb rt _ b off len cap (fun i => (hx i).choose) hok hlen W (fun i hi => ⟨rfl, hb, (hx i).choose_spec hi⟩)

theorem over : Rows.regionApartRow.holds Try.pinned (OpenSpec.ofChange Rows.regionApartSpec) :=
  OpenClaim.holds_of_wide 3 Try.f3 rfl rfl rfl rfl rfl rfl rfl ⟨rfl, rfl, rfl, rfl, rfl⟩ rfl rfl rfl rfl rfl (by kernel_rfl) Try.func3 (by kernel_rfl)
    (of_decide_eq_true (by kernel_rfl)) (by unfold Func.isWrapper; first | (rw [if_pos (by decide +kernel)]; kernel_rfl) | (rw [if_neg (by decide +kernel)]; exact ⟨rfl, rfl⟩))
    (fun os started H enc _ => lifted os started H enc)

theorem proved : Rows.RegionApartSaid := over
end Go.Proofs.Ytnillifinnmigaa.Apart
