
/-
  RegionTells: an address is in the reservation that is told for it, and in no other one; what was reserved, held and dropped leaves no trace. Every input.
-/
import Derived.Test.YtnillifinnmigaaRgO
import Derived.Test.YtnillifinnmigaaLaw
import Derived.Outline
import Derived.Deep.DeepCutAuto
import Derived.Deep.CutRange
import Derived.Deep.RegionLaw
namespace Go.Proofs.Ytnillifinnmigaa.Tells
open Go Go.RowKit Go.ChangeShapes Go.WideShapes Go.ChangeAt
set_option linter.unusedVariables false
set_option linter.unusedSimpArgs false

set_option maxHeartbeats 16000000 in
set_option maxRecDepth 100000 in
theorem walk_good (la : Option Addr) (lb lo n cap : Nat) (kd pk : Nat → Int) (ns sb st : Nat → BitVec 64) (nn addr : BitVec 64) (hn : n ≤ 9223372036854775807) (w : World) (hla : ∀ i, i < n → la = some ⟨lb, lo, none⟩ ∧ lb < w.heap.size ∧ w.cell? ⟨lb, lo + i * 5, none⟩ = some (.int .i64 (kd i)) ∧ w.cell? ⟨lb, lo + i * 5 + 1, none⟩ = some (.int .i64 (pk i)) ∧ w.cell? ⟨lb, lo + i * 5 + 2, none⟩ = some (.int .u64 (U (ns i))) ∧ w.cell? ⟨lb, lo + i * 5 + 3, none⟩ = some (.int .u64 (U (sb i))) ∧ w.cell? ⟨lb, lo + i * 5 + 4, none⟩ = some (.int .u64 (U (st i)))) : Calls Try.prog 4 #[.slice la n cap, .int .u64 (U nn), .int .u64 (U addr)] w fun e w' => e = .returned (.bool true) ∧ Below w.heap.size w w' := by
  obtain ⟨rb, hrb⟩ : ∃ rb, rb = 4096#64 := ⟨_, rfl⟩
  obtain ⟨rt, hrt⟩ : ∃ rt, rt = 4194304#64 := ⟨_, rfl⟩
  have cn : ∀ w : World, Calls Try.prog 5 #[.agg #[.int .u64 4096, .int .u64 4194304]] w fun e w' => e = .returned (.tuple #[.agg #[.int .u64 (U rb), .int .u64 (U rt), .slice none 0 0], .int .i64 0]) ∧ Below w.heap.size w w' := fun w => by
    have h := new_any 4096#64 4194304#64 w
    unfold newV at h
    rw [show newOk 4096#64 4194304#64 = true by decide +kernel] at h
    rw [hrb, hrt]
    exact h
  have hroom : rb.toNat ≤ 274877906944 ∧ rt.toNat ≤ 274877906944 := by rw [hrb, hrt]; decide
  have HLA := Lib.hid hla
  clear hla hrb hrt
  go_enter Try.func4, Try.ntmps4
  go_wp2_with (first | (go_at_call 5; (with_reducible refine (cn _).mono ?_); rintro e w' ⟨rfl, hbl⟩; obtain ⟨hcw, hfw, hsw⟩ := below_ifs hbl; (try simp only [World.size_alloc, World.size_setCell, World.size_drew, size_drewN_] at hcw hfw hsw)))
  have hpw0 : w.heap.size ≤ w'.heap.size := hsw
  generalize hpm : w'.heap.size = pm
  go_loopw [9] (fun x9 wr => ∃ (k : Nat) (L : List Rg) (v : Value), x9 = .int .i64 (k : Int) ∧ k ≤ 40 ∧ L.length ≤ k ∧ w.heap.size ≤ pm ∧ pm < wr.heap.size ∧ Hid (Below w.heap.size w wr) ∧ Hid (MapAt wr pm rb rt v) ∧ Hid (SlR wr (pm + 1) v L) ∧ Hid (Inv rb rt L)) (fun x9 _ => 40 - (intOf x9).toNat)
  case atStart =>
    subst hpm
    refine ⟨0, [], .slice none 0 0, rfl, by omega, Nat.le_refl _, by omega, by first | omega | (simp; done) | (simp; omega), Lib.hid (by (repeat (first | with_reducible exact Below.refl _ _ | with_reducible assumption | with_reducible refine below_drewN ?_ _ | with_reducible refine Below.drew ?_ | with_reducible refine below_alloc ?_ _ | (with_reducible refine Below.setCell ?_ (by first | (simp; done) | omega | (simp; omega)) _) | with_reducible refine belows ?_ (by assumption)))), Lib.hid ⟨by first | omega | (simp; done) | (simp; omega), ⟨by (first | (go_simp; done) | (go_simp; (simp [↓IntWalk.iteOmega]; done)) | (go_simp; intros; omega) | (go_simp; simp [↓IntWalk.iteOmega]; intros; omega)), by (first | (go_simp; done) | (go_simp; (simp [↓IntWalk.iteOmega]; done)) | (go_simp; intros; omega) | (go_simp; simp [↓IntWalk.iteOmega]; intros; omega)), by (first | (go_simp; done) | (go_simp; (simp [↓IntWalk.iteOmega]; done)) | (go_simp; intros; omega) | (go_simp; simp [↓IntWalk.iteOmega]; intros; omega))⟩, by (first | (go_simp; done) | (go_simp; (simp [↓IntWalk.iteOmega]; done)) | (go_simp; intros; omega) | (go_simp; simp [↓IntWalk.iteOmega]; intros; omega)), by (first | (go_simp; done) | (go_simp; (simp [↓IntWalk.iteOmega]; done)) | (go_simp; intros; omega) | (go_simp; simp [↓IntWalk.iteOmega]; intros; omega)), by (first | (go_simp; done) | (go_simp; (simp [↓IntWalk.iteOmega]; done)) | (go_simp; intros; omega) | (go_simp; simp [↓IntWalk.iteOmega]; intros; omega))⟩, Lib.hid (SlR.nil _ _), Lib.hid (Inv.none hroom)⟩
  case round =>
    obtain ⟨k, L, v, rfl, hk, hLk, hpw, hpl, HB, HM, HL, HI⟩ := hrel
    clear hcw hfw hsw hbl cn hroom hpw0
    have hcst : (k : Int) < (n : Int) ∧ (k : Int) < 40 ∨ ¬ ((k : Int) < (n : Int) ∧ (k : Int) < 40) := Classical.em _
    rcases hcst with ⟨d1, d2⟩ | hc
    · obtain ⟨rfl, hlb, h0, h1, h2, h3, h4⟩ := HLA.out k (by omega)
      have hbr := HB.out
      have z0 := (hbr.cell (p := ⟨lb, _, none⟩) hlb).trans h0
      have z1 := (hbr.cell (p := ⟨lb, _, none⟩) hlb).trans h1
      have z2 := (hbr.cell (p := ⟨lb, _, none⟩) hlb).trans h2
      have z3 := (hbr.cell (p := ⟨lb, _, none⟩) hlb).trans h3
      have z4 := (hbr.cell (p := ⟨lb, _, none⟩) hlb).trans h4
      obtain ⟨m0, ⟨m1, m2, m3⟩, f1, f2, f3⟩ := HM.out
      have hlb2 : lb < wr.heap.size := Nat.lt_of_lt_of_le hlb hbr.size
      obtain ⟨av, nv, cv, rfl⟩ := HL.out.form0
      clear hbr h0 h1 h2 h3 h4
      generalize kd k = kdk at z0
      generalize pk k = pkk at z1
      generalize ns k = nsk at z2
      generalize sb k = sbk at z3
      generalize st k = stk at z4
      go_upto_region 9 with (first | (go_at_call 13; refine (picked_any (pm + 1) rb rt _ _ _ _ _ _ L _ (HL.out.below (by (repeat (first | with_reducible exact Below.refl _ _ | with_reducible assumption | with_reducible refine below_drewN ?_ _ | with_reducible refine Below.drew ?_ | with_reducible refine below_alloc ?_ _ | (with_reducible refine Below.setCell ?_ (by first | (simp; done) | omega | (simp; omega)) _) | with_reducible refine belows ?_ (by assumption))))) (by omega)).mono ?_; rintro e w2 ⟨pb, pt, rfl, hb2⟩; obtain ⟨hcw2, hfw2, hsw2⟩ := below_ifs hb2; (try simp only [World.size_alloc, World.size_setCell, World.size_drew, size_drewN_] at hcw2 hfw2 hsw2)))
      by_cases e0 : kdk = 0 ∨ kdk = 1
      · rcases find_all rb rt (nsk % 50000#64) L HI.out (by omega) with ⟨er, her, cf⟩ | ⟨b, hF, cf⟩
        · have her2 : (er == 0) = false := by simpa using her
          rcases e0 with rfl | rfl
          · go_wp2_with (first | (go_at_call 7; refine (cf _ _ _ (HL.out.below (by (repeat (first | with_reducible exact Below.refl _ _ | with_reducible assumption | with_reducible refine below_drewN ?_ _ | with_reducible refine Below.drew ?_ | with_reducible refine below_alloc ?_ _ | (with_reducible refine Below.setCell ?_ (by first | (simp; done) | omega | (simp; omega)) _) | with_reducible refine belows ?_ (by assumption)))))).mono ?_; rintro e w3 ⟨rfl, hb3⟩; obtain ⟨hcw3, hfw3, hsw3⟩ := below_ifs hb3; (try simp only [World.size_alloc, World.size_setCell, World.size_drew, size_drewN_] at hcw3 hfw3 hsw3)))
            go_roundw
            case rel => exact ⟨k + 1, L, .slice av nv cv, by go_num, by omega, by omega, hpw, fin_n hpl HB HM HL HI (by (repeat (first | with_reducible exact Below.refl _ _ | with_reducible assumption | with_reducible refine below_drewN ?_ _ | with_reducible refine Below.drew ?_ | with_reducible refine below_alloc ?_ _ | (with_reducible refine Below.setCell ?_ (by first | (simp; done) | omega | (simp; omega)) _) | with_reducible refine belows ?_ (by assumption))))⟩
            case measure => (simp [intOf]; omega)
          · go_wp2_with (first | (go_at_call 7; refine (cf _ _ _ (HL.out.below (by (repeat (first | with_reducible exact Below.refl _ _ | with_reducible assumption | with_reducible refine below_drewN ?_ _ | with_reducible refine Below.drew ?_ | with_reducible refine below_alloc ?_ _ | (with_reducible refine Below.setCell ?_ (by first | (simp; done) | omega | (simp; omega)) _) | with_reducible refine belows ?_ (by assumption)))))).mono ?_; rintro e w3 ⟨rfl, hb3⟩; obtain ⟨hcw3, hfw3, hsw3⟩ := below_ifs hb3; (try simp only [World.size_alloc, World.size_setCell, World.size_drew, size_drewN_] at hcw3 hfw3 hsw3)))
            go_roundw
            case rel => exact ⟨k + 1, L, .slice av nv cv, by go_num, by omega, by omega, hpw, fin_n hpl HB HM HL HI (by (repeat (first | with_reducible exact Below.refl _ _ | with_reducible assumption | with_reducible refine below_drewN ?_ _ | with_reducible refine Below.drew ?_ | with_reducible refine below_alloc ?_ _ | (with_reducible refine Below.setCell ?_ (by first | (simp; done) | omega | (simp; omega)) _) | with_reducible refine belows ?_ (by assumption))))⟩
            case measure => (simp [intOf]; omega)
        · have HF := Lib.hid hF
          clear hF
          rcases e0 with rfl | rfl
          · go_wp2_with (first | (go_at_call 7; refine (cf _ _ _ (HL.out.below (by (repeat (first | with_reducible exact Below.refl _ _ | with_reducible assumption | with_reducible refine below_drewN ?_ _ | with_reducible refine Below.drew ?_ | with_reducible refine below_alloc ?_ _ | (with_reducible refine Below.setCell ?_ (by first | (simp; done) | omega | (simp; omega)) _) | with_reducible refine belows ?_ (by assumption)))))).mono ?_; rintro e w3 ⟨rfl, hb3⟩; obtain ⟨hcw3, hfw3, hsw3⟩ := below_ifs hb3; (try simp only [World.size_alloc, World.size_setCell, World.size_drew, size_drewN_] at hcw3 hfw3 hsw3)) | (go_at_call 10; refine (add_step (pm + 1) rb rt _ b _ L _ (HL.out.below (by (repeat (first | with_reducible exact Below.refl _ _ | with_reducible assumption | with_reducible refine below_drewN ?_ _ | with_reducible refine Below.drew ?_ | with_reducible refine below_alloc ?_ _ | (with_reducible refine Below.setCell ?_ (by first | (simp; done) | omega | (simp; omega)) _) | with_reducible refine belows ?_ (by assumption))))) (by first | omega | (simp; omega)) (by omega) HI.out HF.out).mono ?_; rintro e w4 ⟨v4, L4, x4, rfl, hl4, hi4, hs4, hb4⟩; have HS4 := Lib.hid hs4; have HI4 := Lib.hid hi4; have HL4 := Lib.hid hl4; clear hs4 hi4 hl4; obtain ⟨a4, n4, c4, rfl⟩ := HS4.out.form0; obtain ⟨hcw4, hfw4, hsw4⟩ := below_ifs hb4; (try simp only [World.size_alloc, World.size_setCell, World.size_drew, size_drewN_] at hcw4 hfw4 hsw4)))
            go_roundw
            case rel =>
              have hbz : Below wr.heap.size wr w4 := by (repeat (first | with_reducible exact Below.refl _ _ | with_reducible assumption | with_reducible refine below_drewN ?_ _ | with_reducible refine Below.drew ?_ | with_reducible refine below_alloc ?_ _ | (with_reducible refine Below.setCell ?_ (by first | (simp; done) | omega | (simp; omega)) _) | with_reducible refine belows ?_ (by assumption)))
              obtain ⟨y1, y2, y3, y4⟩ := fin_t hpw (HB.out.trans (hbz.mono HB.out.size)) (HM.out.below hbz hpl) HS4.out _ rfl
              exact ⟨k + 1, L4, .slice a4 n4 c4, by go_num, by omega, by have := HL4.out; omega, hpw, y1, y2, y3, y4, HI4⟩
            case measure => (simp [intOf]; omega)
          · go_wp2_with (first | (go_at_call 7; refine (cf _ _ _ (HL.out.below (by (repeat (first | with_reducible exact Below.refl _ _ | with_reducible assumption | with_reducible refine below_drewN ?_ _ | with_reducible refine Below.drew ?_ | with_reducible refine below_alloc ?_ _ | (with_reducible refine Below.setCell ?_ (by first | (simp; done) | omega | (simp; omega)) _) | with_reducible refine belows ?_ (by assumption)))))).mono ?_; rintro e w3 ⟨rfl, hb3⟩; obtain ⟨hcw3, hfw3, hsw3⟩ := below_ifs hb3; (try simp only [World.size_alloc, World.size_setCell, World.size_drew, size_drewN_] at hcw3 hfw3 hsw3)) | (go_at_call 10; refine (add_step (pm + 1) rb rt _ b _ L _ (HL.out.below (by (repeat (first | with_reducible exact Below.refl _ _ | with_reducible assumption | with_reducible refine below_drewN ?_ _ | with_reducible refine Below.drew ?_ | with_reducible refine below_alloc ?_ _ | (with_reducible refine Below.setCell ?_ (by first | (simp; done) | omega | (simp; omega)) _) | with_reducible refine belows ?_ (by assumption))))) (by first | omega | (simp; omega)) (by omega) HI.out HF.out).mono ?_; rintro e w4 ⟨v4, L4, x4, rfl, hl4, hi4, hs4, hb4⟩; have HS4 := Lib.hid hs4; have HI4 := Lib.hid hi4; have HL4 := Lib.hid hl4; clear hs4 hi4 hl4; obtain ⟨a4, n4, c4, rfl⟩ := HS4.out.form0; obtain ⟨hcw4, hfw4, hsw4⟩ := below_ifs hb4; (try simp only [World.size_alloc, World.size_setCell, World.size_drew, size_drewN_] at hcw4 hfw4 hsw4)))
            go_roundw
            case rel =>
              have hbz : Below wr.heap.size wr w4 := by (repeat (first | with_reducible exact Below.refl _ _ | with_reducible assumption | with_reducible refine below_drewN ?_ _ | with_reducible refine Below.drew ?_ | with_reducible refine below_alloc ?_ _ | (with_reducible refine Below.setCell ?_ (by first | (simp; done) | omega | (simp; omega)) _) | with_reducible refine belows ?_ (by assumption)))
              obtain ⟨y1, y2, y3, y4⟩ := fin_t hpw (HB.out.trans (hbz.mono HB.out.size)) (HM.out.below hbz hpl) HS4.out _ rfl
              exact ⟨k + 1, L4, .slice a4 n4 c4, by go_num, by omega, by have := HL4.out; omega, hpw, y1, y2, y3, y4, HI4⟩
            case measure => (simp [intOf]; omega)
      · have k0 : (kdk == 0) = false := by rw [beq_eq_false_iff_ne]; omega
        have k1 : (kdk == 1) = false := by rw [beq_eq_false_iff_ne]; omega
        clear e0
        by_cases e2 : kdk = 2
        · subst e2
          clear k0 k1
          go_wp2_with (first | (go_at_call 11; refine (hold_step (pm + 1) rb rt pb pt _ L _ (HL.out.below (by (repeat (first | with_reducible exact Below.refl _ _ | with_reducible assumption | with_reducible refine below_drewN ?_ _ | with_reducible refine Below.drew ?_ | with_reducible refine below_alloc ?_ _ | (with_reducible refine Below.setCell ?_ (by first | (simp; done) | omega | (simp; omega)) _) | with_reducible refine belows ?_ (by assumption))))) (by first | omega | (simp; omega)) (by omega) HI.out).mono ?_; rintro e w4 ⟨v4, L4, x4, rfl, hl4, hi4, hs4, hb4⟩; have HS4 := Lib.hid hs4; have HI4 := Lib.hid hi4; have HL4 := Lib.hid hl4; clear hs4 hi4 hl4; obtain ⟨a4, n4, c4, rfl⟩ := HS4.out.form0; obtain ⟨hcw4, hfw4, hsw4⟩ := below_ifs hb4; (try simp only [World.size_alloc, World.size_setCell, World.size_drew, size_drewN_] at hcw4 hfw4 hsw4)))
          go_roundw
          case rel =>
            have hbz : Below wr.heap.size wr w4 := by (repeat (first | with_reducible exact Below.refl _ _ | with_reducible assumption | with_reducible refine below_drewN ?_ _ | with_reducible refine Below.drew ?_ | with_reducible refine below_alloc ?_ _ | (with_reducible refine Below.setCell ?_ (by first | (simp; done) | omega | (simp; omega)) _) | with_reducible refine belows ?_ (by assumption)))
            obtain ⟨y1, y2, y3, y4⟩ := fin_t hpw (HB.out.trans (hbz.mono HB.out.size)) (HM.out.below hbz hpl) HS4.out _ rfl
            exact ⟨k + 1, L4, .slice a4 n4 c4, by go_num, by omega, by have := HL4.out; omega, hpw, y1, y2, y3, y4, HI4⟩
          case measure => (simp [intOf]; omega)
        · have k2 : (kdk == 2) = false := by rw [beq_eq_false_iff_ne]; omega
          by_cases e3 : kdk = 3
          · subst e3
            clear k0 k1 k2 e2
            go_wp2_with (first | (go_at_call 12; refine (drop_step (pm + 1) rb rt pb pt _ L _ (HL.out.below (by (repeat (first | with_reducible exact Below.refl _ _ | with_reducible assumption | with_reducible refine below_drewN ?_ _ | with_reducible refine Below.drew ?_ | with_reducible refine below_alloc ?_ _ | (with_reducible refine Below.setCell ?_ (by first | (simp; done) | omega | (simp; omega)) _) | with_reducible refine belows ?_ (by assumption))))) (by first | omega | (simp; omega)) (by omega) HI.out).mono ?_; rintro e w4 ⟨v4, L4, x4, rfl, hl4, hi4, hs4, hb4⟩; have HS4 := Lib.hid hs4; have HI4 := Lib.hid hi4; have HL4 := Lib.hid hl4; clear hs4 hi4 hl4; obtain ⟨a4, n4, c4, rfl⟩ := HS4.out.form0; obtain ⟨hcw4, hfw4, hsw4⟩ := below_ifs hb4; (try simp only [World.size_alloc, World.size_setCell, World.size_drew, size_drewN_] at hcw4 hfw4 hsw4)))
            go_roundw
            case rel =>
              have hbz : Below wr.heap.size wr w4 := by (repeat (first | with_reducible exact Below.refl _ _ | with_reducible assumption | with_reducible refine below_drewN ?_ _ | with_reducible refine Below.drew ?_ | with_reducible refine below_alloc ?_ _ | (with_reducible refine Below.setCell ?_ (by first | (simp; done) | omega | (simp; omega)) _) | with_reducible refine belows ?_ (by assumption)))
              obtain ⟨y1, y2, y3, y4⟩ := fin_t hpw (HB.out.trans (hbz.mono HB.out.size)) (HM.out.below hbz hpl) HS4.out _ rfl
              exact ⟨k + 1, L4, .slice a4 n4 c4, by go_num, by omega, by have := HL4.out; omega, hpw, y1, y2, y3, y4, HI4⟩
            case measure => (simp [intOf]; omega)
          · have k3 : (kdk == 3) = false := by rw [beq_eq_false_iff_ne]; omega
            clear e2 e3
            go_wp2_with fail
            go_roundw
            case rel => exact ⟨k + 1, L, .slice av nv cv, by go_num, by omega, by omega, hpw, fin_n hpl HB HM HL HI (by (repeat (first | with_reducible exact Below.refl _ _ | with_reducible assumption | with_reducible refine below_drewN ?_ _ | with_reducible refine Below.drew ?_ | with_reducible refine below_alloc ?_ _ | (with_reducible refine Below.setCell ?_ (by first | (simp; done) | omega | (simp; omega)) _) | with_reducible refine belows ?_ (by assumption))))⟩
            case measure => (simp [intOf]; omega)
    · have hbr := HB.out
      obtain ⟨m0, ⟨m1, m2, m3⟩, f1, f2, f3⟩ := HM.out
      obtain ⟨av, nv, cv, rfl⟩ := HL.out.form0
      obtain ⟨is, j0, qb, qt, qk, hat, hin, hyes, hno⟩ := at_all HI.out addr
      have cat : ∀ (v : Value) (W : World) (B : Nat), SlR W B v L → Calls Try.prog 14 #[.agg #[.int .u64 (U rb), .int .u64 (U rt), v], .int .u64 (U addr)] W fun e w' => e = .returned (.tuple #[.agg #[.int .u64 (U qb), .int .u64 (U qt), .int .i64 qk], .bool is]) ∧ Below W.heap.size W w' := fun v W B h => by
        have := at_any B rb rt addr v L W h (by omega)
        rw [hat] at this
        exact this
      have CAT := Lib.hid cat
      have HIN := Lib.hid hin
      have HYES := Lib.hid hyes
      have HNO := Lib.hid hno
      clear cat hin hyes hno hat
      by_cases e1 : (k : Int) < (n : Int)
      · have dd1 : decide ((k : Int) < (n : Int)) = true := decide_eq_true e1
        have e2 : ¬ (k : Int) < 40 := by omega
        clear hc
        go_wp2_with (first | (go_at_call 9; refine (all_any (pm + 1) rb rt _ L _ (HL.out.below (by (repeat (first | with_reducible exact Below.refl _ _ | with_reducible assumption | with_reducible refine below_drewN ?_ _ | with_reducible refine Below.drew ?_ | with_reducible refine below_alloc ?_ _ | (with_reducible refine Below.setCell ?_ (by first | (simp; done) | omega | (simp; omega)) _) | with_reducible refine belows ?_ (by assumption))))) (by omega)).mono ?_; rintro e w2 ⟨v2, rfl, hs2, hb2⟩; have HS2 := Lib.hid hs2; obtain ⟨a2, c2, rfl, -, -, -, -⟩ := HS2.out.form; clear hs2; obtain ⟨hcw2, hfw2, hsw2⟩ := below_ifs hb2; (try simp only [World.size_alloc, World.size_setCell, World.size_drew, size_drewN_] at hcw2 hfw2 hsw2)) | (go_at_call 14; refine (CAT.out _ _ _ (HL.out.below (by (repeat (first | with_reducible exact Below.refl _ _ | with_reducible assumption | with_reducible refine below_drewN ?_ _ | with_reducible refine Below.drew ?_ | with_reducible refine below_alloc ?_ _ | (with_reducible refine Below.setCell ?_ (by first | (simp; done) | omega | (simp; omega)) _) | with_reducible refine belows ?_ (by assumption)))))).mono ?_; rintro e w3 ⟨rfl, hb3⟩; obtain ⟨hcw3, hfw3, hsw3⟩ := below_ifs hb3; (try simp only [World.size_alloc, World.size_setCell, World.size_drew, size_drewN_] at hcw3 hfw3 hsw3)))
        have HSA : Hid (SlR (w3.alloc (.cells #[.int .u64 (U qb), .int .u64 (U qt), .int .i64 qk] 41)) (pm + 1) (.slice a2 L.length c2) L) := Lib.hid ((HS2.out.below (by (repeat (first | with_reducible exact Below.refl _ _ | with_reducible assumption | with_reducible refine below_drewN ?_ _ | with_reducible refine Below.drew ?_ | with_reducible refine below_alloc ?_ _ | (with_reducible refine Below.setCell ?_ (by first | (simp; done) | omega | (simp; omega)) _) | with_reducible refine belows ?_ (by assumption))))).mono (Nat.le_trans hpl (Nat.le_refl _)))
        have HLn : Hid (∀ (i : Nat), i < L.length → ∃ r, L[i]? = some r) := Lib.hid fun i h => ⟨L[i]'h, List.getElem?_eq_getElem h⟩
        have HLl : Hid (∀ (i : Nat) (r : Rg), L[i]? = some r → i < L.length) := Lib.hid fun i r h => (List.getElem?_eq_some_iff.1 h).1
        have HRow : Hid (∀ (W : World) (B : Nat) (v : Value), SlR W B v L → 0 < L.length → ∃ g cap, v = .slice (some ⟨g, 0, none⟩) L.length cap ∧ B ≤ g ∧ g < W.heap.size ∧ L.length ≤ cap ∧ cap ≤ 9223372036854775807 ∧ ∀ j r, L[j]? = some r → (W.cell? ⟨g, j * 3, none⟩ = some (.int .u64 (U r.b)) ∧ W.cell? ⟨g, j * 3 + 1, none⟩ = some (.int .u64 (U r.t)) ∧ W.cell? ⟨g, j * 3 + 2, none⟩ = some (.int .i64 r.kd)) ∧ (∀ q, W.frozen? ⟨g, q, none⟩ = false)) := Lib.hid fun W B v h hn => h.row hn
        have HM0 : Hid (L.length ≤ 40) := Lib.hid (by omega)
        clear HS2
        generalize hM : L.length = M at HSA HLn HLl HRow HM0 hLk ⊢
        go_loopw [17, 18] (fun x17 x18 wy => ∃ i : Nat, x18 = .int .i64 (i : Int) ∧ x17 = .int .i64 (cntI is j0 i) ∧ i ≤ M ∧ wr.heap.size ≤ w3.heap.size ∧ Hid (Below wr.heap.size wr wy) ∧ Hid (SlR wy (pm + 1) (.slice a2 M c2) L) ∧ Hid (RgAt wy w3.heap.size qb qt qk)) (fun _ x18 _ => M - (intOf x18).toNat)
        case atStart => exact ⟨0, rfl, by rw [cnt_0], Nat.zero_le _, by omega, Lib.hid (by (repeat (first | with_reducible exact Below.refl _ _ | with_reducible assumption | with_reducible refine below_drewN ?_ _ | with_reducible refine Below.drew ?_ | with_reducible refine below_alloc ?_ _ | (with_reducible refine Below.setCell ?_ (by first | (simp; done) | omega | (simp; omega)) _) | with_reducible refine belows ?_ (by assumption)))), HSA, Lib.hid ⟨by first | omega | (simp; done) | (simp; omega), by (first | (go_simp; done) | (go_simp; (simp [↓IntWalk.iteOmega]; done)) | (go_simp; intros; omega) | (go_simp; simp [↓IntWalk.iteOmega]; intros; omega)), by (first | (go_simp; done) | (go_simp; (simp [↓IntWalk.iteOmega]; done)) | (go_simp; intros; omega) | (go_simp; simp [↓IntWalk.iteOmega]; intros; omega)), by (first | (go_simp; done) | (go_simp; (simp [↓IntWalk.iteOmega]; done)) | (go_simp; intros; omega) | (go_simp; simp [↓IntWalk.iteOmega]; intros; omega))⟩⟩
        case round =>
          obtain ⟨i, rfl, rfl, hi, hq5, HBy, HSy, HRy⟩ := hrel
          have hby := HBy.out
          by_cases ci : i < M
          · have d1 : decide ((i : Int) < (M : Int)) = true := decide_eq_true (by omega)
            obtain ⟨y, hy⟩ := HLn.out i ci
            obtain ⟨g, c4, hva, -, hg, -, -, hx⟩ := HRow.out _ _ _ HSy.out (by omega)
            obtain ⟨rfl, rfl⟩ : a2 = some ⟨g, 0, none⟩ ∧ c2 = c4 := (by simpa using hva)
            obtain ⟨⟨x0, x1, x2⟩, -⟩ := hx i y hy
            obtain ⟨r0, r1, r2, r3⟩ := HRy.out
            have hq := HIN.out i y hy
            have HY := Lib.hid hy
            clear hx hva hy
            unfold atF at hq
            cases g1 : decide (U y.b ≤ U addr)
            · rw [g1, Bool.false_and] at hq
              have HQ := Lib.hid hq.symm
              clear hq
              go_wp2_with fail
              go_roundw
              case rel => exact ⟨i + 1, by go_num, by rw [cnt_no HQ.out], by omega, hq5, HBy, HSy, HRy⟩
              case measure => (simp [intOf]; omega)
            · cases g2 : decide (U addr < U y.t)
              · rw [g1, g2, Bool.and_false] at hq
                have HQ := Lib.hid hq.symm
                clear hq
                go_wp2_with fail
                go_roundw
                case rel => exact ⟨i + 1, by go_num, by rw [cnt_no HQ.out], by omega, hq5, HBy, HSy, HRy⟩
                case measure => (simp [intOf]; omega)
              · rw [g1, g2, Bool.and_true] at hq
                obtain ⟨w0, w1, w2', w3'⟩ := cnt_yes hq.symm
                have hyy := HYES.out w2'
                rw [← w3', HY.out] at hyy
                obtain rfl := Option.some.inj hyy
                clear hq hyy
                rw [w0]
                have HW := Lib.hid w1
                clear w0 w1 w3' w2'
                go_wp2_with fail
                refine wp_region_below (by kernel_rfl) (by kernel_rfl) (fun hcr hfr => ?_)
                (try simp only [World.size_alloc, World.size_setCell, World.size_drew, size_drewN_] at hcr hfr)
                repeat (go_big_quiet_step (fail))
                refine wpQuiet_nil ?_
                intro w' hbl
                clear hcr hfr
                obtain ⟨hcw, hfw, hsw⟩ := below_ifs hbl; (try simp only [World.size_alloc, World.size_setCell, World.size_drew, size_drewN_] at hcw hfw hsw)
                have hbq : Below wr.heap.size wr w' := by (repeat (first | with_reducible exact Below.refl _ _ | with_reducible assumption | with_reducible refine below_drewN ?_ _ | with_reducible refine Below.drew ?_ | with_reducible refine below_alloc ?_ _ | (with_reducible refine Below.setCell ?_ (by first | (simp; done) | omega | (simp; omega)) _) | with_reducible refine belows ?_ (by assumption)))
                go_wp2_with fail
                go_roundw
                case rel =>
                  exact ⟨i + 1, by go_num, by rw [HW.out], by omega, hq5, Lib.hid (hby.trans (hbq.mono hby.size)), Lib.hid (HSy.out.below hbq), Lib.hid (HRy.out.below hbq HRy.out.1)⟩
                case measure => (simp [intOf]; omega)
          · obtain rfl : i = M := by omega
            have hcnt := cnt_end (is := is) (j0 := j0) (m := i) (fun h => HLl.out _ _ (HYES.out h))
            have hby' := hby
            obtain ⟨r0, r1, r2, r3⟩ := HRy.out
            go_upto_region 29 with (fail)
            obtain ⟨c17, h17⟩ : ∃ c, c = cntI is j0 i := ⟨_, rfl⟩
            rw [← h17]
            rw [hcnt] at h17
            clear hcnt
            go_cut [147] from 131 to 147 (fun s147 wx => s147 = .bool false ∧ Hid (Below wr.heap.size wr wx))
            case first =>
              cases is
              · obtain ⟨rfl, rfl, rfl⟩ := HNO.out rfl
                rw [if_neg (by decide)] at h17
                subst h17
                go_wp2_with fail
                go_meet
                exact ⟨rfl, Lib.hid (Below.refl _ _)⟩
              · rw [if_pos rfl] at h17
                subst h17
                go_wp2_with fail
                go_meet
                exact ⟨rfl, Lib.hid (Below.refl _ _)⟩
            case rest =>
              obtain ⟨rfl, HBc⟩ := hcut
              have hbt := HBy.out.trans (HBc.out.mono HBy.out.size)
              have HBT := Lib.hid (hbr.trans (hbt.mono hbr.size))
              have HMc := Lib.hid (HM.out.below hbt hpl)
              have HLc := Lib.hid (HL.out.below hbt)
              have HSc := Lib.hid (HSy.out.below HBc.out)
              have hplc := Nat.lt_of_lt_of_le hpl hbt.size
              (try clear hcw2 hfw2 hsw2 hb2)
              (try clear hcw3 hfw3 hsw3 hb3)
              (try clear hby')
              (try clear hby)
              (try clear r0 r1 r2 r3)
              (try clear hbt)
              (try clear m0 m1 m2 m3 f1 f2 f3)
              (try clear hbr)
              (try clear HBy HSy HRy HBc)
              (try clear HM HL)
              (try clear CAT HIN HYES HNO)
              (try clear HSA)
              (try clear HB)
              (try clear h17)
              obtain ⟨m0, ⟨m1, m2, m3⟩, -⟩ := HMc.out
              rcases find_all rb rt nn L HI.out (by have := HM0.out; omega) with ⟨er, her, cf⟩ | ⟨b, hF, cf⟩
              · have her2 : (er != 0) = true := by simpa using her
                go_wp2_with (first | (go_at_call 7; refine (cf _ _ _ (HLc.out.below (by (repeat (first | with_reducible exact Below.refl _ _ | with_reducible assumption | with_reducible refine below_drewN ?_ _ | with_reducible refine Below.drew ?_ | with_reducible refine below_alloc ?_ _ | (with_reducible refine Below.setCell ?_ (by first | (simp; done) | omega | (simp; omega)) _) | with_reducible refine belows ?_ (by assumption)))))).mono ?_; rintro e w13 ⟨rfl, hb13⟩; obtain ⟨hcw13, hfw13, hsw13⟩ := below_ifs hb13; (try simp only [World.size_alloc, World.size_setCell, World.size_drew, size_drewN_] at hcw13 hfw13 hsw13)) | (go_at_call 6; (with_reducible refine (one_any _).mono ?_); rintro e w' ⟨rfl, hbl⟩; obtain ⟨hcw, hfw, hsw⟩ := below_ifs hbl; (try simp only [World.size_alloc, World.size_setCell, World.size_drew, size_drewN_] at hcw hfw hsw)))
                go_ret
                have hbz := HBT.out
                exact ⟨rfl, by (repeat (first | with_reducible exact Below.refl _ _ | with_reducible assumption | with_reducible refine below_drewN ?_ _ | with_reducible refine Below.drew ?_ | with_reducible refine below_alloc ?_ _ | (with_reducible refine Below.setCell ?_ (by first | (simp; done) | omega | (simp; omega)) _) | with_reducible refine belows ?_ (by assumption)))⟩
              · have cadd : ∀ (v : Value) (W : World), SlR W (pm + 1) v L → pm + 1 ≤ W.heap.size → Calls Try.prog 10 #[.agg #[.int .u64 (U rb), .int .u64 (U rt), v], .agg #[.int .u64 (U b), .int .u64 (U (b + askN nn))]] W fun e w' => ∃ (i1 : Nat) (v' : Value), e = .returned (.tuple #[.agg #[.int .u64 (U rb), .int .u64 (U rt), v'], .int .i64 0]) ∧ i1 ≤ L.length ∧ (∀ (q : Nat) (x : Rg), q < i1 → L[q]? = some x → U x.b < U b) ∧ Inv rb rt (L.take i1 ++ [⟨b, b + askN nn, 1⟩] ++ L.drop i1) ∧ SlR w' (pm + 1) v' (L.take i1 ++ [⟨b, b + askN nn, 1⟩] ++ L.drop i1) ∧ Below W.heap.size W w' := fun v W h hB => add_found (pm + 1) rb rt nn b v L W h hB (by have := HM0.out; omega) HI.out hF
                clear hF
                generalize b + askN nn = T at cf cadd
                go_wp2_with (first | (go_at_call 7; refine (cf _ _ _ (HLc.out.below (by (repeat (first | with_reducible exact Below.refl _ _ | with_reducible assumption | with_reducible refine below_drewN ?_ _ | with_reducible refine Below.drew ?_ | with_reducible refine below_alloc ?_ _ | (with_reducible refine Below.setCell ?_ (by first | (simp; done) | omega | (simp; omega)) _) | with_reducible refine belows ?_ (by assumption)))))).mono ?_; rintro e w13 ⟨rfl, hb13⟩; obtain ⟨hcw13, hfw13, hsw13⟩ := below_ifs hb13; (try simp only [World.size_alloc, World.size_setCell, World.size_drew, size_drewN_] at hcw13 hfw13 hsw13)) | (go_at_call 10; refine (cadd _ _ (HLc.out.below (by (repeat (first | with_reducible exact Below.refl _ _ | with_reducible assumption | with_reducible refine below_drewN ?_ _ | with_reducible refine Below.drew ?_ | with_reducible refine below_alloc ?_ _ | (with_reducible refine Below.setCell ?_ (by first | (simp; done) | omega | (simp; omega)) _) | with_reducible refine belows ?_ (by assumption))))) (by first | omega | (simp; omega))).mono ?_; rintro e w14 ⟨i1, v14, rfl, hi1, hi2, -, hs14, hb14⟩; have HS14 := Lib.hid hs14; have HI14 := Lib.hid hi2; clear hs14 hi2; obtain ⟨a14, n14, c14, rfl⟩ := HS14.out.form0; obtain ⟨hcw14, hfw14, hsw14⟩ := below_ifs hb14; (try simp only [World.size_alloc, World.size_setCell, World.size_drew, size_drewN_] at hcw14 hfw14 hsw14)) | (go_at_call 11; refine (hold_yes (pm + 1) rb rt b T _ _ _ (HS14.out.below (by (repeat (first | with_reducible exact Below.refl _ _ | with_reducible assumption | with_reducible refine below_drewN ?_ _ | with_reducible refine Below.drew ?_ | with_reducible refine below_alloc ?_ _ | (with_reducible refine Below.setCell ?_ (by first | (simp; done) | omega | (simp; omega)) _) | with_reducible refine belows ?_ (by assumption))))) (by rw [ins_len hi1]; have := HM0.out; omega) i1 ⟨b, T, 1⟩ (idx_ins hi1 HI14.out).1 (idx_ins hi1 HI14.out).2).mono ?_; rintro e w15 ⟨v15, rfl, hs15, hb15⟩; rewrite [ins_set hi1] at hs15; have HS15 := Lib.hid hs15; clear hs15; obtain ⟨a15, n15, c15, rfl⟩ := HS15.out.form0; obtain ⟨hcw15, hfw15, hsw15⟩ := below_ifs hb15; (try simp only [World.size_alloc, World.size_setCell, World.size_drew, size_drewN_] at hcw15 hfw15 hsw15)) | (go_at_call 12; refine (drop_yes _ rb rt b T _ _ _ (HS15.out.below (by (repeat (first | with_reducible exact Below.refl _ _ | with_reducible assumption | with_reducible refine below_drewN ?_ _ | with_reducible refine Below.drew ?_ | with_reducible refine below_alloc ?_ _ | (with_reducible refine Below.setCell ?_ (by first | (simp; done) | omega | (simp; omega)) _) | with_reducible refine belows ?_ (by assumption))))) (by rw [ins_len hi1]; have := HM0.out; omega) i1 ⟨b, T, 2⟩ (idx_ins hi1 HI14.out).1 (idx_ins hi1 HI14.out).2).mono ?_; rintro e w16 ⟨v16, rfl, hs16, hb16⟩; rewrite [ins_del hi1] at hs16; have HS16 := Lib.hid hs16; clear hs16; obtain ⟨a16, n16, c16, rfl⟩ := HS16.out.form0; obtain ⟨hcw16, hfw16, hsw16⟩ := below_ifs hb16; (try simp only [World.size_alloc, World.size_setCell, World.size_drew, size_drewN_] at hcw16 hfw16 hsw16)) | (go_at_call 9; refine (all_any _ rb rt _ L _ (HS16.out.below (by (repeat (first | with_reducible exact Below.refl _ _ | with_reducible assumption | with_reducible refine below_drewN ?_ _ | with_reducible refine Below.drew ?_ | with_reducible refine below_alloc ?_ _ | (with_reducible refine Below.setCell ?_ (by first | (simp; done) | omega | (simp; omega)) _) | with_reducible refine belows ?_ (by assumption))))) (by have := HM0.out; omega)).mono ?_; rintro e w17 ⟨v17, rfl, hs17, hb17⟩; have HS17 := Lib.hid hs17; obtain ⟨a17, c17, rfl, -, -, -, -⟩ := HS17.out.form; clear hs17; obtain ⟨hcw17, hfw17, hsw17⟩ := below_ifs hb17; (try simp only [World.size_alloc, World.size_setCell, World.size_drew, size_drewN_] at hcw17 hfw17 hsw17)))
                have HZ : Hid (MapAt w17 w16.heap.size rb rt (.slice a16 n16 c16)) := Lib.hid ⟨by omega, ⟨by (first | (go_simp; done) | (go_simp; (simp [↓IntWalk.iteOmega]; done)) | (go_simp; intros; omega) | (go_simp; simp [↓IntWalk.iteOmega]; intros; omega)), by (first | (go_simp; done) | (go_simp; (simp [↓IntWalk.iteOmega]; done)) | (go_simp; intros; omega) | (go_simp; simp [↓IntWalk.iteOmega]; intros; omega)), by (first | (go_simp; done) | (go_simp; (simp [↓IntWalk.iteOmega]; done)) | (go_simp; intros; omega) | (go_simp; simp [↓IntWalk.iteOmega]; intros; omega))⟩, by (first | (go_simp; done) | (go_simp; (simp [↓IntWalk.iteOmega]; done)) | (go_simp; intros; omega) | (go_simp; simp [↓IntWalk.iteOmega]; intros; omega)), by (first | (go_simp; done) | (go_simp; (simp [↓IntWalk.iteOmega]; done)) | (go_simp; intros; omega) | (go_simp; simp [↓IntWalk.iteOmega]; intros; omega)), by (first | (go_simp; done) | (go_simp; (simp [↓IntWalk.iteOmega]; done)) | (go_simp; intros; omega) | (go_simp; simp [↓IntWalk.iteOmega]; intros; omega))⟩
                have HSp : Hid (SpAt w17 w13.heap.size b T) := Lib.hid ⟨by omega, by (first | (go_simp; done) | (go_simp; (simp [↓IntWalk.iteOmega]; done)) | (go_simp; intros; omega) | (go_simp; simp [↓IntWalk.iteOmega]; intros; omega)), by (first | (go_simp; done) | (go_simp; (simp [↓IntWalk.iteOmega]; done)) | (go_simp; intros; omega) | (go_simp; simp [↓IntWalk.iteOmega]; intros; omega))⟩
                have HB17 : Hid (Below wc.heap.size wc w17) := Lib.hid (by (repeat (first | with_reducible exact Below.refl _ _ | with_reducible assumption | with_reducible refine below_drewN ?_ _ | with_reducible refine Below.drew ?_ | with_reducible refine below_alloc ?_ _ | (with_reducible refine Below.setCell ?_ (by first | (simp; done) | omega | (simp; omega)) _) | with_reducible refine belows ?_ (by assumption))))
                have hl17 := HS17.out
                rw [hM] at hl17
                have HL17 := Lib.hid hl17
                have HA17 := Lib.hid (HSc.out.below HB17.out)
                have HM17 := Lib.hid (HS16.out.below (by (repeat (first | with_reducible exact Below.refl _ _ | with_reducible assumption | with_reducible refine below_drewN ?_ _ | with_reducible refine Below.drew ?_ | with_reducible refine below_alloc ?_ _ | (with_reducible refine Below.setCell ?_ (by first | (simp; done) | omega | (simp; omega)) _) | with_reducible refine belows ?_ (by assumption))) : Below w16.heap.size w16 w17))
                (try clear hl17)
                (try clear hcw13 hfw13 hsw13 hb13)
                (try clear hcw14 hfw14 hsw14 hb14)
                (try clear hcw15 hfw15 hsw15 hb15)
                (try clear hcw16 hfw16 hsw16 hb16)
                (try clear hcw17 hfw17 hsw17 hb17)
                (try clear m0 m1 m2 m3)
                (try clear HS14 HS15 HS16 HS17 HSc HLc HMc HI14 cadd)
                go_loopw [27] (fun x27 wy => ∃ j : Nat, x27 = .int .i64 (j : Int) ∧ j ≤ i ∧ Hid (Below w17.heap.size w17 wy)) (fun x27 _ => i - (intOf x27).toNat)
                case atStart => exact ⟨0, rfl, Nat.zero_le _, Lib.hid (Below.refl _ _)⟩
                case round =>
                  obtain ⟨j, rfl, hj, HBy⟩ := hrel
                  have hby := HBy.out
                  by_cases cj : j < i
                  · have d1 : decide ((j : Int) < (i : Int)) = true := decide_eq_true (by omega)
                    obtain ⟨y, hy⟩ := HLn.out j cj
                    obtain ⟨g, c4, hva, -, hg, -, -, hx⟩ := HRow.out _ _ _ (HA17.out.below hby) (by omega)
                    obtain ⟨rfl, rfl⟩ : a2 = some ⟨g, 0, none⟩ ∧ c2 = c4 := (by simpa using hva)
                    obtain ⟨⟨x0, x1, x2⟩, -⟩ := hx j y hy
                    obtain ⟨g2, c5, hva2, -, hg2, -, -, hx2⟩ := HRow.out _ _ _ (HL17.out.below hby) (by omega)
                    obtain ⟨rfl, rfl⟩ : a17 = some ⟨g2, 0, none⟩ ∧ c17 = c5 := (by simpa using hva2)
                    obtain ⟨⟨y0, y1, y2⟩, -⟩ := hx2 j y hy
                    clear hx hx2 hva hva2 hy
                    go_wp2_with fail
                    refine wp_region_below (by kernel_rfl) (by kernel_rfl) (fun hcr hfr => ?_)
                    (try simp only [World.size_alloc, World.size_setCell, World.size_drew, size_drewN_] at hcr hfr)
                    repeat (go_big_quiet_step (fail))
                    refine wpQuiet_nil ?_
                    intro w' hbl
                    clear hcr hfr
                    obtain ⟨hcw, hfw, hsw⟩ := below_ifs hbl; (try simp only [World.size_alloc, World.size_setCell, World.size_drew, size_drewN_] at hcw hfw hsw)
                    have hbq : Below wr.heap.size wr w' := by (repeat (first | with_reducible exact Below.refl _ _ | with_reducible assumption | with_reducible refine below_drewN ?_ _ | with_reducible refine Below.drew ?_ | with_reducible refine below_alloc ?_ _ | (with_reducible refine Below.setCell ?_ (by first | (simp; done) | omega | (simp; omega)) _) | with_reducible refine belows ?_ (by assumption)))
                    go_wp2_with fail
                    go_roundw
                    case rel => exact ⟨j + 1, by go_num, by omega, Lib.hid (hby.trans (hbq.mono hby.size))⟩
                    case measure => (simp [intOf]; omega)
                  · obtain rfl : j = i := by omega
                    obtain ⟨m0, ⟨m1, m2, m3⟩, -⟩ := HZ.out.below hby HZ.out.1
                    obtain ⟨s0, s1, s2⟩ := HSp.out.below hby HSp.out.1
                    go_wp2_with (first | (go_at_call 7; refine (cf _ _ _ (HM17.out.below (hby.trans (by (repeat (first | with_reducible exact Below.refl _ _ | with_reducible assumption | with_reducible refine below_drewN ?_ _ | with_reducible refine Below.drew ?_ | with_reducible refine below_alloc ?_ _ | (with_reducible refine Below.setCell ?_ (by first | (simp; done) | omega | (simp; omega)) _) | with_reducible refine belows ?_ (by assumption))))))).mono ?_; rintro e w18 ⟨rfl, hb18⟩; obtain ⟨hcw18, hfw18, hsw18⟩ := below_ifs hb18; (try simp only [World.size_alloc, World.size_setCell, World.size_drew, size_drewN_] at hcw18 hfw18 hsw18)) | (go_at_call 6; (with_reducible refine (one_any _).mono ?_); rintro e w' ⟨rfl, hbl⟩; obtain ⟨hcw, hfw, hsw⟩ := below_ifs hbl; (try simp only [World.size_alloc, World.size_setCell, World.size_drew, size_drewN_] at hcw hfw hsw)))
                    have hbz := HBT.out.trans ((HB17.out.trans (hby.mono HB17.out.size)).mono HBT.out.size)
                    go_ret
                    exact ⟨ret_bool (by first | rfl | (simp; done)), by (repeat (first | with_reducible exact Below.refl _ _ | with_reducible assumption | with_reducible refine below_drewN ?_ _ | with_reducible refine Below.drew ?_ | with_reducible refine below_alloc ?_ _ | (with_reducible refine Below.setCell ?_ (by first | (simp; done) | omega | (simp; omega)) _) | with_reducible refine belows ?_ (by assumption)))⟩
      · have dd1 : decide ((k : Int) < (n : Int)) = false := decide_eq_false e1
        clear hc
        go_wp2_with (first | (go_at_call 9; refine (all_any (pm + 1) rb rt _ L _ (HL.out.below (by (repeat (first | with_reducible exact Below.refl _ _ | with_reducible assumption | with_reducible refine below_drewN ?_ _ | with_reducible refine Below.drew ?_ | with_reducible refine below_alloc ?_ _ | (with_reducible refine Below.setCell ?_ (by first | (simp; done) | omega | (simp; omega)) _) | with_reducible refine belows ?_ (by assumption))))) (by omega)).mono ?_; rintro e w2 ⟨v2, rfl, hs2, hb2⟩; have HS2 := Lib.hid hs2; obtain ⟨a2, c2, rfl, -, -, -, -⟩ := HS2.out.form; clear hs2; obtain ⟨hcw2, hfw2, hsw2⟩ := below_ifs hb2; (try simp only [World.size_alloc, World.size_setCell, World.size_drew, size_drewN_] at hcw2 hfw2 hsw2)) | (go_at_call 14; refine (CAT.out _ _ _ (HL.out.below (by (repeat (first | with_reducible exact Below.refl _ _ | with_reducible assumption | with_reducible refine below_drewN ?_ _ | with_reducible refine Below.drew ?_ | with_reducible refine below_alloc ?_ _ | (with_reducible refine Below.setCell ?_ (by first | (simp; done) | omega | (simp; omega)) _) | with_reducible refine belows ?_ (by assumption)))))).mono ?_; rintro e w3 ⟨rfl, hb3⟩; obtain ⟨hcw3, hfw3, hsw3⟩ := below_ifs hb3; (try simp only [World.size_alloc, World.size_setCell, World.size_drew, size_drewN_] at hcw3 hfw3 hsw3)))
        have HSA : Hid (SlR (w3.alloc (.cells #[.int .u64 (U qb), .int .u64 (U qt), .int .i64 qk] 41)) (pm + 1) (.slice a2 L.length c2) L) := Lib.hid ((HS2.out.below (by (repeat (first | with_reducible exact Below.refl _ _ | with_reducible assumption | with_reducible refine below_drewN ?_ _ | with_reducible refine Below.drew ?_ | with_reducible refine below_alloc ?_ _ | (with_reducible refine Below.setCell ?_ (by first | (simp; done) | omega | (simp; omega)) _) | with_reducible refine belows ?_ (by assumption))))).mono (Nat.le_trans hpl (Nat.le_refl _)))
        have HLn : Hid (∀ (i : Nat), i < L.length → ∃ r, L[i]? = some r) := Lib.hid fun i h => ⟨L[i]'h, List.getElem?_eq_getElem h⟩
        have HLl : Hid (∀ (i : Nat) (r : Rg), L[i]? = some r → i < L.length) := Lib.hid fun i r h => (List.getElem?_eq_some_iff.1 h).1
        have HRow : Hid (∀ (W : World) (B : Nat) (v : Value), SlR W B v L → 0 < L.length → ∃ g cap, v = .slice (some ⟨g, 0, none⟩) L.length cap ∧ B ≤ g ∧ g < W.heap.size ∧ L.length ≤ cap ∧ cap ≤ 9223372036854775807 ∧ ∀ j r, L[j]? = some r → (W.cell? ⟨g, j * 3, none⟩ = some (.int .u64 (U r.b)) ∧ W.cell? ⟨g, j * 3 + 1, none⟩ = some (.int .u64 (U r.t)) ∧ W.cell? ⟨g, j * 3 + 2, none⟩ = some (.int .i64 r.kd)) ∧ (∀ q, W.frozen? ⟨g, q, none⟩ = false)) := Lib.hid fun W B v h hn => h.row hn
        have HM0 : Hid (L.length ≤ 40) := Lib.hid (by omega)
        clear HS2
        generalize hM : L.length = M at HSA HLn HLl HRow HM0 hLk ⊢
        go_loopw [17, 18] (fun x17 x18 wy => ∃ i : Nat, x18 = .int .i64 (i : Int) ∧ x17 = .int .i64 (cntI is j0 i) ∧ i ≤ M ∧ wr.heap.size ≤ w3.heap.size ∧ Hid (Below wr.heap.size wr wy) ∧ Hid (SlR wy (pm + 1) (.slice a2 M c2) L) ∧ Hid (RgAt wy w3.heap.size qb qt qk)) (fun _ x18 _ => M - (intOf x18).toNat)
        case atStart => exact ⟨0, rfl, by rw [cnt_0], Nat.zero_le _, by omega, Lib.hid (by (repeat (first | with_reducible exact Below.refl _ _ | with_reducible assumption | with_reducible refine below_drewN ?_ _ | with_reducible refine Below.drew ?_ | with_reducible refine below_alloc ?_ _ | (with_reducible refine Below.setCell ?_ (by first | (simp; done) | omega | (simp; omega)) _) | with_reducible refine belows ?_ (by assumption)))), HSA, Lib.hid ⟨by first | omega | (simp; done) | (simp; omega), by (first | (go_simp; done) | (go_simp; (simp [↓IntWalk.iteOmega]; done)) | (go_simp; intros; omega) | (go_simp; simp [↓IntWalk.iteOmega]; intros; omega)), by (first | (go_simp; done) | (go_simp; (simp [↓IntWalk.iteOmega]; done)) | (go_simp; intros; omega) | (go_simp; simp [↓IntWalk.iteOmega]; intros; omega)), by (first | (go_simp; done) | (go_simp; (simp [↓IntWalk.iteOmega]; done)) | (go_simp; intros; omega) | (go_simp; simp [↓IntWalk.iteOmega]; intros; omega))⟩⟩
        case round =>
          obtain ⟨i, rfl, rfl, hi, hq5, HBy, HSy, HRy⟩ := hrel
          have hby := HBy.out
          by_cases ci : i < M
          · have d1 : decide ((i : Int) < (M : Int)) = true := decide_eq_true (by omega)
            obtain ⟨y, hy⟩ := HLn.out i ci
            obtain ⟨g, c4, hva, -, hg, -, -, hx⟩ := HRow.out _ _ _ HSy.out (by omega)
            obtain ⟨rfl, rfl⟩ : a2 = some ⟨g, 0, none⟩ ∧ c2 = c4 := (by simpa using hva)
            obtain ⟨⟨x0, x1, x2⟩, -⟩ := hx i y hy
            obtain ⟨r0, r1, r2, r3⟩ := HRy.out
            have hq := HIN.out i y hy
            have HY := Lib.hid hy
            clear hx hva hy
            unfold atF at hq
            cases g1 : decide (U y.b ≤ U addr)
            · rw [g1, Bool.false_and] at hq
              have HQ := Lib.hid hq.symm
              clear hq
              go_wp2_with fail
              go_roundw
              case rel => exact ⟨i + 1, by go_num, by rw [cnt_no HQ.out], by omega, hq5, HBy, HSy, HRy⟩
              case measure => (simp [intOf]; omega)
            · cases g2 : decide (U addr < U y.t)
              · rw [g1, g2, Bool.and_false] at hq
                have HQ := Lib.hid hq.symm
                clear hq
                go_wp2_with fail
                go_roundw
                case rel => exact ⟨i + 1, by go_num, by rw [cnt_no HQ.out], by omega, hq5, HBy, HSy, HRy⟩
                case measure => (simp [intOf]; omega)
              · rw [g1, g2, Bool.and_true] at hq
                obtain ⟨w0, w1, w2', w3'⟩ := cnt_yes hq.symm
                have hyy := HYES.out w2'
                rw [← w3', HY.out] at hyy
                obtain rfl := Option.some.inj hyy
                clear hq hyy
                rw [w0]
                have HW := Lib.hid w1
                clear w0 w1 w3' w2'
                go_wp2_with fail
                refine wp_region_below (by kernel_rfl) (by kernel_rfl) (fun hcr hfr => ?_)
                (try simp only [World.size_alloc, World.size_setCell, World.size_drew, size_drewN_] at hcr hfr)
                repeat (go_big_quiet_step (fail))
                refine wpQuiet_nil ?_
                intro w' hbl
                clear hcr hfr
                obtain ⟨hcw, hfw, hsw⟩ := below_ifs hbl; (try simp only [World.size_alloc, World.size_setCell, World.size_drew, size_drewN_] at hcw hfw hsw)
                have hbq : Below wr.heap.size wr w' := by (repeat (first | with_reducible exact Below.refl _ _ | with_reducible assumption | with_reducible refine below_drewN ?_ _ | with_reducible refine Below.drew ?_ | with_reducible refine below_alloc ?_ _ | (with_reducible refine Below.setCell ?_ (by first | (simp; done) | omega | (simp; omega)) _) | with_reducible refine belows ?_ (by assumption)))
                go_wp2_with fail
                go_roundw
                case rel =>
                  exact ⟨i + 1, by go_num, by rw [HW.out], by omega, hq5, Lib.hid (hby.trans (hbq.mono hby.size)), Lib.hid (HSy.out.below hbq), Lib.hid (HRy.out.below hbq HRy.out.1)⟩
                case measure => (simp [intOf]; omega)
          · obtain rfl : i = M := by omega
            have hcnt := cnt_end (is := is) (j0 := j0) (m := i) (fun h => HLl.out _ _ (HYES.out h))
            have hby' := hby
            obtain ⟨r0, r1, r2, r3⟩ := HRy.out
            go_upto_region 29 with (fail)
            obtain ⟨c17, h17⟩ : ∃ c, c = cntI is j0 i := ⟨_, rfl⟩
            rw [← h17]
            rw [hcnt] at h17
            clear hcnt
            go_cut [147] from 131 to 147 (fun s147 wx => s147 = .bool false ∧ Hid (Below wr.heap.size wr wx))
            case first =>
              cases is
              · obtain ⟨rfl, rfl, rfl⟩ := HNO.out rfl
                rw [if_neg (by decide)] at h17
                subst h17
                go_wp2_with fail
                go_meet
                exact ⟨rfl, Lib.hid (Below.refl _ _)⟩
              · rw [if_pos rfl] at h17
                subst h17
                go_wp2_with fail
                go_meet
                exact ⟨rfl, Lib.hid (Below.refl _ _)⟩
            case rest =>
              obtain ⟨rfl, HBc⟩ := hcut
              have hbt := HBy.out.trans (HBc.out.mono HBy.out.size)
              have HBT := Lib.hid (hbr.trans (hbt.mono hbr.size))
              have HMc := Lib.hid (HM.out.below hbt hpl)
              have HLc := Lib.hid (HL.out.below hbt)
              have HSc := Lib.hid (HSy.out.below HBc.out)
              have hplc := Nat.lt_of_lt_of_le hpl hbt.size
              (try clear hcw2 hfw2 hsw2 hb2)
              (try clear hcw3 hfw3 hsw3 hb3)
              (try clear hby')
              (try clear hby)
              (try clear r0 r1 r2 r3)
              (try clear hbt)
              (try clear m0 m1 m2 m3 f1 f2 f3)
              (try clear hbr)
              (try clear HBy HSy HRy HBc)
              (try clear HM HL)
              (try clear CAT HIN HYES HNO)
              (try clear HSA)
              (try clear HB)
              (try clear h17)
              obtain ⟨m0, ⟨m1, m2, m3⟩, -⟩ := HMc.out
              rcases find_all rb rt nn L HI.out (by have := HM0.out; omega) with ⟨er, her, cf⟩ | ⟨b, hF, cf⟩
              · have her2 : (er != 0) = true := by simpa using her
                go_wp2_with (first | (go_at_call 7; refine (cf _ _ _ (HLc.out.below (by (repeat (first | with_reducible exact Below.refl _ _ | with_reducible assumption | with_reducible refine below_drewN ?_ _ | with_reducible refine Below.drew ?_ | with_reducible refine below_alloc ?_ _ | (with_reducible refine Below.setCell ?_ (by first | (simp; done) | omega | (simp; omega)) _) | with_reducible refine belows ?_ (by assumption)))))).mono ?_; rintro e w13 ⟨rfl, hb13⟩; obtain ⟨hcw13, hfw13, hsw13⟩ := below_ifs hb13; (try simp only [World.size_alloc, World.size_setCell, World.size_drew, size_drewN_] at hcw13 hfw13 hsw13)) | (go_at_call 6; (with_reducible refine (one_any _).mono ?_); rintro e w' ⟨rfl, hbl⟩; obtain ⟨hcw, hfw, hsw⟩ := below_ifs hbl; (try simp only [World.size_alloc, World.size_setCell, World.size_drew, size_drewN_] at hcw hfw hsw)))
                go_ret
                have hbz := HBT.out
                exact ⟨rfl, by (repeat (first | with_reducible exact Below.refl _ _ | with_reducible assumption | with_reducible refine below_drewN ?_ _ | with_reducible refine Below.drew ?_ | with_reducible refine below_alloc ?_ _ | (with_reducible refine Below.setCell ?_ (by first | (simp; done) | omega | (simp; omega)) _) | with_reducible refine belows ?_ (by assumption)))⟩
              · have cadd : ∀ (v : Value) (W : World), SlR W (pm + 1) v L → pm + 1 ≤ W.heap.size → Calls Try.prog 10 #[.agg #[.int .u64 (U rb), .int .u64 (U rt), v], .agg #[.int .u64 (U b), .int .u64 (U (b + askN nn))]] W fun e w' => ∃ (i1 : Nat) (v' : Value), e = .returned (.tuple #[.agg #[.int .u64 (U rb), .int .u64 (U rt), v'], .int .i64 0]) ∧ i1 ≤ L.length ∧ (∀ (q : Nat) (x : Rg), q < i1 → L[q]? = some x → U x.b < U b) ∧ Inv rb rt (L.take i1 ++ [⟨b, b + askN nn, 1⟩] ++ L.drop i1) ∧ SlR w' (pm + 1) v' (L.take i1 ++ [⟨b, b + askN nn, 1⟩] ++ L.drop i1) ∧ Below W.heap.size W w' := fun v W h hB => add_found (pm + 1) rb rt nn b v L W h hB (by have := HM0.out; omega) HI.out hF
                clear hF
                generalize b + askN nn = T at cf cadd
                go_wp2_with (first | (go_at_call 7; refine (cf _ _ _ (HLc.out.below (by (repeat (first | with_reducible exact Below.refl _ _ | with_reducible assumption | with_reducible refine below_drewN ?_ _ | with_reducible refine Below.drew ?_ | with_reducible refine below_alloc ?_ _ | (with_reducible refine Below.setCell ?_ (by first | (simp; done) | omega | (simp; omega)) _) | with_reducible refine belows ?_ (by assumption)))))).mono ?_; rintro e w13 ⟨rfl, hb13⟩; obtain ⟨hcw13, hfw13, hsw13⟩ := below_ifs hb13; (try simp only [World.size_alloc, World.size_setCell, World.size_drew, size_drewN_] at hcw13 hfw13 hsw13)) | (go_at_call 10; refine (cadd _ _ (HLc.out.below (by (repeat (first | with_reducible exact Below.refl _ _ | with_reducible assumption | with_reducible refine below_drewN ?_ _ | with_reducible refine Below.drew ?_ | with_reducible refine below_alloc ?_ _ | (with_reducible refine Below.setCell ?_ (by first | (simp; done) | omega | (simp; omega)) _) | with_reducible refine belows ?_ (by assumption))))) (by first | omega | (simp; omega))).mono ?_; rintro e w14 ⟨i1, v14, rfl, hi1, hi2, -, hs14, hb14⟩; have HS14 := Lib.hid hs14; have HI14 := Lib.hid hi2; clear hs14 hi2; obtain ⟨a14, n14, c14, rfl⟩ := HS14.out.form0; obtain ⟨hcw14, hfw14, hsw14⟩ := below_ifs hb14; (try simp only [World.size_alloc, World.size_setCell, World.size_drew, size_drewN_] at hcw14 hfw14 hsw14)) | (go_at_call 11; refine (hold_yes (pm + 1) rb rt b T _ _ _ (HS14.out.below (by (repeat (first | with_reducible exact Below.refl _ _ | with_reducible assumption | with_reducible refine below_drewN ?_ _ | with_reducible refine Below.drew ?_ | with_reducible refine below_alloc ?_ _ | (with_reducible refine Below.setCell ?_ (by first | (simp; done) | omega | (simp; omega)) _) | with_reducible refine belows ?_ (by assumption))))) (by rw [ins_len hi1]; have := HM0.out; omega) i1 ⟨b, T, 1⟩ (idx_ins hi1 HI14.out).1 (idx_ins hi1 HI14.out).2).mono ?_; rintro e w15 ⟨v15, rfl, hs15, hb15⟩; rewrite [ins_set hi1] at hs15; have HS15 := Lib.hid hs15; clear hs15; obtain ⟨a15, n15, c15, rfl⟩ := HS15.out.form0; obtain ⟨hcw15, hfw15, hsw15⟩ := below_ifs hb15; (try simp only [World.size_alloc, World.size_setCell, World.size_drew, size_drewN_] at hcw15 hfw15 hsw15)) | (go_at_call 12; refine (drop_yes _ rb rt b T _ _ _ (HS15.out.below (by (repeat (first | with_reducible exact Below.refl _ _ | with_reducible assumption | with_reducible refine below_drewN ?_ _ | with_reducible refine Below.drew ?_ | with_reducible refine below_alloc ?_ _ | (with_reducible refine Below.setCell ?_ (by first | (simp; done) | omega | (simp; omega)) _) | with_reducible refine belows ?_ (by assumption))))) (by rw [ins_len hi1]; have := HM0.out; omega) i1 ⟨b, T, 2⟩ (idx_ins hi1 HI14.out).1 (idx_ins hi1 HI14.out).2).mono ?_; rintro e w16 ⟨v16, rfl, hs16, hb16⟩; rewrite [ins_del hi1] at hs16; have HS16 := Lib.hid hs16; clear hs16; obtain ⟨a16, n16, c16, rfl⟩ := HS16.out.form0; obtain ⟨hcw16, hfw16, hsw16⟩ := below_ifs hb16; (try simp only [World.size_alloc, World.size_setCell, World.size_drew, size_drewN_] at hcw16 hfw16 hsw16)) | (go_at_call 9; refine (all_any _ rb rt _ L _ (HS16.out.below (by (repeat (first | with_reducible exact Below.refl _ _ | with_reducible assumption | with_reducible refine below_drewN ?_ _ | with_reducible refine Below.drew ?_ | with_reducible refine below_alloc ?_ _ | (with_reducible refine Below.setCell ?_ (by first | (simp; done) | omega | (simp; omega)) _) | with_reducible refine belows ?_ (by assumption))))) (by have := HM0.out; omega)).mono ?_; rintro e w17 ⟨v17, rfl, hs17, hb17⟩; have HS17 := Lib.hid hs17; obtain ⟨a17, c17, rfl, -, -, -, -⟩ := HS17.out.form; clear hs17; obtain ⟨hcw17, hfw17, hsw17⟩ := below_ifs hb17; (try simp only [World.size_alloc, World.size_setCell, World.size_drew, size_drewN_] at hcw17 hfw17 hsw17)))
                have HZ : Hid (MapAt w17 w16.heap.size rb rt (.slice a16 n16 c16)) := Lib.hid ⟨by omega, ⟨by (first | (go_simp; done) | (go_simp; (simp [↓IntWalk.iteOmega]; done)) | (go_simp; intros; omega) | (go_simp; simp [↓IntWalk.iteOmega]; intros; omega)), by (first | (go_simp; done) | (go_simp; (simp [↓IntWalk.iteOmega]; done)) | (go_simp; intros; omega) | (go_simp; simp [↓IntWalk.iteOmega]; intros; omega)), by (first | (go_simp; done) | (go_simp; (simp [↓IntWalk.iteOmega]; done)) | (go_simp; intros; omega) | (go_simp; simp [↓IntWalk.iteOmega]; intros; omega))⟩, by (first | (go_simp; done) | (go_simp; (simp [↓IntWalk.iteOmega]; done)) | (go_simp; intros; omega) | (go_simp; simp [↓IntWalk.iteOmega]; intros; omega)), by (first | (go_simp; done) | (go_simp; (simp [↓IntWalk.iteOmega]; done)) | (go_simp; intros; omega) | (go_simp; simp [↓IntWalk.iteOmega]; intros; omega)), by (first | (go_simp; done) | (go_simp; (simp [↓IntWalk.iteOmega]; done)) | (go_simp; intros; omega) | (go_simp; simp [↓IntWalk.iteOmega]; intros; omega))⟩
                have HSp : Hid (SpAt w17 w13.heap.size b T) := Lib.hid ⟨by omega, by (first | (go_simp; done) | (go_simp; (simp [↓IntWalk.iteOmega]; done)) | (go_simp; intros; omega) | (go_simp; simp [↓IntWalk.iteOmega]; intros; omega)), by (first | (go_simp; done) | (go_simp; (simp [↓IntWalk.iteOmega]; done)) | (go_simp; intros; omega) | (go_simp; simp [↓IntWalk.iteOmega]; intros; omega))⟩
                have HB17 : Hid (Below wc.heap.size wc w17) := Lib.hid (by (repeat (first | with_reducible exact Below.refl _ _ | with_reducible assumption | with_reducible refine below_drewN ?_ _ | with_reducible refine Below.drew ?_ | with_reducible refine below_alloc ?_ _ | (with_reducible refine Below.setCell ?_ (by first | (simp; done) | omega | (simp; omega)) _) | with_reducible refine belows ?_ (by assumption))))
                have hl17 := HS17.out
                rw [hM] at hl17
                have HL17 := Lib.hid hl17
                have HA17 := Lib.hid (HSc.out.below HB17.out)
                have HM17 := Lib.hid (HS16.out.below (by (repeat (first | with_reducible exact Below.refl _ _ | with_reducible assumption | with_reducible refine below_drewN ?_ _ | with_reducible refine Below.drew ?_ | with_reducible refine below_alloc ?_ _ | (with_reducible refine Below.setCell ?_ (by first | (simp; done) | omega | (simp; omega)) _) | with_reducible refine belows ?_ (by assumption))) : Below w16.heap.size w16 w17))
                (try clear hl17)
                (try clear hcw13 hfw13 hsw13 hb13)
                (try clear hcw14 hfw14 hsw14 hb14)
                (try clear hcw15 hfw15 hsw15 hb15)
                (try clear hcw16 hfw16 hsw16 hb16)
                (try clear hcw17 hfw17 hsw17 hb17)
                (try clear m0 m1 m2 m3)
                (try clear HS14 HS15 HS16 HS17 HSc HLc HMc HI14 cadd)
                go_loopw [27] (fun x27 wy => ∃ j : Nat, x27 = .int .i64 (j : Int) ∧ j ≤ i ∧ Hid (Below w17.heap.size w17 wy)) (fun x27 _ => i - (intOf x27).toNat)
                case atStart => exact ⟨0, rfl, Nat.zero_le _, Lib.hid (Below.refl _ _)⟩
                case round =>
                  obtain ⟨j, rfl, hj, HBy⟩ := hrel
                  have hby := HBy.out
                  by_cases cj : j < i
                  · have d1 : decide ((j : Int) < (i : Int)) = true := decide_eq_true (by omega)
                    obtain ⟨y, hy⟩ := HLn.out j cj
                    obtain ⟨g, c4, hva, -, hg, -, -, hx⟩ := HRow.out _ _ _ (HA17.out.below hby) (by omega)
                    obtain ⟨rfl, rfl⟩ : a2 = some ⟨g, 0, none⟩ ∧ c2 = c4 := (by simpa using hva)
                    obtain ⟨⟨x0, x1, x2⟩, -⟩ := hx j y hy
                    obtain ⟨g2, c5, hva2, -, hg2, -, -, hx2⟩ := HRow.out _ _ _ (HL17.out.below hby) (by omega)
                    obtain ⟨rfl, rfl⟩ : a17 = some ⟨g2, 0, none⟩ ∧ c17 = c5 := (by simpa using hva2)
                    obtain ⟨⟨y0, y1, y2⟩, -⟩ := hx2 j y hy
                    clear hx hx2 hva hva2 hy
                    go_wp2_with fail
                    refine wp_region_below (by kernel_rfl) (by kernel_rfl) (fun hcr hfr => ?_)
                    (try simp only [World.size_alloc, World.size_setCell, World.size_drew, size_drewN_] at hcr hfr)
                    repeat (go_big_quiet_step (fail))
                    refine wpQuiet_nil ?_
                    intro w' hbl
                    clear hcr hfr
                    obtain ⟨hcw, hfw, hsw⟩ := below_ifs hbl; (try simp only [World.size_alloc, World.size_setCell, World.size_drew, size_drewN_] at hcw hfw hsw)
                    have hbq : Below wr.heap.size wr w' := by (repeat (first | with_reducible exact Below.refl _ _ | with_reducible assumption | with_reducible refine below_drewN ?_ _ | with_reducible refine Below.drew ?_ | with_reducible refine below_alloc ?_ _ | (with_reducible refine Below.setCell ?_ (by first | (simp; done) | omega | (simp; omega)) _) | with_reducible refine belows ?_ (by assumption)))
                    go_wp2_with fail
                    go_roundw
                    case rel => exact ⟨j + 1, by go_num, by omega, Lib.hid (hby.trans (hbq.mono hby.size))⟩
                    case measure => (simp [intOf]; omega)
                  · obtain rfl : j = i := by omega
                    obtain ⟨m0, ⟨m1, m2, m3⟩, -⟩ := HZ.out.below hby HZ.out.1
                    obtain ⟨s0, s1, s2⟩ := HSp.out.below hby HSp.out.1
                    go_wp2_with (first | (go_at_call 7; refine (cf _ _ _ (HM17.out.below (hby.trans (by (repeat (first | with_reducible exact Below.refl _ _ | with_reducible assumption | with_reducible refine below_drewN ?_ _ | with_reducible refine Below.drew ?_ | with_reducible refine below_alloc ?_ _ | (with_reducible refine Below.setCell ?_ (by first | (simp; done) | omega | (simp; omega)) _) | with_reducible refine belows ?_ (by assumption))))))).mono ?_; rintro e w18 ⟨rfl, hb18⟩; obtain ⟨hcw18, hfw18, hsw18⟩ := below_ifs hb18; (try simp only [World.size_alloc, World.size_setCell, World.size_drew, size_drewN_] at hcw18 hfw18 hsw18)) | (go_at_call 6; (with_reducible refine (one_any _).mono ?_); rintro e w' ⟨rfl, hbl⟩; obtain ⟨hcw, hfw, hsw⟩ := below_ifs hbl; (try simp only [World.size_alloc, World.size_setCell, World.size_drew, size_drewN_] at hcw hfw hsw)))
                    have hbz := HBT.out.trans ((HB17.out.trans (hby.mono HB17.out.size)).mono HBT.out.size)
                    go_ret
                    exact ⟨ret_bool (by first | rfl | (simp; done)), by (repeat (first | with_reducible exact Below.refl _ _ | with_reducible assumption | with_reducible refine below_drewN ?_ _ | with_reducible refine Below.drew ?_ | with_reducible refine below_alloc ?_ _ | (with_reducible refine Below.setCell ?_ (by first | (simp; done) | omega | (simp; omega)) _) | with_reducible refine belows ?_ (by assumption)))⟩

set_option maxRecDepth 100000 in
theorem lifted (os : Os) (started : os.Started) (H : Type) (enc : TypeId × Value → H) :
    ReturnsInHanded {} Try.checked os 4 .any (Rows.regionTellsSpec.pre6 enc Try.prog Try.f4 Rows.regionTellsRow.domain false) (Rows.regionTellsSpec.post enc Try.prog Try.f4 false true false false) := by
  refine law_lift (C := Try.checked) (tb := 4) started (by kernel_rfl) (by kernel_rfl) Try.func4 rfl rfl Try.underlying4 (by kernel_rfl) (by kernel_rfl)
    (fun ds h => by match ds, h with | [_, _, _], _ => rfl)
    (ChangeSpec.witness6 (enc := enc) (C := Try.checked) false ⟨#[], #[.slice none 0 0, .int .u64 0, .int .u64 0], []⟩ 8 (by kernel_rfl) (by kernel_rfl) (by kernel_rfl) (by kernel_rfl)) ?_
  intro W base args ds ps hval hA hlt hfz hsz
  rw [Try.params4] at hA hval hsz
  obtain ⟨v0, v1, v2, d0, d1, d2, p0, p1, p2, rfl, rfl, rfl, h0, h1, h2⟩ := trodAll_three hA
  obtain ⟨x1, rfl, rfl, rfl, w1⟩ := open_int Try.underlying22 (hval 1 _ v1 rfl rfl) h1
  obtain ⟨x2, rfl, rfl, rfl, w2⟩ := open_int Try.underlying22 (hval 2 _ v2 rfl rfl) h2
  obtain ⟨x1, rfl⟩ := exists_U x1 w1
  obtain ⟨x2, rfl⟩ := exists_U x2 w2
  rcases open_elems (d := 5) (ls := [.int .i64, .int .i64, .int .u64, .int .u64, .int .u64]) Try.underlying43 (by kernel_rfl) (by kernel_rfl) (by decide) (hval 0 _ v0 rfl rfl) h0 with ⟨a, cap, rfl, hcap⟩ | ⟨b, off, len, cap, rfl, hpos, hlc, hcm, hb, hel⟩
  · exact walk_good a 0 0 0 cap (fun _ => 0) (fun _ => 0) (fun _ => 0#64) (fun _ => 0#64) (fun _ => 0#64) x1 x2 (by omega) W (fun i hi => absurd hi (Nat.not_lt_zero _))
  · have hx : ∀ i : Nat, ∃ (p q : Int) (x y z : BitVec 64), i < len → W.cell? ⟨b, off + i * 5, none⟩ = some (.int .i64 p) ∧ W.cell? ⟨b, off + i * 5 + 1, none⟩ = some (.int .i64 q) ∧ W.cell? ⟨b, off + i * 5 + 2, none⟩ = some (.int .u64 (U x)) ∧ W.cell? ⟨b, off + i * 5 + 3, none⟩ = some (.int .u64 (U y)) ∧ W.cell? ⟨b, off + i * 5 + 4, none⟩ = some (.int .u64 (U z)) := fun i => by
      by_cases ci : i < len
      · obtain ⟨p, wp, q, wq, x, wx, y, wy, z, wz, hc⟩ := hel i ci
        obtain ⟨x, rfl⟩ := exists_U x wx
        obtain ⟨y, rfl⟩ := exists_U y wy
        obtain ⟨z, rfl⟩ := exists_U z wz
        exact ⟨p, q, x, y, z, fun _ => ⟨by have := hc 0 (by decide); simpa using this, by have := hc 1 (by decide); simpa [Nat.add_assoc] using this, by have := hc 2 (by decide); simpa [Nat.add_assoc] using this, by have := hc 3 (by decide); simpa [Nat.add_assoc] using this, by have := hc 4 (by decide); simpa [Nat.add_assoc] using this⟩⟩
      · exact ⟨0, 0, 0#64, 0#64, 0#64, fun h => absurd h ci⟩
    have hlen : len ≤ 9223372036854775807 := by unfold maxLen at hcm; omega
    exact walk_good _ b off len cap (fun i => (hx i).choose) (fun i => (hx i).choose_spec.choose) (fun i => (hx i).choose_spec.choose_spec.choose) (fun i => (hx i).choose_spec.choose_spec.choose_spec.choose) (fun i => (hx i).choose_spec.choose_spec.choose_spec.choose_spec.choose) x1 x2 hlen W (fun i hi => ⟨rfl, hb, (hx i).choose_spec.choose_spec.choose_spec.choose_spec.choose_spec hi⟩)

theorem over : Rows.regionTellsRow.holds Try.pinned (OpenSpec.ofChange Rows.regionTellsSpec) :=
  OpenClaim.holds_of_wide 4 Try.f4 rfl rfl rfl rfl rfl rfl rfl ⟨rfl, rfl, rfl, rfl, rfl⟩ rfl rfl rfl rfl rfl (by kernel_rfl) Try.func4 (by kernel_rfl)
    (of_decide_eq_true (by kernel_rfl)) (by unfold Func.isWrapper; first | (rw [if_pos (by decide +kernel)]; kernel_rfl) | (rw [if_neg (by decide +kernel)]; exact ⟨rfl, rfl⟩))
    (fun os started H enc _ => lifted os started H enc)

theorem proved : Rows.RegionTellsSaid := over
end Go.Proofs.Ytnillifinnmigaa.Tells
