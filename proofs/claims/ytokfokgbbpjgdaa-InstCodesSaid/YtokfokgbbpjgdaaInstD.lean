
/-
  Encode and Decode, each.
-/
import Derived.Test.YtokfokgbbpjgdaaInstE
import Derived.Deep.RegionHeld3
import Derived.Lib.Hide
namespace Go.Proofs.Ytokfokgbbpjgdaa
open Go Go.RowKit
set_option linter.unusedVariables false
set_option linter.unusedSimpArgs false

def encO : Option (BitVec 64) → Value
  | some y => .tuple #[.int .u32 (U y % 4294967296), .bool true]
  | none => .tuple #[.int .u32 0, .bool false]
def encV (i : Ins) : Value := encO (encF i)
theorem elem_0 (a b c : Bool) (n m l : Int) (w : World) : (Instr.index 57 (.agg #[.bool a, .int .i64 7, .int .i64 n, .bool b, .int .i64 15, .int .i64 m, .bool c, .int .i64 20, .int .i64 l]) (.int .i64 0)).run Try.prog w = .ok (.agg #[.bool a, .int .i64 7, .int .i64 n]) w := by kernel_rfl
theorem elem_1 (a b c : Bool) (n m l : Int) (w : World) : (Instr.index 57 (.agg #[.bool a, .int .i64 7, .int .i64 n, .bool b, .int .i64 15, .int .i64 m, .bool c, .int .i64 20, .int .i64 l]) (.int .i64 1)).run Try.prog w = .ok (.agg #[.bool b, .int .i64 15, .int .i64 m]) w := by kernel_rfl
theorem elem_2 (a b c : Bool) (n m l : Int) (w : World) : (Instr.index 57 (.agg #[.bool a, .int .i64 7, .int .i64 n, .bool b, .int .i64 15, .int .i64 m, .bool c, .int .i64 20, .int .i64 l]) (.int .i64 2)).run Try.prog w = .ok (.agg #[.bool c, .int .i64 20, .int .i64 l]) w := by kernel_rfl
attribute [local go_sem 3000] elem_0 elem_1 elem_2
theorem pcs_len (s : Nat) : (pcs s).length < 100 := by
  unfold pcs
  repeat (first | (split; · simp) | simp)
set_option maxHeartbeats 4000000 in
set_option maxRecDepth 100000 in
theorem enc_bad (i : Ins) (h : i.op < 1 ∨ 69 < i.op) (w : World) : Calls Try.prog 7 #[.agg #[.int .i64 i.op, .int .i64 (S i.rd), .int .i64 (S i.r1), .int .i64 (S i.r2), .int .i64 (S i.imm)]] w fun r w' => r = .returned (encV i) ∧ Below w.heap.size w w' := by
  have co := fun w => of_bad i.op h w
  have he : encV i = .tuple #[.int .u32 0, .bool false] := by unfold encV encF; rw [if_pos h]; rfl
  rw [he]
  clear h
  go_enter Try.func7, Try.ntmps7
  go_wp2_with (first | (go_at_call 15; (with_reducible refine (co _).mono ?_); rintro e w' ⟨rfl, hbl⟩; obtain ⟨hcw, hfw, hsw⟩ := below_ifs hbl; (try simp only [World.size_alloc, World.size_setCell, World.size_drew, size_drewN_] at hcw hfw hsw)))
  refine wp_region_below (by kernel_rfl) (by kernel_rfl) (fun hcr hfr => ?_)
  (try simp only [World.size_alloc, World.size_setCell, World.size_drew, size_drewN_] at hcr hfr)
  repeat (go_big_quiet_step ((fail)))
  refine wpQuiet_nil ?_
  intro w' hbl
  clear hcr hfr
  obtain ⟨hcw, hfw, hsw⟩ := below_ifs hbl; (try simp only [World.size_alloc, World.size_setCell, World.size_drew, size_drewN_] at hcw hfw hsw)
  go_wp2_with fail
  go_ret2
  exact ⟨rfl, by (repeat (first | with_reducible exact Below.refl _ _ | with_reducible assumption | with_reducible refine below_drewN ?_ _ | with_reducible refine Below.drew ?_ | with_reducible refine below_alloc ?_ _ | (with_reducible refine Below.setCell ?_ (by first | (simp; done) | omega | (simp; omega)) _) | with_reducible refine belows ?_ (by assumption)))⟩
/-- An instruction in a box, a row in a cell. -/
def EncAt (w : World) (p q : Nat) (i : Ins) (r : RowT) : Prop := p < w.heap.size ∧ q < w.heap.size ∧ w.cell? ⟨p, 1, none⟩ = some (.int .i64 (S i.rd)) ∧ w.cell? ⟨p, 2, none⟩ = some (.int .i64 (S i.r1)) ∧ w.cell? ⟨p, 3, none⟩ = some (.int .i64 (S i.r2)) ∧ w.cell? ⟨p, 4, none⟩ = some (.int .i64 (S i.imm)) ∧ w.cell? ⟨q, 0, none⟩ = some (.string r.nm) ∧ w.cell? ⟨q, 1, none⟩ = some (.int .u8 (r.sh : Int)) ∧ w.cell? ⟨q, 2, none⟩ = some (.int .u64 (U r.cd)) ∧ w.cell? ⟨q, 3, none⟩ = some (.int .u64 (U r.f)) ∧ w.cell? ⟨q, 4, none⟩ = some (.int .u64 (U r.ot))
theorem EncAt.below {w w' : World} {p q : Nat} {i : Ins} {r : RowT} (h : EncAt w p q i r) (hb : Below w.heap.size w w') : EncAt w' p q i r := by
  obtain ⟨h1, h2, a, b, c, d, e, f, g, x, y⟩ := h
  exact ⟨Nat.lt_of_lt_of_le h1 hb.size, Nat.lt_of_lt_of_le h2 hb.size, (hb.cell (p := ⟨p, _, none⟩) h1).trans a, (hb.cell (p := ⟨p, _, none⟩) h1).trans b, (hb.cell (p := ⟨p, _, none⟩) h1).trans c, (hb.cell (p := ⟨p, _, none⟩) h1).trans d, (hb.cell (p := ⟨q, _, none⟩) h2).trans e, (hb.cell (p := ⟨q, _, none⟩) h2).trans f, (hb.cell (p := ⟨q, _, none⟩) h2).trans g, (hb.cell (p := ⟨q, _, none⟩) h2).trans x, (hb.cell (p := ⟨q, _, none⟩) h2).trans y⟩
theorem EncAt.two {w : World} {p q : Nat} {i : Ins} {r : RowT} (h : EncAt w p q i r) : w.cell? ⟨q, 1, none⟩ = some (.int .u8 (r.sh : Int)) ∧ w.cell? ⟨p, 4, none⟩ = some (.int .i64 (S i.imm)) := ⟨h.2.2.2.2.2.2.2.1, h.2.2.2.2.2.1⟩
set_option maxHeartbeats 4000000 in
set_option maxRecDepth 100000 in
theorem enc_row (i : Ins) (r : RowT) (hr : r.sh ∈ shapes) (co : ∀ w, Calls Try.prog 15 #[.int .i64 i.op] w fun e w' => e = .returned (.tuple #[.agg #[.string r.nm, .int .u8 (r.sh : Int), .int .u64 (U r.cd), .int .u64 (U r.f), .int .u64 (U r.ot)], .bool true]) ∧ Below w.heap.size w w') (w : World) : Calls Try.prog 7 #[.agg #[.int .i64 i.op, .int .i64 (S i.rd), .int .i64 (S i.r1), .int .i64 (S i.r2), .int .i64 (S i.imm)]] w fun e w' => e = .returned (encO (encW r i)) ∧ Below w.heap.size w w' := by
  go_enter Try.func7, Try.ntmps7
  go_wp2_with (first | (go_at_call 15; (with_reducible refine (co _).mono ?_); rintro e w' ⟨rfl, hbl⟩; obtain ⟨hcw, hfw, hsw⟩ := below_ifs hbl; (try simp only [World.size_alloc, World.size_setCell, World.size_drew, size_drewN_] at hcw hfw hsw)))
  have HE : Hid (EncAt (w'.alloc (.cells #[.string r.nm, .int .u8 (r.sh : Int), .int .u64 (U r.cd), .int .u64 (U r.f), .int .u64 (U r.ot)] 43)) w.heap.size w'.heap.size i r ∧ Below w.heap.size w (w'.alloc (.cells #[.string r.nm, .int .u8 (r.sh : Int), .int .u64 (U r.cd), .int .u64 (U r.f), .int .u64 (U r.ot)] 43))) :=
    Lib.hid ⟨⟨by simp; omega, by simp, by (first | (go_simp; done) | (go_simp; (simp [↓IntWalk.iteOmega]; done)) | (go_simp; intros; omega) | (go_simp; simp [↓IntWalk.iteOmega]; intros; omega)), by (first | (go_simp; done) | (go_simp; (simp [↓IntWalk.iteOmega]; done)) | (go_simp; intros; omega) | (go_simp; simp [↓IntWalk.iteOmega]; intros; omega)), by (first | (go_simp; done) | (go_simp; (simp [↓IntWalk.iteOmega]; done)) | (go_simp; intros; omega) | (go_simp; simp [↓IntWalk.iteOmega]; intros; omega)), by (first | (go_simp; done) | (go_simp; (simp [↓IntWalk.iteOmega]; done)) | (go_simp; intros; omega) | (go_simp; simp [↓IntWalk.iteOmega]; intros; omega)), by (first | (go_simp; done) | (go_simp; (simp [↓IntWalk.iteOmega]; done)) | (go_simp; intros; omega) | (go_simp; simp [↓IntWalk.iteOmega]; intros; omega)), by (first | (go_simp; done) | (go_simp; (simp [↓IntWalk.iteOmega]; done)) | (go_simp; intros; omega) | (go_simp; simp [↓IntWalk.iteOmega]; intros; omega)), by (first | (go_simp; done) | (go_simp; (simp [↓IntWalk.iteOmega]; done)) | (go_simp; intros; omega) | (go_simp; simp [↓IntWalk.iteOmega]; intros; omega)), by (first | (go_simp; done) | (go_simp; (simp [↓IntWalk.iteOmega]; done)) | (go_simp; intros; omega) | (go_simp; simp [↓IntWalk.iteOmega]; intros; omega)), by (first | (go_simp; done) | (go_simp; (simp [↓IntWalk.iteOmega]; done)) | (go_simp; intros; omega) | (go_simp; simp [↓IntWalk.iteOmega]; intros; omega))⟩, by (repeat (first | with_reducible exact Below.refl _ _ | with_reducible assumption | with_reducible refine below_drewN ?_ _ | with_reducible refine Below.drew ?_ | with_reducible refine below_alloc ?_ _ | (with_reducible refine Below.setCell ?_ (by first | (simp; done) | omega | (simp; omega)) _) | with_reducible refine belows ?_ (by assumption)))⟩
  clear hcw hfw hsw hbl co
  generalize hp : w.heap.size = p at HE
  generalize hq : w'.heap.size = q at HE
  generalize w'.alloc (.cells #[.string r.nm, .int .u8 (r.sh : Int), .int .u64 (U r.cd), .int .u64 (U r.f), .int .u64 (U r.ot)] 43) = W at HE ⊢
  clear hq
  have cl := fun w => laid_any r.sh hr w
  have hfit : ((pcs r.sh).length == 0 || (fitsF i.imm (bitsOf r.sh) (sgOf r.sh) && (i.imm &&& maskF (zerosOf r.sh) == 0#64))) = fitsL (pcs r.sh) (bitsOf r.sh) (sgOf r.sh) (zerosOf r.sh) i.imm := by
    unfold fitsL
    cases pcs r.sh <;> simp
  have cf := fun a cap w => fits_lay a (pcs r.sh).length cap (bitsOf r.sh) (sgOf r.sh) (zerosOf r.sh) i.imm w
  rw [hfit] at cf
  have hl1 := HE.out.1.1
  have hl2 := HE.out.1.2.1
  obtain ⟨x1, x4⟩ := HE.out.1.two
  cases hF : fitsL (pcs r.sh) (bitsOf r.sh) (sgOf r.sh) (zerosOf r.sh) i.imm
  · have hen : encW r i = none := by unfold encW; rw [hF]; rfl
    have HN := Lib.hid hen
    rw [hF] at cf
    clear hF hfit hen
    go_region_held3 (fun w'' => w''.cell? ⟨q, 1, none⟩ = some (.int .u8 (r.sh : Int)) ∧ w''.cell? ⟨p, 4, none⟩ = some (.int .i64 (S i.imm)))
      (first | (go_keep; done) | exact k3 | exact k2)
      (first | (go_at_call 16; refine (cl _).mono ?_; rintro e w2 ⟨a, cap, rfl, hb2, hpc⟩; have h22 := And.intro (Nat.lt_of_lt_of_le hl1 hb2.size) (Nat.lt_of_lt_of_le hl2 hb2.size); have k2 := And.intro ((hb2.cell (p := ⟨q, 1, none⟩) hl2).trans x1) ((hb2.cell (p := ⟨p, 4, none⟩) hl1).trans x4)) | (go_at_call 17; refine (cf _ _ _).mono ?_; rintro e w3 ⟨rfl, hb3⟩; have k3 := And.intro ((hb3.cell (p := ⟨q, 1, none⟩) h22.2).trans k2.1) ((hb3.cell (p := ⟨p, 4, none⟩) h22.1).trans k2.2)))
    have hb23 : Below W.heap.size W w3 := ((Below.drew (Below.refl _ W)).trans hb2).trans (hb3.mono hb2.size)
    have hbl : Below p w w3 := HE.out.2.trans (hb23.mono (Nat.le_of_lt hl1))
    clear hb2 hb3 hb23
    go_wp2_with fail
    go_ret2
    exact ⟨by rw [HN.out]; rfl, by rw [hp]; exact hbl⟩
  · have hen : encW r i = ((regF (hasD r.sh) 7 i.rd (layF (pcs r.sh) i.imm (fixW r))).bind fun w => regF (has1 r.sh) 15 i.r1 w).bind fun w => regF (has2 r.sh) 20 i.r2 w := by unfold encW; rw [hF]; rfl
    have HN := Lib.hid hen
    rw [hF] at cf
    clear hF hfit hen
    go_region_held3 (fun w'' => w''.cell? ⟨q, 1, none⟩ = some (.int .u8 (r.sh : Int)) ∧ w''.cell? ⟨p, 4, none⟩ = some (.int .i64 (S i.imm)))
      (first | (go_keep; done) | exact k3 | exact k2)
      (first | (go_at_call 16; refine (cl _).mono ?_; rintro e w2 ⟨a, cap, rfl, hb2, hpc⟩; have h22 := And.intro (Nat.lt_of_lt_of_le hl1 hb2.size) (Nat.lt_of_lt_of_le hl2 hb2.size); have k2 := And.intro ((hb2.cell (p := ⟨q, 1, none⟩) hl2).trans x1) ((hb2.cell (p := ⟨p, 4, none⟩) hl1).trans x4)) | (go_at_call 17; refine (cf _ _ _).mono ?_; rintro e w3 ⟨rfl, hb3⟩; have k3 := And.intro ((hb3.cell (p := ⟨q, 1, none⟩) h22.2).trans k2.1) ((hb3.cell (p := ⟨p, 4, none⟩) h22.1).trans k2.2)))
    have hb23 : Below W.heap.size W w3 := ((Below.drew (Below.refl _ W)).trans hb2).trans (hb3.mono hb2.size)
    have hbl : Below p w w3 := HE.out.2.trans (hb23.mono (Nat.le_of_lt hl1))
    have hE3 := HE.out.1.below hb23
    clear hb2 hb3 hb23 k2 k3 h22 hpc x1 x4 hl1 hl2 HE cf
    have cx := fun w => fixed_any r hr w
    have ch := fun w => has_any r.sh hr w
    obtain ⟨hl1, hl2, y1, y2, y3, y4, z0, z1, z2, z3, z4⟩ := id hE3
    go_wp2_with fail
    refine (cx _).mono ?_
    rintro e w4 ⟨rfl, hb4⟩
    have hE4 := hE3.below hb4
    have hbl4 : Below p w w4 := hbl.trans (hb4.mono (Nat.le_of_lt hl1))
    clear hb4 hE3 hbl y1 y2 y3 y4 z0 z1 z2 z3 z4 hl1 hl2 cx
    obtain ⟨hl1, hl2, y1, y2, y3, x4, z0, x1, z2, z3, z4⟩ := id hE4
    go_wp2_with (first | (go_at_call 19; (with_reducible refine (ch _).mono ?_); rintro e w' ⟨rfl, rfl⟩))
    clear ch
    go_region_held3 (fun w'' => w''.cell? ⟨q, 1, none⟩ = some (.int .u8 (r.sh : Int)) ∧ w''.cell? ⟨p, 4, none⟩ = some (.int .i64 (S i.imm)))
      (first | (go_keep; done) | exact k3 | exact k2)
      (first | (go_at_call 16; refine (cl _).mono ?_; rintro e w2 ⟨a, cap, rfl, hb2, hpc⟩; have h22 := And.intro (Nat.lt_of_lt_of_le hl1 hb2.size) (Nat.lt_of_lt_of_le hl2 hb2.size); have k2 := And.intro ((hb2.cell (p := ⟨q, 1, none⟩) hl2).trans x1) ((hb2.cell (p := ⟨p, 4, none⟩) hl1).trans x4)) | (go_at_call 20; refine (lay_any _ (pcs r.sh) _ _ _ _ i.imm (fixW r) _ (pcs_len _) hpc).mono ?_; rintro e w6 ⟨rfl, hb3⟩; have k3 := And.intro ((hb3.cell (p := ⟨q, 1, none⟩) h22.2).trans k2.1) ((hb3.cell (p := ⟨p, 4, none⟩) h22.1).trans k2.2)))
    have hb23 : Below w4.heap.size w4 w6 := ((Below.drew (Below.refl _ w4)).trans hb2).trans (hb3.mono hb2.size)
    have hbl6 : Below p w w6 := hbl4.trans (hb23.mono (Nat.le_of_lt hl1))
    have hE6 := hE4.below hb23
    clear hb2 hb3 hb23 k2 k3 h22 hpc x1 x4 y1 y2 y3 z0 z2 z3 z4 hl1 hl2 cl hE4 hbl4
    obtain ⟨hl1, hl2, y1, y2, y3, y4, -⟩ := id hE6
    generalize layF (pcs r.sh) i.imm (fixW r) = Y at HN ⊢
    generalize hasD r.sh = d0 at HN ⊢
    generalize has1 r.sh = d1 at HN ⊢
    generalize has2 r.sh = d2 at HN ⊢
    have HB := Lib.hid hbl6
    clear hE6 hbl6 hr
    go_wp2_with fail
    go_loopw [6, 62] (fun v x wr => ∃ (j : Nat) (y : BitVec 64), x = .int .i64 (j : Int) ∧ v = .int .u64 (U y) ∧ Below p w wr ∧ p ≤ wr.heap.size ∧ j ≤ 3 ∧ Hid (encW r i = (match j with | 0 => ((regF d0 7 i.rd y).bind fun w => regF d1 15 i.r1 w).bind fun w => regF d2 20 i.r2 w | 1 => (regF d1 15 i.r1 y).bind fun w => regF d2 20 i.r2 w | 2 => regF d2 20 i.r2 y | _ => some y))) (fun _ x _ => 3 - (intOf x).toNat)
    case atStart => exact ⟨0, Y, rfl, rfl, HB.out, by omega, by omega, HN⟩
    case round =>
      obtain ⟨j, y, rfl, rfl, hbw, hpw, hj, HJ⟩ := hrel
      clear HB HN
      obtain rfl | rfl | rfl | rfl : j = 0 ∨ j = 1 ∨ j = 2 ∨ j = 3 := by omega
      · have HJ' := HJ.out
        clear HJ
        try dsimp only at HJ'
        cases d0
        · have HK := Lib.hid HJ'
          clear HJ'
          go_wp2_with fail
          go_roundw
          case rel => exact ⟨1, y, rfl, rfl, (by first | exact hbw.alloc hpw _ | exact below_drewN (hbw.alloc hpw _) _ | exact hbw), by simp; omega, by omega, HK⟩
          case measure => (simp [intOf])
        · have cf := fun w => fits_any i.rd 5 false w
          cases hF : fitsF i.rd 5 false
          · rw [hF] at cf
            have HK : Hid (encW r i = none) := Lib.hid (by rw [HJ']; unfold regF; rw [if_pos rfl, hF]; rfl)
            clear HJ' hF
            go_wp2_with (first | (go_at_call 21; (with_reducible refine (cf _).mono ?_); rintro e w' ⟨rfl, rfl⟩))
            go_ret2
            exact ⟨by rw [HK.out]; rfl, by rw [hp]; exact (by first | exact hbw.alloc hpw _ | exact below_drewN (hbw.alloc hpw _) _ | exact hbw)⟩
          · rw [hF] at cf
            have HS : Hid (regF true 7 i.rd y = some (putF y 7 5 i.rd)) := Lib.hid (by unfold regF; rw [if_pos rfl, hF]; rfl)
            rw [HS.out] at HJ'
            have HK := Lib.hid HJ'
            clear HJ' hF
            go_wp2_with (first | (go_at_call 21; (with_reducible refine (cf _).mono ?_); rintro e w' ⟨rfl, rfl⟩) | (go_at_call 22; (with_reducible refine (put_any _ _ _ _ _).mono ?_); rintro e w' ⟨rfl, kd, rfl⟩))
            go_roundw
            case rel => exact ⟨1, _, rfl, rfl, (by first | exact hbw.alloc hpw _ | exact below_drewN (hbw.alloc hpw _) _ | exact hbw), by simp; omega, by omega, HK⟩
            case measure => (simp [intOf])
      · have HJ' := HJ.out
        clear HJ
        try dsimp only at HJ'
        cases d1
        · have HK := Lib.hid HJ'
          clear HJ'
          go_wp2_with fail
          go_roundw
          case rel => exact ⟨2, y, rfl, rfl, (by first | exact hbw.alloc hpw _ | exact below_drewN (hbw.alloc hpw _) _ | exact hbw), by simp; omega, by omega, HK⟩
          case measure => (simp [intOf])
        · have cf := fun w => fits_any i.r1 5 false w
          cases hF : fitsF i.r1 5 false
          · rw [hF] at cf
            have HK : Hid (encW r i = none) := Lib.hid (by rw [HJ']; unfold regF; rw [if_pos rfl, hF]; rfl)
            clear HJ' hF
            go_wp2_with (first | (go_at_call 21; (with_reducible refine (cf _).mono ?_); rintro e w' ⟨rfl, rfl⟩))
            go_ret2
            exact ⟨by rw [HK.out]; rfl, by rw [hp]; exact (by first | exact hbw.alloc hpw _ | exact below_drewN (hbw.alloc hpw _) _ | exact hbw)⟩
          · rw [hF] at cf
            have HS : Hid (regF true 15 i.r1 y = some (putF y 15 5 i.r1)) := Lib.hid (by unfold regF; rw [if_pos rfl, hF]; rfl)
            rw [HS.out] at HJ'
            have HK := Lib.hid HJ'
            clear HJ' hF
            go_wp2_with (first | (go_at_call 21; (with_reducible refine (cf _).mono ?_); rintro e w' ⟨rfl, rfl⟩) | (go_at_call 22; (with_reducible refine (put_any _ _ _ _ _).mono ?_); rintro e w' ⟨rfl, kd, rfl⟩))
            go_roundw
            case rel => exact ⟨2, _, rfl, rfl, (by first | exact hbw.alloc hpw _ | exact below_drewN (hbw.alloc hpw _) _ | exact hbw), by simp; omega, by omega, HK⟩
            case measure => (simp [intOf])
      · have HJ' := HJ.out
        clear HJ
        try dsimp only at HJ'
        cases d2
        · have HK := Lib.hid HJ'
          clear HJ'
          go_wp2_with fail
          go_roundw
          case rel => exact ⟨3, y, rfl, rfl, (by first | exact hbw.alloc hpw _ | exact below_drewN (hbw.alloc hpw _) _ | exact hbw), by simp; omega, by omega, HK⟩
          case measure => (simp [intOf])
        · have cf := fun w => fits_any i.r2 5 false w
          cases hF : fitsF i.r2 5 false
          · rw [hF] at cf
            have HK : Hid (encW r i = none) := Lib.hid (by rw [HJ']; unfold regF; rw [if_pos rfl, hF]; rfl)
            clear HJ' hF
            go_wp2_with (first | (go_at_call 21; (with_reducible refine (cf _).mono ?_); rintro e w' ⟨rfl, rfl⟩))
            go_ret2
            exact ⟨by rw [HK.out]; rfl, by rw [hp]; exact (by first | exact hbw.alloc hpw _ | exact below_drewN (hbw.alloc hpw _) _ | exact hbw)⟩
          · rw [hF] at cf
            have HS : Hid (regF true 20 i.r2 y = some (putF y 20 5 i.r2)) := Lib.hid (by unfold regF; rw [if_pos rfl, hF]; rfl)
            rw [HS.out] at HJ'
            have HK := Lib.hid HJ'
            clear HJ' hF
            go_wp2_with (first | (go_at_call 21; (with_reducible refine (cf _).mono ?_); rintro e w' ⟨rfl, rfl⟩) | (go_at_call 22; (with_reducible refine (put_any _ _ _ _ _).mono ?_); rintro e w' ⟨rfl, kd, rfl⟩))
            go_roundw
            case rel => exact ⟨3, _, rfl, rfl, (by first | exact hbw.alloc hpw _ | exact below_drewN (hbw.alloc hpw _) _ | exact hbw), by simp; omega, by omega, HK⟩
            case measure => (simp [intOf])
      · have HJ' := HJ.out
        clear HJ
        try dsimp only at HJ'
        have HK := Lib.hid HJ'
        clear HJ'
        go_wp2_with fail
        go_ret2
        exact ⟨by rw [HK.out]; rfl, (by first | exact hbw | (rw [hp]; exact hbw))⟩
set_option maxHeartbeats 4000000 in
set_option maxRecDepth 100000 in
theorem enc_any (i : Ins) (w : World) : Calls Try.prog 7 #[.agg #[.int .i64 i.op, .int .i64 (S i.rd), .int .i64 (S i.r1), .int .i64 (S i.r2), .int .i64 (S i.imm)]] w fun e w' => e = .returned (encV i) ∧ Below w.heap.size w w' := by
  by_cases h : i.op < 1 ∨ 69 < i.op
  · exact enc_bad i h w
  · obtain ⟨k, hk⟩ : ∃ k : Nat, i.op = (k : Int) + 1 := ⟨(i.op - 1).toNat, by omega⟩
    have hl : k < 69 := by omega
    have he : encV i = encO (encW (rowAt k) i) := by
      unfold encV encF
      rw [if_neg h, show (i.op - 1).toNat = k by omega]
    rw [he]
    exact enc_row i (rowAt k) (rowAt_sh k hl) (fun w => by rw [hk]; exact of_good k hl w) w
end Go.Proofs.Ytokfokgbbpjgdaa
