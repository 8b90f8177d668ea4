
/-
  Decode; a name, a shape, a name found: each function.
-/
import Derived.Test.YtokfokgbbpjgdaaInstD
namespace Go.Proofs.Ytokfokgbbpjgdaa
open Go Go.RowKit
set_option linter.unusedVariables false
set_option linter.unusedSimpArgs false

def decO : Option Ins → Value
  | some i => .tuple #[.agg (insC i), .bool true]
  | none => .tuple #[.agg #[.int .i64 0, .int .i64 0, .int .i64 0, .int .i64 0, .int .i64 0], .bool false]
def decV (y : BitVec 64) : Value := decO (decF y)
theorem hitFrom_succ (y : BitVec 64) (k : Nat) (h : k < 69) : hitFrom y (69 - k) k = if hit y k = true then some k else hitFrom y (69 - (k + 1)) (k + 1) := by
  rw [show 69 - k = (69 - (k + 1)) + 1 by omega]
  rfl
theorem read_sh (a : Option Addr) (s : Nat) (cap : Nat) (v : BitVec 64) (w : World) (hp : PcAt w a (pcs s)) : Calls Try.prog 28 #[.agg #[.slice a (pcs s).length cap, .int .i64 (bitsOf s), .bool (sgOf s), .int .i64 (zerosOf s)], .int .u64 (U v)] w fun r w' => r = .returned (.int .i64 (S (readI s v))) ∧ Below w.heap.size w w' := read_any a (pcs s) cap _ _ _ v w (pcs_len s) hp
theorem below_five (p : Nat) {a w : World} (h : Below p a w) (v0 v1 v2 v3 v4 : Value) : Below p a (((((w.setCell ⟨p, 0, none⟩ v0).setCell ⟨p, 1, none⟩ v1).setCell ⟨p, 2, none⟩ v2).setCell ⟨p, 3, none⟩ v3).setCell ⟨p, 4, none⟩ v4) :=
  ((((h.setCell (Nat.le_refl p) v0).setCell (Nat.le_refl p) v1).setCell (Nat.le_refl p) v2).setCell (Nat.le_refl p) v3).setCell (Nat.le_refl p) v4
def ResAt (w : World) (p : Nat) : Prop := p < w.heap.size ∧ (w.cell? ⟨p, 0, none⟩ = some (.int .i64 0) ∧ w.cell? ⟨p, 1, none⟩ = some (.int .i64 0) ∧ w.cell? ⟨p, 2, none⟩ = some (.int .i64 0) ∧ w.cell? ⟨p, 3, none⟩ = some (.int .i64 0) ∧ w.cell? ⟨p, 4, none⟩ = some (.int .i64 0)) ∧ (w.frozen? ⟨p, 0, none⟩ = false ∧ w.frozen? ⟨p, 1, none⟩ = false ∧ w.frozen? ⟨p, 2, none⟩ = false ∧ w.frozen? ⟨p, 3, none⟩ = false ∧ w.frozen? ⟨p, 4, none⟩ = false)
theorem ResAt.below {w w' : World} {p : Nat} (h : ResAt w p) (hb : Below w.heap.size w w') : ResAt w' p := by
  obtain ⟨h1, ⟨a, b, c, d, e⟩, f, g, i, j, k⟩ := h
  exact ⟨Nat.lt_of_lt_of_le h1 hb.size, ⟨(hb.cell (p := ⟨p, _, none⟩) h1).trans a, (hb.cell (p := ⟨p, _, none⟩) h1).trans b, (hb.cell (p := ⟨p, _, none⟩) h1).trans c, (hb.cell (p := ⟨p, _, none⟩) h1).trans d, (hb.cell (p := ⟨p, _, none⟩) h1).trans e⟩, (hb.frozen (p := ⟨p, _, none⟩) h1).trans f, (hb.frozen (p := ⟨p, _, none⟩) h1).trans g, (hb.frozen (p := ⟨p, _, none⟩) h1).trans i, (hb.frozen (p := ⟨p, _, none⟩) h1).trans j, (hb.frozen (p := ⟨p, _, none⟩) h1).trans k⟩
attribute [local irreducible] rowsV
attribute [local go_sem 3000] rows_at
set_option maxHeartbeats 4000000 in
set_option maxRecDepth 100000 in
theorem dec_any (y : BitVec 64) (w : World) : Calls Try.prog 9 #[.int .u32 (U y)] w fun e w' => e = .returned (decV y) ∧ Below w.heap.size w w' := by
  go_enter Try.func9, Try.ntmps9
  go_wp2_with (first | (go_at_call 27; refine (rows_any _).mono ?_; rintro e wR ⟨rfl, hbR⟩))
  have HW : Hid (ResAt wR w.heap.size ∧ Below w.heap.size w wR) := by
    refine Lib.hid ⟨ResAt.below (w := w.alloc (.cells #[.int .i64 0, .int .i64 0, .int .i64 0, .int .i64 0, .int .i64 0] 23)) ⟨by simp, ⟨by (first | (go_simp; done) | (go_simp; (simp [↓IntWalk.iteOmega]; done)) | (go_simp; intros; omega) | (go_simp; simp [↓IntWalk.iteOmega]; intros; omega)), by (first | (go_simp; done) | (go_simp; (simp [↓IntWalk.iteOmega]; done)) | (go_simp; intros; omega) | (go_simp; simp [↓IntWalk.iteOmega]; intros; omega)), by (first | (go_simp; done) | (go_simp; (simp [↓IntWalk.iteOmega]; done)) | (go_simp; intros; omega) | (go_simp; simp [↓IntWalk.iteOmega]; intros; omega)), by (first | (go_simp; done) | (go_simp; (simp [↓IntWalk.iteOmega]; done)) | (go_simp; intros; omega) | (go_simp; simp [↓IntWalk.iteOmega]; intros; omega)), by (first | (go_simp; done) | (go_simp; (simp [↓IntWalk.iteOmega]; done)) | (go_simp; intros; omega) | (go_simp; simp [↓IntWalk.iteOmega]; intros; omega))⟩, by (first | (go_simp; done) | (go_simp; (simp [↓IntWalk.iteOmega]; done)) | (go_simp; intros; omega) | (go_simp; simp [↓IntWalk.iteOmega]; intros; omega)), by (first | (go_simp; done) | (go_simp; (simp [↓IntWalk.iteOmega]; done)) | (go_simp; intros; omega) | (go_simp; simp [↓IntWalk.iteOmega]; intros; omega)), by (first | (go_simp; done) | (go_simp; (simp [↓IntWalk.iteOmega]; done)) | (go_simp; intros; omega) | (go_simp; simp [↓IntWalk.iteOmega]; intros; omega)), by (first | (go_simp; done) | (go_simp; (simp [↓IntWalk.iteOmega]; done)) | (go_simp; intros; omega) | (go_simp; simp [↓IntWalk.iteOmega]; intros; omega)), by (first | (go_simp; done) | (go_simp; (simp [↓IntWalk.iteOmega]; done)) | (go_simp; intros; omega) | (go_simp; simp [↓IntWalk.iteOmega]; intros; omega))⟩ (by simpa using hbR), ?_⟩
    exact ((Below.refl _ w).alloc (Nat.le_refl _) _).trans (hbR.mono (by simp))
  clear hbR
  generalize hp : w.heap.size = p at HW ⊢
  go_loopw [16] (fun x wr => ∃ k : Nat, x = .int .i64 (k : Int) ∧ k ≤ 69 ∧ Hid (ResAt wr p ∧ Below p w wr) ∧ Hid (hitFrom y 69 0 = hitFrom y (69 - k) k)) (fun x _ => 69 - (intOf x).toNat)
  case atStart => exact ⟨0, rfl, by omega, HW, Lib.hid rfl⟩
  case round =>
    obtain ⟨k, rfl, hk, HA, HK⟩ := hrel
    clear HW
    by_cases c : k < 69
    · have hi := fun w => rows_at k c w
      have hs := hitFrom_succ y k c
      have d1 : decide ((k : Int) < 69) = true := decide_eq_true (by omega)
      have cx := fun w => fixed_any (rowAt k) (rowAt_sh k c) w
      have cl := fun w => laid_any _ (rowAt_sh k c) w
      have ch := fun w => has_any _ (rowAt_sh k c) w
      have h1 := HA.out.1.1
      have h2 := HA.out.2
      cases hh : hit y k
      · rw [hh, if_neg (by decide), ← HK.out] at hs
        have HS := Lib.hid hs
        have d2 : (y &&& fixM (rowAt k) != fixW (rowAt k)) = true := by rw [bne, show (y &&& fixM (rowAt k) == fixW (rowAt k)) = false from hh]; rfl
        clear hs hh
        generalize fixM (rowAt k) = M at d2 cx
        generalize fixW (rowAt k) = F at d2 cx
        go_wp2_with (first | (go_at_call 18; (with_reducible refine (cx _).mono ?_); rintro e w' ⟨rfl, hbl⟩; obtain ⟨hcw, hfw, hsw⟩ := below_ifs hbl; (try simp only [World.size_alloc, World.size_setCell, World.size_drew, size_drewN_] at hcw hfw hsw)))
        have hr2 := ResAt.below HA.out.1 (w' := w') (by (repeat (first | with_reducible exact Below.refl _ _ | with_reducible assumption | with_reducible refine below_drewN ?_ _ | with_reducible refine Below.drew ?_ | with_reducible refine below_alloc ?_ _ | (with_reducible refine Below.setCell ?_ (by first | (simp; done) | omega | (simp; omega)) _) | with_reducible refine belows ?_ (by assumption))))
        go_roundw
        case rel => exact ⟨k + 1, by go_num, by omega, Lib.hid ⟨hr2, h2.trans (Below.mono (by (repeat (first | with_reducible exact Below.refl _ _ | with_reducible assumption | with_reducible refine below_drewN ?_ _ | with_reducible refine Below.drew ?_ | with_reducible refine below_alloc ?_ _ | (with_reducible refine Below.setCell ?_ (by first | (simp; done) | omega | (simp; omega)) _) | with_reducible refine belows ?_ (by assumption)))) (Nat.le_of_lt h1))⟩, HS⟩
        case measure => (simp [intOf]; omega)
      · rw [hh, if_pos rfl, ← HK.out] at hs
        have hn : decV y = decO (some ⟨(k : Int) + 1, if hasD (rowAt k).sh = true then getF y 7 5 else 0#64, if has1 (rowAt k).sh = true then getF y 15 5 else 0#64, if has2 (rowAt k).sh = true then getF y 20 5 else 0#64, readI (rowAt k).sh y⟩) := by unfold decV decF; rw [hs]; rfl
        have d2 : (y &&& fixM (rowAt k) != fixW (rowAt k)) = false := by rw [bne, show (y &&& fixM (rowAt k) == fixW (rowAt k)) = true from hh]; rfl
        clear hs hh
        generalize fixM (rowAt k) = M at d2 cx
        generalize fixW (rowAt k) = F at d2 cx
        generalize hasD (rowAt k).sh = e0 at hn ch
        generalize has1 (rowAt k).sh = e1 at hn ch
        generalize has2 (rowAt k).sh = e2 at hn ch
        have HN := Lib.hid hn
        clear hn
        obtain ⟨-, ⟨x0, x1, x2, x3, x4⟩, y0, y1, y2, y3, y4⟩ := HA.out.1
        cases e0 <;> cases e1 <;> cases e2
        · go_wp2_with (first | (go_at_call 18; (with_reducible refine (cx _).mono ?_); rintro e w' ⟨rfl, hbl⟩; obtain ⟨hcw, hfw, hsw⟩ := below_ifs hbl; (try simp only [World.size_alloc, World.size_setCell, World.size_drew, size_drewN_] at hcw hfw hsw)) | (go_at_call 16; refine (cl _).mono ?_; rintro e w2 ⟨a, cap, rfl, hbl2, hpc⟩; obtain ⟨hcw2, hfw2, hsw2⟩ := below_ifs hbl2) | (go_at_call 28; refine (read_sh a _ cap y _ hpc).mono ?_; rintro e w3 ⟨rfl, hbl3⟩; obtain ⟨hcw3, hfw3, hsw3⟩ := below_ifs hbl3) | (go_at_call 19; (with_reducible refine (ch _).mono ?_); rintro e w' ⟨rfl, rfl⟩) | (go_at_call 29; (with_reducible refine (get_any _ _ _ _).mono ?_); rintro e w' ⟨rfl, kd, rfl⟩))
          refine bodyPost_ret (results_ct [.int .i64 ((k : Int) + 1), .int .i64 (0), .int .i64 (0), .int .i64 (0), .int .i64 (S (readI (rowAt k).sh y))] (.bool true) Try.results9 rfl rfl ?_ Try.underlying23 rfl (by kernel_rfl)) rfl ?_
          · (first | (go_simp; done) | (go_simp; (simp [↓IntWalk.iteOmega]; done)) | (go_simp; intros; omega) | (go_simp; simp [↓IntWalk.iteOmega]; intros; omega))
          · exact ⟨by rw [HN.out]; rfl, by rw [hp]; refine below_five p ?_ _ _ _ _ _; exact h2.trans (Below.mono (by (repeat (first | with_reducible exact Below.refl _ _ | with_reducible assumption | with_reducible refine below_drewN ?_ _ | with_reducible refine Below.drew ?_ | with_reducible refine below_alloc ?_ _ | (with_reducible refine Below.setCell ?_ (by first | (simp; done) | omega | (simp; omega)) _) | with_reducible refine belows ?_ (by assumption)))) (Nat.le_of_lt h1))⟩
        · go_wp2_with (first | (go_at_call 18; (with_reducible refine (cx _).mono ?_); rintro e w' ⟨rfl, hbl⟩; obtain ⟨hcw, hfw, hsw⟩ := below_ifs hbl; (try simp only [World.size_alloc, World.size_setCell, World.size_drew, size_drewN_] at hcw hfw hsw)) | (go_at_call 16; refine (cl _).mono ?_; rintro e w2 ⟨a, cap, rfl, hbl2, hpc⟩; obtain ⟨hcw2, hfw2, hsw2⟩ := below_ifs hbl2) | (go_at_call 28; refine (read_sh a _ cap y _ hpc).mono ?_; rintro e w3 ⟨rfl, hbl3⟩; obtain ⟨hcw3, hfw3, hsw3⟩ := below_ifs hbl3) | (go_at_call 19; (with_reducible refine (ch _).mono ?_); rintro e w' ⟨rfl, rfl⟩) | (go_at_call 29; (with_reducible refine (get_any _ _ _ _).mono ?_); rintro e w' ⟨rfl, kd, rfl⟩))
          refine bodyPost_ret (results_ct [.int .i64 ((k : Int) + 1), .int .i64 (0), .int .i64 (0), .int .i64 (S (getF y 20 5)), .int .i64 (S (readI (rowAt k).sh y))] (.bool true) Try.results9 rfl rfl ?_ Try.underlying23 rfl (by kernel_rfl)) rfl ?_
          · (first | (go_simp; done) | (go_simp; (simp [↓IntWalk.iteOmega]; done)) | (go_simp; intros; omega) | (go_simp; simp [↓IntWalk.iteOmega]; intros; omega))
          · exact ⟨by rw [HN.out]; rfl, by rw [hp]; refine below_five p ?_ _ _ _ _ _; exact h2.trans (Below.mono (by (repeat (first | with_reducible exact Below.refl _ _ | with_reducible assumption | with_reducible refine below_drewN ?_ _ | with_reducible refine Below.drew ?_ | with_reducible refine below_alloc ?_ _ | (with_reducible refine Below.setCell ?_ (by first | (simp; done) | omega | (simp; omega)) _) | with_reducible refine belows ?_ (by assumption)))) (Nat.le_of_lt h1))⟩
        · go_wp2_with (first | (go_at_call 18; (with_reducible refine (cx _).mono ?_); rintro e w' ⟨rfl, hbl⟩; obtain ⟨hcw, hfw, hsw⟩ := below_ifs hbl; (try simp only [World.size_alloc, World.size_setCell, World.size_drew, size_drewN_] at hcw hfw hsw)) | (go_at_call 16; refine (cl _).mono ?_; rintro e w2 ⟨a, cap, rfl, hbl2, hpc⟩; obtain ⟨hcw2, hfw2, hsw2⟩ := below_ifs hbl2) | (go_at_call 28; refine (read_sh a _ cap y _ hpc).mono ?_; rintro e w3 ⟨rfl, hbl3⟩; obtain ⟨hcw3, hfw3, hsw3⟩ := below_ifs hbl3) | (go_at_call 19; (with_reducible refine (ch _).mono ?_); rintro e w' ⟨rfl, rfl⟩) | (go_at_call 29; (with_reducible refine (get_any _ _ _ _).mono ?_); rintro e w' ⟨rfl, kd, rfl⟩))
          refine bodyPost_ret (results_ct [.int .i64 ((k : Int) + 1), .int .i64 (0), .int .i64 (S (getF y 15 5)), .int .i64 (0), .int .i64 (S (readI (rowAt k).sh y))] (.bool true) Try.results9 rfl rfl ?_ Try.underlying23 rfl (by kernel_rfl)) rfl ?_
          · (first | (go_simp; done) | (go_simp; (simp [↓IntWalk.iteOmega]; done)) | (go_simp; intros; omega) | (go_simp; simp [↓IntWalk.iteOmega]; intros; omega))
          · exact ⟨by rw [HN.out]; rfl, by rw [hp]; refine below_five p ?_ _ _ _ _ _; exact h2.trans (Below.mono (by (repeat (first | with_reducible exact Below.refl _ _ | with_reducible assumption | with_reducible refine below_drewN ?_ _ | with_reducible refine Below.drew ?_ | with_reducible refine below_alloc ?_ _ | (with_reducible refine Below.setCell ?_ (by first | (simp; done) | omega | (simp; omega)) _) | with_reducible refine belows ?_ (by assumption)))) (Nat.le_of_lt h1))⟩
        · go_wp2_with (first | (go_at_call 18; (with_reducible refine (cx _).mono ?_); rintro e w' ⟨rfl, hbl⟩; obtain ⟨hcw, hfw, hsw⟩ := below_ifs hbl; (try simp only [World.size_alloc, World.size_setCell, World.size_drew, size_drewN_] at hcw hfw hsw)) | (go_at_call 16; refine (cl _).mono ?_; rintro e w2 ⟨a, cap, rfl, hbl2, hpc⟩; obtain ⟨hcw2, hfw2, hsw2⟩ := below_ifs hbl2) | (go_at_call 28; refine (read_sh a _ cap y _ hpc).mono ?_; rintro e w3 ⟨rfl, hbl3⟩; obtain ⟨hcw3, hfw3, hsw3⟩ := below_ifs hbl3) | (go_at_call 19; (with_reducible refine (ch _).mono ?_); rintro e w' ⟨rfl, rfl⟩) | (go_at_call 29; (with_reducible refine (get_any _ _ _ _).mono ?_); rintro e w' ⟨rfl, kd, rfl⟩))
          refine bodyPost_ret (results_ct [.int .i64 ((k : Int) + 1), .int .i64 (0), .int .i64 (S (getF y 15 5)), .int .i64 (S (getF y 20 5)), .int .i64 (S (readI (rowAt k).sh y))] (.bool true) Try.results9 rfl rfl ?_ Try.underlying23 rfl (by kernel_rfl)) rfl ?_
          · (first | (go_simp; done) | (go_simp; (simp [↓IntWalk.iteOmega]; done)) | (go_simp; intros; omega) | (go_simp; simp [↓IntWalk.iteOmega]; intros; omega))
          · exact ⟨by rw [HN.out]; rfl, by rw [hp]; refine below_five p ?_ _ _ _ _ _; exact h2.trans (Below.mono (by (repeat (first | with_reducible exact Below.refl _ _ | with_reducible assumption | with_reducible refine below_drewN ?_ _ | with_reducible refine Below.drew ?_ | with_reducible refine below_alloc ?_ _ | (with_reducible refine Below.setCell ?_ (by first | (simp; done) | omega | (simp; omega)) _) | with_reducible refine belows ?_ (by assumption)))) (Nat.le_of_lt h1))⟩
        · go_wp2_with (first | (go_at_call 18; (with_reducible refine (cx _).mono ?_); rintro e w' ⟨rfl, hbl⟩; obtain ⟨hcw, hfw, hsw⟩ := below_ifs hbl; (try simp only [World.size_alloc, World.size_setCell, World.size_drew, size_drewN_] at hcw hfw hsw)) | (go_at_call 16; refine (cl _).mono ?_; rintro e w2 ⟨a, cap, rfl, hbl2, hpc⟩; obtain ⟨hcw2, hfw2, hsw2⟩ := below_ifs hbl2) | (go_at_call 28; refine (read_sh a _ cap y _ hpc).mono ?_; rintro e w3 ⟨rfl, hbl3⟩; obtain ⟨hcw3, hfw3, hsw3⟩ := below_ifs hbl3) | (go_at_call 19; (with_reducible refine (ch _).mono ?_); rintro e w' ⟨rfl, rfl⟩) | (go_at_call 29; (with_reducible refine (get_any _ _ _ _).mono ?_); rintro e w' ⟨rfl, kd, rfl⟩))
          refine bodyPost_ret (results_ct [.int .i64 ((k : Int) + 1), .int .i64 (S (getF y 7 5)), .int .i64 (0), .int .i64 (0), .int .i64 (S (readI (rowAt k).sh y))] (.bool true) Try.results9 rfl rfl ?_ Try.underlying23 rfl (by kernel_rfl)) rfl ?_
          · (first | (go_simp; done) | (go_simp; (simp [↓IntWalk.iteOmega]; done)) | (go_simp; intros; omega) | (go_simp; simp [↓IntWalk.iteOmega]; intros; omega))
          · exact ⟨by rw [HN.out]; rfl, by rw [hp]; refine below_five p ?_ _ _ _ _ _; exact h2.trans (Below.mono (by (repeat (first | with_reducible exact Below.refl _ _ | with_reducible assumption | with_reducible refine below_drewN ?_ _ | with_reducible refine Below.drew ?_ | with_reducible refine below_alloc ?_ _ | (with_reducible refine Below.setCell ?_ (by first | (simp; done) | omega | (simp; omega)) _) | with_reducible refine belows ?_ (by assumption)))) (Nat.le_of_lt h1))⟩
        · go_wp2_with (first | (go_at_call 18; (with_reducible refine (cx _).mono ?_); rintro e w' ⟨rfl, hbl⟩; obtain ⟨hcw, hfw, hsw⟩ := below_ifs hbl; (try simp only [World.size_alloc, World.size_setCell, World.size_drew, size_drewN_] at hcw hfw hsw)) | (go_at_call 16; refine (cl _).mono ?_; rintro e w2 ⟨a, cap, rfl, hbl2, hpc⟩; obtain ⟨hcw2, hfw2, hsw2⟩ := below_ifs hbl2) | (go_at_call 28; refine (read_sh a _ cap y _ hpc).mono ?_; rintro e w3 ⟨rfl, hbl3⟩; obtain ⟨hcw3, hfw3, hsw3⟩ := below_ifs hbl3) | (go_at_call 19; (with_reducible refine (ch _).mono ?_); rintro e w' ⟨rfl, rfl⟩) | (go_at_call 29; (with_reducible refine (get_any _ _ _ _).mono ?_); rintro e w' ⟨rfl, kd, rfl⟩))
          refine bodyPost_ret (results_ct [.int .i64 ((k : Int) + 1), .int .i64 (S (getF y 7 5)), .int .i64 (0), .int .i64 (S (getF y 20 5)), .int .i64 (S (readI (rowAt k).sh y))] (.bool true) Try.results9 rfl rfl ?_ Try.underlying23 rfl (by kernel_rfl)) rfl ?_
          · (first | (go_simp; done) | (go_simp; (simp [↓IntWalk.iteOmega]; done)) | (go_simp; intros; omega) | (go_simp; simp [↓IntWalk.iteOmega]; intros; omega))
          · exact ⟨by rw [HN.out]; rfl, by rw [hp]; refine below_five p ?_ _ _ _ _ _; exact h2.trans (Below.mono (by (repeat (first | with_reducible exact Below.refl _ _ | with_reducible assumption | with_reducible refine below_drewN ?_ _ | with_reducible refine Below.drew ?_ | with_reducible refine below_alloc ?_ _ | (with_reducible refine Below.setCell ?_ (by first | (simp; done) | omega | (simp; omega)) _) | with_reducible refine belows ?_ (by assumption)))) (Nat.le_of_lt h1))⟩
        · go_wp2_with (first | (go_at_call 18; (with_reducible refine (cx _).mono ?_); rintro e w' ⟨rfl, hbl⟩; obtain ⟨hcw, hfw, hsw⟩ := below_ifs hbl; (try simp only [World.size_alloc, World.size_setCell, World.size_drew, size_drewN_] at hcw hfw hsw)) | (go_at_call 16; refine (cl _).mono ?_; rintro e w2 ⟨a, cap, rfl, hbl2, hpc⟩; obtain ⟨hcw2, hfw2, hsw2⟩ := below_ifs hbl2) | (go_at_call 28; refine (read_sh a _ cap y _ hpc).mono ?_; rintro e w3 ⟨rfl, hbl3⟩; obtain ⟨hcw3, hfw3, hsw3⟩ := below_ifs hbl3) | (go_at_call 19; (with_reducible refine (ch _).mono ?_); rintro e w' ⟨rfl, rfl⟩) | (go_at_call 29; (with_reducible refine (get_any _ _ _ _).mono ?_); rintro e w' ⟨rfl, kd, rfl⟩))
          refine bodyPost_ret (results_ct [.int .i64 ((k : Int) + 1), .int .i64 (S (getF y 7 5)), .int .i64 (S (getF y 15 5)), .int .i64 (0), .int .i64 (S (readI (rowAt k).sh y))] (.bool true) Try.results9 rfl rfl ?_ Try.underlying23 rfl (by kernel_rfl)) rfl ?_
          · (first | (go_simp; done) | (go_simp; (simp [↓IntWalk.iteOmega]; done)) | (go_simp; intros; omega) | (go_simp; simp [↓IntWalk.iteOmega]; intros; omega))
          · exact ⟨by rw [HN.out]; rfl, by rw [hp]; refine below_five p ?_ _ _ _ _ _; exact h2.trans (Below.mono (by (repeat (first | with_reducible exact Below.refl _ _ | with_reducible assumption | with_reducible refine below_drewN ?_ _ | with_reducible refine Below.drew ?_ | with_reducible refine below_alloc ?_ _ | (with_reducible refine Below.setCell ?_ (by first | (simp; done) | omega | (simp; omega)) _) | with_reducible refine belows ?_ (by assumption)))) (Nat.le_of_lt h1))⟩
        · go_wp2_with (first | (go_at_call 18; (with_reducible refine (cx _).mono ?_); rintro e w' ⟨rfl, hbl⟩; obtain ⟨hcw, hfw, hsw⟩ := below_ifs hbl; (try simp only [World.size_alloc, World.size_setCell, World.size_drew, size_drewN_] at hcw hfw hsw)) | (go_at_call 16; refine (cl _).mono ?_; rintro e w2 ⟨a, cap, rfl, hbl2, hpc⟩; obtain ⟨hcw2, hfw2, hsw2⟩ := below_ifs hbl2) | (go_at_call 28; refine (read_sh a _ cap y _ hpc).mono ?_; rintro e w3 ⟨rfl, hbl3⟩; obtain ⟨hcw3, hfw3, hsw3⟩ := below_ifs hbl3) | (go_at_call 19; (with_reducible refine (ch _).mono ?_); rintro e w' ⟨rfl, rfl⟩) | (go_at_call 29; (with_reducible refine (get_any _ _ _ _).mono ?_); rintro e w' ⟨rfl, kd, rfl⟩))
          refine bodyPost_ret (results_ct [.int .i64 ((k : Int) + 1), .int .i64 (S (getF y 7 5)), .int .i64 (S (getF y 15 5)), .int .i64 (S (getF y 20 5)), .int .i64 (S (readI (rowAt k).sh y))] (.bool true) Try.results9 rfl rfl ?_ Try.underlying23 rfl (by kernel_rfl)) rfl ?_
          · (first | (go_simp; done) | (go_simp; (simp [↓IntWalk.iteOmega]; done)) | (go_simp; intros; omega) | (go_simp; simp [↓IntWalk.iteOmega]; intros; omega))
          · exact ⟨by rw [HN.out]; rfl, by rw [hp]; refine below_five p ?_ _ _ _ _ _; exact h2.trans (Below.mono (by (repeat (first | with_reducible exact Below.refl _ _ | with_reducible assumption | with_reducible refine below_drewN ?_ _ | with_reducible refine Below.drew ?_ | with_reducible refine below_alloc ?_ _ | (with_reducible refine Below.setCell ?_ (by first | (simp; done) | omega | (simp; omega)) _) | with_reducible refine belows ?_ (by assumption)))) (Nat.le_of_lt h1))⟩
    · obtain rfl : k = 69 := by omega
      have hn : decV y = decO none := by unfold decV decF; rw [HK.out]; rfl
      have HN := Lib.hid hn
      have HB := HA.out.2
      have h1 := HA.out.1.1
      obtain ⟨-, ⟨x0, x1, x2, x3, x4⟩, y0, y1, y2, y3, y4⟩ := HA.out.1
      go_wp2_with fail
      refine bodyPost_ret (results_ct [.int .i64 0, .int .i64 0, .int .i64 0, .int .i64 0, .int .i64 0] (.bool false) Try.results9 rfl rfl ?_ Try.underlying23 rfl (by kernel_rfl)) rfl ?_
      · (first | (go_simp; done) | (go_simp; (simp [↓IntWalk.iteOmega]; done)) | (go_simp; intros; omega) | (go_simp; simp [↓IntWalk.iteOmega]; intros; omega))
      · exact ⟨by rw [HN.out]; rfl, by rw [hp]; exact below_five p HB _ _ _ _ _⟩
end Go.Proofs.Ytokfokgbbpjgdaa
