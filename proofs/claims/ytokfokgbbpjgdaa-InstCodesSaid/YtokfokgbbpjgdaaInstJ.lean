
/-
  The document's Decode is the program's.
-/
import Derived.Test.YtokfokgbbpjgdaaInstI
namespace Go.Proofs.Ytokfokgbbpjgdaa
open Go Go.RowKit
set_option linter.unusedVariables false
set_option linter.unusedSimpArgs false

theorem test_no {k : Nat} {y : BitVec 64} {i : Ins} {X : Int} (hk : k < 69) (hi : decI k y = i) (h : hit y k = false) (hX : ∀ z, encF i = some z → X = U z) : (encF i).isSome = false ∨ ((encF i).isSome = true ∧ (X == U y) = false) := by
  cases e : encF i with
  | none => exact .inl rfl
  | some z =>
    refine .inr ⟨rfl, ?_⟩
    rw [hX z e, U_beq, beq_eq_false_iff_ne]
    rintro rfl
    subst hi
    rw [encF_at (i := decI k z) hk rfl] at e
    rw [(enc_back hk e).2.1] at h
    cases h
theorem test_yes {k : Nat} {y : BitVec 64} {i : Ins} {X : Int} (hk : k < 69) (hy : y.toNat < 2 ^ 32) (hi : decI k y = i) (h : hit y k = true) (hX : ∀ z, encF i = some z → X = U z) : (encF i).isSome = true ∧ X = U y := by
  have e : encF i = some y := by
    subst hi
    rw [encF_at (i := decI k y) hk rfl]
    exact dec_back hk hy h
  rw [e]
  exact ⟨rfl, hX y e⟩
set_option maxHeartbeats 16000000 in
set_option maxRecDepth 100000 in
theorem rdec_any (y : BitVec 64) (hy : y.toNat < 2 ^ 32) (w : World) : Calls Try.prog 10 #[.int .u32 (U y)] w fun e w' => e = .returned (decV y) ∧ Below w.heap.size w w' := by
  go_enter Try.func10, Try.ntmps10
  go_wp2_with (first | (go_at_call 23; refine (rrows_any _).mono ?_; rintro e wR ⟨⟨bR, rfl, hge, hR⟩, hbR⟩))
  have HW : Hid (ResAt wR w.heap.size ∧ Below w.heap.size w wR ∧ RowsIn wR bR) := by
    refine Lib.hid ⟨ResAt.below (w := w.alloc (.cells #[.int .i64 0, .int .i64 0, .int .i64 0, .int .i64 0, .int .i64 0] 28)) ⟨by simp, ⟨by (first | (go_simp; done) | (go_simp; (simp [↓IntWalk.iteOmega]; done)) | (go_simp; intros; omega) | (go_simp; simp [↓IntWalk.iteOmega]; intros; omega)), by (first | (go_simp; done) | (go_simp; (simp [↓IntWalk.iteOmega]; done)) | (go_simp; intros; omega) | (go_simp; simp [↓IntWalk.iteOmega]; intros; omega)), by (first | (go_simp; done) | (go_simp; (simp [↓IntWalk.iteOmega]; done)) | (go_simp; intros; omega) | (go_simp; simp [↓IntWalk.iteOmega]; intros; omega)), by (first | (go_simp; done) | (go_simp; (simp [↓IntWalk.iteOmega]; done)) | (go_simp; intros; omega) | (go_simp; simp [↓IntWalk.iteOmega]; intros; omega)), by (first | (go_simp; done) | (go_simp; (simp [↓IntWalk.iteOmega]; done)) | (go_simp; intros; omega) | (go_simp; simp [↓IntWalk.iteOmega]; intros; omega))⟩, by (first | (go_simp; done) | (go_simp; (simp [↓IntWalk.iteOmega]; done)) | (go_simp; intros; omega) | (go_simp; simp [↓IntWalk.iteOmega]; intros; omega)), by (first | (go_simp; done) | (go_simp; (simp [↓IntWalk.iteOmega]; done)) | (go_simp; intros; omega) | (go_simp; simp [↓IntWalk.iteOmega]; intros; omega)), by (first | (go_simp; done) | (go_simp; (simp [↓IntWalk.iteOmega]; done)) | (go_simp; intros; omega) | (go_simp; simp [↓IntWalk.iteOmega]; intros; omega)), by (first | (go_simp; done) | (go_simp; (simp [↓IntWalk.iteOmega]; done)) | (go_simp; intros; omega) | (go_simp; simp [↓IntWalk.iteOmega]; intros; omega)), by (first | (go_simp; done) | (go_simp; (simp [↓IntWalk.iteOmega]; done)) | (go_simp; intros; omega) | (go_simp; simp [↓IntWalk.iteOmega]; intros; omega))⟩ (by simpa using hbR), ?_, hR⟩
    exact ((Below.refl _ w).alloc (Nat.le_refl _) _).trans (hbR.mono (by simp))
  clear hbR hR hge
  have z0 : S 0#64 = 0 := rfl
  generalize hp : w.heap.size = p at HW ⊢
  go_loopw [5] (fun x wr => ∃ k : Nat, x = .int .i64 (k : Int) ∧ k ≤ 69 ∧ Hid (ResAt wr p ∧ Below p w wr ∧ RowsIn wr bR) ∧ Hid (hitFrom y 69 0 = hitFrom y (69 - k) k)) (fun x _ => 69 - (intOf x).toNat)
  case atStart => exact ⟨0, rfl, by omega, HW, Lib.hid rfl⟩
  case round =>
    obtain ⟨k, rfl, hk, HA, HK⟩ := hrel
    clear HW
    by_cases c : k < 69
    · have hs := hitFrom_succ y k c
      have d1 : decide ((k : Int) < 69) = true := decide_eq_true (by omega)
      have h1 := HA.out.1.1
      have h2 := HA.out.2.1
      have hlb := HA.out.2.2.1
      obtain ⟨x0, x1, x2, x3, x4⟩ := HA.out.2.2.2 k c
      have hsh := rowAt_sh k c
      have hd : decI k y = ⟨(k : Int) + 1, if hasD (rowAt k).sh then getF y 7 5 else 0#64, if has1 (rowAt k).sh then getF y 15 5 else 0#64, if has2 (rowAt k).sh then getF y 20 5 else 0#64, readI (rowAt k).sh y⟩ := rfl
      have HD := hd
      generalize (rowAt k).sh = s at hsh x1 hd
      simp only [shapes, List.mem_cons, List.not_mem_nil, or_false] at hsh
      rcases hsh with rfl | rfl | rfl | rfl | rfl | rfl | rfl | rfl | rfl | rfl
      · have hd2 : decI k y = ⟨(k : Int) + 1, getF y 7 5, getF y 15 5, getF y 20 5, readI 82 y⟩ := hd
        obtain ⟨X, cE, hX⟩ := renc_any ((k : Int) + 1) (getF y 7 5) (getF y 15 5) (getF y 20 5) (readI 82 y)
        cases hh : hit y k
        · rw [hh, if_neg (by decide), ← HK.out] at hs
          have HS := Lib.hid hs
          have ht := test_no c hd2 hh hX
          generalize (encF ⟨(k : Int) + 1, getF y 7 5, getF y 15 5, getF y 20 5, readI 82 y⟩).isSome = bb at cE ht
          skip
          clear hX hd hd2 HD hh hs
          rcases ht with rfl | ⟨rfl, hq⟩
          · go_wp2_with (first | (go_at_call 30; (with_reducible refine (imm_R y _).mono ?_); rintro e w' ⟨rfl, hbl⟩; obtain ⟨hcw, hfw, hsw⟩ := below_ifs hbl; (try simp only [World.size_alloc, World.size_setCell, World.size_drew, size_drewN_] at hcw hfw hsw)) | (go_at_call 31; (with_reducible refine (rget13_any _ _ _ _).mono ?_); rintro e w' ⟨rfl, hbl⟩; obtain ⟨hcw, hfw, hsw⟩ := below_ifs hbl; (try simp only [World.size_alloc, World.size_setCell, World.size_drew, size_drewN_] at hcw hfw hsw)) | (go_at_call 8; (with_reducible refine (cE _).mono ?_); rintro e w' ⟨rfl, hbl⟩; obtain ⟨hcw, hfw, hsw⟩ := below_ifs hbl; (try simp only [World.size_alloc, World.size_setCell, World.size_drew, size_drewN_] at hcw hfw hsw)))
            have hr2 := ResAt.below HA.out.1 (w' := w') (by (repeat (first | with_reducible exact Below.refl _ _ | with_reducible assumption | with_reducible refine below_drewN ?_ _ | with_reducible refine Below.drew ?_ | with_reducible refine below_alloc ?_ _ | (with_reducible refine Below.setCell ?_ (by first | (simp; done) | omega | (simp; omega)) _) | with_reducible refine belows ?_ (by assumption))))
            have hr3 := RowsIn.below HA.out.2.2 (w' := w') (B := wr.heap.size) (by (repeat (first | with_reducible exact Below.refl _ _ | with_reducible assumption | with_reducible refine below_drewN ?_ _ | with_reducible refine Below.drew ?_ | with_reducible refine below_alloc ?_ _ | (with_reducible refine Below.setCell ?_ (by first | (simp; done) | omega | (simp; omega)) _) | with_reducible refine belows ?_ (by assumption)))) hlb
            go_roundw
            case rel => exact ⟨k + 1, by go_num, by omega, Lib.hid ⟨hr2, h2.trans (Below.mono (by (repeat (first | with_reducible exact Below.refl _ _ | with_reducible assumption | with_reducible refine below_drewN ?_ _ | with_reducible refine Below.drew ?_ | with_reducible refine below_alloc ?_ _ | (with_reducible refine Below.setCell ?_ (by first | (simp; done) | omega | (simp; omega)) _) | with_reducible refine belows ?_ (by assumption)))) (Nat.le_of_lt h1)), hr3⟩, HS⟩
            case measure => (simp [intOf]; omega)
          · go_wp2_with (first | (go_at_call 30; (with_reducible refine (imm_R y _).mono ?_); rintro e w' ⟨rfl, hbl⟩; obtain ⟨hcw, hfw, hsw⟩ := below_ifs hbl; (try simp only [World.size_alloc, World.size_setCell, World.size_drew, size_drewN_] at hcw hfw hsw)) | (go_at_call 31; (with_reducible refine (rget13_any _ _ _ _).mono ?_); rintro e w' ⟨rfl, hbl⟩; obtain ⟨hcw, hfw, hsw⟩ := below_ifs hbl; (try simp only [World.size_alloc, World.size_setCell, World.size_drew, size_drewN_] at hcw hfw hsw)) | (go_at_call 8; (with_reducible refine (cE _).mono ?_); rintro e w' ⟨rfl, hbl⟩; obtain ⟨hcw, hfw, hsw⟩ := below_ifs hbl; (try simp only [World.size_alloc, World.size_setCell, World.size_drew, size_drewN_] at hcw hfw hsw)))
            have hr2 := ResAt.below HA.out.1 (w' := w') (by (repeat (first | with_reducible exact Below.refl _ _ | with_reducible assumption | with_reducible refine below_drewN ?_ _ | with_reducible refine Below.drew ?_ | with_reducible refine below_alloc ?_ _ | (with_reducible refine Below.setCell ?_ (by first | (simp; done) | omega | (simp; omega)) _) | with_reducible refine belows ?_ (by assumption))))
            have hr3 := RowsIn.below HA.out.2.2 (w' := w') (B := wr.heap.size) (by (repeat (first | with_reducible exact Below.refl _ _ | with_reducible assumption | with_reducible refine below_drewN ?_ _ | with_reducible refine Below.drew ?_ | with_reducible refine below_alloc ?_ _ | (with_reducible refine Below.setCell ?_ (by first | (simp; done) | omega | (simp; omega)) _) | with_reducible refine belows ?_ (by assumption)))) hlb
            go_roundw
            case rel => exact ⟨k + 1, by go_num, by omega, Lib.hid ⟨hr2, h2.trans (Below.mono (by (repeat (first | with_reducible exact Below.refl _ _ | with_reducible assumption | with_reducible refine below_drewN ?_ _ | with_reducible refine Below.drew ?_ | with_reducible refine below_alloc ?_ _ | (with_reducible refine Below.setCell ?_ (by first | (simp; done) | omega | (simp; omega)) _) | with_reducible refine belows ?_ (by assumption)))) (Nat.le_of_lt h1)), hr3⟩, HS⟩
            case measure => (simp [intOf]; omega)
        · rw [hh, if_pos rfl, ← HK.out] at hs
          have hn : decV y = decO (some ⟨(k : Int) + 1, getF y 7 5, getF y 15 5, getF y 20 5, readI 82 y⟩) := by unfold decV decF; rw [hs]; show decO (some (decI k y)) = _; rw [hd2]
          obtain ⟨hb, rfl⟩ := test_yes c hy hd2 hh hX
          rw [hb] at cE
          skip
          have HN := Lib.hid hn
          clear hn hX hd hd2 HD hh hs hb
          obtain ⟨-, ⟨r0, r1, r2, r3, r4⟩, y0, y1, y2, y3, y4⟩ := HA.out.1
          go_wp2_with (first | (go_at_call 30; (with_reducible refine (imm_R y _).mono ?_); rintro e w' ⟨rfl, hbl⟩; obtain ⟨hcw, hfw, hsw⟩ := below_ifs hbl; (try simp only [World.size_alloc, World.size_setCell, World.size_drew, size_drewN_] at hcw hfw hsw)) | (go_at_call 31; (with_reducible refine (rget13_any _ _ _ _).mono ?_); rintro e w' ⟨rfl, hbl⟩; obtain ⟨hcw, hfw, hsw⟩ := below_ifs hbl; (try simp only [World.size_alloc, World.size_setCell, World.size_drew, size_drewN_] at hcw hfw hsw)) | (go_at_call 8; (with_reducible refine (cE _).mono ?_); rintro e w' ⟨rfl, hbl⟩; obtain ⟨hcw, hfw, hsw⟩ := below_ifs hbl; (try simp only [World.size_alloc, World.size_setCell, World.size_drew, size_drewN_] at hcw hfw hsw)))
          refine bodyPost_ret (results_ct [.int .i64 ((k : Int) + 1), .int .i64 (S (getF y 7 5)), .int .i64 (S (getF y 15 5)), .int .i64 (S (getF y 20 5)), .int .i64 (S (readI 82 y))] (.bool true) Try.results10 rfl rfl ?_ Try.underlying28 rfl (by kernel_rfl)) rfl ?_
          · (first | (go_simp; done) | (go_simp; (simp [↓IntWalk.iteOmega]; done)) | (go_simp; intros; omega) | (go_simp; simp [↓IntWalk.iteOmega]; intros; omega))
          · exact ⟨by rw [HN.out]; rfl, by rw [hp]; refine below_five p ?_ _ _ _ _ _; exact h2.trans (Below.mono (by (repeat (first | with_reducible exact Below.refl _ _ | with_reducible assumption | with_reducible refine below_drewN ?_ _ | with_reducible refine Below.drew ?_ | with_reducible refine below_alloc ?_ _ | (with_reducible refine Below.setCell ?_ (by first | (simp; done) | omega | (simp; omega)) _) | with_reducible refine belows ?_ (by assumption)))) (Nat.le_of_lt h1))⟩
      · have hd2 : decI k y = ⟨(k : Int) + 1, getF y 7 5, getF y 15 5, 0#64, readI 71 y⟩ := hd
        obtain ⟨X, cE, hX⟩ := renc_any ((k : Int) + 1) (getF y 7 5) (getF y 15 5) (0#64) (readI 71 y)
        cases hh : hit y k
        · rw [hh, if_neg (by decide), ← HK.out] at hs
          have HS := Lib.hid hs
          have ht := test_no c hd2 hh hX
          generalize (encF ⟨(k : Int) + 1, getF y 7 5, getF y 15 5, 0#64, readI 71 y⟩).isSome = bb at cE ht
          rw [z0] at cE
          clear hX hd hd2 HD hh hs
          rcases ht with rfl | ⟨rfl, hq⟩
          · go_wp2_with (first | (go_at_call 30; (with_reducible refine (imm_G y _).mono ?_); rintro e w' ⟨rfl, hbl⟩; obtain ⟨hcw, hfw, hsw⟩ := below_ifs hbl; (try simp only [World.size_alloc, World.size_setCell, World.size_drew, size_drewN_] at hcw hfw hsw)) | (go_at_call 31; (with_reducible refine (rget13_any _ _ _ _).mono ?_); rintro e w' ⟨rfl, hbl⟩; obtain ⟨hcw, hfw, hsw⟩ := below_ifs hbl; (try simp only [World.size_alloc, World.size_setCell, World.size_drew, size_drewN_] at hcw hfw hsw)) | (go_at_call 8; (with_reducible refine (cE _).mono ?_); rintro e w' ⟨rfl, hbl⟩; obtain ⟨hcw, hfw, hsw⟩ := below_ifs hbl; (try simp only [World.size_alloc, World.size_setCell, World.size_drew, size_drewN_] at hcw hfw hsw)))
            have hr2 := ResAt.below HA.out.1 (w' := w') (by (repeat (first | with_reducible exact Below.refl _ _ | with_reducible assumption | with_reducible refine below_drewN ?_ _ | with_reducible refine Below.drew ?_ | with_reducible refine below_alloc ?_ _ | (with_reducible refine Below.setCell ?_ (by first | (simp; done) | omega | (simp; omega)) _) | with_reducible refine belows ?_ (by assumption))))
            have hr3 := RowsIn.below HA.out.2.2 (w' := w') (B := wr.heap.size) (by (repeat (first | with_reducible exact Below.refl _ _ | with_reducible assumption | with_reducible refine below_drewN ?_ _ | with_reducible refine Below.drew ?_ | with_reducible refine below_alloc ?_ _ | (with_reducible refine Below.setCell ?_ (by first | (simp; done) | omega | (simp; omega)) _) | with_reducible refine belows ?_ (by assumption)))) hlb
            go_roundw
            case rel => exact ⟨k + 1, by go_num, by omega, Lib.hid ⟨hr2, h2.trans (Below.mono (by (repeat (first | with_reducible exact Below.refl _ _ | with_reducible assumption | with_reducible refine below_drewN ?_ _ | with_reducible refine Below.drew ?_ | with_reducible refine below_alloc ?_ _ | (with_reducible refine Below.setCell ?_ (by first | (simp; done) | omega | (simp; omega)) _) | with_reducible refine belows ?_ (by assumption)))) (Nat.le_of_lt h1)), hr3⟩, HS⟩
            case measure => (simp [intOf]; omega)
          · go_wp2_with (first | (go_at_call 30; (with_reducible refine (imm_G y _).mono ?_); rintro e w' ⟨rfl, hbl⟩; obtain ⟨hcw, hfw, hsw⟩ := below_ifs hbl; (try simp only [World.size_alloc, World.size_setCell, World.size_drew, size_drewN_] at hcw hfw hsw)) | (go_at_call 31; (with_reducible refine (rget13_any _ _ _ _).mono ?_); rintro e w' ⟨rfl, hbl⟩; obtain ⟨hcw, hfw, hsw⟩ := below_ifs hbl; (try simp only [World.size_alloc, World.size_setCell, World.size_drew, size_drewN_] at hcw hfw hsw)) | (go_at_call 8; (with_reducible refine (cE _).mono ?_); rintro e w' ⟨rfl, hbl⟩; obtain ⟨hcw, hfw, hsw⟩ := below_ifs hbl; (try simp only [World.size_alloc, World.size_setCell, World.size_drew, size_drewN_] at hcw hfw hsw)))
            have hr2 := ResAt.below HA.out.1 (w' := w') (by (repeat (first | with_reducible exact Below.refl _ _ | with_reducible assumption | with_reducible refine below_drewN ?_ _ | with_reducible refine Below.drew ?_ | with_reducible refine below_alloc ?_ _ | (with_reducible refine Below.setCell ?_ (by first | (simp; done) | omega | (simp; omega)) _) | with_reducible refine belows ?_ (by assumption))))
            have hr3 := RowsIn.below HA.out.2.2 (w' := w') (B := wr.heap.size) (by (repeat (first | with_reducible exact Below.refl _ _ | with_reducible assumption | with_reducible refine below_drewN ?_ _ | with_reducible refine Below.drew ?_ | with_reducible refine below_alloc ?_ _ | (with_reducible refine Below.setCell ?_ (by first | (simp; done) | omega | (simp; omega)) _) | with_reducible refine belows ?_ (by assumption)))) hlb
            go_roundw
            case rel => exact ⟨k + 1, by go_num, by omega, Lib.hid ⟨hr2, h2.trans (Below.mono (by (repeat (first | with_reducible exact Below.refl _ _ | with_reducible assumption | with_reducible refine below_drewN ?_ _ | with_reducible refine Below.drew ?_ | with_reducible refine below_alloc ?_ _ | (with_reducible refine Below.setCell ?_ (by first | (simp; done) | omega | (simp; omega)) _) | with_reducible refine belows ?_ (by assumption)))) (Nat.le_of_lt h1)), hr3⟩, HS⟩
            case measure => (simp [intOf]; omega)
        · rw [hh, if_pos rfl, ← HK.out] at hs
          have hn : decV y = decO (some ⟨(k : Int) + 1, getF y 7 5, getF y 15 5, 0#64, readI 71 y⟩) := by unfold decV decF; rw [hs]; show decO (some (decI k y)) = _; rw [hd2]
          obtain ⟨hb, rfl⟩ := test_yes c hy hd2 hh hX
          rw [hb] at cE
          rw [z0] at cE
          have HN := Lib.hid hn
          clear hn hX hd hd2 HD hh hs hb
          obtain ⟨-, ⟨r0, r1, r2, r3, r4⟩, y0, y1, y2, y3, y4⟩ := HA.out.1
          go_wp2_with (first | (go_at_call 30; (with_reducible refine (imm_G y _).mono ?_); rintro e w' ⟨rfl, hbl⟩; obtain ⟨hcw, hfw, hsw⟩ := below_ifs hbl; (try simp only [World.size_alloc, World.size_setCell, World.size_drew, size_drewN_] at hcw hfw hsw)) | (go_at_call 31; (with_reducible refine (rget13_any _ _ _ _).mono ?_); rintro e w' ⟨rfl, hbl⟩; obtain ⟨hcw, hfw, hsw⟩ := below_ifs hbl; (try simp only [World.size_alloc, World.size_setCell, World.size_drew, size_drewN_] at hcw hfw hsw)) | (go_at_call 8; (with_reducible refine (cE _).mono ?_); rintro e w' ⟨rfl, hbl⟩; obtain ⟨hcw, hfw, hsw⟩ := below_ifs hbl; (try simp only [World.size_alloc, World.size_setCell, World.size_drew, size_drewN_] at hcw hfw hsw)))
          refine bodyPost_ret (results_ct [.int .i64 ((k : Int) + 1), .int .i64 (S (getF y 7 5)), .int .i64 (S (getF y 15 5)), .int .i64 0, .int .i64 (S (readI 71 y))] (.bool true) Try.results10 rfl rfl ?_ Try.underlying28 rfl (by kernel_rfl)) rfl ?_
          · (first | (go_simp; done) | (go_simp; (simp [↓IntWalk.iteOmega]; done)) | (go_simp; intros; omega) | (go_simp; simp [↓IntWalk.iteOmega]; intros; omega))
          · exact ⟨by rw [HN.out]; rfl, by rw [hp]; refine below_five p ?_ _ _ _ _ _; exact h2.trans (Below.mono (by (repeat (first | with_reducible exact Below.refl _ _ | with_reducible assumption | with_reducible refine below_drewN ?_ _ | with_reducible refine Below.drew ?_ | with_reducible refine below_alloc ?_ _ | (with_reducible refine Below.setCell ?_ (by first | (simp; done) | omega | (simp; omega)) _) | with_reducible refine belows ?_ (by assumption)))) (Nat.le_of_lt h1))⟩
      · have hd2 : decI k y = ⟨(k : Int) + 1, 0#64, 0#64, 0#64, readI 78 y⟩ := hd
        obtain ⟨X, cE, hX⟩ := renc_any ((k : Int) + 1) (0#64) (0#64) (0#64) (readI 78 y)
        cases hh : hit y k
        · rw [hh, if_neg (by decide), ← HK.out] at hs
          have HS := Lib.hid hs
          have ht := test_no c hd2 hh hX
          generalize (encF ⟨(k : Int) + 1, 0#64, 0#64, 0#64, readI 78 y⟩).isSome = bb at cE ht
          rw [z0] at cE
          clear hX hd hd2 HD hh hs
          rcases ht with rfl | ⟨rfl, hq⟩
          · go_wp2_with (first | (go_at_call 30; (with_reducible refine (imm_N y _).mono ?_); rintro e w' ⟨rfl, hbl⟩; obtain ⟨hcw, hfw, hsw⟩ := below_ifs hbl; (try simp only [World.size_alloc, World.size_setCell, World.size_drew, size_drewN_] at hcw hfw hsw)) | (go_at_call 31; (with_reducible refine (rget13_any _ _ _ _).mono ?_); rintro e w' ⟨rfl, hbl⟩; obtain ⟨hcw, hfw, hsw⟩ := below_ifs hbl; (try simp only [World.size_alloc, World.size_setCell, World.size_drew, size_drewN_] at hcw hfw hsw)) | (go_at_call 8; (with_reducible refine (cE _).mono ?_); rintro e w' ⟨rfl, hbl⟩; obtain ⟨hcw, hfw, hsw⟩ := below_ifs hbl; (try simp only [World.size_alloc, World.size_setCell, World.size_drew, size_drewN_] at hcw hfw hsw)))
            have hr2 := ResAt.below HA.out.1 (w' := w') (by (repeat (first | with_reducible exact Below.refl _ _ | with_reducible assumption | with_reducible refine below_drewN ?_ _ | with_reducible refine Below.drew ?_ | with_reducible refine below_alloc ?_ _ | (with_reducible refine Below.setCell ?_ (by first | (simp; done) | omega | (simp; omega)) _) | with_reducible refine belows ?_ (by assumption))))
            have hr3 := RowsIn.below HA.out.2.2 (w' := w') (B := wr.heap.size) (by (repeat (first | with_reducible exact Below.refl _ _ | with_reducible assumption | with_reducible refine below_drewN ?_ _ | with_reducible refine Below.drew ?_ | with_reducible refine below_alloc ?_ _ | (with_reducible refine Below.setCell ?_ (by first | (simp; done) | omega | (simp; omega)) _) | with_reducible refine belows ?_ (by assumption)))) hlb
            go_roundw
            case rel => exact ⟨k + 1, by go_num, by omega, Lib.hid ⟨hr2, h2.trans (Below.mono (by (repeat (first | with_reducible exact Below.refl _ _ | with_reducible assumption | with_reducible refine below_drewN ?_ _ | with_reducible refine Below.drew ?_ | with_reducible refine below_alloc ?_ _ | (with_reducible refine Below.setCell ?_ (by first | (simp; done) | omega | (simp; omega)) _) | with_reducible refine belows ?_ (by assumption)))) (Nat.le_of_lt h1)), hr3⟩, HS⟩
            case measure => (simp [intOf]; omega)
          · go_wp2_with (first | (go_at_call 30; (with_reducible refine (imm_N y _).mono ?_); rintro e w' ⟨rfl, hbl⟩; obtain ⟨hcw, hfw, hsw⟩ := below_ifs hbl; (try simp only [World.size_alloc, World.size_setCell, World.size_drew, size_drewN_] at hcw hfw hsw)) | (go_at_call 31; (with_reducible refine (rget13_any _ _ _ _).mono ?_); rintro e w' ⟨rfl, hbl⟩; obtain ⟨hcw, hfw, hsw⟩ := below_ifs hbl; (try simp only [World.size_alloc, World.size_setCell, World.size_drew, size_drewN_] at hcw hfw hsw)) | (go_at_call 8; (with_reducible refine (cE _).mono ?_); rintro e w' ⟨rfl, hbl⟩; obtain ⟨hcw, hfw, hsw⟩ := below_ifs hbl; (try simp only [World.size_alloc, World.size_setCell, World.size_drew, size_drewN_] at hcw hfw hsw)))
            have hr2 := ResAt.below HA.out.1 (w' := w') (by (repeat (first | with_reducible exact Below.refl _ _ | with_reducible assumption | with_reducible refine below_drewN ?_ _ | with_reducible refine Below.drew ?_ | with_reducible refine below_alloc ?_ _ | (with_reducible refine Below.setCell ?_ (by first | (simp; done) | omega | (simp; omega)) _) | with_reducible refine belows ?_ (by assumption))))
            have hr3 := RowsIn.below HA.out.2.2 (w' := w') (B := wr.heap.size) (by (repeat (first | with_reducible exact Below.refl _ _ | with_reducible assumption | with_reducible refine below_drewN ?_ _ | with_reducible refine Below.drew ?_ | with_reducible refine below_alloc ?_ _ | (with_reducible refine Below.setCell ?_ (by first | (simp; done) | omega | (simp; omega)) _) | with_reducible refine belows ?_ (by assumption)))) hlb
            go_roundw
            case rel => exact ⟨k + 1, by go_num, by omega, Lib.hid ⟨hr2, h2.trans (Below.mono (by (repeat (first | with_reducible exact Below.refl _ _ | with_reducible assumption | with_reducible refine below_drewN ?_ _ | with_reducible refine Below.drew ?_ | with_reducible refine below_alloc ?_ _ | (with_reducible refine Below.setCell ?_ (by first | (simp; done) | omega | (simp; omega)) _) | with_reducible refine belows ?_ (by assumption)))) (Nat.le_of_lt h1)), hr3⟩, HS⟩
            case measure => (simp [intOf]; omega)
        · rw [hh, if_pos rfl, ← HK.out] at hs
          have hn : decV y = decO (some ⟨(k : Int) + 1, 0#64, 0#64, 0#64, readI 78 y⟩) := by unfold decV decF; rw [hs]; show decO (some (decI k y)) = _; rw [hd2]
          obtain ⟨hb, rfl⟩ := test_yes c hy hd2 hh hX
          rw [hb] at cE
          rw [z0] at cE
          have HN := Lib.hid hn
          clear hn hX hd hd2 HD hh hs hb
          obtain ⟨-, ⟨r0, r1, r2, r3, r4⟩, y0, y1, y2, y3, y4⟩ := HA.out.1
          go_wp2_with (first | (go_at_call 30; (with_reducible refine (imm_N y _).mono ?_); rintro e w' ⟨rfl, hbl⟩; obtain ⟨hcw, hfw, hsw⟩ := below_ifs hbl; (try simp only [World.size_alloc, World.size_setCell, World.size_drew, size_drewN_] at hcw hfw hsw)) | (go_at_call 31; (with_reducible refine (rget13_any _ _ _ _).mono ?_); rintro e w' ⟨rfl, hbl⟩; obtain ⟨hcw, hfw, hsw⟩ := below_ifs hbl; (try simp only [World.size_alloc, World.size_setCell, World.size_drew, size_drewN_] at hcw hfw hsw)) | (go_at_call 8; (with_reducible refine (cE _).mono ?_); rintro e w' ⟨rfl, hbl⟩; obtain ⟨hcw, hfw, hsw⟩ := below_ifs hbl; (try simp only [World.size_alloc, World.size_setCell, World.size_drew, size_drewN_] at hcw hfw hsw)))
          refine bodyPost_ret (results_ct [.int .i64 ((k : Int) + 1), .int .i64 0, .int .i64 0, .int .i64 0, .int .i64 (S (readI 78 y))] (.bool true) Try.results10 rfl rfl ?_ Try.underlying28 rfl (by kernel_rfl)) rfl ?_
          · (first | (go_simp; done) | (go_simp; (simp [↓IntWalk.iteOmega]; done)) | (go_simp; intros; omega) | (go_simp; simp [↓IntWalk.iteOmega]; intros; omega))
          · exact ⟨by rw [HN.out]; rfl, by rw [hp]; refine below_five p ?_ _ _ _ _ _; exact h2.trans (Below.mono (by (repeat (first | with_reducible exact Below.refl _ _ | with_reducible assumption | with_reducible refine below_drewN ?_ _ | with_reducible refine Below.drew ?_ | with_reducible refine below_alloc ?_ _ | (with_reducible refine Below.setCell ?_ (by first | (simp; done) | omega | (simp; omega)) _) | with_reducible refine belows ?_ (by assumption)))) (Nat.le_of_lt h1))⟩
      · have hd2 : decI k y = ⟨(k : Int) + 1, getF y 7 5, getF y 15 5, 0#64, readI 73 y⟩ := hd
        obtain ⟨X, cE, hX⟩ := renc_any ((k : Int) + 1) (getF y 7 5) (getF y 15 5) (0#64) (readI 73 y)
        cases hh : hit y k
        · rw [hh, if_neg (by decide), ← HK.out] at hs
          have HS := Lib.hid hs
          have ht := test_no c hd2 hh hX
          generalize (encF ⟨(k : Int) + 1, getF y 7 5, getF y 15 5, 0#64, readI 73 y⟩).isSome = bb at cE ht
          rw [z0] at cE
          clear hX hd hd2 HD hh hs
          rcases ht with rfl | ⟨rfl, hq⟩
          · go_wp2_with (first | (go_at_call 30; (with_reducible refine (imm_I y _).mono ?_); rintro e w' ⟨rfl, hbl⟩; obtain ⟨hcw, hfw, hsw⟩ := below_ifs hbl; (try simp only [World.size_alloc, World.size_setCell, World.size_drew, size_drewN_] at hcw hfw hsw)) | (go_at_call 31; (with_reducible refine (rget13_any _ _ _ _).mono ?_); rintro e w' ⟨rfl, hbl⟩; obtain ⟨hcw, hfw, hsw⟩ := below_ifs hbl; (try simp only [World.size_alloc, World.size_setCell, World.size_drew, size_drewN_] at hcw hfw hsw)) | (go_at_call 8; (with_reducible refine (cE _).mono ?_); rintro e w' ⟨rfl, hbl⟩; obtain ⟨hcw, hfw, hsw⟩ := below_ifs hbl; (try simp only [World.size_alloc, World.size_setCell, World.size_drew, size_drewN_] at hcw hfw hsw)))
            have hr2 := ResAt.below HA.out.1 (w' := w') (by (repeat (first | with_reducible exact Below.refl _ _ | with_reducible assumption | with_reducible refine below_drewN ?_ _ | with_reducible refine Below.drew ?_ | with_reducible refine below_alloc ?_ _ | (with_reducible refine Below.setCell ?_ (by first | (simp; done) | omega | (simp; omega)) _) | with_reducible refine belows ?_ (by assumption))))
            have hr3 := RowsIn.below HA.out.2.2 (w' := w') (B := wr.heap.size) (by (repeat (first | with_reducible exact Below.refl _ _ | with_reducible assumption | with_reducible refine below_drewN ?_ _ | with_reducible refine Below.drew ?_ | with_reducible refine below_alloc ?_ _ | (with_reducible refine Below.setCell ?_ (by first | (simp; done) | omega | (simp; omega)) _) | with_reducible refine belows ?_ (by assumption)))) hlb
            go_roundw
            case rel => exact ⟨k + 1, by go_num, by omega, Lib.hid ⟨hr2, h2.trans (Below.mono (by (repeat (first | with_reducible exact Below.refl _ _ | with_reducible assumption | with_reducible refine below_drewN ?_ _ | with_reducible refine Below.drew ?_ | with_reducible refine below_alloc ?_ _ | (with_reducible refine Below.setCell ?_ (by first | (simp; done) | omega | (simp; omega)) _) | with_reducible refine belows ?_ (by assumption)))) (Nat.le_of_lt h1)), hr3⟩, HS⟩
            case measure => (simp [intOf]; omega)
          · go_wp2_with (first | (go_at_call 30; (with_reducible refine (imm_I y _).mono ?_); rintro e w' ⟨rfl, hbl⟩; obtain ⟨hcw, hfw, hsw⟩ := below_ifs hbl; (try simp only [World.size_alloc, World.size_setCell, World.size_drew, size_drewN_] at hcw hfw hsw)) | (go_at_call 31; (with_reducible refine (rget13_any _ _ _ _).mono ?_); rintro e w' ⟨rfl, hbl⟩; obtain ⟨hcw, hfw, hsw⟩ := below_ifs hbl; (try simp only [World.size_alloc, World.size_setCell, World.size_drew, size_drewN_] at hcw hfw hsw)) | (go_at_call 8; (with_reducible refine (cE _).mono ?_); rintro e w' ⟨rfl, hbl⟩; obtain ⟨hcw, hfw, hsw⟩ := below_ifs hbl; (try simp only [World.size_alloc, World.size_setCell, World.size_drew, size_drewN_] at hcw hfw hsw)))
            have hr2 := ResAt.below HA.out.1 (w' := w') (by (repeat (first | with_reducible exact Below.refl _ _ | with_reducible assumption | with_reducible refine below_drewN ?_ _ | with_reducible refine Below.drew ?_ | with_reducible refine below_alloc ?_ _ | (with_reducible refine Below.setCell ?_ (by first | (simp; done) | omega | (simp; omega)) _) | with_reducible refine belows ?_ (by assumption))))
            have hr3 := RowsIn.below HA.out.2.2 (w' := w') (B := wr.heap.size) (by (repeat (first | with_reducible exact Below.refl _ _ | with_reducible assumption | with_reducible refine below_drewN ?_ _ | with_reducible refine Below.drew ?_ | with_reducible refine below_alloc ?_ _ | (with_reducible refine Below.setCell ?_ (by first | (simp; done) | omega | (simp; omega)) _) | with_reducible refine belows ?_ (by assumption)))) hlb
            go_roundw
            case rel => exact ⟨k + 1, by go_num, by omega, Lib.hid ⟨hr2, h2.trans (Below.mono (by (repeat (first | with_reducible exact Below.refl _ _ | with_reducible assumption | with_reducible refine below_drewN ?_ _ | with_reducible refine Below.drew ?_ | with_reducible refine below_alloc ?_ _ | (with_reducible refine Below.setCell ?_ (by first | (simp; done) | omega | (simp; omega)) _) | with_reducible refine belows ?_ (by assumption)))) (Nat.le_of_lt h1)), hr3⟩, HS⟩
            case measure => (simp [intOf]; omega)
        · rw [hh, if_pos rfl, ← HK.out] at hs
          have hn : decV y = decO (some ⟨(k : Int) + 1, getF y 7 5, getF y 15 5, 0#64, readI 73 y⟩) := by unfold decV decF; rw [hs]; show decO (some (decI k y)) = _; rw [hd2]
          obtain ⟨hb, rfl⟩ := test_yes c hy hd2 hh hX
          rw [hb] at cE
          rw [z0] at cE
          have HN := Lib.hid hn
          clear hn hX hd hd2 HD hh hs hb
          obtain ⟨-, ⟨r0, r1, r2, r3, r4⟩, y0, y1, y2, y3, y4⟩ := HA.out.1
          go_wp2_with (first | (go_at_call 30; (with_reducible refine (imm_I y _).mono ?_); rintro e w' ⟨rfl, hbl⟩; obtain ⟨hcw, hfw, hsw⟩ := below_ifs hbl; (try simp only [World.size_alloc, World.size_setCell, World.size_drew, size_drewN_] at hcw hfw hsw)) | (go_at_call 31; (with_reducible refine (rget13_any _ _ _ _).mono ?_); rintro e w' ⟨rfl, hbl⟩; obtain ⟨hcw, hfw, hsw⟩ := below_ifs hbl; (try simp only [World.size_alloc, World.size_setCell, World.size_drew, size_drewN_] at hcw hfw hsw)) | (go_at_call 8; (with_reducible refine (cE _).mono ?_); rintro e w' ⟨rfl, hbl⟩; obtain ⟨hcw, hfw, hsw⟩ := below_ifs hbl; (try simp only [World.size_alloc, World.size_setCell, World.size_drew, size_drewN_] at hcw hfw hsw)))
          refine bodyPost_ret (results_ct [.int .i64 ((k : Int) + 1), .int .i64 (S (getF y 7 5)), .int .i64 (S (getF y 15 5)), .int .i64 0, .int .i64 (S (readI 73 y))] (.bool true) Try.results10 rfl rfl ?_ Try.underlying28 rfl (by kernel_rfl)) rfl ?_
          · (first | (go_simp; done) | (go_simp; (simp [↓IntWalk.iteOmega]; done)) | (go_simp; intros; omega) | (go_simp; simp [↓IntWalk.iteOmega]; intros; omega))
          · exact ⟨by rw [HN.out]; rfl, by rw [hp]; refine below_five p ?_ _ _ _ _ _; exact h2.trans (Below.mono (by (repeat (first | with_reducible exact Below.refl _ _ | with_reducible assumption | with_reducible refine below_drewN ?_ _ | with_reducible refine Below.drew ?_ | with_reducible refine below_alloc ?_ _ | (with_reducible refine Below.setCell ?_ (by first | (simp; done) | omega | (simp; omega)) _) | with_reducible refine belows ?_ (by assumption)))) (Nat.le_of_lt h1))⟩
      · have hd2 : decI k y = ⟨(k : Int) + 1, getF y 7 5, getF y 15 5, 0#64, readI 67 y⟩ := hd
        obtain ⟨X, cE, hX⟩ := renc_any ((k : Int) + 1) (getF y 7 5) (getF y 15 5) (0#64) (readI 67 y)
        cases hh : hit y k
        · rw [hh, if_neg (by decide), ← HK.out] at hs
          have HS := Lib.hid hs
          have ht := test_no c hd2 hh hX
          generalize (encF ⟨(k : Int) + 1, getF y 7 5, getF y 15 5, 0#64, readI 67 y⟩).isSome = bb at cE ht
          rw [z0] at cE
          clear hX hd hd2 HD hh hs
          rcases ht with rfl | ⟨rfl, hq⟩
          · go_wp2_with (first | (go_at_call 30; (with_reducible refine (imm_C y _).mono ?_); rintro e w' ⟨rfl, hbl⟩; obtain ⟨hcw, hfw, hsw⟩ := below_ifs hbl; (try simp only [World.size_alloc, World.size_setCell, World.size_drew, size_drewN_] at hcw hfw hsw)) | (go_at_call 31; (with_reducible refine (rget13_any _ _ _ _).mono ?_); rintro e w' ⟨rfl, hbl⟩; obtain ⟨hcw, hfw, hsw⟩ := below_ifs hbl; (try simp only [World.size_alloc, World.size_setCell, World.size_drew, size_drewN_] at hcw hfw hsw)) | (go_at_call 8; (with_reducible refine (cE _).mono ?_); rintro e w' ⟨rfl, hbl⟩; obtain ⟨hcw, hfw, hsw⟩ := below_ifs hbl; (try simp only [World.size_alloc, World.size_setCell, World.size_drew, size_drewN_] at hcw hfw hsw)))
            have hr2 := ResAt.below HA.out.1 (w' := w') (by (repeat (first | with_reducible exact Below.refl _ _ | with_reducible assumption | with_reducible refine below_drewN ?_ _ | with_reducible refine Below.drew ?_ | with_reducible refine below_alloc ?_ _ | (with_reducible refine Below.setCell ?_ (by first | (simp; done) | omega | (simp; omega)) _) | with_reducible refine belows ?_ (by assumption))))
            have hr3 := RowsIn.below HA.out.2.2 (w' := w') (B := wr.heap.size) (by (repeat (first | with_reducible exact Below.refl _ _ | with_reducible assumption | with_reducible refine below_drewN ?_ _ | with_reducible refine Below.drew ?_ | with_reducible refine below_alloc ?_ _ | (with_reducible refine Below.setCell ?_ (by first | (simp; done) | omega | (simp; omega)) _) | with_reducible refine belows ?_ (by assumption)))) hlb
            go_roundw
            case rel => exact ⟨k + 1, by go_num, by omega, Lib.hid ⟨hr2, h2.trans (Below.mono (by (repeat (first | with_reducible exact Below.refl _ _ | with_reducible assumption | with_reducible refine below_drewN ?_ _ | with_reducible refine Below.drew ?_ | with_reducible refine below_alloc ?_ _ | (with_reducible refine Below.setCell ?_ (by first | (simp; done) | omega | (simp; omega)) _) | with_reducible refine belows ?_ (by assumption)))) (Nat.le_of_lt h1)), hr3⟩, HS⟩
            case measure => (simp [intOf]; omega)
          · go_wp2_with (first | (go_at_call 30; (with_reducible refine (imm_C y _).mono ?_); rintro e w' ⟨rfl, hbl⟩; obtain ⟨hcw, hfw, hsw⟩ := below_ifs hbl; (try simp only [World.size_alloc, World.size_setCell, World.size_drew, size_drewN_] at hcw hfw hsw)) | (go_at_call 31; (with_reducible refine (rget13_any _ _ _ _).mono ?_); rintro e w' ⟨rfl, hbl⟩; obtain ⟨hcw, hfw, hsw⟩ := below_ifs hbl; (try simp only [World.size_alloc, World.size_setCell, World.size_drew, size_drewN_] at hcw hfw hsw)) | (go_at_call 8; (with_reducible refine (cE _).mono ?_); rintro e w' ⟨rfl, hbl⟩; obtain ⟨hcw, hfw, hsw⟩ := below_ifs hbl; (try simp only [World.size_alloc, World.size_setCell, World.size_drew, size_drewN_] at hcw hfw hsw)))
            have hr2 := ResAt.below HA.out.1 (w' := w') (by (repeat (first | with_reducible exact Below.refl _ _ | with_reducible assumption | with_reducible refine below_drewN ?_ _ | with_reducible refine Below.drew ?_ | with_reducible refine below_alloc ?_ _ | (with_reducible refine Below.setCell ?_ (by first | (simp; done) | omega | (simp; omega)) _) | with_reducible refine belows ?_ (by assumption))))
            have hr3 := RowsIn.below HA.out.2.2 (w' := w') (B := wr.heap.size) (by (repeat (first | with_reducible exact Below.refl _ _ | with_reducible assumption | with_reducible refine below_drewN ?_ _ | with_reducible refine Below.drew ?_ | with_reducible refine below_alloc ?_ _ | (with_reducible refine Below.setCell ?_ (by first | (simp; done) | omega | (simp; omega)) _) | with_reducible refine belows ?_ (by assumption)))) hlb
            go_roundw
            case rel => exact ⟨k + 1, by go_num, by omega, Lib.hid ⟨hr2, h2.trans (Below.mono (by (repeat (first | with_reducible exact Below.refl _ _ | with_reducible assumption | with_reducible refine below_drewN ?_ _ | with_reducible refine Below.drew ?_ | with_reducible refine below_alloc ?_ _ | (with_reducible refine Below.setCell ?_ (by first | (simp; done) | omega | (simp; omega)) _) | with_reducible refine belows ?_ (by assumption)))) (Nat.le_of_lt h1)), hr3⟩, HS⟩
            case measure => (simp [intOf]; omega)
        · rw [hh, if_pos rfl, ← HK.out] at hs
          have hn : decV y = decO (some ⟨(k : Int) + 1, getF y 7 5, getF y 15 5, 0#64, readI 67 y⟩) := by unfold decV decF; rw [hs]; show decO (some (decI k y)) = _; rw [hd2]
          obtain ⟨hb, rfl⟩ := test_yes c hy hd2 hh hX
          rw [hb] at cE
          rw [z0] at cE
          have HN := Lib.hid hn
          clear hn hX hd hd2 HD hh hs hb
          obtain ⟨-, ⟨r0, r1, r2, r3, r4⟩, y0, y1, y2, y3, y4⟩ := HA.out.1
          go_wp2_with (first | (go_at_call 30; (with_reducible refine (imm_C y _).mono ?_); rintro e w' ⟨rfl, hbl⟩; obtain ⟨hcw, hfw, hsw⟩ := below_ifs hbl; (try simp only [World.size_alloc, World.size_setCell, World.size_drew, size_drewN_] at hcw hfw hsw)) | (go_at_call 31; (with_reducible refine (rget13_any _ _ _ _).mono ?_); rintro e w' ⟨rfl, hbl⟩; obtain ⟨hcw, hfw, hsw⟩ := below_ifs hbl; (try simp only [World.size_alloc, World.size_setCell, World.size_drew, size_drewN_] at hcw hfw hsw)) | (go_at_call 8; (with_reducible refine (cE _).mono ?_); rintro e w' ⟨rfl, hbl⟩; obtain ⟨hcw, hfw, hsw⟩ := below_ifs hbl; (try simp only [World.size_alloc, World.size_setCell, World.size_drew, size_drewN_] at hcw hfw hsw)))
          refine bodyPost_ret (results_ct [.int .i64 ((k : Int) + 1), .int .i64 (S (getF y 7 5)), .int .i64 (S (getF y 15 5)), .int .i64 0, .int .i64 (S (readI 67 y))] (.bool true) Try.results10 rfl rfl ?_ Try.underlying28 rfl (by kernel_rfl)) rfl ?_
          · (first | (go_simp; done) | (go_simp; (simp [↓IntWalk.iteOmega]; done)) | (go_simp; intros; omega) | (go_simp; simp [↓IntWalk.iteOmega]; intros; omega))
          · exact ⟨by rw [HN.out]; rfl, by rw [hp]; refine below_five p ?_ _ _ _ _ _; exact h2.trans (Below.mono (by (repeat (first | with_reducible exact Below.refl _ _ | with_reducible assumption | with_reducible refine below_drewN ?_ _ | with_reducible refine Below.drew ?_ | with_reducible refine below_alloc ?_ _ | (with_reducible refine Below.setCell ?_ (by first | (simp; done) | omega | (simp; omega)) _) | with_reducible refine belows ?_ (by assumption)))) (Nat.le_of_lt h1))⟩
      · have hd2 : decI k y = ⟨(k : Int) + 1, getF y 7 5, getF y 15 5, 0#64, readI 72 y⟩ := hd
        obtain ⟨X, cE, hX⟩ := renc_any ((k : Int) + 1) (getF y 7 5) (getF y 15 5) (0#64) (readI 72 y)
        cases hh : hit y k
        · rw [hh, if_neg (by decide), ← HK.out] at hs
          have HS := Lib.hid hs
          have ht := test_no c hd2 hh hX
          generalize (encF ⟨(k : Int) + 1, getF y 7 5, getF y 15 5, 0#64, readI 72 y⟩).isSome = bb at cE ht
          rw [z0] at cE
          clear hX hd hd2 HD hh hs
          rcases ht with rfl | ⟨rfl, hq⟩
          · go_wp2_with (first | (go_at_call 30; (with_reducible refine (imm_H y _).mono ?_); rintro e w' ⟨rfl, hbl⟩; obtain ⟨hcw, hfw, hsw⟩ := below_ifs hbl; (try simp only [World.size_alloc, World.size_setCell, World.size_drew, size_drewN_] at hcw hfw hsw)) | (go_at_call 31; (with_reducible refine (rget13_any _ _ _ _).mono ?_); rintro e w' ⟨rfl, hbl⟩; obtain ⟨hcw, hfw, hsw⟩ := below_ifs hbl; (try simp only [World.size_alloc, World.size_setCell, World.size_drew, size_drewN_] at hcw hfw hsw)) | (go_at_call 8; (with_reducible refine (cE _).mono ?_); rintro e w' ⟨rfl, hbl⟩; obtain ⟨hcw, hfw, hsw⟩ := below_ifs hbl; (try simp only [World.size_alloc, World.size_setCell, World.size_drew, size_drewN_] at hcw hfw hsw)))
            have hr2 := ResAt.below HA.out.1 (w' := w') (by (repeat (first | with_reducible exact Below.refl _ _ | with_reducible assumption | with_reducible refine below_drewN ?_ _ | with_reducible refine Below.drew ?_ | with_reducible refine below_alloc ?_ _ | (with_reducible refine Below.setCell ?_ (by first | (simp; done) | omega | (simp; omega)) _) | with_reducible refine belows ?_ (by assumption))))
            have hr3 := RowsIn.below HA.out.2.2 (w' := w') (B := wr.heap.size) (by (repeat (first | with_reducible exact Below.refl _ _ | with_reducible assumption | with_reducible refine below_drewN ?_ _ | with_reducible refine Below.drew ?_ | with_reducible refine below_alloc ?_ _ | (with_reducible refine Below.setCell ?_ (by first | (simp; done) | omega | (simp; omega)) _) | with_reducible refine belows ?_ (by assumption)))) hlb
            go_roundw
            case rel => exact ⟨k + 1, by go_num, by omega, Lib.hid ⟨hr2, h2.trans (Below.mono (by (repeat (first | with_reducible exact Below.refl _ _ | with_reducible assumption | with_reducible refine below_drewN ?_ _ | with_reducible refine Below.drew ?_ | with_reducible refine below_alloc ?_ _ | (with_reducible refine Below.setCell ?_ (by first | (simp; done) | omega | (simp; omega)) _) | with_reducible refine belows ?_ (by assumption)))) (Nat.le_of_lt h1)), hr3⟩, HS⟩
            case measure => (simp [intOf]; omega)
          · go_wp2_with (first | (go_at_call 30; (with_reducible refine (imm_H y _).mono ?_); rintro e w' ⟨rfl, hbl⟩; obtain ⟨hcw, hfw, hsw⟩ := below_ifs hbl; (try simp only [World.size_alloc, World.size_setCell, World.size_drew, size_drewN_] at hcw hfw hsw)) | (go_at_call 31; (with_reducible refine (rget13_any _ _ _ _).mono ?_); rintro e w' ⟨rfl, hbl⟩; obtain ⟨hcw, hfw, hsw⟩ := below_ifs hbl; (try simp only [World.size_alloc, World.size_setCell, World.size_drew, size_drewN_] at hcw hfw hsw)) | (go_at_call 8; (with_reducible refine (cE _).mono ?_); rintro e w' ⟨rfl, hbl⟩; obtain ⟨hcw, hfw, hsw⟩ := below_ifs hbl; (try simp only [World.size_alloc, World.size_setCell, World.size_drew, size_drewN_] at hcw hfw hsw)))
            have hr2 := ResAt.below HA.out.1 (w' := w') (by (repeat (first | with_reducible exact Below.refl _ _ | with_reducible assumption | with_reducible refine below_drewN ?_ _ | with_reducible refine Below.drew ?_ | with_reducible refine below_alloc ?_ _ | (with_reducible refine Below.setCell ?_ (by first | (simp; done) | omega | (simp; omega)) _) | with_reducible refine belows ?_ (by assumption))))
            have hr3 := RowsIn.below HA.out.2.2 (w' := w') (B := wr.heap.size) (by (repeat (first | with_reducible exact Below.refl _ _ | with_reducible assumption | with_reducible refine below_drewN ?_ _ | with_reducible refine Below.drew ?_ | with_reducible refine below_alloc ?_ _ | (with_reducible refine Below.setCell ?_ (by first | (simp; done) | omega | (simp; omega)) _) | with_reducible refine belows ?_ (by assumption)))) hlb
            go_roundw
            case rel => exact ⟨k + 1, by go_num, by omega, Lib.hid ⟨hr2, h2.trans (Below.mono (by (repeat (first | with_reducible exact Below.refl _ _ | with_reducible assumption | with_reducible refine below_drewN ?_ _ | with_reducible refine Below.drew ?_ | with_reducible refine below_alloc ?_ _ | (with_reducible refine Below.setCell ?_ (by first | (simp; done) | omega | (simp; omega)) _) | with_reducible refine belows ?_ (by assumption)))) (Nat.le_of_lt h1)), hr3⟩, HS⟩
            case measure => (simp [intOf]; omega)
        · rw [hh, if_pos rfl, ← HK.out] at hs
          have hn : decV y = decO (some ⟨(k : Int) + 1, getF y 7 5, getF y 15 5, 0#64, readI 72 y⟩) := by unfold decV decF; rw [hs]; show decO (some (decI k y)) = _; rw [hd2]
          obtain ⟨hb, rfl⟩ := test_yes c hy hd2 hh hX
          rw [hb] at cE
          rw [z0] at cE
          have HN := Lib.hid hn
          clear hn hX hd hd2 HD hh hs hb
          obtain ⟨-, ⟨r0, r1, r2, r3, r4⟩, y0, y1, y2, y3, y4⟩ := HA.out.1
          go_wp2_with (first | (go_at_call 30; (with_reducible refine (imm_H y _).mono ?_); rintro e w' ⟨rfl, hbl⟩; obtain ⟨hcw, hfw, hsw⟩ := below_ifs hbl; (try simp only [World.size_alloc, World.size_setCell, World.size_drew, size_drewN_] at hcw hfw hsw)) | (go_at_call 31; (with_reducible refine (rget13_any _ _ _ _).mono ?_); rintro e w' ⟨rfl, hbl⟩; obtain ⟨hcw, hfw, hsw⟩ := below_ifs hbl; (try simp only [World.size_alloc, World.size_setCell, World.size_drew, size_drewN_] at hcw hfw hsw)) | (go_at_call 8; (with_reducible refine (cE _).mono ?_); rintro e w' ⟨rfl, hbl⟩; obtain ⟨hcw, hfw, hsw⟩ := below_ifs hbl; (try simp only [World.size_alloc, World.size_setCell, World.size_drew, size_drewN_] at hcw hfw hsw)))
          refine bodyPost_ret (results_ct [.int .i64 ((k : Int) + 1), .int .i64 (S (getF y 7 5)), .int .i64 (S (getF y 15 5)), .int .i64 0, .int .i64 (S (readI 72 y))] (.bool true) Try.results10 rfl rfl ?_ Try.underlying28 rfl (by kernel_rfl)) rfl ?_
          · (first | (go_simp; done) | (go_simp; (simp [↓IntWalk.iteOmega]; done)) | (go_simp; intros; omega) | (go_simp; simp [↓IntWalk.iteOmega]; intros; omega))
          · exact ⟨by rw [HN.out]; rfl, by rw [hp]; refine below_five p ?_ _ _ _ _ _; exact h2.trans (Below.mono (by (repeat (first | with_reducible exact Below.refl _ _ | with_reducible assumption | with_reducible refine below_drewN ?_ _ | with_reducible refine Below.drew ?_ | with_reducible refine below_alloc ?_ _ | (with_reducible refine Below.setCell ?_ (by first | (simp; done) | omega | (simp; omega)) _) | with_reducible refine belows ?_ (by assumption)))) (Nat.le_of_lt h1))⟩
      · have hd2 : decI k y = ⟨(k : Int) + 1, 0#64, getF y 15 5, getF y 20 5, readI 83 y⟩ := hd
        obtain ⟨X, cE, hX⟩ := renc_any ((k : Int) + 1) (0#64) (getF y 15 5) (getF y 20 5) (readI 83 y)
        cases hh : hit y k
        · rw [hh, if_neg (by decide), ← HK.out] at hs
          have HS := Lib.hid hs
          have ht := test_no c hd2 hh hX
          generalize (encF ⟨(k : Int) + 1, 0#64, getF y 15 5, getF y 20 5, readI 83 y⟩).isSome = bb at cE ht
          rw [z0] at cE
          clear hX hd hd2 HD hh hs
          rcases ht with rfl | ⟨rfl, hq⟩
          · go_wp2_with (first | (go_at_call 30; (with_reducible refine (imm_S y _).mono ?_); rintro e w' ⟨rfl, hbl⟩; obtain ⟨hcw, hfw, hsw⟩ := below_ifs hbl; (try simp only [World.size_alloc, World.size_setCell, World.size_drew, size_drewN_] at hcw hfw hsw)) | (go_at_call 31; (with_reducible refine (rget13_any _ _ _ _).mono ?_); rintro e w' ⟨rfl, hbl⟩; obtain ⟨hcw, hfw, hsw⟩ := below_ifs hbl; (try simp only [World.size_alloc, World.size_setCell, World.size_drew, size_drewN_] at hcw hfw hsw)) | (go_at_call 8; (with_reducible refine (cE _).mono ?_); rintro e w' ⟨rfl, hbl⟩; obtain ⟨hcw, hfw, hsw⟩ := below_ifs hbl; (try simp only [World.size_alloc, World.size_setCell, World.size_drew, size_drewN_] at hcw hfw hsw)))
            have hr2 := ResAt.below HA.out.1 (w' := w') (by (repeat (first | with_reducible exact Below.refl _ _ | with_reducible assumption | with_reducible refine below_drewN ?_ _ | with_reducible refine Below.drew ?_ | with_reducible refine below_alloc ?_ _ | (with_reducible refine Below.setCell ?_ (by first | (simp; done) | omega | (simp; omega)) _) | with_reducible refine belows ?_ (by assumption))))
            have hr3 := RowsIn.below HA.out.2.2 (w' := w') (B := wr.heap.size) (by (repeat (first | with_reducible exact Below.refl _ _ | with_reducible assumption | with_reducible refine below_drewN ?_ _ | with_reducible refine Below.drew ?_ | with_reducible refine below_alloc ?_ _ | (with_reducible refine Below.setCell ?_ (by first | (simp; done) | omega | (simp; omega)) _) | with_reducible refine belows ?_ (by assumption)))) hlb
            go_roundw
            case rel => exact ⟨k + 1, by go_num, by omega, Lib.hid ⟨hr2, h2.trans (Below.mono (by (repeat (first | with_reducible exact Below.refl _ _ | with_reducible assumption | with_reducible refine below_drewN ?_ _ | with_reducible refine Below.drew ?_ | with_reducible refine below_alloc ?_ _ | (with_reducible refine Below.setCell ?_ (by first | (simp; done) | omega | (simp; omega)) _) | with_reducible refine belows ?_ (by assumption)))) (Nat.le_of_lt h1)), hr3⟩, HS⟩
            case measure => (simp [intOf]; omega)
          · go_wp2_with (first | (go_at_call 30; (with_reducible refine (imm_S y _).mono ?_); rintro e w' ⟨rfl, hbl⟩; obtain ⟨hcw, hfw, hsw⟩ := below_ifs hbl; (try simp only [World.size_alloc, World.size_setCell, World.size_drew, size_drewN_] at hcw hfw hsw)) | (go_at_call 31; (with_reducible refine (rget13_any _ _ _ _).mono ?_); rintro e w' ⟨rfl, hbl⟩; obtain ⟨hcw, hfw, hsw⟩ := below_ifs hbl; (try simp only [World.size_alloc, World.size_setCell, World.size_drew, size_drewN_] at hcw hfw hsw)) | (go_at_call 8; (with_reducible refine (cE _).mono ?_); rintro e w' ⟨rfl, hbl⟩; obtain ⟨hcw, hfw, hsw⟩ := below_ifs hbl; (try simp only [World.size_alloc, World.size_setCell, World.size_drew, size_drewN_] at hcw hfw hsw)))
            have hr2 := ResAt.below HA.out.1 (w' := w') (by (repeat (first | with_reducible exact Below.refl _ _ | with_reducible assumption | with_reducible refine below_drewN ?_ _ | with_reducible refine Below.drew ?_ | with_reducible refine below_alloc ?_ _ | (with_reducible refine Below.setCell ?_ (by first | (simp; done) | omega | (simp; omega)) _) | with_reducible refine belows ?_ (by assumption))))
            have hr3 := RowsIn.below HA.out.2.2 (w' := w') (B := wr.heap.size) (by (repeat (first | with_reducible exact Below.refl _ _ | with_reducible assumption | with_reducible refine below_drewN ?_ _ | with_reducible refine Below.drew ?_ | with_reducible refine below_alloc ?_ _ | (with_reducible refine Below.setCell ?_ (by first | (simp; done) | omega | (simp; omega)) _) | with_reducible refine belows ?_ (by assumption)))) hlb
            go_roundw
            case rel => exact ⟨k + 1, by go_num, by omega, Lib.hid ⟨hr2, h2.trans (Below.mono (by (repeat (first | with_reducible exact Below.refl _ _ | with_reducible assumption | with_reducible refine below_drewN ?_ _ | with_reducible refine Below.drew ?_ | with_reducible refine below_alloc ?_ _ | (with_reducible refine Below.setCell ?_ (by first | (simp; done) | omega | (simp; omega)) _) | with_reducible refine belows ?_ (by assumption)))) (Nat.le_of_lt h1)), hr3⟩, HS⟩
            case measure => (simp [intOf]; omega)
        · rw [hh, if_pos rfl, ← HK.out] at hs
          have hn : decV y = decO (some ⟨(k : Int) + 1, 0#64, getF y 15 5, getF y 20 5, readI 83 y⟩) := by unfold decV decF; rw [hs]; show decO (some (decI k y)) = _; rw [hd2]
          obtain ⟨hb, rfl⟩ := test_yes c hy hd2 hh hX
          rw [hb] at cE
          rw [z0] at cE
          have HN := Lib.hid hn
          clear hn hX hd hd2 HD hh hs hb
          obtain ⟨-, ⟨r0, r1, r2, r3, r4⟩, y0, y1, y2, y3, y4⟩ := HA.out.1
          go_wp2_with (first | (go_at_call 30; (with_reducible refine (imm_S y _).mono ?_); rintro e w' ⟨rfl, hbl⟩; obtain ⟨hcw, hfw, hsw⟩ := below_ifs hbl; (try simp only [World.size_alloc, World.size_setCell, World.size_drew, size_drewN_] at hcw hfw hsw)) | (go_at_call 31; (with_reducible refine (rget13_any _ _ _ _).mono ?_); rintro e w' ⟨rfl, hbl⟩; obtain ⟨hcw, hfw, hsw⟩ := below_ifs hbl; (try simp only [World.size_alloc, World.size_setCell, World.size_drew, size_drewN_] at hcw hfw hsw)) | (go_at_call 8; (with_reducible refine (cE _).mono ?_); rintro e w' ⟨rfl, hbl⟩; obtain ⟨hcw, hfw, hsw⟩ := below_ifs hbl; (try simp only [World.size_alloc, World.size_setCell, World.size_drew, size_drewN_] at hcw hfw hsw)))
          refine bodyPost_ret (results_ct [.int .i64 ((k : Int) + 1), .int .i64 0, .int .i64 (S (getF y 15 5)), .int .i64 (S (getF y 20 5)), .int .i64 (S (readI 83 y))] (.bool true) Try.results10 rfl rfl ?_ Try.underlying28 rfl (by kernel_rfl)) rfl ?_
          · (first | (go_simp; done) | (go_simp; (simp [↓IntWalk.iteOmega]; done)) | (go_simp; intros; omega) | (go_simp; simp [↓IntWalk.iteOmega]; intros; omega))
          · exact ⟨by rw [HN.out]; rfl, by rw [hp]; refine below_five p ?_ _ _ _ _ _; exact h2.trans (Below.mono (by (repeat (first | with_reducible exact Below.refl _ _ | with_reducible assumption | with_reducible refine below_drewN ?_ _ | with_reducible refine Below.drew ?_ | with_reducible refine below_alloc ?_ _ | (with_reducible refine Below.setCell ?_ (by first | (simp; done) | omega | (simp; omega)) _) | with_reducible refine belows ?_ (by assumption)))) (Nat.le_of_lt h1))⟩
      · have hd2 : decI k y = ⟨(k : Int) + 1, 0#64, getF y 15 5, getF y 20 5, readI 66 y⟩ := hd
        obtain ⟨X, cE, hX⟩ := renc_any ((k : Int) + 1) (0#64) (getF y 15 5) (getF y 20 5) (readI 66 y)
        cases hh : hit y k
        · rw [hh, if_neg (by decide), ← HK.out] at hs
          have HS := Lib.hid hs
          have ht := test_no c hd2 hh hX
          generalize (encF ⟨(k : Int) + 1, 0#64, getF y 15 5, getF y 20 5, readI 66 y⟩).isSome = bb at cE ht
          rw [z0] at cE
          clear hX hd hd2 HD hh hs
          rcases ht with rfl | ⟨rfl, hq⟩
          · go_wp2_with (first | (go_at_call 30; (with_reducible refine (imm_B y _).mono ?_); rintro e w' ⟨rfl, hbl⟩; obtain ⟨hcw, hfw, hsw⟩ := below_ifs hbl; (try simp only [World.size_alloc, World.size_setCell, World.size_drew, size_drewN_] at hcw hfw hsw)) | (go_at_call 31; (with_reducible refine (rget13_any _ _ _ _).mono ?_); rintro e w' ⟨rfl, hbl⟩; obtain ⟨hcw, hfw, hsw⟩ := below_ifs hbl; (try simp only [World.size_alloc, World.size_setCell, World.size_drew, size_drewN_] at hcw hfw hsw)) | (go_at_call 8; (with_reducible refine (cE _).mono ?_); rintro e w' ⟨rfl, hbl⟩; obtain ⟨hcw, hfw, hsw⟩ := below_ifs hbl; (try simp only [World.size_alloc, World.size_setCell, World.size_drew, size_drewN_] at hcw hfw hsw)))
            have hr2 := ResAt.below HA.out.1 (w' := w') (by (repeat (first | with_reducible exact Below.refl _ _ | with_reducible assumption | with_reducible refine below_drewN ?_ _ | with_reducible refine Below.drew ?_ | with_reducible refine below_alloc ?_ _ | (with_reducible refine Below.setCell ?_ (by first | (simp; done) | omega | (simp; omega)) _) | with_reducible refine belows ?_ (by assumption))))
            have hr3 := RowsIn.below HA.out.2.2 (w' := w') (B := wr.heap.size) (by (repeat (first | with_reducible exact Below.refl _ _ | with_reducible assumption | with_reducible refine below_drewN ?_ _ | with_reducible refine Below.drew ?_ | with_reducible refine below_alloc ?_ _ | (with_reducible refine Below.setCell ?_ (by first | (simp; done) | omega | (simp; omega)) _) | with_reducible refine belows ?_ (by assumption)))) hlb
            go_roundw
            case rel => exact ⟨k + 1, by go_num, by omega, Lib.hid ⟨hr2, h2.trans (Below.mono (by (repeat (first | with_reducible exact Below.refl _ _ | with_reducible assumption | with_reducible refine below_drewN ?_ _ | with_reducible refine Below.drew ?_ | with_reducible refine below_alloc ?_ _ | (with_reducible refine Below.setCell ?_ (by first | (simp; done) | omega | (simp; omega)) _) | with_reducible refine belows ?_ (by assumption)))) (Nat.le_of_lt h1)), hr3⟩, HS⟩
            case measure => (simp [intOf]; omega)
          · go_wp2_with (first | (go_at_call 30; (with_reducible refine (imm_B y _).mono ?_); rintro e w' ⟨rfl, hbl⟩; obtain ⟨hcw, hfw, hsw⟩ := below_ifs hbl; (try simp only [World.size_alloc, World.size_setCell, World.size_drew, size_drewN_] at hcw hfw hsw)) | (go_at_call 31; (with_reducible refine (rget13_any _ _ _ _).mono ?_); rintro e w' ⟨rfl, hbl⟩; obtain ⟨hcw, hfw, hsw⟩ := below_ifs hbl; (try simp only [World.size_alloc, World.size_setCell, World.size_drew, size_drewN_] at hcw hfw hsw)) | (go_at_call 8; (with_reducible refine (cE _).mono ?_); rintro e w' ⟨rfl, hbl⟩; obtain ⟨hcw, hfw, hsw⟩ := below_ifs hbl; (try simp only [World.size_alloc, World.size_setCell, World.size_drew, size_drewN_] at hcw hfw hsw)))
            have hr2 := ResAt.below HA.out.1 (w' := w') (by (repeat (first | with_reducible exact Below.refl _ _ | with_reducible assumption | with_reducible refine below_drewN ?_ _ | with_reducible refine Below.drew ?_ | with_reducible refine below_alloc ?_ _ | (with_reducible refine Below.setCell ?_ (by first | (simp; done) | omega | (simp; omega)) _) | with_reducible refine belows ?_ (by assumption))))
            have hr3 := RowsIn.below HA.out.2.2 (w' := w') (B := wr.heap.size) (by (repeat (first | with_reducible exact Below.refl _ _ | with_reducible assumption | with_reducible refine below_drewN ?_ _ | with_reducible refine Below.drew ?_ | with_reducible refine below_alloc ?_ _ | (with_reducible refine Below.setCell ?_ (by first | (simp; done) | omega | (simp; omega)) _) | with_reducible refine belows ?_ (by assumption)))) hlb
            go_roundw
            case rel => exact ⟨k + 1, by go_num, by omega, Lib.hid ⟨hr2, h2.trans (Below.mono (by (repeat (first | with_reducible exact Below.refl _ _ | with_reducible assumption | with_reducible refine below_drewN ?_ _ | with_reducible refine Below.drew ?_ | with_reducible refine below_alloc ?_ _ | (with_reducible refine Below.setCell ?_ (by first | (simp; done) | omega | (simp; omega)) _) | with_reducible refine belows ?_ (by assumption)))) (Nat.le_of_lt h1)), hr3⟩, HS⟩
            case measure => (simp [intOf]; omega)
        · rw [hh, if_pos rfl, ← HK.out] at hs
          have hn : decV y = decO (some ⟨(k : Int) + 1, 0#64, getF y 15 5, getF y 20 5, readI 66 y⟩) := by unfold decV decF; rw [hs]; show decO (some (decI k y)) = _; rw [hd2]
          obtain ⟨hb, rfl⟩ := test_yes c hy hd2 hh hX
          rw [hb] at cE
          rw [z0] at cE
          have HN := Lib.hid hn
          clear hn hX hd hd2 HD hh hs hb
          obtain ⟨-, ⟨r0, r1, r2, r3, r4⟩, y0, y1, y2, y3, y4⟩ := HA.out.1
          go_wp2_with (first | (go_at_call 30; (with_reducible refine (imm_B y _).mono ?_); rintro e w' ⟨rfl, hbl⟩; obtain ⟨hcw, hfw, hsw⟩ := below_ifs hbl; (try simp only [World.size_alloc, World.size_setCell, World.size_drew, size_drewN_] at hcw hfw hsw)) | (go_at_call 31; (with_reducible refine (rget13_any _ _ _ _).mono ?_); rintro e w' ⟨rfl, hbl⟩; obtain ⟨hcw, hfw, hsw⟩ := below_ifs hbl; (try simp only [World.size_alloc, World.size_setCell, World.size_drew, size_drewN_] at hcw hfw hsw)) | (go_at_call 8; (with_reducible refine (cE _).mono ?_); rintro e w' ⟨rfl, hbl⟩; obtain ⟨hcw, hfw, hsw⟩ := below_ifs hbl; (try simp only [World.size_alloc, World.size_setCell, World.size_drew, size_drewN_] at hcw hfw hsw)))
          refine bodyPost_ret (results_ct [.int .i64 ((k : Int) + 1), .int .i64 0, .int .i64 (S (getF y 15 5)), .int .i64 (S (getF y 20 5)), .int .i64 (S (readI 66 y))] (.bool true) Try.results10 rfl rfl ?_ Try.underlying28 rfl (by kernel_rfl)) rfl ?_
          · (first | (go_simp; done) | (go_simp; (simp [↓IntWalk.iteOmega]; done)) | (go_simp; intros; omega) | (go_simp; simp [↓IntWalk.iteOmega]; intros; omega))
          · exact ⟨by rw [HN.out]; rfl, by rw [hp]; refine below_five p ?_ _ _ _ _ _; exact h2.trans (Below.mono (by (repeat (first | with_reducible exact Below.refl _ _ | with_reducible assumption | with_reducible refine below_drewN ?_ _ | with_reducible refine Below.drew ?_ | with_reducible refine below_alloc ?_ _ | (with_reducible refine Below.setCell ?_ (by first | (simp; done) | omega | (simp; omega)) _) | with_reducible refine belows ?_ (by assumption)))) (Nat.le_of_lt h1))⟩
      · have hd2 : decI k y = ⟨(k : Int) + 1, getF y 7 5, 0#64, 0#64, readI 85 y⟩ := hd
        obtain ⟨X, cE, hX⟩ := renc_any ((k : Int) + 1) (getF y 7 5) (0#64) (0#64) (readI 85 y)
        cases hh : hit y k
        · rw [hh, if_neg (by decide), ← HK.out] at hs
          have HS := Lib.hid hs
          have ht := test_no c hd2 hh hX
          generalize (encF ⟨(k : Int) + 1, getF y 7 5, 0#64, 0#64, readI 85 y⟩).isSome = bb at cE ht
          rw [z0] at cE
          clear hX hd hd2 HD hh hs
          rcases ht with rfl | ⟨rfl, hq⟩
          · go_wp2_with (first | (go_at_call 30; (with_reducible refine (imm_U y _).mono ?_); rintro e w' ⟨rfl, hbl⟩; obtain ⟨hcw, hfw, hsw⟩ := below_ifs hbl; (try simp only [World.size_alloc, World.size_setCell, World.size_drew, size_drewN_] at hcw hfw hsw)) | (go_at_call 31; (with_reducible refine (rget13_any _ _ _ _).mono ?_); rintro e w' ⟨rfl, hbl⟩; obtain ⟨hcw, hfw, hsw⟩ := below_ifs hbl; (try simp only [World.size_alloc, World.size_setCell, World.size_drew, size_drewN_] at hcw hfw hsw)) | (go_at_call 8; (with_reducible refine (cE _).mono ?_); rintro e w' ⟨rfl, hbl⟩; obtain ⟨hcw, hfw, hsw⟩ := below_ifs hbl; (try simp only [World.size_alloc, World.size_setCell, World.size_drew, size_drewN_] at hcw hfw hsw)))
            have hr2 := ResAt.below HA.out.1 (w' := w') (by (repeat (first | with_reducible exact Below.refl _ _ | with_reducible assumption | with_reducible refine below_drewN ?_ _ | with_reducible refine Below.drew ?_ | with_reducible refine below_alloc ?_ _ | (with_reducible refine Below.setCell ?_ (by first | (simp; done) | omega | (simp; omega)) _) | with_reducible refine belows ?_ (by assumption))))
            have hr3 := RowsIn.below HA.out.2.2 (w' := w') (B := wr.heap.size) (by (repeat (first | with_reducible exact Below.refl _ _ | with_reducible assumption | with_reducible refine below_drewN ?_ _ | with_reducible refine Below.drew ?_ | with_reducible refine below_alloc ?_ _ | (with_reducible refine Below.setCell ?_ (by first | (simp; done) | omega | (simp; omega)) _) | with_reducible refine belows ?_ (by assumption)))) hlb
            go_roundw
            case rel => exact ⟨k + 1, by go_num, by omega, Lib.hid ⟨hr2, h2.trans (Below.mono (by (repeat (first | with_reducible exact Below.refl _ _ | with_reducible assumption | with_reducible refine below_drewN ?_ _ | with_reducible refine Below.drew ?_ | with_reducible refine below_alloc ?_ _ | (with_reducible refine Below.setCell ?_ (by first | (simp; done) | omega | (simp; omega)) _) | with_reducible refine belows ?_ (by assumption)))) (Nat.le_of_lt h1)), hr3⟩, HS⟩
            case measure => (simp [intOf]; omega)
          · go_wp2_with (first | (go_at_call 30; (with_reducible refine (imm_U y _).mono ?_); rintro e w' ⟨rfl, hbl⟩; obtain ⟨hcw, hfw, hsw⟩ := below_ifs hbl; (try simp only [World.size_alloc, World.size_setCell, World.size_drew, size_drewN_] at hcw hfw hsw)) | (go_at_call 31; (with_reducible refine (rget13_any _ _ _ _).mono ?_); rintro e w' ⟨rfl, hbl⟩; obtain ⟨hcw, hfw, hsw⟩ := below_ifs hbl; (try simp only [World.size_alloc, World.size_setCell, World.size_drew, size_drewN_] at hcw hfw hsw)) | (go_at_call 8; (with_reducible refine (cE _).mono ?_); rintro e w' ⟨rfl, hbl⟩; obtain ⟨hcw, hfw, hsw⟩ := below_ifs hbl; (try simp only [World.size_alloc, World.size_setCell, World.size_drew, size_drewN_] at hcw hfw hsw)))
            have hr2 := ResAt.below HA.out.1 (w' := w') (by (repeat (first | with_reducible exact Below.refl _ _ | with_reducible assumption | with_reducible refine below_drewN ?_ _ | with_reducible refine Below.drew ?_ | with_reducible refine below_alloc ?_ _ | (with_reducible refine Below.setCell ?_ (by first | (simp; done) | omega | (simp; omega)) _) | with_reducible refine belows ?_ (by assumption))))
            have hr3 := RowsIn.below HA.out.2.2 (w' := w') (B := wr.heap.size) (by (repeat (first | with_reducible exact Below.refl _ _ | with_reducible assumption | with_reducible refine below_drewN ?_ _ | with_reducible refine Below.drew ?_ | with_reducible refine below_alloc ?_ _ | (with_reducible refine Below.setCell ?_ (by first | (simp; done) | omega | (simp; omega)) _) | with_reducible refine belows ?_ (by assumption)))) hlb
            go_roundw
            case rel => exact ⟨k + 1, by go_num, by omega, Lib.hid ⟨hr2, h2.trans (Below.mono (by (repeat (first | with_reducible exact Below.refl _ _ | with_reducible assumption | with_reducible refine below_drewN ?_ _ | with_reducible refine Below.drew ?_ | with_reducible refine below_alloc ?_ _ | (with_reducible refine Below.setCell ?_ (by first | (simp; done) | omega | (simp; omega)) _) | with_reducible refine belows ?_ (by assumption)))) (Nat.le_of_lt h1)), hr3⟩, HS⟩
            case measure => (simp [intOf]; omega)
        · rw [hh, if_pos rfl, ← HK.out] at hs
          have hn : decV y = decO (some ⟨(k : Int) + 1, getF y 7 5, 0#64, 0#64, readI 85 y⟩) := by unfold decV decF; rw [hs]; show decO (some (decI k y)) = _; rw [hd2]
          obtain ⟨hb, rfl⟩ := test_yes c hy hd2 hh hX
          rw [hb] at cE
          rw [z0] at cE
          have HN := Lib.hid hn
          clear hn hX hd hd2 HD hh hs hb
          obtain ⟨-, ⟨r0, r1, r2, r3, r4⟩, y0, y1, y2, y3, y4⟩ := HA.out.1
          go_wp2_with (first | (go_at_call 30; (with_reducible refine (imm_U y _).mono ?_); rintro e w' ⟨rfl, hbl⟩; obtain ⟨hcw, hfw, hsw⟩ := below_ifs hbl; (try simp only [World.size_alloc, World.size_setCell, World.size_drew, size_drewN_] at hcw hfw hsw)) | (go_at_call 31; (with_reducible refine (rget13_any _ _ _ _).mono ?_); rintro e w' ⟨rfl, hbl⟩; obtain ⟨hcw, hfw, hsw⟩ := below_ifs hbl; (try simp only [World.size_alloc, World.size_setCell, World.size_drew, size_drewN_] at hcw hfw hsw)) | (go_at_call 8; (with_reducible refine (cE _).mono ?_); rintro e w' ⟨rfl, hbl⟩; obtain ⟨hcw, hfw, hsw⟩ := below_ifs hbl; (try simp only [World.size_alloc, World.size_setCell, World.size_drew, size_drewN_] at hcw hfw hsw)))
          refine bodyPost_ret (results_ct [.int .i64 ((k : Int) + 1), .int .i64 (S (getF y 7 5)), .int .i64 0, .int .i64 0, .int .i64 (S (readI 85 y))] (.bool true) Try.results10 rfl rfl ?_ Try.underlying28 rfl (by kernel_rfl)) rfl ?_
          · (first | (go_simp; done) | (go_simp; (simp [↓IntWalk.iteOmega]; done)) | (go_simp; intros; omega) | (go_simp; simp [↓IntWalk.iteOmega]; intros; omega))
          · exact ⟨by rw [HN.out]; rfl, by rw [hp]; refine below_five p ?_ _ _ _ _ _; exact h2.trans (Below.mono (by (repeat (first | with_reducible exact Below.refl _ _ | with_reducible assumption | with_reducible refine below_drewN ?_ _ | with_reducible refine Below.drew ?_ | with_reducible refine below_alloc ?_ _ | (with_reducible refine Below.setCell ?_ (by first | (simp; done) | omega | (simp; omega)) _) | with_reducible refine belows ?_ (by assumption)))) (Nat.le_of_lt h1))⟩
      · have hd2 : decI k y = ⟨(k : Int) + 1, getF y 7 5, 0#64, 0#64, readI 74 y⟩ := hd
        obtain ⟨X, cE, hX⟩ := renc_any ((k : Int) + 1) (getF y 7 5) (0#64) (0#64) (readI 74 y)
        cases hh : hit y k
        · rw [hh, if_neg (by decide), ← HK.out] at hs
          have HS := Lib.hid hs
          have ht := test_no c hd2 hh hX
          generalize (encF ⟨(k : Int) + 1, getF y 7 5, 0#64, 0#64, readI 74 y⟩).isSome = bb at cE ht
          rw [z0] at cE
          clear hX hd hd2 HD hh hs
          rcases ht with rfl | ⟨rfl, hq⟩
          · go_wp2_with (first | (go_at_call 30; (with_reducible refine (imm_J y _).mono ?_); rintro e w' ⟨rfl, hbl⟩; obtain ⟨hcw, hfw, hsw⟩ := below_ifs hbl; (try simp only [World.size_alloc, World.size_setCell, World.size_drew, size_drewN_] at hcw hfw hsw)) | (go_at_call 31; (with_reducible refine (rget13_any _ _ _ _).mono ?_); rintro e w' ⟨rfl, hbl⟩; obtain ⟨hcw, hfw, hsw⟩ := below_ifs hbl; (try simp only [World.size_alloc, World.size_setCell, World.size_drew, size_drewN_] at hcw hfw hsw)) | (go_at_call 8; (with_reducible refine (cE _).mono ?_); rintro e w' ⟨rfl, hbl⟩; obtain ⟨hcw, hfw, hsw⟩ := below_ifs hbl; (try simp only [World.size_alloc, World.size_setCell, World.size_drew, size_drewN_] at hcw hfw hsw)))
            have hr2 := ResAt.below HA.out.1 (w' := w') (by (repeat (first | with_reducible exact Below.refl _ _ | with_reducible assumption | with_reducible refine below_drewN ?_ _ | with_reducible refine Below.drew ?_ | with_reducible refine below_alloc ?_ _ | (with_reducible refine Below.setCell ?_ (by first | (simp; done) | omega | (simp; omega)) _) | with_reducible refine belows ?_ (by assumption))))
            have hr3 := RowsIn.below HA.out.2.2 (w' := w') (B := wr.heap.size) (by (repeat (first | with_reducible exact Below.refl _ _ | with_reducible assumption | with_reducible refine below_drewN ?_ _ | with_reducible refine Below.drew ?_ | with_reducible refine below_alloc ?_ _ | (with_reducible refine Below.setCell ?_ (by first | (simp; done) | omega | (simp; omega)) _) | with_reducible refine belows ?_ (by assumption)))) hlb
            go_roundw
            case rel => exact ⟨k + 1, by go_num, by omega, Lib.hid ⟨hr2, h2.trans (Below.mono (by (repeat (first | with_reducible exact Below.refl _ _ | with_reducible assumption | with_reducible refine below_drewN ?_ _ | with_reducible refine Below.drew ?_ | with_reducible refine below_alloc ?_ _ | (with_reducible refine Below.setCell ?_ (by first | (simp; done) | omega | (simp; omega)) _) | with_reducible refine belows ?_ (by assumption)))) (Nat.le_of_lt h1)), hr3⟩, HS⟩
            case measure => (simp [intOf]; omega)
          · go_wp2_with (first | (go_at_call 30; (with_reducible refine (imm_J y _).mono ?_); rintro e w' ⟨rfl, hbl⟩; obtain ⟨hcw, hfw, hsw⟩ := below_ifs hbl; (try simp only [World.size_alloc, World.size_setCell, World.size_drew, size_drewN_] at hcw hfw hsw)) | (go_at_call 31; (with_reducible refine (rget13_any _ _ _ _).mono ?_); rintro e w' ⟨rfl, hbl⟩; obtain ⟨hcw, hfw, hsw⟩ := below_ifs hbl; (try simp only [World.size_alloc, World.size_setCell, World.size_drew, size_drewN_] at hcw hfw hsw)) | (go_at_call 8; (with_reducible refine (cE _).mono ?_); rintro e w' ⟨rfl, hbl⟩; obtain ⟨hcw, hfw, hsw⟩ := below_ifs hbl; (try simp only [World.size_alloc, World.size_setCell, World.size_drew, size_drewN_] at hcw hfw hsw)))
            have hr2 := ResAt.below HA.out.1 (w' := w') (by (repeat (first | with_reducible exact Below.refl _ _ | with_reducible assumption | with_reducible refine below_drewN ?_ _ | with_reducible refine Below.drew ?_ | with_reducible refine below_alloc ?_ _ | (with_reducible refine Below.setCell ?_ (by first | (simp; done) | omega | (simp; omega)) _) | with_reducible refine belows ?_ (by assumption))))
            have hr3 := RowsIn.below HA.out.2.2 (w' := w') (B := wr.heap.size) (by (repeat (first | with_reducible exact Below.refl _ _ | with_reducible assumption | with_reducible refine below_drewN ?_ _ | with_reducible refine Below.drew ?_ | with_reducible refine below_alloc ?_ _ | (with_reducible refine Below.setCell ?_ (by first | (simp; done) | omega | (simp; omega)) _) | with_reducible refine belows ?_ (by assumption)))) hlb
            go_roundw
            case rel => exact ⟨k + 1, by go_num, by omega, Lib.hid ⟨hr2, h2.trans (Below.mono (by (repeat (first | with_reducible exact Below.refl _ _ | with_reducible assumption | with_reducible refine below_drewN ?_ _ | with_reducible refine Below.drew ?_ | with_reducible refine below_alloc ?_ _ | (with_reducible refine Below.setCell ?_ (by first | (simp; done) | omega | (simp; omega)) _) | with_reducible refine belows ?_ (by assumption)))) (Nat.le_of_lt h1)), hr3⟩, HS⟩
            case measure => (simp [intOf]; omega)
        · rw [hh, if_pos rfl, ← HK.out] at hs
          have hn : decV y = decO (some ⟨(k : Int) + 1, getF y 7 5, 0#64, 0#64, readI 74 y⟩) := by unfold decV decF; rw [hs]; show decO (some (decI k y)) = _; rw [hd2]
          obtain ⟨hb, rfl⟩ := test_yes c hy hd2 hh hX
          rw [hb] at cE
          rw [z0] at cE
          have HN := Lib.hid hn
          clear hn hX hd hd2 HD hh hs hb
          obtain ⟨-, ⟨r0, r1, r2, r3, r4⟩, y0, y1, y2, y3, y4⟩ := HA.out.1
          go_wp2_with (first | (go_at_call 30; (with_reducible refine (imm_J y _).mono ?_); rintro e w' ⟨rfl, hbl⟩; obtain ⟨hcw, hfw, hsw⟩ := below_ifs hbl; (try simp only [World.size_alloc, World.size_setCell, World.size_drew, size_drewN_] at hcw hfw hsw)) | (go_at_call 31; (with_reducible refine (rget13_any _ _ _ _).mono ?_); rintro e w' ⟨rfl, hbl⟩; obtain ⟨hcw, hfw, hsw⟩ := below_ifs hbl; (try simp only [World.size_alloc, World.size_setCell, World.size_drew, size_drewN_] at hcw hfw hsw)) | (go_at_call 8; (with_reducible refine (cE _).mono ?_); rintro e w' ⟨rfl, hbl⟩; obtain ⟨hcw, hfw, hsw⟩ := below_ifs hbl; (try simp only [World.size_alloc, World.size_setCell, World.size_drew, size_drewN_] at hcw hfw hsw)))
          refine bodyPost_ret (results_ct [.int .i64 ((k : Int) + 1), .int .i64 (S (getF y 7 5)), .int .i64 0, .int .i64 0, .int .i64 (S (readI 74 y))] (.bool true) Try.results10 rfl rfl ?_ Try.underlying28 rfl (by kernel_rfl)) rfl ?_
          · (first | (go_simp; done) | (go_simp; (simp [↓IntWalk.iteOmega]; done)) | (go_simp; intros; omega) | (go_simp; simp [↓IntWalk.iteOmega]; intros; omega))
          · exact ⟨by rw [HN.out]; rfl, by rw [hp]; refine below_five p ?_ _ _ _ _ _; exact h2.trans (Below.mono (by (repeat (first | with_reducible exact Below.refl _ _ | with_reducible assumption | with_reducible refine below_drewN ?_ _ | with_reducible refine Below.drew ?_ | with_reducible refine below_alloc ?_ _ | (with_reducible refine Below.setCell ?_ (by first | (simp; done) | omega | (simp; omega)) _) | with_reducible refine belows ?_ (by assumption)))) (Nat.le_of_lt h1))⟩
    · obtain rfl : k = 69 := by omega
      have hn : decV y = decO none := by unfold decV decF; rw [HK.out]; rfl
      have HN := Lib.hid hn
      have HB := HA.out.2.1
      have h1 := HA.out.1.1
      obtain ⟨-, ⟨x0, x1, x2, x3, x4⟩, y0, y1, y2, y3, y4⟩ := HA.out.1
      go_wp2_with fail
      refine bodyPost_ret (results_ct [.int .i64 0, .int .i64 0, .int .i64 0, .int .i64 0, .int .i64 0] (.bool false) Try.results10 rfl rfl ?_ Try.underlying28 rfl (by kernel_rfl)) rfl ?_
      · (first | (go_simp; done) | (go_simp; (simp [↓IntWalk.iteOmega]; done)) | (go_simp; intros; omega) | (go_simp; simp [↓IntWalk.iteOmega]; intros; omega))
      · exact ⟨by rw [HN.out]; rfl, by rw [hp]; exact below_five p HB _ _ _ _ _⟩
end Go.Proofs.Ytokfokgbbpjgdaa
