
/-
  Fields beside an address (bounds.Decode, Near): what they tell.
-/
import Derived.Test.YtpjcijmdoofcbaaBoundsW
import Derived.Test.YtpjcijmdoofcbaaBoundsQ
namespace Go.Proofs.Ytpjcijmdoofcbaa
open Go Go.RowKit
set_option linter.unusedVariables false
set_option linter.unusedSimpArgs false

theorem lt_mask (b : BitVec 64) (k : Nat) (hk : k ≤ 63) : (b == b &&& maskF k) = decide (b.toNat < 2 ^ k) := by
  have hp := pow_pos' k
  rw [Bool.eq_iff_iff, beq_iff_eq, decide_eq_true_eq]
  constructor
  · intro h
    have := low_toNat b k (by omega)
    rw [← h] at this
    rw [this]
    exact Nat.mod_lt _ hp
  · intro h
    apply BitVec.eq_of_toNat_eq
    rw [low_toNat b k (by omega), Nat.mod_eq_of_lt h]
theorem of_word (b t e : BitVec 64) : getF (wordF b t e) 0 14 = b &&& maskF (14 : Nat) ∧ getF (wordF b t e) 14 12 = t &&& maskF (12 : Nat) ∧ getF (wordF b t e) 26 6 = e &&& maskF (6 : Nat) := by
  unfold wordF
  refine ⟨?_, ?_, ?_⟩
  · rw [get_apart _ _ _ _ _ _ (by decide) (by decide) (by omega), get_apart _ _ _ _ _ _ (by decide) (by decide) (by omega), get_put _ _ _ _ (by decide)]; rfl
  · rw [get_apart _ _ _ _ _ _ (by decide) (by decide) (by omega), get_put _ _ _ _ (by decide)]; rfl
  · rw [get_put _ _ _ _ (by decide)]; rfl
theorem word_of_eq (b t e : BitVec 64) : (b == getF (wordF b t e) 0 14 && t == getF (wordF b t e) 14 12 && e == getF (wordF b t e) 26 6) = (decide (b.toNat < 16384) && decide (t.toNat < 4096) && decide (e.toNat < 64)) := by
  obtain ⟨h1, h2, h3⟩ := of_word b t e
  rw [h1, h2, h3, lt_mask b 14 (by omega), lt_mask t 12 (by omega), lt_mask e 6 (by omega)]
theorem decV_is (b t e a : BitVec 64) (hv : (b == getF (wordF b t e) 0 14 && t == getF (wordF b t e) 14 12 && e == getF (wordF b t e) 26 6) = true) (he : decide (37 < U e) = false) (ha : decide (281474976710656 ≤ U a) = false) : decV b t e a = true := by
  rw [word_of_eq] at hv
  unfold decV U at *
  simp at *
  omega
theorem decV_not1 (b t e a : BitVec 64) (hv : (b == getF (wordF b t e) 0 14 && t == getF (wordF b t e) 14 12 && e == getF (wordF b t e) 26 6) = false) : decV b t e a = false := by
  rw [word_of_eq] at hv
  cases h : decV b t e a
  · rfl
  · unfold decV at h
    simp at *
    omega
theorem decV_not2 (b t e a : BitVec 64) (he : decide (37 < U e) = true) : decV b t e a = false := by
  cases h : decV b t e a
  · rfl
  · unfold decV U at *
    simp at *
    omega
theorem decV_not3 (b t e a : BitVec 64) (ha : decide (281474976710656 ≤ U a) = true) : decV b t e a = false := by
  cases h : decV b t e a
  · rfl
  · unfold decV U at *
    simp at *
    omega
theorem dec_none {b t e a : BitVec 64} (h : decOk b t e a = false) : U (decB b t e a) = 0 ∧ U (decT b t e a) = 0 := by
  unfold decB decT; rw [h]; exact ⟨rfl, rfl⟩
theorem decOk_not {b t e a : BitVec 64} (h : decV b t e a = false) : decOk b t e a = false := by unfold decOk; rw [h]; rfl
theorem bin_shr_48 (t : TypeId) (yk : IntKind) (y : Int) (h : 0 ≤ y) : binOp .shr t (.int .u64 281474976710656) (.int yk y) = pure (.int .u64 (U (281474976710656#64 >>> y.toNat))) :=
  bin_shr_nat t yk 281474976710656 y h (by omega)
attribute [go_sem 2000] bin_shr_48
theorem dec_low {b t e a : BitVec 64} {x : Nat} (hx : e.toNat - 1 = x) (h : U (a >>> x + 4096#64) < U (a >>> x - b + 4096#64 &&& 16383#64)) : decOk b t e a = false := by
  have : decide ((decA e a + 4096#64).toNat < (decD b e a).toNat) = true := by
    unfold decD decA; rw [hx]; exact decide_eq_true (Int.ofNat_lt.1 h)
  unfold decOk; rw [this]; simp
theorem dec_high {b t e a : BitVec 64} {x : Nat} (hx : e.toNat - 1 = x) (n : BitVec 64) (hn : decN b t e = n) (h : U (281474976710656#64 >>> x) < U (a >>> x + 4096#64 - (a >>> x - b + 4096#64 &&& 16383#64) + n)) : decOk b t e a = false := by
  have : decide ((281474976710656#64 >>> (e.toNat - 1)).toNat < (decBase b e a + decN b t e).toNat) = true := by
    rw [hx, hn]
    unfold decBase decD decA; rw [hx]
    exact decide_eq_true (Int.ofNat_lt.1 h)
  unfold decOk; rw [this]; simp
theorem dec_fine {b t e a : BitVec 64} {x : Nat} (hx : e.toNat - 1 = x) (n : BitVec 64) (hn : decN b t e = n) (hv : decV b t e a = true) (h1 : U (a >>> x - b + 4096#64 &&& 16383#64) ≤ U (a >>> x + 4096#64)) (h : U (a >>> x + 4096#64 - (a >>> x - b + 4096#64 &&& 16383#64) + n) ≤ U (281474976710656#64 >>> x)) :
    decOk b t e a = true ∧ decB b t e a = (a >>> x + 4096#64 - (a >>> x - b + 4096#64 &&& 16383#64)) <<< x ∧ decT b t e a = (a >>> x + 4096#64 - (a >>> x - b + 4096#64 &&& 16383#64) + n) <<< x := by
  have g1 : decide ((decA e a + 4096#64).toNat < (decD b e a).toNat) = false := by
    unfold decD decA; rw [hx]; exact decide_eq_false (Nat.not_lt.2 (Int.ofNat_le.1 h1))
  have g2 : decide ((281474976710656#64 >>> (e.toNat - 1)).toNat < (decBase b e a + decN b t e).toNat) = false := by
    rw [hx, hn]
    unfold decBase decD decA; rw [hx]
    exact decide_eq_false (Nat.not_lt.2 (Int.ofNat_le.1 h))
  have g3 : decOk b t e a = true := by unfold decOk; rw [g1, g2, hv]; rfl
  refine ⟨g3, ?_, ?_⟩
  · unfold decB; rw [if_pos g3, hx]; unfold decBase decD decA; rw [hx]
  · unfold decT; rw [if_pos g3, hx, hn]; unfold decBase decD decA; rw [hx]
set_option maxHeartbeats 4000000 in
set_option maxRecDepth 100000 in
theorem decode_yes (b t e a : BitVec 64) (hv : (b == getF (wordF b t e) 0 14 && t == getF (wordF b t e) 14 12 && e == getF (wordF b t e) 26 6) = true) (he : decide (37 < U e) = false) (ha : decide (281474976710656 ≤ U a) = false) (x : Nat) (hx : e.toNat - 1 = x) (h1 : 0 < U e) (w : World) : Calls Try.prog 40 #[.agg #[.int .u64 (U b), .int .u64 (U t), .int .u64 (U e)], .int .u64 (U a)] w fun r w' => r = .returned (.tuple #[.agg #[.int .u64 (U (decB b t e a)), .int .u64 (U (decT b t e a))], .bool (decOk b t e a)]) ∧ Below w.heap.size w w' := by
  have cs : ∀ w : World, Calls Try.prog 44 #[.int .u64 (U e)] w fun r w' => r = .returned (.int .i64 (x : Int)) ∧ w = w' := fun w => (shift_any e (by simp at he; unfold U at he; omega) w).mono fun _ _ g => ⟨by rw [g.1, hx], g.2⟩
  have h0 : (0 : Int) ≤ (x : Int) := by omega
  have hn : decN b t e = ((t - b) &&& 4095#64 ||| 4096#64) := by unfold decN U at *; rw [if_pos (by omega)]
  have h36 : x ≤ 36 := by unfold U at he; simp at he; omega
  have HN := Lib.hid hn
  have HX := Lib.hid hx
  have HV := Lib.hid (decV_is b t e a hv he ha)
  clear hn hx
  go_enter Try.func40, Try.ntmps40
  go_wp2_with fail
  refine wp_region_below (by kernel_rfl) (by kernel_rfl) (fun hcr hfr => ?_)
  (try simp only [World.size_alloc, World.size_setCell, World.size_drew, size_drewN_] at hcr hfr)
  repeat (go_big_quiet_step ((first | (go_at_call 43; first | with_reducible exact Calls.regrown_of (word_any _ _ _ _) | with_reducible exact regrown_k (word_any _ _ _ _) | with_reducible exact regrown_1 (word_any _ _ _ _) | with_reducible exact regrown_a (word_any _ _ _ _)) | (go_at_call 41; first | with_reducible exact Calls.regrown_of (of_any _ _) | with_reducible exact regrown_k (of_any _ _) | with_reducible exact regrown_1 (of_any _ _) | with_reducible exact regrown_a (of_any _ _)))))
  refine wpQuiet_nil ?_
  intro w' hbl
  clear hcr hfr
  obtain ⟨hcw, hfw, hsw⟩ := below_ifs hbl; (try simp only [World.size_alloc, World.size_setCell, World.size_drew, size_drewN_] at hcw hfw hsw)
  go_wp2_with (first | (go_at_call 44; (with_reducible refine (cs _).mono ?_); rintro e w' ⟨rfl, rfl⟩))
  · have g := dec_low (t := t) HX.out (by with_reducible assumption)
    obtain ⟨g1, g2⟩ := dec_none g
    rw [g1, g2, g]
    refine bodyPost_ret (results_ct [.int .u64 0, .int .u64 0] (.bool false) Try.results40 rfl rfl ?_ Try.underlying70 rfl (by kernel_rfl)) rfl ?_
    · (first | (go_simp; done) | (go_simp; (simp [↓IntWalk.iteOmega]; done)) | (go_simp; intros; omega) | (go_simp; simp [↓IntWalk.iteOmega]; intros; omega))
    · exact ⟨rfl, by (repeat (first | with_reducible exact Below.refl _ _ | with_reducible assumption | with_reducible refine below_drewN ?_ _ | with_reducible refine Below.drew ?_ | with_reducible refine below_alloc ?_ _ | (with_reducible refine Below.setCell ?_ (by first | (simp; done) | omega | (simp; omega)) _) | with_reducible refine belows ?_ (by assumption)))⟩
  · have g := dec_high HX.out _ HN.out (by with_reducible assumption)
    obtain ⟨g1, g2⟩ := dec_none g
    rw [g1, g2, g]
    refine bodyPost_ret (results_ct [.int .u64 0, .int .u64 0] (.bool false) Try.results40 rfl rfl ?_ Try.underlying70 rfl (by kernel_rfl)) rfl ?_
    · (first | (go_simp; done) | (go_simp; (simp [↓IntWalk.iteOmega]; done)) | (go_simp; intros; omega) | (go_simp; simp [↓IntWalk.iteOmega]; intros; omega))
    · exact ⟨rfl, by (repeat (first | with_reducible exact Below.refl _ _ | with_reducible assumption | with_reducible refine below_drewN ?_ _ | with_reducible refine Below.drew ?_ | with_reducible refine below_alloc ?_ _ | (with_reducible refine Below.setCell ?_ (by first | (simp; done) | omega | (simp; omega)) _) | with_reducible refine belows ?_ (by assumption)))⟩
  · have HG := Lib.hid (dec_fine HX.out _ HN.out HV.out (by with_reducible assumption) (by with_reducible assumption))
    go_region
    go_wp2
    refine bodyPost_ret (results_ct [.int .u64 (U ((a >>> x + 4096#64 - (a >>> x - b + 4096#64 &&& 16383#64)) <<< x)), .int .u64 (U ((a >>> x + 4096#64 - (a >>> x - b + 4096#64 &&& 16383#64) + ((t - b) &&& 4095#64 ||| 4096#64)) <<< x))] (.bool true) Try.results40 rfl rfl ?_ Try.underlying70 rfl (by kernel_rfl)) rfl ?_
    · (first | (go_simp; done) | (go_simp; (simp [↓IntWalk.iteOmega]; done)) | (go_simp; intros; omega) | (go_simp; simp [↓IntWalk.iteOmega]; intros; omega))
    · obtain ⟨g, g1, g2⟩ := HG.out
      rw [g1, g2, g]
      exact ⟨rfl, by (repeat (first | with_reducible exact Below.refl _ _ | with_reducible assumption | with_reducible refine below_drewN ?_ _ | with_reducible refine Below.drew ?_ | with_reducible refine below_alloc ?_ _ | (with_reducible refine Below.setCell ?_ (by first | (simp; done) | omega | (simp; omega)) _) | with_reducible refine belows ?_ (by assumption)))⟩
set_option maxHeartbeats 4000000 in
set_option maxRecDepth 100000 in
theorem decode_zero (b t e a : BitVec 64) (hv : (b == getF (wordF b t e) 0 14 && t == getF (wordF b t e) 14 12 && e == getF (wordF b t e) 26 6) = true) (he : decide (37 < U e) = false) (ha : decide (281474976710656 ≤ U a) = false) (x : Nat) (hx : e.toNat - 1 = x) (h1 : U e ≤ 0) (w : World) : Calls Try.prog 40 #[.agg #[.int .u64 (U b), .int .u64 (U t), .int .u64 (U e)], .int .u64 (U a)] w fun r w' => r = .returned (.tuple #[.agg #[.int .u64 (U (decB b t e a)), .int .u64 (U (decT b t e a))], .bool (decOk b t e a)]) ∧ Below w.heap.size w w' := by
  have cs : ∀ w : World, Calls Try.prog 44 #[.int .u64 (U e)] w fun r w' => r = .returned (.int .i64 (x : Int)) ∧ w = w' := fun w => (shift_any e (by simp at he; unfold U at he; omega) w).mono fun _ _ g => ⟨by rw [g.1, hx], g.2⟩
  have h0 : (0 : Int) ≤ (x : Int) := by omega
  have hn : decN b t e = ((t - b) &&& 4095#64) := by unfold decN U at *; rw [if_neg (by omega)]
  have h36 : x ≤ 36 := by unfold U at he; simp at he; omega
  have HN := Lib.hid hn
  have HX := Lib.hid hx
  have HV := Lib.hid (decV_is b t e a hv he ha)
  clear hn hx
  go_enter Try.func40, Try.ntmps40
  go_wp2_with fail
  refine wp_region_below (by kernel_rfl) (by kernel_rfl) (fun hcr hfr => ?_)
  (try simp only [World.size_alloc, World.size_setCell, World.size_drew, size_drewN_] at hcr hfr)
  repeat (go_big_quiet_step ((first | (go_at_call 43; first | with_reducible exact Calls.regrown_of (word_any _ _ _ _) | with_reducible exact regrown_k (word_any _ _ _ _) | with_reducible exact regrown_1 (word_any _ _ _ _) | with_reducible exact regrown_a (word_any _ _ _ _)) | (go_at_call 41; first | with_reducible exact Calls.regrown_of (of_any _ _) | with_reducible exact regrown_k (of_any _ _) | with_reducible exact regrown_1 (of_any _ _) | with_reducible exact regrown_a (of_any _ _)))))
  refine wpQuiet_nil ?_
  intro w' hbl
  clear hcr hfr
  obtain ⟨hcw, hfw, hsw⟩ := below_ifs hbl; (try simp only [World.size_alloc, World.size_setCell, World.size_drew, size_drewN_] at hcw hfw hsw)
  go_wp2_with (first | (go_at_call 44; (with_reducible refine (cs _).mono ?_); rintro e w' ⟨rfl, rfl⟩))
  · have g := dec_low (t := t) HX.out (by with_reducible assumption)
    obtain ⟨g1, g2⟩ := dec_none g
    rw [g1, g2, g]
    refine bodyPost_ret (results_ct [.int .u64 0, .int .u64 0] (.bool false) Try.results40 rfl rfl ?_ Try.underlying70 rfl (by kernel_rfl)) rfl ?_
    · (first | (go_simp; done) | (go_simp; (simp [↓IntWalk.iteOmega]; done)) | (go_simp; intros; omega) | (go_simp; simp [↓IntWalk.iteOmega]; intros; omega))
    · exact ⟨rfl, by (repeat (first | with_reducible exact Below.refl _ _ | with_reducible assumption | with_reducible refine below_drewN ?_ _ | with_reducible refine Below.drew ?_ | with_reducible refine below_alloc ?_ _ | (with_reducible refine Below.setCell ?_ (by first | (simp; done) | omega | (simp; omega)) _) | with_reducible refine belows ?_ (by assumption)))⟩
  · have g := dec_high HX.out _ HN.out (by with_reducible assumption)
    obtain ⟨g1, g2⟩ := dec_none g
    rw [g1, g2, g]
    refine bodyPost_ret (results_ct [.int .u64 0, .int .u64 0] (.bool false) Try.results40 rfl rfl ?_ Try.underlying70 rfl (by kernel_rfl)) rfl ?_
    · (first | (go_simp; done) | (go_simp; (simp [↓IntWalk.iteOmega]; done)) | (go_simp; intros; omega) | (go_simp; simp [↓IntWalk.iteOmega]; intros; omega))
    · exact ⟨rfl, by (repeat (first | with_reducible exact Below.refl _ _ | with_reducible assumption | with_reducible refine below_drewN ?_ _ | with_reducible refine Below.drew ?_ | with_reducible refine below_alloc ?_ _ | (with_reducible refine Below.setCell ?_ (by first | (simp; done) | omega | (simp; omega)) _) | with_reducible refine belows ?_ (by assumption)))⟩
  · have HG := Lib.hid (dec_fine HX.out _ HN.out HV.out (by with_reducible assumption) (by with_reducible assumption))
    go_region
    go_wp2
    refine bodyPost_ret (results_ct [.int .u64 (U ((a >>> x + 4096#64 - (a >>> x - b + 4096#64 &&& 16383#64)) <<< x)), .int .u64 (U ((a >>> x + 4096#64 - (a >>> x - b + 4096#64 &&& 16383#64) + ((t - b) &&& 4095#64)) <<< x))] (.bool true) Try.results40 rfl rfl ?_ Try.underlying70 rfl (by kernel_rfl)) rfl ?_
    · (first | (go_simp; done) | (go_simp; (simp [↓IntWalk.iteOmega]; done)) | (go_simp; intros; omega) | (go_simp; simp [↓IntWalk.iteOmega]; intros; omega))
    · obtain ⟨g, g1, g2⟩ := HG.out
      rw [g1, g2, g]
      exact ⟨rfl, by (repeat (first | with_reducible exact Below.refl _ _ | with_reducible assumption | with_reducible refine below_drewN ?_ _ | with_reducible refine Below.drew ?_ | with_reducible refine below_alloc ?_ _ | (with_reducible refine Below.setCell ?_ (by first | (simp; done) | omega | (simp; omega)) _) | with_reducible refine belows ?_ (by assumption)))⟩
set_option maxHeartbeats 2000000 in
theorem decode_no1 (b t e a : BitVec 64) (hv : (b == getF (wordF b t e) 0 14 && t == getF (wordF b t e) 14 12 && e == getF (wordF b t e) 26 6) = false) (w : World) : Calls Try.prog 40 #[.agg #[.int .u64 (U b), .int .u64 (U t), .int .u64 (U e)], .int .u64 (U a)] w fun r w' => r = .returned (.tuple #[.agg #[.int .u64 0, .int .u64 0], .bool false]) ∧ Below w.heap.size w w' := by
  go_enter Try.func40, Try.ntmps40
  go_wp2_with fail
  refine wp_region_below (by kernel_rfl) (by kernel_rfl) (fun hcr hfr => ?_)
  (try simp only [World.size_alloc, World.size_setCell, World.size_drew, size_drewN_] at hcr hfr)
  repeat (go_big_quiet_step ((first | (go_at_call 43; first | with_reducible exact Calls.regrown_of (word_any _ _ _ _) | with_reducible exact regrown_k (word_any _ _ _ _) | with_reducible exact regrown_1 (word_any _ _ _ _) | with_reducible exact regrown_a (word_any _ _ _ _)) | (go_at_call 41; first | with_reducible exact Calls.regrown_of (of_any _ _) | with_reducible exact regrown_k (of_any _ _) | with_reducible exact regrown_1 (of_any _ _) | with_reducible exact regrown_a (of_any _ _)))))
  refine wpQuiet_nil ?_
  intro w' hbl
  clear hcr hfr
  obtain ⟨hcw, hfw, hsw⟩ := below_ifs hbl; (try simp only [World.size_alloc, World.size_setCell, World.size_drew, size_drewN_] at hcw hfw hsw)
  go_wp2_with fail
  refine bodyPost_ret (results_ct [.int .u64 0, .int .u64 0] (.bool false) Try.results40 rfl rfl ?_ Try.underlying70 rfl (by kernel_rfl)) rfl ?_
  · (first | (go_simp; done) | (go_simp; (simp [↓IntWalk.iteOmega]; done)) | (go_simp; intros; omega) | (go_simp; simp [↓IntWalk.iteOmega]; intros; omega))
  · exact ⟨rfl, by (repeat (first | with_reducible exact Below.refl _ _ | with_reducible assumption | with_reducible refine below_drewN ?_ _ | with_reducible refine Below.drew ?_ | with_reducible refine below_alloc ?_ _ | (with_reducible refine Below.setCell ?_ (by first | (simp; done) | omega | (simp; omega)) _) | with_reducible refine belows ?_ (by assumption)))⟩
set_option maxHeartbeats 2000000 in
theorem decode_no2 (b t e a : BitVec 64) (hv : (b == getF (wordF b t e) 0 14 && t == getF (wordF b t e) 14 12 && e == getF (wordF b t e) 26 6) = true) (he : decide (37 < U e) = true) (w : World) : Calls Try.prog 40 #[.agg #[.int .u64 (U b), .int .u64 (U t), .int .u64 (U e)], .int .u64 (U a)] w fun r w' => r = .returned (.tuple #[.agg #[.int .u64 0, .int .u64 0], .bool false]) ∧ Below w.heap.size w w' := by
  go_enter Try.func40, Try.ntmps40
  go_wp2_with fail
  refine wp_region_below (by kernel_rfl) (by kernel_rfl) (fun hcr hfr => ?_)
  (try simp only [World.size_alloc, World.size_setCell, World.size_drew, size_drewN_] at hcr hfr)
  repeat (go_big_quiet_step ((first | (go_at_call 43; first | with_reducible exact Calls.regrown_of (word_any _ _ _ _) | with_reducible exact regrown_k (word_any _ _ _ _) | with_reducible exact regrown_1 (word_any _ _ _ _) | with_reducible exact regrown_a (word_any _ _ _ _)) | (go_at_call 41; first | with_reducible exact Calls.regrown_of (of_any _ _) | with_reducible exact regrown_k (of_any _ _) | with_reducible exact regrown_1 (of_any _ _) | with_reducible exact regrown_a (of_any _ _)))))
  refine wpQuiet_nil ?_
  intro w' hbl
  clear hcr hfr
  obtain ⟨hcw, hfw, hsw⟩ := below_ifs hbl; (try simp only [World.size_alloc, World.size_setCell, World.size_drew, size_drewN_] at hcw hfw hsw)
  go_wp2_with fail
  refine bodyPost_ret (results_ct [.int .u64 0, .int .u64 0] (.bool false) Try.results40 rfl rfl ?_ Try.underlying70 rfl (by kernel_rfl)) rfl ?_
  · (first | (go_simp; done) | (go_simp; (simp [↓IntWalk.iteOmega]; done)) | (go_simp; intros; omega) | (go_simp; simp [↓IntWalk.iteOmega]; intros; omega))
  · exact ⟨rfl, by (repeat (first | with_reducible exact Below.refl _ _ | with_reducible assumption | with_reducible refine below_drewN ?_ _ | with_reducible refine Below.drew ?_ | with_reducible refine below_alloc ?_ _ | (with_reducible refine Below.setCell ?_ (by first | (simp; done) | omega | (simp; omega)) _) | with_reducible refine belows ?_ (by assumption)))⟩
set_option maxHeartbeats 2000000 in
theorem decode_no3 (b t e a : BitVec 64) (hv : (b == getF (wordF b t e) 0 14 && t == getF (wordF b t e) 14 12 && e == getF (wordF b t e) 26 6) = true) (he : decide (37 < U e) = false) (ha : decide (281474976710656 ≤ U a) = true) (w : World) : Calls Try.prog 40 #[.agg #[.int .u64 (U b), .int .u64 (U t), .int .u64 (U e)], .int .u64 (U a)] w fun r w' => r = .returned (.tuple #[.agg #[.int .u64 0, .int .u64 0], .bool false]) ∧ Below w.heap.size w w' := by
  go_enter Try.func40, Try.ntmps40
  go_wp2_with fail
  refine wp_region_below (by kernel_rfl) (by kernel_rfl) (fun hcr hfr => ?_)
  (try simp only [World.size_alloc, World.size_setCell, World.size_drew, size_drewN_] at hcr hfr)
  repeat (go_big_quiet_step ((first | (go_at_call 43; first | with_reducible exact Calls.regrown_of (word_any _ _ _ _) | with_reducible exact regrown_k (word_any _ _ _ _) | with_reducible exact regrown_1 (word_any _ _ _ _) | with_reducible exact regrown_a (word_any _ _ _ _)) | (go_at_call 41; first | with_reducible exact Calls.regrown_of (of_any _ _) | with_reducible exact regrown_k (of_any _ _) | with_reducible exact regrown_1 (of_any _ _) | with_reducible exact regrown_a (of_any _ _)))))
  refine wpQuiet_nil ?_
  intro w' hbl
  clear hcr hfr
  obtain ⟨hcw, hfw, hsw⟩ := below_ifs hbl; (try simp only [World.size_alloc, World.size_setCell, World.size_drew, size_drewN_] at hcw hfw hsw)
  go_wp2_with fail
  refine bodyPost_ret (results_ct [.int .u64 0, .int .u64 0] (.bool false) Try.results40 rfl rfl ?_ Try.underlying70 rfl (by kernel_rfl)) rfl ?_
  · (first | (go_simp; done) | (go_simp; (simp [↓IntWalk.iteOmega]; done)) | (go_simp; intros; omega) | (go_simp; simp [↓IntWalk.iteOmega]; intros; omega))
  · exact ⟨rfl, by (repeat (first | with_reducible exact Below.refl _ _ | with_reducible assumption | with_reducible refine below_drewN ?_ _ | with_reducible refine Below.drew ?_ | with_reducible refine below_alloc ?_ _ | (with_reducible refine Below.setCell ?_ (by first | (simp; done) | omega | (simp; omega)) _) | with_reducible refine belows ?_ (by assumption)))⟩
theorem decode_any (b t e a : BitVec 64) (w : World) : Calls Try.prog 40 #[.agg #[.int .u64 (U b), .int .u64 (U t), .int .u64 (U e)], .int .u64 (U a)] w fun r w' => r = .returned (.tuple #[.agg #[.int .u64 (U (decB b t e a)), .int .u64 (U (decT b t e a))], .bool (decOk b t e a)]) ∧ Below w.heap.size w w' := by
  cases hv : (b == getF (wordF b t e) 0 14 && t == getF (wordF b t e) 14 12 && e == getF (wordF b t e) 26 6)
  · have g := decOk_not (decV_not1 b t e a hv)
    obtain ⟨g1, g2⟩ := dec_none g
    rw [g1, g2, g]
    exact decode_no1 b t e a hv w
  · cases he : decide (37 < U e)
    · cases ha : decide (281474976710656 ≤ U a)
      · by_cases h1 : 0 < U e
        · exact decode_yes b t e a hv he ha _ rfl h1 w
        · exact decode_zero b t e a hv he ha _ rfl (by omega) w
      · have g := decOk_not (decV_not3 b t e a ha)
        obtain ⟨g1, g2⟩ := dec_none g
        rw [g1, g2, g]
        exact decode_no3 b t e a hv he ha w
    · have g := decOk_not (decV_not2 b t e a he)
      obtain ⟨g1, g2⟩ := dec_none g
      rw [g1, g2, g]
      exact decode_no2 b t e a hv he w
end Go.Proofs.Ytpjcijmdoofcbaa
