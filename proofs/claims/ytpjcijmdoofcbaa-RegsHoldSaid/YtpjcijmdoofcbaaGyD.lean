
/-
  The document's span of a capability.
-/
import Derived.Test.YtpjcijmdoofcbaaGxG
import Derived.Outline
namespace Go.Proofs.Ytpjcijmdoofcbaa
open Go Go.RowKit
set_option linter.unusedVariables false
set_option linter.unusedSimpArgs false

theorem U_pred (k : Nat) (h : 1 ≤ k) (hk : k ≤ 37) : U (BitVec.ofNat 64 k - 1#64) = ((k - 1 : Nat) : Int) := by
  unfold U
  rw [BitVec.toNat_sub_of_le (by rw [BitVec.le_def]; simp; omega)]
  simp
  omega
theorem rexponent_any (k : Nat) (hk : k ≤ 37) (w : World) : Calls Try.prog 39 #[.int .u64 (k : Int)] w fun r w' => r = .returned (.int .u64 ((k - 1 : Nat) : Int)) ∧ w = w' := by
  by_cases h : k = 0
  · subst h
    go_enter Try.func39, Try.ntmps39
    go_wp2_with fail
    go_ret
    exact ⟨rfl, rfl⟩
  · have h0 : ((k : Int) == 0) = false := by simp; omega
    have h1 : (0 : Int) ≤ (k : Int) - 1 := by omega
    go_enter Try.func39, Try.ntmps39
    go_wp2_with fail
    go_ret
    exact ⟨ret_int (U_pred k (by omega) (by omega)), rfl⟩
theorem rem_16384 (a : BitVec 64) : a % 16384#64 = a &&& 16383#64 := rem_mask a 14 _ (by omega) rfl
theorem rem_4096 (a : BitVec 64) : a % 4096#64 = a &&& 4095#64 := rem_mask a 12 _ (by omega) rfl
theorem far_same (x b : BitVec 64) : (x + 16384#64 - b + 4096#64) % 16384#64 = x - b + 4096#64 &&& 16383#64 := by
  rw [← rem_16384]
  apply BitVec.eq_of_toNat_eq
  have h1 := x.isLt
  have h2 := b.isLt
  simp only [BitVec.toNat_umod, BitVec.toNat_add, BitVec.toNat_sub, show (16384#64).toNat = 16384 from rfl, show (4096#64).toNat = 4096 from rfl]
  omega
theorem len_same (t b : BitVec 64) : (t + 16384#64 - b) % 4096#64 = t - b &&& 4095#64 := by
  rw [← rem_4096]
  apply BitVec.eq_of_toNat_eq
  have h1 := t.isLt
  have h2 := b.isLt
  simp only [BitVec.toNat_umod, BitVec.toNat_add, BitVec.toNat_sub, show (16384#64).toNat = 16384 from rfl, show (4096#64).toNat = 4096 from rfl]
  omega
theorem len_or (y : BitVec 64) : (y &&& 4095#64) + 4096#64 = y &&& 4095#64 ||| 4096#64 := by
  have h : (y &&& 4095#64).toNat < 4096 := by
    rw [show (4095#64) = maskF (12 : Nat) from rfl, low_toNat _ 12 (by omega)]; omega
  apply BitVec.eq_of_toNat_eq
  rw [or_4096 _ h, BitVec.toNat_add]
  simp only [show (4096#64).toNat = 4096 from rfl]
  omega
theorem decV_of (b t e a : BitVec 64) : decV b t e a = (!decide (16384 ≤ U b) && !decide (4096 ≤ U t) && !decide (37 < U e) && !decide (281474976710656 ≤ U a)) := by
  unfold decV U; rw [Bool.eq_iff_iff]; simp; omega
set_option maxHeartbeats 2000000 in
theorem rdecode_no1 (b t e a : BitVec 64) (hb : decide (16384 ≤ U b) = true) (w : World) : Calls Try.prog 36 #[.agg #[.int .u64 (U b), .int .u64 (U t), .int .u64 (U e)], .int .u64 (U a)] w fun r w' => r = .returned (.tuple #[.agg #[.int .u64 0, .int .u64 0], .bool false]) ∧ Below w.heap.size w w' := by
  go_enter Try.func36, Try.ntmps36
  go_wp2_with fail
  refine bodyPost_ret (results_ct [.int .u64 0, .int .u64 0] (.bool false) Try.results36 rfl rfl ?_ Try.underlying59 rfl (by kernel_rfl)) rfl ?_
  · (first | (go_simp; done) | (go_simp; (simp [↓IntWalk.iteOmega]; done)) | (go_simp; intros; omega) | (go_simp; simp [↓IntWalk.iteOmega]; intros; omega))
  · exact ⟨rfl, by (repeat (first | with_reducible exact Below.refl _ _ | with_reducible assumption | with_reducible refine below_drewN ?_ _ | with_reducible refine Below.drew ?_ | with_reducible refine below_alloc ?_ _ | (with_reducible refine Below.setCell ?_ (by first | (simp; done) | omega | (simp; omega)) _) | with_reducible refine belows ?_ (by assumption)))⟩
set_option maxHeartbeats 2000000 in
theorem rdecode_no2 (b t e a : BitVec 64) (hb : decide (16384 ≤ U b) = false) (ht : decide (4096 ≤ U t) = true) (w : World) : Calls Try.prog 36 #[.agg #[.int .u64 (U b), .int .u64 (U t), .int .u64 (U e)], .int .u64 (U a)] w fun r w' => r = .returned (.tuple #[.agg #[.int .u64 0, .int .u64 0], .bool false]) ∧ Below w.heap.size w w' := by
  go_enter Try.func36, Try.ntmps36
  go_wp2_with fail
  refine bodyPost_ret (results_ct [.int .u64 0, .int .u64 0] (.bool false) Try.results36 rfl rfl ?_ Try.underlying59 rfl (by kernel_rfl)) rfl ?_
  · (first | (go_simp; done) | (go_simp; (simp [↓IntWalk.iteOmega]; done)) | (go_simp; intros; omega) | (go_simp; simp [↓IntWalk.iteOmega]; intros; omega))
  · exact ⟨rfl, by (repeat (first | with_reducible exact Below.refl _ _ | with_reducible assumption | with_reducible refine below_drewN ?_ _ | with_reducible refine Below.drew ?_ | with_reducible refine below_alloc ?_ _ | (with_reducible refine Below.setCell ?_ (by first | (simp; done) | omega | (simp; omega)) _) | with_reducible refine belows ?_ (by assumption)))⟩
set_option maxHeartbeats 2000000 in
theorem rdecode_no3 (b t e a : BitVec 64) (hb : decide (16384 ≤ U b) = false) (ht : decide (4096 ≤ U t) = false) (he : decide (37 < U e) = true) (w : World) : Calls Try.prog 36 #[.agg #[.int .u64 (U b), .int .u64 (U t), .int .u64 (U e)], .int .u64 (U a)] w fun r w' => r = .returned (.tuple #[.agg #[.int .u64 0, .int .u64 0], .bool false]) ∧ Below w.heap.size w w' := by
  go_enter Try.func36, Try.ntmps36
  go_wp2_with fail
  refine bodyPost_ret (results_ct [.int .u64 0, .int .u64 0] (.bool false) Try.results36 rfl rfl ?_ Try.underlying59 rfl (by kernel_rfl)) rfl ?_
  · (first | (go_simp; done) | (go_simp; (simp [↓IntWalk.iteOmega]; done)) | (go_simp; intros; omega) | (go_simp; simp [↓IntWalk.iteOmega]; intros; omega))
  · exact ⟨rfl, by (repeat (first | with_reducible exact Below.refl _ _ | with_reducible assumption | with_reducible refine below_drewN ?_ _ | with_reducible refine Below.drew ?_ | with_reducible refine below_alloc ?_ _ | (with_reducible refine Below.setCell ?_ (by first | (simp; done) | omega | (simp; omega)) _) | with_reducible refine belows ?_ (by assumption)))⟩
set_option maxHeartbeats 2000000 in
theorem rdecode_no4 (b t e a : BitVec 64) (hb : decide (16384 ≤ U b) = false) (ht : decide (4096 ≤ U t) = false) (he : decide (37 < U e) = false) (ha : decide (281474976710656 ≤ U a) = true) (w : World) : Calls Try.prog 36 #[.agg #[.int .u64 (U b), .int .u64 (U t), .int .u64 (U e)], .int .u64 (U a)] w fun r w' => r = .returned (.tuple #[.agg #[.int .u64 0, .int .u64 0], .bool false]) ∧ Below w.heap.size w w' := by
  go_enter Try.func36, Try.ntmps36
  go_wp2_with fail
  refine bodyPost_ret (results_ct [.int .u64 0, .int .u64 0] (.bool false) Try.results36 rfl rfl ?_ Try.underlying59 rfl (by kernel_rfl)) rfl ?_
  · (first | (go_simp; done) | (go_simp; (simp [↓IntWalk.iteOmega]; done)) | (go_simp; intros; omega) | (go_simp; simp [↓IntWalk.iteOmega]; intros; omega))
  · exact ⟨rfl, by (repeat (first | with_reducible exact Below.refl _ _ | with_reducible assumption | with_reducible refine below_drewN ?_ _ | with_reducible refine Below.drew ?_ | with_reducible refine below_alloc ?_ _ | (with_reducible refine Below.setCell ?_ (by first | (simp; done) | omega | (simp; omega)) _) | with_reducible refine belows ?_ (by assumption)))⟩
set_option maxHeartbeats 4000000 in
set_option maxRecDepth 100000 in
theorem rdecode_yes (b t e a : BitVec 64) (hb : decide (16384 ≤ U b) = false) (ht : decide (4096 ≤ U t) = false) (he : decide (37 < U e) = false) (ha : decide (281474976710656 ≤ U a) = false) (x : Nat) (hx : e.toNat - 1 = x) (h1 : 0 < U e) (w : World) : Calls Try.prog 36 #[.agg #[.int .u64 (U b), .int .u64 (U t), .int .u64 (U e)], .int .u64 (U a)] w fun r w' => r = .returned (.tuple #[.agg #[.int .u64 (U (decB b t e a)), .int .u64 (U (decT b t e a))], .bool (decOk b t e a)]) ∧ Below w.heap.size w w' := by
  have h37 : e.toNat ≤ 37 := by simp at he; unfold U at he; omega
  have cs : ∀ w : World, Calls Try.prog 39 #[.int .u64 (U e)] w fun r w' => r = .returned (.int .u64 (x : Int)) ∧ w = w' := fun w => (rexponent_any e.toNat h37 w).mono fun _ _ g => ⟨by rw [g.1, hx], g.2⟩
  have h0 : (0 : Int) ≤ (x : Int) := by omega
  have hn : decN b t e = ((t - b) &&& 4095#64 ||| 4096#64) := by unfold decN U at *; rw [if_pos (by omega)]
  have HN := Lib.hid hn
  have HX := Lib.hid hx
  have HV := Lib.hid (show decV b t e a = true by rw [decV_of, hb, ht, he, ha]; rfl)
  have q1 := far_same (a >>> x) b
  have q2 := len_same t b
  have q3 := len_or (t - b)
  clear hn hx h37
  go_enter Try.func36, Try.ntmps36
  go_wp2_with (first | (go_at_call 39; (with_reducible refine (cs _).mono ?_); rintro e w' ⟨rfl, rfl⟩))
  · have g := dec_low (t := t) HX.out (by with_reducible assumption)
    obtain ⟨g1, g2⟩ := dec_none g
    rw [g1, g2, g]
    refine bodyPost_ret (results_ct [.int .u64 0, .int .u64 0] (.bool false) Try.results36 rfl rfl ?_ Try.underlying59 rfl (by kernel_rfl)) rfl ?_
    · (first | (go_simp; done) | (go_simp; (simp [↓IntWalk.iteOmega]; done)) | (go_simp; intros; omega) | (go_simp; simp [↓IntWalk.iteOmega]; intros; omega))
    · exact ⟨rfl, by (repeat (first | with_reducible exact Below.refl _ _ | with_reducible assumption | with_reducible refine below_drewN ?_ _ | with_reducible refine Below.drew ?_ | with_reducible refine below_alloc ?_ _ | (with_reducible refine Below.setCell ?_ (by first | (simp; done) | omega | (simp; omega)) _) | with_reducible refine belows ?_ (by assumption)))⟩
  · have g := dec_high HX.out _ HN.out (by with_reducible assumption)
    obtain ⟨g1, g2⟩ := dec_none g
    rw [g1, g2, g]
    refine bodyPost_ret (results_ct [.int .u64 0, .int .u64 0] (.bool false) Try.results36 rfl rfl ?_ Try.underlying59 rfl (by kernel_rfl)) rfl ?_
    · (first | (go_simp; done) | (go_simp; (simp [↓IntWalk.iteOmega]; done)) | (go_simp; intros; omega) | (go_simp; simp [↓IntWalk.iteOmega]; intros; omega))
    · exact ⟨rfl, by (repeat (first | with_reducible exact Below.refl _ _ | with_reducible assumption | with_reducible refine below_drewN ?_ _ | with_reducible refine Below.drew ?_ | with_reducible refine below_alloc ?_ _ | (with_reducible refine Below.setCell ?_ (by first | (simp; done) | omega | (simp; omega)) _) | with_reducible refine belows ?_ (by assumption)))⟩
  · have HG := Lib.hid (dec_fine HX.out _ HN.out HV.out (by with_reducible assumption) (by with_reducible assumption))
    refine bodyPost_ret (results_ct [.int .u64 (U ((a >>> x + 4096#64 - (a >>> x - b + 4096#64 &&& 16383#64)) <<< x)), .int .u64 (U ((a >>> x + 4096#64 - (a >>> x - b + 4096#64 &&& 16383#64) + ((t - b) &&& 4095#64 ||| 4096#64)) <<< x))] (.bool true) Try.results36 rfl rfl ?_ Try.underlying59 rfl (by kernel_rfl)) rfl ?_
    · (first | (go_simp; done) | (go_simp; (simp [↓IntWalk.iteOmega]; done)) | (go_simp; intros; omega) | (go_simp; simp [↓IntWalk.iteOmega]; intros; omega))
    · obtain ⟨g, g1, g2⟩ := HG.out
      rw [g1, g2, g]
      exact ⟨rfl, by (repeat (first | with_reducible exact Below.refl _ _ | with_reducible assumption | with_reducible refine below_drewN ?_ _ | with_reducible refine Below.drew ?_ | with_reducible refine below_alloc ?_ _ | (with_reducible refine Below.setCell ?_ (by first | (simp; done) | omega | (simp; omega)) _) | with_reducible refine belows ?_ (by assumption)))⟩
set_option maxHeartbeats 4000000 in
set_option maxRecDepth 100000 in
theorem rdecode_zero (b t e a : BitVec 64) (hb : decide (16384 ≤ U b) = false) (ht : decide (4096 ≤ U t) = false) (he : decide (37 < U e) = false) (ha : decide (281474976710656 ≤ U a) = false) (x : Nat) (hx : e.toNat - 1 = x) (h1 : U e ≤ 0) (w : World) : Calls Try.prog 36 #[.agg #[.int .u64 (U b), .int .u64 (U t), .int .u64 (U e)], .int .u64 (U a)] w fun r w' => r = .returned (.tuple #[.agg #[.int .u64 (U (decB b t e a)), .int .u64 (U (decT b t e a))], .bool (decOk b t e a)]) ∧ Below w.heap.size w w' := by
  have h37 : e.toNat ≤ 37 := by simp at he; unfold U at he; omega
  have cs : ∀ w : World, Calls Try.prog 39 #[.int .u64 (U e)] w fun r w' => r = .returned (.int .u64 (x : Int)) ∧ w = w' := fun w => (rexponent_any e.toNat h37 w).mono fun _ _ g => ⟨by rw [g.1, hx], g.2⟩
  have h0 : (0 : Int) ≤ (x : Int) := by omega
  have hn : decN b t e = ((t - b) &&& 4095#64) := by unfold decN U at *; rw [if_neg (by omega)]
  have HN := Lib.hid hn
  have HX := Lib.hid hx
  have HV := Lib.hid (show decV b t e a = true by rw [decV_of, hb, ht, he, ha]; rfl)
  have q1 := far_same (a >>> x) b
  have q2 := len_same t b
  have q3 := len_or (t - b)
  clear hn hx h37
  go_enter Try.func36, Try.ntmps36
  go_wp2_with (first | (go_at_call 39; (with_reducible refine (cs _).mono ?_); rintro e w' ⟨rfl, rfl⟩))
  · have g := dec_low (t := t) HX.out (by with_reducible assumption)
    obtain ⟨g1, g2⟩ := dec_none g
    rw [g1, g2, g]
    refine bodyPost_ret (results_ct [.int .u64 0, .int .u64 0] (.bool false) Try.results36 rfl rfl ?_ Try.underlying59 rfl (by kernel_rfl)) rfl ?_
    · (first | (go_simp; done) | (go_simp; (simp [↓IntWalk.iteOmega]; done)) | (go_simp; intros; omega) | (go_simp; simp [↓IntWalk.iteOmega]; intros; omega))
    · exact ⟨rfl, by (repeat (first | with_reducible exact Below.refl _ _ | with_reducible assumption | with_reducible refine below_drewN ?_ _ | with_reducible refine Below.drew ?_ | with_reducible refine below_alloc ?_ _ | (with_reducible refine Below.setCell ?_ (by first | (simp; done) | omega | (simp; omega)) _) | with_reducible refine belows ?_ (by assumption)))⟩
  · have g := dec_high HX.out _ HN.out (by with_reducible assumption)
    obtain ⟨g1, g2⟩ := dec_none g
    rw [g1, g2, g]
    refine bodyPost_ret (results_ct [.int .u64 0, .int .u64 0] (.bool false) Try.results36 rfl rfl ?_ Try.underlying59 rfl (by kernel_rfl)) rfl ?_
    · (first | (go_simp; done) | (go_simp; (simp [↓IntWalk.iteOmega]; done)) | (go_simp; intros; omega) | (go_simp; simp [↓IntWalk.iteOmega]; intros; omega))
    · exact ⟨rfl, by (repeat (first | with_reducible exact Below.refl _ _ | with_reducible assumption | with_reducible refine below_drewN ?_ _ | with_reducible refine Below.drew ?_ | with_reducible refine below_alloc ?_ _ | (with_reducible refine Below.setCell ?_ (by first | (simp; done) | omega | (simp; omega)) _) | with_reducible refine belows ?_ (by assumption)))⟩
  · have HG := Lib.hid (dec_fine HX.out _ HN.out HV.out (by with_reducible assumption) (by with_reducible assumption))
    refine bodyPost_ret (results_ct [.int .u64 (U ((a >>> x + 4096#64 - (a >>> x - b + 4096#64 &&& 16383#64)) <<< x)), .int .u64 (U ((a >>> x + 4096#64 - (a >>> x - b + 4096#64 &&& 16383#64) + ((t - b) &&& 4095#64)) <<< x))] (.bool true) Try.results36 rfl rfl ?_ Try.underlying59 rfl (by kernel_rfl)) rfl ?_
    · (first | (go_simp; done) | (go_simp; (simp [↓IntWalk.iteOmega]; done)) | (go_simp; intros; omega) | (go_simp; simp [↓IntWalk.iteOmega]; intros; omega))
    · obtain ⟨g, g1, g2⟩ := HG.out
      rw [g1, g2, g]
      exact ⟨rfl, by (repeat (first | with_reducible exact Below.refl _ _ | with_reducible assumption | with_reducible refine below_drewN ?_ _ | with_reducible refine Below.drew ?_ | with_reducible refine below_alloc ?_ _ | (with_reducible refine Below.setCell ?_ (by first | (simp; done) | omega | (simp; omega)) _) | with_reducible refine belows ?_ (by assumption)))⟩
theorem rdecode_any (b t e a : BitVec 64) (w : World) : Calls Try.prog 36 #[.agg #[.int .u64 (U b), .int .u64 (U t), .int .u64 (U e)], .int .u64 (U a)] w fun r w' => r = .returned (.tuple #[.agg #[.int .u64 (U (decB b t e a)), .int .u64 (U (decT b t e a))], .bool (decOk b t e a)]) ∧ Below w.heap.size w w' := by
  cases hb : decide (16384 ≤ U b)
  · cases ht : decide (4096 ≤ U t)
    · cases he : decide (37 < U e)
      · cases ha : decide (281474976710656 ≤ U a)
        · by_cases h1 : 0 < U e
          · exact rdecode_yes b t e a hb ht he ha _ rfl h1 w
          · exact rdecode_zero b t e a hb ht he ha _ rfl (by omega) w
        · have g := decOk_not (show decV b t e a = false by rw [decV_of, hb, ht, he, ha]; rfl)
          obtain ⟨g1, g2⟩ := dec_none g
          rw [g1, g2, g]
          exact rdecode_no4 b t e a hb ht he ha w
      · have g := decOk_not (show decV b t e a = false by rw [decV_of, hb, ht, he]; rfl)
        obtain ⟨g1, g2⟩ := dec_none g
        rw [g1, g2, g]
        exact rdecode_no3 b t e a hb ht he w
    · have g := decOk_not (show decV b t e a = false by rw [decV_of, hb, ht]; rfl)
      obtain ⟨g1, g2⟩ := dec_none g
      rw [g1, g2, g]
      exact rdecode_no2 b t e a hb ht w
  · have g := decOk_not (show decV b t e a = false by rw [decV_of, hb]; rfl)
    obtain ⟨g1, g2⟩ := dec_none g
    rw [g1, g2, g]
    exact rdecode_no1 b t e a hb w
theorem get_rem (m : BitVec 64) (a n : Nat) (k : BitVec 64) (h : a + n ≤ 64) (hn : n < 64) (hk : k.toNat = 2 ^ n) : (m >>> a) % k = getF m a n := by
  rw [rem_mask _ n _ hn hk]
  unfold getF
  rw [if_pos ((mayF_iff _ _).2 (by omega))]
  rfl
theorem rem_B (m : BitVec 64) : m % 16384#64 = mB m := by
  have := get_rem m 0 14 16384#64 (by omega) (by omega) rfl
  unfold mB
  simpa using this
theorem rem_T (m : BitVec 64) : (m >>> 14) % 4096#64 = mT m := get_rem m 14 12 _ (by omega) (by omega) rfl
theorem rem_E (m : BitVec 64) : (m >>> 26) % 64#64 = mE m := get_rem m 26 6 _ (by omega) (by omega) rfl
theorem rem_P (m : BitVec 64) : (m >>> 32) % 512#64 = mP m := get_rem m 32 9 _ (by omega) (by omega) rfl
theorem rem_Y (m : BitVec 64) : (m >>> 48) % 4096#64 = mY m := get_rem m 48 12 _ (by omega) (by omega) rfl
set_option maxRecDepth 100000 in
theorem rfieldsM_any (m : BitVec 64) (w : World) : Calls Try.prog 37 #[.int .u64 (U m)] w fun r w' => r = .returned (.agg #[.int .u64 (U (mB m)), .int .u64 (U (mT m)), .int .u64 (U (mE m))]) ∧ Below w.heap.size w w' := by
  have h0 := rem_B m
  have h1 := rem_T m
  have h2 := rem_E m
  go_enter Try.func37, Try.ntmps37
  go_wp2_with fail
  refine bodyPost_ret (results_c [.int .u64 (U (mB m)), .int .u64 (U (mT m)), .int .u64 (U (mE m))] Try.results37 rfl ?_ Try.underlying75 rfl (by kernel_rfl)) rfl ?_
  · (first | (go_simp; done) | (go_simp; (simp [↓IntWalk.iteOmega]; done)) | (go_simp; intros; omega) | (go_simp; simp [↓IntWalk.iteOmega]; intros; omega))
  · exact ⟨rfl, by (repeat (first | with_reducible exact Below.refl _ _ | with_reducible assumption | with_reducible refine below_drewN ?_ _ | with_reducible refine Below.drew ?_ | with_reducible refine below_alloc ?_ _ | (with_reducible refine Below.setCell ?_ (by first | (simp; done) | omega | (simp; omega)) _) | with_reducible refine belows ?_ (by assumption)))⟩
theorem rdecM_any (m a : BitVec 64) (w : World) : Calls Try.prog 36 #[.agg #[.int .u64 (U (mB m)), .int .u64 (U (mT m)), .int .u64 (U (mE m))], .int .u64 (U a)] w fun r w' => r = .returned (.tuple #[.agg #[.int .u64 (U (lkB m a)), .int .u64 (U (lkT m a))], .bool (lkOk m a)]) ∧ Below w.heap.size w w' := rdecode_any _ _ _ a w
set_option maxHeartbeats 2000000 in
set_option maxRecDepth 100000 in
theorem rlook_any (g : Bool) (m a : BitVec 64) (w : World) : Calls Try.prog 33 #[.agg #[.bool g, .int .u64 (U m), .int .u64 (U a)]] w fun r w' => r = .returned (.tuple #[.agg #[.int .u64 (U (lkB m a)), .int .u64 (U (lkT m a)), .int .u64 (U (mP m)), .int .u64 (U (mY m))], .bool (lkOk m a)]) ∧ Below w.heap.size w w' := by
  have h1 := rem_P m
  have h2 := rem_Y m
  go_enter Try.func33, Try.ntmps33
  go_wp2_with fail
  go_region_held3 (fun w'' => Below w.heap.size w w'' ∧ w.heap.size + 2 ≤ w''.heap.size ∧ w''.cell? ⟨w.heap.size, 1, none⟩ = some (.int .u64 (U m)) ∧ w''.cell? ⟨w.heap.size, 2, none⟩ = some (.int .u64 (U a)))
    (first
      | (go_keep; done)
      | (refine ⟨?_, ?_, ?_, ?_⟩; (· (repeat (first | with_reducible exact Below.refl _ _ | with_reducible assumption | with_reducible refine below_drewN ?_ _ | with_reducible refine Below.drew ?_ | with_reducible refine below_alloc ?_ _ | (with_reducible refine Below.setCell ?_ (by first | (simp; done) | omega | (simp; omega)) _) | with_reducible refine belows ?_ (by assumption)))); (· first | omega | (simp; done) | (simp; omega)); (· (first | (go_simp; done) | (go_simp; (simp [↓IntWalk.iteOmega]; done)) | (go_simp; intros; omega) | (go_simp; simp [↓IntWalk.iteOmega]; intros; omega))); (· (first | (go_simp; done) | (go_simp; (simp [↓IntWalk.iteOmega]; done)) | (go_simp; intros; omega) | (go_simp; simp [↓IntWalk.iteOmega]; intros; omega)))))
    (first | (go_at_call 37; (with_reducible refine (rfieldsM_any _ _).mono ?_); rintro e w' ⟨rfl, hbl⟩; obtain ⟨hcw, hfw, hsw⟩ := below_ifs hbl; (try simp only [World.size_alloc, World.size_setCell, World.size_drew, size_drewN_] at hcw hfw hsw)) | (go_at_call 36; (with_reducible refine (rdecM_any _ _ _).mono ?_); rintro e w' ⟨rfl, hbl⟩; obtain ⟨hcw, hfw, hsw⟩ := below_ifs hbl; (try simp only [World.size_alloc, World.size_setCell, World.size_drew, size_drewN_] at hcw hfw hsw)))
  all_goals go_wp2_with fail
  all_goals refine bodyPost_ret (results_ct [.int .u64 (U (lkB m a)), .int .u64 (U (lkT m a)), .int .u64 (U (mP m)), .int .u64 (U (mY m))] (.bool (lkOk m a)) Try.results33 rfl rfl ?_ Try.underlying66 rfl (by kernel_rfl)) rfl ?_
  all_goals first | (first | (go_simp; done) | (go_simp; (simp [↓IntWalk.iteOmega]; done)) | (go_simp; intros; omega) | (go_simp; simp [↓IntWalk.iteOmega]; intros; omega)) | exact ⟨rfl, by (repeat (first | with_reducible exact Below.refl _ _ | with_reducible assumption | with_reducible refine below_drewN ?_ _ | with_reducible refine Below.drew ?_ | with_reducible refine below_alloc ?_ _ | (with_reducible refine Below.setCell ?_ (by first | (simp; done) | omega | (simp; omega)) _) | with_reducible refine belows ?_ (by assumption)))⟩
set_option maxHeartbeats 4000000 in
set_option maxRecDepth 100000 in
theorem rspan_any (c : Cp) (w : World) : Calls Try.prog 30 #[capV c] w fun r w' => r = .returned (.agg #[.int .u64 (U (baseF c)), .int .u64 (U (lkT c.m c.a))]) ∧ Below w.heap.size w w' := by
  obtain ⟨g, m, a⟩ := c
  unfold baseF capV
  dsimp only
  go_enter Try.func30, Try.ntmps30
  go_wp2_with (first | (go_at_call 33; (with_reducible refine (rlook_any _ _ _ _).mono ?_); rintro e w' ⟨rfl, hbl⟩; obtain ⟨hcw, hfw, hsw⟩ := below_ifs hbl; (try simp only [World.size_alloc, World.size_setCell, World.size_drew, size_drewN_] at hcw hfw hsw)))
  refine bodyPost_ret (results_c [.int .u64 (U (lkB m a)), .int .u64 (U (lkT m a))] Try.results30 rfl ?_ Try.underlying59 rfl (by kernel_rfl)) rfl ?_
  · (first | (go_simp; done) | (go_simp; (simp [↓IntWalk.iteOmega]; done)) | (go_simp; intros; omega) | (go_simp; simp [↓IntWalk.iteOmega]; intros; omega))
  · exact ⟨rfl, by (repeat (first | with_reducible exact Below.refl _ _ | with_reducible assumption | with_reducible refine below_drewN ?_ _ | with_reducible refine Below.drew ?_ | with_reducible refine below_alloc ?_ _ | (with_reducible refine Below.setCell ?_ (by first | (simp; done) | omega | (simp; omega)) _) | with_reducible refine belows ?_ (by assumption)))⟩
end Go.Proofs.Ytpjcijmdoofcbaa
