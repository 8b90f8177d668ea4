
/-
  The document's answer for spans that are kept: Decode.
-/
import Derived.Test.YtikpkoeeinkecaaRefBoundsE
namespace Go.Proofs.Ytikpkoeeinkecaa
open Go Go.RowKit
set_option linter.unusedVariables false
set_option linter.unusedSimpArgs false

theorem far_same (x b : BitVec 64) : (x + 16384#64 - b + 4096#64) % 16384#64 = x - b + 4096#64 &&& 16383#64 := by
  rw [← rem_16384]
  apply BitVec.eq_of_toNat_eq
  have h1 := x.isLt
  have h2 := b.isLt
  simp only [BitVec.toNat_umod, BitVec.toNat_add, BitVec.toNat_sub, show (16384#64).toNat = 16384 from rfl, show (4096#64).toNat = 4096 from rfl]
  omega
theorem len_same (t b : BitVec 64) : (t + 16384#64 - b) % 4096#64 = t - b &&& 4095#64 := by
  rw [← rem_4096]
  apply BitVec.eq_of_toNat_eq
  have h1 := t.isLt
  have h2 := b.isLt
  simp only [BitVec.toNat_umod, BitVec.toNat_add, BitVec.toNat_sub, show (16384#64).toNat = 16384 from rfl, show (4096#64).toNat = 4096 from rfl]
  omega
theorem len_or (y : BitVec 64) : (y &&& 4095#64) + 4096#64 = y &&& 4095#64 ||| 4096#64 := by
  have h : (y &&& 4095#64).toNat < 4096 := by
    rw [show (4095#64) = maskF (12 : Nat) from rfl, low_toNat _ 12 (by omega)]; omega
  apply BitVec.eq_of_toNat_eq
  rw [or_4096 _ h, BitVec.toNat_add]
  simp only [show (4096#64).toNat = 4096 from rfl]
  omega
theorem decV_of (b t e a : BitVec 64) : decV b t e a = (!decide (16384 ≤ U b) && !decide (4096 ≤ U t) && !decide (37 < U e) && !decide (281474976710656 ≤ U a)) := by
  unfold decV U; rw [Bool.eq_iff_iff]; simp; omega
set_option maxHeartbeats 2000000 in
theorem rdecode_no1 (b t e a : BitVec 64) (hb : decide (16384 ≤ U b) = true) (w : World) : Calls Try.prog 29 #[.agg #[.int .u64 (U b), .int .u64 (U t), .int .u64 (U e)], .int .u64 (U a)] w fun r w' => r = .returned (.tuple #[.agg #[.int .u64 0, .int .u64 0], .bool false]) ∧ Below w.heap.size w w' := by
  go_enter Try.func29, Try.ntmps29
  go_wp2_with fail
  refine bodyPost_ret (results_ct [.int .u64 0, .int .u64 0] (.bool false) Try.results29 rfl rfl ?_ Try.underlying34 rfl (by kernel_rfl)) rfl ?_
  · (first | (go_simp; done) | (go_simp; (simp [↓IntWalk.iteOmega]; done)) | (go_simp; intros; omega) | (go_simp; simp [↓IntWalk.iteOmega]; intros; omega))
  · exact ⟨rfl, by (repeat (first | with_reducible exact Below.refl _ _ | with_reducible assumption | with_reducible refine below_drewN ?_ _ | with_reducible refine Below.drew ?_ | with_reducible refine below_alloc ?_ _ | (with_reducible refine Below.setCell ?_ (by first | (simp; done) | omega | (simp; omega)) _) | with_reducible refine belows ?_ (by assumption)))⟩
set_option maxHeartbeats 2000000 in
theorem rdecode_no2 (b t e a : BitVec 64) (hb : decide (16384 ≤ U b) = false) (ht : decide (4096 ≤ U t) = true) (w : World) : Calls Try.prog 29 #[.agg #[.int .u64 (U b), .int .u64 (U t), .int .u64 (U e)], .int .u64 (U a)] w fun r w' => r = .returned (.tuple #[.agg #[.int .u64 0, .int .u64 0], .bool false]) ∧ Below w.heap.size w w' := by
  go_enter Try.func29, Try.ntmps29
  go_wp2_with fail
  refine bodyPost_ret (results_ct [.int .u64 0, .int .u64 0] (.bool false) Try.results29 rfl rfl ?_ Try.underlying34 rfl (by kernel_rfl)) rfl ?_
  · (first | (go_simp; done) | (go_simp; (simp [↓IntWalk.iteOmega]; done)) | (go_simp; intros; omega) | (go_simp; simp [↓IntWalk.iteOmega]; intros; omega))
  · exact ⟨rfl, by (repeat (first | with_reducible exact Below.refl _ _ | with_reducible assumption | with_reducible refine below_drewN ?_ _ | with_reducible refine Below.drew ?_ | with_reducible refine below_alloc ?_ _ | (with_reducible refine Below.setCell ?_ (by first | (simp; done) | omega | (simp; omega)) _) | with_reducible refine belows ?_ (by assumption)))⟩
set_option maxHeartbeats 2000000 in
theorem rdecode_no3 (b t e a : BitVec 64) (hb : decide (16384 ≤ U b) = false) (ht : decide (4096 ≤ U t) = false) (he : decide (37 < U e) = true) (w : World) : Calls Try.prog 29 #[.agg #[.int .u64 (U b), .int .u64 (U t), .int .u64 (U e)], .int .u64 (U a)] w fun r w' => r = .returned (.tuple #[.agg #[.int .u64 0, .int .u64 0], .bool false]) ∧ Below w.heap.size w w' := by
  go_enter Try.func29, Try.ntmps29
  go_wp2_with fail
  refine bodyPost_ret (results_ct [.int .u64 0, .int .u64 0] (.bool false) Try.results29 rfl rfl ?_ Try.underlying34 rfl (by kernel_rfl)) rfl ?_
  · (first | (go_simp; done) | (go_simp; (simp [↓IntWalk.iteOmega]; done)) | (go_simp; intros; omega) | (go_simp; simp [↓IntWalk.iteOmega]; intros; omega))
  · exact ⟨rfl, by (repeat (first | with_reducible exact Below.refl _ _ | with_reducible assumption | with_reducible refine below_drewN ?_ _ | with_reducible refine Below.drew ?_ | with_reducible refine below_alloc ?_ _ | (with_reducible refine Below.setCell ?_ (by first | (simp; done) | omega | (simp; omega)) _) | with_reducible refine belows ?_ (by assumption)))⟩
set_option maxHeartbeats 2000000 in
theorem rdecode_no4 (b t e a : BitVec 64) (hb : decide (16384 ≤ U b) = false) (ht : decide (4096 ≤ U t) = false) (he : decide (37 < U e) = false) (ha : decide (281474976710656 ≤ U a) = true) (w : World) : Calls Try.prog 29 #[.agg #[.int .u64 (U b), .int .u64 (U t), .int .u64 (U e)], .int .u64 (U a)] w fun r w' => r = .returned (.tuple #[.agg #[.int .u64 0, .int .u64 0], .bool false]) ∧ Below w.heap.size w w' := by
  go_enter Try.func29, Try.ntmps29
  go_wp2_with fail
  refine bodyPost_ret (results_ct [.int .u64 0, .int .u64 0] (.bool false) Try.results29 rfl rfl ?_ Try.underlying34 rfl (by kernel_rfl)) rfl ?_
  · (first | (go_simp; done) | (go_simp; (simp [↓IntWalk.iteOmega]; done)) | (go_simp; intros; omega) | (go_simp; simp [↓IntWalk.iteOmega]; intros; omega))
  · exact ⟨rfl, by (repeat (first | with_reducible exact Below.refl _ _ | with_reducible assumption | with_reducible refine below_drewN ?_ _ | with_reducible refine Below.drew ?_ | with_reducible refine below_alloc ?_ _ | (with_reducible refine Below.setCell ?_ (by first | (simp; done) | omega | (simp; omega)) _) | with_reducible refine belows ?_ (by assumption)))⟩
set_option maxHeartbeats 4000000 in
set_option maxRecDepth 100000 in
theorem rdecode_yes (b t e a : BitVec 64) (hb : decide (16384 ≤ U b) = false) (ht : decide (4096 ≤ U t) = false) (he : decide (37 < U e) = false) (ha : decide (281474976710656 ≤ U a) = false) (x : Nat) (hx : e.toNat - 1 = x) (h1 : 0 < U e) (w : World) : Calls Try.prog 29 #[.agg #[.int .u64 (U b), .int .u64 (U t), .int .u64 (U e)], .int .u64 (U a)] w fun r w' => r = .returned (.tuple #[.agg #[.int .u64 (U (decB b t e a)), .int .u64 (U (decT b t e a))], .bool (decOk b t e a)]) ∧ Below w.heap.size w w' := by
  have h37 : e.toNat ≤ 37 := by simp at he; unfold U at he; omega
  have cs : ∀ w : World, Calls Try.prog 42 #[.int .u64 (U e)] w fun r w' => r = .returned (.int .u64 (x : Int)) ∧ w = w' := fun w => (rexponent_any e.toNat h37 w).mono fun _ _ g => ⟨by rw [g.1, hx], g.2⟩
  have h0 : (0 : Int) ≤ (x : Int) := by omega
  have hn : decN b t e = ((t - b) &&& 4095#64 ||| 4096#64) := by unfold decN U at *; rw [if_pos (by omega)]
  have HN := Lib.hid hn
  have HX := Lib.hid hx
  have HV := Lib.hid (show decV b t e a = true by rw [decV_of, hb, ht, he, ha]; rfl)
  have q1 := far_same (a >>> x) b
  have q2 := len_same t b
  have q3 := len_or (t - b)
  clear hn hx h37
  go_enter Try.func29, Try.ntmps29
  go_wp2_with (first | (go_at_call 42; (with_reducible refine (cs _).mono ?_); rintro e w' ⟨rfl, rfl⟩))
  · have g := dec_low (t := t) HX.out (by with_reducible assumption)
    obtain ⟨g1, g2⟩ := dec_none g
    rw [g1, g2, g]
    refine bodyPost_ret (results_ct [.int .u64 0, .int .u64 0] (.bool false) Try.results29 rfl rfl ?_ Try.underlying34 rfl (by kernel_rfl)) rfl ?_
    · (first | (go_simp; done) | (go_simp; (simp [↓IntWalk.iteOmega]; done)) | (go_simp; intros; omega) | (go_simp; simp [↓IntWalk.iteOmega]; intros; omega))
    · exact ⟨rfl, by (repeat (first | with_reducible exact Below.refl _ _ | with_reducible assumption | with_reducible refine below_drewN ?_ _ | with_reducible refine Below.drew ?_ | with_reducible refine below_alloc ?_ _ | (with_reducible refine Below.setCell ?_ (by first | (simp; done) | omega | (simp; omega)) _) | with_reducible refine belows ?_ (by assumption)))⟩
  · have g := dec_high HX.out _ HN.out (by with_reducible assumption)
    obtain ⟨g1, g2⟩ := dec_none g
    rw [g1, g2, g]
    refine bodyPost_ret (results_ct [.int .u64 0, .int .u64 0] (.bool false) Try.results29 rfl rfl ?_ Try.underlying34 rfl (by kernel_rfl)) rfl ?_
    · (first | (go_simp; done) | (go_simp; (simp [↓IntWalk.iteOmega]; done)) | (go_simp; intros; omega) | (go_simp; simp [↓IntWalk.iteOmega]; intros; omega))
    · exact ⟨rfl, by (repeat (first | with_reducible exact Below.refl _ _ | with_reducible assumption | with_reducible refine below_drewN ?_ _ | with_reducible refine Below.drew ?_ | with_reducible refine below_alloc ?_ _ | (with_reducible refine Below.setCell ?_ (by first | (simp; done) | omega | (simp; omega)) _) | with_reducible refine belows ?_ (by assumption)))⟩
  · have HG := Lib.hid (dec_fine HX.out _ HN.out HV.out (by with_reducible assumption) (by with_reducible assumption))
    refine bodyPost_ret (results_ct [.int .u64 (U ((a >>> x + 4096#64 - (a >>> x - b + 4096#64 &&& 16383#64)) <<< x)), .int .u64 (U ((a >>> x + 4096#64 - (a >>> x - b + 4096#64 &&& 16383#64) + ((t - b) &&& 4095#64 ||| 4096#64)) <<< x))] (.bool true) Try.results29 rfl rfl ?_ Try.underlying34 rfl (by kernel_rfl)) rfl ?_
    · (first | (go_simp; done) | (go_simp; (simp [↓IntWalk.iteOmega]; done)) | (go_simp; intros; omega) | (go_simp; simp [↓IntWalk.iteOmega]; intros; omega))
    · obtain ⟨g, g1, g2⟩ := HG.out
      rw [g1, g2, g]
      exact ⟨rfl, by (repeat (first | with_reducible exact Below.refl _ _ | with_reducible assumption | with_reducible refine below_drewN ?_ _ | with_reducible refine Below.drew ?_ | with_reducible refine below_alloc ?_ _ | (with_reducible refine Below.setCell ?_ (by first | (simp; done) | omega | (simp; omega)) _) | with_reducible refine belows ?_ (by assumption)))⟩
set_option maxHeartbeats 4000000 in
set_option maxRecDepth 100000 in
theorem rdecode_zero (b t e a : BitVec 64) (hb : decide (16384 ≤ U b) = false) (ht : decide (4096 ≤ U t) = false) (he : decide (37 < U e) = false) (ha : decide (281474976710656 ≤ U a) = false) (x : Nat) (hx : e.toNat - 1 = x) (h1 : U e ≤ 0) (w : World) : Calls Try.prog 29 #[.agg #[.int .u64 (U b), .int .u64 (U t), .int .u64 (U e)], .int .u64 (U a)] w fun r w' => r = .returned (.tuple #[.agg #[.int .u64 (U (decB b t e a)), .int .u64 (U (decT b t e a))], .bool (decOk b t e a)]) ∧ Below w.heap.size w w' := by
  have h37 : e.toNat ≤ 37 := by simp at he; unfold U at he; omega
  have cs : ∀ w : World, Calls Try.prog 42 #[.int .u64 (U e)] w fun r w' => r = .returned (.int .u64 (x : Int)) ∧ w = w' := fun w => (rexponent_any e.toNat h37 w).mono fun _ _ g => ⟨by rw [g.1, hx], g.2⟩
  have h0 : (0 : Int) ≤ (x : Int) := by omega
  have hn : decN b t e = ((t - b) &&& 4095#64) := by unfold decN U at *; rw [if_neg (by omega)]
  have HN := Lib.hid hn
  have HX := Lib.hid hx
  have HV := Lib.hid (show decV b t e a = true by rw [decV_of, hb, ht, he, ha]; rfl)
  have q1 := far_same (a >>> x) b
  have q2 := len_same t b
  have q3 := len_or (t - b)
  clear hn hx h37
  go_enter Try.func29, Try.ntmps29
  go_wp2_with (first | (go_at_call 42; (with_reducible refine (cs _).mono ?_); rintro e w' ⟨rfl, rfl⟩))
  · have g := dec_low (t := t) HX.out (by with_reducible assumption)
    obtain ⟨g1, g2⟩ := dec_none g
    rw [g1, g2, g]
    refine bodyPost_ret (results_ct [.int .u64 0, .int .u64 0] (.bool false) Try.results29 rfl rfl ?_ Try.underlying34 rfl (by kernel_rfl)) rfl ?_
    · (first | (go_simp; done) | (go_simp; (simp [↓IntWalk.iteOmega]; done)) | (go_simp; intros; omega) | (go_simp; simp [↓IntWalk.iteOmega]; intros; omega))
    · exact ⟨rfl, by (repeat (first | with_reducible exact Below.refl _ _ | with_reducible assumption | with_reducible refine below_drewN ?_ _ | with_reducible refine Below.drew ?_ | with_reducible refine below_alloc ?_ _ | (with_reducible refine Below.setCell ?_ (by first | (simp; done) | omega | (simp; omega)) _) | with_reducible refine belows ?_ (by assumption)))⟩
  · have g := dec_high HX.out _ HN.out (by with_reducible assumption)
    obtain ⟨g1, g2⟩ := dec_none g
    rw [g1, g2, g]
    refine bodyPost_ret (results_ct [.int .u64 0, .int .u64 0] (.bool false) Try.results29 rfl rfl ?_ Try.underlying34 rfl (by kernel_rfl)) rfl ?_
    · (first | (go_simp; done) | (go_simp; (simp [↓IntWalk.iteOmega]; done)) | (go_simp; intros; omega) | (go_simp; simp [↓IntWalk.iteOmega]; intros; omega))
    · exact ⟨rfl, by (repeat (first | with_reducible exact Below.refl _ _ | with_reducible assumption | with_reducible refine below_drewN ?_ _ | with_reducible refine Below.drew ?_ | with_reducible refine below_alloc ?_ _ | (with_reducible refine Below.setCell ?_ (by first | (simp; done) | omega | (simp; omega)) _) | with_reducible refine belows ?_ (by assumption)))⟩
  · have HG := Lib.hid (dec_fine HX.out _ HN.out HV.out (by with_reducible assumption) (by with_reducible assumption))
    refine bodyPost_ret (results_ct [.int .u64 (U ((a >>> x + 4096#64 - (a >>> x - b + 4096#64 &&& 16383#64)) <<< x)), .int .u64 (U ((a >>> x + 4096#64 - (a >>> x - b + 4096#64 &&& 16383#64) + ((t - b) &&& 4095#64)) <<< x))] (.bool true) Try.results29 rfl rfl ?_ Try.underlying34 rfl (by kernel_rfl)) rfl ?_
    · (first | (go_simp; done) | (go_simp; (simp [↓IntWalk.iteOmega]; done)) | (go_simp; intros; omega) | (go_simp; simp [↓IntWalk.iteOmega]; intros; omega))
    · obtain ⟨g, g1, g2⟩ := HG.out
      rw [g1, g2, g]
      exact ⟨rfl, by (repeat (first | with_reducible exact Below.refl _ _ | with_reducible assumption | with_reducible refine below_drewN ?_ _ | with_reducible refine Below.drew ?_ | with_reducible refine below_alloc ?_ _ | (with_reducible refine Below.setCell ?_ (by first | (simp; done) | omega | (simp; omega)) _) | with_reducible refine belows ?_ (by assumption)))⟩
theorem rdecode_any (b t e a : BitVec 64) (w : World) : Calls Try.prog 29 #[.agg #[.int .u64 (U b), .int .u64 (U t), .int .u64 (U e)], .int .u64 (U a)] w fun r w' => r = .returned (.tuple #[.agg #[.int .u64 (U (decB b t e a)), .int .u64 (U (decT b t e a))], .bool (decOk b t e a)]) ∧ Below w.heap.size w w' := by
  cases hb : decide (16384 ≤ U b)
  · cases ht : decide (4096 ≤ U t)
    · cases he : decide (37 < U e)
      · cases ha : decide (281474976710656 ≤ U a)
        · by_cases h1 : 0 < U e
          · exact rdecode_yes b t e a hb ht he ha _ rfl h1 w
          · exact rdecode_zero b t e a hb ht he ha _ rfl (by omega) w
        · have g := decOk_not (show decV b t e a = false by rw [decV_of, hb, ht, he, ha]; rfl)
          obtain ⟨g1, g2⟩ := dec_none g
          rw [g1, g2, g]
          exact rdecode_no4 b t e a hb ht he ha w
      · have g := decOk_not (show decV b t e a = false by rw [decV_of, hb, ht, he]; rfl)
        obtain ⟨g1, g2⟩ := dec_none g
        rw [g1, g2, g]
        exact rdecode_no3 b t e a hb ht he w
    · have g := decOk_not (show decV b t e a = false by rw [decV_of, hb, ht]; rfl)
      obtain ⟨g1, g2⟩ := dec_none g
      rw [g1, g2, g]
      exact rdecode_no2 b t e a hb ht w
  · have g := decOk_not (show decV b t e a = false by rw [decV_of, hb]; rfl)
    obtain ⟨g1, g2⟩ := dec_none g
    rw [g1, g2, g]
    exact rdecode_no1 b t e a hb w
end Go.Proofs.Ytikpkoeeinkecaa
