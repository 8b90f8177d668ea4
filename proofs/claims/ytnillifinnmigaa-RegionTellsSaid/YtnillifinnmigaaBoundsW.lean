
/-
  Spans that are kept (bounds), function by function.
-/
import Derived.Test.YtnillifinnmigaaBounds
import Derived.Test.YtnillifinnmigaaBoundsP
import Derived.Test.YtnillifinnmigaaWalk
import Derived.BigRegion
import Derived.Outline
namespace Go.Proofs.Ytnillifinnmigaa
open Go Go.RowKit
set_option linter.unusedVariables false
set_option linter.unusedSimpArgs false

set_option maxRecDepth 100000
theorem span_guard : Try.prog.eqGuardType Try.prog.depth 24 = false := by kernel_rfl
theorem span_stood : Try.prog.stoodInHeld 24 = false := by kernel_rfl
theorem span_eql (a b a' b' : BitVec 64) (w : World) : (binOp .eql 24 (.agg #[.int .u64 (U a), .int .u64 (U b)]) (.agg #[.int .u64 (U a'), .int .u64 (U b')])).run Try.prog w = .ok (.bool (a == a' && b == b')) w := by
  have hs := span_stood
  rw [run_eql_struct]
  rw [show (10000 : Nat) = 9999 + 1 from rfl, run_equalIn_struct _ _ _ _ _ Try.underlying24 hs]
  simp [go_sem, Try.underlying24]
  by_cases h1 : a = a' <;> by_cases h2 : b = b' <;> simp [h1, h2]
theorem span_neq (a b a' b' : BitVec 64) (w : World) : (binOp .neq 24 (.agg #[.int .u64 (U a), .int .u64 (U b)]) (.agg #[.int .u64 (U a'), .int .u64 (U b')])).run Try.prog w = .ok (.bool (!(a == a' && b == b'))) w := neq_of_eql (span_eql a b a' b' w)
theorem fields_neq (a b c a' b' c' : BitVec 64) (w : World) : (binOp .neq 36 (.agg #[.int .u64 (U a), .int .u64 (U b), .int .u64 (U c)]) (.agg #[.int .u64 (U a'), .int .u64 (U b'), .int .u64 (U c')])).run Try.prog w = .ok (.bool (!(a == a' && b == b' && c == c'))) w := neq_of_eql (fields_eql a b c a' b' c' w)
attribute [go_sem 3000] span_guard span_eql span_neq fields_neq

theorem S_small (x : BitVec 64) (h : x.toNat < 9223372036854775808) : S x = (x.toNat : Int) := by
  unfold S; rw [BitVec.toInt_eq_toNat_bmod, Int.bmod_def]; simp; omega
theorem shift_any (e : BitVec 64) (h : e.toNat < 9223372036854775808) (w : World) : Calls Try.prog 22 #[.int .u64 (U e)] w fun r w' => r = .returned (.int .i64 ((e.toNat - 1 : Nat) : Int)) ∧ w = w' := by
  have hS := S_small e h
  by_cases h0 : e.toNat = 0
  · have h1 : S e = 0 := by omega
    clear hS
    go_enter Try.func22, Try.ntmps22
    go_wp2_with fail
    go_ret
    exact ⟨ret_int (by omega), rfl⟩
  · have h1 : S e = (e.toNat : Int) := hS
    clear hS
    go_enter Try.func22, Try.ntmps22
    go_wp2_with fail
    go_ret
    exact ⟨ret_int (by omega), rfl⟩
theorem bmay_any (b t : BitVec 64) (w : World) : Calls Try.prog 20 #[.agg #[.int .u64 (U b), .int .u64 (U t)]] w fun r w' => r = .returned (.bool (mayS b t)) ∧ Below w.heap.size w w' := by
  cases h1 : decide (U b ≤ U t)
  · go_enter Try.func20, Try.ntmps20
    go_wp2_with fail
    go_ret
    exact ⟨ret_bool (by unfold mayS; rw [show decide (b.toNat ≤ t.toNat) = false from by unfold U at h1; simpa using h1]; rfl), by (repeat (first | with_reducible exact Below.refl _ _ | with_reducible assumption | with_reducible refine below_drewN ?_ _ | with_reducible refine Below.drew ?_ | with_reducible refine below_alloc ?_ _ | (with_reducible refine Below.setCell ?_ (by first | (simp; done) | omega | (simp; omega)) _) | with_reducible refine belows ?_ (by assumption)))⟩
  · cases h2 : decide (U t ≤ 281474976710656)
    · go_enter Try.func20, Try.ntmps20
      go_wp2_with fail
      go_ret
      exact ⟨ret_bool (by unfold mayS; unfold U at h2; rw [show decide (t.toNat ≤ 281474976710656) = false from by simp at h2 ⊢; omega]; simp), by (repeat (first | with_reducible exact Below.refl _ _ | with_reducible assumption | with_reducible refine below_drewN ?_ _ | with_reducible refine Below.drew ?_ | with_reducible refine below_alloc ?_ _ | (with_reducible refine Below.setCell ?_ (by first | (simp; done) | omega | (simp; omega)) _) | with_reducible refine belows ?_ (by assumption)))⟩
    · go_enter Try.func20, Try.ntmps20
      go_wp2_with fail
      go_ret
      exact ⟨ret_bool (by unfold mayS; unfold U at h1 h2; simp at h1 h2 ⊢; omega), by (repeat (first | with_reducible exact Below.refl _ _ | with_reducible assumption | with_reducible refine below_drewN ?_ _ | with_reducible refine Below.drew ?_ | with_reducible refine below_alloc ?_ _ | (with_reducible refine Below.setCell ?_ (by first | (simp; done) | omega | (simp; omega)) _) | with_reducible refine belows ?_ (by assumption)))⟩
set_option maxHeartbeats 1000000 in
theorem kept_any (b t : BitVec 64) (x : Int) (h0 : 0 ≤ x) (hx : x ≤ 48) (w : World) : Calls Try.prog 39 #[.agg #[.int .u64 (U b), .int .u64 (U t)], .int .i64 x] w fun r w' => r = .returned (.tuple #[.agg #[.int .u64 (U (downF b x)), .int .u64 (U (upF t x))], .int .u64 (U ((upF t x - downF b x) >>> x.toNat))]) ∧ Below w.heap.size w w' := by
  go_enter Try.func39, Try.ntmps39
  go_wp2_with (first | (go_at_call 17; (with_reducible refine (up_any _ _ _).mono ?_); rintro e w' ⟨rfl, rfl⟩) | (go_at_call 46; (with_reducible refine (down_any _ _ _).mono ?_); rintro e w' ⟨rfl, rfl⟩))
  go_region
  all_goals go_wp2
  all_goals refine bodyPost_ret (results_ct [.int .u64 (U (downF b x)), .int .u64 (U (upF t x))] (.int .u64 (U ((upF t x - downF b x) >>> x.toNat))) Try.results39 rfl rfl ?_ Try.underlying24 rfl (by kernel_rfl)) rfl ?_
  · (first | (go_simp; done) | (go_simp; (simp [↓IntWalk.iteOmega]; done)) | (go_simp; intros; omega) | (go_simp; simp [↓IntWalk.iteOmega]; intros; omega))
  · exact ⟨rfl, by (repeat (first | with_reducible exact Below.refl _ _ | with_reducible assumption | with_reducible refine below_drewN ?_ _ | with_reducible refine Below.drew ?_ | with_reducible refine below_alloc ?_ _ | (with_reducible refine Below.setCell ?_ (by first | (simp; done) | omega | (simp; omega)) _) | with_reducible refine belows ?_ (by assumption)))⟩
set_option maxHeartbeats 2000000 in
theorem choose_small (b t : BitVec 64) (hs : U (t - b) < 4096) (w : World) : Calls Try.prog 21 #[.agg #[.int .u64 (U b), .int .u64 (U t)]] w fun r w' => r = .returned (.tuple #[.int .u64 0, .agg #[.int .u64 (U b), .int .u64 (U t)]]) ∧ Below w.heap.size w w' := by
  go_enter Try.func21, Try.ntmps21
  go_wp2_with fail
  go_region
  all_goals go_wp2
  all_goals refine bodyPost_ret (results_tc [.int .u64 (U b), .int .u64 (U t)] (.int .u64 0) Try.results21 rfl rfl ?_ Try.underlying24 rfl (by kernel_rfl)) rfl ?_
  · (first | (go_simp; done) | (go_simp; (simp [↓IntWalk.iteOmega]; done)) | (go_simp; intros; omega) | (go_simp; simp [↓IntWalk.iteOmega]; intros; omega))
  · exact ⟨rfl, by (repeat (first | with_reducible exact Below.refl _ _ | with_reducible assumption | with_reducible refine below_drewN ?_ _ | with_reducible refine Below.drew ?_ | with_reducible refine below_alloc ?_ _ | (with_reducible refine Below.setCell ?_ (by first | (simp; done) | omega | (simp; omega)) _) | with_reducible refine belows ?_ (by assumption)))⟩
set_option maxHeartbeats 4000000 in
set_option maxRecDepth 100000 in
theorem choose_one (b t : BitVec 64) (x : Nat) (hs : 4096 ≤ U (t - b)) (hl : logF (t - b) = (x : Int) + 12) (hx : x ≤ 36) (hst : U ((upF t x - downF b x) >>> x) < 8192) (w : World) : Calls Try.prog 21 #[.agg #[.int .u64 (U b), .int .u64 (U t)]] w fun r w' => r = .returned (.tuple #[.int .u64 (U (BitVec.ofNat 64 x + 1#64)), .agg #[.int .u64 (U (downF b x)), .int .u64 (U (upF t x))]]) ∧ Below w.heap.size w w' := by
  have ck : ∀ w : World, Calls Try.prog 39 #[.agg #[.int .u64 (U b), .int .u64 (U t)], .int .i64 x] w fun r w' => r = .returned (.tuple #[.agg #[.int .u64 (U (downF b x)), .int .u64 (U (upF t x))], .int .u64 (U ((upF t x - downF b x) >>> x))]) ∧ Below w.heap.size w w' := fun w => kept_any b t x (by omega) (by omega) w
  go_enter Try.func21, Try.ntmps21
  go_wp2_with (first | (go_at_call 38; (with_reducible refine (log_any _ _).mono ?_); rintro e w' ⟨rfl, rfl⟩) | (go_at_call 39; (with_reducible refine (ck _).mono ?_); rintro e w' ⟨rfl, hbl⟩; obtain ⟨hcw, hfw, hsw⟩ := below_ifs hbl; (try simp only [World.size_alloc, World.size_setCell, World.size_drew, size_drewN_] at hcw hfw hsw)))
  go_region
  go_wp2
  refine bodyPost_ret (results_tc [.int .u64 (U (downF b x)), .int .u64 (U (upF t x))] (.int .u64 (U (BitVec.ofNat 64 x + 1#64))) Try.results21 rfl rfl ?_ Try.underlying24 rfl (by kernel_rfl)) rfl ?_
  · (first | (go_simp; done) | (go_simp; (simp [↓IntWalk.iteOmega]; done)) | (go_simp; intros; omega) | (go_simp; simp [↓IntWalk.iteOmega]; intros; omega))
  · exact ⟨rfl, by (repeat (first | with_reducible exact Below.refl _ _ | with_reducible assumption | with_reducible refine below_drewN ?_ _ | with_reducible refine Below.drew ?_ | with_reducible refine below_alloc ?_ _ | (with_reducible refine Below.setCell ?_ (by first | (simp; done) | omega | (simp; omega)) _) | with_reducible refine belows ?_ (by assumption)))⟩
set_option maxHeartbeats 4000000 in
set_option maxRecDepth 100000 in
theorem choose_two (b t : BitVec 64) (x : Nat) (hs : 4096 ≤ U (t - b)) (hl : logF (t - b) = (x : Int) + 12) (hx : x ≤ 36) (hst : 8192 ≤ U ((upF t x - downF b x) >>> x)) (w : World) : Calls Try.prog 21 #[.agg #[.int .u64 (U b), .int .u64 (U t)]] w fun r w' => r = .returned (.tuple #[.int .u64 (U (BitVec.ofNat 64 x + 1#64 + 1#64)), .agg #[.int .u64 (U (downF b (x + 1))), .int .u64 (U (upF t (x + 1)))]]) ∧ Below w.heap.size w w' := by
  have ck : ∀ w : World, Calls Try.prog 39 #[.agg #[.int .u64 (U b), .int .u64 (U t)], .int .i64 x] w fun r w' => r = .returned (.tuple #[.agg #[.int .u64 (U (downF b x)), .int .u64 (U (upF t x))], .int .u64 (U ((upF t x - downF b x) >>> x))]) ∧ Below w.heap.size w w' := fun w => kept_any b t x (by omega) (by omega) w
  have cl : ∀ w : World, Calls Try.prog 39 #[.agg #[.int .u64 (U b), .int .u64 (U t)], .int .i64 ((x : Int) + 1)] w fun r w' => r = .returned (.tuple #[.agg #[.int .u64 (U (downF b (x + 1))), .int .u64 (U (upF t (x + 1)))], .int .u64 (U ((upF t (x + 1) - downF b (x + 1)) >>> ((x : Int) + 1).toNat))]) ∧ Below w.heap.size w w' := fun w => kept_any b t ((x : Int) + 1) (by omega) (by omega) w
  go_enter Try.func21, Try.ntmps21
  go_wp2_with (first | (go_at_call 38; (with_reducible refine (log_any _ _).mono ?_); rintro e w' ⟨rfl, rfl⟩) | (go_at_call 39; (with_reducible refine (ck _).mono ?_); rintro e w' ⟨rfl, hbl⟩; obtain ⟨hcw, hfw, hsw⟩ := below_ifs hbl; (try simp only [World.size_alloc, World.size_setCell, World.size_drew, size_drewN_] at hcw hfw hsw)) | (go_at_call 39; (with_reducible refine (cl _).mono ?_); rintro e w' ⟨rfl, hbl⟩; obtain ⟨hcw, hfw, hsw⟩ := below_ifs hbl; (try simp only [World.size_alloc, World.size_setCell, World.size_drew, size_drewN_] at hcw hfw hsw)))
  go_region
  go_wp2
  refine bodyPost_ret (results_tc [.int .u64 (U (downF b (x + 1))), .int .u64 (U (upF t (x + 1)))] (.int .u64 (U (BitVec.ofNat 64 x + 1#64 + 1#64))) Try.results21 rfl rfl ?_ Try.underlying24 rfl (by kernel_rfl)) rfl ?_
  · (first | (go_simp; done) | (go_simp; (simp [↓IntWalk.iteOmega]; done)) | (go_simp; intros; omega) | (go_simp; simp [↓IntWalk.iteOmega]; intros; omega))
  · exact ⟨rfl, by (repeat (first | with_reducible exact Below.refl _ _ | with_reducible assumption | with_reducible refine below_drewN ?_ _ | with_reducible refine Below.drew ?_ | with_reducible refine below_alloc ?_ _ | (with_reducible refine Below.setCell ?_ (by first | (simp; done) | omega | (simp; omega)) _) | with_reducible refine belows ?_ (by assumption)))⟩
theorem ofNat_succ_ (x : Nat) : BitVec.ofNat 64 x + 1#64 = BitVec.ofNat 64 (x + 1) := by
  apply BitVec.eq_of_toNat_eq; simp
theorem choose_any (b t : BitVec 64) (h : mayS b t = true) (w : World) : Calls Try.prog 21 #[.agg #[.int .u64 (U b), .int .u64 (U t)]] w fun r w' => r = .returned (.tuple #[.int .u64 (U (kE b t)), .agg #[.int .u64 (U (kB b t)), .int .u64 (U (kT b t))]]) ∧ Below w.heap.size w w' := by
  obtain ⟨h1, h2⟩ := mayS_true h
  have hn : (t - b).toNat = t.toNat - b.toNat := BitVec.toNat_sub_of_le (by rw [BitVec.le_def]; exact h1)
  by_cases c : t.toNat - b.toNat < 4096
  · have e0 : U (kE b t) = 0 := by unfold kE eN; rw [if_pos c]; rfl
    have e1 : kB b t = b := by unfold kB; rw [(kept_small c).1]; simp
    have e2 : kT b t = t := by unfold kT; rw [(kept_small c).2]; simp
    rw [e0, e1, e2]
    exact choose_small b t (by unfold U; omega) w
  · have c4 : 4096 ≤ t.toNat - b.toNat := by omega
    obtain ⟨s1, s2, s3⟩ := exp_spec h1 c4
    have hL : 12 ≤ Nat.log2 (t.toNat - b.toNat) := (Nat.le_log2 (by omega)).2 (by omega)
    have hl : logF (t - b) = ((Nat.log2 (t.toNat - b.toNat) - 12 : Nat) : Int) + 12 := by
      rw [log_N (t - b) (by omega), hn]; omega
    have h36 := kX_le h
    have hX : kX b t = if stN b.toNat t.toNat (Nat.log2 (t.toNat - b.toNat) - 12) < 8192 then Nat.log2 (t.toNat - b.toNat) - 12 else Nat.log2 (t.toNat - b.toNat) - 12 + 1 := by
      unfold kX expN; rw [if_neg c]
    have hE : kE b t = BitVec.ofNat 64 (kX b t + 1) := by unfold kE eN; rw [if_neg c]; rfl
    generalize hx : Nat.log2 (t.toNat - b.toNat) - 12 = x at *
    by_cases c2 : stN b.toNat t.toNat x < 8192
    · rw [if_pos c2] at hX
      obtain ⟨g1, g2⟩ := kept_is h x hX
      rw [hE, hX, ← ofNat_succ_, ← g1, ← g2]
      exact choose_one b t x (by unfold U; omega) hl (by omega) (by unfold U; rw [steps_N b t x (by omega) h1 h2]; omega) w
    · rw [if_neg c2] at hX
      obtain ⟨g1, g2⟩ := kept_is h (x + 1) hX
      rw [hE, hX, ← ofNat_succ_, ← ofNat_succ_, ← g1, ← g2]
      exact choose_two b t x (by unfold U; omega) hl (by omega) (by unfold U; rw [steps_N b t x (by omega) h1 h2]; omega) w
set_option maxHeartbeats 4000000 in
set_option maxRecDepth 100000 in
theorem encode_yes (b t : BitVec 64) (h : mayS b t = true) (w : World) : Calls Try.prog 8 #[.agg #[.int .u64 (U b), .int .u64 (U t)]] w fun r w' => r = .returned (.tuple #[.agg #[.int .u64 (U (fB b t)), .int .u64 (U (fT b t)), .int .u64 (U (kE b t))], .bool (kB b t == b && kT b t == t)]) ∧ Below w.heap.size w w' := by
  have cm : ∀ w : World, Calls Try.prog 20 #[.agg #[.int .u64 (U b), .int .u64 (U t)]] w fun r w' => r = .returned (.bool true) ∧ Below w.heap.size w w' := fun w => (bmay_any b t w).mono fun _ _ g => ⟨by rw [g.1, h], g.2⟩
  have cc : ∀ w : World, Calls Try.prog 21 #[.agg #[.int .u64 (U b), .int .u64 (U t)]] w fun r w' => r = .returned (.tuple #[.int .u64 (U (kE b t)), .agg #[.int .u64 (U (kB b t)), .int .u64 (U (kT b t))]]) ∧ Below w.heap.size w w' := fun w => choose_any b t h w
  have hx : (kE b t).toNat - 1 = kX b t := by rw [kE_nat h, e_exp]; rfl
  have he : (kE b t).toNat < 9223372036854775808 := by have := eN_le (mayS_true h).1 (mayS_true h).2; rw [kE_nat h]; omega
  have cs : ∀ w : World, Calls Try.prog 22 #[.int .u64 (U (kE b t))] w fun r w' => r = .returned (.int .i64 (kX b t : Int)) ∧ w = w' := fun w => (shift_any _ he w).mono fun _ _ g => ⟨by rw [g.1, hx], g.2⟩
  clear he hx
  go_enter Try.func8, Try.ntmps8
  go_wp2_with (first | (go_at_call 20; (with_reducible refine (cm _).mono ?_); rintro e w' ⟨rfl, hbl⟩; obtain ⟨hcw, hfw, hsw⟩ := below_ifs hbl; (try simp only [World.size_alloc, World.size_setCell, World.size_drew, size_drewN_] at hcw hfw hsw)) | (go_at_call 21; (with_reducible refine (cc _).mono ?_); rintro e w' ⟨rfl, hbl⟩; obtain ⟨hcw, hfw, hsw⟩ := below_ifs hbl; (try simp only [World.size_alloc, World.size_setCell, World.size_drew, size_drewN_] at hcw hfw hsw)) | (go_at_call 22; (with_reducible refine (cs _).mono ?_); rintro e w' ⟨rfl, rfl⟩))
  go_region
  go_wp2
  refine bodyPost_ret (results_ct [.int .u64 (U (fB b t)), .int .u64 (U (fT b t)), .int .u64 (U (kE b t))] (.bool (kB b t == b && kT b t == t)) Try.results8 rfl rfl ?_ Try.underlying36 rfl (by kernel_rfl)) rfl ?_
  · (go_simp; simp [↓IntWalk.iteOmega]; exact ⟨rfl, rfl⟩)
  · exact ⟨rfl, by (repeat (first | with_reducible exact Below.refl _ _ | with_reducible assumption | with_reducible refine below_drewN ?_ _ | with_reducible refine Below.drew ?_ | with_reducible refine below_alloc ?_ _ | (with_reducible refine Below.setCell ?_ (by first | (simp; done) | omega | (simp; omega)) _) | with_reducible refine belows ?_ (by assumption)))⟩
set_option maxHeartbeats 4000000 in
theorem encode_no (b t : BitVec 64) (h : mayS b t = false) (w : World) : Calls Try.prog 8 #[.agg #[.int .u64 (U b), .int .u64 (U t)]] w fun r w' => r = .returned (.tuple #[.agg #[.int .u64 0, .int .u64 0, .int .u64 0], .bool false]) ∧ Below w.heap.size w w' := by
  have cm : ∀ w : World, Calls Try.prog 20 #[.agg #[.int .u64 (U b), .int .u64 (U t)]] w fun r w' => r = .returned (.bool false) ∧ Below w.heap.size w w' := fun w => (bmay_any b t w).mono fun _ _ g => ⟨by rw [g.1, h], g.2⟩
  go_enter Try.func8, Try.ntmps8
  go_wp2_with (first | (go_at_call 20; (with_reducible refine (cm _).mono ?_); rintro e w' ⟨rfl, hbl⟩; obtain ⟨hcw, hfw, hsw⟩ := below_ifs hbl; (try simp only [World.size_alloc, World.size_setCell, World.size_drew, size_drewN_] at hcw hfw hsw)))
  refine bodyPost_ret (results_ct [.int .u64 0, .int .u64 0, .int .u64 0] (.bool false) Try.results8 rfl rfl ?_ Try.underlying36 rfl (by kernel_rfl)) rfl ?_
  · (first | (go_simp; done) | (go_simp; (simp [↓IntWalk.iteOmega]; done)) | (go_simp; intros; omega) | (go_simp; simp [↓IntWalk.iteOmega]; intros; omega))
  · exact ⟨rfl, by (repeat (first | with_reducible exact Below.refl _ _ | with_reducible assumption | with_reducible refine below_drewN ?_ _ | with_reducible refine Below.drew ?_ | with_reducible refine below_alloc ?_ _ | (with_reducible refine Below.setCell ?_ (by first | (simp; done) | omega | (simp; omega)) _) | with_reducible refine belows ?_ (by assumption)))⟩
theorem encode_any (b t : BitVec 64) (w : World) : Calls Try.prog 8 #[.agg #[.int .u64 (U b), .int .u64 (U t)]] w fun r w' => r = .returned (.tuple #[.agg #[.int .u64 (U (encB b t)), .int .u64 (U (encT b t)), .int .u64 (U (encE b t))], .bool (encX b t)]) ∧ Below w.heap.size w w' := by
  cases h : mayS b t
  · have := encode_no b t h w
    unfold encB encT encE encX
    rw [h]
    exact this
  · have := encode_yes b t h w
    unfold encB encT encE encX
    rw [h]
    exact this
set_option maxHeartbeats 4000000 in
theorem rounded_yes (b t : BitVec 64) (h : mayS b t = true) (w : World) : Calls Try.prog 43 #[.agg #[.int .u64 (U b), .int .u64 (U t)]] w fun r w' => r = .returned (.tuple #[.agg #[.int .u64 (U (kB b t)), .int .u64 (U (kT b t))], .bool true]) ∧ Below w.heap.size w w' := by
  have cm : ∀ w : World, Calls Try.prog 20 #[.agg #[.int .u64 (U b), .int .u64 (U t)]] w fun r w' => r = .returned (.bool true) ∧ Below w.heap.size w w' := fun w => (bmay_any b t w).mono fun _ _ g => ⟨by rw [g.1, h], g.2⟩
  have cc : ∀ w : World, Calls Try.prog 21 #[.agg #[.int .u64 (U b), .int .u64 (U t)]] w fun r w' => r = .returned (.tuple #[.int .u64 (U (kE b t)), .agg #[.int .u64 (U (kB b t)), .int .u64 (U (kT b t))]]) ∧ Below w.heap.size w w' := fun w => choose_any b t h w
  go_enter Try.func43, Try.ntmps43
  go_wp2_with (first | (go_at_call 20; (with_reducible refine (cm _).mono ?_); rintro e w' ⟨rfl, hbl⟩; obtain ⟨hcw, hfw, hsw⟩ := below_ifs hbl; (try simp only [World.size_alloc, World.size_setCell, World.size_drew, size_drewN_] at hcw hfw hsw)) | (go_at_call 21; (with_reducible refine (cc _).mono ?_); rintro e w' ⟨rfl, hbl⟩; obtain ⟨hcw, hfw, hsw⟩ := below_ifs hbl; (try simp only [World.size_alloc, World.size_setCell, World.size_drew, size_drewN_] at hcw hfw hsw)))
  refine bodyPost_ret (results_ct [.int .u64 (U (kB b t)), .int .u64 (U (kT b t))] (.bool true) Try.results43 rfl rfl ?_ Try.underlying24 rfl (by kernel_rfl)) rfl ?_
  · (first | (go_simp; done) | (go_simp; (simp [↓IntWalk.iteOmega]; done)) | (go_simp; intros; omega) | (go_simp; simp [↓IntWalk.iteOmega]; intros; omega))
  · exact ⟨rfl, by (repeat (first | with_reducible exact Below.refl _ _ | with_reducible assumption | with_reducible refine below_drewN ?_ _ | with_reducible refine Below.drew ?_ | with_reducible refine below_alloc ?_ _ | (with_reducible refine Below.setCell ?_ (by first | (simp; done) | omega | (simp; omega)) _) | with_reducible refine belows ?_ (by assumption)))⟩
set_option maxHeartbeats 4000000 in
theorem rounded_no (b t : BitVec 64) (h : mayS b t = false) (w : World) : Calls Try.prog 43 #[.agg #[.int .u64 (U b), .int .u64 (U t)]] w fun r w' => r = .returned (.tuple #[.agg #[.int .u64 0, .int .u64 0], .bool false]) ∧ Below w.heap.size w w' := by
  have cm : ∀ w : World, Calls Try.prog 20 #[.agg #[.int .u64 (U b), .int .u64 (U t)]] w fun r w' => r = .returned (.bool false) ∧ Below w.heap.size w w' := fun w => (bmay_any b t w).mono fun _ _ g => ⟨by rw [g.1, h], g.2⟩
  go_enter Try.func43, Try.ntmps43
  go_wp2_with (first | (go_at_call 20; (with_reducible refine (cm _).mono ?_); rintro e w' ⟨rfl, hbl⟩; obtain ⟨hcw, hfw, hsw⟩ := below_ifs hbl; (try simp only [World.size_alloc, World.size_setCell, World.size_drew, size_drewN_] at hcw hfw hsw)))
  refine bodyPost_ret (results_ct [.int .u64 0, .int .u64 0] (.bool false) Try.results43 rfl rfl ?_ Try.underlying24 rfl (by kernel_rfl)) rfl ?_
  · (first | (go_simp; done) | (go_simp; (simp [↓IntWalk.iteOmega]; done)) | (go_simp; intros; omega) | (go_simp; simp [↓IntWalk.iteOmega]; intros; omega))
  · exact ⟨rfl, by (repeat (first | with_reducible exact Below.refl _ _ | with_reducible assumption | with_reducible refine below_drewN ?_ _ | with_reducible refine Below.drew ?_ | with_reducible refine below_alloc ?_ _ | (with_reducible refine Below.setCell ?_ (by first | (simp; done) | omega | (simp; omega)) _) | with_reducible refine belows ?_ (by assumption)))⟩
theorem rounded_any (b t : BitVec 64) (w : World) : Calls Try.prog 43 #[.agg #[.int .u64 (U b), .int .u64 (U t)]] w fun r w' => r = .returned (.tuple #[.agg #[.int .u64 (U (rndB b t)), .int .u64 (U (rndT b t))], .bool (mayS b t)]) ∧ Below w.heap.size w w' := by
  cases h : mayS b t
  · have := rounded_no b t h w
    unfold rndB rndT
    rw [h]
    exact this
  · have := rounded_yes b t h w
    unfold rndB rndT
    rw [h]
    exact this
theorem rounded_0 (t : BitVec 64) (w : World) : Calls Try.prog 43 #[.agg #[.int .u64 0, .int .u64 (U t)]] w fun r w' => r = .returned (.tuple #[.agg #[.int .u64 (U (rndB 0#64 t)), .int .u64 (U (rndT 0#64 t))], .bool (mayS 0#64 t)]) ∧ Below w.heap.size w w' := rounded_any 0#64 t w
theorem encode_0 (t : BitVec 64) (w : World) : Calls Try.prog 8 #[.agg #[.int .u64 0, .int .u64 (U t)]] w fun r w' => r = .returned (.tuple #[.agg #[.int .u64 (U (encB 0#64 t)), .int .u64 (U (encT 0#64 t)), .int .u64 (U (encE 0#64 t))], .bool (encX 0#64 t)]) ∧ Below w.heap.size w w' := encode_any 0#64 t w
theorem length_any (n : BitVec 64) (w : World) : Calls Try.prog 34 #[.int .u64 (U n)] w fun r w' => r = .returned (.tuple #[.int .u64 (U (rndT 0#64 n)), .bool (mayS 0#64 n)]) ∧ Below w.heap.size w w' := by
  go_enter Try.func34, Try.ntmps34
  go_wp2_with (first | (go_at_call 43; (with_reducible refine (rounded_0 _ _).mono ?_); rintro e w' ⟨rfl, hbl⟩; obtain ⟨hcw, hfw, hsw⟩ := below_ifs hbl; (try simp only [World.size_alloc, World.size_setCell, World.size_drew, size_drewN_] at hcw hfw hsw)))
  go_ret2
  exact ⟨rfl, by (repeat (first | with_reducible exact Below.refl _ _ | with_reducible assumption | with_reducible refine below_drewN ?_ _ | with_reducible refine Below.drew ?_ | with_reducible refine below_alloc ?_ _ | (with_reducible refine Below.setCell ?_ (by first | (simp; done) | omega | (simp; omega)) _) | with_reducible refine belows ?_ (by assumption)))⟩
theorem encE_small (b t : BitVec 64) : (encE b t).toNat < 38 := by
  unfold encE
  cases h : mayS b t
  · simp
  · have := eN_le (mayS_true h).1 (mayS_true h).2
    rw [if_pos rfl, kE_nat h]; omega
theorem may_0 (n : BitVec 64) : decide (U n ≤ 281474976710656) = mayS 0#64 n := by
  unfold mayS U; rw [Bool.eq_iff_iff]; simp; omega
theorem align_any (n : BitVec 64) (w : World) : Calls Try.prog 35 #[.int .u64 (U n)] w fun r w' => r = .returned (.tuple #[.int .i64 (((encE 0#64 n).toNat - 1 : Nat) : Int), .bool (mayS 0#64 n)]) ∧ Below w.heap.size w w' := by
  have he := encE_small 0#64 n
  have cs : ∀ w : World, Calls Try.prog 22 #[.int .u64 (U (encE 0#64 n))] w fun r w' => r = .returned (.int .i64 (((encE 0#64 n).toNat - 1 : Nat) : Int)) ∧ w = w' := fun w => shift_any _ (by omega) w
  clear he
  have hm := may_0 n
  go_enter Try.func35, Try.ntmps35
  go_wp2_with (first | (go_at_call 8; (with_reducible refine (encode_0 _ _).mono ?_); rintro e w' ⟨rfl, hbl⟩; obtain ⟨hcw, hfw, hsw⟩ := below_ifs hbl; (try simp only [World.size_alloc, World.size_setCell, World.size_drew, size_drewN_] at hcw hfw hsw)) | (go_at_call 22; (with_reducible refine (cs _).mono ?_); rintro e w' ⟨rfl, rfl⟩))
  go_ret2
  exact ⟨rfl, by (repeat (first | with_reducible exact Below.refl _ _ | with_reducible assumption | with_reducible refine below_drewN ?_ _ | with_reducible refine Below.drew ?_ | with_reducible refine below_alloc ?_ _ | (with_reducible refine Below.setCell ?_ (by first | (simp; done) | omega | (simp; omega)) _) | with_reducible refine belows ?_ (by assumption)))⟩
end Go.Proofs.Ytnillifinnmigaa
