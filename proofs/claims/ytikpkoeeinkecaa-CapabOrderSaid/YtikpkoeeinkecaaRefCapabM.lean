
/-
  Capabilities: the document's answer: made of views, roots, within others.
-/
import Derived.Test.YtikpkoeeinkecaaRefCapab
namespace Go.Proofs.Ytikpkoeeinkecaa
open Go Go.RowKit
set_option linter.unusedVariables false
set_option linter.unusedSimpArgs false

theorem rspan_neq (a b a' b' : BitVec 64) (w : World) : (binOp .neq 34 (.agg #[.int .u64 (U a), .int .u64 (U b)]) (.agg #[.int .u64 (U a'), .int .u64 (U b')])).run Try.prog w = .ok (.bool (!(a == a' && b == b'))) w := neq_of_eql (rspan_eql a b a' b' w)
attribute [go_sem 3000] rspan_neq
theorem enc_small (sb st : BitVec 64) : (encB sb st).toNat < 16384 ∧ (encT sb st).toNat < 4096 ∧ (encE sb st).toNat < 64 := by
  have h3 := encE_small sb st
  unfold encB encT
  cases h : mayS sb st
  · simp; omega
  · rw [if_pos rfl, if_pos rfl, fB_nat h, fT_nat h]; omega
set_option maxHeartbeats 4000000 in
set_option maxRecDepth 100000 in
theorem rmake_0 (sb st p y a : BitVec 64) (hx : (encX sb st) = false) (w : World) : Calls Try.prog 10 #[.agg #[.int .u64 (U sb), .int .u64 (U st), .int .u64 (U p), .int .u64 (U y)], .int .u64 (U a)] w fun r w' => r = .returned (.tuple #[.agg #[.bool false, .int .u64 0, .int .u64 0], .bool false]) ∧ Below w.heap.size w w' := by
  have ce : ∀ w : World, Calls Try.prog 28 #[.agg #[.int .u64 (U sb), .int .u64 (U st)]] w fun r w' => r = .returned (.tuple #[.agg #[.int .u64 (U (encB sb st)), .int .u64 (U (encT sb st)), .int .u64 (U (encE sb st))], .bool false]) ∧ Below w.heap.size w w' := fun w => (rencode_any sb st w).mono fun _ _ g => ⟨by rw [g.1, hx], g.2⟩
  have cd : ∀ w : World, Calls Try.prog 29 #[.agg #[.int .u64 (U (encB sb st)), .int .u64 (U (encT sb st)), .int .u64 (U (encE sb st))], .int .u64 (U a)] w fun r w' => r = .returned (.tuple #[.agg #[.int .u64 (U (decB (encB sb st) (encT sb st) (encE sb st) a)), .int .u64 (U (decT (encB sb st) (encT sb st) (encE sb st) a))], .bool (decOk (encB sb st) (encT sb st) (encE sb st) a)]) ∧ Below w.heap.size w w' := fun w => (rdecode_any _ _ _ a w).mono fun _ _ g => ⟨by rw [g.1], g.2⟩
  clear hx
  go_enter Try.func10, Try.ntmps10
  go_wp2_with (first | (go_at_call 28; (with_reducible refine (ce _).mono ?_); rintro e w' ⟨rfl, hbl⟩; obtain ⟨hcw, hfw, hsw⟩ := below_ifs hbl; (try simp only [World.size_alloc, World.size_setCell, World.size_drew, size_drewN_] at hcw hfw hsw)) | (go_at_call 29; (with_reducible refine (cd _).mono ?_); rintro e w' ⟨rfl, hbl⟩; obtain ⟨hcw, hfw, hsw⟩ := below_ifs hbl; (try simp only [World.size_alloc, World.size_setCell, World.size_drew, size_drewN_] at hcw hfw hsw)))
  refine bodyPost_ret (results_ct [.bool false, .int .u64 0, .int .u64 0] (.bool false) Try.results10 rfl rfl ?_ Try.underlying31 rfl (by kernel_rfl)) rfl ?_
  · (first | (go_simp; done) | (go_simp; (simp [↓IntWalk.iteOmega]; done)) | (go_simp; intros; omega) | (go_simp; simp [↓IntWalk.iteOmega]; intros; omega))
  · exact ⟨rfl, by (repeat (first | with_reducible exact Below.refl _ _ | with_reducible assumption | with_reducible refine below_drewN ?_ _ | with_reducible refine Below.drew ?_ | with_reducible refine below_alloc ?_ _ | (with_reducible refine Below.setCell ?_ (by first | (simp; done) | omega | (simp; omega)) _) | with_reducible refine belows ?_ (by assumption)))⟩
set_option maxHeartbeats 4000000 in
set_option maxRecDepth 100000 in
theorem rmake_1 (sb st p y a : BitVec 64) (hx : (encX sb st) = true) (hp : (decide (511 < U p)) = true) (w : World) : Calls Try.prog 10 #[.agg #[.int .u64 (U sb), .int .u64 (U st), .int .u64 (U p), .int .u64 (U y)], .int .u64 (U a)] w fun r w' => r = .returned (.tuple #[.agg #[.bool false, .int .u64 0, .int .u64 0], .bool false]) ∧ Below w.heap.size w w' := by
  have ce : ∀ w : World, Calls Try.prog 28 #[.agg #[.int .u64 (U sb), .int .u64 (U st)]] w fun r w' => r = .returned (.tuple #[.agg #[.int .u64 (U (encB sb st)), .int .u64 (U (encT sb st)), .int .u64 (U (encE sb st))], .bool true]) ∧ Below w.heap.size w w' := fun w => (rencode_any sb st w).mono fun _ _ g => ⟨by rw [g.1, hx], g.2⟩
  have cd : ∀ w : World, Calls Try.prog 29 #[.agg #[.int .u64 (U (encB sb st)), .int .u64 (U (encT sb st)), .int .u64 (U (encE sb st))], .int .u64 (U a)] w fun r w' => r = .returned (.tuple #[.agg #[.int .u64 (U (decB (encB sb st) (encT sb st) (encE sb st) a)), .int .u64 (U (decT (encB sb st) (encT sb st) (encE sb st) a))], .bool (decOk (encB sb st) (encT sb st) (encE sb st) a)]) ∧ Below w.heap.size w w' := fun w => (rdecode_any _ _ _ a w).mono fun _ _ g => ⟨by rw [g.1], g.2⟩
  clear hx
  go_enter Try.func10, Try.ntmps10
  go_wp2_with (first | (go_at_call 28; (with_reducible refine (ce _).mono ?_); rintro e w' ⟨rfl, hbl⟩; obtain ⟨hcw, hfw, hsw⟩ := below_ifs hbl; (try simp only [World.size_alloc, World.size_setCell, World.size_drew, size_drewN_] at hcw hfw hsw)) | (go_at_call 29; (with_reducible refine (cd _).mono ?_); rintro e w' ⟨rfl, hbl⟩; obtain ⟨hcw, hfw, hsw⟩ := below_ifs hbl; (try simp only [World.size_alloc, World.size_setCell, World.size_drew, size_drewN_] at hcw hfw hsw)))
  refine bodyPost_ret (results_ct [.bool false, .int .u64 0, .int .u64 0] (.bool false) Try.results10 rfl rfl ?_ Try.underlying31 rfl (by kernel_rfl)) rfl ?_
  · (first | (go_simp; done) | (go_simp; (simp [↓IntWalk.iteOmega]; done)) | (go_simp; intros; omega) | (go_simp; simp [↓IntWalk.iteOmega]; intros; omega))
  · exact ⟨rfl, by (repeat (first | with_reducible exact Below.refl _ _ | with_reducible assumption | with_reducible refine below_drewN ?_ _ | with_reducible refine Below.drew ?_ | with_reducible refine below_alloc ?_ _ | (with_reducible refine Below.setCell ?_ (by first | (simp; done) | omega | (simp; omega)) _) | with_reducible refine belows ?_ (by assumption)))⟩
set_option maxHeartbeats 4000000 in
set_option maxRecDepth 100000 in
theorem rmake_2 (sb st p y a : BitVec 64) (hx : (encX sb st) = true) (hp : (decide (511 < U p)) = false) (hy : (decide (4095 < U y)) = true) (w : World) : Calls Try.prog 10 #[.agg #[.int .u64 (U sb), .int .u64 (U st), .int .u64 (U p), .int .u64 (U y)], .int .u64 (U a)] w fun r w' => r = .returned (.tuple #[.agg #[.bool false, .int .u64 0, .int .u64 0], .bool false]) ∧ Below w.heap.size w w' := by
  have ce : ∀ w : World, Calls Try.prog 28 #[.agg #[.int .u64 (U sb), .int .u64 (U st)]] w fun r w' => r = .returned (.tuple #[.agg #[.int .u64 (U (encB sb st)), .int .u64 (U (encT sb st)), .int .u64 (U (encE sb st))], .bool true]) ∧ Below w.heap.size w w' := fun w => (rencode_any sb st w).mono fun _ _ g => ⟨by rw [g.1, hx], g.2⟩
  have cd : ∀ w : World, Calls Try.prog 29 #[.agg #[.int .u64 (U (encB sb st)), .int .u64 (U (encT sb st)), .int .u64 (U (encE sb st))], .int .u64 (U a)] w fun r w' => r = .returned (.tuple #[.agg #[.int .u64 (U (decB (encB sb st) (encT sb st) (encE sb st) a)), .int .u64 (U (decT (encB sb st) (encT sb st) (encE sb st) a))], .bool (decOk (encB sb st) (encT sb st) (encE sb st) a)]) ∧ Below w.heap.size w w' := fun w => (rdecode_any _ _ _ a w).mono fun _ _ g => ⟨by rw [g.1], g.2⟩
  clear hx
  go_enter Try.func10, Try.ntmps10
  go_wp2_with (first | (go_at_call 28; (with_reducible refine (ce _).mono ?_); rintro e w' ⟨rfl, hbl⟩; obtain ⟨hcw, hfw, hsw⟩ := below_ifs hbl; (try simp only [World.size_alloc, World.size_setCell, World.size_drew, size_drewN_] at hcw hfw hsw)) | (go_at_call 29; (with_reducible refine (cd _).mono ?_); rintro e w' ⟨rfl, hbl⟩; obtain ⟨hcw, hfw, hsw⟩ := below_ifs hbl; (try simp only [World.size_alloc, World.size_setCell, World.size_drew, size_drewN_] at hcw hfw hsw)))
  refine bodyPost_ret (results_ct [.bool false, .int .u64 0, .int .u64 0] (.bool false) Try.results10 rfl rfl ?_ Try.underlying31 rfl (by kernel_rfl)) rfl ?_
  · (first | (go_simp; done) | (go_simp; (simp [↓IntWalk.iteOmega]; done)) | (go_simp; intros; omega) | (go_simp; simp [↓IntWalk.iteOmega]; intros; omega))
  · exact ⟨rfl, by (repeat (first | with_reducible exact Below.refl _ _ | with_reducible assumption | with_reducible refine below_drewN ?_ _ | with_reducible refine Below.drew ?_ | with_reducible refine below_alloc ?_ _ | (with_reducible refine Below.setCell ?_ (by first | (simp; done) | omega | (simp; omega)) _) | with_reducible refine belows ?_ (by assumption)))⟩
set_option maxHeartbeats 4000000 in
set_option maxRecDepth 100000 in
theorem rmake_3 (sb st p y a : BitVec 64) (hx : (encX sb st) = true) (hp : (decide (511 < U p)) = false) (hy : (decide (4095 < U y)) = false) (hd : (decOk (encB sb st) (encT sb st) (encE sb st) a) = false) (w : World) : Calls Try.prog 10 #[.agg #[.int .u64 (U sb), .int .u64 (U st), .int .u64 (U p), .int .u64 (U y)], .int .u64 (U a)] w fun r w' => r = .returned (.tuple #[.agg #[.bool false, .int .u64 0, .int .u64 0], .bool false]) ∧ Below w.heap.size w w' := by
  have ce : ∀ w : World, Calls Try.prog 28 #[.agg #[.int .u64 (U sb), .int .u64 (U st)]] w fun r w' => r = .returned (.tuple #[.agg #[.int .u64 (U (encB sb st)), .int .u64 (U (encT sb st)), .int .u64 (U (encE sb st))], .bool true]) ∧ Below w.heap.size w w' := fun w => (rencode_any sb st w).mono fun _ _ g => ⟨by rw [g.1, hx], g.2⟩
  have cd : ∀ w : World, Calls Try.prog 29 #[.agg #[.int .u64 (U (encB sb st)), .int .u64 (U (encT sb st)), .int .u64 (U (encE sb st))], .int .u64 (U a)] w fun r w' => r = .returned (.tuple #[.agg #[.int .u64 (U (decB (encB sb st) (encT sb st) (encE sb st) a)), .int .u64 (U (decT (encB sb st) (encT sb st) (encE sb st) a))], .bool false]) ∧ Below w.heap.size w w' := fun w => (rdecode_any _ _ _ a w).mono fun _ _ g => ⟨by rw [g.1, hd], g.2⟩
  clear hx hd
  go_enter Try.func10, Try.ntmps10
  go_wp2_with (first | (go_at_call 28; (with_reducible refine (ce _).mono ?_); rintro e w' ⟨rfl, hbl⟩; obtain ⟨hcw, hfw, hsw⟩ := below_ifs hbl; (try simp only [World.size_alloc, World.size_setCell, World.size_drew, size_drewN_] at hcw hfw hsw)) | (go_at_call 29; (with_reducible refine (cd _).mono ?_); rintro e w' ⟨rfl, hbl⟩; obtain ⟨hcw, hfw, hsw⟩ := below_ifs hbl; (try simp only [World.size_alloc, World.size_setCell, World.size_drew, size_drewN_] at hcw hfw hsw)))
  refine bodyPost_ret (results_ct [.bool false, .int .u64 0, .int .u64 0] (.bool false) Try.results10 rfl rfl ?_ Try.underlying31 rfl (by kernel_rfl)) rfl ?_
  · (first | (go_simp; done) | (go_simp; (simp [↓IntWalk.iteOmega]; done)) | (go_simp; intros; omega) | (go_simp; simp [↓IntWalk.iteOmega]; intros; omega))
  · exact ⟨rfl, by (repeat (first | with_reducible exact Below.refl _ _ | with_reducible assumption | with_reducible refine below_drewN ?_ _ | with_reducible refine Below.drew ?_ | with_reducible refine below_alloc ?_ _ | (with_reducible refine Below.setCell ?_ (by first | (simp; done) | omega | (simp; omega)) _) | with_reducible refine belows ?_ (by assumption)))⟩
set_option maxHeartbeats 4000000 in
set_option maxRecDepth 100000 in
theorem rmake_4 (sb st p y a : BitVec 64) (hx : (encX sb st) = true) (hp : (decide (511 < U p)) = false) (hy : (decide (4095 < U y)) = false) (hd : (decOk (encB sb st) (encT sb st) (encE sb st) a) = true) (hs : ((decB (encB sb st) (encT sb st) (encE sb st) a == sb && decT (encB sb st) (encT sb st) (encE sb st) a == st)) = false) (w : World) : Calls Try.prog 10 #[.agg #[.int .u64 (U sb), .int .u64 (U st), .int .u64 (U p), .int .u64 (U y)], .int .u64 (U a)] w fun r w' => r = .returned (.tuple #[.agg #[.bool false, .int .u64 0, .int .u64 0], .bool false]) ∧ Below w.heap.size w w' := by
  have ce : ∀ w : World, Calls Try.prog 28 #[.agg #[.int .u64 (U sb), .int .u64 (U st)]] w fun r w' => r = .returned (.tuple #[.agg #[.int .u64 (U (encB sb st)), .int .u64 (U (encT sb st)), .int .u64 (U (encE sb st))], .bool true]) ∧ Below w.heap.size w w' := fun w => (rencode_any sb st w).mono fun _ _ g => ⟨by rw [g.1, hx], g.2⟩
  have cd : ∀ w : World, Calls Try.prog 29 #[.agg #[.int .u64 (U (encB sb st)), .int .u64 (U (encT sb st)), .int .u64 (U (encE sb st))], .int .u64 (U a)] w fun r w' => r = .returned (.tuple #[.agg #[.int .u64 (U (decB (encB sb st) (encT sb st) (encE sb st) a)), .int .u64 (U (decT (encB sb st) (encT sb st) (encE sb st) a))], .bool true]) ∧ Below w.heap.size w w' := fun w => (rdecode_any _ _ _ a w).mono fun _ _ g => ⟨by rw [g.1, hd], g.2⟩
  clear hx hd
  go_enter Try.func10, Try.ntmps10
  go_wp2_with (first | (go_at_call 28; (with_reducible refine (ce _).mono ?_); rintro e w' ⟨rfl, hbl⟩; obtain ⟨hcw, hfw, hsw⟩ := below_ifs hbl; (try simp only [World.size_alloc, World.size_setCell, World.size_drew, size_drewN_] at hcw hfw hsw)) | (go_at_call 29; (with_reducible refine (cd _).mono ?_); rintro e w' ⟨rfl, hbl⟩; obtain ⟨hcw, hfw, hsw⟩ := below_ifs hbl; (try simp only [World.size_alloc, World.size_setCell, World.size_drew, size_drewN_] at hcw hfw hsw)))
  refine bodyPost_ret (results_ct [.bool false, .int .u64 0, .int .u64 0] (.bool false) Try.results10 rfl rfl ?_ Try.underlying31 rfl (by kernel_rfl)) rfl ?_
  · (first | (go_simp; done) | (go_simp; (simp [↓IntWalk.iteOmega]; done)) | (go_simp; intros; omega) | (go_simp; simp [↓IntWalk.iteOmega]; intros; omega))
  · exact ⟨rfl, by (repeat (first | with_reducible exact Below.refl _ _ | with_reducible assumption | with_reducible refine below_drewN ?_ _ | with_reducible refine Below.drew ?_ | with_reducible refine below_alloc ?_ _ | (with_reducible refine Below.setCell ?_ (by first | (simp; done) | omega | (simp; omega)) _) | with_reducible refine belows ?_ (by assumption)))⟩
set_option maxHeartbeats 4000000 in
set_option maxRecDepth 100000 in
theorem rmake_5 (sb st p y a : BitVec 64) (hx : (encX sb st) = true) (hp : (decide (511 < U p)) = false) (hy : (decide (4095 < U y)) = false) (hd : (decOk (encB sb st) (encT sb st) (encE sb st) a) = true) (hs : ((decB (encB sb st) (encT sb st) (encE sb st) a == sb && decT (encB sb st) (encT sb st) (encE sb st) a == st)) = true) (w : World) : Calls Try.prog 10 #[.agg #[.int .u64 (U sb), .int .u64 (U st), .int .u64 (U p), .int .u64 (U y)], .int .u64 (U a)] w fun r w' => r = .returned (.tuple #[.agg #[.bool false, .int .u64 (U (encB sb st + (encT sb st) <<< 14 + (encE sb st) <<< 26 + p <<< 32 + y <<< 48)), .int .u64 (U a)], .bool true]) ∧ Below w.heap.size w w' := by
  have ce : ∀ w : World, Calls Try.prog 28 #[.agg #[.int .u64 (U sb), .int .u64 (U st)]] w fun r w' => r = .returned (.tuple #[.agg #[.int .u64 (U (encB sb st)), .int .u64 (U (encT sb st)), .int .u64 (U (encE sb st))], .bool true]) ∧ Below w.heap.size w w' := fun w => (rencode_any sb st w).mono fun _ _ g => ⟨by rw [g.1, hx], g.2⟩
  have cd : ∀ w : World, Calls Try.prog 29 #[.agg #[.int .u64 (U (encB sb st)), .int .u64 (U (encT sb st)), .int .u64 (U (encE sb st))], .int .u64 (U a)] w fun r w' => r = .returned (.tuple #[.agg #[.int .u64 (U (decB (encB sb st) (encT sb st) (encE sb st) a)), .int .u64 (U (decT (encB sb st) (encT sb st) (encE sb st) a))], .bool true]) ∧ Below w.heap.size w w' := fun w => (rdecode_any _ _ _ a w).mono fun _ _ g => ⟨by rw [g.1, hd], g.2⟩
  clear hx hd
  go_enter Try.func10, Try.ntmps10
  go_wp2_with (first | (go_at_call 28; (with_reducible refine (ce _).mono ?_); rintro e w' ⟨rfl, hbl⟩; obtain ⟨hcw, hfw, hsw⟩ := below_ifs hbl; (try simp only [World.size_alloc, World.size_setCell, World.size_drew, size_drewN_] at hcw hfw hsw)) | (go_at_call 29; (with_reducible refine (cd _).mono ?_); rintro e w' ⟨rfl, hbl⟩; obtain ⟨hcw, hfw, hsw⟩ := below_ifs hbl; (try simp only [World.size_alloc, World.size_setCell, World.size_drew, size_drewN_] at hcw hfw hsw)))
  refine bodyPost_ret (results_ct [.bool false, .int .u64 (U (encB sb st + (encT sb st) <<< 14 + (encE sb st) <<< 26 + p <<< 32 + y <<< 48)), .int .u64 (U a)] (.bool true) Try.results10 rfl rfl ?_ Try.underlying31 rfl (by kernel_rfl)) rfl ?_
  · (first | (go_simp; done) | (go_simp; (simp [↓IntWalk.iteOmega]; done)) | (go_simp; intros; omega) | (go_simp; simp [↓IntWalk.iteOmega]; intros; omega))
  · exact ⟨rfl, by (repeat (first | with_reducible exact Below.refl _ _ | with_reducible assumption | with_reducible refine below_drewN ?_ _ | with_reducible refine Below.drew ?_ | with_reducible refine below_alloc ?_ _ | (with_reducible refine Below.setCell ?_ (by first | (simp; done) | omega | (simp; omega)) _) | with_reducible refine belows ?_ (by assumption)))⟩
theorem rmake_any (sb st p y a : BitVec 64) (w : World) : Calls Try.prog 10 #[.agg #[.int .u64 (U sb), .int .u64 (U st), .int .u64 (U p), .int .u64 (U y)], .int .u64 (U a)] w fun r w' => r = .returned (.tuple #[.agg #[.bool false, .int .u64 (U (mkM sb st p y a)), .int .u64 (U (mkA sb st p y a))], .bool (mkOk sb st p y a)]) ∧ Below w.heap.size w w' := by
  cases hx : (encX sb st)
  · have g : mkOk sb st p y a = false := by unfold mkOk; rw [hx]; simp
    obtain ⟨g1, g2⟩ := mk_none g
    rw [g1, g2, g]
    exact rmake_0 sb st p y a hx w
  · cases hp : (decide (511 < U p))
    · cases hy : (decide (4095 < U y))
      · cases hd : (decOk (encB sb st) (encT sb st) (encE sb st) a)
        · have g : mkOk sb st p y a = false := by unfold mkOk; rw [hx, hp, hy, hd]; simp
          obtain ⟨g1, g2⟩ := mk_none g
          rw [g1, g2, g]
          exact rmake_3 sb st p y a hx hp hy hd w
        · cases hs : ((decB (encB sb st) (encT sb st) (encE sb st) a == sb && decT (encB sb st) (encT sb st) (encE sb st) a == st))
          · have g : mkOk sb st p y a = false := by unfold mkOk; rw [hx, hp, hy, hd, hs]; simp
            obtain ⟨g1, g2⟩ := mk_none g
            rw [g1, g2, g]
            exact rmake_4 sb st p y a hx hp hy hd hs w
          · have g : mkOk sb st p y a = true := by unfold mkOk; rw [hx, hp, hy, hd, hs]; rfl
            obtain ⟨q1, q2, q3⟩ := enc_small sb st
            have g1 : mkM sb st p y a = encB sb st + (encT sb st) <<< 14 + (encE sb st) <<< 26 + p <<< 32 + y <<< 48 := by unfold mkM; rw [if_pos g, meta_sum _ _ _ _ _ q1 q2 q3 (by simp at hp; unfold U at hp; omega) (by simp at hy; unfold U at hy; omega)]
            have g2 : mkA sb st p y a = a := by unfold mkA; rw [if_pos g]
            rw [g1, g2, g]
            exact rmake_5 sb st p y a hx hp hy hd hs w
      · have g : mkOk sb st p y a = false := by unfold mkOk; rw [hx, hp, hy]; simp
        obtain ⟨g1, g2⟩ := mk_none g
        rw [g1, g2, g]
        exact rmake_2 sb st p y a hx hp hy w
    · have g : mkOk sb st p y a = false := by unfold mkOk; rw [hx, hp]; simp
      obtain ⟨g1, g2⟩ := mk_none g
      rw [g1, g2, g]
      exact rmake_1 sb st p y a hx hp w
set_option maxHeartbeats 2000000 in
set_option maxRecDepth 100000 in
theorem root_any (sb st p : BitVec 64) (w : World) : Calls Try.prog 12 #[.agg #[.int .u64 (U sb), .int .u64 (U st)], .int .u64 (U p)] w fun r w' => r = .returned (.tuple #[.agg #[.bool (mkOk sb st p 0#64 sb), .int .u64 (U (mkM sb st p 0#64 sb)), .int .u64 (U (mkA sb st p 0#64 sb))], .bool (mkOk sb st p 0#64 sb)]) ∧ Below w.heap.size w w' := by
  have cm : ∀ w : World, Calls Try.prog 9 #[.agg #[.int .u64 (U sb), .int .u64 (U st), .int .u64 (U p), .int .u64 0], .int .u64 (U sb)] w fun r w' => r = .returned (.tuple #[.agg #[.bool false, .int .u64 (U (mkM sb st p 0#64 sb)), .int .u64 (U (mkA sb st p 0#64 sb))], .bool (mkOk sb st p 0#64 sb)]) ∧ Below w.heap.size w w' := fun w => make_any sb st p 0#64 sb w
  go_enter Try.func12, Try.ntmps12
  go_wp2_with (first | (go_at_call 9; (with_reducible refine (cm _).mono ?_); rintro e w' ⟨rfl, hbl⟩; obtain ⟨hcw, hfw, hsw⟩ := below_ifs hbl; (try simp only [World.size_alloc, World.size_setCell, World.size_drew, size_drewN_] at hcw hfw hsw)))
  refine bodyPost_ret (results_ct [.bool (mkOk sb st p 0#64 sb), .int .u64 (U (mkM sb st p 0#64 sb)), .int .u64 (U (mkA sb st p 0#64 sb))] (.bool (mkOk sb st p 0#64 sb)) Try.results12 rfl rfl ?_ Try.underlying28 rfl (by kernel_rfl)) rfl ?_
  · (first | (go_simp; done) | (go_simp; (simp [↓IntWalk.iteOmega]; done)) | (go_simp; intros; omega) | (go_simp; simp [↓IntWalk.iteOmega]; intros; omega))
  · exact ⟨rfl, by (repeat (first | with_reducible exact Below.refl _ _ | with_reducible assumption | with_reducible refine below_drewN ?_ _ | with_reducible refine Below.drew ?_ | with_reducible refine below_alloc ?_ _ | (with_reducible refine Below.setCell ?_ (by first | (simp; done) | omega | (simp; omega)) _) | with_reducible refine belows ?_ (by assumption)))⟩
set_option maxHeartbeats 2000000 in
set_option maxRecDepth 100000 in
theorem rroot_any (sb st p : BitVec 64) (w : World) : Calls Try.prog 13 #[.agg #[.int .u64 (U sb), .int .u64 (U st)], .int .u64 (U p)] w fun r w' => r = .returned (.tuple #[.agg #[.bool (mkOk sb st p 0#64 sb), .int .u64 (U (mkM sb st p 0#64 sb)), .int .u64 (U (mkA sb st p 0#64 sb))], .bool (mkOk sb st p 0#64 sb)]) ∧ Below w.heap.size w w' := by
  have cm : ∀ w : World, Calls Try.prog 10 #[.agg #[.int .u64 (U sb), .int .u64 (U st), .int .u64 (U p), .int .u64 0], .int .u64 (U sb)] w fun r w' => r = .returned (.tuple #[.agg #[.bool false, .int .u64 (U (mkM sb st p 0#64 sb)), .int .u64 (U (mkA sb st p 0#64 sb))], .bool (mkOk sb st p 0#64 sb)]) ∧ Below w.heap.size w w' := fun w => rmake_any sb st p 0#64 sb w
  go_enter Try.func13, Try.ntmps13
  go_wp2_with (first | (go_at_call 10; (with_reducible refine (cm _).mono ?_); rintro e w' ⟨rfl, hbl⟩; obtain ⟨hcw, hfw, hsw⟩ := below_ifs hbl; (try simp only [World.size_alloc, World.size_setCell, World.size_drew, size_drewN_] at hcw hfw hsw)))
  refine bodyPost_ret (results_ct [.bool (mkOk sb st p 0#64 sb), .int .u64 (U (mkM sb st p 0#64 sb)), .int .u64 (U (mkA sb st p 0#64 sb))] (.bool (mkOk sb st p 0#64 sb)) Try.results13 rfl rfl ?_ Try.underlying31 rfl (by kernel_rfl)) rfl ?_
  · (first | (go_simp; done) | (go_simp; (simp [↓IntWalk.iteOmega]; done)) | (go_simp; intros; omega) | (go_simp; simp [↓IntWalk.iteOmega]; intros; omega))
  · exact ⟨rfl, by (repeat (first | with_reducible exact Below.refl _ _ | with_reducible assumption | with_reducible refine below_drewN ?_ _ | with_reducible refine Below.drew ?_ | with_reducible refine below_alloc ?_ _ | (with_reducible refine Below.setCell ?_ (by first | (simp; done) | omega | (simp; omega)) _) | with_reducible refine belows ?_ (by assumption)))⟩
theorem perms_eq (p q : BitVec 64) : (p &&& q == p) = (p &&& ~~~ q == 0#64) := and_mask_self p q
set_option maxHeartbeats 4000000 in
set_option maxRecDepth 100000 in
theorem rwithin_any (g h : Bool) (m a n b : BitVec 64) (w : World) : Calls Try.prog 24 #[.agg #[.bool g, .int .u64 (U m), .int .u64 (U a)], .agg #[.bool h, .int .u64 (U n), .int .u64 (U b)]] w fun r w' => r = .returned (.bool (withinF m a n b)) ∧ Below w.heap.size w w' := by
  have ca : ∀ w : World, Calls Try.prog 23 #[.agg #[.bool g, .int .u64 (U m), .int .u64 (U a)]] w fun r w' => r = .returned (.bool (rtF m a)) ∧ Below w.heap.size w w' := fun w => rright_any g m a w
  have cb : ∀ w : World, Calls Try.prog 23 #[.agg #[.bool h, .int .u64 (U n), .int .u64 (U b)]] w fun r w' => r = .returned (.bool (rtF n b)) ∧ Below w.heap.size w w' := fun w => rright_any h n b w
  unfold withinF
  rw [← perms_eq]
  cases h1 : rtF m a
  all_goals try cases h2 : rtF n b
  all_goals try cases h3 : decide (U (lkB n b) ≤ U (lkB m a))
  all_goals try cases h4 : decide (U (lkT m a) ≤ U (lkT n b))
  all_goals
    rw [h1] at ca
    rw [h2] at cb
    go_enter Try.func24, Try.ntmps24
    go_wp2_with (first | (go_at_call 22; (with_reducible refine (rlook_any _ _ _ _).mono ?_); rintro e w' ⟨rfl, hbl⟩; obtain ⟨hcw, hfw, hsw⟩ := below_ifs hbl; (try simp only [World.size_alloc, World.size_setCell, World.size_drew, size_drewN_] at hcw hfw hsw)) | (go_at_call 23; (with_reducible refine (ca _).mono ?_); rintro e w' ⟨rfl, hbl⟩; obtain ⟨hcw, hfw, hsw⟩ := below_ifs hbl; (try simp only [World.size_alloc, World.size_setCell, World.size_drew, size_drewN_] at hcw hfw hsw)) | (go_at_call 23; (with_reducible refine (cb _).mono ?_); rintro e w' ⟨rfl, hbl⟩; obtain ⟨hcw, hfw, hsw⟩ := below_ifs hbl; (try simp only [World.size_alloc, World.size_setCell, World.size_drew, size_drewN_] at hcw hfw hsw)))
    go_ret
    exact ⟨ret_bool (by simp), by (repeat (first | with_reducible exact Below.refl _ _ | with_reducible assumption | with_reducible refine below_drewN ?_ _ | with_reducible refine Below.drew ?_ | with_reducible refine below_alloc ?_ _ | (with_reducible refine Below.setCell ?_ (by first | (simp; done) | omega | (simp; omega)) _) | with_reducible refine belows ?_ (by assumption)))⟩
end Go.Proofs.Ytikpkoeeinkecaa
