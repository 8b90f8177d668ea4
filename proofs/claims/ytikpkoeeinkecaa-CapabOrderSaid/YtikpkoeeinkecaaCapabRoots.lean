
/-
  CapabRoots: of every span that is kept as it is there is a root, which has its tag, and begins at its base; and each capability that is right is within the root of all. Every input.
-/
import Derived.Test.YtikpkoeeinkecaaRows
import Derived.Test.YtikpkoeeinkecaaLaw
import Derived.Test.YtikpkoeeinkecaaCapabLaw
import Derived.Test.YtikpkoeeinkecaaCapabP
import Derived.Test.YtikpkoeeinkecaaBoundsL
namespace Go.Proofs.Ytikpkoeeinkecaa.Roots
open Go Go.RowKit Go.ChangeShapes Go.WideShapes Go.ChangeAt
set_option linter.unusedVariables false
set_option linter.unusedSimpArgs false

def allM : BitVec 64 := mkM 0#64 281474976710656#64 511#64 0#64 0#64
theorem all_ok : mkOk 0#64 281474976710656#64 511#64 0#64 0#64 = true := by decide +kernel
theorem root_all (w : World) : Calls Try.prog 12 #[.agg #[.int .u64 0, .int .u64 281474976710656], .int .u64 511] w fun r w' => r = .returned (.tuple #[.agg #[.bool true, .int .u64 (U allM), .int .u64 0], .bool true]) ∧ Below w.heap.size w w' := by
  have h := root_any 0#64 281474976710656#64 511#64 w
  rw [all_ok, (made all_ok).1] at h
  exact h
theorem within_all (m a : BitVec 64) : withinF m a allM 0#64 = rtF m a := by
  obtain ⟨_, _, _, _, h5, _, _, h8, h9, h10⟩ := made all_ok
  have e1 : rtF allM 0#64 = true := h10
  have e2 : lkB allM 0#64 = 0#64 := h8
  have e3 : lkT allM 0#64 = 281474976710656#64 := h9
  have e4 : mP allM = 511#64 := h5
  unfold withinF
  rw [e1, e2, e3, e4]
  cases h : rtF m a
  · rfl
  · unfold rtF at h
    rw [Bool.and_eq_true] at h
    have hd : (lkT m a).toNat ≤ 281474976710656 := (dec_is _ _ _ _ h.1).2.2
    have hp : (mP m) &&& ~~~ 511#64 = 0#64 := by
      apply ext64
      intro j hj
      rw [BitVec.getLsbD_and, show (mP m).getLsbD j = _ from get_lsb m 32 9 (by decide) j, BitVec.getLsbD_not, show (511#64) = maskF 9 from rfl, mask_lsb _ (by omega)]
      simp only [show (9 : Int).toNat = 9 from rfl]
      by_cases c : j < 9
      · simp [c]
      · simp [c]
    rw [hp, decide_eq_true (show U 0#64 ≤ U (lkB m a) by unfold U; simp), decide_eq_true (show U (lkT m a) ≤ U 281474976710656#64 by unfold U; simp only [show (281474976710656#64).toNat = 281474976710656 from rfl]; omega)]
    simp
/-- Of every span that is kept as it is there is a root. -/
theorem root_ok (sb st p : BitVec 64) : mkOk sb st p 0#64 sb = (encX sb st && (decide (U p ≤ 511) && decide (U sb < 281474976710656))) := by
  cases hx : encX sb st
  · cases h : mkOk sb st p 0#64 sb
    · rfl
    · have := ((mkOk_iff _ _ _ _ _).1 h).1
      rw [hx] at this; cases this
  · have hx' := hx
    unfold encX at hx'
    rw [Bool.and_eq_true, Bool.and_eq_true, beq_iff_eq, beq_iff_eq] at hx'
    obtain ⟨hm, hb, ht⟩ := hx'
    have eB : encB sb st = fB sb st := by unfold encB; rw [if_pos hm]
    have eT : encT sb st = fT sb st := by unfold encT; rw [if_pos hm]
    have eE : encE sb st = kE sb st := by unfold encE; rw [if_pos hm]
    have hkb := kB_nat hm
    rw [hb] at hkb
    rw [Bool.eq_iff_iff, mkOk_iff, eB, eT, eE, hx]
    simp only [Bool.true_and, Bool.and_eq_true, decide_eq_true_eq]
    unfold U
    constructor
    · rintro ⟨_, h2, _, _, h5, _⟩
      have := ((decOk_iff _ _ _ _).1 h2).1.2.2.2
      omega
    · rintro ⟨h1, h2⟩
      have hp := pow_pos' (kX sb st)
      obtain ⟨n1, n2, n3⟩ := near_is hm sb (by omega) (by omega) (by omega)
      exact ⟨trivial, n1, by rw [n2, hb], by rw [n3, ht], by omega, by decide⟩
set_option maxHeartbeats 8000000 in
set_option maxRecDepth 100000 in
theorem walk_0 (sb st p m a : BitVec 64) (g : Bool) (hx : (encX sb st) = false) (w : World) : Calls Try.prog 6 #[.agg #[.int .u64 (U sb), .int .u64 (U st)], .int .u64 (U p), .agg #[.bool g, .int .u64 (U m), .int .u64 (U a)]] w fun r w' => r = .returned (.bool true) ∧ Below w.heap.size w w' := by
  have h1 : mkOk sb st p 0#64 sb = false := by rw [root_ok, hx]; simp
  have ce : ∀ w : World, Calls Try.prog 18 #[.agg #[.int .u64 (U sb), .int .u64 (U st)]] w fun r w' => r = .returned (.tuple #[.agg #[.int .u64 (U (encB sb st)), .int .u64 (U (encT sb st)), .int .u64 (U (encE sb st))], .bool false]) ∧ Below w.heap.size w w' := fun w => (encode_any sb st w).mono fun _ _ q => ⟨by rw [q.1, hx], q.2⟩
  have cr : ∀ w : World, Calls Try.prog 12 #[.agg #[.int .u64 (U sb), .int .u64 (U st)], .int .u64 (U p)] w fun r w' => r = .returned (.tuple #[.agg #[.bool false, .int .u64 (U (mkM sb st p 0#64 sb)), .int .u64 (U (mkA sb st p 0#64 sb))], .bool false]) ∧ Below w.heap.size w w' := fun w => (root_any sb st p w).mono fun _ _ q => ⟨by rw [q.1, h1], q.2⟩
  have cw : ∀ w : World, Calls Try.prog 17 #[.agg #[.bool g, .int .u64 (U m), .int .u64 (U a)], .agg #[.bool true, .int .u64 (U allM), .int .u64 0]] w fun r w' => r = .returned (.bool (rtF m a)) ∧ Below w.heap.size w w' := fun w => (within_any g true m a allM 0#64 w).mono fun _ _ q => ⟨by rw [q.1, within_all], q.2⟩
  clear h1 hx
  go_enter Try.func6, Try.ntmps6
  go_wp2_with (first | (go_at_call 18; (with_reducible refine (ce _).mono ?_); rintro e w' ⟨rfl, hbl⟩; obtain ⟨hcw, hfw, hsw⟩ := below_ifs hbl; (try simp only [World.size_alloc, World.size_setCell, World.size_drew, size_drewN_] at hcw hfw hsw)) | (go_at_call 12; (with_reducible refine (root_all _).mono ?_); rintro e w' ⟨rfl, hbl⟩; obtain ⟨hcw, hfw, hsw⟩ := below_ifs hbl; (try simp only [World.size_alloc, World.size_setCell, World.size_drew, size_drewN_] at hcw hfw hsw)) | (go_at_call 12; (with_reducible refine (cr _).mono ?_); rintro e w' ⟨rfl, hbl⟩; obtain ⟨hcw, hfw, hsw⟩ := below_ifs hbl; (try simp only [World.size_alloc, World.size_setCell, World.size_drew, size_drewN_] at hcw hfw hsw)))
  refine wp_region_below (by kernel_rfl) (by kernel_rfl) (fun hcr hfr => ?_)
  (try simp only [World.size_alloc, World.size_setCell, World.size_drew, size_drewN_] at hcr hfr)
  repeat (go_big_quiet_step ((first | (go_at_call 17; first | with_reducible exact Calls.regrown_of (cw _) | with_reducible exact regrown_k (cw _) | with_reducible exact regrown_1 (cw _) | with_reducible exact regrown_a (cw _)) | (go_at_call 16; first | with_reducible exact Calls.regrown_of (right_any _ _ _ _) | with_reducible exact regrown_k (right_any _ _ _ _) | with_reducible exact regrown_1 (right_any _ _ _ _) | with_reducible exact regrown_a (right_any _ _ _ _)) | (go_at_call 14; first | with_reducible exact Calls.regrown_of (one_any _) | with_reducible exact regrown_k (one_any _) | with_reducible exact regrown_1 (one_any _) | with_reducible exact regrown_a (one_any _)))))
  refine wpQuiet_nil ?_
  intro w' hbl
  clear hcr hfr
  obtain ⟨hcw, hfw, hsw⟩ := below_ifs hbl; (try simp only [World.size_alloc, World.size_setCell, World.size_drew, size_drewN_] at hcw hfw hsw)
  go_wp2_with fail
  go_ret
  exact ⟨rfl, by (repeat (first | with_reducible exact Below.refl _ _ | with_reducible assumption | with_reducible refine below_drewN ?_ _ | with_reducible refine Below.drew ?_ | with_reducible refine below_alloc ?_ _ | (with_reducible refine Below.setCell ?_ (by first | (simp; done) | omega | (simp; omega)) _) | with_reducible refine belows ?_ (by assumption)))⟩
set_option maxHeartbeats 8000000 in
set_option maxRecDepth 100000 in
theorem walk_1 (sb st p m a : BitVec 64) (g : Bool) (hx : (encX sb st) = true) (hp : (decide (U p ≤ 511)) = false) (w : World) : Calls Try.prog 6 #[.agg #[.int .u64 (U sb), .int .u64 (U st)], .int .u64 (U p), .agg #[.bool g, .int .u64 (U m), .int .u64 (U a)]] w fun r w' => r = .returned (.bool true) ∧ Below w.heap.size w w' := by
  have h1 : mkOk sb st p 0#64 sb = false := by rw [root_ok, hx, hp]; simp
  have ce : ∀ w : World, Calls Try.prog 18 #[.agg #[.int .u64 (U sb), .int .u64 (U st)]] w fun r w' => r = .returned (.tuple #[.agg #[.int .u64 (U (encB sb st)), .int .u64 (U (encT sb st)), .int .u64 (U (encE sb st))], .bool true]) ∧ Below w.heap.size w w' := fun w => (encode_any sb st w).mono fun _ _ q => ⟨by rw [q.1, hx], q.2⟩
  have cr : ∀ w : World, Calls Try.prog 12 #[.agg #[.int .u64 (U sb), .int .u64 (U st)], .int .u64 (U p)] w fun r w' => r = .returned (.tuple #[.agg #[.bool false, .int .u64 (U (mkM sb st p 0#64 sb)), .int .u64 (U (mkA sb st p 0#64 sb))], .bool false]) ∧ Below w.heap.size w w' := fun w => (root_any sb st p w).mono fun _ _ q => ⟨by rw [q.1, h1], q.2⟩
  have cw : ∀ w : World, Calls Try.prog 17 #[.agg #[.bool g, .int .u64 (U m), .int .u64 (U a)], .agg #[.bool true, .int .u64 (U allM), .int .u64 0]] w fun r w' => r = .returned (.bool (rtF m a)) ∧ Below w.heap.size w w' := fun w => (within_any g true m a allM 0#64 w).mono fun _ _ q => ⟨by rw [q.1, within_all], q.2⟩
  clear h1 hx
  go_enter Try.func6, Try.ntmps6
  go_wp2_with (first | (go_at_call 18; (with_reducible refine (ce _).mono ?_); rintro e w' ⟨rfl, hbl⟩; obtain ⟨hcw, hfw, hsw⟩ := below_ifs hbl; (try simp only [World.size_alloc, World.size_setCell, World.size_drew, size_drewN_] at hcw hfw hsw)) | (go_at_call 12; (with_reducible refine (root_all _).mono ?_); rintro e w' ⟨rfl, hbl⟩; obtain ⟨hcw, hfw, hsw⟩ := below_ifs hbl; (try simp only [World.size_alloc, World.size_setCell, World.size_drew, size_drewN_] at hcw hfw hsw)) | (go_at_call 12; (with_reducible refine (cr _).mono ?_); rintro e w' ⟨rfl, hbl⟩; obtain ⟨hcw, hfw, hsw⟩ := below_ifs hbl; (try simp only [World.size_alloc, World.size_setCell, World.size_drew, size_drewN_] at hcw hfw hsw)))
  refine wp_region_below (by kernel_rfl) (by kernel_rfl) (fun hcr hfr => ?_)
  (try simp only [World.size_alloc, World.size_setCell, World.size_drew, size_drewN_] at hcr hfr)
  repeat (go_big_quiet_step ((first | (go_at_call 17; first | with_reducible exact Calls.regrown_of (cw _) | with_reducible exact regrown_k (cw _) | with_reducible exact regrown_1 (cw _) | with_reducible exact regrown_a (cw _)) | (go_at_call 16; first | with_reducible exact Calls.regrown_of (right_any _ _ _ _) | with_reducible exact regrown_k (right_any _ _ _ _) | with_reducible exact regrown_1 (right_any _ _ _ _) | with_reducible exact regrown_a (right_any _ _ _ _)) | (go_at_call 14; first | with_reducible exact Calls.regrown_of (one_any _) | with_reducible exact regrown_k (one_any _) | with_reducible exact regrown_1 (one_any _) | with_reducible exact regrown_a (one_any _)))))
  refine wpQuiet_nil ?_
  intro w' hbl
  clear hcr hfr
  obtain ⟨hcw, hfw, hsw⟩ := below_ifs hbl; (try simp only [World.size_alloc, World.size_setCell, World.size_drew, size_drewN_] at hcw hfw hsw)
  go_wp2_with fail
  go_ret
  exact ⟨rfl, by (repeat (first | with_reducible exact Below.refl _ _ | with_reducible assumption | with_reducible refine below_drewN ?_ _ | with_reducible refine Below.drew ?_ | with_reducible refine below_alloc ?_ _ | (with_reducible refine Below.setCell ?_ (by first | (simp; done) | omega | (simp; omega)) _) | with_reducible refine belows ?_ (by assumption)))⟩
set_option maxHeartbeats 8000000 in
set_option maxRecDepth 100000 in
theorem walk_2 (sb st p m a : BitVec 64) (g : Bool) (hx : (encX sb st) = true) (hp : (decide (U p ≤ 511)) = true) (hb : (decide (U sb < 281474976710656)) = false) (w : World) : Calls Try.prog 6 #[.agg #[.int .u64 (U sb), .int .u64 (U st)], .int .u64 (U p), .agg #[.bool g, .int .u64 (U m), .int .u64 (U a)]] w fun r w' => r = .returned (.bool true) ∧ Below w.heap.size w w' := by
  have h1 : mkOk sb st p 0#64 sb = false := by rw [root_ok, hx, hp, hb]; simp
  have ce : ∀ w : World, Calls Try.prog 18 #[.agg #[.int .u64 (U sb), .int .u64 (U st)]] w fun r w' => r = .returned (.tuple #[.agg #[.int .u64 (U (encB sb st)), .int .u64 (U (encT sb st)), .int .u64 (U (encE sb st))], .bool true]) ∧ Below w.heap.size w w' := fun w => (encode_any sb st w).mono fun _ _ q => ⟨by rw [q.1, hx], q.2⟩
  have cr : ∀ w : World, Calls Try.prog 12 #[.agg #[.int .u64 (U sb), .int .u64 (U st)], .int .u64 (U p)] w fun r w' => r = .returned (.tuple #[.agg #[.bool false, .int .u64 (U (mkM sb st p 0#64 sb)), .int .u64 (U (mkA sb st p 0#64 sb))], .bool false]) ∧ Below w.heap.size w w' := fun w => (root_any sb st p w).mono fun _ _ q => ⟨by rw [q.1, h1], q.2⟩
  have cw : ∀ w : World, Calls Try.prog 17 #[.agg #[.bool g, .int .u64 (U m), .int .u64 (U a)], .agg #[.bool true, .int .u64 (U allM), .int .u64 0]] w fun r w' => r = .returned (.bool (rtF m a)) ∧ Below w.heap.size w w' := fun w => (within_any g true m a allM 0#64 w).mono fun _ _ q => ⟨by rw [q.1, within_all], q.2⟩
  clear h1 hx
  go_enter Try.func6, Try.ntmps6
  go_wp2_with (first | (go_at_call 18; (with_reducible refine (ce _).mono ?_); rintro e w' ⟨rfl, hbl⟩; obtain ⟨hcw, hfw, hsw⟩ := below_ifs hbl; (try simp only [World.size_alloc, World.size_setCell, World.size_drew, size_drewN_] at hcw hfw hsw)) | (go_at_call 12; (with_reducible refine (root_all _).mono ?_); rintro e w' ⟨rfl, hbl⟩; obtain ⟨hcw, hfw, hsw⟩ := below_ifs hbl; (try simp only [World.size_alloc, World.size_setCell, World.size_drew, size_drewN_] at hcw hfw hsw)) | (go_at_call 12; (with_reducible refine (cr _).mono ?_); rintro e w' ⟨rfl, hbl⟩; obtain ⟨hcw, hfw, hsw⟩ := below_ifs hbl; (try simp only [World.size_alloc, World.size_setCell, World.size_drew, size_drewN_] at hcw hfw hsw)))
  refine wp_region_below (by kernel_rfl) (by kernel_rfl) (fun hcr hfr => ?_)
  (try simp only [World.size_alloc, World.size_setCell, World.size_drew, size_drewN_] at hcr hfr)
  repeat (go_big_quiet_step ((first | (go_at_call 17; first | with_reducible exact Calls.regrown_of (cw _) | with_reducible exact regrown_k (cw _) | with_reducible exact regrown_1 (cw _) | with_reducible exact regrown_a (cw _)) | (go_at_call 16; first | with_reducible exact Calls.regrown_of (right_any _ _ _ _) | with_reducible exact regrown_k (right_any _ _ _ _) | with_reducible exact regrown_1 (right_any _ _ _ _) | with_reducible exact regrown_a (right_any _ _ _ _)) | (go_at_call 14; first | with_reducible exact Calls.regrown_of (one_any _) | with_reducible exact regrown_k (one_any _) | with_reducible exact regrown_1 (one_any _) | with_reducible exact regrown_a (one_any _)))))
  refine wpQuiet_nil ?_
  intro w' hbl
  clear hcr hfr
  obtain ⟨hcw, hfw, hsw⟩ := below_ifs hbl; (try simp only [World.size_alloc, World.size_setCell, World.size_drew, size_drewN_] at hcw hfw hsw)
  go_wp2_with fail
  go_ret
  exact ⟨rfl, by (repeat (first | with_reducible exact Below.refl _ _ | with_reducible assumption | with_reducible refine below_drewN ?_ _ | with_reducible refine Below.drew ?_ | with_reducible refine below_alloc ?_ _ | (with_reducible refine Below.setCell ?_ (by first | (simp; done) | omega | (simp; omega)) _) | with_reducible refine belows ?_ (by assumption)))⟩
set_option maxHeartbeats 8000000 in
set_option maxRecDepth 100000 in
theorem walk_3 (sb st p m a : BitVec 64) (g : Bool) (hx : (encX sb st) = true) (hp : (decide (U p ≤ 511)) = true) (hb : (decide (U sb < 281474976710656)) = true) (w : World) : Calls Try.prog 6 #[.agg #[.int .u64 (U sb), .int .u64 (U st)], .int .u64 (U p), .agg #[.bool g, .int .u64 (U m), .int .u64 (U a)]] w fun r w' => r = .returned (.bool true) ∧ Below w.heap.size w w' := by
  have h1 : mkOk sb st p 0#64 sb = true := by rw [root_ok, hx, hp, hb]; rfl
  have ce : ∀ w : World, Calls Try.prog 18 #[.agg #[.int .u64 (U sb), .int .u64 (U st)]] w fun r w' => r = .returned (.tuple #[.agg #[.int .u64 (U (encB sb st)), .int .u64 (U (encT sb st)), .int .u64 (U (encE sb st))], .bool true]) ∧ Below w.heap.size w w' := fun w => (encode_any sb st w).mono fun _ _ q => ⟨by rw [q.1, hx], q.2⟩
  obtain ⟨a1, a2, a3, a4, a5, a6, a7, a8, a9, a10⟩ := made h1
  have cr : ∀ w : World, Calls Try.prog 12 #[.agg #[.int .u64 (U sb), .int .u64 (U st)], .int .u64 (U p)] w fun r w' => r = .returned (.tuple #[.agg #[.bool true, .int .u64 (U (mkM sb st p 0#64 sb)), .int .u64 (U sb)], .bool true]) ∧ Below w.heap.size w w' := fun w => (root_any sb st p w).mono fun _ _ q => ⟨by rw [q.1, a1, h1], q.2⟩
  have cl : ∀ w : World, Calls Try.prog 15 #[.agg #[.bool true, .int .u64 (U (mkM sb st p 0#64 sb)), .int .u64 (U sb)]] w fun r w' => r = .returned (.tuple #[.agg #[.int .u64 (U sb), .int .u64 (U st), .int .u64 (U p), .int .u64 0], .bool true]) ∧ Below w.heap.size w w' := fun w => (look_any true (mkM sb st p 0#64 sb) sb w).mono fun _ _ q => ⟨by rw [q.1, a5, a6, a7, a8, a9]; rfl, q.2⟩
  clear a1 a2 a3 a4 a5 a6 a7 a8 a9 a10
  have cw : ∀ w : World, Calls Try.prog 17 #[.agg #[.bool g, .int .u64 (U m), .int .u64 (U a)], .agg #[.bool true, .int .u64 (U allM), .int .u64 0]] w fun r w' => r = .returned (.bool (rtF m a)) ∧ Below w.heap.size w w' := fun w => (within_any g true m a allM 0#64 w).mono fun _ _ q => ⟨by rw [q.1, within_all], q.2⟩
  clear h1 hx
  go_enter Try.func6, Try.ntmps6
  go_wp2_with (first | (go_at_call 18; (with_reducible refine (ce _).mono ?_); rintro e w' ⟨rfl, hbl⟩; obtain ⟨hcw, hfw, hsw⟩ := below_ifs hbl; (try simp only [World.size_alloc, World.size_setCell, World.size_drew, size_drewN_] at hcw hfw hsw)) | (go_at_call 12; (with_reducible refine (root_all _).mono ?_); rintro e w' ⟨rfl, hbl⟩; obtain ⟨hcw, hfw, hsw⟩ := below_ifs hbl; (try simp only [World.size_alloc, World.size_setCell, World.size_drew, size_drewN_] at hcw hfw hsw)) | (go_at_call 12; (with_reducible refine (cr _).mono ?_); rintro e w' ⟨rfl, hbl⟩; obtain ⟨hcw, hfw, hsw⟩ := below_ifs hbl; (try simp only [World.size_alloc, World.size_setCell, World.size_drew, size_drewN_] at hcw hfw hsw)) | (go_at_call 15; (with_reducible refine (cl _).mono ?_); rintro e w' ⟨rfl, hbl⟩; obtain ⟨hcw, hfw, hsw⟩ := below_ifs hbl; (try simp only [World.size_alloc, World.size_setCell, World.size_drew, size_drewN_] at hcw hfw hsw)))
  refine wp_region_below (by kernel_rfl) (by kernel_rfl) (fun hcr hfr => ?_)
  (try simp only [World.size_alloc, World.size_setCell, World.size_drew, size_drewN_] at hcr hfr)
  repeat (go_big_quiet_step ((first | (go_at_call 17; first | with_reducible exact Calls.regrown_of (cw _) | with_reducible exact regrown_k (cw _) | with_reducible exact regrown_1 (cw _) | with_reducible exact regrown_a (cw _)) | (go_at_call 16; first | with_reducible exact Calls.regrown_of (right_any _ _ _ _) | with_reducible exact regrown_k (right_any _ _ _ _) | with_reducible exact regrown_1 (right_any _ _ _ _) | with_reducible exact regrown_a (right_any _ _ _ _)) | (go_at_call 14; first | with_reducible exact Calls.regrown_of (one_any _) | with_reducible exact regrown_k (one_any _) | with_reducible exact regrown_1 (one_any _) | with_reducible exact regrown_a (one_any _)))))
  refine wpQuiet_nil ?_
  intro w' hbl
  clear hcr hfr
  obtain ⟨hcw, hfw, hsw⟩ := below_ifs hbl; (try simp only [World.size_alloc, World.size_setCell, World.size_drew, size_drewN_] at hcw hfw hsw)
  go_wp2_with fail
  go_ret
  exact ⟨rfl, by (repeat (first | with_reducible exact Below.refl _ _ | with_reducible assumption | with_reducible refine below_drewN ?_ _ | with_reducible refine Below.drew ?_ | with_reducible refine below_alloc ?_ _ | (with_reducible refine Below.setCell ?_ (by first | (simp; done) | omega | (simp; omega)) _) | with_reducible refine belows ?_ (by assumption)))⟩
theorem walk (sb st p m a : BitVec 64) (g : Bool) (w : World) : Calls Try.prog 6 #[.agg #[.int .u64 (U sb), .int .u64 (U st)], .int .u64 (U p), .agg #[.bool g, .int .u64 (U m), .int .u64 (U a)]] w fun r w' => r = .returned (.bool true) ∧ Below w.heap.size w w' := by
  cases hx : encX sb st
  · exact walk_0 sb st p m a g hx w
  · cases hp : decide (U p ≤ 511)
    · exact walk_1 sb st p m a g hx hp w
    · cases hb : decide (U sb < 281474976710656)
      · exact walk_2 sb st p m a g hx hp hb w
      · exact walk_3 sb st p m a g hx hp hb w

set_option maxRecDepth 100000 in
theorem lifted (os : Os) (started : os.Started) (H : Type) (enc : TypeId × Value → H) :
    ReturnsInHanded {} Try.checked os 6 .any (Rows.capabRootsSpec.pre6 enc Try.prog Try.f6 Rows.capabRootsRow.domain false) (Rows.capabRootsSpec.post enc Try.prog Try.f6 false true false false) := by
  refine law_lift (C := Try.checked) (tb := 4) started (by kernel_rfl) (by kernel_rfl) Try.func6 rfl rfl Try.underlying4 (by kernel_rfl) (by kernel_rfl)
    (fun ds h => by match ds, h with | [_, _, _], _ => rfl)
    (ChangeSpec.witness6 (enc := enc) (C := Try.checked) false ⟨#[], #[.agg #[.int .u64 0, .int .u64 0], .int .u64 0, .agg #[.bool false, .int .u64 0, .int .u64 0]], []⟩ 8 (by kernel_rfl) (by kernel_rfl) (by kernel_rfl) (by kernel_rfl)) ?_
  intro W base args ds ps hval hA hlt hfz hsz
  rw [Try.params6] at hA hval hsz
  obtain ⟨v0, v1, v2, d0, d1, d2, p0, p1, p2, rfl, rfl, rfl, h0, h1, h2⟩ := trodAll_three hA
  obtain ⟨na, wa, nb, wb, rfl⟩ := open_leaves (d := 5) (ls := [.int .u64, .int .u64]) (by kernel_rfl) (by kernel_rfl) (hval 0 _ v0 rfl rfl) h0
  obtain ⟨a1, rfl, rfl, rfl, w1⟩ := open_int Try.underlying22 (hval 1 _ v1 rfl rfl) h1
  obtain ⟨g, ne, we, nf, wf, rfl⟩ := open_leaves (d := 5) (ls := [.bool, .int .u64, .int .u64]) (by kernel_rfl) (by kernel_rfl) (hval 2 _ v2 rfl rfl) h2
  obtain ⟨a, rfl⟩ := exists_U na wa
  obtain ⟨b, rfl⟩ := exists_U nb wb
  obtain ⟨p, rfl⟩ := exists_U a1 w1
  obtain ⟨m, rfl⟩ := exists_U ne we
  obtain ⟨x, rfl⟩ := exists_U nf wf
  exact walk a b p m x g W

theorem over : Rows.capabRootsRow.holds Try.pinned (OpenSpec.ofChange Rows.capabRootsSpec) :=
  OpenClaim.holds_of_wide 6 Try.f6 rfl rfl rfl rfl rfl rfl rfl ⟨rfl, rfl, rfl, rfl, rfl⟩ rfl rfl rfl rfl rfl (by kernel_rfl) Try.func6 (by kernel_rfl)
    (of_decide_eq_true (by kernel_rfl)) (by unfold Func.isWrapper; first | (rw [if_pos (by decide +kernel)]; kernel_rfl) | (rw [if_neg (by decide +kernel)]; exact ⟨rfl, rfl⟩))
    (fun os started H enc _ => lifted os started H enc)

theorem proved : Rows.CapabRootsSaid := over
end Go.Proofs.Ytikpkoeeinkecaa.Roots
