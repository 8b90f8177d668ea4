
/-
  The document's answers for sealing.
-/
import Derived.Test.YtpinjngmlelleaaRefAlg
namespace Go.Proofs.Ytpinjngmlelleaa
open Go Go.RowKit
set_option linter.unusedVariables false
set_option linter.unusedSimpArgs false


theorem opF_tag {g : Bool} {m a : BitVec 64} (h : opF g m a = true) : g = true := by
  unfold opF at h; simp at h; exact h.1.1
theorem lt_16 (b : BitVec 64) : decide (16 ≤ U b) = !decide (U b < 16) := by
  by_cases c : U b < 16
  · rw [decide_eq_true c, decide_eq_false (by omega)]; rfl
  · rw [decide_eq_false c, decide_eq_true (by omega)]; rfl
theorem le_4095 (b : BitVec 64) : decide (U b ≤ 4095) = !decide (4095 < U b) := by
  by_cases c : U b ≤ 4095
  · rw [decide_eq_true c, decide_eq_false (by omega)]; rfl
  · rw [decide_eq_false c, decide_eq_true (by omega)]; rfl
theorem lt_2 (b : BitVec 64) : decide (U b ≤ 1) = decide (U b < 2) := by
  by_cases c : U b ≤ 1
  · rw [decide_eq_true c, decide_eq_true (by omega)]
  · rw [decide_eq_false c, decide_eq_false (by omega)]
theorem two_and (p : BitVec 64) : p &&& 4#64 = if p.getLsbD 2 = true then 4#64 else 0#64 := by
  have h := BitVec.and_twoPow p 2
  rw [show BitVec.twoPow 64 2 = 4#64 by rfl] at h
  exact h
theorem four_in (p : BitVec 64) : (4#64 &&& ~~~ p == 0#64) = !(p &&& 4#64 == 0#64) := by
  rw [BitVec.and_comm, two_and, two_and]
  have e : (~~~ p).getLsbD 2 = !p.getLsbD 2 := by rw [BitVec.getLsbD_not]; simp
  rw [e]
  cases p.getLsbD 2 <;> rfl

set_option maxHeartbeats 4000000 in
set_option maxRecDepth 100000 in
theorem rseal_any (g h : Bool) (m a n b : BitVec 64) (w : World) : Calls Try.prog 28 #[.agg #[.bool g, .int .u64 (U m), .int .u64 (U a)], .agg #[.bool h, .int .u64 (U n), .int .u64 (U b)]] w fun r w' => r = .returned (.agg #[.bool (sealF g h m a n b && g), .int .u64 (U (tyIf (sealF g h m a n b) m b)), .int .u64 (U a)]) ∧ Below w.heap.size w w' := by
  have co : ∀ w : World, Calls Try.prog 42 #[.agg #[.bool g, .int .u64 (U m), .int .u64 (U a)]] w fun r w' => r = .returned (.bool (opF g m a)) ∧ Below w.heap.size w w' := fun w => risopen_any g m a w
  have cx : ∀ w : World, Calls Try.prog 63 #[.agg #[.bool h, .int .u64 (U n), .int .u64 (U b)], .int .u64 32] w fun r w' => r = .returned (.bool (hasF h n b 32#64)) ∧ Below w.heap.size w w' := fun w => rmay6_any h n b 32#64 w
  have hg : opF g m a = true → g = true := opF_tag
  unfold sealF
  rw [lt_16, le_4095]
  generalize hasF h n b 32#64 = x at cx ⊢
  generalize opF g m a = o at co hg ⊢
  cases o
  · clear hg
    go_enter Try.func28, Try.ntmps28
    go_wp2_with (first | (go_at_call 42; (with_reducible refine (co _).mono ?_); rintro e w' ⟨rfl, hbl⟩; obtain ⟨hcw, hfw, hsw⟩ := below_ifs hbl; (try simp only [World.size_alloc, World.size_setCell, World.size_drew, size_drewN_] at hcw hfw hsw)) | (go_at_call 63; (with_reducible refine (cx _).mono ?_); rintro e w' ⟨rfl, hbl⟩; obtain ⟨hcw, hfw, hsw⟩ := below_ifs hbl; (try simp only [World.size_alloc, World.size_setCell, World.size_drew, size_drewN_] at hcw hfw hsw)) | (go_at_call 11; (with_reducible refine (rclear_any _ _ _ _).mono ?_); rintro e w' ⟨rfl, hbl⟩; obtain ⟨hcw, hfw, hsw⟩ := below_ifs hbl; (try simp only [World.size_alloc, World.size_setCell, World.size_drew, size_drewN_] at hcw hfw hsw)))
    refine ret_c Try.results28 rfl rfl Try.underlying25 rfl (by kernel_rfl) (by (repeat (first | with_reducible exact Below.refl _ _ | with_reducible assumption | with_reducible refine below_drewN ?_ _ | with_reducible refine Below.drew ?_ | with_reducible refine below_alloc ?_ _ | (with_reducible refine Below.setCell ?_ (by first | (simp; done) | omega | (simp; omega)) _) | with_reducible refine belows ?_ (by assumption)))) ?_
    (first | (first | (go_simp; done) | (go_simp; (simp [↓IntWalk.iteOmega]; done)) | (go_simp; intros; omega) | (go_simp; simp [↓IntWalk.iteOmega]; intros; omega)) | (go_simp; simp [*]) | (simp [*]))
  · obtain rfl := hg rfl
    clear hg
    cases x
    · go_enter Try.func28, Try.ntmps28
      go_wp2_with (first | (go_at_call 42; (with_reducible refine (co _).mono ?_); rintro e w' ⟨rfl, hbl⟩; obtain ⟨hcw, hfw, hsw⟩ := below_ifs hbl; (try simp only [World.size_alloc, World.size_setCell, World.size_drew, size_drewN_] at hcw hfw hsw)) | (go_at_call 63; (with_reducible refine (cx _).mono ?_); rintro e w' ⟨rfl, hbl⟩; obtain ⟨hcw, hfw, hsw⟩ := below_ifs hbl; (try simp only [World.size_alloc, World.size_setCell, World.size_drew, size_drewN_] at hcw hfw hsw)) | (go_at_call 11; (with_reducible refine (rclear_any _ _ _ _).mono ?_); rintro e w' ⟨rfl, hbl⟩; obtain ⟨hcw, hfw, hsw⟩ := below_ifs hbl; (try simp only [World.size_alloc, World.size_setCell, World.size_drew, size_drewN_] at hcw hfw hsw)))
      refine ret_c Try.results28 rfl rfl Try.underlying25 rfl (by kernel_rfl) (by (repeat (first | with_reducible exact Below.refl _ _ | with_reducible assumption | with_reducible refine below_drewN ?_ _ | with_reducible refine Below.drew ?_ | with_reducible refine below_alloc ?_ _ | (with_reducible refine Below.setCell ?_ (by first | (simp; done) | omega | (simp; omega)) _) | with_reducible refine belows ?_ (by assumption)))) ?_
      (first | (first | (go_simp; done) | (go_simp; (simp [↓IntWalk.iteOmega]; done)) | (go_simp; intros; omega) | (go_simp; simp [↓IntWalk.iteOmega]; intros; omega)) | (go_simp; simp [*]) | (simp [*]))
    · cases h3 : decide (U b < 16)
      · cases h4 : decide (4095 < U b)
        · have ct : ∀ w : World, Calls Try.prog 64 #[.agg #[.bool true, .int .u64 (U m), .int .u64 (U a)], .int .u64 (U b)] w fun r w' => r = .returned (.agg #[.bool true, .int .u64 (U (tyM m b)), .int .u64 (U a)]) ∧ Below w.heap.size w w' := fun w => rtyped_any true m a b (by simp at h4; unfold U at h4; omega) w
          go_enter Try.func28, Try.ntmps28
          go_wp2_with (first | (go_at_call 42; (with_reducible refine (co _).mono ?_); rintro e w' ⟨rfl, hbl⟩; obtain ⟨hcw, hfw, hsw⟩ := below_ifs hbl; (try simp only [World.size_alloc, World.size_setCell, World.size_drew, size_drewN_] at hcw hfw hsw)) | (go_at_call 63; (with_reducible refine (cx _).mono ?_); rintro e w' ⟨rfl, hbl⟩; obtain ⟨hcw, hfw, hsw⟩ := below_ifs hbl; (try simp only [World.size_alloc, World.size_setCell, World.size_drew, size_drewN_] at hcw hfw hsw)) | (go_at_call 11; (with_reducible refine (rclear_any _ _ _ _).mono ?_); rintro e w' ⟨rfl, hbl⟩; obtain ⟨hcw, hfw, hsw⟩ := below_ifs hbl; (try simp only [World.size_alloc, World.size_setCell, World.size_drew, size_drewN_] at hcw hfw hsw)) | (go_at_call 64; (with_reducible refine (ct _).mono ?_); rintro e w' ⟨rfl, hbl⟩; obtain ⟨hcw, hfw, hsw⟩ := below_ifs hbl; (try simp only [World.size_alloc, World.size_setCell, World.size_drew, size_drewN_] at hcw hfw hsw)))
          refine ret_c Try.results28 rfl rfl Try.underlying25 rfl (by kernel_rfl) (by (repeat (first | with_reducible exact Below.refl _ _ | with_reducible assumption | with_reducible refine below_drewN ?_ _ | with_reducible refine Below.drew ?_ | with_reducible refine below_alloc ?_ _ | (with_reducible refine Below.setCell ?_ (by first | (simp; done) | omega | (simp; omega)) _) | with_reducible refine belows ?_ (by assumption)))) ?_
          (first | (first | (go_simp; done) | (go_simp; (simp [↓IntWalk.iteOmega]; done)) | (go_simp; intros; omega) | (go_simp; simp [↓IntWalk.iteOmega]; intros; omega)) | (go_simp; simp [*]) | (simp [*]))
        · go_enter Try.func28, Try.ntmps28
          go_wp2_with (first | (go_at_call 42; (with_reducible refine (co _).mono ?_); rintro e w' ⟨rfl, hbl⟩; obtain ⟨hcw, hfw, hsw⟩ := below_ifs hbl; (try simp only [World.size_alloc, World.size_setCell, World.size_drew, size_drewN_] at hcw hfw hsw)) | (go_at_call 63; (with_reducible refine (cx _).mono ?_); rintro e w' ⟨rfl, hbl⟩; obtain ⟨hcw, hfw, hsw⟩ := below_ifs hbl; (try simp only [World.size_alloc, World.size_setCell, World.size_drew, size_drewN_] at hcw hfw hsw)) | (go_at_call 11; (with_reducible refine (rclear_any _ _ _ _).mono ?_); rintro e w' ⟨rfl, hbl⟩; obtain ⟨hcw, hfw, hsw⟩ := below_ifs hbl; (try simp only [World.size_alloc, World.size_setCell, World.size_drew, size_drewN_] at hcw hfw hsw)))
          refine ret_c Try.results28 rfl rfl Try.underlying25 rfl (by kernel_rfl) (by (repeat (first | with_reducible exact Below.refl _ _ | with_reducible assumption | with_reducible refine below_drewN ?_ _ | with_reducible refine Below.drew ?_ | with_reducible refine below_alloc ?_ _ | (with_reducible refine Below.setCell ?_ (by first | (simp; done) | omega | (simp; omega)) _) | with_reducible refine belows ?_ (by assumption)))) ?_
          (first | (first | (go_simp; done) | (go_simp; (simp [↓IntWalk.iteOmega]; done)) | (go_simp; intros; omega) | (go_simp; simp [↓IntWalk.iteOmega]; intros; omega)) | (go_simp; simp [*]) | (simp [*]))
      · go_enter Try.func28, Try.ntmps28
        go_wp2_with (first | (go_at_call 42; (with_reducible refine (co _).mono ?_); rintro e w' ⟨rfl, hbl⟩; obtain ⟨hcw, hfw, hsw⟩ := below_ifs hbl; (try simp only [World.size_alloc, World.size_setCell, World.size_drew, size_drewN_] at hcw hfw hsw)) | (go_at_call 63; (with_reducible refine (cx _).mono ?_); rintro e w' ⟨rfl, hbl⟩; obtain ⟨hcw, hfw, hsw⟩ := below_ifs hbl; (try simp only [World.size_alloc, World.size_setCell, World.size_drew, size_drewN_] at hcw hfw hsw)) | (go_at_call 11; (with_reducible refine (rclear_any _ _ _ _).mono ?_); rintro e w' ⟨rfl, hbl⟩; obtain ⟨hcw, hfw, hsw⟩ := below_ifs hbl; (try simp only [World.size_alloc, World.size_setCell, World.size_drew, size_drewN_] at hcw hfw hsw)))
        refine ret_c Try.results28 rfl rfl Try.underlying25 rfl (by kernel_rfl) (by (repeat (first | with_reducible exact Below.refl _ _ | with_reducible assumption | with_reducible refine below_drewN ?_ _ | with_reducible refine Below.drew ?_ | with_reducible refine below_alloc ?_ _ | (with_reducible refine Below.setCell ?_ (by first | (simp; done) | omega | (simp; omega)) _) | with_reducible refine belows ?_ (by assumption)))) ?_
        (first | (first | (go_simp; done) | (go_simp; (simp [↓IntWalk.iteOmega]; done)) | (go_simp; intros; omega) | (go_simp; simp [↓IntWalk.iteOmega]; intros; omega)) | (go_simp; simp [*]) | (simp [*]))

set_option maxHeartbeats 4000000 in
set_option maxRecDepth 100000 in
theorem runseal_any (g h : Bool) (m a n b : BitVec 64) (w : World) : Calls Try.prog 30 #[.agg #[.bool g, .int .u64 (U m), .int .u64 (U a)], .agg #[.bool h, .int .u64 (U n), .int .u64 (U b)]] w fun r w' => r = .returned (.agg #[.bool (unsealF g h m a n b && g), .int .u64 (U (tyIf (unsealF g h m a n b) m 0#64)), .int .u64 (U a)]) ∧ Below w.heap.size w w' := by
  have cl : ∀ w : World, Calls Try.prog 60 #[.agg #[.bool g, .int .u64 (U m), .int .u64 (U a)]] w fun r w' => r = .returned (.bool (g && rtF m a)) ∧ Below w.heap.size w w' := fun w => rlives_any g m a w
  have cx : ∀ w : World, Calls Try.prog 63 #[.agg #[.bool h, .int .u64 (U n), .int .u64 (U b)], .int .u64 64] w fun r w' => r = .returned (.bool (hasF h n b 64#64)) ∧ Below w.heap.size w w' := fun w => rmay6_any h n b 64#64 w
  have ct : ∀ w : World, Calls Try.prog 64 #[.agg #[.bool g, .int .u64 (U m), .int .u64 (U a)], .int .u64 0] w fun r w' => r = .returned (.agg #[.bool true, .int .u64 (U (tyM m 0#64)), .int .u64 (U a)]) ∧ Below w.heap.size w w' := fun w => rtyped_any g m a 0#64 (by decide) w
  have hg : (g && rtF m a) = true → g = true := by intro e; simp at e; exact e.1
  have hz : (b == mY m) = !(b != mY m) := by unfold bne; rw [Bool.not_not]
  unfold unsealF
  rw [lt_16, hz]
  clear hz
  generalize hasF h n b 64#64 = x at cx ⊢
  generalize (g && rtF m a) = l at cl hg ⊢
  cases l
  · clear hg
    go_enter Try.func30, Try.ntmps30
    go_wp2_with fail
    refine wp_region_below (by kernel_rfl) (by kernel_rfl) (fun hcr hfr => ?_)
    (try simp only [World.size_alloc, World.size_setCell, World.size_drew, size_drewN_] at hcr hfr)
    repeat (go_big_quiet_step ((first | (go_at_call 60; first | with_reducible exact Calls.regrown_of (cl _) | with_reducible exact regrown_k (cl _) | with_reducible exact regrown_1 (cl _) | with_reducible exact regrown_a (cl _)) | (go_at_call 63; first | with_reducible exact Calls.regrown_of (cx _) | with_reducible exact regrown_k (cx _) | with_reducible exact regrown_1 (cx _) | with_reducible exact regrown_a (cx _)) | (go_at_call 65; first | with_reducible exact Calls.regrown_of (rkind_any _ _ _ _) | with_reducible exact regrown_k (rkind_any _ _ _ _) | with_reducible exact regrown_1 (rkind_any _ _ _ _) | with_reducible exact regrown_a (rkind_any _ _ _ _)))))
    refine wpQuiet_nil ?_
    intro w' hbl
    clear hcr hfr
    obtain ⟨hcw, hfw, hsw⟩ := below_ifs hbl; (try simp only [World.size_alloc, World.size_setCell, World.size_drew, size_drewN_] at hcw hfw hsw)
    go_wp2_with (first | (go_at_call 11; (with_reducible refine (rclear_any _ _ _ _).mono ?_); rintro e w' ⟨rfl, hbl⟩; obtain ⟨hcw, hfw, hsw⟩ := below_ifs hbl; (try simp only [World.size_alloc, World.size_setCell, World.size_drew, size_drewN_] at hcw hfw hsw)) | (go_at_call 64; (with_reducible refine (ct _).mono ?_); rintro e w' ⟨rfl, hbl⟩; obtain ⟨hcw, hfw, hsw⟩ := below_ifs hbl; (try simp only [World.size_alloc, World.size_setCell, World.size_drew, size_drewN_] at hcw hfw hsw)))
    refine ret_c Try.results30 rfl rfl Try.underlying25 rfl (by kernel_rfl) (by (repeat (first | with_reducible exact Below.refl _ _ | with_reducible assumption | with_reducible refine below_drewN ?_ _ | with_reducible refine Below.drew ?_ | with_reducible refine below_alloc ?_ _ | (with_reducible refine Below.setCell ?_ (by first | (simp; done) | omega | (simp; omega)) _) | with_reducible refine belows ?_ (by assumption)))) ?_
    (first | (first | (go_simp; done) | (go_simp; (simp [↓IntWalk.iteOmega]; done)) | (go_simp; intros; omega) | (go_simp; simp [↓IntWalk.iteOmega]; intros; omega)) | (go_simp; simp [*]) | (simp [*]))
  · obtain rfl := hg rfl
    clear hg
    cases h3 : decide (U (mY m) < 16)
    · cases x
      · go_enter Try.func30, Try.ntmps30
        go_wp2_with fail
        refine wp_region_below (by kernel_rfl) (by kernel_rfl) (fun hcr hfr => ?_)
        (try simp only [World.size_alloc, World.size_setCell, World.size_drew, size_drewN_] at hcr hfr)
        repeat (go_big_quiet_step ((first | (go_at_call 60; first | with_reducible exact Calls.regrown_of (cl _) | with_reducible exact regrown_k (cl _) | with_reducible exact regrown_1 (cl _) | with_reducible exact regrown_a (cl _)) | (go_at_call 63; first | with_reducible exact Calls.regrown_of (cx _) | with_reducible exact regrown_k (cx _) | with_reducible exact regrown_1 (cx _) | with_reducible exact regrown_a (cx _)) | (go_at_call 65; first | with_reducible exact Calls.regrown_of (rkind_any _ _ _ _) | with_reducible exact regrown_k (rkind_any _ _ _ _) | with_reducible exact regrown_1 (rkind_any _ _ _ _) | with_reducible exact regrown_a (rkind_any _ _ _ _)))))
        refine wpQuiet_nil ?_
        intro w' hbl
        clear hcr hfr
        obtain ⟨hcw, hfw, hsw⟩ := below_ifs hbl; (try simp only [World.size_alloc, World.size_setCell, World.size_drew, size_drewN_] at hcw hfw hsw)
        go_wp2_with (first | (go_at_call 11; (with_reducible refine (rclear_any _ _ _ _).mono ?_); rintro e w' ⟨rfl, hbl⟩; obtain ⟨hcw, hfw, hsw⟩ := below_ifs hbl; (try simp only [World.size_alloc, World.size_setCell, World.size_drew, size_drewN_] at hcw hfw hsw)) | (go_at_call 64; (with_reducible refine (ct _).mono ?_); rintro e w' ⟨rfl, hbl⟩; obtain ⟨hcw, hfw, hsw⟩ := below_ifs hbl; (try simp only [World.size_alloc, World.size_setCell, World.size_drew, size_drewN_] at hcw hfw hsw)))
        refine ret_c Try.results30 rfl rfl Try.underlying25 rfl (by kernel_rfl) (by (repeat (first | with_reducible exact Below.refl _ _ | with_reducible assumption | with_reducible refine below_drewN ?_ _ | with_reducible refine Below.drew ?_ | with_reducible refine below_alloc ?_ _ | (with_reducible refine Below.setCell ?_ (by first | (simp; done) | omega | (simp; omega)) _) | with_reducible refine belows ?_ (by assumption)))) ?_
        (first | (first | (go_simp; done) | (go_simp; (simp [↓IntWalk.iteOmega]; done)) | (go_simp; intros; omega) | (go_simp; simp [↓IntWalk.iteOmega]; intros; omega)) | (go_simp; simp [*]) | (simp [*]))
      · cases hz : (b != mY m)
        · go_enter Try.func30, Try.ntmps30
          go_wp2_with fail
          refine wp_region_below (by kernel_rfl) (by kernel_rfl) (fun hcr hfr => ?_)
          (try simp only [World.size_alloc, World.size_setCell, World.size_drew, size_drewN_] at hcr hfr)
          repeat (go_big_quiet_step ((first | (go_at_call 60; first | with_reducible exact Calls.regrown_of (cl _) | with_reducible exact regrown_k (cl _) | with_reducible exact regrown_1 (cl _) | with_reducible exact regrown_a (cl _)) | (go_at_call 63; first | with_reducible exact Calls.regrown_of (cx _) | with_reducible exact regrown_k (cx _) | with_reducible exact regrown_1 (cx _) | with_reducible exact regrown_a (cx _)) | (go_at_call 65; first | with_reducible exact Calls.regrown_of (rkind_any _ _ _ _) | with_reducible exact regrown_k (rkind_any _ _ _ _) | with_reducible exact regrown_1 (rkind_any _ _ _ _) | with_reducible exact regrown_a (rkind_any _ _ _ _)))))
          refine wpQuiet_nil ?_
          intro w' hbl
          clear hcr hfr
          obtain ⟨hcw, hfw, hsw⟩ := below_ifs hbl; (try simp only [World.size_alloc, World.size_setCell, World.size_drew, size_drewN_] at hcw hfw hsw)
          go_wp2_with (first | (go_at_call 11; (with_reducible refine (rclear_any _ _ _ _).mono ?_); rintro e w' ⟨rfl, hbl⟩; obtain ⟨hcw, hfw, hsw⟩ := below_ifs hbl; (try simp only [World.size_alloc, World.size_setCell, World.size_drew, size_drewN_] at hcw hfw hsw)) | (go_at_call 64; (with_reducible refine (ct _).mono ?_); rintro e w' ⟨rfl, hbl⟩; obtain ⟨hcw, hfw, hsw⟩ := below_ifs hbl; (try simp only [World.size_alloc, World.size_setCell, World.size_drew, size_drewN_] at hcw hfw hsw)))
          refine ret_c Try.results30 rfl rfl Try.underlying25 rfl (by kernel_rfl) (by (repeat (first | with_reducible exact Below.refl _ _ | with_reducible assumption | with_reducible refine below_drewN ?_ _ | with_reducible refine Below.drew ?_ | with_reducible refine below_alloc ?_ _ | (with_reducible refine Below.setCell ?_ (by first | (simp; done) | omega | (simp; omega)) _) | with_reducible refine belows ?_ (by assumption)))) ?_
          (first | (first | (go_simp; done) | (go_simp; (simp [↓IntWalk.iteOmega]; done)) | (go_simp; intros; omega) | (go_simp; simp [↓IntWalk.iteOmega]; intros; omega)) | (go_simp; simp [*]) | (simp [*]))
        · go_enter Try.func30, Try.ntmps30
          go_wp2_with fail
          refine wp_region_below (by kernel_rfl) (by kernel_rfl) (fun hcr hfr => ?_)
          (try simp only [World.size_alloc, World.size_setCell, World.size_drew, size_drewN_] at hcr hfr)
          repeat (go_big_quiet_step ((first | (go_at_call 60; first | with_reducible exact Calls.regrown_of (cl _) | with_reducible exact regrown_k (cl _) | with_reducible exact regrown_1 (cl _) | with_reducible exact regrown_a (cl _)) | (go_at_call 63; first | with_reducible exact Calls.regrown_of (cx _) | with_reducible exact regrown_k (cx _) | with_reducible exact regrown_1 (cx _) | with_reducible exact regrown_a (cx _)) | (go_at_call 65; first | with_reducible exact Calls.regrown_of (rkind_any _ _ _ _) | with_reducible exact regrown_k (rkind_any _ _ _ _) | with_reducible exact regrown_1 (rkind_any _ _ _ _) | with_reducible exact regrown_a (rkind_any _ _ _ _)))))
          refine wpQuiet_nil ?_
          intro w' hbl
          clear hcr hfr
          obtain ⟨hcw, hfw, hsw⟩ := below_ifs hbl; (try simp only [World.size_alloc, World.size_setCell, World.size_drew, size_drewN_] at hcw hfw hsw)
          go_wp2_with (first | (go_at_call 11; (with_reducible refine (rclear_any _ _ _ _).mono ?_); rintro e w' ⟨rfl, hbl⟩; obtain ⟨hcw, hfw, hsw⟩ := below_ifs hbl; (try simp only [World.size_alloc, World.size_setCell, World.size_drew, size_drewN_] at hcw hfw hsw)) | (go_at_call 64; (with_reducible refine (ct _).mono ?_); rintro e w' ⟨rfl, hbl⟩; obtain ⟨hcw, hfw, hsw⟩ := below_ifs hbl; (try simp only [World.size_alloc, World.size_setCell, World.size_drew, size_drewN_] at hcw hfw hsw)))
          refine ret_c Try.results30 rfl rfl Try.underlying25 rfl (by kernel_rfl) (by (repeat (first | with_reducible exact Below.refl _ _ | with_reducible assumption | with_reducible refine below_drewN ?_ _ | with_reducible refine Below.drew ?_ | with_reducible refine below_alloc ?_ _ | (with_reducible refine Below.setCell ?_ (by first | (simp; done) | omega | (simp; omega)) _) | with_reducible refine belows ?_ (by assumption)))) ?_
          (first | (first | (go_simp; done) | (go_simp; (simp [↓IntWalk.iteOmega]; done)) | (go_simp; intros; omega) | (go_simp; simp [↓IntWalk.iteOmega]; intros; omega)) | (go_simp; simp [*]) | (simp [*]))
    · go_enter Try.func30, Try.ntmps30
      go_wp2_with fail
      refine wp_region_below (by kernel_rfl) (by kernel_rfl) (fun hcr hfr => ?_)
      (try simp only [World.size_alloc, World.size_setCell, World.size_drew, size_drewN_] at hcr hfr)
      repeat (go_big_quiet_step ((first | (go_at_call 60; first | with_reducible exact Calls.regrown_of (cl _) | with_reducible exact regrown_k (cl _) | with_reducible exact regrown_1 (cl _) | with_reducible exact regrown_a (cl _)) | (go_at_call 63; first | with_reducible exact Calls.regrown_of (cx _) | with_reducible exact regrown_k (cx _) | with_reducible exact regrown_1 (cx _) | with_reducible exact regrown_a (cx _)) | (go_at_call 65; first | with_reducible exact Calls.regrown_of (rkind_any _ _ _ _) | with_reducible exact regrown_k (rkind_any _ _ _ _) | with_reducible exact regrown_1 (rkind_any _ _ _ _) | with_reducible exact regrown_a (rkind_any _ _ _ _)))))
      refine wpQuiet_nil ?_
      intro w' hbl
      clear hcr hfr
      obtain ⟨hcw, hfw, hsw⟩ := below_ifs hbl; (try simp only [World.size_alloc, World.size_setCell, World.size_drew, size_drewN_] at hcw hfw hsw)
      go_wp2_with (first | (go_at_call 11; (with_reducible refine (rclear_any _ _ _ _).mono ?_); rintro e w' ⟨rfl, hbl⟩; obtain ⟨hcw, hfw, hsw⟩ := below_ifs hbl; (try simp only [World.size_alloc, World.size_setCell, World.size_drew, size_drewN_] at hcw hfw hsw)) | (go_at_call 64; (with_reducible refine (ct _).mono ?_); rintro e w' ⟨rfl, hbl⟩; obtain ⟨hcw, hfw, hsw⟩ := below_ifs hbl; (try simp only [World.size_alloc, World.size_setCell, World.size_drew, size_drewN_] at hcw hfw hsw)))
      refine ret_c Try.results30 rfl rfl Try.underlying25 rfl (by kernel_rfl) (by (repeat (first | with_reducible exact Below.refl _ _ | with_reducible assumption | with_reducible refine below_drewN ?_ _ | with_reducible refine Below.drew ?_ | with_reducible refine below_alloc ?_ _ | (with_reducible refine Below.setCell ?_ (by first | (simp; done) | omega | (simp; omega)) _) | with_reducible refine belows ?_ (by assumption)))) ?_
      (first | (first | (go_simp; done) | (go_simp; (simp [↓IntWalk.iteOmega]; done)) | (go_simp; intros; omega) | (go_simp; simp [↓IntWalk.iteOmega]; intros; omega)) | (go_simp; simp [*]) | (simp [*]))

set_option maxHeartbeats 4000000 in
set_option maxRecDepth 100000 in
theorem renter_any (g : Bool) (m a : BitVec 64) (w : World) : Calls Try.prog 32 #[.agg #[.bool g, .int .u64 (U m), .int .u64 (U a)]] w fun r w' => r = .returned (.agg #[.bool (enterF g m a && g), .int .u64 (U (tyIf (enterF g m a) m 1#64)), .int .u64 (U a)]) ∧ Below w.heap.size w w' := by
  have co : ∀ w : World, Calls Try.prog 42 #[.agg #[.bool g, .int .u64 (U m), .int .u64 (U a)]] w fun r w' => r = .returned (.bool (opF g m a)) ∧ Below w.heap.size w w' := fun w => risopen_any g m a w
  have ct : ∀ w : World, Calls Try.prog 64 #[.agg #[.bool g, .int .u64 (U m), .int .u64 (U a)], .int .u64 1] w fun r w' => r = .returned (.agg #[.bool true, .int .u64 (U (tyM m 1#64)), .int .u64 (U a)]) ∧ Below w.heap.size w w' := fun w => rtyped_any g m a 1#64 (by decide) w
  have hg : opF g m a = true → g = true := opF_tag
  unfold enterF
  rw [four_in]
  generalize opF g m a = o at co hg ⊢
  cases o
  · clear hg
    go_enter Try.func32, Try.ntmps32
    go_wp2_with (first | (go_at_call 42; (with_reducible refine (co _).mono ?_); rintro e w' ⟨rfl, hbl⟩; obtain ⟨hcw, hfw, hsw⟩ := below_ifs hbl; (try simp only [World.size_alloc, World.size_setCell, World.size_drew, size_drewN_] at hcw hfw hsw)) | (go_at_call 48; (with_reducible refine (rperms_any _ _ _ _).mono ?_); rintro e w' ⟨rfl, hbl⟩; obtain ⟨hcw, hfw, hsw⟩ := below_ifs hbl; (try simp only [World.size_alloc, World.size_setCell, World.size_drew, size_drewN_] at hcw hfw hsw)) | (go_at_call 11; (with_reducible refine (rclear_any _ _ _ _).mono ?_); rintro e w' ⟨rfl, hbl⟩; obtain ⟨hcw, hfw, hsw⟩ := below_ifs hbl; (try simp only [World.size_alloc, World.size_setCell, World.size_drew, size_drewN_] at hcw hfw hsw)) | (go_at_call 64; (with_reducible refine (ct _).mono ?_); rintro e w' ⟨rfl, hbl⟩; obtain ⟨hcw, hfw, hsw⟩ := below_ifs hbl; (try simp only [World.size_alloc, World.size_setCell, World.size_drew, size_drewN_] at hcw hfw hsw)))
    refine ret_c Try.results32 rfl rfl Try.underlying25 rfl (by kernel_rfl) (by (repeat (first | with_reducible exact Below.refl _ _ | with_reducible assumption | with_reducible refine below_drewN ?_ _ | with_reducible refine Below.drew ?_ | with_reducible refine below_alloc ?_ _ | (with_reducible refine Below.setCell ?_ (by first | (simp; done) | omega | (simp; omega)) _) | with_reducible refine belows ?_ (by assumption)))) ?_
    (first | (first | (go_simp; done) | (go_simp; (simp [↓IntWalk.iteOmega]; done)) | (go_simp; intros; omega) | (go_simp; simp [↓IntWalk.iteOmega]; intros; omega)) | (go_simp; simp [*]) | (simp [*]))
  · obtain rfl := hg rfl
    clear hg
    cases hz : (mP m &&& 4#64 == 0#64)
    · go_enter Try.func32, Try.ntmps32
      go_wp2_with (first | (go_at_call 42; (with_reducible refine (co _).mono ?_); rintro e w' ⟨rfl, hbl⟩; obtain ⟨hcw, hfw, hsw⟩ := below_ifs hbl; (try simp only [World.size_alloc, World.size_setCell, World.size_drew, size_drewN_] at hcw hfw hsw)) | (go_at_call 48; (with_reducible refine (rperms_any _ _ _ _).mono ?_); rintro e w' ⟨rfl, hbl⟩; obtain ⟨hcw, hfw, hsw⟩ := below_ifs hbl; (try simp only [World.size_alloc, World.size_setCell, World.size_drew, size_drewN_] at hcw hfw hsw)) | (go_at_call 11; (with_reducible refine (rclear_any _ _ _ _).mono ?_); rintro e w' ⟨rfl, hbl⟩; obtain ⟨hcw, hfw, hsw⟩ := below_ifs hbl; (try simp only [World.size_alloc, World.size_setCell, World.size_drew, size_drewN_] at hcw hfw hsw)) | (go_at_call 64; (with_reducible refine (ct _).mono ?_); rintro e w' ⟨rfl, hbl⟩; obtain ⟨hcw, hfw, hsw⟩ := below_ifs hbl; (try simp only [World.size_alloc, World.size_setCell, World.size_drew, size_drewN_] at hcw hfw hsw)))
      refine ret_c Try.results32 rfl rfl Try.underlying25 rfl (by kernel_rfl) (by (repeat (first | with_reducible exact Below.refl _ _ | with_reducible assumption | with_reducible refine below_drewN ?_ _ | with_reducible refine Below.drew ?_ | with_reducible refine below_alloc ?_ _ | (with_reducible refine Below.setCell ?_ (by first | (simp; done) | omega | (simp; omega)) _) | with_reducible refine belows ?_ (by assumption)))) ?_
      (first | (first | (go_simp; done) | (go_simp; (simp [↓IntWalk.iteOmega]; done)) | (go_simp; intros; omega) | (go_simp; simp [↓IntWalk.iteOmega]; intros; omega)) | (go_simp; simp [*]) | (simp [*]))
    · go_enter Try.func32, Try.ntmps32
      go_wp2_with (first | (go_at_call 42; (with_reducible refine (co _).mono ?_); rintro e w' ⟨rfl, hbl⟩; obtain ⟨hcw, hfw, hsw⟩ := below_ifs hbl; (try simp only [World.size_alloc, World.size_setCell, World.size_drew, size_drewN_] at hcw hfw hsw)) | (go_at_call 48; (with_reducible refine (rperms_any _ _ _ _).mono ?_); rintro e w' ⟨rfl, hbl⟩; obtain ⟨hcw, hfw, hsw⟩ := below_ifs hbl; (try simp only [World.size_alloc, World.size_setCell, World.size_drew, size_drewN_] at hcw hfw hsw)) | (go_at_call 11; (with_reducible refine (rclear_any _ _ _ _).mono ?_); rintro e w' ⟨rfl, hbl⟩; obtain ⟨hcw, hfw, hsw⟩ := below_ifs hbl; (try simp only [World.size_alloc, World.size_setCell, World.size_drew, size_drewN_] at hcw hfw hsw)) | (go_at_call 64; (with_reducible refine (ct _).mono ?_); rintro e w' ⟨rfl, hbl⟩; obtain ⟨hcw, hfw, hsw⟩ := below_ifs hbl; (try simp only [World.size_alloc, World.size_setCell, World.size_drew, size_drewN_] at hcw hfw hsw)))
      refine ret_c Try.results32 rfl rfl Try.underlying25 rfl (by kernel_rfl) (by (repeat (first | with_reducible exact Below.refl _ _ | with_reducible assumption | with_reducible refine below_drewN ?_ _ | with_reducible refine Below.drew ?_ | with_reducible refine below_alloc ?_ _ | (with_reducible refine Below.setCell ?_ (by first | (simp; done) | omega | (simp; omega)) _) | with_reducible refine belows ?_ (by assumption)))) ?_
      (first | (first | (go_simp; done) | (go_simp; (simp [↓IntWalk.iteOmega]; done)) | (go_simp; intros; omega) | (go_simp; simp [↓IntWalk.iteOmega]; intros; omega)) | (go_simp; simp [*]) | (simp [*]))

set_option maxHeartbeats 4000000 in
set_option maxRecDepth 100000 in
theorem ropen_any (g : Bool) (m a : BitVec 64) (w : World) : Calls Try.prog 34 #[.agg #[.bool g, .int .u64 (U m), .int .u64 (U a)]] w fun r w' => r = .returned (.agg #[.bool g, .int .u64 (U (tyIf (sentF g m a) m 0#64)), .int .u64 (U a)]) ∧ Below w.heap.size w w' := by
  have cl : ∀ w : World, Calls Try.prog 60 #[.agg #[.bool g, .int .u64 (U m), .int .u64 (U a)]] w fun r w' => r = .returned (.bool (g && rtF m a)) ∧ Below w.heap.size w w' := fun w => rlives_any g m a w
  have ct : ∀ w : World, Calls Try.prog 64 #[.agg #[.bool g, .int .u64 (U m), .int .u64 (U a)], .int .u64 0] w fun r w' => r = .returned (.agg #[.bool true, .int .u64 (U (tyM m 0#64)), .int .u64 (U a)]) ∧ Below w.heap.size w w' := fun w => rtyped_any g m a 0#64 (by decide) w
  have hg : (g && rtF m a) = true → g = true := by intro e; simp at e; exact e.1
  unfold sentF
  generalize (g && rtF m a) = l at cl hg ⊢
  cases l
  · clear hg
    go_enter Try.func34, Try.ntmps34
    go_wp2_with (first | (go_at_call 60; (with_reducible refine (cl _).mono ?_); rintro e w' ⟨rfl, hbl⟩; obtain ⟨hcw, hfw, hsw⟩ := below_ifs hbl; (try simp only [World.size_alloc, World.size_setCell, World.size_drew, size_drewN_] at hcw hfw hsw)) | (go_at_call 65; (with_reducible refine (rkind_any _ _ _ _).mono ?_); rintro e w' ⟨rfl, hbl⟩; obtain ⟨hcw, hfw, hsw⟩ := below_ifs hbl; (try simp only [World.size_alloc, World.size_setCell, World.size_drew, size_drewN_] at hcw hfw hsw)) | (go_at_call 64; (with_reducible refine (ct _).mono ?_); rintro e w' ⟨rfl, hbl⟩; obtain ⟨hcw, hfw, hsw⟩ := below_ifs hbl; (try simp only [World.size_alloc, World.size_setCell, World.size_drew, size_drewN_] at hcw hfw hsw)))
    refine ret_c Try.results34 rfl rfl Try.underlying25 rfl (by kernel_rfl) (by (repeat (first | with_reducible exact Below.refl _ _ | with_reducible assumption | with_reducible refine below_drewN ?_ _ | with_reducible refine Below.drew ?_ | with_reducible refine below_alloc ?_ _ | (with_reducible refine Below.setCell ?_ (by first | (simp; done) | omega | (simp; omega)) _) | with_reducible refine belows ?_ (by assumption)))) ?_
    (first | (first | (go_simp; done) | (go_simp; (simp [↓IntWalk.iteOmega]; done)) | (go_simp; intros; omega) | (go_simp; simp [↓IntWalk.iteOmega]; intros; omega)) | (go_simp; simp [*]) | (simp [*]))
  · obtain rfl := hg rfl
    clear hg
    cases hz : (mY m == 1#64)
    · go_enter Try.func34, Try.ntmps34
      go_wp2_with (first | (go_at_call 60; (with_reducible refine (cl _).mono ?_); rintro e w' ⟨rfl, hbl⟩; obtain ⟨hcw, hfw, hsw⟩ := below_ifs hbl; (try simp only [World.size_alloc, World.size_setCell, World.size_drew, size_drewN_] at hcw hfw hsw)) | (go_at_call 65; (with_reducible refine (rkind_any _ _ _ _).mono ?_); rintro e w' ⟨rfl, hbl⟩; obtain ⟨hcw, hfw, hsw⟩ := below_ifs hbl; (try simp only [World.size_alloc, World.size_setCell, World.size_drew, size_drewN_] at hcw hfw hsw)) | (go_at_call 64; (with_reducible refine (ct _).mono ?_); rintro e w' ⟨rfl, hbl⟩; obtain ⟨hcw, hfw, hsw⟩ := below_ifs hbl; (try simp only [World.size_alloc, World.size_setCell, World.size_drew, size_drewN_] at hcw hfw hsw)))
      refine ret_c Try.results34 rfl rfl Try.underlying25 rfl (by kernel_rfl) (by (repeat (first | with_reducible exact Below.refl _ _ | with_reducible assumption | with_reducible refine below_drewN ?_ _ | with_reducible refine Below.drew ?_ | with_reducible refine below_alloc ?_ _ | (with_reducible refine Below.setCell ?_ (by first | (simp; done) | omega | (simp; omega)) _) | with_reducible refine belows ?_ (by assumption)))) ?_
      (first | (first | (go_simp; done) | (go_simp; (simp [↓IntWalk.iteOmega]; done)) | (go_simp; intros; omega) | (go_simp; simp [↓IntWalk.iteOmega]; intros; omega)) | (go_simp; simp [*]) | (simp [*]))
    · go_enter Try.func34, Try.ntmps34
      go_wp2_with (first | (go_at_call 60; (with_reducible refine (cl _).mono ?_); rintro e w' ⟨rfl, hbl⟩; obtain ⟨hcw, hfw, hsw⟩ := below_ifs hbl; (try simp only [World.size_alloc, World.size_setCell, World.size_drew, size_drewN_] at hcw hfw hsw)) | (go_at_call 65; (with_reducible refine (rkind_any _ _ _ _).mono ?_); rintro e w' ⟨rfl, hbl⟩; obtain ⟨hcw, hfw, hsw⟩ := below_ifs hbl; (try simp only [World.size_alloc, World.size_setCell, World.size_drew, size_drewN_] at hcw hfw hsw)) | (go_at_call 64; (with_reducible refine (ct _).mono ?_); rintro e w' ⟨rfl, hbl⟩; obtain ⟨hcw, hfw, hsw⟩ := below_ifs hbl; (try simp only [World.size_alloc, World.size_setCell, World.size_drew, size_drewN_] at hcw hfw hsw)))
      refine ret_c Try.results34 rfl rfl Try.underlying25 rfl (by kernel_rfl) (by (repeat (first | with_reducible exact Below.refl _ _ | with_reducible assumption | with_reducible refine below_drewN ?_ _ | with_reducible refine Below.drew ?_ | with_reducible refine below_alloc ?_ _ | (with_reducible refine Below.setCell ?_ (by first | (simp; done) | omega | (simp; omega)) _) | with_reducible refine belows ?_ (by assumption)))) ?_
      (first | (first | (go_simp; done) | (go_simp; (simp [↓IntWalk.iteOmega]; done)) | (go_simp; intros; omega) | (go_simp; simp [↓IntWalk.iteOmega]; intros; omega)) | (go_simp; simp [*]) | (simp [*]))

set_option maxHeartbeats 4000000 in
set_option maxRecDepth 100000 in
theorem rbuild_any (g h : Bool) (m a n b : BitVec 64) (w : World) : Calls Try.prog 36 #[.agg #[.bool g, .int .u64 (U m), .int .u64 (U a)], .agg #[.bool h, .int .u64 (U n), .int .u64 (U b)]] w fun r w' => r = .returned (.agg #[.bool (buildF h m a n b), .int .u64 (U m), .int .u64 (U a)]) ∧ Below w.heap.size w w' := by
  have co : ∀ w : World, Calls Try.prog 42 #[.agg #[.bool h, .int .u64 (U n), .int .u64 (U b)]] w fun r w' => r = .returned (.bool (opF h n b)) ∧ Below w.heap.size w w' := fun w => risopen_any h n b w
  have cw : ∀ w : World, Calls Try.prog 66 #[.agg #[.bool g, .int .u64 (U m), .int .u64 (U a)], .agg #[.bool h, .int .u64 (U n), .int .u64 (U b)]] w fun r w' => r = .returned (.bool (withinF m a n b)) ∧ Below w.heap.size w w' := fun w => rwithin_any g h m a n b w
  unfold buildF
  rw [lt_2]
  generalize opF h n b = o at co ⊢
  generalize withinF m a n b = k at cw ⊢
  cases o
  all_goals try cases k
  all_goals
    go_enter Try.func36, Try.ntmps36
    go_wp2_with (first | (go_at_call 42; (with_reducible refine (co _).mono ?_); rintro e w' ⟨rfl, hbl⟩; obtain ⟨hcw, hfw, hsw⟩ := below_ifs hbl; (try simp only [World.size_alloc, World.size_setCell, World.size_drew, size_drewN_] at hcw hfw hsw)) | (go_at_call 66; (with_reducible refine (cw _).mono ?_); rintro e w' ⟨rfl, hbl⟩; obtain ⟨hcw, hfw, hsw⟩ := below_ifs hbl; (try simp only [World.size_alloc, World.size_setCell, World.size_drew, size_drewN_] at hcw hfw hsw)) | (go_at_call 65; (with_reducible refine (rkind_any _ _ _ _).mono ?_); rintro e w' ⟨rfl, hbl⟩; obtain ⟨hcw, hfw, hsw⟩ := below_ifs hbl; (try simp only [World.size_alloc, World.size_setCell, World.size_drew, size_drewN_] at hcw hfw hsw)) | (go_at_call 11; (with_reducible refine (rclear_any _ _ _ _).mono ?_); rintro e w' ⟨rfl, hbl⟩; obtain ⟨hcw, hfw, hsw⟩ := below_ifs hbl; (try simp only [World.size_alloc, World.size_setCell, World.size_drew, size_drewN_] at hcw hfw hsw)))
    refine ret_c Try.results36 rfl rfl Try.underlying25 rfl (by kernel_rfl) (by (repeat (first | with_reducible exact Below.refl _ _ | with_reducible assumption | with_reducible refine below_drewN ?_ _ | with_reducible refine Below.drew ?_ | with_reducible refine below_alloc ?_ _ | (with_reducible refine Below.setCell ?_ (by first | (simp; done) | omega | (simp; omega)) _) | with_reducible refine belows ?_ (by assumption)))) ?_
    (first | (first | (go_simp; done) | (go_simp; (simp [↓IntWalk.iteOmega]; done)) | (go_simp; intros; omega) | (go_simp; simp [↓IntWalk.iteOmega]; intros; omega)) | (go_simp; simp [*]) | (simp [*]))

end Go.Proofs.Ytpinjngmlelleaa
