
/-
  The document's answer for bounds.
-/
import Derived.Test.YtpinjngmlelleaaRefAlgS
import Derived.Test.YtpinjngmlelleaaAlgebraC
namespace Go.Proofs.Ytpinjngmlelleaa
open Go Go.RowKit
set_option linter.unusedVariables false
set_option linter.unusedSimpArgs false


attribute [local irreducible] U

set_option maxHeartbeats 4000000 in
set_option maxRecDepth 100000 in
theorem rbound_A (g x : Bool) (m a n : BitVec 64) (h1 : decide (281474976710656 ≤ U a) = true) (w : World) : Calls Try.prog 16 #[.agg #[.bool g, .int .u64 (U m), .int .u64 (U a)], .int .u64 (U n), .bool x] w fun r w' => r = .returned (.agg #[.bool false, .int .u64 (U m), .int .u64 (U a)]) ∧ Below w.heap.size w w' := by
  go_enter Try.func16, Try.ntmps16
  go_wp2_with (first | (go_at_call 41; (with_reducible refine (rlook_any _ _ _ _).mono ?_); rintro e w' ⟨rfl, hbl⟩; obtain ⟨hcw, hfw, hsw⟩ := below_ifs hbl; (try simp only [World.size_alloc, World.size_setCell, World.size_drew, size_drewN_] at hcw hfw hsw)) | (go_at_call 11; (with_reducible refine (rclear_any _ _ _ _).mono ?_); rintro e w' ⟨rfl, hbl⟩; obtain ⟨hcw, hfw, hsw⟩ := below_ifs hbl; (try simp only [World.size_alloc, World.size_setCell, World.size_drew, size_drewN_] at hcw hfw hsw)))
  refine ret_c Try.results16 rfl rfl Try.underlying25 rfl (by kernel_rfl) (by (repeat (first | with_reducible exact Below.refl _ _ | with_reducible assumption | with_reducible refine below_drewN ?_ _ | with_reducible refine Below.drew ?_ | with_reducible refine below_alloc ?_ _ | (with_reducible refine Below.setCell ?_ (by first | (simp; done) | omega | (simp; omega)) _) | with_reducible refine belows ?_ (by assumption)))) ?_
  (first | (first | (go_simp; done) | (go_simp; (simp [↓IntWalk.iteOmega]; done)) | (go_simp; intros; omega) | (go_simp; simp [↓IntWalk.iteOmega]; intros; omega)) | (go_simp; simp [*]) | (simp [*]))

set_option maxHeartbeats 4000000 in
set_option maxRecDepth 100000 in
theorem rbound_B (g x : Bool) (m a n : BitVec 64) (h1 : decide (281474976710656 ≤ U a) = false) (h2 : decide (U (281474976710656#64 - a) < U n) = true) (w : World) : Calls Try.prog 16 #[.agg #[.bool g, .int .u64 (U m), .int .u64 (U a)], .int .u64 (U n), .bool x] w fun r w' => r = .returned (.agg #[.bool false, .int .u64 (U m), .int .u64 (U a)]) ∧ Below w.heap.size w w' := by
  go_enter Try.func16, Try.ntmps16
  go_wp2_with (first | (go_at_call 41; (with_reducible refine (rlook_any _ _ _ _).mono ?_); rintro e w' ⟨rfl, hbl⟩; obtain ⟨hcw, hfw, hsw⟩ := below_ifs hbl; (try simp only [World.size_alloc, World.size_setCell, World.size_drew, size_drewN_] at hcw hfw hsw)) | (go_at_call 11; (with_reducible refine (rclear_any _ _ _ _).mono ?_); rintro e w' ⟨rfl, hbl⟩; obtain ⟨hcw, hfw, hsw⟩ := below_ifs hbl; (try simp only [World.size_alloc, World.size_setCell, World.size_drew, size_drewN_] at hcw hfw hsw)))
  refine ret_c Try.results16 rfl rfl Try.underlying25 rfl (by kernel_rfl) (by (repeat (first | with_reducible exact Below.refl _ _ | with_reducible assumption | with_reducible refine below_drewN ?_ _ | with_reducible refine Below.drew ?_ | with_reducible refine below_alloc ?_ _ | (with_reducible refine Below.setCell ?_ (by first | (simp; done) | omega | (simp; omega)) _) | with_reducible refine belows ?_ (by assumption)))) ?_
  (first | (first | (go_simp; done) | (go_simp; (simp [↓IntWalk.iteOmega]; done)) | (go_simp; intros; omega) | (go_simp; simp [↓IntWalk.iteOmega]; intros; omega)) | (go_simp; simp [*]) | (simp [*]))

set_option maxHeartbeats 4000000 in
set_option maxRecDepth 100000 in
theorem rbound_C (g x : Bool) (m a n : BitVec 64) (h1 : decide (281474976710656 ≤ U a) = false) (h2 : decide (U (281474976710656#64 - a) < U n) = false) (kb kt km ka : BitVec 64) (cr : ∀ w : World, Calls Try.prog 46 #[.agg #[.int .u64 (U a), .int .u64 (U (a + n))]] w fun r w' => r = .returned (.tuple #[.agg #[.int .u64 (U kb), .int .u64 (U kt)], .bool true]) ∧ Below w.heap.size w w') (cm : ∀ w : World, Calls Try.prog 47 #[.agg #[.int .u64 (U kb), .int .u64 (U kt), .int .u64 (U (mP m)), .int .u64 (U (mY m))], .int .u64 (U a)] w fun r w' => r = .returned (.tuple #[.agg #[.bool false, .int .u64 (U km), .int .u64 (U ka)], .bool false]) ∧ Below w.heap.size w w') (w : World) : Calls Try.prog 16 #[.agg #[.bool g, .int .u64 (U m), .int .u64 (U a)], .int .u64 (U n), .bool x] w fun r w' => r = .returned (.agg #[.bool false, .int .u64 (U m), .int .u64 (U a)]) ∧ Below w.heap.size w w' := by
  go_enter Try.func16, Try.ntmps16
  go_wp2_with (first | (go_at_call 41; (with_reducible refine (rlook_any _ _ _ _).mono ?_); rintro e w' ⟨rfl, hbl⟩; obtain ⟨hcw, hfw, hsw⟩ := below_ifs hbl; (try simp only [World.size_alloc, World.size_setCell, World.size_drew, size_drewN_] at hcw hfw hsw)) | (go_at_call 11; (with_reducible refine (rclear_any _ _ _ _).mono ?_); rintro e w' ⟨rfl, hbl⟩; obtain ⟨hcw, hfw, hsw⟩ := below_ifs hbl; (try simp only [World.size_alloc, World.size_setCell, World.size_drew, size_drewN_] at hcw hfw hsw)) | (go_at_call 46; (with_reducible refine (cr _).mono ?_); rintro e w' ⟨rfl, hbl⟩; obtain ⟨hcw, hfw, hsw⟩ := below_ifs hbl; (try simp only [World.size_alloc, World.size_setCell, World.size_drew, size_drewN_] at hcw hfw hsw)) | (go_at_call 47; (with_reducible refine (cm _).mono ?_); rintro e w' ⟨rfl, hbl⟩; obtain ⟨hcw, hfw, hsw⟩ := below_ifs hbl; (try simp only [World.size_alloc, World.size_setCell, World.size_drew, size_drewN_] at hcw hfw hsw)))
  refine ret_c Try.results16 rfl rfl Try.underlying25 rfl (by kernel_rfl) (by (repeat (first | with_reducible exact Below.refl _ _ | with_reducible assumption | with_reducible refine below_drewN ?_ _ | with_reducible refine Below.drew ?_ | with_reducible refine below_alloc ?_ _ | (with_reducible refine Below.setCell ?_ (by first | (simp; done) | omega | (simp; omega)) _) | with_reducible refine belows ?_ (by assumption)))) ?_
  (first | (first | (go_simp; done) | (go_simp; (simp [↓IntWalk.iteOmega]; done)) | (go_simp; intros; omega) | (go_simp; simp [↓IntWalk.iteOmega]; intros; omega)) | (go_simp; simp [*]) | (simp [*]))

set_option maxHeartbeats 4000000 in
set_option maxRecDepth 100000 in
theorem rbound_D (g x : Bool) (m a n : BitVec 64) (h1 : decide (281474976710656 ≤ U a) = false) (h2 : decide (U (281474976710656#64 - a) < U n) = false) (o : Bool) (kb kt km ka : BitVec 64) (cr : ∀ w : World, Calls Try.prog 46 #[.agg #[.int .u64 (U a), .int .u64 (U (a + n))]] w fun r w' => r = .returned (.tuple #[.agg #[.int .u64 (U kb), .int .u64 (U kt)], .bool true]) ∧ Below w.heap.size w w') (cm : ∀ w : World, Calls Try.prog 47 #[.agg #[.int .u64 (U kb), .int .u64 (U kt), .int .u64 (U (mP m)), .int .u64 (U (mY m))], .int .u64 (U a)] w fun r w' => r = .returned (.tuple #[.agg #[.bool false, .int .u64 (U km), .int .u64 (U ka)], .bool true]) ∧ Below w.heap.size w w') (co : ∀ w : World, Calls Try.prog 42 #[.agg #[.bool g, .int .u64 (U m), .int .u64 (U a)]] w fun r w' => r = .returned (.bool o) ∧ Below w.heap.size w w') (w : World) : Calls Try.prog 16 #[.agg #[.bool g, .int .u64 (U m), .int .u64 (U a)], .int .u64 (U n), .bool x] w fun r w' => r = .returned (.agg #[.bool (o && (decide (U (lkB m a) ≤ U kb) && (decide (U kt ≤ U (lkT m a)) && (!x || (kb == a && kt == a + n))))), .int .u64 (U km), .int .u64 (U ka)]) ∧ Below w.heap.size w w' := by
  cases o
  all_goals try cases h3 : decide (U (lkB m a) ≤ U kb)
  all_goals try cases h4 : decide (U kt ≤ U (lkT m a))
  all_goals try cases x
  all_goals
    go_enter Try.func16, Try.ntmps16
    go_wp2_with (first | (go_at_call 41; (with_reducible refine (rlook_any _ _ _ _).mono ?_); rintro e w' ⟨rfl, hbl⟩; obtain ⟨hcw, hfw, hsw⟩ := below_ifs hbl; (try simp only [World.size_alloc, World.size_setCell, World.size_drew, size_drewN_] at hcw hfw hsw)) | (go_at_call 11; (with_reducible refine (rclear_any _ _ _ _).mono ?_); rintro e w' ⟨rfl, hbl⟩; obtain ⟨hcw, hfw, hsw⟩ := below_ifs hbl; (try simp only [World.size_alloc, World.size_setCell, World.size_drew, size_drewN_] at hcw hfw hsw)) | (go_at_call 46; (with_reducible refine (cr _).mono ?_); rintro e w' ⟨rfl, hbl⟩; obtain ⟨hcw, hfw, hsw⟩ := below_ifs hbl; (try simp only [World.size_alloc, World.size_setCell, World.size_drew, size_drewN_] at hcw hfw hsw)) | (go_at_call 47; (with_reducible refine (cm _).mono ?_); rintro e w' ⟨rfl, hbl⟩; obtain ⟨hcw, hfw, hsw⟩ := below_ifs hbl; (try simp only [World.size_alloc, World.size_setCell, World.size_drew, size_drewN_] at hcw hfw hsw)) | (go_at_call 42; (with_reducible refine (co _).mono ?_); rintro e w' ⟨rfl, hbl⟩; obtain ⟨hcw, hfw, hsw⟩ := below_ifs hbl; (try simp only [World.size_alloc, World.size_setCell, World.size_drew, size_drewN_] at hcw hfw hsw)))
    refine ret_c Try.results16 rfl rfl Try.underlying25 rfl (by kernel_rfl) (by (repeat (first | with_reducible exact Below.refl _ _ | with_reducible assumption | with_reducible refine below_drewN ?_ _ | with_reducible refine Below.drew ?_ | with_reducible refine below_alloc ?_ _ | (with_reducible refine Below.setCell ?_ (by first | (simp; done) | omega | (simp; omega)) _) | with_reducible refine belows ?_ (by assumption)))) ?_
    (first | (first | (go_simp; done) | (go_simp; (simp [↓IntWalk.iteOmega]; done)) | (go_simp; intros; omega) | (go_simp; simp [↓IntWalk.iteOmega]; intros; omega)) | (go_simp; simp [*]) | (simp [*]))

end Go.Proofs.Ytpinjngmlelleaa
