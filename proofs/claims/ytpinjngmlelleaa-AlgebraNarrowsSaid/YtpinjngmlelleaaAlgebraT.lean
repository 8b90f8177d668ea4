
/-
  What may be done with capabilities (algebra): what is told, what is wrong.
-/
import Derived.Test.YtpinjngmlelleaaAlgebraS
namespace Go.Proofs.Ytpinjngmlelleaa
open Go Go.RowKit
set_option linter.unusedVariables false
set_option linter.unusedSimpArgs false


theorem ends_base (b t : BitVec 64) (w : World) : Calls Try.prog 53 #[.agg #[.int .u64 (U b), .int .u64 (U t)]] w fun r w' => r = .returned (.int .u64 (U b)) ∧ Below w.heap.size w w' := by
  go_enter Try.func53, Try.ntmps53
  go_wp2_with fail
  go_ret
  exact ⟨rfl, by (repeat (first | with_reducible exact Below.refl _ _ | with_reducible assumption | with_reducible refine below_drewN ?_ _ | with_reducible refine Below.drew ?_ | with_reducible refine below_alloc ?_ _ | (with_reducible refine Below.setCell ?_ (by first | (simp; done) | omega | (simp; omega)) _) | with_reducible refine belows ?_ (by assumption)))⟩

theorem ends_top (b t : BitVec 64) (w : World) : Calls Try.prog 77 #[.agg #[.int .u64 (U b), .int .u64 (U t)]] w fun r w' => r = .returned (.int .u64 (U t)) ∧ Below w.heap.size w w' := by
  go_enter Try.func77, Try.ntmps77
  go_wp2_with fail
  go_ret
  exact ⟨rfl, by (repeat (first | with_reducible exact Below.refl _ _ | with_reducible assumption | with_reducible refine below_drewN ?_ _ | with_reducible refine Below.drew ?_ | with_reducible refine below_alloc ?_ _ | (with_reducible refine Below.setCell ?_ (by first | (simp; done) | omega | (simp; omega)) _) | with_reducible refine belows ?_ (by assumption)))⟩

theorem ends_length (b t : BitVec 64) (w : World) : Calls Try.prog 52 #[.agg #[.int .u64 (U b), .int .u64 (U t)]] w fun r w' => r = .returned (.int .u64 (U (t - b))) ∧ Below w.heap.size w w' := by
  go_enter Try.func52, Try.ntmps52
  go_wp2_with fail
  go_ret
  exact ⟨rfl, by (repeat (first | with_reducible exact Below.refl _ _ | with_reducible assumption | with_reducible refine below_drewN ?_ _ | with_reducible refine Below.drew ?_ | with_reducible refine below_alloc ?_ _ | (with_reducible refine Below.setCell ?_ (by first | (simp; done) | omega | (simp; omega)) _) | with_reducible refine belows ?_ (by assumption)))⟩

set_option maxHeartbeats 4000000 in
set_option maxRecDepth 100000 in
theorem told1_base (b t : BitVec 64) (c : Nat) (w : World) (hb : c < w.heap.size) (hc : w.cell? ⟨c, 0, none⟩ = some (.func (.func 53) #[] #[])) : Calls Try.prog 79 #[.agg #[.int .u64 (U b), .int .u64 (U t)], .pointer (some ⟨c, 0, none⟩)] w fun r w' => r = .returned (.int .u64 (U b)) ∧ Below w.heap.size w w' := by
  go_enter Try.func79, Try.ntmps79
  go_wp2_with (first | (go_at_call 53; (with_reducible refine (ends_base _ _ _).mono ?_); rintro e w' ⟨rfl, hbl⟩; obtain ⟨hcw, hfw, hsw⟩ := below_ifs hbl; (try simp only [World.size_alloc, World.size_setCell, World.size_drew, size_drewN_] at hcw hfw hsw)))
  go_ret
  exact ⟨rfl, by (repeat (first | with_reducible exact Below.refl _ _ | with_reducible assumption | with_reducible refine below_drewN ?_ _ | with_reducible refine Below.drew ?_ | with_reducible refine below_alloc ?_ _ | (with_reducible refine Below.setCell ?_ (by first | (simp; done) | omega | (simp; omega)) _) | with_reducible refine belows ?_ (by assumption)))⟩

set_option maxHeartbeats 4000000 in
set_option maxRecDepth 100000 in
theorem seen_base (g : Bool) (m a : BitVec 64) (c : Nat) (w : World) (hb : c < w.heap.size) (hc : w.cell? ⟨c, 0, none⟩ = some (.func (.func 53) #[] #[])) : Calls Try.prog 78 #[.agg #[.bool g, .int .u64 (U m), .int .u64 (U a)], .func (.func 79) #[] #[.pointer (some ⟨c, 0, none⟩)]] w fun r w' => r = .returned (.int .u64 (U (lkB m a))) ∧ Below w.heap.size w w' := by
  go_enter Try.func78, Try.ntmps78
  go_wp2_with (first | (go_at_call 24; (with_reducible refine (look_any _ _ _ _).mono ?_); rintro e w' ⟨rfl, hbl⟩; obtain ⟨hcw, hfw, hsw⟩ := below_ifs hbl; (try simp only [World.size_alloc, World.size_setCell, World.size_drew, size_drewN_] at hcw hfw hsw)) | (go_at_call 79; refine (told1_base _ _ c _ (by first | omega | (simp; omega)) (by (first | (go_simp; done) | (go_simp; (simp [↓IntWalk.iteOmega]; done)) | (go_simp; intros; omega) | (go_simp; simp [↓IntWalk.iteOmega]; intros; omega)))).mono ?_; rintro e' w' ⟨rfl, hbl⟩; obtain ⟨hcw, hfw, hsw⟩ := below_ifs hbl; (try simp only [World.size_alloc, World.size_setCell, World.size_drew, size_drewN_] at hcw hfw hsw)))
  go_ret
  exact ⟨rfl, by (repeat (first | with_reducible exact Below.refl _ _ | with_reducible assumption | with_reducible refine below_drewN ?_ _ | with_reducible refine Below.drew ?_ | with_reducible refine below_alloc ?_ _ | (with_reducible refine Below.setCell ?_ (by first | (simp; done) | omega | (simp; omega)) _) | with_reducible refine belows ?_ (by assumption)))⟩

set_option maxHeartbeats 4000000 in
set_option maxRecDepth 100000 in
theorem told_base (g : Bool) (m a : BitVec 64) (w : World) : Calls Try.prog 51 #[.agg #[.bool g, .int .u64 (U m), .int .u64 (U a)], .func (.func 53) #[] #[]] w fun r w' => r = .returned (.int .u64 (U (lkB m a))) ∧ Below w.heap.size w w' := by
  have hmf : ∀ (fn : Fn) (first cap : Array Value) (w : World), (Instr.makeFunc fn first cap).run Try.prog w = .ok (.func fn first cap) w := fun _ _ _ _ => rfl
  go_enter Try.func51, Try.ntmps51
  go_wp2_with (first | (go_at_call 78; refine (seen_base _ _ _ _ _ (by first | omega | (simp; done) | (simp; omega)) (by (first | (go_simp; done) | (go_simp; (simp [↓IntWalk.iteOmega]; done)) | (go_simp; intros; omega) | (go_simp; simp [↓IntWalk.iteOmega]; intros; omega)))).mono ?_; rintro e' w' ⟨rfl, hbl⟩; obtain ⟨hcw, hfw, hsw⟩ := below_ifs hbl; (try simp only [World.size_alloc, World.size_setCell, World.size_drew, size_drewN_] at hcw hfw hsw)))
  go_ret
  exact ⟨rfl, by (repeat (first | with_reducible exact Below.refl _ _ | with_reducible assumption | with_reducible refine below_drewN ?_ _ | with_reducible refine Below.drew ?_ | with_reducible refine below_alloc ?_ _ | (with_reducible refine Below.setCell ?_ (by first | (simp; done) | omega | (simp; omega)) _) | with_reducible refine belows ?_ (by assumption)))⟩

set_option maxHeartbeats 4000000 in
set_option maxRecDepth 100000 in
theorem abase_any (g : Bool) (m a : BitVec 64) (w : World) : Calls Try.prog 21 #[.agg #[.bool g, .int .u64 (U m), .int .u64 (U a)]] w fun r w' => r = .returned (.int .u64 (U (lkB m a))) ∧ Below w.heap.size w w' := by
  go_enter Try.func21, Try.ntmps21
  go_wp2_with (first | (go_at_call 51; (with_reducible refine (told_base _ _ _ _).mono ?_); rintro e w' ⟨rfl, hbl⟩; obtain ⟨hcw, hfw, hsw⟩ := below_ifs hbl; (try simp only [World.size_alloc, World.size_setCell, World.size_drew, size_drewN_] at hcw hfw hsw)))
  go_ret
  exact ⟨rfl, by (repeat (first | with_reducible exact Below.refl _ _ | with_reducible assumption | with_reducible refine below_drewN ?_ _ | with_reducible refine Below.drew ?_ | with_reducible refine below_alloc ?_ _ | (with_reducible refine Below.setCell ?_ (by first | (simp; done) | omega | (simp; omega)) _) | with_reducible refine belows ?_ (by assumption)))⟩

set_option maxHeartbeats 4000000 in
set_option maxRecDepth 100000 in
theorem told1_top (b t : BitVec 64) (c : Nat) (w : World) (hb : c < w.heap.size) (hc : w.cell? ⟨c, 0, none⟩ = some (.func (.func 77) #[] #[])) : Calls Try.prog 79 #[.agg #[.int .u64 (U b), .int .u64 (U t)], .pointer (some ⟨c, 0, none⟩)] w fun r w' => r = .returned (.int .u64 (U t)) ∧ Below w.heap.size w w' := by
  go_enter Try.func79, Try.ntmps79
  go_wp2_with (first | (go_at_call 77; (with_reducible refine (ends_top _ _ _).mono ?_); rintro e w' ⟨rfl, hbl⟩; obtain ⟨hcw, hfw, hsw⟩ := below_ifs hbl; (try simp only [World.size_alloc, World.size_setCell, World.size_drew, size_drewN_] at hcw hfw hsw)))
  go_ret
  exact ⟨rfl, by (repeat (first | with_reducible exact Below.refl _ _ | with_reducible assumption | with_reducible refine below_drewN ?_ _ | with_reducible refine Below.drew ?_ | with_reducible refine below_alloc ?_ _ | (with_reducible refine Below.setCell ?_ (by first | (simp; done) | omega | (simp; omega)) _) | with_reducible refine belows ?_ (by assumption)))⟩

set_option maxHeartbeats 4000000 in
set_option maxRecDepth 100000 in
theorem seen_top (g : Bool) (m a : BitVec 64) (c : Nat) (w : World) (hb : c < w.heap.size) (hc : w.cell? ⟨c, 0, none⟩ = some (.func (.func 77) #[] #[])) : Calls Try.prog 78 #[.agg #[.bool g, .int .u64 (U m), .int .u64 (U a)], .func (.func 79) #[] #[.pointer (some ⟨c, 0, none⟩)]] w fun r w' => r = .returned (.int .u64 (U (lkT m a))) ∧ Below w.heap.size w w' := by
  go_enter Try.func78, Try.ntmps78
  go_wp2_with (first | (go_at_call 24; (with_reducible refine (look_any _ _ _ _).mono ?_); rintro e w' ⟨rfl, hbl⟩; obtain ⟨hcw, hfw, hsw⟩ := below_ifs hbl; (try simp only [World.size_alloc, World.size_setCell, World.size_drew, size_drewN_] at hcw hfw hsw)) | (go_at_call 79; refine (told1_top _ _ c _ (by first | omega | (simp; omega)) (by (first | (go_simp; done) | (go_simp; (simp [↓IntWalk.iteOmega]; done)) | (go_simp; intros; omega) | (go_simp; simp [↓IntWalk.iteOmega]; intros; omega)))).mono ?_; rintro e' w' ⟨rfl, hbl⟩; obtain ⟨hcw, hfw, hsw⟩ := below_ifs hbl; (try simp only [World.size_alloc, World.size_setCell, World.size_drew, size_drewN_] at hcw hfw hsw)))
  go_ret
  exact ⟨rfl, by (repeat (first | with_reducible exact Below.refl _ _ | with_reducible assumption | with_reducible refine below_drewN ?_ _ | with_reducible refine Below.drew ?_ | with_reducible refine below_alloc ?_ _ | (with_reducible refine Below.setCell ?_ (by first | (simp; done) | omega | (simp; omega)) _) | with_reducible refine belows ?_ (by assumption)))⟩

set_option maxHeartbeats 4000000 in
set_option maxRecDepth 100000 in
theorem told_top (g : Bool) (m a : BitVec 64) (w : World) : Calls Try.prog 51 #[.agg #[.bool g, .int .u64 (U m), .int .u64 (U a)], .func (.func 77) #[] #[]] w fun r w' => r = .returned (.int .u64 (U (lkT m a))) ∧ Below w.heap.size w w' := by
  have hmf : ∀ (fn : Fn) (first cap : Array Value) (w : World), (Instr.makeFunc fn first cap).run Try.prog w = .ok (.func fn first cap) w := fun _ _ _ _ => rfl
  go_enter Try.func51, Try.ntmps51
  go_wp2_with (first | (go_at_call 78; refine (seen_top _ _ _ _ _ (by first | omega | (simp; done) | (simp; omega)) (by (first | (go_simp; done) | (go_simp; (simp [↓IntWalk.iteOmega]; done)) | (go_simp; intros; omega) | (go_simp; simp [↓IntWalk.iteOmega]; intros; omega)))).mono ?_; rintro e' w' ⟨rfl, hbl⟩; obtain ⟨hcw, hfw, hsw⟩ := below_ifs hbl; (try simp only [World.size_alloc, World.size_setCell, World.size_drew, size_drewN_] at hcw hfw hsw)))
  go_ret
  exact ⟨rfl, by (repeat (first | with_reducible exact Below.refl _ _ | with_reducible assumption | with_reducible refine below_drewN ?_ _ | with_reducible refine Below.drew ?_ | with_reducible refine below_alloc ?_ _ | (with_reducible refine Below.setCell ?_ (by first | (simp; done) | omega | (simp; omega)) _) | with_reducible refine belows ?_ (by assumption)))⟩

set_option maxHeartbeats 4000000 in
set_option maxRecDepth 100000 in
theorem atop_any (g : Bool) (m a : BitVec 64) (w : World) : Calls Try.prog 50 #[.agg #[.bool g, .int .u64 (U m), .int .u64 (U a)]] w fun r w' => r = .returned (.int .u64 (U (lkT m a))) ∧ Below w.heap.size w w' := by
  go_enter Try.func50, Try.ntmps50
  go_wp2_with (first | (go_at_call 51; (with_reducible refine (told_top _ _ _ _).mono ?_); rintro e w' ⟨rfl, hbl⟩; obtain ⟨hcw, hfw, hsw⟩ := below_ifs hbl; (try simp only [World.size_alloc, World.size_setCell, World.size_drew, size_drewN_] at hcw hfw hsw)))
  go_ret
  exact ⟨rfl, by (repeat (first | with_reducible exact Below.refl _ _ | with_reducible assumption | with_reducible refine below_drewN ?_ _ | with_reducible refine Below.drew ?_ | with_reducible refine below_alloc ?_ _ | (with_reducible refine Below.setCell ?_ (by first | (simp; done) | omega | (simp; omega)) _) | with_reducible refine belows ?_ (by assumption)))⟩

set_option maxHeartbeats 4000000 in
set_option maxRecDepth 100000 in
theorem told1_length (b t : BitVec 64) (c : Nat) (w : World) (hb : c < w.heap.size) (hc : w.cell? ⟨c, 0, none⟩ = some (.func (.func 52) #[] #[])) : Calls Try.prog 79 #[.agg #[.int .u64 (U b), .int .u64 (U t)], .pointer (some ⟨c, 0, none⟩)] w fun r w' => r = .returned (.int .u64 (U (t - b))) ∧ Below w.heap.size w w' := by
  go_enter Try.func79, Try.ntmps79
  go_wp2_with (first | (go_at_call 52; (with_reducible refine (ends_length _ _ _).mono ?_); rintro e w' ⟨rfl, hbl⟩; obtain ⟨hcw, hfw, hsw⟩ := below_ifs hbl; (try simp only [World.size_alloc, World.size_setCell, World.size_drew, size_drewN_] at hcw hfw hsw)))
  go_ret
  exact ⟨rfl, by (repeat (first | with_reducible exact Below.refl _ _ | with_reducible assumption | with_reducible refine below_drewN ?_ _ | with_reducible refine Below.drew ?_ | with_reducible refine below_alloc ?_ _ | (with_reducible refine Below.setCell ?_ (by first | (simp; done) | omega | (simp; omega)) _) | with_reducible refine belows ?_ (by assumption)))⟩

set_option maxHeartbeats 4000000 in
set_option maxRecDepth 100000 in
theorem seen_length (g : Bool) (m a : BitVec 64) (c : Nat) (w : World) (hb : c < w.heap.size) (hc : w.cell? ⟨c, 0, none⟩ = some (.func (.func 52) #[] #[])) : Calls Try.prog 78 #[.agg #[.bool g, .int .u64 (U m), .int .u64 (U a)], .func (.func 79) #[] #[.pointer (some ⟨c, 0, none⟩)]] w fun r w' => r = .returned (.int .u64 (U (lkT m a - lkB m a))) ∧ Below w.heap.size w w' := by
  go_enter Try.func78, Try.ntmps78
  go_wp2_with (first | (go_at_call 24; (with_reducible refine (look_any _ _ _ _).mono ?_); rintro e w' ⟨rfl, hbl⟩; obtain ⟨hcw, hfw, hsw⟩ := below_ifs hbl; (try simp only [World.size_alloc, World.size_setCell, World.size_drew, size_drewN_] at hcw hfw hsw)) | (go_at_call 79; refine (told1_length _ _ c _ (by first | omega | (simp; omega)) (by (first | (go_simp; done) | (go_simp; (simp [↓IntWalk.iteOmega]; done)) | (go_simp; intros; omega) | (go_simp; simp [↓IntWalk.iteOmega]; intros; omega)))).mono ?_; rintro e' w' ⟨rfl, hbl⟩; obtain ⟨hcw, hfw, hsw⟩ := below_ifs hbl; (try simp only [World.size_alloc, World.size_setCell, World.size_drew, size_drewN_] at hcw hfw hsw)))
  go_ret
  exact ⟨rfl, by (repeat (first | with_reducible exact Below.refl _ _ | with_reducible assumption | with_reducible refine below_drewN ?_ _ | with_reducible refine Below.drew ?_ | with_reducible refine below_alloc ?_ _ | (with_reducible refine Below.setCell ?_ (by first | (simp; done) | omega | (simp; omega)) _) | with_reducible refine belows ?_ (by assumption)))⟩

set_option maxHeartbeats 4000000 in
set_option maxRecDepth 100000 in
theorem told_length (g : Bool) (m a : BitVec 64) (w : World) : Calls Try.prog 51 #[.agg #[.bool g, .int .u64 (U m), .int .u64 (U a)], .func (.func 52) #[] #[]] w fun r w' => r = .returned (.int .u64 (U (lkT m a - lkB m a))) ∧ Below w.heap.size w w' := by
  have hmf : ∀ (fn : Fn) (first cap : Array Value) (w : World), (Instr.makeFunc fn first cap).run Try.prog w = .ok (.func fn first cap) w := fun _ _ _ _ => rfl
  go_enter Try.func51, Try.ntmps51
  go_wp2_with (first | (go_at_call 78; refine (seen_length _ _ _ _ _ (by first | omega | (simp; done) | (simp; omega)) (by (first | (go_simp; done) | (go_simp; (simp [↓IntWalk.iteOmega]; done)) | (go_simp; intros; omega) | (go_simp; simp [↓IntWalk.iteOmega]; intros; omega)))).mono ?_; rintro e' w' ⟨rfl, hbl⟩; obtain ⟨hcw, hfw, hsw⟩ := below_ifs hbl; (try simp only [World.size_alloc, World.size_setCell, World.size_drew, size_drewN_] at hcw hfw hsw)))
  go_ret
  exact ⟨rfl, by (repeat (first | with_reducible exact Below.refl _ _ | with_reducible assumption | with_reducible refine below_drewN ?_ _ | with_reducible refine Below.drew ?_ | with_reducible refine below_alloc ?_ _ | (with_reducible refine Below.setCell ?_ (by first | (simp; done) | omega | (simp; omega)) _) | with_reducible refine belows ?_ (by assumption)))⟩

set_option maxHeartbeats 4000000 in
set_option maxRecDepth 100000 in
theorem alength_any (g : Bool) (m a : BitVec 64) (w : World) : Calls Try.prog 20 #[.agg #[.bool g, .int .u64 (U m), .int .u64 (U a)]] w fun r w' => r = .returned (.int .u64 (U (lkT m a - lkB m a))) ∧ Below w.heap.size w w' := by
  go_enter Try.func20, Try.ntmps20
  go_wp2_with (first | (go_at_call 51; (with_reducible refine (told_length _ _ _ _).mono ?_); rintro e w' ⟨rfl, hbl⟩; obtain ⟨hcw, hfw, hsw⟩ := below_ifs hbl; (try simp only [World.size_alloc, World.size_setCell, World.size_drew, size_drewN_] at hcw hfw hsw)))
  go_ret
  exact ⟨rfl, by (repeat (first | with_reducible exact Below.refl _ _ | with_reducible assumption | with_reducible refine below_drewN ?_ _ | with_reducible refine Below.drew ?_ | with_reducible refine below_alloc ?_ _ | (with_reducible refine Below.setCell ?_ (by first | (simp; done) | omega | (simp; omega)) _) | with_reducible refine belows ?_ (by assumption)))⟩

set_option maxHeartbeats 4000000 in
set_option maxRecDepth 100000 in
theorem aoffset_any (g : Bool) (m a : BitVec 64) (w : World) : Calls Try.prog 22 #[.agg #[.bool g, .int .u64 (U m), .int .u64 (U a)]] w fun r w' => r = .returned (.int .u64 (U (a - lkB m a))) ∧ Below w.heap.size w w' := by
  go_enter Try.func22, Try.ntmps22
  go_wp2_with fail
  refine wp_region_below (by kernel_rfl) (by kernel_rfl) (fun hcr hfr => ?_)
  (try simp only [World.size_alloc, World.size_setCell, World.size_drew, size_drewN_] at hcr hfr)
  repeat (go_big_quiet_step ((first | (go_at_call 21; first | with_reducible exact Calls.regrown_of (abase_any _ _ _ _) | with_reducible exact regrown_k (abase_any _ _ _ _) | with_reducible exact regrown_1 (abase_any _ _ _ _) | with_reducible exact regrown_a (abase_any _ _ _ _)))))
  refine wpQuiet_nil ?_
  intro w' hbl
  clear hcr hfr
  obtain ⟨hcw, hfw, hsw⟩ := below_ifs hbl; (try simp only [World.size_alloc, World.size_setCell, World.size_drew, size_drewN_] at hcw hfw hsw)
  go_wp2_with fail
  go_ret
  exact ⟨rfl, by (repeat (first | with_reducible exact Below.refl _ _ | with_reducible assumption | with_reducible refine below_drewN ?_ _ | with_reducible refine Below.drew ?_ | with_reducible refine below_alloc ?_ _ | (with_reducible refine Below.setCell ?_ (by first | (simp; done) | omega | (simp; omega)) _) | with_reducible refine belows ?_ (by assumption)))⟩

set_option maxHeartbeats 4000000 in
set_option maxRecDepth 100000 in
theorem aunder_any (g h : Bool) (m a n b : BitVec 64) (w : World) : Calls Try.prog 23 #[.agg #[.bool g, .int .u64 (U m), .int .u64 (U a)], .agg #[.bool h, .int .u64 (U n), .int .u64 (U b)]] w fun r w' => r = .returned (.bool ((g == h) && withinF m a n b)) ∧ Below w.heap.size w w' := by
  have cw : ∀ w : World, Calls Try.prog 38 #[.agg #[.bool g, .int .u64 (U m), .int .u64 (U a)], .agg #[.bool h, .int .u64 (U n), .int .u64 (U b)]] w fun r w' => r = .returned (.bool (withinF m a n b)) ∧ Below w.heap.size w w' := fun w => within_any g h m a n b w
  generalize withinF m a n b = k at cw ⊢
  cases g <;> cases h
  all_goals
    go_enter Try.func23, Try.ntmps23
    go_wp2_with (first | (go_at_call 38; (with_reducible refine (cw _).mono ?_); rintro e w' ⟨rfl, hbl⟩; obtain ⟨hcw, hfw, hsw⟩ := below_ifs hbl; (try simp only [World.size_alloc, World.size_setCell, World.size_drew, size_drewN_] at hcw hfw hsw)))
    go_ret
    exact ⟨ret_bool (by simp), by (repeat (first | with_reducible exact Below.refl _ _ | with_reducible assumption | with_reducible refine below_drewN ?_ _ | with_reducible refine Below.drew ?_ | with_reducible refine below_alloc ?_ _ | (with_reducible refine Below.setCell ?_ (by first | (simp; done) | omega | (simp; omega)) _) | with_reducible refine belows ?_ (by assumption)))⟩

def needF (k : Int) : BitVec 64 := if k = 0 then 4#64 else if k = 1 then 1#64 else if k = 2 then 2#64 else if k = 3 then 9#64 else if k = 4 then 18#64 else 511#64
theorem needs_any (k : Int) (w : World) : Calls Try.prog 58 #[.int .i64 k] w fun r w' => r = .returned (.int .u64 (U (needF k))) ∧ w = w' := by
  unfold needF
  by_cases h0 : k = 0
  · subst h0
    go_enter Try.func58, Try.ntmps58
    go_wp2_with fail
    go_ret
    exact ⟨rfl, rfl⟩
  · rw [if_neg h0]
    by_cases h1 : k = 1
    · subst h1
      go_enter Try.func58, Try.ntmps58
      go_wp2_with fail
      go_ret
      exact ⟨rfl, rfl⟩
    · rw [if_neg h1]
      by_cases h2 : k = 2
      · subst h2
        go_enter Try.func58, Try.ntmps58
        go_wp2_with fail
        go_ret
        exact ⟨rfl, rfl⟩
      · rw [if_neg h2]
        by_cases h3 : k = 3
        · subst h3
          go_enter Try.func58, Try.ntmps58
          go_wp2_with fail
          go_ret
          exact ⟨rfl, rfl⟩
        · rw [if_neg h3]
          by_cases h4 : k = 4
          · subst h4
            go_enter Try.func58, Try.ntmps58
            go_wp2_with fail
            go_ret
            exact ⟨rfl, rfl⟩
          · rw [if_neg h4]
            go_enter Try.func58, Try.ntmps58
            go_wp2_with fail
            go_ret
            exact ⟨rfl, rfl⟩
def chkI (l o p i : Bool) : Int := cond l (cond o (cond p (cond i 0 4) 3) 2) 1
def chkF (g : Bool) (m a : BitVec 64) (k : Int) (n : BitVec 64) : Int := chkI (g && rtF m a) (opF g m a) (needF k &&& ~~~ mP m == 0#64) (inF a n (lkB m a) (lkT m a))

set_option maxHeartbeats 4000000 in
set_option maxRecDepth 100000 in
theorem check_any (g : Bool) (m a : BitVec 64) (k : Int) (n : BitVec 64) (w : World) : Calls Try.prog 25 #[.agg #[.bool g, .int .u64 (U m), .int .u64 (U a)], .int .i64 k, .int .u64 (U n)] w fun r w' => r = .returned (.int .i64 (chkF g m a k n)) ∧ Below w.heap.size w w' := by
  have cf : ∀ w : World, Calls Try.prog 39 #[.agg #[.bool g, .int .u64 (U m), .int .u64 (U a)]] w fun r w' => r = .returned (.agg #[.bool g, .int .u64 (U m), .int .u64 (U a), .int .u64 (U (lkB m a)), .int .u64 (U (lkT m a)), .int .u64 (U (mP m)), .int .u64 (U (mY m)), .bool (g && rtF m a)]) ∧ Below w.heap.size w w' := fun w => lof_any g m a w
  have co : ∀ w : World, Calls Try.prog 40 #[.agg #[.bool g, .int .u64 (U m), .int .u64 (U a), .int .u64 (U (lkB m a)), .int .u64 (U (lkT m a)), .int .u64 (U (mP m)), .int .u64 (U (mY m)), .bool (g && rtF m a)]] w fun r w' => r = .returned (.bool (opF g m a)) ∧ Below w.heap.size w w' := fun w => lopenF_any g m a w
  have cn : ∀ w : World, Calls Try.prog 58 #[.int .i64 k] w fun r w' => r = .returned (.int .u64 (U (needF k))) ∧ w = w' := fun w => needs_any k w
  have cw : ∀ w : World, Calls Try.prog 57 #[.int .u64 (U (needF k)), .int .u64 (U (mP m))] w fun r w' => r = .returned (.bool (needF k &&& ~~~ mP m == 0#64)) ∧ w = w' := fun w => pwithin_any (needF k) (mP m) w
  have ci : ∀ w : World, Calls Try.prog 59 #[.int .u64 (U a), .int .u64 (U n), .int .u64 (U (lkB m a)), .int .u64 (U (lkT m a))] w fun r w' => r = .returned (.bool (inF a n (lkB m a) (lkT m a))) ∧ w = w' := fun w => in_any a n _ _ w
  unfold chkF
  generalize (g && rtF m a) = l at cf co ⊢
  generalize opF g m a = o at co ⊢
  generalize (needF k &&& ~~~ mP m == 0#64) = p at cw ⊢
  generalize inF a n (lkB m a) (lkT m a) = i at ci ⊢
  generalize needF k = nf at cn cw
  cases l
  · go_enter Try.func25, Try.ntmps25
    go_wp2_with (first | (go_at_call 39; (with_reducible refine (cf _).mono ?_); rintro e w' ⟨rfl, hbl⟩; obtain ⟨hcw, hfw, hsw⟩ := below_ifs hbl; (try simp only [World.size_alloc, World.size_setCell, World.size_drew, size_drewN_] at hcw hfw hsw)) | (go_at_call 40; (with_reducible refine (co _).mono ?_); rintro e w' ⟨rfl, hbl⟩; obtain ⟨hcw, hfw, hsw⟩ := below_ifs hbl; (try simp only [World.size_alloc, World.size_setCell, World.size_drew, size_drewN_] at hcw hfw hsw)))
    go_ret
    exact ⟨rfl, by (repeat (first | with_reducible exact Below.refl _ _ | with_reducible assumption | with_reducible refine below_drewN ?_ _ | with_reducible refine Below.drew ?_ | with_reducible refine below_alloc ?_ _ | (with_reducible refine Below.setCell ?_ (by first | (simp; done) | omega | (simp; omega)) _) | with_reducible refine belows ?_ (by assumption)))⟩
  · cases o
    · go_enter Try.func25, Try.ntmps25
      go_wp2_with (first | (go_at_call 39; (with_reducible refine (cf _).mono ?_); rintro e w' ⟨rfl, hbl⟩; obtain ⟨hcw, hfw, hsw⟩ := below_ifs hbl; (try simp only [World.size_alloc, World.size_setCell, World.size_drew, size_drewN_] at hcw hfw hsw)) | (go_at_call 40; (with_reducible refine (co _).mono ?_); rintro e w' ⟨rfl, hbl⟩; obtain ⟨hcw, hfw, hsw⟩ := below_ifs hbl; (try simp only [World.size_alloc, World.size_setCell, World.size_drew, size_drewN_] at hcw hfw hsw)))
      go_ret
      exact ⟨rfl, by (repeat (first | with_reducible exact Below.refl _ _ | with_reducible assumption | with_reducible refine below_drewN ?_ _ | with_reducible refine Below.drew ?_ | with_reducible refine below_alloc ?_ _ | (with_reducible refine Below.setCell ?_ (by first | (simp; done) | omega | (simp; omega)) _) | with_reducible refine belows ?_ (by assumption)))⟩
    · cases p
      all_goals try cases i
      all_goals
        go_enter Try.func25, Try.ntmps25
        go_wp2_with (first | (go_at_call 39; (with_reducible refine (cf _).mono ?_); rintro e w' ⟨rfl, hbl⟩; obtain ⟨hcw, hfw, hsw⟩ := below_ifs hbl; (try simp only [World.size_alloc, World.size_setCell, World.size_drew, size_drewN_] at hcw hfw hsw)) | (go_at_call 40; (with_reducible refine (co _).mono ?_); rintro e w' ⟨rfl, hbl⟩; obtain ⟨hcw, hfw, hsw⟩ := below_ifs hbl; (try simp only [World.size_alloc, World.size_setCell, World.size_drew, size_drewN_] at hcw hfw hsw)))
        refine wp_region_below (by kernel_rfl) (by kernel_rfl) (fun hcr hfr => ?_)
        (try simp only [World.size_alloc, World.size_setCell, World.size_drew, size_drewN_] at hcr hfr)
        repeat (go_big_quiet_step ((first | (go_at_call 58; first | with_reducible exact Calls.regrown_of (cn _) | with_reducible exact regrown_k (cn _) | with_reducible exact regrown_1 (cn _) | with_reducible exact regrown_a (cn _)) | (go_at_call 57; first | with_reducible exact Calls.regrown_of (cw _) | with_reducible exact regrown_k (cw _) | with_reducible exact regrown_1 (cw _) | with_reducible exact regrown_a (cw _)))))
        refine wpQuiet_nil ?_
        intro w' hbl
        clear hcr hfr
        obtain ⟨hcw, hfw, hsw⟩ := below_ifs hbl; (try simp only [World.size_alloc, World.size_setCell, World.size_drew, size_drewN_] at hcw hfw hsw)
        go_wp2_with (first | (go_at_call 59; (with_reducible refine (ci _).mono ?_); rintro e w' ⟨rfl, rfl⟩))
        go_ret
        exact ⟨rfl, by (repeat (first | with_reducible exact Below.refl _ _ | with_reducible assumption | with_reducible refine below_drewN ?_ _ | with_reducible refine Below.drew ?_ | with_reducible refine below_alloc ?_ _ | (with_reducible refine Below.setCell ?_ (by first | (simp; done) | omega | (simp; omega)) _) | with_reducible refine belows ?_ (by assumption)))⟩

end Go.Proofs.Ytpinjngmlelleaa
