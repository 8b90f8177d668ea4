
/-
  CapabBack: what is made of a view is looked at as it, and right, and within itself; one that is right is made of what it tells. Every input.
-/
import Derived.Test.YtikpkoeeinkecaaRows
import Derived.Test.YtikpkoeeinkecaaLaw
import Derived.Test.YtikpkoeeinkecaaCapabV
import Derived.Test.YtikpkoeeinkecaaCapabP
namespace Go.Proofs.Ytikpkoeeinkecaa.Back
open Go Go.RowKit Go.ChangeShapes Go.WideShapes Go.ChangeAt
set_option linter.unusedVariables false
set_option linter.unusedSimpArgs false

set_option maxHeartbeats 8000000 in
set_option maxRecDepth 100000 in
theorem walk_tf (sb st p y m a : BitVec 64) (g : Bool) (h1 : mkOk sb st p y sb = true) (h2 : rtF m a = false) (w : World) : Calls Try.prog 4 #[.agg #[.int .u64 (U sb), .int .u64 (U st), .int .u64 (U p), .int .u64 (U y)], .agg #[.bool g, .int .u64 (U m), .int .u64 (U a)]] w fun r w' => r = .returned (.bool true) ∧ Below w.heap.size w w' := by
  obtain ⟨a1, a2, a3, a4, a5, a6, a7, a8, a9, a10⟩ := made h1
  have cm : ∀ w : World, Calls Try.prog 9 #[.agg #[.int .u64 (U sb), .int .u64 (U st), .int .u64 (U p), .int .u64 (U y)], .int .u64 (U sb)] w fun r w' => r = .returned (.tuple #[.agg #[.bool false, .int .u64 (U (mkM sb st p y sb)), .int .u64 (U sb)], .bool true]) ∧ Below w.heap.size w w' := fun w => (make_any sb st p y sb w).mono fun _ _ q => ⟨by rw [q.1, a1, h1], q.2⟩
  have cl : ∀ w : World, Calls Try.prog 15 #[.agg #[.bool false, .int .u64 (U (mkM sb st p y sb)), .int .u64 (U sb)]] w fun r w' => r = .returned (.tuple #[.agg #[.int .u64 (U sb), .int .u64 (U st), .int .u64 (U p), .int .u64 (U y)], .bool true]) ∧ Below w.heap.size w w' := fun w => (look_any false (mkM sb st p y sb) sb w).mono fun _ _ q => ⟨by rw [q.1, a5, a6, a7, a8, a9], q.2⟩
  have cr : ∀ w : World, Calls Try.prog 16 #[.agg #[.bool false, .int .u64 (U (mkM sb st p y sb)), .int .u64 (U sb)]] w fun r w' => r = .returned (.bool true) ∧ Below w.heap.size w w' := fun w => (right_any false (mkM sb st p y sb) sb w).mono fun _ _ q => ⟨by rw [q.1, a10], q.2⟩
  have cw : ∀ w : World, Calls Try.prog 17 #[.agg #[.bool false, .int .u64 (U (mkM sb st p y sb)), .int .u64 (U sb)], .agg #[.bool false, .int .u64 (U (mkM sb st p y sb)), .int .u64 (U sb)]] w fun r w' => r = .returned (.bool true) ∧ Below w.heap.size w w' := fun w => (within_any false false (mkM sb st p y sb) sb (mkM sb st p y sb) sb w).mono fun _ _ q => ⟨by rw [q.1, within_self a10], q.2⟩
  clear a1 a2 a3 a4 a5 a6 a7 a8 a9 a10
  have dr : ∀ w : World, Calls Try.prog 16 #[.agg #[.bool g, .int .u64 (U m), .int .u64 (U a)]] w fun r w' => r = .returned (.bool false) ∧ Below w.heap.size w w' := fun w => (right_any g m a w).mono fun _ _ q => ⟨by rw [q.1, h2], q.2⟩
  clear h1 h2
  go_enter Try.func4, Try.ntmps4
  go_wp2_with (first | (go_at_call 9; (with_reducible refine (cm _).mono ?_); rintro e w' ⟨rfl, hbl⟩; obtain ⟨hcw, hfw, hsw⟩ := below_ifs hbl; (try simp only [World.size_alloc, World.size_setCell, World.size_drew, size_drewN_] at hcw hfw hsw)) | (go_at_call 15; (with_reducible refine (cl _).mono ?_); rintro e w' ⟨rfl, hbl⟩; obtain ⟨hcw, hfw, hsw⟩ := below_ifs hbl; (try simp only [World.size_alloc, World.size_setCell, World.size_drew, size_drewN_] at hcw hfw hsw)) | (go_at_call 16; (with_reducible refine (cr _).mono ?_); rintro e w' ⟨rfl, hbl⟩; obtain ⟨hcw, hfw, hsw⟩ := below_ifs hbl; (try simp only [World.size_alloc, World.size_setCell, World.size_drew, size_drewN_] at hcw hfw hsw)) | (go_at_call 17; (with_reducible refine (cw _).mono ?_); rintro e w' ⟨rfl, hbl⟩; obtain ⟨hcw, hfw, hsw⟩ := below_ifs hbl; (try simp only [World.size_alloc, World.size_setCell, World.size_drew, size_drewN_] at hcw hfw hsw)) | (go_at_call 16; (with_reducible refine (dr _).mono ?_); rintro e w' ⟨rfl, hbl⟩; obtain ⟨hcw, hfw, hsw⟩ := below_ifs hbl; (try simp only [World.size_alloc, World.size_setCell, World.size_drew, size_drewN_] at hcw hfw hsw)) | (go_at_call 14; (with_reducible refine (one_any _).mono ?_); rintro e w' ⟨rfl, hbl⟩; obtain ⟨hcw, hfw, hsw⟩ := below_ifs hbl; (try simp only [World.size_alloc, World.size_setCell, World.size_drew, size_drewN_] at hcw hfw hsw)))
  go_ret
  exact ⟨rfl, by (repeat (first | with_reducible exact Below.refl _ _ | with_reducible assumption | with_reducible refine below_drewN ?_ _ | with_reducible refine Below.drew ?_ | with_reducible refine below_alloc ?_ _ | (with_reducible refine Below.setCell ?_ (by first | (simp; done) | omega | (simp; omega)) _) | with_reducible refine belows ?_ (by assumption)))⟩
set_option maxHeartbeats 8000000 in
set_option maxRecDepth 100000 in
theorem walk_ttt (sb st p y m a : BitVec 64) (g : Bool) (h1 : mkOk sb st p y sb = true) (h2 : rtF m a = true) (h3 : mkOk (lkB m a) (lkT m a) (mP m) (mY m) a = true) (w : World) : Calls Try.prog 4 #[.agg #[.int .u64 (U sb), .int .u64 (U st), .int .u64 (U p), .int .u64 (U y)], .agg #[.bool g, .int .u64 (U m), .int .u64 (U a)]] w fun r w' => r = .returned (.bool true) ∧ Below w.heap.size w w' := by
  obtain ⟨a1, a2, a3, a4, a5, a6, a7, a8, a9, a10⟩ := made h1
  have cm : ∀ w : World, Calls Try.prog 9 #[.agg #[.int .u64 (U sb), .int .u64 (U st), .int .u64 (U p), .int .u64 (U y)], .int .u64 (U sb)] w fun r w' => r = .returned (.tuple #[.agg #[.bool false, .int .u64 (U (mkM sb st p y sb)), .int .u64 (U sb)], .bool true]) ∧ Below w.heap.size w w' := fun w => (make_any sb st p y sb w).mono fun _ _ q => ⟨by rw [q.1, a1, h1], q.2⟩
  have cl : ∀ w : World, Calls Try.prog 15 #[.agg #[.bool false, .int .u64 (U (mkM sb st p y sb)), .int .u64 (U sb)]] w fun r w' => r = .returned (.tuple #[.agg #[.int .u64 (U sb), .int .u64 (U st), .int .u64 (U p), .int .u64 (U y)], .bool true]) ∧ Below w.heap.size w w' := fun w => (look_any false (mkM sb st p y sb) sb w).mono fun _ _ q => ⟨by rw [q.1, a5, a6, a7, a8, a9], q.2⟩
  have cr : ∀ w : World, Calls Try.prog 16 #[.agg #[.bool false, .int .u64 (U (mkM sb st p y sb)), .int .u64 (U sb)]] w fun r w' => r = .returned (.bool true) ∧ Below w.heap.size w w' := fun w => (right_any false (mkM sb st p y sb) sb w).mono fun _ _ q => ⟨by rw [q.1, a10], q.2⟩
  have cw : ∀ w : World, Calls Try.prog 17 #[.agg #[.bool false, .int .u64 (U (mkM sb st p y sb)), .int .u64 (U sb)], .agg #[.bool false, .int .u64 (U (mkM sb st p y sb)), .int .u64 (U sb)]] w fun r w' => r = .returned (.bool true) ∧ Below w.heap.size w w' := fun w => (within_any false false (mkM sb st p y sb) sb (mkM sb st p y sb) sb w).mono fun _ _ q => ⟨by rw [q.1, within_self a10], q.2⟩
  clear a1 a2 a3 a4 a5 a6 a7 a8 a9 a10
  have dr : ∀ w : World, Calls Try.prog 16 #[.agg #[.bool g, .int .u64 (U m), .int .u64 (U a)]] w fun r w' => r = .returned (.bool true) ∧ Below w.heap.size w w' := fun w => (right_any g m a w).mono fun _ _ q => ⟨by rw [q.1, h2], q.2⟩
  have dl : ∀ w : World, Calls Try.prog 15 #[.agg #[.bool g, .int .u64 (U m), .int .u64 (U a)]] w fun r w' => r = .returned (.tuple #[.agg #[.int .u64 (U (lkB m a)), .int .u64 (U (lkT m a)), .int .u64 (U (mP m)), .int .u64 (U (mY m))], .bool (lkOk m a)]) ∧ Below w.heap.size w w' := fun w => look_any g m a w
  have dm : ∀ w : World, Calls Try.prog 9 #[.agg #[.int .u64 (U (lkB m a)), .int .u64 (U (lkT m a)), .int .u64 (U (mP m)), .int .u64 (U (mY m))], .int .u64 (U a)] w fun r w' => r = .returned (.tuple #[.agg #[.bool false, .int .u64 (U m), .int .u64 (U a)], .bool true]) ∧ Below w.heap.size w w' := fun w => (make_any _ _ _ _ a w).mono fun _ _ q => ⟨by rw [q.1, h3, right_made h2, if_pos h3]; unfold mkA; rw [if_pos h3], q.2⟩
  clear h1 h2 h3
  go_enter Try.func4, Try.ntmps4
  go_wp2_with (first | (go_at_call 9; (with_reducible refine (cm _).mono ?_); rintro e w' ⟨rfl, hbl⟩; obtain ⟨hcw, hfw, hsw⟩ := below_ifs hbl; (try simp only [World.size_alloc, World.size_setCell, World.size_drew, size_drewN_] at hcw hfw hsw)) | (go_at_call 15; (with_reducible refine (cl _).mono ?_); rintro e w' ⟨rfl, hbl⟩; obtain ⟨hcw, hfw, hsw⟩ := below_ifs hbl; (try simp only [World.size_alloc, World.size_setCell, World.size_drew, size_drewN_] at hcw hfw hsw)) | (go_at_call 16; (with_reducible refine (cr _).mono ?_); rintro e w' ⟨rfl, hbl⟩; obtain ⟨hcw, hfw, hsw⟩ := below_ifs hbl; (try simp only [World.size_alloc, World.size_setCell, World.size_drew, size_drewN_] at hcw hfw hsw)) | (go_at_call 17; (with_reducible refine (cw _).mono ?_); rintro e w' ⟨rfl, hbl⟩; obtain ⟨hcw, hfw, hsw⟩ := below_ifs hbl; (try simp only [World.size_alloc, World.size_setCell, World.size_drew, size_drewN_] at hcw hfw hsw)) | (go_at_call 16; (with_reducible refine (dr _).mono ?_); rintro e w' ⟨rfl, hbl⟩; obtain ⟨hcw, hfw, hsw⟩ := below_ifs hbl; (try simp only [World.size_alloc, World.size_setCell, World.size_drew, size_drewN_] at hcw hfw hsw)) | (go_at_call 15; (with_reducible refine (dl _).mono ?_); rintro e w' ⟨rfl, hbl⟩; obtain ⟨hcw, hfw, hsw⟩ := below_ifs hbl; (try simp only [World.size_alloc, World.size_setCell, World.size_drew, size_drewN_] at hcw hfw hsw)) | (go_at_call 9; (with_reducible refine (dm _).mono ?_); rintro e w' ⟨rfl, hbl⟩; obtain ⟨hcw, hfw, hsw⟩ := below_ifs hbl; (try simp only [World.size_alloc, World.size_setCell, World.size_drew, size_drewN_] at hcw hfw hsw)) | (go_at_call 14; (with_reducible refine (one_any _).mono ?_); rintro e w' ⟨rfl, hbl⟩; obtain ⟨hcw, hfw, hsw⟩ := below_ifs hbl; (try simp only [World.size_alloc, World.size_setCell, World.size_drew, size_drewN_] at hcw hfw hsw)))
  go_ret
  exact ⟨rfl, by (repeat (first | with_reducible exact Below.refl _ _ | with_reducible assumption | with_reducible refine below_drewN ?_ _ | with_reducible refine Below.drew ?_ | with_reducible refine below_alloc ?_ _ | (with_reducible refine Below.setCell ?_ (by first | (simp; done) | omega | (simp; omega)) _) | with_reducible refine belows ?_ (by assumption)))⟩
set_option maxHeartbeats 8000000 in
set_option maxRecDepth 100000 in
theorem walk_ttf (sb st p y m a : BitVec 64) (g : Bool) (h1 : mkOk sb st p y sb = true) (h2 : rtF m a = true) (h3 : mkOk (lkB m a) (lkT m a) (mP m) (mY m) a = false) (w : World) : Calls Try.prog 4 #[.agg #[.int .u64 (U sb), .int .u64 (U st), .int .u64 (U p), .int .u64 (U y)], .agg #[.bool g, .int .u64 (U m), .int .u64 (U a)]] w fun r w' => r = .returned (.bool true) ∧ Below w.heap.size w w' := by
  obtain ⟨a1, a2, a3, a4, a5, a6, a7, a8, a9, a10⟩ := made h1
  have cm : ∀ w : World, Calls Try.prog 9 #[.agg #[.int .u64 (U sb), .int .u64 (U st), .int .u64 (U p), .int .u64 (U y)], .int .u64 (U sb)] w fun r w' => r = .returned (.tuple #[.agg #[.bool false, .int .u64 (U (mkM sb st p y sb)), .int .u64 (U sb)], .bool true]) ∧ Below w.heap.size w w' := fun w => (make_any sb st p y sb w).mono fun _ _ q => ⟨by rw [q.1, a1, h1], q.2⟩
  have cl : ∀ w : World, Calls Try.prog 15 #[.agg #[.bool false, .int .u64 (U (mkM sb st p y sb)), .int .u64 (U sb)]] w fun r w' => r = .returned (.tuple #[.agg #[.int .u64 (U sb), .int .u64 (U st), .int .u64 (U p), .int .u64 (U y)], .bool true]) ∧ Below w.heap.size w w' := fun w => (look_any false (mkM sb st p y sb) sb w).mono fun _ _ q => ⟨by rw [q.1, a5, a6, a7, a8, a9], q.2⟩
  have cr : ∀ w : World, Calls Try.prog 16 #[.agg #[.bool false, .int .u64 (U (mkM sb st p y sb)), .int .u64 (U sb)]] w fun r w' => r = .returned (.bool true) ∧ Below w.heap.size w w' := fun w => (right_any false (mkM sb st p y sb) sb w).mono fun _ _ q => ⟨by rw [q.1, a10], q.2⟩
  have cw : ∀ w : World, Calls Try.prog 17 #[.agg #[.bool false, .int .u64 (U (mkM sb st p y sb)), .int .u64 (U sb)], .agg #[.bool false, .int .u64 (U (mkM sb st p y sb)), .int .u64 (U sb)]] w fun r w' => r = .returned (.bool true) ∧ Below w.heap.size w w' := fun w => (within_any false false (mkM sb st p y sb) sb (mkM sb st p y sb) sb w).mono fun _ _ q => ⟨by rw [q.1, within_self a10], q.2⟩
  clear a1 a2 a3 a4 a5 a6 a7 a8 a9 a10
  have dr : ∀ w : World, Calls Try.prog 16 #[.agg #[.bool g, .int .u64 (U m), .int .u64 (U a)]] w fun r w' => r = .returned (.bool true) ∧ Below w.heap.size w w' := fun w => (right_any g m a w).mono fun _ _ q => ⟨by rw [q.1, h2], q.2⟩
  have dl : ∀ w : World, Calls Try.prog 15 #[.agg #[.bool g, .int .u64 (U m), .int .u64 (U a)]] w fun r w' => r = .returned (.tuple #[.agg #[.int .u64 (U (lkB m a)), .int .u64 (U (lkT m a)), .int .u64 (U (mP m)), .int .u64 (U (mY m))], .bool (lkOk m a)]) ∧ Below w.heap.size w w' := fun w => look_any g m a w
  have dm : ∀ w : World, Calls Try.prog 9 #[.agg #[.int .u64 (U (lkB m a)), .int .u64 (U (lkT m a)), .int .u64 (U (mP m)), .int .u64 (U (mY m))], .int .u64 (U a)] w fun r w' => r = .returned (.tuple #[.agg #[.bool false, .int .u64 (U (mkM (lkB m a) (lkT m a) (mP m) (mY m) a)), .int .u64 (U (mkA (lkB m a) (lkT m a) (mP m) (mY m) a))], .bool false]) ∧ Below w.heap.size w w' := fun w => (make_any _ _ _ _ a w).mono fun _ _ q => ⟨by rw [q.1, h3], q.2⟩
  clear h1 h2 h3
  go_enter Try.func4, Try.ntmps4
  go_wp2_with (first | (go_at_call 9; (with_reducible refine (cm _).mono ?_); rintro e w' ⟨rfl, hbl⟩; obtain ⟨hcw, hfw, hsw⟩ := below_ifs hbl; (try simp only [World.size_alloc, World.size_setCell, World.size_drew, size_drewN_] at hcw hfw hsw)) | (go_at_call 15; (with_reducible refine (cl _).mono ?_); rintro e w' ⟨rfl, hbl⟩; obtain ⟨hcw, hfw, hsw⟩ := below_ifs hbl; (try simp only [World.size_alloc, World.size_setCell, World.size_drew, size_drewN_] at hcw hfw hsw)) | (go_at_call 16; (with_reducible refine (cr _).mono ?_); rintro e w' ⟨rfl, hbl⟩; obtain ⟨hcw, hfw, hsw⟩ := below_ifs hbl; (try simp only [World.size_alloc, World.size_setCell, World.size_drew, size_drewN_] at hcw hfw hsw)) | (go_at_call 17; (with_reducible refine (cw _).mono ?_); rintro e w' ⟨rfl, hbl⟩; obtain ⟨hcw, hfw, hsw⟩ := below_ifs hbl; (try simp only [World.size_alloc, World.size_setCell, World.size_drew, size_drewN_] at hcw hfw hsw)) | (go_at_call 16; (with_reducible refine (dr _).mono ?_); rintro e w' ⟨rfl, hbl⟩; obtain ⟨hcw, hfw, hsw⟩ := below_ifs hbl; (try simp only [World.size_alloc, World.size_setCell, World.size_drew, size_drewN_] at hcw hfw hsw)) | (go_at_call 15; (with_reducible refine (dl _).mono ?_); rintro e w' ⟨rfl, hbl⟩; obtain ⟨hcw, hfw, hsw⟩ := below_ifs hbl; (try simp only [World.size_alloc, World.size_setCell, World.size_drew, size_drewN_] at hcw hfw hsw)) | (go_at_call 9; (with_reducible refine (dm _).mono ?_); rintro e w' ⟨rfl, hbl⟩; obtain ⟨hcw, hfw, hsw⟩ := below_ifs hbl; (try simp only [World.size_alloc, World.size_setCell, World.size_drew, size_drewN_] at hcw hfw hsw)) | (go_at_call 14; (with_reducible refine (one_any _).mono ?_); rintro e w' ⟨rfl, hbl⟩; obtain ⟨hcw, hfw, hsw⟩ := below_ifs hbl; (try simp only [World.size_alloc, World.size_setCell, World.size_drew, size_drewN_] at hcw hfw hsw)))
  go_ret
  exact ⟨rfl, by (repeat (first | with_reducible exact Below.refl _ _ | with_reducible assumption | with_reducible refine below_drewN ?_ _ | with_reducible refine Below.drew ?_ | with_reducible refine below_alloc ?_ _ | (with_reducible refine Below.setCell ?_ (by first | (simp; done) | omega | (simp; omega)) _) | with_reducible refine belows ?_ (by assumption)))⟩
set_option maxHeartbeats 8000000 in
set_option maxRecDepth 100000 in
theorem walk_ff (sb st p y m a : BitVec 64) (g : Bool) (h1 : mkOk sb st p y sb = false) (h2 : rtF m a = false) (w : World) : Calls Try.prog 4 #[.agg #[.int .u64 (U sb), .int .u64 (U st), .int .u64 (U p), .int .u64 (U y)], .agg #[.bool g, .int .u64 (U m), .int .u64 (U a)]] w fun r w' => r = .returned (.bool true) ∧ Below w.heap.size w w' := by
  have cm : ∀ w : World, Calls Try.prog 9 #[.agg #[.int .u64 (U sb), .int .u64 (U st), .int .u64 (U p), .int .u64 (U y)], .int .u64 (U sb)] w fun r w' => r = .returned (.tuple #[.agg #[.bool false, .int .u64 (U (mkM sb st p y sb)), .int .u64 (U (mkA sb st p y sb))], .bool false]) ∧ Below w.heap.size w w' := fun w => (make_any sb st p y sb w).mono fun _ _ q => ⟨by rw [q.1, h1], q.2⟩
  have dr : ∀ w : World, Calls Try.prog 16 #[.agg #[.bool g, .int .u64 (U m), .int .u64 (U a)]] w fun r w' => r = .returned (.bool false) ∧ Below w.heap.size w w' := fun w => (right_any g m a w).mono fun _ _ q => ⟨by rw [q.1, h2], q.2⟩
  clear h1 h2
  go_enter Try.func4, Try.ntmps4
  go_wp2_with (first | (go_at_call 9; (with_reducible refine (cm _).mono ?_); rintro e w' ⟨rfl, hbl⟩; obtain ⟨hcw, hfw, hsw⟩ := below_ifs hbl; (try simp only [World.size_alloc, World.size_setCell, World.size_drew, size_drewN_] at hcw hfw hsw)) | (go_at_call 16; (with_reducible refine (dr _).mono ?_); rintro e w' ⟨rfl, hbl⟩; obtain ⟨hcw, hfw, hsw⟩ := below_ifs hbl; (try simp only [World.size_alloc, World.size_setCell, World.size_drew, size_drewN_] at hcw hfw hsw)) | (go_at_call 14; (with_reducible refine (one_any _).mono ?_); rintro e w' ⟨rfl, hbl⟩; obtain ⟨hcw, hfw, hsw⟩ := below_ifs hbl; (try simp only [World.size_alloc, World.size_setCell, World.size_drew, size_drewN_] at hcw hfw hsw)))
  go_ret
  exact ⟨rfl, by (repeat (first | with_reducible exact Below.refl _ _ | with_reducible assumption | with_reducible refine below_drewN ?_ _ | with_reducible refine Below.drew ?_ | with_reducible refine below_alloc ?_ _ | (with_reducible refine Below.setCell ?_ (by first | (simp; done) | omega | (simp; omega)) _) | with_reducible refine belows ?_ (by assumption)))⟩
set_option maxHeartbeats 8000000 in
set_option maxRecDepth 100000 in
theorem walk_ftt (sb st p y m a : BitVec 64) (g : Bool) (h1 : mkOk sb st p y sb = false) (h2 : rtF m a = true) (h3 : mkOk (lkB m a) (lkT m a) (mP m) (mY m) a = true) (w : World) : Calls Try.prog 4 #[.agg #[.int .u64 (U sb), .int .u64 (U st), .int .u64 (U p), .int .u64 (U y)], .agg #[.bool g, .int .u64 (U m), .int .u64 (U a)]] w fun r w' => r = .returned (.bool true) ∧ Below w.heap.size w w' := by
  have cm : ∀ w : World, Calls Try.prog 9 #[.agg #[.int .u64 (U sb), .int .u64 (U st), .int .u64 (U p), .int .u64 (U y)], .int .u64 (U sb)] w fun r w' => r = .returned (.tuple #[.agg #[.bool false, .int .u64 (U (mkM sb st p y sb)), .int .u64 (U (mkA sb st p y sb))], .bool false]) ∧ Below w.heap.size w w' := fun w => (make_any sb st p y sb w).mono fun _ _ q => ⟨by rw [q.1, h1], q.2⟩
  have dr : ∀ w : World, Calls Try.prog 16 #[.agg #[.bool g, .int .u64 (U m), .int .u64 (U a)]] w fun r w' => r = .returned (.bool true) ∧ Below w.heap.size w w' := fun w => (right_any g m a w).mono fun _ _ q => ⟨by rw [q.1, h2], q.2⟩
  have dl : ∀ w : World, Calls Try.prog 15 #[.agg #[.bool g, .int .u64 (U m), .int .u64 (U a)]] w fun r w' => r = .returned (.tuple #[.agg #[.int .u64 (U (lkB m a)), .int .u64 (U (lkT m a)), .int .u64 (U (mP m)), .int .u64 (U (mY m))], .bool (lkOk m a)]) ∧ Below w.heap.size w w' := fun w => look_any g m a w
  have dm : ∀ w : World, Calls Try.prog 9 #[.agg #[.int .u64 (U (lkB m a)), .int .u64 (U (lkT m a)), .int .u64 (U (mP m)), .int .u64 (U (mY m))], .int .u64 (U a)] w fun r w' => r = .returned (.tuple #[.agg #[.bool false, .int .u64 (U m), .int .u64 (U a)], .bool true]) ∧ Below w.heap.size w w' := fun w => (make_any _ _ _ _ a w).mono fun _ _ q => ⟨by rw [q.1, h3, right_made h2, if_pos h3]; unfold mkA; rw [if_pos h3], q.2⟩
  clear h1 h2 h3
  go_enter Try.func4, Try.ntmps4
  go_wp2_with (first | (go_at_call 9; (with_reducible refine (cm _).mono ?_); rintro e w' ⟨rfl, hbl⟩; obtain ⟨hcw, hfw, hsw⟩ := below_ifs hbl; (try simp only [World.size_alloc, World.size_setCell, World.size_drew, size_drewN_] at hcw hfw hsw)) | (go_at_call 16; (with_reducible refine (dr _).mono ?_); rintro e w' ⟨rfl, hbl⟩; obtain ⟨hcw, hfw, hsw⟩ := below_ifs hbl; (try simp only [World.size_alloc, World.size_setCell, World.size_drew, size_drewN_] at hcw hfw hsw)) | (go_at_call 15; (with_reducible refine (dl _).mono ?_); rintro e w' ⟨rfl, hbl⟩; obtain ⟨hcw, hfw, hsw⟩ := below_ifs hbl; (try simp only [World.size_alloc, World.size_setCell, World.size_drew, size_drewN_] at hcw hfw hsw)) | (go_at_call 9; (with_reducible refine (dm _).mono ?_); rintro e w' ⟨rfl, hbl⟩; obtain ⟨hcw, hfw, hsw⟩ := below_ifs hbl; (try simp only [World.size_alloc, World.size_setCell, World.size_drew, size_drewN_] at hcw hfw hsw)) | (go_at_call 14; (with_reducible refine (one_any _).mono ?_); rintro e w' ⟨rfl, hbl⟩; obtain ⟨hcw, hfw, hsw⟩ := below_ifs hbl; (try simp only [World.size_alloc, World.size_setCell, World.size_drew, size_drewN_] at hcw hfw hsw)))
  go_ret
  exact ⟨rfl, by (repeat (first | with_reducible exact Below.refl _ _ | with_reducible assumption | with_reducible refine below_drewN ?_ _ | with_reducible refine Below.drew ?_ | with_reducible refine below_alloc ?_ _ | (with_reducible refine Below.setCell ?_ (by first | (simp; done) | omega | (simp; omega)) _) | with_reducible refine belows ?_ (by assumption)))⟩
set_option maxHeartbeats 8000000 in
set_option maxRecDepth 100000 in
theorem walk_ftf (sb st p y m a : BitVec 64) (g : Bool) (h1 : mkOk sb st p y sb = false) (h2 : rtF m a = true) (h3 : mkOk (lkB m a) (lkT m a) (mP m) (mY m) a = false) (w : World) : Calls Try.prog 4 #[.agg #[.int .u64 (U sb), .int .u64 (U st), .int .u64 (U p), .int .u64 (U y)], .agg #[.bool g, .int .u64 (U m), .int .u64 (U a)]] w fun r w' => r = .returned (.bool true) ∧ Below w.heap.size w w' := by
  have cm : ∀ w : World, Calls Try.prog 9 #[.agg #[.int .u64 (U sb), .int .u64 (U st), .int .u64 (U p), .int .u64 (U y)], .int .u64 (U sb)] w fun r w' => r = .returned (.tuple #[.agg #[.bool false, .int .u64 (U (mkM sb st p y sb)), .int .u64 (U (mkA sb st p y sb))], .bool false]) ∧ Below w.heap.size w w' := fun w => (make_any sb st p y sb w).mono fun _ _ q => ⟨by rw [q.1, h1], q.2⟩
  have dr : ∀ w : World, Calls Try.prog 16 #[.agg #[.bool g, .int .u64 (U m), .int .u64 (U a)]] w fun r w' => r = .returned (.bool true) ∧ Below w.heap.size w w' := fun w => (right_any g m a w).mono fun _ _ q => ⟨by rw [q.1, h2], q.2⟩
  have dl : ∀ w : World, Calls Try.prog 15 #[.agg #[.bool g, .int .u64 (U m), .int .u64 (U a)]] w fun r w' => r = .returned (.tuple #[.agg #[.int .u64 (U (lkB m a)), .int .u64 (U (lkT m a)), .int .u64 (U (mP m)), .int .u64 (U (mY m))], .bool (lkOk m a)]) ∧ Below w.heap.size w w' := fun w => look_any g m a w
  have dm : ∀ w : World, Calls Try.prog 9 #[.agg #[.int .u64 (U (lkB m a)), .int .u64 (U (lkT m a)), .int .u64 (U (mP m)), .int .u64 (U (mY m))], .int .u64 (U a)] w fun r w' => r = .returned (.tuple #[.agg #[.bool false, .int .u64 (U (mkM (lkB m a) (lkT m a) (mP m) (mY m) a)), .int .u64 (U (mkA (lkB m a) (lkT m a) (mP m) (mY m) a))], .bool false]) ∧ Below w.heap.size w w' := fun w => (make_any _ _ _ _ a w).mono fun _ _ q => ⟨by rw [q.1, h3], q.2⟩
  clear h1 h2 h3
  go_enter Try.func4, Try.ntmps4
  go_wp2_with (first | (go_at_call 9; (with_reducible refine (cm _).mono ?_); rintro e w' ⟨rfl, hbl⟩; obtain ⟨hcw, hfw, hsw⟩ := below_ifs hbl; (try simp only [World.size_alloc, World.size_setCell, World.size_drew, size_drewN_] at hcw hfw hsw)) | (go_at_call 16; (with_reducible refine (dr _).mono ?_); rintro e w' ⟨rfl, hbl⟩; obtain ⟨hcw, hfw, hsw⟩ := below_ifs hbl; (try simp only [World.size_alloc, World.size_setCell, World.size_drew, size_drewN_] at hcw hfw hsw)) | (go_at_call 15; (with_reducible refine (dl _).mono ?_); rintro e w' ⟨rfl, hbl⟩; obtain ⟨hcw, hfw, hsw⟩ := below_ifs hbl; (try simp only [World.size_alloc, World.size_setCell, World.size_drew, size_drewN_] at hcw hfw hsw)) | (go_at_call 9; (with_reducible refine (dm _).mono ?_); rintro e w' ⟨rfl, hbl⟩; obtain ⟨hcw, hfw, hsw⟩ := below_ifs hbl; (try simp only [World.size_alloc, World.size_setCell, World.size_drew, size_drewN_] at hcw hfw hsw)) | (go_at_call 14; (with_reducible refine (one_any _).mono ?_); rintro e w' ⟨rfl, hbl⟩; obtain ⟨hcw, hfw, hsw⟩ := below_ifs hbl; (try simp only [World.size_alloc, World.size_setCell, World.size_drew, size_drewN_] at hcw hfw hsw)))
  go_ret
  exact ⟨rfl, by (repeat (first | with_reducible exact Below.refl _ _ | with_reducible assumption | with_reducible refine below_drewN ?_ _ | with_reducible refine Below.drew ?_ | with_reducible refine below_alloc ?_ _ | (with_reducible refine Below.setCell ?_ (by first | (simp; done) | omega | (simp; omega)) _) | with_reducible refine belows ?_ (by assumption)))⟩
theorem walk (sb st p y m a : BitVec 64) (g : Bool) (w : World) : Calls Try.prog 4 #[.agg #[.int .u64 (U sb), .int .u64 (U st), .int .u64 (U p), .int .u64 (U y)], .agg #[.bool g, .int .u64 (U m), .int .u64 (U a)]] w fun r w' => r = .returned (.bool true) ∧ Below w.heap.size w w' := by
  cases h1 : mkOk sb st p y sb
  all_goals cases h2 : rtF m a
  · exact walk_ff sb st p y m a g h1 h2 w
  · cases h3 : mkOk (lkB m a) (lkT m a) (mP m) (mY m) a
    · exact walk_ftf sb st p y m a g h1 h2 h3 w
    · exact walk_ftt sb st p y m a g h1 h2 h3 w
  · exact walk_tf sb st p y m a g h1 h2 w
  · cases h3 : mkOk (lkB m a) (lkT m a) (mP m) (mY m) a
    · exact walk_ttf sb st p y m a g h1 h2 h3 w
    · exact walk_ttt sb st p y m a g h1 h2 h3 w

set_option maxRecDepth 100000 in
theorem lifted (os : Os) (started : os.Started) (H : Type) (enc : TypeId × Value → H) :
    ReturnsInHanded {} Try.checked os 4 .any (Rows.capabBackSpec.pre6 enc Try.prog Try.f4 Rows.capabBackRow.domain false) (Rows.capabBackSpec.post enc Try.prog Try.f4 false true false false) := by
  refine law_lift (C := Try.checked) (tb := 4) started (by kernel_rfl) (by kernel_rfl) Try.func4 rfl rfl Try.underlying4 (by kernel_rfl) (by kernel_rfl)
    (fun ds h => by match ds, h with | [_, _], _ => rfl)
    (ChangeSpec.witness6 (enc := enc) (C := Try.checked) false ⟨#[], #[.agg #[.int .u64 0, .int .u64 0, .int .u64 0, .int .u64 0], .agg #[.bool false, .int .u64 0, .int .u64 0]], []⟩ 8 (by kernel_rfl) (by kernel_rfl) (by kernel_rfl) (by kernel_rfl)) ?_
  intro W base args ds ps hval hA hlt hfz hsz
  rw [Try.params4] at hA hval hsz
  obtain ⟨v0, v1, d0, d1, p0, p1, rfl, rfl, rfl, h0, h1⟩ := trodAll_two hA
  obtain ⟨na, wa, nb, wb, nc, wc, nd, wd, rfl⟩ := open_leaves (d := 5) (ls := [.int .u64, .int .u64, .int .u64, .int .u64]) (by kernel_rfl) (by kernel_rfl) (hval 0 _ v0 rfl rfl) h0
  obtain ⟨g, ne, we, nf, wf, rfl⟩ := open_leaves (d := 5) (ls := [.bool, .int .u64, .int .u64]) (by kernel_rfl) (by kernel_rfl) (hval 1 _ v1 rfl rfl) h1
  obtain ⟨a, rfl⟩ := exists_U na wa
  obtain ⟨b, rfl⟩ := exists_U nb wb
  obtain ⟨c, rfl⟩ := exists_U nc wc
  obtain ⟨d, rfl⟩ := exists_U nd wd
  obtain ⟨m, rfl⟩ := exists_U ne we
  obtain ⟨x, rfl⟩ := exists_U nf wf
  exact walk a b c d m x g W

theorem over : Rows.capabBackRow.holds Try.pinned (OpenSpec.ofChange Rows.capabBackSpec) :=
  OpenClaim.holds_of_wide 4 Try.f4 rfl rfl rfl rfl rfl rfl rfl ⟨rfl, rfl, rfl, rfl, rfl⟩ rfl rfl rfl rfl rfl (by kernel_rfl) Try.func4 (by kernel_rfl)
    (of_decide_eq_true (by kernel_rfl)) (by unfold Func.isWrapper; first | (rw [if_pos (by decide +kernel)]; kernel_rfl) | (rw [if_neg (by decide +kernel)]; exact ⟨rfl, rfl⟩))
    (fun os started H enc _ => lifted os started H enc)

theorem proved : Rows.CapabBackSaid := over
end Go.Proofs.Ytikpkoeeinkecaa.Back
