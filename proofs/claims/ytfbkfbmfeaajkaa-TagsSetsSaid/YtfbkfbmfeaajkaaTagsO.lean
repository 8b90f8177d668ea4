
/-
  Sets without others, whether there is one, how many there are.
-/
import Derived.Test.YtfbkfbmfeaajkaaTagsE
import Derived.Test.YtfbkfbmfeaajkaaTail
namespace Go.Proofs.Ytfbkfbmfeaajkaa
open Go Go.RowKit
set_option linter.unusedVariables false
set_option linter.unusedSimpArgs false

set_option maxHeartbeats 4000000 in
set_option maxRecDepth 100000 in
theorem without_raw (f g : Nat → Bool) (w : World) : Calls Try.prog 18 #[.agg #[.int .u64 (U (wd f 0)), .int .u64 (U (wd f 1)), .int .u64 (U (wd f 2)), .int .u64 (U (wd f 3))], .agg #[.int .u64 (U (wd g 0)), .int .u64 (U (wd g 1)), .int .u64 (U (wd g 2)), .int .u64 (U (wd g 3))]] w fun r w' => r = .returned (.agg #[.int .u64 (U (wd f 0 &&& ~~~ (wd g 0))), .int .u64 (U (wd f 1 &&& ~~~ (wd g 1))), .int .u64 (U (wd f 2 &&& ~~~ (wd g 2))), .int .u64 (U (wd f 3 &&& ~~~ (wd g 3)))]) ∧ Below w.heap.size w w' := by
  go_enter Try.func18, Try.ntmps18
  go_wp2_with fail
  refine wp_loop_rounds 5 ?_
  rw [rounds_succ]
  go_wp2_with fail
  go_region
  all_goals go_wp2_with fail
  rw [rounds_succ]
  go_wp2_with fail
  go_region
  all_goals go_wp2_with fail
  rw [rounds_succ]
  go_wp2_with fail
  go_region
  all_goals go_wp2_with fail
  rw [rounds_succ]
  go_wp2_with fail
  go_region
  all_goals go_wp2_with fail
  rw [rounds_succ]
  go_wp2_with fail
  refine ret_c Try.results18 rfl rfl Try.underlying26 rfl (by kernel_rfl) (by (repeat (first | with_reducible exact Below.refl _ _ | with_reducible assumption | with_reducible refine below_drewN ?_ _ | with_reducible refine Below.drew ?_ | with_reducible refine below_alloc ?_ _ | (with_reducible refine Below.setCell ?_ (by first | (simp; done) | omega | (simp; omega)) _) | with_reducible refine belows ?_ (by assumption)))) ?_
  (first | (go_simp; done) | (go_simp; (simp [↓IntWalk.iteOmega]; done)) | (go_simp; intros; omega) | (go_simp; simp [↓IntWalk.iteOmega]; intros; omega))
theorem wd_without (f g : Nat → Bool) (k : Nat) : wd f k &&& ~~~ (wd g k) = wd (fun j => f j && !g j) k := (wd_of fun j hj => by
  rw [BitVec.getLsbD_and, BitVec.getLsbD_not, decide_eq_true hj, Bool.true_and, wd_bit _ _ _ hj, wd_bit _ _ _ hj]).symm
theorem without_any (f g : Nat → Bool) (w : World) : Calls Try.prog 18 #[.agg #[.int .u64 (U (wd f 0)), .int .u64 (U (wd f 1)), .int .u64 (U (wd f 2)), .int .u64 (U (wd f 3))], .agg #[.int .u64 (U (wd g 0)), .int .u64 (U (wd g 1)), .int .u64 (U (wd g 2)), .int .u64 (U (wd g 3))]] w fun r w' => r = .returned (.agg #[.int .u64 (U (wd (fun j => f j && !g j) 0)), .int .u64 (U (wd (fun j => f j && !g j) 1)), .int .u64 (U (wd (fun j => f j && !g j) 2)), .int .u64 (U (wd (fun j => f j && !g j) 3))]) ∧ Below w.heap.size w w' := by
  have h := without_raw f g w
  rw [wd_without f g 0, wd_without f g 1, wd_without f g 2, wd_without f g 3] at h
  exact h
def anyS (f : Nat → Bool) : Bool := !(wd f 0 == 0#64) || (!(wd f 1 == 0#64) || (!(wd f 2 == 0#64) || !(wd f 3 == 0#64)))
theorem zero_neq (a b c d : BitVec 64) (w : World) : (binOp .neq 26 (.agg #[.int .u64 (U a), .int .u64 (U b), .int .u64 (U c), .int .u64 (U d)]) (.agg #[.int .u64 0, .int .u64 0, .int .u64 0, .int .u64 0])).run Try.prog w = .ok (.bool (!(a == 0#64 && (b == 0#64 && (c == 0#64 && d == 0#64))))) w := set_neq a b c d 0#64 0#64 0#64 0#64 w
attribute [go_sem 3000] zero_neq
set_option maxHeartbeats 4000000 in
set_option maxRecDepth 100000 in
theorem any_any (f : Nat → Bool) (w : World) : Calls Try.prog 13 #[.agg #[.int .u64 (U (wd f 0)), .int .u64 (U (wd f 1)), .int .u64 (U (wd f 2)), .int .u64 (U (wd f 3))]] w fun r w' => r = .returned (.bool (anyS f)) ∧ Below w.heap.size w w' := by
  go_enter Try.func13, Try.ntmps13
  go_wp2_with fail
  go_ret
  exact ⟨rfl, by (repeat (first | with_reducible exact Below.refl _ _ | with_reducible assumption | with_reducible refine below_drewN ?_ _ | with_reducible refine Below.drew ?_ | with_reducible refine below_alloc ?_ _ | (with_reducible refine Below.setCell ?_ (by first | (simp; done) | omega | (simp; omega)) _) | with_reducible refine belows ?_ (by assumption)))⟩
/-- How many bits are 1, as it is reckoned. -/
def popW (x : BitVec 64) : BitVec 64 :=
  let a := ((x >>> 1) &&& 6148914691236517205#64) + (x &&& 6148914691236517205#64)
  let b := ((a >>> 2) &&& 3689348814741910323#64) + (a &&& 3689348814741910323#64)
  let c := ((b >>> 4) + b) &&& 1085102592571150095#64
  let d := c + (c >>> 8)
  let e := d + (d >>> 16)
  e + (e >>> 32)
def popI (x : BitVec 64) : Int := S (popW x) % 128
theorem popI_lt (x : BitVec 64) : 0 ≤ popI x ∧ popI x ≤ 127 := by unfold popI; omega
set_option maxHeartbeats 4000000 in
set_option maxRecDepth 100000 in
theorem ones_any (x : BitVec 64) (w : World) : Calls Try.prog 20 #[.int .u64 (U x)] w fun r w' => r = .returned (.int .i64 (popI x)) ∧ w = w' := by
  go_enter Try.func20, Try.ntmps20
  go_wp2_with fail
  go_ret
  refine ⟨ret_int ?_, rfl⟩
  exact and_i64 (S (popW x)) 7 127 (by omega) rfl
theorem set_at0 (v0 v1 v2 v3 : Value) (w : World) : (Instr.index 26 (.agg #[v0, v1, v2, v3]) (.int .i64 0)).run Try.prog w = .ok v0 w := by kernel_rfl
theorem set_at1 (v0 v1 v2 v3 : Value) (w : World) : (Instr.index 26 (.agg #[v0, v1, v2, v3]) (.int .i64 1)).run Try.prog w = .ok v1 w := by kernel_rfl
theorem set_at2 (v0 v1 v2 v3 : Value) (w : World) : (Instr.index 26 (.agg #[v0, v1, v2, v3]) (.int .i64 2)).run Try.prog w = .ok v2 w := by kernel_rfl
theorem set_at3 (v0 v1 v2 v3 : Value) (w : World) : (Instr.index 26 (.agg #[v0, v1, v2, v3]) (.int .i64 3)).run Try.prog w = .ok v3 w := by kernel_rfl
attribute [local go_sem 3000] set_at0 set_at1 set_at2 set_at3
def cntI (f : Nat → Bool) : Int := popI (wd f 0) + popI (wd f 1) + popI (wd f 2) + popI (wd f 3)
set_option maxHeartbeats 4000000 in
set_option maxRecDepth 100000 in
theorem count_any (f : Nat → Bool) (w : World) : Calls Try.prog 12 #[.agg #[.int .u64 (U (wd f 0)), .int .u64 (U (wd f 1)), .int .u64 (U (wd f 2)), .int .u64 (U (wd f 3))]] w fun r w' => r = .returned (.int .i64 (cntI f)) ∧ Below w.heap.size w w' := by
  have b0 := popI_lt (wd f 0)
  have b1 := popI_lt (wd f 1)
  have b2 := popI_lt (wd f 2)
  have b3 := popI_lt (wd f 3)
  unfold cntI
  go_enter Try.func12, Try.ntmps12
  go_wp2_with fail
  refine wp_loop_rounds 5 ?_
  rw [rounds_succ]
  go_wp2_with (first | (go_at_call 20; (with_reducible refine (ones_any _ _).mono ?_); rintro e w' ⟨rfl, rfl⟩))
  rw [rounds_succ]
  go_wp2_with (first | (go_at_call 20; (with_reducible refine (ones_any _ _).mono ?_); rintro e w' ⟨rfl, rfl⟩))
  rw [rounds_succ]
  go_wp2_with (first | (go_at_call 20; (with_reducible refine (ones_any _ _).mono ?_); rintro e w' ⟨rfl, rfl⟩))
  rw [rounds_succ]
  go_wp2_with (first | (go_at_call 20; (with_reducible refine (ones_any _ _).mono ?_); rintro e w' ⟨rfl, rfl⟩))
  rw [rounds_succ]
  go_wp2_with fail
  go_ret
  exact ⟨rfl, by (repeat (first | with_reducible exact Below.refl _ _ | with_reducible assumption | with_reducible refine below_drewN ?_ _ | with_reducible refine Below.drew ?_ | with_reducible refine below_alloc ?_ _ | (with_reducible refine Below.setCell ?_ (by first | (simp; done) | omega | (simp; omega)) _) | with_reducible refine belows ?_ (by assumption)))⟩
end Go.Proofs.Ytfbkfbmfeaajkaa
