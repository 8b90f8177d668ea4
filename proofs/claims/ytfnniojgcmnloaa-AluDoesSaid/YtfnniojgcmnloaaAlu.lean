
/-
  Package alu, function by function.
-/
import Derived.Test.YtfnniojgcmnloaaField
namespace Go.Proofs.Ytfnniojgcmnloaa
open Go Go.RowKit
set_option linter.unusedVariables false

def toldF (b : Bool) : BitVec 64 := if b = true then 1#64 else 0#64
theorem told_any (b : Bool) (w : World) : Calls Try.prog 21 #[.bool b] w fun e w' => e = .returned (.int .u64 (U (toldF b))) ∧ w = w' := by
  cases b
  all_goals go_enter Try.func21, Try.ntmps21
  all_goals go_wp2
  all_goals go_ret
  all_goals exact ⟨rfl, rfl⟩

/-- What an instruction makes of two numbers. -/
def doV (op : Int) (a b : BitVec 64) : BitVec 64 :=
  if op = 31 ∨ op = 22 then a + b
  else if op = 32 then a - b
  else if op = 40 ∨ op = 27 then a &&& b
  else if op = 39 ∨ op = 26 then a ||| b
  else if op = 36 ∨ op = 25 then a ^^^ b
  else if op = 33 ∨ op = 28 then a <<< (U (b % 64#64)).toNat
  else if op = 37 ∨ op = 29 then a >>> (U (b % 64#64)).toNat
  else if op = 38 ∨ op = 30 then a.sshiftRight (U (b % 64#64)).toNat
  else if op = 34 ∨ op = 23 then toldF (decide (S a < S b))
  else if op = 35 ∨ op = 24 then toldF (decide (U a < U b))
  else 0#64
def doOk (op : Int) : Bool := decide (22 ≤ op) && decide (op ≤ 40)
set_option maxHeartbeats 4000000 in
theorem do_any (op : Int) (a b : BitVec 64) (w : World) :
    Calls Try.prog 8 #[.int .i64 op, .int .u64 (U a), .int .u64 (U b)] w fun e w' => e = .returned (.tuple #[.int .u64 (U (doV op a b)), .bool (doOk op)]) ∧ w = w' := by
  go_enter Try.func8, Try.ntmps8
  go_wp2_with (go_at_call 21; (with_reducible refine (told_any _ _).mono ?_); rintro e w' ⟨rfl, rfl⟩)
  all_goals go_ret2
  all_goals refine ⟨?_, rfl⟩
  all_goals simp only [beq_iff_eq, beq_eq_false_iff_ne] at *
  all_goals first | (subst op; rfl) | (have e : doOk op = false := (by rw [Bool.eq_false_iff]; unfold doOk; simp; omega); rw [e]; unfold doV; (repeat rw [if_neg (by omega)]); rfl)

def takesV (op : Int) (a b : BitVec 64) : Bool :=
  if op = 5 then a == b
  else if op = 6 then a != b
  else if op = 7 then decide (S a < S b)
  else if op = 8 then !decide (S a < S b)
  else if op = 9 then decide (U a < U b)
  else if op = 10 then !decide (U a < U b)
  else false
def takesOk (op : Int) : Bool := decide (5 ≤ op) && decide (op ≤ 10)
theorem less_any (s : Bool) (a b : BitVec 64) (c d : Nat) (w : World) (hc : w.cell? ⟨c, 0, none⟩ = some (.int .u64 (U a))) (hd : w.cell? ⟨d, 0, none⟩ = some (.int .u64 (U b))) :
    Calls Try.prog 22 #[.bool s, .pointer (some ⟨c, 0, none⟩), .pointer (some ⟨d, 0, none⟩)] w fun e w' => e = .returned (.bool (if s = true then decide (S a < S b) else decide (U a < U b))) ∧ w = w' := by
  cases s
  all_goals go_enter Try.func22, Try.ntmps22
  all_goals go_wp2
  all_goals go_ret
  all_goals exact ⟨rfl, rfl⟩
theorem less_s (a b : BitVec 64) (w : World) (t1 t2 : TypeId) :
    Calls Try.prog 22 #[.bool true, .pointer (some ⟨w.heap.size, 0, none⟩), .pointer (some ⟨w.heap.size + 1, 0, none⟩)] ((w.alloc (.cells #[.int .u64 (U a)] t1)).alloc (.cells #[.int .u64 (U b)] t2)) fun e w' => e = .returned (.bool (decide (S a < S b))) ∧ (w.alloc (.cells #[.int .u64 (U a)] t1)).alloc (.cells #[.int .u64 (U b)] t2) = w' :=
  less_any true a b _ _ _ (by simp) (by simp)
theorem less_u (a b : BitVec 64) (w : World) (t1 t2 : TypeId) :
    Calls Try.prog 22 #[.bool false, .pointer (some ⟨w.heap.size, 0, none⟩), .pointer (some ⟨w.heap.size + 1, 0, none⟩)] ((w.alloc (.cells #[.int .u64 (U a)] t1)).alloc (.cells #[.int .u64 (U b)] t2)) fun e w' => e = .returned (.bool (decide (U a < U b))) ∧ (w.alloc (.cells #[.int .u64 (U a)] t1)).alloc (.cells #[.int .u64 (U b)] t2) = w' :=
  less_any false a b _ _ _ (by simp) (by simp)
set_option maxHeartbeats 4000000 in
theorem takes_any (op : Int) (a b : BitVec 64) (w : World) :
    Calls Try.prog 10 #[.int .i64 op, .int .u64 (U a), .int .u64 (U b)] w fun e w' => e = .returned (.tuple #[.bool (takesV op a b), .bool (takesOk op)]) ∧ Below w.heap.size w w' := by
  go_enter Try.func10, Try.ntmps10
  go_wp2_with (first | (go_at_call 22; (with_reducible refine (less_s _ _ _ _ _).mono ?_); rintro e w' ⟨rfl, rfl⟩) | (go_at_call 22; (with_reducible refine (less_u _ _ _ _ _).mono ?_); rintro e w' ⟨rfl, rfl⟩))
  all_goals go_ret2
  all_goals refine ⟨?_, ((Below.refl _ _).alloc (Nat.le_refl _) _).alloc (by simp) _⟩
  all_goals simp only [beq_iff_eq, beq_eq_false_iff_ne] at *
  all_goals first | (subst op; rfl) | (have e : takesOk op = false := (by rw [Bool.eq_false_iff]; unfold takesOk; simp; omega); rw [e]; unfold takesV; (repeat rw [if_neg (by omega)]); rfl)

theorem loads_any (op : Int) (w : World) : Calls Try.prog 17 #[.int .i64 op] w fun e w' => e = .returned (.bool (decide (11 ≤ op) && decide (op ≤ 17))) ∧ w = w' := by
  go_enter Try.func17, Try.ntmps17
  go_wp2
  all_goals go_ret
  all_goals exact ⟨ret_bool (by rw [Bool.eq_iff_iff]; simp; try omega), rfl⟩
theorem stores_any (op : Int) (w : World) : Calls Try.prog 18 #[.int .i64 op] w fun e w' => e = .returned (.bool (decide (18 ≤ op) && decide (op ≤ 21))) ∧ w = w' := by
  go_enter Try.func18, Try.ntmps18
  go_wp2
  all_goals go_ret
  all_goals exact ⟨ret_bool (by rw [Bool.eq_iff_iff]; simp; try omega), rfl⟩
theorem branches_any (op : Int) (w : World) : Calls Try.prog 19 #[.int .i64 op] w fun e w' => e = .returned (.bool (decide (5 ≤ op) && decide (op ≤ 10))) ∧ w = w' := by
  go_enter Try.func19, Try.ntmps19
  go_wp2
  all_goals go_ret
  all_goals exact ⟨ret_bool (by rw [Bool.eq_iff_iff]; simp; try omega), rfl⟩
theorem immediate_any (op : Int) (w : World) : Calls Try.prog 20 #[.int .i64 op] w fun e w' => e = .returned (.bool (decide (22 ≤ op) && decide (op ≤ 30))) ∧ w = w' := by
  go_enter Try.func20, Try.ntmps20
  go_wp2
  all_goals go_ret
  all_goals exact ⟨ret_bool (by rw [Bool.eq_iff_iff]; simp; try omega), rfl⟩

/-- How many bytes are loaded, or stored. -/
def widthF (op : Int) : Int :=
  if op = 11 ∨ op = 15 ∨ op = 18 then 1 else if op = 12 ∨ op = 16 ∨ op = 19 then 2 else if op = 13 ∨ op = 17 ∨ op = 20 then 4 else if op = 14 ∨ op = 21 then 8 else if op = 43 ∨ op = 44 then 16 else 0
theorem widthF_le (op : Int) : 0 ≤ widthF op ∧ widthF op ≤ 16 := by
  unfold widthF
  repeat (split; omega)
  omega
theorem op_cases (op : Int) : (op = 11 ∨ op = 12 ∨ op = 13 ∨ op = 14 ∨ op = 15 ∨ op = 16 ∨ op = 17) ∨ (op = 18 ∨ op = 19 ∨ op = 20 ∨ op = 21) ∨ (op = 43 ∨ op = 44) ∨ ((op < 11 ∨ 21 < op) ∧ op ≠ 43 ∧ op ≠ 44) := by omega
set_option maxHeartbeats 4000000 in
theorem width_any (op : Int) (hb : -9223372036854775808 ≤ op ∧ op ≤ 9223372036854775807) (w : World) : Calls Try.prog 11 #[.int .i64 op] w fun e w' => e = .returned (.int .i64 (widthF op)) ∧ Below w.heap.size w w' := by
  rcases op_cases op with h | h | h | ⟨h, h1, h2⟩
  · rcases h with rfl | rfl | rfl | rfl | rfl | rfl | rfl
    all_goals
      go_enter Try.func11, Try.ntmps11
      go_wp2_with (first | (go_at_call 17; (with_reducible refine (loads_any _ _).mono ?_); rintro e w' ⟨rfl, rfl⟩) | (go_at_call 18; (with_reducible refine (stores_any _ _).mono ?_); rintro e w' ⟨rfl, rfl⟩))
      go_ret
      exact ⟨rfl, ((Below.refl _ _).alloc (Nat.le_refl _) _).alloc (by simp) _⟩
  · rcases h with rfl | rfl | rfl | rfl
    all_goals
      go_enter Try.func11, Try.ntmps11
      go_wp2_with (first | (go_at_call 17; (with_reducible refine (loads_any _ _).mono ?_); rintro e w' ⟨rfl, rfl⟩) | (go_at_call 18; (with_reducible refine (stores_any _ _).mono ?_); rintro e w' ⟨rfl, rfl⟩))
      go_ret
      exact ⟨rfl, ((Below.refl _ _).alloc (Nat.le_refl _) _).alloc (by simp) _⟩
  · rcases h with rfl | rfl
    all_goals
      go_enter Try.func11, Try.ntmps11
      go_wp2_with (first | (go_at_call 17; (with_reducible refine (loads_any _ _).mono ?_); rintro e w' ⟨rfl, rfl⟩) | (go_at_call 18; (with_reducible refine (stores_any _ _).mono ?_); rintro e w' ⟨rfl, rfl⟩))
      go_ret
      exact ⟨rfl, ((Below.refl _ _).alloc (Nat.le_refl _) _).alloc (by simp) _⟩
  · have e0 : widthF op = 0 := by unfold widthF; (repeat rw [if_neg (by omega)])
    have e1 : (decide (11 ≤ op) && decide (op ≤ 17)) = false := by rw [Bool.eq_false_iff]; simp; omega
    have e2 : (decide (18 ≤ op) && decide (op ≤ 21)) = false := by rw [Bool.eq_false_iff]; simp; omega
    have e3 : (op == 43) = false := by simpa using h1
    have e4 : (op == 44) = false := by simpa using h2
    have l1 : ∀ w : World, Calls Try.prog 17 #[.int .i64 op] w fun e w' => e = .returned (.bool false) ∧ w = w' := fun w => (loads_any op w).mono fun _ _ h => ⟨by rw [h.1, e1], h.2⟩
    have l2 : ∀ w : World, Calls Try.prog 18 #[.int .i64 op] w fun e w' => e = .returned (.bool false) ∧ w = w' := fun w => (stores_any op w).mono fun _ _ h => ⟨by rw [h.1, e2], h.2⟩
    have L1 := Lib.hid l1
    have L2 := Lib.hid l2
    have E0 := Lib.hid e0
    clear l1 l2 e0 e1 e2 h h1 h2
    go_enter Try.func11, Try.ntmps11
    go_wp2_with (first | (go_at_call 17; (with_reducible refine (L1.out _).mono ?_); rintro e w' ⟨rfl, rfl⟩) | (go_at_call 18; (with_reducible refine (L2.out _).mono ?_); rintro e w' ⟨rfl, rfl⟩))
    go_ret
    exact ⟨by rw [E0.out]; rfl, ((Below.refl _ _).alloc (Nat.le_refl _) _).alloc (by simp) _⟩

/-- What a load makes of them. -/
def extendF (op : Int) (v : BitVec 64) : BitVec 64 := if 11 ≤ op ∧ op ≤ 14 then sgnF v (8 * widthF op) else if 15 ≤ op ∧ op ≤ 17 then getF v 0 (8 * widthF op) else 0#64
set_option maxHeartbeats 4000000 in
theorem extend_any (op : Int) (v : BitVec 64) (hb : -9223372036854775808 ≤ op ∧ op ≤ 9223372036854775807) (w : World) : Calls Try.prog 12 #[.int .i64 op, .int .u64 (U v)] w fun e w' => e = .returned (.int .u64 (U (extendF op v))) ∧ Below w.heap.size w w' := by
  have hw := widthF_le op
  have hc : (op = 11 ∨ op = 12 ∨ op = 13 ∨ op = 14) ∨ (op = 15 ∨ op = 16 ∨ op = 17) ∨ (op < 11 ∨ 17 < op) := by omega
  go_enter Try.func12, Try.ntmps12
  go_wp2_with (first | (go_at_call 11; (with_reducible refine (width_any _ hb _).mono ?_); rintro e w' ⟨rfl, hbl⟩) | (go_at_call 23; (with_reducible refine (sign_any _ _ _).mono ?_); rintro e w' ⟨rfl, rfl⟩) | (go_at_call 24; (with_reducible refine (get_any _ _ _ _).mono ?_); rintro e w' ⟨rfl, kd, rfl⟩))
  all_goals go_ret
  all_goals refine ⟨?_, by first | exact hbl | exact below_drewN hbl _⟩
  all_goals simp only [beq_iff_eq, beq_eq_false_iff_ne] at *
  all_goals first | (subst op; rfl) | (unfold extendF; rw [if_neg (by omega), if_neg (by omega)]; rfl)
end Go.Proofs.Ytfnniojgcmnloaa
