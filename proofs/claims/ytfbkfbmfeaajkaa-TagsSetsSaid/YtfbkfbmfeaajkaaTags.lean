
/-
  Sets of granules (tags): a set by what is in it; Get, With.
-/
import Derived.Test.YtfbkfbmfeaajkaaProg
import Derived.Test.YtfbkfbmfeaajkaaChecked
import Derived.Test.YtfbkfbmfeaajkaaBits
import Derived.Test.YtfbkfbmfeaajkaaCells
import Derived.Test.YtfbkfbmfeaajkaaWalk
import Derived.Test.YtfbkfbmfeaajkaaRet
import Derived.Deep.QuietTactic
import Derived.BigQuiet
import Derived.BigRegion
import Derived.LoopTactic
namespace Go.Proofs.Ytfbkfbmfeaajkaa
open Go Go.RowKit
set_option linter.unusedVariables false
set_option linter.unusedSimpArgs false

/-- A word of a set, by what is in it. -/
def bitsW (f : Nat → Bool) (k : Nat) : Nat → BitVec 64
  | 0 => 0#64
  | n + 1 => bitsW f k n ||| (if f (64 * k + n) = true then 1#64 <<< n else 0#64)
def wd (f : Nat → Bool) (k : Nat) : BitVec 64 := bitsW f k 64
theorem one_bit (n j : Nat) (hj : j < 64) : (1#64 <<< n).getLsbD j = decide (j = n) := by
  rw [BitVec.getLsbD_shiftLeft, decide_eq_true hj, Bool.true_and, BitVec.getLsbD_one]
  by_cases c : j = n
  · subst c; simp
  · rw [decide_eq_false c]
    by_cases d : j < n
    · simp [d]
    · simp [d]; omega
theorem bitsW_bit (f : Nat → Bool) (k : Nat) : ∀ n j : Nat, j < 64 → (bitsW f k n).getLsbD j = (decide (j < n) && f (64 * k + j))
  | 0, j, h => by rw [bitsW, BitVec.getLsbD_zero, decide_eq_false (by omega)]; rfl
  | n + 1, j, h => by
    rw [bitsW, BitVec.getLsbD_or, bitsW_bit f k n j h]
    have e : (if f (64 * k + n) = true then 1#64 <<< n else 0#64).getLsbD j = (f (64 * k + n) && decide (j = n)) := by
      cases f (64 * k + n)
      · rw [if_neg (by decide), BitVec.getLsbD_zero]; rfl
      · rw [if_pos rfl, one_bit _ _ h]; rfl
    rw [e]
    by_cases c : j = n
    · subst c
      rw [decide_eq_false (show ¬ j < j by omega), decide_eq_true (show j < j + 1 by omega), decide_eq_true (rfl : j = j)]
      simp
    · rw [decide_eq_false c, Bool.and_false, Bool.or_false]
      by_cases d : j < n
      · rw [decide_eq_true d, decide_eq_true (show j < n + 1 by omega)]
      · rw [decide_eq_false d, decide_eq_false (show ¬ j < n + 1 by omega)]
theorem wd_bit (f : Nat → Bool) (k j : Nat) (h : j < 64) : (wd f k).getLsbD j = f (64 * k + j) := by
  unfold wd
  rw [bitsW_bit f k 64 j h, decide_eq_true h, Bool.true_and]
theorem wd_of {f : Nat → Bool} {k : Nat} {x : BitVec 64} (h : ∀ j, j < 64 → x.getLsbD j = f (64 * k + j)) : wd f k = x := by
  apply ext64
  intro j hj
  rw [wd_bit _ _ _ hj, h j hj]
theorem wd_same {f g : Nat → Bool} {k : Nat} (h : ∀ j, j < 64 → f (64 * k + j) = g (64 * k + j)) : wd f k = wd g k :=
  wd_of fun j hj => by rw [wd_bit _ _ _ hj, h j hj]
theorem bit_bne (x : BitVec 64) (k : Nat) : (x >>> k &&& 1#64 != 0#64) = x.getLsbD k := by
  have h : x >>> k &&& 1#64 = if x.getLsbD k = true then 1#64 else 0#64 := by
    apply ext64
    intro j hj
    rw [BitVec.getLsbD_and, BitVec.getLsbD_ushiftRight]
    by_cases c : j = 0
    · subst c
      rw [Nat.add_zero]
      cases x.getLsbD k <;> rfl
    · have e : (1#64).getLsbD j = false := by
        rw [BitVec.getLsbD_one]
        simp [c]
      rw [e, Bool.and_false]
      cases x.getLsbD k
      · simp
      · simp [c]
  rw [h]
  cases x.getLsbD k <;> rfl
def getS (f : Nat → Bool) (i : Int) : Bool := decide (0 ≤ i) && (decide (i < 256) && f i.toNat)
def updS (f : Nat → Bool) (i : Int) (t : Bool) : Nat → Bool := if 0 ≤ i ∧ i < 256 then (fun j => if j = i.toNat then t else f j) else f
theorem place (i : Int) (h0 : 0 ≤ i) (h1 : i < 256) : ∃ q r : Nat, (q = 0 ∨ q = 1 ∨ q = 2 ∨ q = 3) ∧ r < 64 ∧ i / 64 = (q : Int) ∧ i % 64 = (r : Int) ∧ i.toNat = 64 * q + r :=
  ⟨(i / 64).toNat, (i % 64).toNat, by omega, by omega, by omega, by omega, by omega⟩
theorem upd_out (f : Nat → Bool) (i : Int) (t : Bool) (h : ¬ (0 ≤ i ∧ i < 256)) : updS f i t = f := by unfold updS; rw [if_neg h]
theorem upd_in (f : Nat → Bool) (i : Int) (t : Bool) (h0 : 0 ≤ i) (h1 : i < 256) (j : Nat) : updS f i t j = if j = i.toNat then t else f j := by unfold updS; rw [if_pos ⟨h0, h1⟩]
theorem wd_upd_other (f : Nat → Bool) (i : Int) (t : Bool) (h0 : 0 ≤ i) (h1 : i < 256) {q r : Nat} (hi : i.toNat = 64 * q + r) (hr : r < 64) {k : Nat} (hk : k ≠ q) : wd (updS f i t) k = wd f k :=
  wd_same fun j hj => by rw [upd_in f i t h0 h1, if_neg (by omega)]
theorem wd_upd_true (f : Nat → Bool) (i : Int) (h0 : 0 ≤ i) (h1 : i < 256) {q r : Nat} (hi : i.toNat = 64 * q + r) (hr : r < 64) : wd (updS f i true) q = wd f q ||| 1#64 <<< r :=
  wd_of fun j hj => by
    rw [BitVec.getLsbD_or, one_bit _ _ hj, wd_bit _ _ _ hj, upd_in f i true h0 h1]
    by_cases c : j = r
    · subst c; rw [if_pos (by omega), decide_eq_true rfl, Bool.or_true]
    · rw [if_neg (by omega), decide_eq_false c, Bool.or_false]
theorem wd_upd_false (f : Nat → Bool) (i : Int) (h0 : 0 ≤ i) (h1 : i < 256) {q r : Nat} (hi : i.toNat = 64 * q + r) (hr : r < 64) : wd (updS f i false) q = wd f q &&& ~~~ (1#64 <<< r) :=
  wd_of fun j hj => by
    rw [BitVec.getLsbD_and, BitVec.getLsbD_not, decide_eq_true hj, Bool.true_and, one_bit _ _ hj, wd_bit _ _ _ hj, upd_in f i false h0 h1]
    by_cases c : j = r
    · subst c; rw [if_pos (by omega), decide_eq_true rfl]; simp
    · rw [if_neg (by omega), decide_eq_false c]; simp
theorem is_any (i : Int) (w : World) : Calls Try.prog 21 #[.int .i64 i] w fun r w' => r = .returned (.bool (decide (0 ≤ i) && decide (i < 256))) ∧ w = w' := by
  cases h : decide (0 ≤ i)
  all_goals
    go_enter Try.func21, Try.ntmps21
    go_wp2_with fail
    go_ret
    exact ⟨ret_bool (by simp [h]), rfl⟩
set_option maxHeartbeats 4000000 in
set_option maxRecDepth 100000 in
theorem get_out (f : Nat → Bool) (i : Int) (h : ¬ (0 ≤ i ∧ i < 256)) (w : World) : Calls Try.prog 14 #[.agg #[.int .u64 (U (wd f 0)), .int .u64 (U (wd f 1)), .int .u64 (U (wd f 2)), .int .u64 (U (wd f 3))], .int .i64 i] w fun r w' => r = .returned (.bool false) ∧ Below w.heap.size w w' := by
  have ci : ∀ w : World, Calls Try.prog 21 #[.int .i64 i] w fun r w' => r = .returned (.bool false) ∧ w = w' := fun w => (is_any i w).mono fun _ _ q => ⟨by
    rw [q.1]
    by_cases c : 0 ≤ i
    · rw [decide_eq_false (show ¬ i < 256 by omega), Bool.and_false]
    · rw [decide_eq_false c, Bool.false_and], q.2⟩
  clear h
  go_enter Try.func14, Try.ntmps14
  go_wp2_with (first | (go_at_call 21; (with_reducible refine (ci _).mono ?_); rintro e w' ⟨rfl, rfl⟩))
  go_ret
  exact ⟨rfl, by (repeat (first | with_reducible exact Below.refl _ _ | with_reducible assumption | with_reducible refine below_drewN ?_ _ | with_reducible refine Below.drew ?_ | with_reducible refine below_alloc ?_ _ | (with_reducible refine Below.setCell ?_ (by first | (simp; done) | omega | (simp; omega)) _) | with_reducible refine belows ?_ (by assumption)))⟩
set_option maxHeartbeats 4000000 in
set_option maxRecDepth 100000 in
theorem get_in (f : Nat → Bool) (i : Int) (h0 : 0 ≤ i) (h1 : i < 256) (w : World) : Calls Try.prog 14 #[.agg #[.int .u64 (U (wd f 0)), .int .u64 (U (wd f 1)), .int .u64 (U (wd f 2)), .int .u64 (U (wd f 3))], .int .i64 i] w fun r w' => r = .returned (.bool (f i.toNat)) ∧ Below w.heap.size w w' := by
  have ci : ∀ w : World, Calls Try.prog 21 #[.int .i64 i] w fun r w' => r = .returned (.bool true) ∧ w = w' := fun w => (is_any i w).mono fun _ _ q => ⟨by rw [q.1, decide_eq_true h0, decide_eq_true h1]; rfl, q.2⟩
  obtain ⟨q, r, hq, hr, e1, e2, e3⟩ := place i h0 h1
  rw [e3]
  clear e3
  have hr0 : (0 : Int) ≤ (r : Int) := by omega
  rcases hq with rfl | rfl | rfl | rfl
  · have g := bit_bne (wd f 0) r
    rw [wd_bit _ _ _ hr] at g
    generalize f (64 * 0 + r) = v at g ⊢
    have e1' : i / 64 = 0 := e1
    clear e1
    go_enter Try.func14, Try.ntmps14
    go_wp2_with (first | (go_at_call 21; (with_reducible refine (ci _).mono ?_); rintro e w' ⟨rfl, rfl⟩))
    go_ret
    exact ⟨ret_bool (by first | rfl | (simp [g]; done)), by (repeat (first | with_reducible exact Below.refl _ _ | with_reducible assumption | with_reducible refine below_drewN ?_ _ | with_reducible refine Below.drew ?_ | with_reducible refine below_alloc ?_ _ | (with_reducible refine Below.setCell ?_ (by first | (simp; done) | omega | (simp; omega)) _) | with_reducible refine belows ?_ (by assumption)))⟩
  · have g := bit_bne (wd f 1) r
    rw [wd_bit _ _ _ hr] at g
    generalize f (64 * 1 + r) = v at g ⊢
    have e1' : i / 64 = 1 := e1
    clear e1
    go_enter Try.func14, Try.ntmps14
    go_wp2_with (first | (go_at_call 21; (with_reducible refine (ci _).mono ?_); rintro e w' ⟨rfl, rfl⟩))
    go_ret
    exact ⟨ret_bool (by first | rfl | (simp [g]; done)), by (repeat (first | with_reducible exact Below.refl _ _ | with_reducible assumption | with_reducible refine below_drewN ?_ _ | with_reducible refine Below.drew ?_ | with_reducible refine below_alloc ?_ _ | (with_reducible refine Below.setCell ?_ (by first | (simp; done) | omega | (simp; omega)) _) | with_reducible refine belows ?_ (by assumption)))⟩
  · have g := bit_bne (wd f 2) r
    rw [wd_bit _ _ _ hr] at g
    generalize f (64 * 2 + r) = v at g ⊢
    have e1' : i / 64 = 2 := e1
    clear e1
    go_enter Try.func14, Try.ntmps14
    go_wp2_with (first | (go_at_call 21; (with_reducible refine (ci _).mono ?_); rintro e w' ⟨rfl, rfl⟩))
    go_ret
    exact ⟨ret_bool (by first | rfl | (simp [g]; done)), by (repeat (first | with_reducible exact Below.refl _ _ | with_reducible assumption | with_reducible refine below_drewN ?_ _ | with_reducible refine Below.drew ?_ | with_reducible refine below_alloc ?_ _ | (with_reducible refine Below.setCell ?_ (by first | (simp; done) | omega | (simp; omega)) _) | with_reducible refine belows ?_ (by assumption)))⟩
  · have g := bit_bne (wd f 3) r
    rw [wd_bit _ _ _ hr] at g
    generalize f (64 * 3 + r) = v at g ⊢
    have e1' : i / 64 = 3 := e1
    clear e1
    go_enter Try.func14, Try.ntmps14
    go_wp2_with (first | (go_at_call 21; (with_reducible refine (ci _).mono ?_); rintro e w' ⟨rfl, rfl⟩))
    go_ret
    exact ⟨ret_bool (by first | rfl | (simp [g]; done)), by (repeat (first | with_reducible exact Below.refl _ _ | with_reducible assumption | with_reducible refine below_drewN ?_ _ | with_reducible refine Below.drew ?_ | with_reducible refine below_alloc ?_ _ | (with_reducible refine Below.setCell ?_ (by first | (simp; done) | omega | (simp; omega)) _) | with_reducible refine belows ?_ (by assumption)))⟩
theorem get_any (f : Nat → Bool) (i : Int) (w : World) : Calls Try.prog 14 #[.agg #[.int .u64 (U (wd f 0)), .int .u64 (U (wd f 1)), .int .u64 (U (wd f 2)), .int .u64 (U (wd f 3))], .int .i64 i] w fun r w' => r = .returned (.bool (getS f i)) ∧ Below w.heap.size w w' := by
  unfold getS
  by_cases h : 0 ≤ i ∧ i < 256
  · rw [decide_eq_true h.1, decide_eq_true h.2]
    exact get_in f i h.1 h.2 w
  · have e : (decide (0 ≤ i) && (decide (i < 256) && f i.toNat)) = false := by
      by_cases c : 0 ≤ i
      · rw [decide_eq_false (show ¬ i < 256 by omega)]; simp
      · rw [decide_eq_false c]; rfl
    rw [e]
    exact get_out f i h w
end Go.Proofs.Ytfbkfbmfeaajkaa
