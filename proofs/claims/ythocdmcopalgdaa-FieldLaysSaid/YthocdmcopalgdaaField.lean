/-
  Package field, function by function: what each makes of words and numbers.
-/
import Derived.Test.YthocdmcopalgdaaProg
import Derived.Test.YthocdmcopalgdaaChecked
import Derived.Test.YthocdmcopalgdaaBv
import Derived.Deep.QuietTactic
import Derived.BigQuiet
namespace Go.Proofs.Ythocdmcopalgdaa
open Go Go.RowKit


def maskF (n : Int) : BitVec 64 := if n < 1 then 0#64 else if 64 ≤ n then 18446744073709551615#64 else (1#64 <<< n.toNat) - 1#64

theorem mask_any (n : Int) (w : World) :
    Calls Try.prog 10 #[.int .i64 n] w fun e w' => e = .returned (.int .u64 (U (maskF n))) ∧ w = w' := by
  by_cases h0 : 0 ≤ n
  · go_enter Try.func10, Try.ntmps10
    go_wp2
    all_goals go_ret
    · exact ⟨ret_lit (by unfold maskF; rw [if_pos (by assumption)]; rfl) (by omega), rfl⟩
    · exact ⟨ret_lit (by unfold maskF; rw [if_neg (by omega), if_pos (by assumption)]; rfl) (by omega), rfl⟩
    · exact ⟨ret_U (by unfold maskF; rw [if_neg (by omega), if_neg (by omega)]), rfl⟩
  · have h1 : n < 1 := by omega
    go_enter Try.func10, Try.ntmps10
    go_wp2
    go_ret
    exact ⟨ret_lit (by unfold maskF; rw [if_pos h1]; rfl) (by omega), rfl⟩

def mayF (a n : Int) : Bool := decide (0 ≤ n) && decide (n ≤ 64) && decide (0 ≤ a) && decide (a ≤ 64 - n)
theorem may_any (a n : Int) (w : World) :
    Calls Try.prog 19 #[.int .i64 a, .int .i64 n] w fun e w' => e = .returned (.bool (mayF a n)) ∧ w = w' := by
  go_enter Try.func19, Try.ntmps19
  go_wp2
  all_goals go_ret
  all_goals exact ⟨ret_bool (by unfold mayF; rw [Bool.eq_iff_iff]; simp; try omega), rfl⟩

def getF (x : BitVec 64) (a n : Int) : BitVec 64 := if mayF a n = true then (x >>> a.toNat) &&& maskF n else 0#64
theorem mayF_true {a n : Int} (h : mayF a n = true) : 0 ≤ n ∧ n ≤ 64 ∧ 0 ≤ a ∧ a ≤ 64 - n := by
  unfold mayF at h; simpa [and_assoc] using h

theorem get_any (x : BitVec 64) (a n : Int) (w : World) :
    Calls Try.prog 9 #[.int .u64 (U x), .int .i64 a, .int .i64 n] w fun e w' => e = .returned (.int .u64 (U (getF x a n))) ∧ ∃ k, w.drewN k = w' := by
  cases hm : mayF a n
  · go_enter Try.func9, Try.ntmps9
    go_wp2_with (go_at_call 19; refine (may_any _ _ _).mono ?_; rintro e w' ⟨rfl, rfl⟩)
    go_ret
    exact ⟨ret_lit (by unfold getF; rw [hm]; rfl) (by omega), 0, rfl⟩
  · obtain ⟨h1, h2, h3, h4⟩ := mayF_true hm
    go_enter Try.func9, Try.ntmps9
    go_wp2_with (go_at_call 19; refine (may_any _ _ _).mono ?_; rintro e w' ⟨rfl, rfl⟩)
    go_quiet ((go_at_call 10; exact Calls.quiet_of_same ((mask_any _ _).mono fun _ _ h => ⟨h.1, h.2.symm⟩)))
    go_wp2
    go_ret
    exact ⟨ret_U (by unfold getF; rw [if_pos hm]), _, rfl⟩

def putF (x : BitVec 64) (a n : Int) (v : BitVec 64) : BitVec 64 := if mayF a n = true then (x &&& ~~~ (maskF n <<< a.toNat)) ||| ((v &&& maskF n) <<< a.toNat) else x
theorem put_any (x v : BitVec 64) (a n : Int) (w : World) :
    Calls Try.prog 8 #[.int .u64 (U x), .int .i64 a, .int .i64 n, .int .u64 (U v)] w fun e w' => e = .returned (.int .u64 (U (putF x a n v))) ∧ ∃ k, w.drewN k = w' := by
  cases hm : mayF a n
  · go_enter Try.func8, Try.ntmps8
    go_wp2_with (go_at_call 19; refine (may_any _ _ _).mono ?_; rintro e w' ⟨rfl, rfl⟩)
    go_ret
    exact ⟨ret_U (by unfold putF; rw [hm]; rfl), 0, rfl⟩
  · obtain ⟨h1, h2, h3, h4⟩ := mayF_true hm
    go_enter Try.func8, Try.ntmps8
    go_wp2_with (first | (go_at_call 19; refine (may_any _ _ _).mono ?_; rintro e w' ⟨rfl, rfl⟩) | (go_at_call 10; refine (mask_any _ _).mono ?_; rintro e w' ⟨rfl, rfl⟩))
    go_quiet (fail)
    go_wp2
    go_ret
    exact ⟨ret_U (by unfold putF; rw [if_pos hm]), _, rfl⟩


def sgnF (x : BitVec 64) (n : Int) : BitVec 64 := if 1 ≤ n ∧ n ≤ 64 then (x <<< (64 - n).toNat).sshiftRight (64 - n).toNat else 0#64
theorem sign_any (x : BitVec 64) (n : Int) (w : World) :
    Calls Try.prog 14 #[.int .u64 (U x), .int .i64 n] w fun e w' => e = .returned (.int .u64 (U (sgnF x n))) ∧ w = w' := by
  by_cases h : 1 ≤ n ∧ n ≤ 64
  · obtain ⟨h1, h2⟩ := h
    have h3 : 0 ≤ 64 - n := by omega
    go_enter Try.func14, Try.ntmps14
    go_wp2
    go_ret
    exact ⟨ret_U (by unfold sgnF; rw [if_pos ⟨h1, h2⟩]), rfl⟩
  · by_cases h1 : n < 1
    · go_enter Try.func14, Try.ntmps14
      go_wp2
      go_ret
      exact ⟨ret_lit (by unfold sgnF; rw [if_neg h]; rfl) (by omega), rfl⟩
    · have h2 : 64 < n := by omega
      go_enter Try.func14, Try.ntmps14
      go_wp2
      go_ret
      exact ⟨ret_lit (by unfold sgnF; rw [if_neg h]; rfl) (by omega), rfl⟩

def fitsF (x : BitVec 64) (n : Int) (s : Bool) : Bool := if n < 1 ∨ 64 < n then false else if s = true then sgnF x n == x else decide (0 ≤ S x) && (x &&& ~~~ maskF n == 0#64)
theorem fits_any (x : BitVec 64) (n : Int) (s : Bool) (w : World) :
    Calls Try.prog 13 #[.int .i64 (S x), .int .i64 n, .bool s] w fun e w' => e = .returned (.bool (fitsF x n s)) ∧ w = w' := by
  go_enter Try.func13, Try.ntmps13
  go_wp2_with (first | (go_at_call 14; refine (sign_any _ _ _).mono ?_; rintro e w' ⟨rfl, rfl⟩) | (go_at_call 10; refine (mask_any _ _).mono ?_; rintro e w' ⟨rfl, rfl⟩))
  all_goals go_ret
  all_goals refine ⟨ret_bool ?_, rfl⟩
  all_goals unfold fitsF
  · rw [if_pos (by omega)]
  · rw [if_neg (by omega), if_pos (by assumption)]
  · rename_i hs h0
    rw [if_neg (by omega), hs]
    simp [h0]
  · rename_i hs h0
    rw [if_neg (by omega)]
    simp; omega
  · rw [if_pos (by omega)]
end Go.Proofs.Ythocdmcopalgdaa
