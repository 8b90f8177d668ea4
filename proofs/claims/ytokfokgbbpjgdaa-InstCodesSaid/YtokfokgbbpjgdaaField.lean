
/-
  Package field, function by function: what each makes of words and numbers.
-/
import Derived.Test.YtokfokgbbpjgdaaProg
import Derived.Test.YtokfokgbbpjgdaaChecked
import Derived.Test.YtokfokgbbpjgdaaBits
import Derived.Deep.QuietTactic
import Derived.BigQuiet
namespace Go.Proofs.Ytokfokgbbpjgdaa
open Go Go.RowKit
set_option linter.unusedVariables false
set_option linter.unusedSimpArgs false



theorem mask_any (n : Int) (w : World) :
    Calls Try.prog 32 #[.int .i64 n] w fun e w' => e = .returned (.int .u64 (U (maskF n))) ∧ w = w' := by
  by_cases h0 : 0 ≤ n
  · go_enter Try.func32, Try.ntmps32
    go_wp2
    all_goals go_ret
    · exact ⟨ret_lit (by unfold maskF; rw [if_pos (by assumption)]; rfl) (by omega), rfl⟩
    · exact ⟨ret_lit (by unfold maskF; rw [if_neg (by omega), if_pos (by assumption)]; rfl) (by omega), rfl⟩
    · exact ⟨ret_U (by unfold maskF; rw [if_neg (by omega), if_neg (by omega)]), rfl⟩
  · have h1 : n < 1 := by omega
    go_enter Try.func32, Try.ntmps32
    go_wp2
    go_ret
    exact ⟨ret_lit (by unfold maskF; rw [if_pos h1]; rfl) (by omega), rfl⟩

theorem may_any (a n : Int) (w : World) :
    Calls Try.prog 35 #[.int .i64 a, .int .i64 n] w fun e w' => e = .returned (.bool (mayF a n)) ∧ w = w' := by
  go_enter Try.func35, Try.ntmps35
  go_wp2
  all_goals go_ret
  all_goals exact ⟨ret_bool (by unfold mayF; rw [Bool.eq_iff_iff]; simp; try omega), rfl⟩


theorem get_any (x : BitVec 64) (a n : Int) (w : World) :
    Calls Try.prog 29 #[.int .u64 (U x), .int .i64 a, .int .i64 n] w fun e w' => e = .returned (.int .u64 (U (getF x a n))) ∧ ∃ k, w.drewN k = w' := by
  cases hm : mayF a n
  · go_enter Try.func29, Try.ntmps29
    go_wp2_with (go_at_call 35; refine (may_any _ _ _).mono ?_; rintro e w' ⟨rfl, rfl⟩)
    go_ret
    exact ⟨ret_lit (by unfold getF; rw [hm]; rfl) (by omega), 0, rfl⟩
  · obtain ⟨h1, h2, h3, h4⟩ := mayF_true hm
    go_enter Try.func29, Try.ntmps29
    go_wp2_with (go_at_call 35; refine (may_any _ _ _).mono ?_; rintro e w' ⟨rfl, rfl⟩)
    go_quiet ((go_at_call 32; exact Calls.quiet_of_same ((mask_any _ _).mono fun _ _ h => ⟨h.1, h.2.symm⟩)))
    go_wp2
    go_ret
    exact ⟨ret_U (by unfold getF; rw [if_pos hm]), _, rfl⟩

theorem put_any (x v : BitVec 64) (a n : Int) (w : World) :
    Calls Try.prog 22 #[.int .u64 (U x), .int .i64 a, .int .i64 n, .int .u64 (U v)] w fun e w' => e = .returned (.int .u64 (U (putF x a n v))) ∧ ∃ k, w.drewN k = w' := by
  cases hm : mayF a n
  · go_enter Try.func22, Try.ntmps22
    go_wp2_with (go_at_call 35; refine (may_any _ _ _).mono ?_; rintro e w' ⟨rfl, rfl⟩)
    go_ret
    exact ⟨ret_U (by unfold putF; rw [hm]; rfl), 0, rfl⟩
  · obtain ⟨h1, h2, h3, h4⟩ := mayF_true hm
    go_enter Try.func22, Try.ntmps22
    go_wp2_with (first | (go_at_call 35; refine (may_any _ _ _).mono ?_; rintro e w' ⟨rfl, rfl⟩) | (go_at_call 32; refine (mask_any _ _).mono ?_; rintro e w' ⟨rfl, rfl⟩))
    go_quiet (fail)
    go_wp2
    go_ret
    exact ⟨ret_U (by unfold putF; rw [if_pos hm]), _, rfl⟩


theorem sign_any (x : BitVec 64) (n : Int) (w : World) :
    Calls Try.prog 34 #[.int .u64 (U x), .int .i64 n] w fun e w' => e = .returned (.int .u64 (U (sgnF x n))) ∧ w = w' := by
  by_cases h : 1 ≤ n ∧ n ≤ 64
  · obtain ⟨h1, h2⟩ := h
    have h3 : 0 ≤ 64 - n := by omega
    go_enter Try.func34, Try.ntmps34
    go_wp2
    go_ret
    exact ⟨ret_U (by unfold sgnF; rw [if_pos ⟨h1, h2⟩]), rfl⟩
  · by_cases h1 : n < 1
    · go_enter Try.func34, Try.ntmps34
      go_wp2
      go_ret
      exact ⟨ret_lit (by unfold sgnF; rw [if_neg h]; rfl) (by omega), rfl⟩
    · have h2 : 64 < n := by omega
      go_enter Try.func34, Try.ntmps34
      go_wp2
      go_ret
      exact ⟨ret_lit (by unfold sgnF; rw [if_neg h]; rfl) (by omega), rfl⟩

theorem fits_any (x : BitVec 64) (n : Int) (s : Bool) (w : World) :
    Calls Try.prog 21 #[.int .i64 (S x), .int .i64 n, .bool s] w fun e w' => e = .returned (.bool (fitsF x n s)) ∧ w = w' := by
  go_enter Try.func21, Try.ntmps21
  go_wp2_with (first | (go_at_call 34; refine (sign_any _ _ _).mono ?_; rintro e w' ⟨rfl, rfl⟩) | (go_at_call 32; refine (mask_any _ _).mono ?_; rintro e w' ⟨rfl, rfl⟩))
  all_goals go_ret
  all_goals refine ⟨ret_bool ?_, rfl⟩
  all_goals unfold fitsF
  · rw [if_pos (by omega)]
  · rw [if_neg (by omega), if_pos (by assumption)]
  · rename_i hs h0
    rw [if_neg (by omega), hs]
    simp [h0]
  · rename_i hs h0
    rw [if_neg (by omega)]
    simp; omega
  · rw [if_pos (by omega)]
end Go.Proofs.Ytokfokgbbpjgdaa
