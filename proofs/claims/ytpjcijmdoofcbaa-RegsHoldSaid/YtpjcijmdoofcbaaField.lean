
/-
  Package field, function by function: what each makes of words and numbers.
-/
import Derived.Test.YtpjcijmdoofcbaaProg
import Derived.Test.YtpjcijmdoofcbaaChecked
import Derived.Test.YtpjcijmdoofcbaaBits
import Derived.Deep.QuietTactic
import Derived.BigQuiet
namespace Go.Proofs.Ytpjcijmdoofcbaa
open Go Go.RowKit
set_option linter.unusedVariables false
set_option linter.unusedSimpArgs false



theorem mask_any (n : Int) (w : World) :
    Calls Try.prog 47 #[.int .i64 n] w fun e w' => e = .returned (.int .u64 (U (maskF n))) ∧ w = w' := by
  by_cases h0 : 0 ≤ n
  · go_enter Try.func47, Try.ntmps47
    go_wp2
    all_goals go_ret
    · exact ⟨ret_lit (by unfold maskF; rw [if_pos (by assumption)]; rfl) (by omega), rfl⟩
    · exact ⟨ret_lit (by unfold maskF; rw [if_neg (by omega), if_pos (by assumption)]; rfl) (by omega), rfl⟩
    · exact ⟨ret_U (by unfold maskF; rw [if_neg (by omega), if_neg (by omega)]), rfl⟩
  · have h1 : n < 1 := by omega
    go_enter Try.func47, Try.ntmps47
    go_wp2
    go_ret
    exact ⟨ret_lit (by unfold maskF; rw [if_pos h1]; rfl) (by omega), rfl⟩

theorem may_any (a n : Int) (w : World) :
    Calls Try.prog 46 #[.int .i64 a, .int .i64 n] w fun e w' => e = .returned (.bool (mayF a n)) ∧ w = w' := by
  go_enter Try.func46, Try.ntmps46
  go_wp2
  all_goals go_ret
  all_goals exact ⟨ret_bool (by unfold mayF; rw [Bool.eq_iff_iff]; simp; try omega), rfl⟩


theorem get_any (x : BitVec 64) (a n : Int) (w : World) :
    Calls Try.prog 42 #[.int .u64 (U x), .int .i64 a, .int .i64 n] w fun e w' => e = .returned (.int .u64 (U (getF x a n))) ∧ ∃ k, w.drewN k = w' := by
  cases hm : mayF a n
  · go_enter Try.func42, Try.ntmps42
    go_wp2_with (go_at_call 46; refine (may_any _ _ _).mono ?_; rintro e w' ⟨rfl, rfl⟩)
    go_ret
    exact ⟨ret_lit (by unfold getF; rw [hm]; rfl) (by omega), 0, rfl⟩
  · obtain ⟨h1, h2, h3, h4⟩ := mayF_true hm
    go_enter Try.func42, Try.ntmps42
    go_wp2_with (go_at_call 46; refine (may_any _ _ _).mono ?_; rintro e w' ⟨rfl, rfl⟩)
    go_quiet ((go_at_call 47; exact Calls.quiet_of_same ((mask_any _ _).mono fun _ _ h => ⟨h.1, h.2.symm⟩)))
    go_wp2
    go_ret
    exact ⟨ret_U (by unfold getF; rw [if_pos hm]), _, rfl⟩

theorem put_any (x v : BitVec 64) (a n : Int) (w : World) :
    Calls Try.prog 48 #[.int .u64 (U x), .int .i64 a, .int .i64 n, .int .u64 (U v)] w fun e w' => e = .returned (.int .u64 (U (putF x a n v))) ∧ ∃ k, w.drewN k = w' := by
  cases hm : mayF a n
  · go_enter Try.func48, Try.ntmps48
    go_wp2_with (go_at_call 46; refine (may_any _ _ _).mono ?_; rintro e w' ⟨rfl, rfl⟩)
    go_ret
    exact ⟨ret_U (by unfold putF; rw [hm]; rfl), 0, rfl⟩
  · obtain ⟨h1, h2, h3, h4⟩ := mayF_true hm
    go_enter Try.func48, Try.ntmps48
    go_wp2_with (first | (go_at_call 46; refine (may_any _ _ _).mono ?_; rintro e w' ⟨rfl, rfl⟩) | (go_at_call 47; refine (mask_any _ _).mono ?_; rintro e w' ⟨rfl, rfl⟩))
    go_quiet (fail)
    go_wp2
    go_ret
    exact ⟨ret_U (by unfold putF; rw [if_pos hm]), _, rfl⟩


end Go.Proofs.Ytpjcijmdoofcbaa
