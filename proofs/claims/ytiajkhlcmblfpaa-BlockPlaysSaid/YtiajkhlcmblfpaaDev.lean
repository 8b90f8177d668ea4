
/-
  block: a device that was made: its cells; what is wrong with a call.
-/
import Derived.Test.YtiajkhlcmblfpaaBlock
import Derived.Test.YtiajkhlcmblfpaaTail
import Derived.BigRegion
namespace Go.Proofs.Ytiajkhlcmblfpaa
open Go Go.RowKit
set_option linter.unusedVariables false
set_option linter.unusedSimpArgs false

theorem map_some (b : Nat) (w : World) : (binOp .eql 46 (.map (some b)) (.map none)).run Try.prog w = .ok (.bool false) w := by kernel_rfl
attribute [local go_sem 3000] map_some
/-- A device's cells: how many blocks; the map's block; how many calls are to fail. -/
def DevC (w : World) (c bm n : Nat) (lf : Int) : Prop := c < w.heap.size ∧ w.cell? ⟨c, 0, none⟩ = some (.int .i64 (n : Int)) ∧ w.cell? ⟨c, 1, none⟩ = some (.map (some bm)) ∧ w.cell? ⟨c, 2, none⟩ = some (.int .i64 lf) ∧ w.frozen? ⟨c, 2, none⟩ = false
theorem DevC.below {w w' : World} {c bm n : Nat} {lf : Int} (h : DevC w c bm n lf) (hb : Below w.heap.size w w') : DevC w' c bm n lf :=
  ⟨Nat.lt_of_lt_of_le h.1 hb.size, (hb.cell (p := ⟨c, 0, none⟩) h.1).trans h.2.1, (hb.cell (p := ⟨c, 1, none⟩) h.1).trans h.2.2.1, (hb.cell (p := ⟨c, 2, none⟩) h.1).trans h.2.2.2.1, (hb.frozen (p := ⟨c, 2, none⟩) h.1).trans h.2.2.2.2⟩
theorem DevC.turned {w : World} {c bm n : Nat} {lf : Int} (h : DevC w c bm n lf) (x : Int) : DevC (w.setCell ⟨c, 2, none⟩ (.int .i64 x)) c bm n x :=
  ⟨by simpa using h.1, (World.cell?_setCell_other _ _ _ _ (by simp)).trans h.2.1, (World.cell?_setCell_other _ _ _ _ (by simp)).trans h.2.2.1, World.cell?_setCell_same _ _ _ h.2.2.2.1, (World.frozen?_setCell _ _ _ _).trans h.2.2.2.2⟩
theorem dnew_bad (n : Int) (h : n < 1 ∨ 64 < n) (w : World) : Calls Try.prog 6 #[.int .i64 n] w fun r w' => r = .returned (.tuple #[.pointer none, .int .i64 2]) ∧ w = w' := by
  by_cases c : n < 1
  · have d1 : decide (n < 1) = true := decide_eq_true c
    go_enter Try.func6, Try.ntmps6
    go_wp2_with fail
    go_ret2
    exact ⟨rfl, rfl⟩
  · have d1 : decide (n < 1) = false := decide_eq_false c
    have d2 : decide (64 < n) = true := decide_eq_true (by omega)
    go_enter Try.func6, Try.ntmps6
    go_wp2_with fail
    go_ret2
    exact ⟨rfl, rfl⟩
theorem dnew_good (n : Nat) (h1 : 0 < n) (h2 : n ≤ 64) (w : World) : Calls Try.prog 6 #[.int .i64 (n : Int)] w fun r w' => r = .returned (.tuple #[.pointer (some ⟨w.heap.size + 1, 0, none⟩), .int .i64 0]) ∧ w' = (w.alloc (.map #[] 0)).alloc (.cells #[.int .i64 (n : Int), .map (some w.heap.size), .int .i64 0] 48) := by
  have d1 : decide ((n : Int) < 1) = false := decide_eq_false (by omega)
  have d2 : decide (64 < (n : Int)) = false := decide_eq_false (by omega)
  have hmm : ∀ (t : TypeId) (w : World), (Instr.makeMap t none).run Try.prog w = .ok (.map (some w.heap.size)) (w.alloc (.map #[] 0)) := fun _ _ => rfl
  go_enter Try.func6, Try.ntmps6
  go_wp2_with fail
  go_ret2
  exact ⟨rfl, rfl⟩
section
variable {w : World} {c bm n : Nat} {lf : Int}
theorem dnone_made (h : DevC w c bm n lf) : Calls Try.prog 17 #[.pointer (some ⟨c, 0, none⟩)] w fun r w' => r = .returned (.bool false) ∧ w = w' := by
  obtain ⟨hb, h0, h1, h2, h3⟩ := h
  go_enter Try.func17, Try.ntmps17
  go_wp2_with fail
  go_ret
  exact ⟨rfl, rfl⟩
theorem may_arg (h : DevC w c bm n lf) (k : Int) (q : Bool) (hk : k < 0 ∨ (n : Int) ≤ k ∨ q = false) : Calls Try.prog 16 #[.pointer (some ⟨c, 0, none⟩), .int .i64 k, .bool q] w fun r w' => r = .returned (.int .i64 2) ∧ Below w.heap.size w w' := by
  have cn := dnone_made h
  obtain ⟨hb, h0, h1, h2, h3⟩ := h
  by_cases d : k < 0
  · have d0 : decide (k < 0) = true := decide_eq_true d
    clear hk
    go_enter Try.func16, Try.ntmps16
    go_wp2_with (first | (go_at_call 17; (with_reducible refine (cn).mono ?_); rintro e w' ⟨rfl, rfl⟩))
    go_ret
    exact ⟨rfl, by (repeat (first | with_reducible exact Below.refl _ _ | with_reducible assumption | with_reducible refine below_drewN ?_ _ | with_reducible refine Below.drew ?_ | with_reducible refine below_alloc ?_ _ | (with_reducible refine Below.setCell ?_ (by first | (simp; done) | omega | (simp; omega)) _) | with_reducible refine belows ?_ (by assumption)))⟩
  · have d0 : decide (k < 0) = false := decide_eq_false d
    by_cases e : (n : Int) ≤ k
    · have d1 : decide ((n : Int) ≤ k) = true := decide_eq_true e
      clear hk
      go_enter Try.func16, Try.ntmps16
      go_wp2_with (first | (go_at_call 17; (with_reducible refine (cn).mono ?_); rintro e w' ⟨rfl, rfl⟩))
      go_ret
      exact ⟨rfl, by (repeat (first | with_reducible exact Below.refl _ _ | with_reducible assumption | with_reducible refine below_drewN ?_ _ | with_reducible refine Below.drew ?_ | with_reducible refine below_alloc ?_ _ | (with_reducible refine Below.setCell ?_ (by first | (simp; done) | omega | (simp; omega)) _) | with_reducible refine belows ?_ (by assumption)))⟩
    · have d1 : decide ((n : Int) ≤ k) = false := decide_eq_false e
      obtain rfl : q = false := by rcases hk with a | a | a <;> first | omega | exact a
      clear hk
      go_enter Try.func16, Try.ntmps16
      go_wp2_with (first | (go_at_call 17; (with_reducible refine (cn).mono ?_); rintro e w' ⟨rfl, rfl⟩))
      go_ret
      exact ⟨rfl, by (repeat (first | with_reducible exact Below.refl _ _ | with_reducible assumption | with_reducible refine below_drewN ?_ _ | with_reducible refine Below.drew ?_ | with_reducible refine below_alloc ?_ _ | (with_reducible refine Below.setCell ?_ (by first | (simp; done) | omega | (simp; omega)) _) | with_reducible refine belows ?_ (by assumption)))⟩
theorem may_ok (h : DevC w c bm n lf) (k : Nat) (hk : k < n) (hl : lf ≤ 0) : Calls Try.prog 16 #[.pointer (some ⟨c, 0, none⟩), .int .i64 (k : Int), .bool true] w fun r w' => r = .returned (.int .i64 0) ∧ Below w.heap.size w w' := by
  have cn := dnone_made h
  obtain ⟨hb, h0, h1, h2, h3⟩ := h
  have d0 : decide ((k : Int) < 0) = false := decide_eq_false (by omega)
  have d1 : decide (n ≤ k) = false := decide_eq_false (by omega)
  have d2 : decide (0 < lf) = false := decide_eq_false (by omega)
  go_enter Try.func16, Try.ntmps16
  go_wp2_with (first | (go_at_call 17; (with_reducible refine (cn).mono ?_); rintro e w' ⟨rfl, rfl⟩))
  go_ret
  exact ⟨rfl, by (repeat (first | with_reducible exact Below.refl _ _ | with_reducible assumption | with_reducible refine below_drewN ?_ _ | with_reducible refine Below.drew ?_ | with_reducible refine below_alloc ?_ _ | (with_reducible refine Below.setCell ?_ (by first | (simp; done) | omega | (simp; omega)) _) | with_reducible refine belows ?_ (by assumption)))⟩
theorem may_fail (h : DevC w c bm n lf) (k : Nat) (hk : k < n) (hl : 0 < lf) (hl2 : lf ≤ 9223372036854775807) : Calls Try.prog 16 #[.pointer (some ⟨c, 0, none⟩), .int .i64 (k : Int), .bool true] w fun r w' => r = .returned (.int .i64 17) ∧ ∃ w1, Below w.heap.size w w1 ∧ w' = w1.setCell ⟨c, 2, none⟩ (.int .i64 (lf - 1)) := by
  have cn := dnone_made h
  obtain ⟨hb, h0, h1, h2, h3⟩ := h
  have d0 : decide ((k : Int) < 0) = false := decide_eq_false (by omega)
  have d1 : decide (n ≤ k) = false := decide_eq_false (by omega)
  have d2 : decide (0 < lf) = true := decide_eq_true (by omega)
  go_enter Try.func16, Try.ntmps16
  go_wp2_with (first | (go_at_call 17; (with_reducible refine (cn).mono ?_); rintro e w' ⟨rfl, rfl⟩))
  go_ret
  exact ⟨rfl, w, by (repeat (first | with_reducible exact Below.refl _ _ | with_reducible assumption | with_reducible refine below_drewN ?_ _ | with_reducible refine Below.drew ?_ | with_reducible refine below_alloc ?_ _ | (with_reducible refine Below.setCell ?_ (by first | (simp; done) | omega | (simp; omega)) _) | with_reducible refine belows ?_ (by assumption))), rfl⟩
theorem fail_made (h : DevC w c bm n lf) (x : Int) : Calls Try.prog 9 #[.pointer (some ⟨c, 0, none⟩), .int .i64 x] w fun r w' => r = .returned (.tuple #[]) ∧ w' = w.setCell ⟨c, 2, none⟩ (.int .i64 x) := by
  have cn := dnone_made h
  obtain ⟨hb, h0, h1, h2, h3⟩ := h
  go_enter Try.func9, Try.ntmps9
  go_wp2_with (first | (go_at_call 17; (with_reducible refine (cn).mono ?_); rintro e w' ⟨rfl, rfl⟩))
  refine bodyPost_end (results_none rfl _ _ _) rfl ?_
  exact ⟨rfl, rfl⟩
theorem blocks_made (h : DevC w c bm n lf) : Calls Try.prog 12 #[.pointer (some ⟨c, 0, none⟩)] w fun r w' => r = .returned (.int .i64 (n : Int)) ∧ w = w' := by
  have cn := dnone_made h
  obtain ⟨hb, h0, h1, h2, h3⟩ := h
  go_enter Try.func12, Try.ntmps12
  go_wp2_with (first | (go_at_call 17; (with_reducible refine (cn).mono ?_); rintro e w' ⟨rfl, rfl⟩))
  go_ret
  exact ⟨rfl, rfl⟩
end
end Go.Proofs.Ytiajkhlcmblfpaa
