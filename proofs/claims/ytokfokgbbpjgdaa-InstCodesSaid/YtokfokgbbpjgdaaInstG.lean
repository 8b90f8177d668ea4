
/-
  A name, a shape, a name found; == of instructions; the law's one: each function.
-/
import Derived.Test.YtokfokgbbpjgdaaInstF
import Derived.Test.YtokfokgbbpjgdaaLaw
namespace Go.Proofs.Ytokfokgbbpjgdaa
open Go Go.RowKit
set_option linter.unusedVariables false
set_option linter.unusedSimpArgs false

def nameF (op : Int) : ByteArray := if op < 1 ∨ 69 < op then ⟨#[]⟩ else (rowAt (op - 1).toNat).nm
def shapeF (op : Int) : Nat := if op < 1 ∨ 69 < op then 0 else (rowAt (op - 1).toNat).sh
def findN (s : ByteArray) : Nat → Nat → Int
  | 0, _ => 0
  | n + 1, k => if ((rowAt k).nm.toList == s.toList) = true then (k : Int) + 1 else findN s n (k + 1)
theorem findN_succ (s : ByteArray) (k : Nat) (h : k < 69) : findN s (69 - k) k = if ((rowAt k).nm.toList == s.toList) = true then (k : Int) + 1 else findN s (69 - (k + 1)) (k + 1) := by
  rw [show 69 - k = (69 - (k + 1)) + 1 by omega]
  rfl
attribute [local irreducible] rowsV
attribute [local go_sem 3000] rows_at
set_option maxHeartbeats 4000000 in
set_option maxRecDepth 100000 in
theorem name_any (op : Int) (w : World) : Calls Try.prog 14 #[.int .i64 op] w fun e w' => e = .returned (.string (nameF op)) ∧ Below w.heap.size w w' := by
  by_cases h : op < 1 ∨ 69 < op
  · have co := fun w => of_bad op h w
    have he : nameF op = ⟨#[]⟩ := by unfold nameF; rw [if_pos h]
    rw [he]
    go_enter Try.func14, Try.ntmps14
    go_wp2_with (first | (go_at_call 15; (with_reducible refine (co _).mono ?_); rintro e w' ⟨rfl, hbl⟩; obtain ⟨hcw, hfw, hsw⟩ := below_ifs hbl; (try simp only [World.size_alloc, World.size_setCell, World.size_drew, size_drewN_] at hcw hfw hsw)))
    go_ret
    exact ⟨rfl, by (repeat (first | with_reducible exact Below.refl _ _ | with_reducible assumption | with_reducible refine below_drewN ?_ _ | with_reducible refine Below.drew ?_ | with_reducible refine below_alloc ?_ _ | (with_reducible refine Below.setCell ?_ (by first | (simp; done) | omega | (simp; omega)) _) | with_reducible refine belows ?_ (by assumption)))⟩
  · obtain ⟨k, hk⟩ : ∃ k : Nat, op = (k : Int) + 1 := ⟨(op - 1).toNat, by omega⟩
    have hl : k < 69 := by omega
    have he : nameF op = (rowAt k).nm := by unfold nameF; rw [if_neg h, show (op - 1).toNat = k by omega]
    have co := fun w => of_good k hl w
    rw [he, hk]
    go_enter Try.func14, Try.ntmps14
    go_wp2_with (first | (go_at_call 15; (with_reducible refine (co _).mono ?_); rintro e w' ⟨rfl, hbl⟩; obtain ⟨hcw, hfw, hsw⟩ := below_ifs hbl; (try simp only [World.size_alloc, World.size_setCell, World.size_drew, size_drewN_] at hcw hfw hsw)))
    go_ret
    exact ⟨rfl, by (repeat (first | with_reducible exact Below.refl _ _ | with_reducible assumption | with_reducible refine below_drewN ?_ _ | with_reducible refine Below.drew ?_ | with_reducible refine below_alloc ?_ _ | (with_reducible refine Below.setCell ?_ (by first | (simp; done) | omega | (simp; omega)) _) | with_reducible refine belows ?_ (by assumption)))⟩
set_option maxHeartbeats 4000000 in
set_option maxRecDepth 100000 in
theorem shape_any (op : Int) (w : World) : Calls Try.prog 12 #[.int .i64 op] w fun e w' => e = .returned (.int .u8 (shapeF op : Int)) ∧ Below w.heap.size w w' := by
  by_cases h : op < 1 ∨ 69 < op
  · have co := fun w => of_bad op h w
    have he : shapeF op = 0 := by unfold shapeF; rw [if_pos h]
    rw [he]
    go_enter Try.func12, Try.ntmps12
    go_wp2_with (first | (go_at_call 15; (with_reducible refine (co _).mono ?_); rintro e w' ⟨rfl, hbl⟩; obtain ⟨hcw, hfw, hsw⟩ := below_ifs hbl; (try simp only [World.size_alloc, World.size_setCell, World.size_drew, size_drewN_] at hcw hfw hsw)))
    go_ret
    exact ⟨rfl, by (repeat (first | with_reducible exact Below.refl _ _ | with_reducible assumption | with_reducible refine below_drewN ?_ _ | with_reducible refine Below.drew ?_ | with_reducible refine below_alloc ?_ _ | (with_reducible refine Below.setCell ?_ (by first | (simp; done) | omega | (simp; omega)) _) | with_reducible refine belows ?_ (by assumption)))⟩
  · obtain ⟨k, hk⟩ : ∃ k : Nat, op = (k : Int) + 1 := ⟨(op - 1).toNat, by omega⟩
    have hl : k < 69 := by omega
    have he : shapeF op = (rowAt k).sh := by unfold shapeF; rw [if_neg h, show (op - 1).toNat = k by omega]
    have co := fun w => of_good k hl w
    rw [he, hk]
    go_enter Try.func12, Try.ntmps12
    go_wp2_with (first | (go_at_call 15; (with_reducible refine (co _).mono ?_); rintro e w' ⟨rfl, hbl⟩; obtain ⟨hcw, hfw, hsw⟩ := below_ifs hbl; (try simp only [World.size_alloc, World.size_setCell, World.size_drew, size_drewN_] at hcw hfw hsw)))
    go_ret
    exact ⟨rfl, by (repeat (first | with_reducible exact Below.refl _ _ | with_reducible assumption | with_reducible refine below_drewN ?_ _ | with_reducible refine Below.drew ?_ | with_reducible refine below_alloc ?_ _ | (with_reducible refine Below.setCell ?_ (by first | (simp; done) | omega | (simp; omega)) _) | with_reducible refine belows ?_ (by assumption)))⟩
set_option maxHeartbeats 4000000 in
set_option maxRecDepth 100000 in
theorem find_any (s : ByteArray) (w : World) : Calls Try.prog 13 #[.string s] w fun e w' => e = .returned (.int .i64 (findN s 69 0)) ∧ Below w.heap.size w w' := by
  go_enter Try.func13, Try.ntmps13
  go_wp2_with (first | (go_at_call 27; refine (rows_any _).mono ?_; rintro e wR ⟨rfl, hbR⟩))
  go_loopw [6] (fun x wr => ∃ k : Nat, x = .int .i64 (k : Int) ∧ k ≤ 69 ∧ Below w.heap.size w wr ∧ Hid (findN s 69 0 = findN s (69 - k) k)) (fun x _ => 69 - (intOf x).toNat)
  case atStart => exact ⟨0, rfl, by omega, hbR, Lib.hid rfl⟩
  case round =>
    obtain ⟨k, rfl, hk, hbw, HK⟩ := hrel
    by_cases c : k < 69
    · have hi := fun w => rows_at k c w
      have hs := findN_succ s k c
      have d1 : decide ((k : Int) < 69) = true := decide_eq_true (by omega)
      cases hh : ((rowAt k).nm.toList == s.toList)
      · rw [hh, if_neg (by decide), ← HK.out] at hs
        have HS := Lib.hid hs
        clear hs
        go_wp2_with fail
        go_roundw
        case rel => exact ⟨k + 1, by go_num, by omega, by (repeat (first | with_reducible exact Below.refl _ _ | with_reducible assumption | with_reducible refine below_drewN ?_ _ | with_reducible refine Below.drew ?_ | with_reducible refine below_alloc ?_ _ | (with_reducible refine Below.setCell ?_ (by first | (simp; done) | omega | (simp; omega)) _) | with_reducible refine belows ?_ (by assumption))), HS⟩
        case measure => (simp [intOf]; omega)
      · rw [hh, if_pos rfl, ← HK.out] at hs
        have HS := Lib.hid hs
        clear hs
        go_wp2_with fail
        go_ret
        exact ⟨by rw [HS.out]; rfl, by (repeat (first | with_reducible exact Below.refl _ _ | with_reducible assumption | with_reducible refine below_drewN ?_ _ | with_reducible refine Below.drew ?_ | with_reducible refine below_alloc ?_ _ | (with_reducible refine Below.setCell ?_ (by first | (simp; done) | omega | (simp; omega)) _) | with_reducible refine belows ?_ (by assumption)))⟩
    · obtain rfl : k = 69 := by omega
      have HS : Hid (findN s 69 0 = 0) := HK
      go_wp2_with fail
      go_ret
      exact ⟨by rw [HS.out]; rfl, by (repeat (first | with_reducible exact Below.refl _ _ | with_reducible assumption | with_reducible refine below_drewN ?_ _ | with_reducible refine Below.drew ?_ | with_reducible refine below_alloc ?_ _ | (with_reducible refine Below.setCell ?_ (by first | (simp; done) | omega | (simp; omega)) _) | with_reducible refine belows ?_ (by assumption)))⟩
theorem inst_guard : Try.prog.eqGuardType Try.prog.depth 23 = false := by kernel_rfl
theorem inst_stood : Try.prog.stoodInHeld 23 = false := by kernel_rfl
theorem inst_eql (a b c d e a' b' c' d' e' : Int) (w : World) : (binOp .eql 23 (.agg #[.int .i64 a, .int .i64 b, .int .i64 c, .int .i64 d, .int .i64 e]) (.agg #[.int .i64 a', .int .i64 b', .int .i64 c', .int .i64 d', .int .i64 e'])).run Try.prog w = .ok (.bool (a == a' && b == b' && c == c' && d == d' && e == e')) w := by
  have hs := inst_stood
  rw [run_eql_struct]
  rw [show (10000 : Nat) = 9999 + 1 from rfl, run_equalIn_struct _ _ _ _ _ Try.underlying23 hs]
  simp [go_sem, Try.underlying23]
  by_cases h1 : a = a' <;> by_cases h2 : b = b' <;> by_cases h3 : c = c' <;> by_cases h4 : d = d' <;> by_cases h5 : e = e' <;> simp [h1, h2, h3, h4, h5]
theorem inst_neq (a b c d e a' b' c' d' e' : Int) (w : World) : (binOp .neq 23 (.agg #[.int .i64 a, .int .i64 b, .int .i64 c, .int .i64 d, .int .i64 e]) (.agg #[.int .i64 a', .int .i64 b', .int .i64 c', .int .i64 d', .int .i64 e'])).run Try.prog w = .ok (.bool (!(a == a' && b == b' && c == c' && d == d' && e == e'))) w := neq_of_eql (inst_eql a b c d e a' b' c' d' e' w)
attribute [go_sem 3000] inst_guard inst_eql inst_neq
theorem dec_one : decV 11863347#64 = .tuple #[.agg #[.int .i64 31, .int .i64 10, .int .i64 10, .int .i64 11, .int .i64 0], .bool true] := by kernel_rfl
set_option maxHeartbeats 4000000 in
set_option maxRecDepth 100000 in
theorem one_any (w : World) : Calls Try.prog 11 #[] w fun e w' => e = .returned (.bool true) ∧ Below w.heap.size w w' := by
  have cd : ∀ w, Calls Try.prog 9 #[.int .u32 11863347] w fun e w' => e = .returned (.tuple #[.agg #[.int .i64 31, .int .i64 10, .int .i64 10, .int .i64 11, .int .i64 0], .bool true]) ∧ Below w.heap.size w w' := fun w => by
    have h := dec_any 11863347#64 w
    rw [dec_one] at h
    exact h
  go_enter Try.func11, Try.ntmps11
  go_wp2_with (first | (go_at_call 9; (with_reducible refine (cd _).mono ?_); rintro e w' ⟨rfl, hbl⟩; obtain ⟨hcw, hfw, hsw⟩ := below_ifs hbl; (try simp only [World.size_alloc, World.size_setCell, World.size_drew, size_drewN_] at hcw hfw hsw)))
  go_ret
  exact ⟨rfl, by (repeat (first | with_reducible exact Below.refl _ _ | with_reducible assumption | with_reducible refine below_drewN ?_ _ | with_reducible refine Below.drew ?_ | with_reducible refine below_alloc ?_ _ | (with_reducible refine Below.setCell ?_ (by first | (simp; done) | omega | (simp; omega)) _) | with_reducible refine belows ?_ (by assumption)))⟩
end Go.Proofs.Ytokfokgbbpjgdaa
