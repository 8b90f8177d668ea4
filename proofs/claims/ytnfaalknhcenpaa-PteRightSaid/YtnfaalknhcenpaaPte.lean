
/-
  An entry of a page table: its flags, its number (pte).
-/
import Derived.Test.YtnfaalknhcenpaaPteNum
import Derived.Test.YtnfaalknhcenpaaCells
import Derived.Laws.StructEq
import Derived.BigRegion
namespace Go.Proofs.Ytnfaalknhcenpaa
open Go Go.RowKit
set_option linter.unusedVariables false

structure Ent where
  (b0 b1 b2 b3 b4 b5 b6 b7 b8 b9 b10 b11 : Bool)
  (f : BitVec 64)

set_option maxHeartbeats 2000000 in
theorem flags_any (c : Nat) (w : World) : Calls Try.prog 22 #[.pointer (some ⟨c, 0, none⟩)] w fun e w' => e = .returned (.agg #[.pointer (some ⟨c, 0, none⟩), .pointer (some ⟨c, 1, none⟩), .pointer (some ⟨c, 2, none⟩), .pointer (some ⟨c, 3, none⟩), .pointer (some ⟨c, 4, none⟩), .pointer (some ⟨c, 5, none⟩), .pointer (some ⟨c, 6, none⟩), .pointer (some ⟨c, 7, none⟩), .pointer (some ⟨c, 8, none⟩), .pointer (some ⟨c, 9, none⟩), .pointer (some ⟨c, 10, none⟩), .pointer (some ⟨c, 11, none⟩)]) ∧ ∃ k, (w.alloc (.cells #[.pointer (some ⟨c, 0, none⟩), .pointer (some ⟨c, 1, none⟩), .pointer (some ⟨c, 2, none⟩), .pointer (some ⟨c, 3, none⟩), .pointer (some ⟨c, 4, none⟩), .pointer (some ⟨c, 5, none⟩), .pointer (some ⟨c, 6, none⟩), .pointer (some ⟨c, 7, none⟩), .pointer (some ⟨c, 8, none⟩), .pointer (some ⟨c, 9, none⟩), .pointer (some ⟨c, 10, none⟩), .pointer (some ⟨c, 11, none⟩)] 40)).drewN k = w' := by
  go_enter Try.func22, Try.ntmps22
  go_wp2_with fail
  go_region
  all_goals go_wp2
  all_goals go_returns
  all_goals exact ⟨rfl, 1, rfl⟩
theorem places_any (w : World) : Calls Try.prog 23 #[] w fun e w' => e = .returned (.agg #[.int .i64 0, .int .i64 1, .int .i64 2, .int .i64 3, .int .i64 4, .int .i64 5, .int .i64 6, .int .i64 7, .int .i64 58, .int .i64 59, .int .i64 60, .int .i64 61]) ∧ w.alloc (.cells #[.int .i64 0, .int .i64 1, .int .i64 2, .int .i64 3, .int .i64 4, .int .i64 5, .int .i64 6, .int .i64 7, .int .i64 58, .int .i64 59, .int .i64 60, .int .i64 61] 42) = w' := by
  go_enter Try.func23, Try.ntmps23
  go_wp2
  go_returns
  exact ⟨rfl, rfl⟩
theorem places_0 (w : World) : (Instr.index 42 (.agg #[.int .i64 0, .int .i64 1, .int .i64 2, .int .i64 3, .int .i64 4, .int .i64 5, .int .i64 6, .int .i64 7, .int .i64 58, .int .i64 59, .int .i64 60, .int .i64 61]) (.int .i64 0)).run Try.prog w = .ok (.int .i64 0) w := by kernel_rfl
theorem places_1 (w : World) : (Instr.index 42 (.agg #[.int .i64 0, .int .i64 1, .int .i64 2, .int .i64 3, .int .i64 4, .int .i64 5, .int .i64 6, .int .i64 7, .int .i64 58, .int .i64 59, .int .i64 60, .int .i64 61]) (.int .i64 1)).run Try.prog w = .ok (.int .i64 1) w := by kernel_rfl
theorem places_2 (w : World) : (Instr.index 42 (.agg #[.int .i64 0, .int .i64 1, .int .i64 2, .int .i64 3, .int .i64 4, .int .i64 5, .int .i64 6, .int .i64 7, .int .i64 58, .int .i64 59, .int .i64 60, .int .i64 61]) (.int .i64 2)).run Try.prog w = .ok (.int .i64 2) w := by kernel_rfl
theorem places_3 (w : World) : (Instr.index 42 (.agg #[.int .i64 0, .int .i64 1, .int .i64 2, .int .i64 3, .int .i64 4, .int .i64 5, .int .i64 6, .int .i64 7, .int .i64 58, .int .i64 59, .int .i64 60, .int .i64 61]) (.int .i64 3)).run Try.prog w = .ok (.int .i64 3) w := by kernel_rfl
theorem places_4 (w : World) : (Instr.index 42 (.agg #[.int .i64 0, .int .i64 1, .int .i64 2, .int .i64 3, .int .i64 4, .int .i64 5, .int .i64 6, .int .i64 7, .int .i64 58, .int .i64 59, .int .i64 60, .int .i64 61]) (.int .i64 4)).run Try.prog w = .ok (.int .i64 4) w := by kernel_rfl
theorem places_5 (w : World) : (Instr.index 42 (.agg #[.int .i64 0, .int .i64 1, .int .i64 2, .int .i64 3, .int .i64 4, .int .i64 5, .int .i64 6, .int .i64 7, .int .i64 58, .int .i64 59, .int .i64 60, .int .i64 61]) (.int .i64 5)).run Try.prog w = .ok (.int .i64 5) w := by kernel_rfl
theorem places_6 (w : World) : (Instr.index 42 (.agg #[.int .i64 0, .int .i64 1, .int .i64 2, .int .i64 3, .int .i64 4, .int .i64 5, .int .i64 6, .int .i64 7, .int .i64 58, .int .i64 59, .int .i64 60, .int .i64 61]) (.int .i64 6)).run Try.prog w = .ok (.int .i64 6) w := by kernel_rfl
theorem places_7 (w : World) : (Instr.index 42 (.agg #[.int .i64 0, .int .i64 1, .int .i64 2, .int .i64 3, .int .i64 4, .int .i64 5, .int .i64 6, .int .i64 7, .int .i64 58, .int .i64 59, .int .i64 60, .int .i64 61]) (.int .i64 7)).run Try.prog w = .ok (.int .i64 7) w := by kernel_rfl
theorem places_8 (w : World) : (Instr.index 42 (.agg #[.int .i64 0, .int .i64 1, .int .i64 2, .int .i64 3, .int .i64 4, .int .i64 5, .int .i64 6, .int .i64 7, .int .i64 58, .int .i64 59, .int .i64 60, .int .i64 61]) (.int .i64 8)).run Try.prog w = .ok (.int .i64 58) w := by kernel_rfl
theorem places_9 (w : World) : (Instr.index 42 (.agg #[.int .i64 0, .int .i64 1, .int .i64 2, .int .i64 3, .int .i64 4, .int .i64 5, .int .i64 6, .int .i64 7, .int .i64 58, .int .i64 59, .int .i64 60, .int .i64 61]) (.int .i64 9)).run Try.prog w = .ok (.int .i64 59) w := by kernel_rfl
theorem places_10 (w : World) : (Instr.index 42 (.agg #[.int .i64 0, .int .i64 1, .int .i64 2, .int .i64 3, .int .i64 4, .int .i64 5, .int .i64 6, .int .i64 7, .int .i64 58, .int .i64 59, .int .i64 60, .int .i64 61]) (.int .i64 10)).run Try.prog w = .ok (.int .i64 60) w := by kernel_rfl
theorem places_11 (w : World) : (Instr.index 42 (.agg #[.int .i64 0, .int .i64 1, .int .i64 2, .int .i64 3, .int .i64 4, .int .i64 5, .int .i64 6, .int .i64 7, .int .i64 58, .int .i64 59, .int .i64 60, .int .i64 61]) (.int .i64 11)).run Try.prog w = .ok (.int .i64 61) w := by kernel_rfl
attribute [go_sem 3000] places_0 places_1 places_2 places_3 places_4 places_5 places_6 places_7 places_8 places_9 places_10 places_11
theorem put_zero (v : BitVec 64) (a n : Int) (w : World) : Calls Try.prog 24 #[.int .u64 0, .int .i64 a, .int .i64 n, .int .u64 (U v)] w fun e w' => e = .returned (.int .u64 (U (putF 0#64 a n v))) ∧ ∃ k, w.drewN k = w' := put_any 0#64 v a n w

def Ent.flags (e : Ent) : List (Bool × Nat) := [(e.b0, 0), (e.b1, 1), (e.b2, 2), (e.b3, 3), (e.b4, 4), (e.b5, 5), (e.b6, 6), (e.b7, 7), (e.b8, 58), (e.b9, 59), (e.b10, 60), (e.b11, 61)]
def wordK (e : Ent) (k : Nat) : BitVec 64 := (e.flags.take k).foldl (fun w p => if p.1 = true then w ||| 1#64 <<< p.2 else w) (putF 0#64 10 44 e.f)
def wordE (e : Ent) : BitVec 64 := wordK e 12
set_option maxHeartbeats 8000000 in
set_option maxRecDepth 100000 in
theorem word_any (e : Ent) (w : World) : Calls Try.prog 14 #[.agg #[.bool e.b0, .bool e.b1, .bool e.b2, .bool e.b3, .bool e.b4, .bool e.b5, .bool e.b6, .bool e.b7, .bool e.b8, .bool e.b9, .bool e.b10, .bool e.b11, .int .u64 (U e.f)]] w fun x w' => x = .returned (.int .u64 (U (wordE e))) ∧ Below w.heap.size w w' := by
  go_enter Try.func14, Try.ntmps14
  go_wp2_with (first | (go_at_call 24; (with_reducible refine (put_zero _ _ _ _).mono ?_); rintro e w' ⟨rfl, kd, rfl⟩) | (go_at_call 22; (with_reducible refine (flags_any _ _).mono ?_); rintro e w' ⟨rfl, kd, rfl⟩) | (go_at_call 23; (with_reducible refine (places_any _).mono ?_); rintro e w' ⟨rfl, rfl⟩))
  go_loop [3, 12] (fun s i => ∃ k : Nat, k ≤ 12 ∧ i = .int .i64 k ∧ s = .int .u64 (U (wordK e k))) (fun _ i => 12 - (intOf i).toNat)
  case atStart => exact ⟨0, by omega, rfl, rfl⟩
  case round =>
    obtain ⟨k, hk, rfl, rfl⟩ := hrel
    have hc : k = 0 ∨ k = 1 ∨ k = 2 ∨ k = 3 ∨ k = 4 ∨ k = 5 ∨ k = 6 ∨ k = 7 ∨ k = 8 ∨ k = 9 ∨ k = 10 ∨ k = 11 ∨ k = 12 := by omega
    rcases hc with rfl | rfl | rfl | rfl | rfl | rfl | rfl | rfl | rfl | rfl | rfl | rfl | rfl
    · cases hb : e.b0
      · go_wp2_with fail
        go_round
        case rel => exact ⟨1, by omega, by go_num, congrArg (fun y => Value.int IntKind.u64 (U y)) (show wordK e 0 = if e.b0 = true then wordK e 0 ||| 1#64 <<< 0 else wordK e 0 by rw [hb]; rfl)⟩
        case measure => simp [intOf]
      · go_wp2_with fail
        go_round
        case rel => exact ⟨1, by omega, by go_num, congrArg (fun y => Value.int IntKind.u64 (U y)) (show wordK e 0 ||| 1#64 <<< 0 = if e.b0 = true then wordK e 0 ||| 1#64 <<< 0 else wordK e 0 by rw [hb]; rfl)⟩
        case measure => simp [intOf]
    · cases hb : e.b1
      · go_wp2_with fail
        go_round
        case rel => exact ⟨2, by omega, by go_num, congrArg (fun y => Value.int IntKind.u64 (U y)) (show wordK e 1 = if e.b1 = true then wordK e 1 ||| 1#64 <<< 1 else wordK e 1 by rw [hb]; rfl)⟩
        case measure => simp [intOf]
      · go_wp2_with fail
        go_round
        case rel => exact ⟨2, by omega, by go_num, congrArg (fun y => Value.int IntKind.u64 (U y)) (show wordK e 1 ||| 1#64 <<< 1 = if e.b1 = true then wordK e 1 ||| 1#64 <<< 1 else wordK e 1 by rw [hb]; rfl)⟩
        case measure => simp [intOf]
    · cases hb : e.b2
      · go_wp2_with fail
        go_round
        case rel => exact ⟨3, by omega, by go_num, congrArg (fun y => Value.int IntKind.u64 (U y)) (show wordK e 2 = if e.b2 = true then wordK e 2 ||| 1#64 <<< 2 else wordK e 2 by rw [hb]; rfl)⟩
        case measure => simp [intOf]
      · go_wp2_with fail
        go_round
        case rel => exact ⟨3, by omega, by go_num, congrArg (fun y => Value.int IntKind.u64 (U y)) (show wordK e 2 ||| 1#64 <<< 2 = if e.b2 = true then wordK e 2 ||| 1#64 <<< 2 else wordK e 2 by rw [hb]; rfl)⟩
        case measure => simp [intOf]
    · cases hb : e.b3
      · go_wp2_with fail
        go_round
        case rel => exact ⟨4, by omega, by go_num, congrArg (fun y => Value.int IntKind.u64 (U y)) (show wordK e 3 = if e.b3 = true then wordK e 3 ||| 1#64 <<< 3 else wordK e 3 by rw [hb]; rfl)⟩
        case measure => simp [intOf]
      · go_wp2_with fail
        go_round
        case rel => exact ⟨4, by omega, by go_num, congrArg (fun y => Value.int IntKind.u64 (U y)) (show wordK e 3 ||| 1#64 <<< 3 = if e.b3 = true then wordK e 3 ||| 1#64 <<< 3 else wordK e 3 by rw [hb]; rfl)⟩
        case measure => simp [intOf]
    · cases hb : e.b4
      · go_wp2_with fail
        go_round
        case rel => exact ⟨5, by omega, by go_num, congrArg (fun y => Value.int IntKind.u64 (U y)) (show wordK e 4 = if e.b4 = true then wordK e 4 ||| 1#64 <<< 4 else wordK e 4 by rw [hb]; rfl)⟩
        case measure => simp [intOf]
      · go_wp2_with fail
        go_round
        case rel => exact ⟨5, by omega, by go_num, congrArg (fun y => Value.int IntKind.u64 (U y)) (show wordK e 4 ||| 1#64 <<< 4 = if e.b4 = true then wordK e 4 ||| 1#64 <<< 4 else wordK e 4 by rw [hb]; rfl)⟩
        case measure => simp [intOf]
    · cases hb : e.b5
      · go_wp2_with fail
        go_round
        case rel => exact ⟨6, by omega, by go_num, congrArg (fun y => Value.int IntKind.u64 (U y)) (show wordK e 5 = if e.b5 = true then wordK e 5 ||| 1#64 <<< 5 else wordK e 5 by rw [hb]; rfl)⟩
        case measure => simp [intOf]
      · go_wp2_with fail
        go_round
        case rel => exact ⟨6, by omega, by go_num, congrArg (fun y => Value.int IntKind.u64 (U y)) (show wordK e 5 ||| 1#64 <<< 5 = if e.b5 = true then wordK e 5 ||| 1#64 <<< 5 else wordK e 5 by rw [hb]; rfl)⟩
        case measure => simp [intOf]
    · cases hb : e.b6
      · go_wp2_with fail
        go_round
        case rel => exact ⟨7, by omega, by go_num, congrArg (fun y => Value.int IntKind.u64 (U y)) (show wordK e 6 = if e.b6 = true then wordK e 6 ||| 1#64 <<< 6 else wordK e 6 by rw [hb]; rfl)⟩
        case measure => simp [intOf]
      · go_wp2_with fail
        go_round
        case rel => exact ⟨7, by omega, by go_num, congrArg (fun y => Value.int IntKind.u64 (U y)) (show wordK e 6 ||| 1#64 <<< 6 = if e.b6 = true then wordK e 6 ||| 1#64 <<< 6 else wordK e 6 by rw [hb]; rfl)⟩
        case measure => simp [intOf]
    · cases hb : e.b7
      · go_wp2_with fail
        go_round
        case rel => exact ⟨8, by omega, by go_num, congrArg (fun y => Value.int IntKind.u64 (U y)) (show wordK e 7 = if e.b7 = true then wordK e 7 ||| 1#64 <<< 7 else wordK e 7 by rw [hb]; rfl)⟩
        case measure => simp [intOf]
      · go_wp2_with fail
        go_round
        case rel => exact ⟨8, by omega, by go_num, congrArg (fun y => Value.int IntKind.u64 (U y)) (show wordK e 7 ||| 1#64 <<< 7 = if e.b7 = true then wordK e 7 ||| 1#64 <<< 7 else wordK e 7 by rw [hb]; rfl)⟩
        case measure => simp [intOf]
    · cases hb : e.b8
      · go_wp2_with fail
        go_round
        case rel => exact ⟨9, by omega, by go_num, congrArg (fun y => Value.int IntKind.u64 (U y)) (show wordK e 8 = if e.b8 = true then wordK e 8 ||| 1#64 <<< 58 else wordK e 8 by rw [hb]; rfl)⟩
        case measure => simp [intOf]
      · go_wp2_with fail
        go_round
        case rel => exact ⟨9, by omega, by go_num, congrArg (fun y => Value.int IntKind.u64 (U y)) (show wordK e 8 ||| 1#64 <<< 58 = if e.b8 = true then wordK e 8 ||| 1#64 <<< 58 else wordK e 8 by rw [hb]; rfl)⟩
        case measure => simp [intOf]
    · cases hb : e.b9
      · go_wp2_with fail
        go_round
        case rel => exact ⟨10, by omega, by go_num, congrArg (fun y => Value.int IntKind.u64 (U y)) (show wordK e 9 = if e.b9 = true then wordK e 9 ||| 1#64 <<< 59 else wordK e 9 by rw [hb]; rfl)⟩
        case measure => simp [intOf]
      · go_wp2_with fail
        go_round
        case rel => exact ⟨10, by omega, by go_num, congrArg (fun y => Value.int IntKind.u64 (U y)) (show wordK e 9 ||| 1#64 <<< 59 = if e.b9 = true then wordK e 9 ||| 1#64 <<< 59 else wordK e 9 by rw [hb]; rfl)⟩
        case measure => simp [intOf]
    · cases hb : e.b10
      · go_wp2_with fail
        go_round
        case rel => exact ⟨11, by omega, by go_num, congrArg (fun y => Value.int IntKind.u64 (U y)) (show wordK e 10 = if e.b10 = true then wordK e 10 ||| 1#64 <<< 60 else wordK e 10 by rw [hb]; rfl)⟩
        case measure => simp [intOf]
      · go_wp2_with fail
        go_round
        case rel => exact ⟨11, by omega, by go_num, congrArg (fun y => Value.int IntKind.u64 (U y)) (show wordK e 10 ||| 1#64 <<< 60 = if e.b10 = true then wordK e 10 ||| 1#64 <<< 60 else wordK e 10 by rw [hb]; rfl)⟩
        case measure => simp [intOf]
    · cases hb : e.b11
      · go_wp2_with fail
        go_round
        case rel => exact ⟨12, by omega, by go_num, congrArg (fun y => Value.int IntKind.u64 (U y)) (show wordK e 11 = if e.b11 = true then wordK e 11 ||| 1#64 <<< 61 else wordK e 11 by rw [hb]; rfl)⟩
        case measure => simp [intOf]
      · go_wp2_with fail
        go_round
        case rel => exact ⟨12, by omega, by go_num, congrArg (fun y => Value.int IntKind.u64 (U y)) (show wordK e 11 ||| 1#64 <<< 61 = if e.b11 = true then wordK e 11 ||| 1#64 <<< 61 else wordK e 11 by rw [hb]; rfl)⟩
        case measure => simp [intOf]
    · go_wp2_with fail
      go_ret
      refine ⟨rfl, ?_⟩
      repeat (first | with_reducible exact Below.refl _ _ | with_reducible assumption | with_reducible refine below_drewN ?_ _ | with_reducible refine below_alloc ?_ _)
end Go.Proofs.Ytnfaalknhcenpaa
