
/-
  == of sets; what an offset is the first of.
-/
import Derived.Test.YtfbkfbmfeaajkaaTagsC
import Derived.ChangeKeysEq
import Derived.Laws.StructEq
namespace Go.Proofs.Ytfbkfbmfeaajkaa
open Go Go.RowKit
set_option linter.unusedVariables false
set_option linter.unusedSimpArgs false

theorem items_int {P : Program} (d : Nat) {e : TypeId} {k : IntKind} (hu : P.underlying e = some (.int k)) (xs ys : List Int) (w : World) : ∀ is : List Nat, (∀ i ∈ is, i < xs.length ∧ i < ys.length) →
    (Op.eqItems (d + 1) e 1 (xs.map (Value.int k)).toArray (ys.map (Value.int k)).toArray is).run P w = .ok (is.all fun i => xs.getD i 0 == ys.getD i 0) w
  | [], _ => by simp [Op.eqItems]
  | i :: is, h => by
    have hp : P.plainKey e = true := by simp [Program.plainKey, hu]
    obtain ⟨h1, h2⟩ := h i (by simp)
    have p1 := run_part_plain (P := P) w hp (xs := (xs.map (Value.int k)).toArray) (off := i * 1) (v := .int k (xs.getD i 0)) (by simp [h1])
    have p2 := run_part_plain (P := P) w hp (xs := (ys.map (Value.int k)).toArray) (off := i * 1) (v := .int k (ys.getD i 0)) (by simp [h2])
    have p3 := run_equalIn_int (P := P) w d e k k (xs.getD i 0) (ys.getD i 0) hu
    have ih := items_int d hu xs ys w is (fun j hj => h j (by simp [hj]))
    simp only [Op.eqItems, Sem.run_bind, p1, p2, p3, Result.andThen_ok, List.all_cons]
    cases (xs.getD i 0 == ys.getD i 0)
    · simp
    · simpa using ih
theorem set_guard : Try.prog.eqGuardType Try.prog.depth 26 = false := by kernel_rfl
theorem set_eql (a b c d a' b' c' d' : BitVec 64) (w : World) : (binOp .eql 26 (.agg #[.int .u64 (U a), .int .u64 (U b), .int .u64 (U c), .int .u64 (U d)]) (.agg #[.int .u64 (U a'), .int .u64 (U b'), .int .u64 (U c'), .int .u64 (U d')])).run Try.prog w = .ok (.bool (a == a' && (b == b' && (c == c' && d == d')))) w := by
  obtain ⟨i, hi⟩ := Option.isSome_iff_exists.1 (show (Try.prog.info? 24).isSome = true by kernel_rfl)
  have hc : Try.prog.cellsOf 24 = 1 := by kernel_rfl
  have h := items_int (P := Try.prog) 9998 Try.underlying24 [U a, U b, U c, U d] [U a', U b', U c', U d'] w (List.range 4) (fun j hj => by rw [List.mem_range] at hj; exact ⟨hj, hj⟩)
  rw [run_eql_struct]
  rw [show (10000 : Nat) = 9998 + 1 + 1 from rfl, run_equalIn_array w (9998 + 1) _ _ Try.underlying26 hi, hc]
  rw [show (#[.int .u64 (U a), .int .u64 (U b), .int .u64 (U c), .int .u64 (U d)] : Array Value) = ([U a, U b, U c, U d].map (Value.int .u64)).toArray from rfl, show (#[.int .u64 (U a'), .int .u64 (U b'), .int .u64 (U c'), .int .u64 (U d')] : Array Value) = ([U a', U b', U c', U d'].map (Value.int .u64)).toArray from rfl, h]
  simp [List.range, List.range.loop, U_beq, Result.andThen]
theorem set_neq (a b c d a' b' c' d' : BitVec 64) (w : World) : (binOp .neq 26 (.agg #[.int .u64 (U a), .int .u64 (U b), .int .u64 (U c), .int .u64 (U d)]) (.agg #[.int .u64 (U a'), .int .u64 (U b'), .int .u64 (U c'), .int .u64 (U d')])).run Try.prog w = .ok (.bool (!(a == a' && (b == b' && (c == c' && d == d'))))) w := neq_of_eql (set_eql a b c d a' b' c' d' w)
theorem arr_guard : Try.prog.eqGuardType Try.prog.depth 25 = false := by kernel_rfl
theorem arr_eql (a b c d a' b' c' d' : BitVec 64) (w : World) : (binOp .eql 25 (.agg #[.int .u64 (U a), .int .u64 (U b), .int .u64 (U c), .int .u64 (U d)]) (.agg #[.int .u64 (U a'), .int .u64 (U b'), .int .u64 (U c'), .int .u64 (U d')])).run Try.prog w = .ok (.bool (a == a' && (b == b' && (c == c' && d == d')))) w := by
  obtain ⟨i, hi⟩ := Option.isSome_iff_exists.1 (show (Try.prog.info? 24).isSome = true by kernel_rfl)
  have hc : Try.prog.cellsOf 24 = 1 := by kernel_rfl
  have h := items_int (P := Try.prog) 9998 Try.underlying24 [U a, U b, U c, U d] [U a', U b', U c', U d'] w (List.range 4) (fun j hj => by rw [List.mem_range] at hj; exact ⟨hj, hj⟩)
  rw [run_eql_struct]
  rw [show (10000 : Nat) = 9998 + 1 + 1 from rfl, run_equalIn_array w (9998 + 1) _ _ Try.underlying25 hi, hc]
  rw [show (#[.int .u64 (U a), .int .u64 (U b), .int .u64 (U c), .int .u64 (U d)] : Array Value) = ([U a, U b, U c, U d].map (Value.int .u64)).toArray from rfl, show (#[.int .u64 (U a'), .int .u64 (U b'), .int .u64 (U c'), .int .u64 (U d')] : Array Value) = ([U a', U b', U c', U d'].map (Value.int .u64)).toArray from rfl, h]
  simp [List.range, List.range.loop, U_beq, Result.andThen]
theorem arr_neq (a b c d a' b' c' d' : BitVec 64) (w : World) : (binOp .neq 25 (.agg #[.int .u64 (U a), .int .u64 (U b), .int .u64 (U c), .int .u64 (U d)]) (.agg #[.int .u64 (U a'), .int .u64 (U b'), .int .u64 (U c'), .int .u64 (U d')])).run Try.prog w = .ok (.bool (!(a == a' && (b == b' && (c == c' && d == d'))))) w := neq_of_eql (arr_eql a b c d a' b' c' d' w)
attribute [go_sem 3000] set_guard set_eql set_neq arr_guard arr_eql arr_neq
def algS (off : Int) : Bool := decide (0 ≤ off) && (decide (off < 4096) && (off % 16 == 0))
theorem aligned_any (off : Int) (w : World) : Calls Try.prog 7 #[.int .i64 off] w fun r w' => r = .returned (.tuple #[.int .i64 (if algS off = true then off / 16 else 0), .bool (algS off)]) ∧ w = w' := by
  unfold algS
  by_cases h0 : 0 ≤ off
  · by_cases h1 : off < 4096
    · have hd0 : decide (off < 0) = false := decide_eq_false (by omega)
      have hd1 : decide (4096 ≤ off) = false := decide_eq_false (by omega)
      rw [decide_eq_true h0, decide_eq_true h1]
      cases h2 : (off % 16 == 0)
      · have h3 : (off % 16 != 0) = true := by rw [bne, h2]; rfl
        go_enter Try.func7, Try.ntmps7
        go_wp2_with fail
        go_ret2
        exact ⟨rfl, rfl⟩
      · have h3 : (off % 16 != 0) = false := by rw [bne, h2]; rfl
        go_enter Try.func7, Try.ntmps7
        go_wp2_with fail
        go_ret2
        exact ⟨rfl, rfl⟩
    · have hd0 : decide (off < 0) = false := decide_eq_false (by omega)
      have hd1 : decide (4096 ≤ off) = true := decide_eq_true (by omega)
      rw [decide_eq_true h0, decide_eq_false h1]
      go_enter Try.func7, Try.ntmps7
      go_wp2_with fail
      go_ret2
      exact ⟨rfl, rfl⟩
  · have hd0 : decide (off < 0) = true := decide_eq_true (by omega)
    rw [decide_eq_false h0]
    go_enter Try.func7, Try.ntmps7
    go_wp2_with fail
    go_ret2
    exact ⟨rfl, rfl⟩
end Go.Proofs.Ytfbkfbmfeaajkaa
