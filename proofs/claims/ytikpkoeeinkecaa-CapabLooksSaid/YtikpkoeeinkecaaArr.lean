
/-
  == of two arrays of sixteen bytes; those of two capabilities.
-/
import Derived.Test.YtikpkoeeinkecaaNumber
import Derived.ChangeKeysEq
import Derived.Laws.StructEq
namespace Go.Proofs.Ytikpkoeeinkecaa
open Go Go.RowKit
set_option linter.unusedVariables false
set_option linter.unusedSimpArgs false

theorem items_int {P : Program} (d : Nat) {e : TypeId} {k : IntKind} (hu : P.underlying e = some (.int k)) (xs ys : List Int) (w : World) : ∀ is : List Nat, (∀ i ∈ is, i < xs.length ∧ i < ys.length) →
    (Op.eqItems (d + 1) e 1 (xs.map (Value.int k)).toArray (ys.map (Value.int k)).toArray is).run P w = .ok (is.all fun i => xs.getD i 0 == ys.getD i 0) w
  | [], _ => by simp [Op.eqItems]
  | i :: is, h => by
    have hp : P.plainKey e = true := by simp [Program.plainKey, hu]
    obtain ⟨h1, h2⟩ := h i (by simp)
    have p1 := run_part_plain (P := P) w hp (xs := (xs.map (Value.int k)).toArray) (off := i * 1) (v := .int k (xs.getD i 0)) (by simp [h1])
    have p2 := run_part_plain (P := P) w hp (xs := (ys.map (Value.int k)).toArray) (off := i * 1) (v := .int k (ys.getD i 0)) (by simp [h2])
    have p3 := run_equalIn_int (P := P) w d e k k (xs.getD i 0) (ys.getD i 0) hu
    have ih := items_int d hu xs ys w is (fun j hj => h j (by simp [hj]))
    simp only [Op.eqItems, Sem.run_bind, p1, p2, p3, Result.andThen_ok, List.all_cons]
    cases (xs.getD i 0 == ys.getD i 0)
    · simp
    · simpa using ih
theorem arr_guard : Try.prog.eqGuardType Try.prog.depth 56 = false := by kernel_rfl
theorem arr_cells : Try.prog.cellsOf 5 = 1 := by kernel_rfl
theorem arr_info : (Try.prog.info? 5).isSome = true := by kernel_rfl
theorem arr_eql (xs ys : List Int) (ha : xs.length = 16) (hb : ys.length = 16) (w : World) : (binOp .eql 56 (.agg (xs.map (Value.int .u8)).toArray) (.agg (ys.map (Value.int .u8)).toArray)).run Try.prog w = .ok (.bool ((List.range 16).all fun i => xs.getD i 0 == ys.getD i 0)) w := by
  obtain ⟨i, hi⟩ := Option.isSome_iff_exists.1 arr_info
  rw [run_eql_struct]
  rw [show (10000 : Nat) = 9998 + 1 + 1 from rfl, run_equalIn_array w (9998 + 1) _ _ Try.underlying56 hi, arr_cells]
  rw [items_int 9998 Try.underlying5 xs ys w (List.range 16) (fun j hj => by rw [List.mem_range] at hj; omega)]
  rfl
theorem bytes_iff (x y : BitVec 64) (h : ∀ k, k < 8 → byteI x k = byteI y k) : x = y := by
  have key : ∀ k, k ≤ 8 → lowB x k = lowB y k := by
    intro k
    induction k with
    | zero => intro _; rw [lowB_zero, lowB_zero]
    | succ k ih =>
      intro hk
      have e := h k (by omega)
      rw [byteI_U, byteI_U, U_inj] at e
      rw [lowB_next, lowB_next, ih (by omega), e]
  have := key 8 (Nat.le_refl _)
  rw [lowB_all, lowB_all] at this
  exact this
def bytesI (a m : BitVec 64) : List Int := [byteI a 0, byteI a 1, byteI a 2, byteI a 3, byteI a 4, byteI a 5, byteI a 6, byteI a 7, byteI m 0, byteI m 1, byteI m 2, byteI m 3, byteI m 4, byteI m 5, byteI m 6, byteI m 7]
theorem bytesI_lo (a m : BitVec 64) : ∀ k, k < 8 → (bytesI a m).getD k 0 = byteI a k
  | 0, _ => rfl | 1, _ => rfl | 2, _ => rfl | 3, _ => rfl | 4, _ => rfl | 5, _ => rfl | 6, _ => rfl | 7, _ => rfl
  | n + 8, h => by omega
theorem bytesI_hi (a m : BitVec 64) : ∀ k, k < 8 → (bytesI a m).getD (8 + k) 0 = byteI m k
  | 0, _ => rfl | 1, _ => rfl | 2, _ => rfl | 3, _ => rfl | 4, _ => rfl | 5, _ => rfl | 6, _ => rfl | 7, _ => rfl
  | n + 8, h => by omega
theorem all_bytes (a m b n : BitVec 64) : ((List.range 16).all fun i => (bytesI a m).getD i 0 == (bytesI b n).getD i 0) = (m == n && a == b) := by
  rw [Bool.eq_iff_iff, List.all_eq_true]
  constructor
  · intro h
    have e1 : a = b := bytes_iff a b fun k hk => by
      have := h k (List.mem_range.2 (by omega))
      rw [beq_iff_eq, bytesI_lo _ _ _ hk, bytesI_lo _ _ _ hk] at this
      exact this
    have e2 : m = n := bytes_iff m n fun k hk => by
      have := h (8 + k) (List.mem_range.2 (by omega))
      rw [beq_iff_eq, bytesI_hi _ _ _ hk, bytesI_hi _ _ _ hk] at this
      exact this
    subst e1; subst e2
    simp
  · intro h
    simp only [Bool.and_eq_true, beq_iff_eq] at h
    obtain ⟨rfl, rfl⟩ := h
    intro i _
    simp
theorem caps_eql (a m b n : BitVec 64) (w : World) : (binOp .eql 56 (.agg #[.int .u8 (byteI a 0), .int .u8 (byteI a 1), .int .u8 (byteI a 2), .int .u8 (byteI a 3), .int .u8 (byteI a 4), .int .u8 (byteI a 5), .int .u8 (byteI a 6), .int .u8 (byteI a 7), .int .u8 (byteI m 0), .int .u8 (byteI m 1), .int .u8 (byteI m 2), .int .u8 (byteI m 3), .int .u8 (byteI m 4), .int .u8 (byteI m 5), .int .u8 (byteI m 6), .int .u8 (byteI m 7)]) (.agg #[.int .u8 (byteI b 0), .int .u8 (byteI b 1), .int .u8 (byteI b 2), .int .u8 (byteI b 3), .int .u8 (byteI b 4), .int .u8 (byteI b 5), .int .u8 (byteI b 6), .int .u8 (byteI b 7), .int .u8 (byteI n 0), .int .u8 (byteI n 1), .int .u8 (byteI n 2), .int .u8 (byteI n 3), .int .u8 (byteI n 4), .int .u8 (byteI n 5), .int .u8 (byteI n 6), .int .u8 (byteI n 7)])).run Try.prog w = .ok (.bool (m == n && a == b)) w := by
  rw [← all_bytes]
  exact arr_eql (bytesI a m) (bytesI b n) rfl rfl w
attribute [go_sem 3000] arr_guard caps_eql
end Go.Proofs.Ytikpkoeeinkecaa
