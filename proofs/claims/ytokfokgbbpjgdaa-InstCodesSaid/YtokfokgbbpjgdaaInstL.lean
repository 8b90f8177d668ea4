
/-
  The laws' calls, each.
-/
import Derived.Test.YtokfokgbbpjgdaaInstG
import Derived.Test.YtokfokgbbpjgdaaInstB
namespace Go.Proofs.Ytokfokgbbpjgdaa
open Go Go.RowKit
set_option linter.unusedVariables false
set_option linter.unusedSimpArgs false

/-- Encode and Decode as a law meets them. -/
theorem enc_no {o : Int} {d a b m : BitVec 64} (h : encF ⟨o, d, a, b, m⟩ = none) (w : World) : Calls Try.prog 7 #[.agg #[.int .i64 o, .int .i64 (S d), .int .i64 (S a), .int .i64 (S b), .int .i64 (S m)]] w fun e w' => e = .returned (.tuple #[.int .u32 0, .bool false]) ∧ Below w.heap.size w w' :=
  (enc_any ⟨o, d, a, b, m⟩ w).mono fun _ _ x => ⟨by rw [x.1]; unfold encV; rw [h]; rfl, x.2⟩
theorem enc_yes {o : Int} {d a b m y : BitVec 64} (h : encF ⟨o, d, a, b, m⟩ = some y) (hy : y.toNat < 2 ^ 32) (w : World) : Calls Try.prog 7 #[.agg #[.int .i64 o, .int .i64 (S d), .int .i64 (S a), .int .i64 (S b), .int .i64 (S m)]] w fun e w' => e = .returned (.tuple #[.int .u32 (U y), .bool true]) ∧ Below w.heap.size w w' :=
  (enc_any ⟨o, d, a, b, m⟩ w).mono fun _ _ x => ⟨by
    rw [x.1]; unfold encV; rw [h]
    show _ = Ending.returned (.tuple #[.int .u32 (U y), .bool true])
    rw [show U y = U y % 4294967296 by unfold U; omega]
    rfl, x.2⟩
theorem dec_no {y : BitVec 64} (h : decF y = none) (w : World) : Calls Try.prog 9 #[.int .u32 (U y)] w fun e w' => e = .returned (.tuple #[.agg #[.int .i64 0, .int .i64 0, .int .i64 0, .int .i64 0, .int .i64 0], .bool false]) ∧ Below w.heap.size w w' :=
  (dec_any y w).mono fun _ _ x => ⟨by rw [x.1]; unfold decV; rw [h]; rfl, x.2⟩
theorem dec_yes {y : BitVec 64} {o : Int} {d a b m : BitVec 64} (h : decF y = some ⟨o, d, a, b, m⟩) (w : World) : Calls Try.prog 9 #[.int .u32 (U y)] w fun e w' => e = .returned (.tuple #[.agg #[.int .i64 o, .int .i64 (S d), .int .i64 (S a), .int .i64 (S b), .int .i64 (S m)], .bool true]) ∧ Below w.heap.size w w' :=
  (dec_any y w).mono fun _ _ x => ⟨by rw [x.1]; unfold decV; rw [h]; rfl, x.2⟩
theorem name_in {k : Nat} (h : k < 69) : nameF ((k : Int) + 1) = (rowAt k).nm ∧ shapeF ((k : Int) + 1) = (rowAt k).sh := by
  unfold nameF shapeF
  rw [if_neg (by omega), if_neg (by omega), show ((k : Int) + 1 - 1).toNat = k by omega]
  exact ⟨rfl, rfl⟩
theorem name_out {o : Int} (h : o < 1 ∨ 69 < o) : nameF o = ⟨#[]⟩ ∧ shapeF o = 0 := by
  unfold nameF shapeF
  rw [if_pos h, if_pos h]
  exact ⟨rfl, rfl⟩
theorem find_none : findN ⟨#[]⟩ 69 0 = 0 := by kernel_rfl
theorem find_all : ((List.range 69).all fun k => findN (rowAt k).nm 69 0 == (k : Int) + 1) = true := by kernel_rfl
theorem find_name {k : Nat} (h : k < 69) : findN (rowAt k).nm 69 0 = (k : Int) + 1 := by
  have := List.all_eq_true.1 find_all k (List.mem_range.2 h)
  simpa using this
end Go.Proofs.Ytokfokgbbpjgdaa
