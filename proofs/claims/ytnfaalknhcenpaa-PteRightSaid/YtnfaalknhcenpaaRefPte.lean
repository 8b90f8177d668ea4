
/-
  The document's answers for an entry of a page table (mintmarkref09).
-/
import Derived.Test.YtnfaalknhcenpaaPte
import Derived.Test.YtnfaalknhcenpaaPteOf
import Derived.Test.YtnfaalknhcenpaaPteRight
import Derived.BigQuiet
import Derived.Deep.QuietTactic
namespace Go.Proofs.Ytnfaalknhcenpaa
open Go Go.RowKit
set_option linter.unusedVariables false

def bitV (b : Bool) (q : Int) : BitVec 64 := if b = true then 1#64 <<< q.toNat else 0#64
theorem bit_any (b : Bool) (q : Int) (h : 0 ≤ q) (w : World) : Calls Try.prog 25 #[.bool b, .int .u64 q] w fun e w' => e = .returned (.int .u64 (U (bitV b q))) ∧ w = w' := by
  cases b
  all_goals go_enter Try.func25, Try.ntmps25
  all_goals go_wp2
  all_goals go_ret
  all_goals exact ⟨rfl, rfl⟩
theorem has_is (x : BitVec 64) (q : Nat) : (x >>> q % 2#64 == 1#64) = bitF x q := by
  unfold bitF
  rw [rem_is (x >>> q) 1 2#64 (by omega) rfl, show maskF ((1 : Nat) : Int) = 1#64 from rfl]
  have h : x >>> q &&& 1#64 = 0#64 ∨ x >>> q &&& 1#64 = 1#64 := by
    have h1 : (x >>> q &&& 1#64).toNat ≤ 1 := by rw [BitVec.toNat_and]; exact Nat.and_le_right
    have h2 : (x >>> q &&& 1#64).toNat = 0 ∨ (x >>> q &&& 1#64).toNat = 1 := by omega
    rcases h2 with h2 | h2
    · exact .inl (BitVec.eq_of_toNat_eq h2)
    · exact .inr (BitVec.eq_of_toNat_eq h2)
  rcases h with h | h <;> rw [h] <;> rfl
theorem has_any (x : BitVec 64) (q : Int) (h : 0 ≤ q) (w : World) : Calls Try.prog 26 #[.int .u64 (U x), .int .u64 q] w fun e w' => e = .returned (.bool (bitF x q.toNat)) ∧ w = w' := by
  go_enter Try.func26, Try.ntmps26
  go_wp2
  go_ret
  exact ⟨ret_bool (has_is x _), rfl⟩
def rwordE (e : Ent) : BitVec 64 := (((((((((((bitV e.b0 0 + bitV e.b1 1) + bitV e.b2 2) + bitV e.b3 3) + bitV e.b4 4) + bitV e.b5 5) + bitV e.b6 6) + bitV e.b7 7) + bitV e.b8 58) + bitV e.b9 59) + bitV e.b10 60) + bitV e.b11 61) + (e.f % 17592186044416#64) <<< 10
set_option maxHeartbeats 1000000 in
set_option maxRecDepth 100000 in
theorem rword_any (e : Ent) (w : World) : Calls Try.prog 15 #[.agg #[.bool e.b0, .bool e.b1, .bool e.b2, .bool e.b3, .bool e.b4, .bool e.b5, .bool e.b6, .bool e.b7, .bool e.b8, .bool e.b9, .bool e.b10, .bool e.b11, .int .u64 (U e.f)]] w fun x w' => x = .returned (.int .u64 (U (rwordE e))) ∧ Below w.heap.size w w' := by
  go_enter Try.func15, Try.ntmps15
  go_wp2_with fail
  go_quiet ((go_at_call 25; first | with_reducible exact quiet_1 (bit_any _ _ (by decide) _) | with_reducible exact quiet_1a (bit_any _ _ (by decide) _)))
  go_wp2_with fail
  go_quiet ((go_at_call 25; first | with_reducible exact quiet_1 (bit_any _ _ (by decide) _) | with_reducible exact quiet_1a (bit_any _ _ (by decide) _)))
  go_wp2_with fail
  go_ret
  refine ⟨rfl, ?_⟩
  repeat (first | with_reducible exact Below.refl _ _ | with_reducible refine below_drewN ?_ _ | with_reducible refine below_alloc ?_ _)
set_option maxHeartbeats 1000000 in
set_option maxRecDepth 100000 in
theorem rof_any (x : BitVec 64) (w : World) : Calls Try.prog 16 #[.int .u64 (U x)] w fun e w' => e = .returned (.agg #[.bool (ofE x).b0, .bool (ofE x).b1, .bool (ofE x).b2, .bool (ofE x).b3, .bool (ofE x).b4, .bool (ofE x).b5, .bool (ofE x).b6, .bool (ofE x).b7, .bool (ofE x).b8, .bool (ofE x).b9, .bool (ofE x).b10, .bool (ofE x).b11, .int .u64 (U (ofE x).f)]) ∧ Below w.heap.size w w' := by
  have hf := Lib.hid (show x >>> 10 % 17592186044416#64 = getF x 10 44 from by
    rw [rem_is (x >>> 10) 44 17592186044416#64 (by omega) rfl]
    rfl)
  go_enter Try.func16, Try.ntmps16
  go_wp2_with (go_at_call 26; (with_reducible refine (has_any _ _ (by decide) _).mono ?_); rintro e w' ⟨rfl, rfl⟩)
  go_returns
  refine ⟨by rw [hf.out]; rfl, ?_⟩
  repeat (first | with_reducible exact Below.refl _ _ | with_reducible refine below_drewN ?_ _ | with_reducible refine below_alloc ?_ _)
theorem rleaf_any (e : Ent) (w : World) : Calls Try.prog 18 #[.agg #[.bool e.b0, .bool e.b1, .bool e.b2, .bool e.b3, .bool e.b4, .bool e.b5, .bool e.b6, .bool e.b7, .bool e.b8, .bool e.b9, .bool e.b10, .bool e.b11, .int .u64 (U e.f)]] w fun x w' => x = .returned (.bool (leafF e)) ∧ w.alloc (.cells #[.bool e.b0, .bool e.b1, .bool e.b2, .bool e.b3, .bool e.b4, .bool e.b5, .bool e.b6, .bool e.b7, .bool e.b8, .bool e.b9, .bool e.b10, .bool e.b11, .int .u64 (U e.f)] 34) = w' := by
  cases h0 : e.b0
  all_goals cases h1 : e.b1
  all_goals cases h2 : e.b2
  all_goals cases h3 : e.b3
  all_goals
    go_enter Try.func18, Try.ntmps18
    go_wp2
    go_ret
    refine ⟨ret_bool ?_, by first | rfl | (simp; done)⟩
    unfold leafF
    rw [h0, h1, h2, h3]
    rfl
theorem rleaf_cells (b0 b1 b2 b3 b4 b5 b6 b7 b8 b9 b10 b11 : Bool) (f : BitVec 64) (w : World) : Calls Try.prog 18 #[.agg #[.bool b0, .bool b1, .bool b2, .bool b3, .bool b4, .bool b5, .bool b6, .bool b7, .bool b8, .bool b9, .bool b10, .bool b11, .int .u64 (U f)]] w fun x w' => x = .returned (.bool (b0 && (b1 || b2 || b3))) ∧ w.alloc (.cells #[.bool b0, .bool b1, .bool b2, .bool b3, .bool b4, .bool b5, .bool b6, .bool b7, .bool b8, .bool b9, .bool b10, .bool b11, .int .u64 (U f)] 34) = w' :=
  rleaf_any ⟨b0, b1, b2, b3, b4, b5, b6, b7, b8, b9, b10, b11, f⟩ w
set_option maxHeartbeats 4000000 in
set_option maxRecDepth 100000 in
theorem rright_any (e : Ent) (w : World) : Calls Try.prog 20 #[.agg #[.bool e.b0, .bool e.b1, .bool e.b2, .bool e.b3, .bool e.b4, .bool e.b5, .bool e.b6, .bool e.b7, .bool e.b8, .bool e.b9, .bool e.b10, .bool e.b11, .int .u64 (U e.f)]] w fun x w' => x = .returned (.bool (rightF e)) ∧ Below w.heap.size w w' := by
  have hle := Lib.hid (show decide (17592186044415 < U e.f) = decide (17592186044416 ≤ U e.f) from decide_eq_decide.2 (by omega))
  cases h0 : e.b0
  · go_enter Try.func20, Try.ntmps20
    go_wp2_with fail
    go_ret
    exact ⟨ret_bool (by unfold rightF; rw [h0]; rfl), Below.alloc (Below.refl _ _) (Nat.le_refl _) _⟩
  · cases h1 : e.b1
    all_goals cases h2 : e.b2
    all_goals cases h8 : e.b8
    all_goals cases h9 : e.b9
    all_goals cases hf : decide (17592186044416 ≤ U e.f)
    all_goals cases h3 : e.b3
    all_goals
      go_enter Try.func20, Try.ntmps20
      go_wp2_with (go_at_call 18; (with_reducible refine (rleaf_cells _ _ _ _ _ _ _ _ _ _ _ _ _ _).mono ?_); rintro e w' ⟨rfl, rfl⟩)
    all_goals go_ret
    all_goals refine ⟨ret_bool (by unfold rightF leafF; rw [hle.out, h0, h1, h2, h3, h8, h9, hf]; first | rfl | (simp; done) | (simp [*]; done)), ?_⟩
    all_goals repeat (first | with_reducible exact Below.refl _ _ | with_reducible refine below_drewN ?_ _ | with_reducible refine below_alloc ?_ _)
end Go.Proofs.Ytnfaalknhcenpaa
