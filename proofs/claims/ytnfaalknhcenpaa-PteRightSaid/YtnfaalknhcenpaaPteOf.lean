
/-
  The entry of a number; which entry is of a page, and right (pte).
-/
import Derived.Test.YtnfaalknhcenpaaPte
import Derived.BigQuiet
import Derived.Deep.QuietTactic
namespace Go.Proofs.Ytnfaalknhcenpaa
open Go Go.RowKit
set_option linter.unusedVariables false

def bitF (x : BitVec 64) (q : Nat) : Bool := (x >>> q &&& 1#64) != 0#64
def placeN (k : Nat) : Nat := if k < 8 then k else k + 50
def ofE (x : BitVec 64) : Ent := ⟨bitF x 0, bitF x 1, bitF x 2, bitF x 3, bitF x 4, bitF x 5, bitF x 6, bitF x 7, bitF x 58, bitF x 59, bitF x 60, bitF x 61, getF x 10 44⟩
theorem places_at (k : Nat) (h : k < 12) (w : World) : (Instr.index 42 (.agg #[.int .i64 0, .int .i64 1, .int .i64 2, .int .i64 3, .int .i64 4, .int .i64 5, .int .i64 6, .int .i64 7, .int .i64 58, .int .i64 59, .int .i64 60, .int .i64 61]) (.int .i64 k)).run Try.prog w = .ok (.int .i64 (placeN k)) w := by
  have hc : k = 0 ∨ k = 1 ∨ k = 2 ∨ k = 3 ∨ k = 4 ∨ k = 5 ∨ k = 6 ∨ k = 7 ∨ k = 8 ∨ k = 9 ∨ k = 10 ∨ k = 11 := by omega
  rcases hc with rfl | rfl | rfl | rfl | rfl | rfl | rfl | rfl | rfl | rfl | rfl | rfl
  · exact places_0 w
  · exact places_1 w
  · exact places_2 w
  · exact places_3 w
  · exact places_4 w
  · exact places_5 w
  · exact places_6 w
  · exact places_7 w
  · exact places_8 w
  · exact places_9 w
  · exact places_10 w
  · exact places_11 w
/-- What the loop holds. -/
structure OfAt (x : BitVec 64) (w wr : World) (k : Nat) : Prop where
  bel : Below w.heap.size w wr
  ptr : ∀ j, j < 12 → wr.cell? ⟨w.heap.size + 3, j, none⟩ = some (.pointer (some ⟨w.heap.size + 1, j, none⟩))
  bit : ∀ j, j < 12 → wr.cell? ⟨w.heap.size + 1, j, none⟩ = some (.bool (if j < k then bitF x (placeN j) else false))
  fr : wr.cell? ⟨w.heap.size + 1, 12, none⟩ = some (.int .u64 (U (getF x 10 44)))
  thaw : ∀ j, wr.frozen? ⟨w.heap.size + 1, j, none⟩ = false
  res : ∀ j, j < 13 → wr.cell? ⟨w.heap.size, j, none⟩ = some (if j = 12 then .int .u64 0 else .bool false)
  resf : ∀ j, wr.frozen? ⟨w.heap.size, j, none⟩ = false
set_option maxHeartbeats 1000000 in
set_option maxRecDepth 100000 in
theorem of_any (x : BitVec 64) (w : World) : Calls Try.prog 13 #[.int .u64 (U x)] w fun e w' => e = .returned (.agg #[.bool (ofE x).b0, .bool (ofE x).b1, .bool (ofE x).b2, .bool (ofE x).b3, .bool (ofE x).b4, .bool (ofE x).b5, .bool (ofE x).b6, .bool (ofE x).b7, .bool (ofE x).b8, .bool (ofE x).b9, .bool (ofE x).b10, .bool (ofE x).b11, .int .u64 (U (ofE x).f)]) ∧ Below w.heap.size w w' := by
  go_enter Try.func13, Try.ntmps13
  go_wp2_with (first | (go_at_call 21; (with_reducible refine (get_any _ _ _ _).mono ?_); rintro e w' ⟨rfl, kd, rfl⟩) | (go_at_call 22; (with_reducible refine (flags_any _ _).mono ?_); rintro e w' ⟨rfl, kd, rfl⟩) | (go_at_call 23; (with_reducible refine (places_any _).mono ?_); rintro e w' ⟨rfl, rfl⟩))
  go_loopw [12] (fun i wr => ∃ k : Nat, k ≤ 12 ∧ i = .int .i64 k ∧ Hid (OfAt x w wr k)) (fun i _ => 12 - (intOf i).toNat)
  case atStart =>
    refine ⟨0, by omega, rfl, Lib.hid ⟨?_, ?_, ?_, ?_, ?_, ?_, ?_⟩⟩
    · repeat (first | with_reducible exact Below.refl _ _ | with_reducible assumption | with_reducible refine below_drewN ?_ _ | with_reducible refine below_alloc ?_ _)
    · intro j hj
      have hc : j = 0 ∨ j = 1 ∨ j = 2 ∨ j = 3 ∨ j = 4 ∨ j = 5 ∨ j = 6 ∨ j = 7 ∨ j = 8 ∨ j = 9 ∨ j = 10 ∨ j = 11 := by omega
      rcases hc with rfl | rfl | rfl | rfl | rfl | rfl | rfl | rfl | rfl | rfl | rfl | rfl
      all_goals go_simp
    · intro j hj
      have hc : j = 0 ∨ j = 1 ∨ j = 2 ∨ j = 3 ∨ j = 4 ∨ j = 5 ∨ j = 6 ∨ j = 7 ∨ j = 8 ∨ j = 9 ∨ j = 10 ∨ j = 11 := by omega
      rw [if_neg (Nat.not_lt_zero j)]
      rcases hc with rfl | rfl | rfl | rfl | rfl | rfl | rfl | rfl | rfl | rfl | rfl | rfl
      all_goals go_simp
    · go_simp
    · intro j; go_simp
    · intro j hj
      have hc : j = 0 ∨ j = 1 ∨ j = 2 ∨ j = 3 ∨ j = 4 ∨ j = 5 ∨ j = 6 ∨ j = 7 ∨ j = 8 ∨ j = 9 ∨ j = 10 ∨ j = 11 ∨ j = 12 := by omega
      rcases hc with rfl | rfl | rfl | rfl | rfl | rfl | rfl | rfl | rfl | rfl | rfl | rfl | rfl
      all_goals go_simp
    · intro j; go_simp
  case round =>
    obtain ⟨k, hk, rfl, hat⟩ := hrel
    by_cases hlt : k < 12
    · have f1 := hat.out.ptr k hlt
      have f2 := hat.out.bit k hlt
      have f3 := hat.out.thaw k
      have hp := places_at k hlt
      have i0 : (k : Int) < 12 := by omega
      have i1 : 0 ≤ (k : Int) := by omega
      have i2 : (0 : Int) ≤ (placeN k : Int) := by omega
      go_wp2_with fail
      go_region
      go_wp2_with fail
      go_roundw
      case rel =>
        refine ⟨k + 1, by omega, by go_num, Lib.hid ⟨?_, ?_, ?_, ?_, ?_, ?_, ?_⟩⟩
        · exact Below.drew (Below.setCell hat.out.bel (by simp) _)
        · intro j hj
          exact (World.cell?_setCell_other _ _ _ _ (by simp)).trans (hat.out.ptr j hj)
        · intro j hj
          by_cases c : j = k
          · subst c
            rw [if_pos (by omega)]
            exact World.cell?_setCell_same _ _ _ f2
          · rw [show (if j < k + 1 then bitF x (placeN j) else false) = (if j < k then bitF x (placeN j) else false) from by
              by_cases c2 : j < k
              · rw [if_pos c2, if_pos (by omega)]
              · rw [if_neg c2, if_neg (by omega)]]
            exact (World.cell?_setCell_other _ _ _ _ (by first | (simp; done) | (simp; omega))).trans (hat.out.bit j hj)
        · exact (World.cell?_setCell_other _ _ _ _ (by first | (simp; done) | (simp; omega))).trans hat.out.fr
        · intro j
          exact (World.frozen?_setCell _ _ _ _).trans (hat.out.thaw j)
        · intro j hj
          exact (World.cell?_setCell_other _ _ _ _ (by simp)).trans (hat.out.res j hj)
        · intro j
          exact (World.frozen?_setCell _ _ _ _).trans (hat.out.resf j)
      case measure => simp [intOf]; omega
    · have hk' : k = 12 := by omega
      subst hk'
      have c0 : wr.cell? ⟨w.heap.size + 1, 0, none⟩ = some (.bool (bitF x 0)) := hat.out.bit 0 (by omega)
      have c1 : wr.cell? ⟨w.heap.size + 1, 1, none⟩ = some (.bool (bitF x 1)) := hat.out.bit 1 (by omega)
      have c2 : wr.cell? ⟨w.heap.size + 1, 2, none⟩ = some (.bool (bitF x 2)) := hat.out.bit 2 (by omega)
      have c3 : wr.cell? ⟨w.heap.size + 1, 3, none⟩ = some (.bool (bitF x 3)) := hat.out.bit 3 (by omega)
      have c4 : wr.cell? ⟨w.heap.size + 1, 4, none⟩ = some (.bool (bitF x 4)) := hat.out.bit 4 (by omega)
      have c5 : wr.cell? ⟨w.heap.size + 1, 5, none⟩ = some (.bool (bitF x 5)) := hat.out.bit 5 (by omega)
      have c6 : wr.cell? ⟨w.heap.size + 1, 6, none⟩ = some (.bool (bitF x 6)) := hat.out.bit 6 (by omega)
      have c7 : wr.cell? ⟨w.heap.size + 1, 7, none⟩ = some (.bool (bitF x 7)) := hat.out.bit 7 (by omega)
      have c8 : wr.cell? ⟨w.heap.size + 1, 8, none⟩ = some (.bool (bitF x 58)) := hat.out.bit 8 (by omega)
      have c9 : wr.cell? ⟨w.heap.size + 1, 9, none⟩ = some (.bool (bitF x 59)) := hat.out.bit 9 (by omega)
      have c10 : wr.cell? ⟨w.heap.size + 1, 10, none⟩ = some (.bool (bitF x 60)) := hat.out.bit 10 (by omega)
      have c11 : wr.cell? ⟨w.heap.size + 1, 11, none⟩ = some (.bool (bitF x 61)) := hat.out.bit 11 (by omega)
      have c12 := hat.out.fr
      have r0 : wr.cell? ⟨w.heap.size, 0, none⟩ = some (.bool false) := hat.out.res 0 (by omega)
      have r1 : wr.cell? ⟨w.heap.size, 1, none⟩ = some (.bool false) := hat.out.res 1 (by omega)
      have r2 : wr.cell? ⟨w.heap.size, 2, none⟩ = some (.bool false) := hat.out.res 2 (by omega)
      have r3 : wr.cell? ⟨w.heap.size, 3, none⟩ = some (.bool false) := hat.out.res 3 (by omega)
      have r4 : wr.cell? ⟨w.heap.size, 4, none⟩ = some (.bool false) := hat.out.res 4 (by omega)
      have r5 : wr.cell? ⟨w.heap.size, 5, none⟩ = some (.bool false) := hat.out.res 5 (by omega)
      have r6 : wr.cell? ⟨w.heap.size, 6, none⟩ = some (.bool false) := hat.out.res 6 (by omega)
      have r7 : wr.cell? ⟨w.heap.size, 7, none⟩ = some (.bool false) := hat.out.res 7 (by omega)
      have r8 : wr.cell? ⟨w.heap.size, 8, none⟩ = some (.bool false) := hat.out.res 8 (by omega)
      have r9 : wr.cell? ⟨w.heap.size, 9, none⟩ = some (.bool false) := hat.out.res 9 (by omega)
      have r10 : wr.cell? ⟨w.heap.size, 10, none⟩ = some (.bool false) := hat.out.res 10 (by omega)
      have r11 : wr.cell? ⟨w.heap.size, 11, none⟩ = some (.bool false) := hat.out.res 11 (by omega)
      have r12 : wr.cell? ⟨w.heap.size, 12, none⟩ = some (.int .u64 0) := hat.out.res 12 (by omega)
      have rf := hat.out.resf
      go_wp2_with fail
      rw [setCells_13]
      refine bodyPost_ret (results_cells _ _ _ Try.results13 _ _ rfl ?_ Try.underlying28 rfl (by kernel_rfl)) rfl ?_
      · intro j hj
        match j, hj with
        | 0, _ => go_simp
        | 1, _ => go_simp
        | 2, _ => go_simp
        | 3, _ => go_simp
        | 4, _ => go_simp
        | 5, _ => go_simp
        | 6, _ => go_simp
        | 7, _ => go_simp
        | 8, _ => go_simp
        | 9, _ => go_simp
        | 10, _ => go_simp
        | 11, _ => go_simp
        | 12, _ => go_simp
      refine ⟨rfl, ?_⟩
      simp only [World.setCells]
      repeat (first | with_reducible exact hat.out.bel | (with_reducible refine Below.setCell ?_ (by simp) _))
end Go.Proofs.Ytnfaalknhcenpaa
