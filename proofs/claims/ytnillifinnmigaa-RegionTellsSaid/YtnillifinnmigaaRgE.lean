
/-
  Reservations: the library in their own words; what is asked; a map of none; all.
-/
import Derived.Test.YtnillifinnmigaaRgD
namespace Go.Proofs.Ytnillifinnmigaa
open Go Go.RowKit
set_option linter.unusedVariables false
set_option linter.unusedSimpArgs false

set_option maxHeartbeats 4000000 in
set_option maxRecDepth 100000 in
theorem clone_R (B : Nat) (v : Value) (L : List Rg) (w : World) (hs : SlR w B v L) (hbig : L.length ≤ 1099511627776) : Calls Try.prog 23 #[v] w fun e w' => ∃ v', e = .returned v' ∧ SlR w' w.heap.size v' L ∧ Below w.heap.size w w' :=
  clone_any B L.length v (cellsR L) w hs (cellsR_one L) hbig
theorem ins_R (B i vb : Nat) (v : Value) (L : List Rg) (r : Rg) (w : World) (hs : SlR w B v L) (hB : B ≤ w.heap.size) (hbig : L.length ≤ 1099511627775) (hi : i ≤ L.length) (hvb : w.heap[vb]? = some (.cells (encR r).toArray 41 (0, 0))) (hne : ∀ g, v.ownBlock = some g → vb ≠ g) :
    Calls Try.prog 28 #[v, .int .i64 (i : Int), .slice (some ⟨vb, 0, none⟩) 1 1] w fun e w' => ∃ v', e = .returned v' ∧ SlR w' B v' (L.take i ++ [r] ++ L.drop i) ∧ Below B w w' := by
  have h1n : ∀ u ∈ encR r, u.oneCell' = true := by
    intro u hu
    simp [encR] at hu
    rcases hu with rfl | rfl | rfl <;> rfl
  have hgoal : ∀ (v' : Value) (w' : World), w'.ownsRow B 41 3 v' (L.length + 1) ((cellsR L).take (i * 3) ++ encR r ++ (cellsR L).drop (i * 3)) → SlR w' B v' (L.take i ++ [r] ++ L.drop i) := fun v' w' h => by
    unfold SlR
    rw [cellsR_take, cellsR_drop, show encR r = cellsR [r] from (List.append_nil _).symm, ← cellsR_app, ← cellsR_app] at h
    rw [show (L.take i ++ [r] ++ L.drop i).length = L.length + 1 by simp; omega]
    exact h
  by_cases hc : i = L.length
  · subst hc
    exact (ins_end B L.length vb v (cellsR L) (encR r) w hs hB (cellsR_one L) h1n hbig hvb rfl hne).mono fun e w' h => by
      obtain ⟨v', he, ho, hb⟩ := h
      exact ⟨v', he, hgoal v' w' ho, hb⟩
  · have hpos : 0 < L.length := by omega
    obtain ⟨g, cap, cur, rfl, _, _, _, hnc, _⟩ := own_row hs hpos
    by_cases hr : L.length + 1 ≤ cap
    · exact (ins_room B L.length i vb g cap (cellsR L) (encR r) w (by omega) hr hs (cellsR_one L) h1n (by omega) hvb rfl (hne g rfl)).mono fun e w' h => by
        obtain ⟨v', he, ho, hb⟩ := h
        exact ⟨v', he, hgoal v' w' ho, hb⟩
    · exact (ins_grow B L.length i vb g cap (cellsR L) (encR r) w (by omega) (by omega) hs hB (cellsR_one L) h1n (by omega) hvb rfl).mono fun e w' h => by
        obtain ⟨v', he, ho, hb⟩ := h
        exact ⟨v', he, hgoal v' w' ho, hb⟩
theorem del_R (B k : Nat) (v : Value) (L : List Rg) (w : World) (hs : SlR w B v L) (hk : k < L.length) (hbig : L.length ≤ 1099511627775) :
    Calls Try.prog 30 #[v, .int .i64 (k : Int), .int .i64 ((k : Int) + 1)] w fun e w' => ∃ v', e = .returned v' ∧ SlR w' B v' (L.take k ++ L.drop (k + 1)) ∧ Below B w w' := by
  obtain ⟨q, hq⟩ : ∃ q, L.length = q + 1 := ⟨L.length - 1, by omega⟩
  have hs' : w.ownsRow B 41 3 v (q + 1) (cellsR L) := by rw [← hq]; exact hs
  refine (del_row B q k v (cellsR L) w (by omega) hs' (cellsR_one L) (by omega)).mono fun e w' h => ?_
  obtain ⟨v', he, ho, hb⟩ := h
  refine ⟨v', he, ?_, hb⟩
  unfold SlR
  rw [cellsR_take, cellsR_drop, ← cellsR_app] at ho
  rw [show (L.take k ++ L.drop (k + 1)).length = q by simp; omega]
  exact ho
/-- What is asked: how long, and how many zeros. -/
def askN (n : BitVec 64) : BitVec 64 := upF (rndT 0#64 (upF n 12)) 12
def askX (n : BitVec 64) : Int := max (((encE 0#64 (askN n)).toNat - 1 : Nat) : Int) 12
set_option maxHeartbeats 4000000 in
set_option maxRecDepth 100000 in
theorem asked_any (n : BitVec 64) (w : World) : Calls Try.prog 16 #[.int .u64 (U n)] w fun e w' => e = .returned (.tuple #[.int .u64 (U (askN n)), .int .i64 (askX n)]) ∧ Below w.heap.size w w' := by
  have ha : ∀ w : World, Calls Try.prog 35 #[.int .u64 (U (upF (rndT 0#64 (upF n 12)) 12))] w fun r w' => r = .returned (.tuple #[.int .i64 (((encE 0#64 (askN n)).toNat - 1 : Nat) : Int), .bool (mayS 0#64 (askN n))]) ∧ Below w.heap.size w w' := fun w => align_any _ w
  generalize hq : (((encE 0#64 (askN n)).toNat - 1 : Nat) : Int) = q at ha
  have hx : askX n = max q 12 := by unfold askX; rw [hq]
  rw [hx]
  go_enter Try.func16, Try.ntmps16
  go_wp2_with (first | (go_at_call 17; (with_reducible refine (up_any _ _ _).mono ?_); rintro e w' ⟨rfl, rfl⟩) | (go_at_call 34; (with_reducible refine (length_any _ _).mono ?_); rintro e w' ⟨rfl, hbl⟩; obtain ⟨hcw, hfw, hsw⟩ := below_ifs hbl; (try simp only [World.size_alloc, World.size_setCell, World.size_drew, size_drewN_] at hcw hfw hsw)) | (go_at_call 35; (with_reducible refine (ha _).mono ?_); rintro e w' ⟨rfl, hbl⟩; obtain ⟨hcw, hfw, hsw⟩ := below_ifs hbl; (try simp only [World.size_alloc, World.size_setCell, World.size_drew, size_drewN_] at hcw hfw hsw)))
  all_goals go_returns
  all_goals exact ⟨by first | rfl | (congr; omega) | (simp; omega), by (repeat (first | with_reducible exact Below.refl _ _ | with_reducible assumption | with_reducible refine below_drewN ?_ _ | with_reducible refine Below.drew ?_ | with_reducible refine below_alloc ?_ _ | (with_reducible refine Below.setCell ?_ (by first | (simp; done) | omega | (simp; omega)) _) | with_reducible refine belows ?_ (by assumption)))⟩
end Go.Proofs.Ytnillifinnmigaa
