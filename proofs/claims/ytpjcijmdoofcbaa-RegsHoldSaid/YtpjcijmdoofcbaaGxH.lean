
/-
  RegsSweeps: its closures.
-/
import Derived.Test.YtpjcijmdoofcbaaGxG
namespace Go.Proofs.Ytpjcijmdoofcbaa
open Go Go.RowKit
set_option linter.unusedVariables false
set_option linter.unusedSimpArgs false

/-- Four numbers lie in a block. -/
def FourAt (W : World) (g : Nat) (l0 l1 l2 l3 : BitVec 64) : Prop := W.heap[g]? = some (.cells #[.int .u64 (U l0), .int .u64 (U l1), .int .u64 (U l2), .int .u64 (U l3)] 39 (0, 0))
theorem FourAt.lt {W : World} {g : Nat} {l0 l1 l2 l3 : BitVec 64} (h : FourAt W g l0 l1 l2 l3) : g < W.heap.size := by
  unfold FourAt at h
  exact (Array.getElem?_eq_some_iff.1 h).1
theorem FourAt.below {W W' : World} {g B : Nat} {l0 l1 l2 l3 : BitVec 64} (h : FourAt W g l0 l1 l2 l3) (hb : Below B W W') (hB : g < B) : FourAt W' g l0 l1 l2 l3 := (hb.block _ hB).trans h
theorem FourAt.cells {W : World} {g : Nat} {l0 l1 l2 l3 : BitVec 64} (h : FourAt W g l0 l1 l2 l3) : W.cell? ⟨g, 0, none⟩ = some (.int .u64 (U l0)) ∧ W.cell? ⟨g, 1, none⟩ = some (.int .u64 (U l1)) ∧ W.cell? ⟨g, 2, none⟩ = some (.int .u64 (U l2)) ∧ W.cell? ⟨g, 3, none⟩ = some (.int .u64 (U l3)) :=
  ⟨(cell_of_row W g 0 _ _ _ h).trans rfl, (cell_of_row W g 1 _ _ _ h).trans rfl, (cell_of_row W g 2 _ _ _ h).trans rfl, (cell_of_row W g 3 _ _ _ h).trans rfl⟩
def inB (l0 l1 b : BitVec 64) : Bool := decide (U l0 ≤ U b) && decide (U b < U l1)
set_option maxHeartbeats 4000000 in
set_option maxRecDepth 100000 in
theorem sw1_any (l0 l1 l2 l3 b : BitVec 64) (g : Nat) (w : World) (h : FourAt w g l0 l1 l2 l3) : Calls Try.prog 15 #[.int .u64 (U b), .pointer (some ⟨g, 0, none⟩)] w fun e w' => e = .returned (.bool (inB l0 l1 b)) ∧ Below w.heap.size w w' := by
  obtain ⟨x0, x1, x2, x3⟩ := h.cells
  unfold inB
  go_enter Try.func15, Try.ntmps15
  cases h1 : decide (U l0 ≤ U b) <;> cases h2 : decide (U b < U l1)
  all_goals
    go_wp2_with fail
    go_ret
    exact ⟨rfl, by (repeat (first | with_reducible exact Below.refl _ _ | with_reducible assumption | with_reducible refine below_drewN ?_ _ | with_reducible refine Below.drew ?_ | with_reducible refine below_alloc ?_ _ | (with_reducible refine Below.setCell ?_ (by first | (simp; done) | omega | (simp; omega)) _) | with_reducible refine belows ?_ (by assumption)))⟩
set_option maxHeartbeats 4000000 in
set_option maxRecDepth 100000 in
theorem sw2_any (l0 l1 l2 l3 b : BitVec 64) (g : Nat) (w : World) (h : FourAt w g l0 l1 l2 l3) : Calls Try.prog 16 #[.int .u64 (U b), .pointer (some ⟨g, 0, none⟩)] w fun e w' => e = .returned (.bool (inB l2 l3 b)) ∧ Below w.heap.size w w' := by
  obtain ⟨x0, x1, x2, x3⟩ := h.cells
  unfold inB
  go_enter Try.func16, Try.ntmps16
  cases h1 : decide (U l2 ≤ U b) <;> cases h2 : decide (U b < U l3)
  all_goals
    go_wp2_with fail
    go_ret
    exact ⟨rfl, by (repeat (first | with_reducible exact Below.refl _ _ | with_reducible assumption | with_reducible refine below_drewN ?_ _ | with_reducible refine Below.drew ?_ | with_reducible refine below_alloc ?_ _ | (with_reducible refine Below.setCell ?_ (by first | (simp; done) | omega | (simp; omega)) _) | with_reducible refine belows ?_ (by assumption)))⟩
set_option maxHeartbeats 4000000 in
set_option maxRecDepth 100000 in
theorem sw3_any (l0 l1 l2 l3 b : BitVec 64) (g ga gb : Nat) (w : World) (h : FourAt w g l0 l1 l2 l3) (ha : w.cell? ⟨ga, 0, none⟩ = some (.func (.func 15) #[] #[.pointer (some ⟨g, 0, none⟩)])) (hb : w.cell? ⟨gb, 0, none⟩ = some (.func (.func 16) #[] #[.pointer (some ⟨g, 0, none⟩)])) (hga : ga < w.heap.size) (hgb : gb < w.heap.size) :
    Calls Try.prog 17 #[.int .u64 (U b), .pointer (some ⟨ga, 0, none⟩), .pointer (some ⟨gb, 0, none⟩)] w fun e w' => e = .returned (.bool (inB l0 l1 b || inB l2 l3 b)) ∧ Below w.heap.size w w' := by
  have hlt := h.lt
  have HF := Lib.hid h
  clear h
  go_enter Try.func17, Try.ntmps17
  have c1 : ∀ W : World, Below w.heap.size w W → Calls Try.prog 15 #[.int .u64 (U b), .pointer (some ⟨g, 0, none⟩)] W fun e w' => e = .returned (.bool (inB l0 l1 b)) ∧ Below W.heap.size W w' := fun W hW => sw1_any l0 l1 l2 l3 b g W (HF.out.below hW hlt)
  have c2 : ∀ W : World, Below w.heap.size w W → Calls Try.prog 16 #[.int .u64 (U b), .pointer (some ⟨g, 0, none⟩)] W fun e w' => e = .returned (.bool (inB l2 l3 b)) ∧ Below W.heap.size W w' := fun W hW => sw2_any l0 l1 l2 l3 b g W (HF.out.below hW hlt)
  cases h1 : inB l0 l1 b <;> cases h2 : inB l2 l3 b
  all_goals
    rw [h1] at c1
    rw [h2] at c2
    go_wp2_with (first | (go_at_call 15; (with_reducible refine (c1 _ (by (repeat (first | with_reducible exact Below.refl _ _ | with_reducible assumption | with_reducible refine below_drewN ?_ _ | with_reducible refine Below.drew ?_ | with_reducible refine below_alloc ?_ _ | (with_reducible refine Below.setCell ?_ (by first | (simp; done) | omega | (simp; omega)) _) | with_reducible refine belows ?_ (by assumption))))).mono ?_); rintro e w' ⟨rfl, hbl⟩; obtain ⟨hcw, hfw, hsw⟩ := below_ifs hbl; (try simp only [World.size_alloc, World.size_setCell, World.size_drew, size_drewN_] at hcw hfw hsw)) | (go_at_call 16; (with_reducible refine (c2 _ (by (repeat (first | with_reducible exact Below.refl _ _ | with_reducible assumption | with_reducible refine below_drewN ?_ _ | with_reducible refine Below.drew ?_ | with_reducible refine below_alloc ?_ _ | (with_reducible refine Below.setCell ?_ (by first | (simp; done) | omega | (simp; omega)) _) | with_reducible refine belows ?_ (by assumption))))).mono ?_); rintro e w' ⟨rfl, hbl⟩; obtain ⟨hcw, hfw, hsw⟩ := below_ifs hbl; (try simp only [World.size_alloc, World.size_setCell, World.size_drew, size_drewN_] at hcw hfw hsw)))
    go_ret
    exact ⟨rfl, by (repeat (first | with_reducible exact Below.refl _ _ | with_reducible assumption | with_reducible refine below_drewN ?_ _ | with_reducible refine Below.drew ?_ | with_reducible refine below_alloc ?_ _ | (with_reducible refine Below.setCell ?_ (by first | (simp; done) | omega | (simp; omega)) _) | with_reducible refine belows ?_ (by assumption)))⟩
end Go.Proofs.Ytpjcijmdoofcbaa
