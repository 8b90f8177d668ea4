
/-
  What Find answers, case by case; the states of a law.
-/
import Derived.Test.YtnillifinnmigaaRgL
namespace Go.Proofs.Ytnillifinnmigaa
open Go Go.RowKit
set_option linter.unusedVariables false
set_option linter.unusedSimpArgs false

theorem find_case (rb rt n : BitVec 64) (v : Value) (L : List Rg) (hI : Inv rb rt L) (hbig : L.length ≤ 1099511627776) :
    (∃ e : Int, e ≠ 0 ∧ ∀ (W : World) (B : Nat), SlR W B v L → Calls Try.prog 7 #[.agg #[.int .u64 (U rb), .int .u64 (U rt), v], .int .u64 (U n)] W fun r w' => r = .returned (.tuple #[.agg #[.int .u64 0, .int .u64 0], .int .i64 e]) ∧ Below W.heap.size W w') ∨
    (∃ b, Found rb rt n b L ∧ ∀ (W : World) (B : Nat), SlR W B v L → Calls Try.prog 7 #[.agg #[.int .u64 (U rb), .int .u64 (U rt), v], .int .u64 (U n)] W fun r w' => r = .returned (.tuple #[.agg #[.int .u64 (U b), .int .u64 (U (b + askN n))], .int .i64 0]) ∧ Below W.heap.size W w') := by
  by_cases ha : n = 0#64 ∨ 274877906944 < U n
  · exact .inl ⟨2, by decide, fun W B hs => find_arg rb rt n v W ha⟩
  · have h0 : n ≠ 0#64 := fun e => ha (.inl e)
    have h1 : U n ≤ 274877906944 := Int.not_lt.1 fun e => ha (.inr e)
    have h1' : n.toNat ≤ 274877906944 := by unfold U at h1; omega
    by_cases hF : ∃ b, FR rb rt (askN n) (askX n) L (upF rb (askX n)) (some b)
    · obtain ⟨b, hb⟩ := hF
      refine .inr ⟨b, found_of h0 h1' hI.room.1 (fun j r hj => hI.top j r hj) hb, fun W B hs => ?_⟩
      refine (find_any B rb rt n v L W hs hbig h0 h1 (fun j r base top hj hm => hI.up h1' j r base top hj hm)).mono fun e w' hx => ?_
      obtain ⟨res, hr, he, hbl⟩ := hx
      have := hb.one hr
      subst this
      exact ⟨he, hbl⟩
    · refine .inl ⟨15, by decide, fun W B hs => ?_⟩
      refine (find_any B rb rt n v L W hs hbig h0 h1 (fun j r base top hj hm => hI.up h1' j r base top hj hm)).mono fun e w' hx => ?_
      obtain ⟨res, hr, he, hbl⟩ := hx
      cases res with
      | none => exact ⟨he, hbl⟩
      | some b => exact absurd ⟨b, hr⟩ hF
theorem cell_after {W w2 : World} {A C : Value} {T : TypeId} (hb : Below (W.alloc (.cells #[A, C] T)).drew.heap.size (W.alloc (.cells #[A, C] T)).drew w2) : (w2.cell? ⟨W.heap.size, 0, none⟩ = some A ∧ w2.cell? ⟨W.heap.size, 1, none⟩ = some C) ∧ (w2.frozen? ⟨W.heap.size, 0, none⟩ = false ∧ w2.frozen? ⟨W.heap.size, 1, none⟩ = false) ∧ W.heap.size < w2.heap.size := by
  have hlt : W.heap.size < (W.alloc (.cells #[A, C] T)).drew.heap.size := by simp
  have h := heap_alloc_new W (.cells #[A, C] T)
  have h2 : w2.heap[W.heap.size]? = some (.cells #[A, C] T (0, 0)) := (hb.block _ hlt).trans h
  refine ⟨⟨?_, ?_⟩, ⟨frozen_of_row _ _ _ _ _ h2, frozen_of_row _ _ _ _ _ h2⟩, Nat.lt_of_lt_of_le hlt hb.size⟩
  · rw [cell_of_row _ _ _ _ _ _ h2]; rfl
  · rw [cell_of_row _ _ _ _ _ _ h2]; rfl
def MapAt (W : World) (q : Nat) (rb rt : BitVec 64) (v : Value) : Prop := q < W.heap.size ∧ (W.cell? ⟨q, 0, none⟩ = some (.int .u64 (U rb)) ∧ W.cell? ⟨q, 1, none⟩ = some (.int .u64 (U rt)) ∧ W.cell? ⟨q, 2, none⟩ = some v) ∧ (W.frozen? ⟨q, 0, none⟩ = false ∧ W.frozen? ⟨q, 1, none⟩ = false ∧ W.frozen? ⟨q, 2, none⟩ = false)
theorem MapAt.below {W W' : World} {q D : Nat} {rb rt : BitVec 64} {v : Value} (h : MapAt W q rb rt v) (hb : Below D W W') (hD : q < D) : MapAt W' q rb rt v := by
  obtain ⟨h0, ⟨c0, c1, c2⟩, f0, f1, f2⟩ := h
  exact ⟨Nat.lt_of_lt_of_le h0 hb.size, ⟨(hb.cell (p := ⟨q, _, none⟩) hD).trans c0, (hb.cell (p := ⟨q, _, none⟩) hD).trans c1, (hb.cell (p := ⟨q, _, none⟩) hD).trans c2⟩, (hb.frozen (p := ⟨q, _, none⟩) hD).trans f0, (hb.frozen (p := ⟨q, _, none⟩) hD).trans f1, (hb.frozen (p := ⟨q, _, none⟩) hD).trans f2⟩
def SpAt (W : World) (p : Nat) (b t : BitVec 64) : Prop := p < W.heap.size ∧ W.cell? ⟨p, 0, none⟩ = some (.int .u64 (U b)) ∧ W.cell? ⟨p, 1, none⟩ = some (.int .u64 (U t))
theorem SpAt.below {W W' : World} {p D : Nat} {b t : BitVec 64} (h : SpAt W p b t) (hb : Below D W W') (hD : p < D) : SpAt W' p b t :=
  ⟨Nat.lt_of_lt_of_le h.1 hb.size, (hb.cell (p := ⟨p, _, none⟩) hD).trans h.2.1, (hb.cell (p := ⟨p, _, none⟩) hD).trans h.2.2⟩
end Go.Proofs.Ytnillifinnmigaa
