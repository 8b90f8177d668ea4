
/-
  Spans and reservations: small functions, the predicates.
-/
import Derived.Test.YtnillifinnmigaaSlRI
import Derived.Test.YtnillifinnmigaaBoundsW
import Derived.Test.YtnillifinnmigaaBoundsL
import Derived.Test.YtnillifinnmigaaRet
namespace Go.Proofs.Ytnillifinnmigaa
open Go Go.RowKit
set_option linter.unusedVariables false
set_option linter.unusedSimpArgs false

/-- A reservation: its span, its kind. -/
structure Rg where
  b : BitVec 64
  t : BitVec 64
  kd : Int
instance : Inhabited Rg := ⟨⟨0#64, 0#64, 0⟩⟩
def encR (r : Rg) : List Value := [.int .u64 (U r.b), .int .u64 (U r.t), .int .i64 r.kd]
def cellsR (L : List Rg) : List Value := L.flatMap encR
theorem cellsR_len : ∀ L : List Rg, (cellsR L).length = L.length * 3
  | [] => rfl
  | r :: L => by
    show (encR r ++ cellsR L).length = _
    rw [List.length_append, cellsR_len L, List.length_cons]
    show 3 + _ = _
    omega
theorem cellsR_one : ∀ (L : List Rg), ∀ u ∈ cellsR L, u.oneCell' = true := fun L u hu => by
  obtain ⟨r, _, h⟩ := List.mem_flatMap.1 hu
  simp [encR] at h
  rcases h with rfl | rfl | rfl <;> rfl
theorem cellsR_at : ∀ (L : List Rg) (j : Nat) (r : Rg), L[j]? = some r → (cellsR L)[j * 3]? = some (.int .u64 (U r.b)) ∧ (cellsR L)[j * 3 + 1]? = some (.int .u64 (U r.t)) ∧ (cellsR L)[j * 3 + 2]? = some (.int .i64 r.kd)
  | [], _, _, h => by simp at h
  | x :: L, 0, r, h => by
    obtain rfl : x = r := by simpa using h
    exact ⟨rfl, rfl, rfl⟩
  | x :: L, j + 1, r, h => by
    have e : cellsR (x :: L) = encR x ++ cellsR L := rfl
    have hl : (encR x).length = 3 := rfl
    obtain ⟨h1, h2, h3⟩ := cellsR_at L j r (by simpa using h)
    refine ⟨?_, ?_, ?_⟩
    · rw [e, List.getElem?_append_right (by omega), hl, show (j + 1) * 3 - 3 = j * 3 by omega]; exact h1
    · rw [e, List.getElem?_append_right (by omega), hl, show (j + 1) * 3 + 1 - 3 = j * 3 + 1 by omega]; exact h2
    · rw [e, List.getElem?_append_right (by omega), hl, show (j + 1) * 3 + 2 - 3 = j * 3 + 2 by omega]; exact h3
theorem cellsR_take (L : List Rg) (i : Nat) : (cellsR L).take (i * 3) = cellsR (L.take i) := by
  induction L generalizing i with
  | nil => simp [cellsR]
  | cons x L ih =>
    cases i with
    | zero => simp [cellsR]
    | succ i =>
      have e : cellsR (x :: L) = encR x ++ cellsR L := rfl
      rw [e, List.take_append, show (i + 1) * 3 - (encR x).length = i * 3 by show (i + 1) * 3 - 3 = _; omega, ih, List.take_of_length_le (by show 3 ≤ _; omega)]
      rfl
theorem cellsR_drop (L : List Rg) (i : Nat) : (cellsR L).drop (i * 3) = cellsR (L.drop i) := by
  induction L generalizing i with
  | nil => simp [cellsR]
  | cons x L ih =>
    cases i with
    | zero => simp [cellsR]
    | succ i =>
      have e : cellsR (x :: L) = encR x ++ cellsR L := rfl
      rw [e, List.drop_append, show (i + 1) * 3 - (encR x).length = i * 3 by show (i + 1) * 3 - 3 = _; omega, ih, List.drop_of_length_le (by show 3 ≤ _; omega)]
      rfl
theorem cellsR_app (A B : List Rg) : cellsR (A ++ B) = cellsR A ++ cellsR B := List.flatMap_append
/-- A slice holds a list of reservations. -/
def SlR (w : World) (B : Nat) (v : Value) (L : List Rg) : Prop := w.ownsRow B 41 3 v L.length (cellsR L)
theorem SlR.keep {w w' : World} {B C : Nat} {v : Value} {L : List Rg} (h : SlR w B v L) (hb : Below C w w') (hC : ∀ g, v.ownBlock = some g → g < C) : SlR w' B v L := own_keep h hb hC
theorem SlR.lt {w : World} {B : Nat} {v : Value} {L : List Rg} (h : SlR w B v L) : ∀ g, v.ownBlock = some g → g < w.heap.size := fun g hg => (World.ownsRow.lt h g hg).2
theorem SlR.below {w w' : World} {B : Nat} {v : Value} {L : List Rg} (h : SlR w B v L) (hb : Below w.heap.size w w') : SlR w' B v L := h.keep hb h.lt
theorem SlR.mono {w : World} {B C : Nat} {v : Value} {L : List Rg} (h : SlR w B v L) (hC : C ≤ B) : SlR w C v L := by
  refine ⟨h.1, ?_⟩
  rcases h.2 with hn | ⟨g, cap, cur, hv, hb, rest⟩
  · exact .inl hn
  · exact .inr ⟨g, cap, cur, hv, Nat.le_trans hC hb, rest⟩
theorem SlR.nil (w : World) (B : Nat) : SlR w B (.slice none 0 0) [] := World.ownsRow_nil w B _ _
/-- What is read of it. -/
theorem SlR.form {w : World} {B : Nat} {v : Value} {L : List Rg} (h : SlR w B v L) : ∃ a cap, v = .slice a L.length cap ∧ L.length ≤ cap ∧ cap ≤ 9223372036854775807 ∧ (∀ g, v.ownBlock = some g → g < w.heap.size) ∧ (L = [] ∨ ∃ g, a = some ⟨g, 0, none⟩ ∧ B ≤ g ∧ g < w.heap.size ∧ ∀ j r, L[j]? = some r → w.cell? ⟨g, j * 3, none⟩ = some (.int .u64 (U r.b)) ∧ w.cell? ⟨g, j * 3 + 1, none⟩ = some (.int .u64 (U r.t)) ∧ w.cell? ⟨g, j * 3 + 2, none⟩ = some (.int .i64 r.kd)) := by
  have hlt := h.lt
  rcases h.2 with ⟨rfl, h0⟩ | ⟨g, cap, cur, rfl, hb, hg, h1, h2, h3, h4⟩
  · obtain rfl : L = [] := List.eq_nil_of_length_eq_zero h0
    exact ⟨none, 0, rfl, Nat.le_refl _, by omega, hlt, .inl rfl⟩
  · refine ⟨_, cap, rfl, h1, by simpa [maxLen] using h2, hlt, .inr ⟨g, rfl, hb, hlt g rfl, fun j r hj => ?_⟩⟩
    obtain ⟨c1, c2, c3⟩ := cellsR_at L j r hj
    have hc : ∀ q u, (cellsR L)[q]? = some u → w.cell? ⟨g, q, none⟩ = some u := fun q u hq => by
      have := World.ownsRow.cells h (g := g) rfl q u hq
      rwa [Addr.add_lit, Nat.zero_add] at this
    exact ⟨hc _ _ c1, hc _ _ c2, hc _ _ c3⟩
def meetF (b t b' t' : BitVec 64) : Bool := decide (U b < U t') && decide (U b' < U t)
def inRF (b t b' t' : BitVec 64) : Bool := decide (U b' ≤ U b) && decide (U t ≤ U t')
set_option maxHeartbeats 4000000 in
set_option maxRecDepth 100000 in
theorem meet_any (b t b' t' : BitVec 64) (w : World) : Calls Try.prog 19 #[.agg #[.int .u64 (U b), .int .u64 (U t)], .agg #[.int .u64 (U b'), .int .u64 (U t')]] w fun e w' => e = .returned (.bool (meetF b t b' t')) ∧ Below w.heap.size w w' := by
  go_enter Try.func19, Try.ntmps19
  unfold meetF
  cases h1 : decide (U b < U t') <;> cases h2 : decide (U b' < U t)
  all_goals
    go_wp2_with fail
    go_ret
    exact ⟨rfl, by (repeat (first | with_reducible exact Below.refl _ _ | with_reducible assumption | with_reducible refine below_drewN ?_ _ | with_reducible refine Below.drew ?_ | with_reducible refine below_alloc ?_ _ | (with_reducible refine Below.setCell ?_ (by first | (simp; done) | omega | (simp; omega)) _) | with_reducible refine belows ?_ (by assumption)))⟩
set_option maxHeartbeats 4000000 in
set_option maxRecDepth 100000 in
theorem inr_any (b t b' t' : BitVec 64) (w : World) : Calls Try.prog 18 #[.agg #[.int .u64 (U b), .int .u64 (U t)], .agg #[.int .u64 (U b'), .int .u64 (U t')]] w fun e w' => e = .returned (.bool (inRF b t b' t')) ∧ Below w.heap.size w w' := by
  go_enter Try.func18, Try.ntmps18
  unfold inRF
  cases h1 : decide (U b' ≤ U b) <;> cases h2 : decide (U t ≤ U t')
  all_goals
    go_wp2_with fail
    go_ret
    exact ⟨rfl, by (repeat (first | with_reducible exact Below.refl _ _ | with_reducible assumption | with_reducible refine below_drewN ?_ _ | with_reducible refine Below.drew ?_ | with_reducible refine below_alloc ?_ _ | (with_reducible refine Below.setCell ?_ (by first | (simp; done) | omega | (simp; omega)) _) | with_reducible refine belows ?_ (by assumption)))⟩
def pagesF (b t : BitVec 64) : Bool := decide (U b < U t) && (decide (12 ≤ zerosF b) && decide (12 ≤ zerosF t))
set_option maxHeartbeats 4000000 in
set_option maxRecDepth 100000 in
theorem pages_any (b t : BitVec 64) (w : World) : Calls Try.prog 15 #[.agg #[.int .u64 (U b), .int .u64 (U t)]] w fun e w' => e = .returned (.bool (pagesF b t)) ∧ Below w.heap.size w w' := by
  have e1 : ∀ x, decide (12 ≤ zerosF x) = decide ((12 : Int) ≤ (zerosF x : Int)) := fun x => by rw [decide_eq_decide]; omega
  unfold pagesF
  rw [e1, e1]
  go_enter Try.func15, Try.ntmps15
  cases h1 : decide (U b < U t) <;> cases h2 : decide ((12 : Int) ≤ (zerosF b : Int)) <;> cases h3 : decide ((12 : Int) ≤ (zerosF t : Int))
  all_goals
    go_wp2_with (first | (go_at_call 33; (with_reducible refine (zeros_any _ _).mono ?_); rintro e w' ⟨rfl, hbl⟩; obtain ⟨hcw, hfw, hsw⟩ := below_ifs hbl; (try simp only [World.size_alloc, World.size_setCell, World.size_drew, size_drewN_] at hcw hfw hsw)))
    go_ret
    exact ⟨rfl, by (repeat (first | with_reducible exact Below.refl _ _ | with_reducible assumption | with_reducible refine below_drewN ?_ _ | with_reducible refine Below.drew ?_ | with_reducible refine below_alloc ?_ _ | (with_reducible refine Below.setCell ?_ (by first | (simp; done) | omega | (simp; omega)) _) | with_reducible refine belows ?_ (by assumption)))⟩
end Go.Proofs.Ytnillifinnmigaa
