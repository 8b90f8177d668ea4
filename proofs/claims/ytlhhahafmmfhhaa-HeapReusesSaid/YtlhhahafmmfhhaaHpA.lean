
/-
  Blocks as a list.
-/
import Derived.Test.YtlhhahafmmfhhaaSlBI
import Derived.Test.YtlhhahafmmfhhaaBoundsW
import Derived.Test.YtlhhahafmmfhhaaBoundsL
import Derived.Test.YtlhhahafmmfhhaaRet
namespace Go.Proofs.Ytlhhahafmmfhhaa
open Go Go.RowKit
set_option linter.unusedVariables false
set_option linter.unusedSimpArgs false

/-- A block: its span, whether it was given back, and when. -/
structure Hb where
  b : BitVec 64
  t : BitVec 64
  fr : Bool
  tm : Int
instance : Inhabited Hb := ⟨⟨0#64, 0#64, false, 0⟩⟩
def encH (r : Hb) : List Value := [.int .u64 (U r.b), .int .u64 (U r.t), .bool r.fr, .int .i64 r.tm]
def cellsH (L : List Hb) : List Value := L.flatMap encH
theorem cellsH_len : ∀ L : List Hb, (cellsH L).length = L.length * 4
  | [] => rfl
  | r :: L => by
    show (encH r ++ cellsH L).length = _
    rw [List.length_append, cellsH_len L, List.length_cons]
    show 4 + _ = _
    omega
theorem encH_one (r : Hb) : ∀ u ∈ encH r, u.oneCell' = true := fun u hu => by
  simp [encH] at hu
  rcases hu with rfl | rfl | rfl | rfl <;> rfl
theorem cellsH_one : ∀ (L : List Hb), ∀ u ∈ cellsH L, u.oneCell' = true := fun L u hu => by
  obtain ⟨r, _, h⟩ := List.mem_flatMap.1 hu
  exact encH_one r u h
theorem cellsH_at : ∀ (L : List Hb) (j : Nat) (r : Hb), L[j]? = some r → (cellsH L)[j * 4]? = some (.int .u64 (U r.b)) ∧ (cellsH L)[j * 4 + 1]? = some (.int .u64 (U r.t)) ∧ (cellsH L)[j * 4 + 2]? = some (.bool r.fr) ∧ (cellsH L)[j * 4 + 3]? = some (.int .i64 r.tm)
  | [], _, _, h => by simp at h
  | x :: L, 0, r, h => by
    obtain rfl : x = r := by simpa using h
    exact ⟨rfl, rfl, rfl, rfl⟩
  | x :: L, j + 1, r, h => by
    have e : cellsH (x :: L) = encH x ++ cellsH L := rfl
    have hl : (encH x).length = 4 := rfl
    obtain ⟨h1, h2, h3, h4⟩ := cellsH_at L j r (by simpa using h)
    refine ⟨?_, ?_, ?_, ?_⟩
    · rw [e, List.getElem?_append_right (by omega), hl, show (j + 1) * 4 - 4 = j * 4 by omega]; exact h1
    · rw [e, List.getElem?_append_right (by omega), hl, show (j + 1) * 4 + 1 - 4 = j * 4 + 1 by omega]; exact h2
    · rw [e, List.getElem?_append_right (by omega), hl, show (j + 1) * 4 + 2 - 4 = j * 4 + 2 by omega]; exact h3
    · rw [e, List.getElem?_append_right (by omega), hl, show (j + 1) * 4 + 3 - 4 = j * 4 + 3 by omega]; exact h4
theorem cellsH_take (L : List Hb) (i : Nat) : (cellsH L).take (i * 4) = cellsH (L.take i) := by
  induction L generalizing i with
  | nil => simp [cellsH]
  | cons x L ih =>
    cases i with
    | zero => simp [cellsH]
    | succ i =>
      have e : cellsH (x :: L) = encH x ++ cellsH L := rfl
      rw [e, List.take_append, show (i + 1) * 4 - (encH x).length = i * 4 by show (i + 1) * 4 - 4 = _; omega, ih, List.take_of_length_le (by show 4 ≤ _; omega)]
      rfl
theorem cellsH_drop (L : List Hb) (i : Nat) : (cellsH L).drop (i * 4) = cellsH (L.drop i) := by
  induction L generalizing i with
  | nil => simp [cellsH]
  | cons x L ih =>
    cases i with
    | zero => simp [cellsH]
    | succ i =>
      have e : cellsH (x :: L) = encH x ++ cellsH L := rfl
      rw [e, List.drop_append, show (i + 1) * 4 - (encH x).length = i * 4 by show (i + 1) * 4 - 4 = _; omega, ih, List.drop_of_length_le (by show 4 ≤ _; omega)]
      rfl
theorem cellsH_app (A B : List Hb) : cellsH (A ++ B) = cellsH A ++ cellsH B := List.flatMap_append
/-- A slice holds a list of blocks. -/
def SlH (w : World) (B : Nat) (v : Value) (L : List Hb) : Prop := w.ownsRow B 47 4 v L.length (cellsH L)
theorem SlH.keep {w w' : World} {B C : Nat} {v : Value} {L : List Hb} (h : SlH w B v L) (hb : Below C w w') (hC : ∀ g, v.ownBlock = some g → g < C) : SlH w' B v L := own_keep h hb hC
theorem SlH.lt {w : World} {B : Nat} {v : Value} {L : List Hb} (h : SlH w B v L) : ∀ g, v.ownBlock = some g → g < w.heap.size := fun g hg => (World.ownsRow.lt h g hg).2
theorem SlH.below {w w' : World} {B : Nat} {v : Value} {L : List Hb} (h : SlH w B v L) (hb : Below w.heap.size w w') : SlH w' B v L := h.keep hb h.lt
theorem SlH.mono {w : World} {B C : Nat} {v : Value} {L : List Hb} (h : SlH w B v L) (hC : C ≤ B) : SlH w C v L := by
  refine ⟨h.1, ?_⟩
  rcases h.2 with hn | ⟨g, cap, cur, hv, hb, rest⟩
  · exact .inl hn
  · exact .inr ⟨g, cap, cur, hv, Nat.le_trans hC hb, rest⟩
theorem SlH.nil (w : World) (B : Nat) : SlH w B (.slice none 0 0) [] := World.ownsRow_nil w B _ _
theorem SlH.form {w : World} {B : Nat} {v : Value} {L : List Hb} (h : SlH w B v L) : ∃ a cap, v = .slice a L.length cap ∧ L.length ≤ cap ∧ cap ≤ 9223372036854775807 ∧ (∀ g, v.ownBlock = some g → g < w.heap.size) ∧ (L = [] ∨ ∃ g, a = some ⟨g, 0, none⟩ ∧ B ≤ g ∧ g < w.heap.size ∧ ∀ j r, L[j]? = some r → w.cell? ⟨g, j * 4, none⟩ = some (.int .u64 (U r.b)) ∧ w.cell? ⟨g, j * 4 + 1, none⟩ = some (.int .u64 (U r.t)) ∧ w.cell? ⟨g, j * 4 + 2, none⟩ = some (.bool r.fr) ∧ w.cell? ⟨g, j * 4 + 3, none⟩ = some (.int .i64 r.tm)) := by
  have hlt := h.lt
  rcases h.2 with ⟨rfl, h0⟩ | ⟨g, cap, cur, rfl, hb, hg, h1, h2, h3, h4⟩
  · obtain rfl : L = [] := List.eq_nil_of_length_eq_zero h0
    exact ⟨none, 0, rfl, Nat.le_refl _, by omega, hlt, .inl rfl⟩
  · refine ⟨_, cap, rfl, h1, by simpa [maxLen] using h2, hlt, .inr ⟨g, rfl, hb, hlt g rfl, fun j r hj => ?_⟩⟩
    obtain ⟨c1, c2, c3, c4⟩ := cellsH_at L j r hj
    have hc : ∀ q u, (cellsH L)[q]? = some u → w.cell? ⟨g, q, none⟩ = some u := fun q u hq => by
      have := World.ownsRow.cells h (g := g) rfl q u hq
      rwa [Addr.add_lit, Nat.zero_add] at this
    exact ⟨hc _ _ c1, hc _ _ c2, hc _ _ c3, hc _ _ c4⟩
theorem SlH.form0 {w : World} {B : Nat} {v : Value} {L : List Hb} (h : SlH w B v L) : ∃ a n c, v = .slice a n c := by
  obtain ⟨a, c, e, -⟩ := h.form
  exact ⟨a, _, c, e⟩
theorem heap_setCell_ne (w : World) (a : Addr) (u : Value) (g : Nat) (h : g ≠ a.block) : (w.setCell a u).heap[g]? = w.heap[g]? := by
  unfold World.setCell
  simp only [Array.getElem?_modify]
  rw [if_neg (fun e => h e.symm)]
theorem SlH.other {w : World} {B : Nat} {v : Value} {L : List Hb} (h : SlH w B v L) (a : Addr) (u : Value) (ha : ∀ g, v.ownBlock = some g → g ≠ a.block) : SlH (w.setCell a u) B v L := by
  refine ⟨h.1, ?_⟩
  rcases h.2 with hn | ⟨g, cap, cur, rfl, hb, hg, rest⟩
  · exact .inl hn
  · exact .inr ⟨g, cap, cur, rfl, hb, (heap_setCell_ne w a u g (ha g rfl)).trans hg, rest⟩
theorem SlH.drew {w : World} {B : Nat} {v : Value} {L : List Hb} (h : SlH w B v L) : SlH w.drew B v L := h
theorem SlH.alloc {w : World} {B : Nat} {v : Value} {L : List Hb} (h : SlH w B v L) (o : Obj) : SlH (w.alloc o) B v L := h.below ((Below.refl _ w).alloc (Nat.le_refl _) o)
theorem SlH.put {w : World} {B : Nat} {v : Value} {L : List Hb} (h : SlH w B v L) (a : Addr) (u : Value) (ha : a.block < B) : SlH (w.setCell a u) B v L := h.other a u fun g hg e => by have := (World.ownsRow.lt h g hg).1; omega
theorem SlH.ge {w : World} {B : Nat} {v : Value} {L : List Hb} (h : SlH w B v L) : ∀ g, v.ownBlock = some g → B ≤ g := fun g hg => (World.ownsRow.lt h g hg).1
theorem SlH.row {w : World} {B : Nat} {v : Value} {L : List Hb} (h : SlH w B v L) (hn : 0 < L.length) : ∃ g cap, v = .slice (some ⟨g, 0, none⟩) L.length cap ∧ B ≤ g ∧ g < w.heap.size ∧ L.length ≤ cap ∧ cap ≤ 9223372036854775807 ∧ ∀ j r, L[j]? = some r → (w.cell? ⟨g, j * 4, none⟩ = some (.int .u64 (U r.b)) ∧ w.cell? ⟨g, j * 4 + 1, none⟩ = some (.int .u64 (U r.t)) ∧ w.cell? ⟨g, j * 4 + 2, none⟩ = some (.bool r.fr) ∧ w.cell? ⟨g, j * 4 + 3, none⟩ = some (.int .i64 r.tm)) ∧ (∀ q, w.frozen? ⟨g, q, none⟩ = false) := by
  obtain ⟨g, cap, cur, rfl, hb, hl, hg, h1, h2, h3, h4⟩ := own_row h hn
  obtain ⟨a', c', e, _, _, _, hform⟩ := h.form
  rcases hform with rfl | ⟨g', ha, _, _, hx⟩
  · simp at hn
  · simp at e
    obtain ⟨e1, e2⟩ := e
    subst e1
    have hg' : g = g' := by simpa using ha
    subst hg'
    exact ⟨g, cap, rfl, hb, hl, h1, by simpa [maxLen] using h2, fun j r hj => ⟨hx j r hj, fun q => frozen_of_row _ _ _ _ _ hg⟩⟩
theorem cellsH_set2 : ∀ (L : List Hb) (k : Nat) (r : Hb) (x : Bool), L[k]? = some r → (cellsH L).set (k * 4 + 2) (.bool x) = cellsH (L.set k ⟨r.b, r.t, x, r.tm⟩)
  | [], _, _, _, h => by simp at h
  | y :: L, 0, r, x, h => by
    obtain rfl : y = r := by simpa using h
    rfl
  | y :: L, k + 1, r, x, h => by
    have e : cellsH (y :: L) = encH y ++ cellsH L := rfl
    rw [e, List.set_append_right _ _ (by show 4 ≤ _; omega), show (k + 1) * 4 + 2 - (encH y).length = k * 4 + 2 by show (k + 1) * 4 + 2 - 4 = _; omega, cellsH_set2 L k r x (by simpa using h)]
    rfl
theorem cellsH_set3 : ∀ (L : List Hb) (k : Nat) (r : Hb) (x : Int), L[k]? = some r → (cellsH L).set (k * 4 + 3) (.int .i64 x) = cellsH (L.set k ⟨r.b, r.t, r.fr, x⟩)
  | [], _, _, _, h => by simp at h
  | y :: L, 0, r, x, h => by
    obtain rfl : y = r := by simpa using h
    rfl
  | y :: L, k + 1, r, x, h => by
    have e : cellsH (y :: L) = encH y ++ cellsH L := rfl
    rw [e, List.set_append_right _ _ (by show 4 ≤ _; omega), show (k + 1) * 4 + 3 - (encH y).length = k * 4 + 3 by show (k + 1) * 4 + 3 - 4 = _; omega, cellsH_set3 L k r x (by simpa using h)]
    rfl
theorem SlH.upd {w : World} {B g cap o : Nat} {x : Value} {L L' : List Hb} (h : SlH w B (.slice (some ⟨g, 0, none⟩) L.length cap) L) (hn : 0 < L.length) (hl : L'.length = L.length) (he : (cellsH L).set o x = cellsH L') : SlH (w.setCell ⟨g, o, none⟩ x) B (.slice (some ⟨g, 0, none⟩) L.length cap) L' := by
  obtain ⟨g', cap', cur, e, hb, hl', hg, h1, h2, h3, h4⟩ := own_row h hn
  simp at e
  obtain ⟨rfl, rfl⟩ := e
  have e1 := setCell_eq_setRow w g o cur.toArray 47 (0, 0) x hg
  have hg2 : (w.setCell ⟨g, o, none⟩ x).heap[g]? = some (.cells (cur.set o x).toArray 47 (0, 0)) := by
    rw [e1, setRow_heap w g _ _ _ _ hg]
    simp
  unfold SlH
  rw [hl]
  refine own_of hb hg2 h1 h2 (by rw [List.length_set, h3]) ?_
  rw [← he, ← h4, List.take_set]
theorem SlH.give {w : World} {B g cap : Nat} {L : List Hb} (h : SlH w B (.slice (some ⟨g, 0, none⟩) L.length cap) L) (k : Nat) (r : Hb) (x : Int) (hk : L[k]? = some r) : SlH ((w.setCell ⟨g, k * 4 + 2, none⟩ (.bool true)).setCell ⟨g, k * 4 + 3, none⟩ (.int .i64 x)) B (.slice (some ⟨g, 0, none⟩) L.length cap) (L.set k ⟨r.b, r.t, true, x⟩) ∧ SlH ((w.setCell ⟨g, k * 4 + 3, none⟩ (.int .i64 x)).setCell ⟨g, k * 4 + 2, none⟩ (.bool true)) B (.slice (some ⟨g, 0, none⟩) L.length cap) (L.set k ⟨r.b, r.t, true, x⟩) := by
  have hlt : k < L.length := (List.getElem?_eq_some_iff.1 hk).1
  have e2 := h.upd (by omega) (by rw [List.length_set]) (cellsH_set2 L k r true hk)
  have e3 := h.upd (by omega) (by rw [List.length_set]) (cellsH_set3 L k r x hk)
  have i2 : (L.set k ⟨r.b, r.t, true, r.tm⟩)[k]? = some ⟨r.b, r.t, true, r.tm⟩ := by rw [List.getElem?_set_self hlt]
  have i3 : (L.set k ⟨r.b, r.t, r.fr, x⟩)[k]? = some ⟨r.b, r.t, r.fr, x⟩ := by rw [List.getElem?_set_self hlt]
  have hl2 : (L.set k ⟨r.b, r.t, true, r.tm⟩).length = L.length := List.length_set
  have hl3 : (L.set k ⟨r.b, r.t, r.fr, x⟩).length = L.length := List.length_set
  have f2 := cellsH_set3 _ k _ x i2
  have f3 := cellsH_set2 _ k _ true i3
  rw [List.set_set] at f2 f3
  constructor
  · rw [← hl2] at e2 ⊢
    exact e2.upd (by omega) (by rw [List.length_set, hl2]) f2
  · rw [← hl3] at e3 ⊢
    exact e3.upd (by omega) (by rw [List.length_set, hl3]) f3
set_option maxHeartbeats 4000000 in
set_option maxRecDepth 100000 in
theorem clone_H (B : Nat) (v : Value) (L : List Hb) (w : World) (hs : SlH w B v L) (hbig : L.length ≤ 1099511627775) : Calls Try.prog 16 #[v] w fun e w' => ∃ v', e = .returned v' ∧ SlH w' w.heap.size v' L ∧ Below w.heap.size w w' :=
  clone_any B L.length v (cellsH L) w hs (cellsH_one L) (by omega)
theorem ins_H (B i vb : Nat) (v : Value) (L : List Hb) (r : Hb) (w : World) (hs : SlH w B v L) (hB : B ≤ w.heap.size) (hbig : L.length ≤ 1099511627775) (hi : i ≤ L.length) (hvb : w.heap[vb]? = some (.cells (encH r).toArray 47 (0, 0))) (hne : ∀ g, v.ownBlock = some g → vb ≠ g) :
    Calls Try.prog 15 #[v, .int .i64 (i : Int), .slice (some ⟨vb, 0, none⟩) 1 1] w fun e w' => ∃ v', e = .returned v' ∧ SlH w' B v' (L.take i ++ [r] ++ L.drop i) ∧ Below B w w' := by
  have h1n := encH_one r
  have hgoal : ∀ (v' : Value) (w' : World), w'.ownsRow B 47 4 v' (L.length + 1) ((cellsH L).take (i * 4) ++ encH r ++ (cellsH L).drop (i * 4)) → SlH w' B v' (L.take i ++ [r] ++ L.drop i) := fun v' w' h => by
    unfold SlH
    rw [cellsH_take, cellsH_drop, show encH r = cellsH [r] from (List.append_nil _).symm, ← cellsH_app, ← cellsH_app] at h
    rw [show (L.take i ++ [r] ++ L.drop i).length = L.length + 1 by simp; omega]
    exact h
  by_cases hc : i = L.length
  · subst hc
    exact (ins_end B L.length vb v (cellsH L) (encH r) w hs hB (cellsH_one L) h1n (by omega) hvb rfl hne).mono fun e w' h => by
      obtain ⟨v', he, ho, hb⟩ := h
      exact ⟨v', he, hgoal v' w' ho, hb⟩
  · have hpos : 0 < L.length := by omega
    obtain ⟨g, cap, cur, rfl, _, _, _, hnc, _⟩ := own_row hs hpos
    by_cases hr : L.length + 1 ≤ cap
    · exact (ins_room B L.length i vb g cap (cellsH L) (encH r) w (by omega) hr hs (cellsH_one L) h1n (by omega) hvb rfl (hne g rfl)).mono fun e w' h => by
        obtain ⟨v', he, ho, hb⟩ := h
        exact ⟨v', he, hgoal v' w' ho, hb⟩
    · exact (ins_grow B L.length i vb g cap (cellsH L) (encH r) w (by omega) (by omega) hs hB (cellsH_one L) h1n (by omega) hvb rfl).mono fun e w' h => by
        obtain ⟨v', he, ho, hb⟩ := h
        exact ⟨v', he, hgoal v' w' ho, hb⟩
end Go.Proofs.Ytlhhahafmmfhhaa
