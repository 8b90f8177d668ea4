
/-
  Capabilities, contexts as lists of them; algebra.Base, Clear.
-/
import Derived.Test.YtpjcijmdoofcbaaCapab
import Derived.Test.YtpjcijmdoofcbaaRet
import Derived.Laws.StructEq
namespace Go.Proofs.Ytpjcijmdoofcbaa
open Go Go.RowKit
set_option linter.unusedVariables false
set_option linter.unusedSimpArgs false

/-- A capability. -/
structure Cp where
  g : Bool
  m : BitVec 64
  a : BitVec 64
instance : Inhabited Cp := ⟨⟨false, 0#64, 0#64⟩⟩
def encC (c : Cp) : List Value := [.bool c.g, .int .u64 (U c.m), .int .u64 (U c.a)]
def cellsC (L : List Cp) : List Value := L.flatMap encC
theorem encC_one (c : Cp) : ∀ u ∈ encC c, u.oneCell' = true := fun u hu => by
  simp [encC] at hu
  rcases hu with rfl | rfl | rfl <;> rfl
theorem cellsC_one : ∀ (L : List Cp), ∀ u ∈ cellsC L, u.oneCell' = true := fun L u hu => by
  obtain ⟨r, _, h⟩ := List.mem_flatMap.1 hu
  exact encC_one r u h
theorem cellsC_len : ∀ L : List Cp, (cellsC L).length = L.length * 3
  | [] => rfl
  | r :: L => by
    show (encC r ++ cellsC L).length = _
    rw [List.length_append, cellsC_len L, List.length_cons]
    show 3 + _ = _
    omega
theorem cellsC_at : ∀ (L : List Cp) (j : Nat) (r : Cp), L[j]? = some r → (cellsC L)[j * 3]? = some (.bool r.g) ∧ (cellsC L)[j * 3 + 1]? = some (.int .u64 (U r.m)) ∧ (cellsC L)[j * 3 + 2]? = some (.int .u64 (U r.a))
  | [], _, _, h => by simp at h
  | x :: L, 0, r, h => by
    obtain rfl : x = r := by simpa using h
    exact ⟨rfl, rfl, rfl⟩
  | x :: L, j + 1, r, h => by
    have e : cellsC (x :: L) = encC x ++ cellsC L := rfl
    have hl : (encC x).length = 3 := rfl
    obtain ⟨h1, h2, h3⟩ := cellsC_at L j r (by simpa using h)
    refine ⟨?_, ?_, ?_⟩
    · rw [e, List.getElem?_append_right (by omega), hl, show (j + 1) * 3 - 3 = j * 3 by omega]; exact h1
    · rw [e, List.getElem?_append_right (by omega), hl, show (j + 1) * 3 + 1 - 3 = j * 3 + 1 by omega]; exact h2
    · rw [e, List.getElem?_append_right (by omega), hl, show (j + 1) * 3 + 2 - 3 = j * 3 + 2 by omega]; exact h3
theorem cellsC_set : ∀ (L : List Cp) (k : Nat) (c : Cp), k < L.length → (((cellsC L).set (k * 3) (.bool c.g)).set (k * 3 + 1) (.int .u64 (U c.m))).set (k * 3 + 2) (.int .u64 (U c.a)) = cellsC (L.set k c)
  | [], _, _, h => absurd h (Nat.not_lt_zero _)
  | y :: L, 0, c, h => rfl
  | y :: L, k + 1, c, h => by
    have e : cellsC (y :: L) = encC y ++ cellsC L := rfl
    have hl : (encC y).length = 3 := rfl
    rw [e, List.set_append_right _ _ (by omega), List.set_append_right _ _ (by omega), List.set_append_right _ _ (by omega), hl, show (k + 1) * 3 - 3 = k * 3 by omega, show (k + 1) * 3 + 1 - 3 = k * 3 + 1 by omega, show (k + 1) * 3 + 2 - 3 = k * 3 + 2 by omega, cellsC_set L k c (by simpa using h)]
    rfl
def capV (c : Cp) : Value := .agg #[.bool c.g, .int .u64 (U c.m), .int .u64 (U c.a)]
def ctxV (L : List Cp) : Value := .agg (cellsC L).toArray
/-- A context lies in a block. -/
def CtxAt (W : World) (g : Nat) (L : List Cp) : Prop := W.heap[g]? = some (.cells (cellsC L).toArray 27 (0, 0))
theorem CtxAt.lt {W : World} {g : Nat} {L : List Cp} (h : CtxAt W g L) : g < W.heap.size := by
  unfold CtxAt at h
  exact (Array.getElem?_eq_some_iff.1 h).1
theorem CtxAt.below {W W' : World} {g B : Nat} {L : List Cp} (h : CtxAt W g L) (hb : Below B W W') (hB : g < B) : CtxAt W' g L := (hb.block _ hB).trans h
theorem CtxAt.cells {W : World} {g : Nat} {L : List Cp} (h : CtxAt W g L) (k : Nat) (c : Cp) (hk : L[k]? = some c) : W.cell? ⟨g, k * 3, none⟩ = some (.bool c.g) ∧ W.cell? ⟨g, k * 3 + 1, none⟩ = some (.int .u64 (U c.m)) ∧ W.cell? ⟨g, k * 3 + 2, none⟩ = some (.int .u64 (U c.a)) := by
  obtain ⟨h1, h2, h3⟩ := cellsC_at L k c hk
  refine ⟨?_, ?_, ?_⟩ <;> rw [cell_of_row _ _ _ _ _ _ h] <;> simpa using by assumption
theorem CtxAt.frozen {W : World} {g : Nat} {L : List Cp} (h : CtxAt W g L) (q : Nat) : W.frozen? ⟨g, q, none⟩ = false := frozen_of_row _ _ _ _ _ h
theorem CtxAt.set {W : World} {g : Nat} {L : List Cp} (h : CtxAt W g L) (k : Nat) (c : Cp) (hk : k < L.length) : CtxAt (((W.setCell ⟨g, k * 3, none⟩ (.bool c.g)).setCell ⟨g, k * 3 + 1, none⟩ (.int .u64 (U c.m))).setCell ⟨g, k * 3 + 2, none⟩ (.int .u64 (U c.a))) g (L.set k c) := by
  have one : ∀ (W : World) (l : List Value) (o : Nat) (x : Value), W.heap[g]? = some (.cells l.toArray 27 (0, 0)) → (W.setCell ⟨g, o, none⟩ x).heap[g]? = some (.cells (l.set o x).toArray 27 (0, 0)) := fun W l o x hg => by
    rw [setCell_eq_setRow W g o l.toArray 27 (0, 0) x hg, setRow_heap W g _ _ _ _ hg]
    simp
  have h3 := one _ _ (k * 3 + 2) (.int .u64 (U c.a)) (one _ _ (k * 3 + 1) (.int .u64 (U c.m)) (one _ _ (k * 3) (.bool c.g) h))
  rw [cellsC_set L k c hk] at h3
  exact h3
theorem CtxAt.other {W : World} {g : Nat} {L : List Cp} (h : CtxAt W g L) (a : Addr) (u : Value) (ha : g ≠ a.block) : CtxAt (W.setCell a u) g L := by
  unfold CtxAt
  unfold World.setCell
  simp only [Array.getElem?_modify]
  rw [if_neg (fun e => ha e.symm)]
  exact h
theorem CtxAt.alloc {W : World} {g : Nat} {L : List Cp} (h : CtxAt W g L) (o : Obj) : CtxAt (W.alloc o) g L := (heap_alloc_old W o h.lt).trans h
def baseF (c : Cp) : BitVec 64 := lkB c.m c.a
set_option maxHeartbeats 4000000 in
set_option maxRecDepth 100000 in
theorem ends_any (b t : BitVec 64) (w : World) : Calls Try.prog 32 #[.agg #[.int .u64 (U b), .int .u64 (U t)]] w fun e w' => e = .returned (.int .u64 (U b)) ∧ Below w.heap.size w w' := by
  go_enter Try.func32, Try.ntmps32
  go_wp2_with fail
  go_ret
  exact ⟨rfl, by (repeat (first | with_reducible exact Below.refl _ _ | with_reducible assumption | with_reducible refine below_drewN ?_ _ | with_reducible refine Below.drew ?_ | with_reducible refine below_alloc ?_ _ | (with_reducible refine Below.setCell ?_ (by first | (simp; done) | omega | (simp; omega)) _) | with_reducible refine belows ?_ (by assumption)))⟩
theorem told1_any (b t : BitVec 64) (ca : Nat) (w : World) (hc : w.cell? ⟨ca, 0, none⟩ = some (.func (.func 32) #[] #[])) (hlt : ca < w.heap.size) : Calls Try.prog 35 #[.agg #[.int .u64 (U b), .int .u64 (U t)], .pointer (some ⟨ca, 0, none⟩)] w fun e w' => e = .returned (.int .u64 (U b)) ∧ Below w.heap.size w w' := by
  go_enter Try.func35, Try.ntmps35
  go_wp2_with (first | (go_at_call 32; (with_reducible refine (ends_any _ _ _).mono ?_); rintro e w' ⟨rfl, hbl⟩; obtain ⟨hcw, hfw, hsw⟩ := below_ifs hbl; (try simp only [World.size_alloc, World.size_setCell, World.size_drew, size_drewN_] at hcw hfw hsw)))
  go_ret
  exact ⟨rfl, by (repeat (first | with_reducible exact Below.refl _ _ | with_reducible assumption | with_reducible refine below_drewN ?_ _ | with_reducible refine Below.drew ?_ | with_reducible refine below_alloc ?_ _ | (with_reducible refine Below.setCell ?_ (by first | (simp; done) | omega | (simp; omega)) _) | with_reducible refine belows ?_ (by assumption)))⟩
theorem seen_any (c : Cp) (ca : Nat) (w : World) (hc : w.cell? ⟨ca, 0, none⟩ = some (.func (.func 32) #[] #[])) (hlt : ca < w.heap.size) : Calls Try.prog 34 #[.agg #[.bool c.g, .int .u64 (U c.m), .int .u64 (U c.a)], .func (.func 35) #[] #[.pointer (some ⟨ca, 0, none⟩)]] w fun e w' => e = .returned (.int .u64 (U (baseF c))) ∧ Below w.heap.size w w' := by
  obtain ⟨g, m, a⟩ := c
  unfold baseF
  dsimp only
  go_enter Try.func34, Try.ntmps34
  go_wp2_with (first | (go_at_call 38; (with_reducible refine (look_any _ _ _ _).mono ?_); rintro e w' ⟨rfl, hbl⟩; obtain ⟨hcw, hfw, hsw⟩ := below_ifs hbl; (try simp only [World.size_alloc, World.size_setCell, World.size_drew, size_drewN_] at hcw hfw hsw)) | (go_at_call 35; refine (told1_any _ _ ca _ (by (first | (go_simp; done) | (go_simp; (simp [↓IntWalk.iteOmega]; done)) | (go_simp; intros; omega) | (go_simp; simp [↓IntWalk.iteOmega]; intros; omega))) (by first | omega | (simp; omega))).mono ?_; rintro e w' ⟨rfl, hbl⟩))
  go_ret
  exact ⟨rfl, by (repeat (first | with_reducible exact Below.refl _ _ | with_reducible assumption | with_reducible refine below_drewN ?_ _ | with_reducible refine Below.drew ?_ | with_reducible refine below_alloc ?_ _ | (with_reducible refine Below.setCell ?_ (by first | (simp; done) | omega | (simp; omega)) _) | with_reducible refine belows ?_ (by assumption)))⟩
theorem base_any (c : Cp) (w : World) : Calls Try.prog 28 #[.agg #[.bool c.g, .int .u64 (U c.m), .int .u64 (U c.a)]] w fun e w' => e = .returned (.int .u64 (U (baseF c))) ∧ Below w.heap.size w w' := by
  have ct : ∀ w : World, Calls Try.prog 31 #[.agg #[.bool c.g, .int .u64 (U c.m), .int .u64 (U c.a)], .func (.func 32) #[] #[]] w fun e w' => e = .returned (.int .u64 (U (baseF c))) ∧ Below w.heap.size w w' := fun w => by
    go_enter Try.func31, Try.ntmps31
    go_wp2_with (first | (go_at_call 34; refine (seen_any c (w.heap.size + 1) _ (by (first | (go_simp; done) | (go_simp; (simp [↓IntWalk.iteOmega]; done)) | (go_simp; intros; omega) | (go_simp; simp [↓IntWalk.iteOmega]; intros; omega))) (by first | omega | (simp; done) | (simp; omega))).mono ?_; rintro e w' ⟨rfl, hbl⟩))
    go_ret
    exact ⟨rfl, by (repeat (first | with_reducible exact Below.refl _ _ | with_reducible assumption | with_reducible refine below_drewN ?_ _ | with_reducible refine Below.drew ?_ | with_reducible refine below_alloc ?_ _ | (with_reducible refine Below.setCell ?_ (by first | (simp; done) | omega | (simp; omega)) _) | with_reducible refine belows ?_ (by assumption)))⟩
  go_enter Try.func28, Try.ntmps28
  go_wp2_with (first | (go_at_call 31; (with_reducible refine (ct _).mono ?_); rintro e w' ⟨rfl, hbl⟩; obtain ⟨hcw, hfw, hsw⟩ := below_ifs hbl; (try simp only [World.size_alloc, World.size_setCell, World.size_drew, size_drewN_] at hcw hfw hsw)))
  go_ret
  exact ⟨rfl, by (repeat (first | with_reducible exact Below.refl _ _ | with_reducible assumption | with_reducible refine below_drewN ?_ _ | with_reducible refine Below.drew ?_ | with_reducible refine below_alloc ?_ _ | (with_reducible refine Below.setCell ?_ (by first | (simp; done) | omega | (simp; omega)) _) | with_reducible refine belows ?_ (by assumption)))⟩
theorem clear_any (c : Cp) (w : World) : Calls Try.prog 13 #[.agg #[.bool c.g, .int .u64 (U c.m), .int .u64 (U c.a)]] w fun e w' => e = .returned (.agg #[.bool false, .int .u64 (U c.m), .int .u64 (U c.a)]) ∧ Below w.heap.size w w' := by
  go_enter Try.func13, Try.ntmps13
  go_wp2_with fail
  refine bodyPost_ret (results_c [.bool false, .int .u64 (U c.m), .int .u64 (U c.a)] Try.results13 rfl ?_ Try.underlying24 rfl (by kernel_rfl)) rfl ?_
  · (first | (go_simp; done) | (go_simp; (simp [↓IntWalk.iteOmega]; done)) | (go_simp; intros; omega) | (go_simp; simp [↓IntWalk.iteOmega]; intros; omega))
  · exact ⟨rfl, by (repeat (first | with_reducible exact Below.refl _ _ | with_reducible assumption | with_reducible refine below_drewN ?_ _ | with_reducible refine Below.drew ?_ | with_reducible refine below_alloc ?_ _ | (with_reducible refine Below.setCell ?_ (by first | (simp; done) | omega | (simp; omega)) _) | with_reducible refine belows ?_ (by assumption)))⟩
end Go.Proofs.Ytpjcijmdoofcbaa
