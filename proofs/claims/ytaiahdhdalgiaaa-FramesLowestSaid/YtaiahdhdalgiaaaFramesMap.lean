
/-
  frames: the numbers that were given back, in a map of the law's own.
-/
import Derived.Test.YtaiahdhdalgiaaaFramesL
import Derived.Maps.OwnSet
import Derived.Carry
namespace Go.Proofs.Ytaiahdhdalgiaaa
open Go Go.RowKit
open Go.Maps (Keyed)
set_option linter.unusedVariables false
set_option linter.unusedSimpArgs false

theorem int_law : Keyed Try.prog 3 := Maps.int_keyed Try.underlying3
theorem zero_bool (w : World) : (zeroValue 4).run Try.prog w = .ok (.bool false) w := by kernel_rfl
theorem int_key (j : Nat) (h : j < 64) : keyOf Try.prog 3 (.int .i64 (j : Int)) = some (.int .i64 (j : Int)) := Maps.keyOf_int_mk Try.underlying3 (WalkArith.wf_i64 (by omega))
theorem int_lit (j : Nat) (h : j < 64) : WideAt.IsKeyLit (.int .i64 (j : Int)) := by
  first | exact Maps.isKeyLit_int _ _ | trivial | (unfold WideAt.IsKeyLit; simp)
theorem owns_size {w : World} {b m : Nat} {D : DataW Unit} {R : Value → Option (DataW Unit × List MemPlace)} {k : TypeId} (h : w.ownsMap Try.prog k R b m D) : w.ownsMap Try.prog k R b (Maps.size D) D := by
  obtain ⟨es, clock, hb, F, hs, rfl⟩ := h
  exact ⟨es, clock, hb, F, by simp [Maps.size, length_sorted], rfl⟩
/-- A map of the numbers below n that are not in t. -/
def MapAt (w : World) (b n : Nat) (t : BitVec 64) : Prop := ∃ (D : DataW Unit) (m : Nat), w.ownsMap Try.prog 3 (plainElem Try.prog 4) b m D ∧ Maps.size D = freeN n t ∧
  (∀ j, j < n → Maps.has D (.int .i64 (j : Int)) = !t.getLsbD j ∧ D.atKey (.int .i64 (j : Int)) (.lit (.bool false)) = .lit (.bool (!t.getLsbD j)))
section
variable {w : World} {b n : Nat} {t : BitVec 64}
theorem MapAt.kept {w' : World} {row : Option Nat} (h : MapAt w b n t) (hg : w.grownBy w' row) (hne : some b ≠ row) : MapAt w' b n t := by
  obtain ⟨D, m, a, r⟩ := h
  exact ⟨D, m, a.kept hg hne, r⟩
theorem MapAt.lt (h : MapAt w b n t) : b < w.heap.size := by
  obtain ⟨D, m, a, r⟩ := h
  exact a.lt
theorem MapAt.look (h : MapAt w b n t) (hn : n ≤ 64) (j : Nat) (hj : j < n) : (Instr.lookup 46 (.map (some b)) (.int .i64 (j : Int)) false).run Try.prog w = .ok (.bool (!t.getLsbD j)) w := by
  obtain ⟨D, m, a, s, r⟩ := h
  obtain ⟨v, ps, hrun, hv⟩ := a.lookup int_law Try.underlying46 (zero_bool w) (plainElem_bool Try.underlying4 false) (int_key j (by omega))
  rw [hrun]
  rw [(r j hj).2] at hv
  unfold plainElem at hv
  rw [Try.underlying4] at hv
  cases v <;> simp at hv
  rw [hv.1]
theorem MapAt.len (h : MapAt w b n t) (ty : TypeId) : (Builtin.len_ #[46] ty #[.map (some b)]).run Try.prog w = .ok (.int .i64 (freeN n t : Int)) w := by
  obtain ⟨D, m, a, s, r⟩ := h
  rw [a.len Try.underlying46 ty, s]
theorem MapAt.put (h : MapAt w b n t) (hn : n ≤ 64) (j : Nat) (hj : j < n) : ∃ w', (Instr.mapUpdate 46 (.map (some b)) (.int .i64 (j : Int)) (.bool true)).run Try.prog w = .ok () w' ∧ MapAt w' b n (t &&& ~~~(1#64 <<< j)) ∧ w.grownBy w' (some b) := by
  obtain ⟨D, m, a, s, r⟩ := h
  have hle := free_le n t
  obtain ⟨w', hrun, a', hg⟩ := (owns_size a).update int_law Try.underlying46 (by unfold maxLen; omega) (int_key j (by omega)) (plainElem_bool Try.underlying4 true)
  have hne : ∀ i : Nat, i ≠ j → (Lit.int .i64 (i : Int)) ≠ .int .i64 (j : Int) := fun i hi e => by
    simp only [Lit.int.injEq] at e
    omega
  refine ⟨w', hrun, ⟨_, _, a', ?_, ?_⟩, hg⟩
  · rw [Maps.size_put (a.tidy int_law), (r j hj).1, s]
    cases hb : t.getLsbD j
    · rw [if_pos (show (!false) = true from rfl)]
      exact free_same n fun i hi => by
        rw [clrb_bit t j i (by omega)]
        by_cases c : i = j
        · subst c; rw [hb]; rfl
        · rw [decide_eq_false c]; simp
    · rw [if_neg (by simp)]
      exact (free_drop (by omega) hb n hj).symm
  · intro i hi
    rw [clrb_bit t j i (by omega)]
    by_cases c : i = j
    · subst c
      rw [Maps.has_put_same a.isMap (int_lit i (by omega)), Maps.atKey_put_same a.isMap (int_lit i (by omega))]
      simp
    · rw [Maps.has_put_other (hne i c), Maps.atKey_put_other (hne i c), (r i hi).1, (r i hi).2, decide_eq_false c]
      simp
theorem MapAt.made (w : World) (n : Nat) (t : BitVec 64) (h : ∀ j, j < n → t.getLsbD j = true) : MapAt (w.alloc (.map #[] 0)) w.heap.size n t :=
  ⟨.map [], 0, World.ownsMap_made w _ _ _, ((free_all n h).1).symm, fun j hj => by
    rw [h j hj]
    exact ⟨rfl, rfl⟩⟩
end
end Go.Proofs.Ytaiahdhdalgiaaa
