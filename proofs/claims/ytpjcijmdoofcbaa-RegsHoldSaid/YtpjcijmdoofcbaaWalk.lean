
/-
  What a call left as it was, as the walk reads it; a region whose calls lay blocks of their own, walked once.
-/
import Derived.Test.YtpjcijmdoofcbaaBv
import Derived.Lib.QuietBelow
namespace Go.Proofs.Ytpjcijmdoofcbaa
open Go Go.RowKit Go.Sort
set_option linter.unusedVariables false

theorem size_drewN_ (w : World) (k : Nat) : (w.drewN k).heap.size = w.heap.size := rfl
/-- A cell of which nothing is said. -/
def cellX (w : World) (b o : Nat) (s : Option Nat) : Option Value := w.cell? ⟨b, o, s⟩
def frozenX (w : World) (b o : Nat) (s : Option Nat) : Bool := w.frozen? ⟨b, o, s⟩
theorem below_ifs {B : Nat} {w w' : World} (h : Below B w w') : (∀ b o s, w'.cell? ⟨b, o, s⟩ = if b < B then w.cell? ⟨b, o, s⟩ else cellX w' b o s) ∧ (∀ b o s, w'.frozen? ⟨b, o, s⟩ = if b < B then w.frozen? ⟨b, o, s⟩ else frozenX w' b o s) ∧ w.heap.size ≤ w'.heap.size := by
  refine ⟨fun b o s => ?_, fun b o s => ?_, h.size⟩
  · by_cases c : b < B
    · rw [if_pos c]; exact h.cell (p := ⟨b, o, s⟩) c
    · rw [if_neg c]; rfl
  · by_cases c : b < B
    · rw [if_pos c]; exact h.frozen (p := ⟨b, o, s⟩) c
    · rw [if_neg c]; rfl
theorem wpQuiet_mono {P : Program} {ops : Array Oper} {C : World → Prop} {Q Q' : Act → Prop} (hq : ∀ a, Q a → Q' a) : ∀ (l : List Oper) (a : Act), wpQuiet P ops C Q l a → wpQuiet P ops C Q' l a
  | [], a, h => hq a h
  | o :: rest, a, h => by
    unfold wpQuiet at h ⊢
    split
    · rename_i hw
      rw [if_pos hw] at h
      exact Oper.quiet_mono (wpQuiet_mono hq rest) h
    · rename_i hw
      rw [if_neg hw] at h
      exact wpQuiet_mono hq rest _ h
theorem wp_region_below {P : Program} {id : Nat} {Q : Exit → Act → World → Prop} {a : Act} {w : World} {l : List Oper} (hm : P.follows .mixedOrders = true) (hB : Region.lexB .any l.toArray = true)
    (h : (∀ (d : Nat) (os : Array Obj) (b o : Nat) (s : Option Nat), (grow (redrawn w d) os).cell? ⟨b, o, s⟩ = if b < w.heap.size then w.cell? ⟨b, o, s⟩ else cellX (grow (redrawn w d) os) b o s) →
      (∀ (d : Nat) (os : Array Obj) (b o : Nat) (s : Option Nat), (grow (redrawn w d) os).frozen? ⟨b, o, s⟩ = if b < w.heap.size then w.frozen? ⟨b, o, s⟩ else frozenX (grow (redrawn w d) os) b o s) →
      wpQuiet P l.toArray (fun w' => ∃ p : Regrown, w' = grow (redrawn w p.d) p.os) (fun a' => ∀ w', Below w.heap.size w w' → Q .normal a' w') l a) : (Code.region id l.toArray true).wp P Q a w := by
  refine wp_region_quiet_below hm hB (wpQuiet_mono ?_ _ _ (h (fun d os => (below_ifs (below_regrown w d os)).1) (fun d os => (below_ifs (below_regrown w d os)).2.1)))
  intro a' hQ w' hw'
  obtain ⟨p, rfl⟩ := hw'
  exact hQ _ (below_regrown w p.d p.os)
theorem regrown_k {P : Program} {f : FuncId} {args : Array Value} {w : World} {d : Nat} {os : Array Obj} {v : Value}
    (h : Calls P f args (grow (redrawn w d) os) fun e w' => e = .returned v ∧ ∃ k, (grow (redrawn w d) os).drewN k = w') : Calls P f args (grow (redrawn w d) os) fun e w'' => e = .returned v ∧ ∃ p : Regrown, w'' = grow (redrawn w p.d) p.os :=
  Calls.regrown_of (h.mono fun _ _ ⟨he, k, hk⟩ => ⟨he, by rw [← hk]; exact below_drewN (Below.refl _ _) _⟩)
theorem regrown_1 {P : Program} {f : FuncId} {args : Array Value} {w : World} {d : Nat} {os : Array Obj} {v : Value}
    (h : Calls P f args (grow (redrawn w d) os) fun e w' => e = .returned v ∧ grow (redrawn w d) os = w') : Calls P f args (grow (redrawn w d) os) fun e w'' => e = .returned v ∧ ∃ p : Regrown, w'' = grow (redrawn w p.d) p.os :=
  Calls.regrown_of (h.mono fun _ _ ⟨he, hk⟩ => ⟨he, by rw [← hk]; exact Below.refl _ _⟩)
theorem regrown_a {P : Program} {f : FuncId} {args : Array Value} {w : World} {d : Nat} {os : Array Obj} {v : Value} {o : Obj}
    (h : Calls P f args (grow (redrawn w d) os) fun e w' => e = .returned v ∧ (grow (redrawn w d) os).alloc o = w') : Calls P f args (grow (redrawn w d) os) fun e w'' => e = .returned v ∧ ∃ p : Regrown, w'' = grow (redrawn w p.d) p.os :=
  Calls.regrown_of (h.mono fun _ _ ⟨he, hk⟩ => ⟨he, by rw [← hk]; exact Below.alloc (Below.refl _ _) (Nat.le_refl _) _⟩)
theorem cell_if1 (w : World) (o1 : Obj) (b i : Nat) (s : Option Nat) : (w.alloc o1).cell? ⟨b, i, s⟩ = if b < w.heap.size then w.cell? ⟨b, i, s⟩ else cellX (w.alloc o1) b i s := by
  by_cases c : b < w.heap.size
  · rw [if_pos c]; exact (Below.alloc (Below.refl _ _) (by simp; try omega) _).cell (p := ⟨b, i, s⟩) c
  · rw [if_neg c]; rfl
theorem frozen_if1 (w : World) (o1 : Obj) (b i : Nat) (s : Option Nat) : (w.alloc o1).frozen? ⟨b, i, s⟩ = if b < w.heap.size then w.frozen? ⟨b, i, s⟩ else frozenX (w.alloc o1) b i s := by
  by_cases c : b < w.heap.size
  · rw [if_pos c]; exact (Below.alloc (Below.refl _ _) (by simp; try omega) _).frozen (p := ⟨b, i, s⟩) c
  · rw [if_neg c]; rfl
theorem cell_if2 (w : World) (o1 o2 : Obj) (b i : Nat) (s : Option Nat) : ((w.alloc o1).alloc o2).cell? ⟨b, i, s⟩ = if b < w.heap.size then w.cell? ⟨b, i, s⟩ else cellX ((w.alloc o1).alloc o2) b i s := by
  by_cases c : b < w.heap.size
  · rw [if_pos c]; exact (Below.alloc (Below.alloc (Below.refl _ _) (by simp; try omega) _) (by simp; try omega) _).cell (p := ⟨b, i, s⟩) c
  · rw [if_neg c]; rfl
theorem frozen_if2 (w : World) (o1 o2 : Obj) (b i : Nat) (s : Option Nat) : ((w.alloc o1).alloc o2).frozen? ⟨b, i, s⟩ = if b < w.heap.size then w.frozen? ⟨b, i, s⟩ else frozenX ((w.alloc o1).alloc o2) b i s := by
  by_cases c : b < w.heap.size
  · rw [if_pos c]; exact (Below.alloc (Below.alloc (Below.refl _ _) (by simp; try omega) _) (by simp; try omega) _).frozen (p := ⟨b, i, s⟩) c
  · rw [if_neg c]; rfl
theorem cell_if3 (w : World) (o1 o2 o3 : Obj) (b i : Nat) (s : Option Nat) : (((w.alloc o1).alloc o2).alloc o3).cell? ⟨b, i, s⟩ = if b < w.heap.size then w.cell? ⟨b, i, s⟩ else cellX (((w.alloc o1).alloc o2).alloc o3) b i s := by
  by_cases c : b < w.heap.size
  · rw [if_pos c]; exact (Below.alloc (Below.alloc (Below.alloc (Below.refl _ _) (by simp; try omega) _) (by simp; try omega) _) (by simp; try omega) _).cell (p := ⟨b, i, s⟩) c
  · rw [if_neg c]; rfl
theorem frozen_if3 (w : World) (o1 o2 o3 : Obj) (b i : Nat) (s : Option Nat) : (((w.alloc o1).alloc o2).alloc o3).frozen? ⟨b, i, s⟩ = if b < w.heap.size then w.frozen? ⟨b, i, s⟩ else frozenX (((w.alloc o1).alloc o2).alloc o3) b i s := by
  by_cases c : b < w.heap.size
  · rw [if_pos c]; exact (Below.alloc (Below.alloc (Below.alloc (Below.refl _ _) (by simp; try omega) _) (by simp; try omega) _) (by simp; try omega) _).frozen (p := ⟨b, i, s⟩) c
  · rw [if_neg c]; rfl
theorem cell_if4 (w : World) (o1 o2 o3 o4 : Obj) (b i : Nat) (s : Option Nat) : ((((w.alloc o1).alloc o2).alloc o3).alloc o4).cell? ⟨b, i, s⟩ = if b < w.heap.size then w.cell? ⟨b, i, s⟩ else cellX ((((w.alloc o1).alloc o2).alloc o3).alloc o4) b i s := by
  by_cases c : b < w.heap.size
  · rw [if_pos c]; exact (Below.alloc (Below.alloc (Below.alloc (Below.alloc (Below.refl _ _) (by simp; try omega) _) (by simp; try omega) _) (by simp; try omega) _) (by simp; try omega) _).cell (p := ⟨b, i, s⟩) c
  · rw [if_neg c]; rfl
theorem frozen_if4 (w : World) (o1 o2 o3 o4 : Obj) (b i : Nat) (s : Option Nat) : ((((w.alloc o1).alloc o2).alloc o3).alloc o4).frozen? ⟨b, i, s⟩ = if b < w.heap.size then w.frozen? ⟨b, i, s⟩ else frozenX ((((w.alloc o1).alloc o2).alloc o3).alloc o4) b i s := by
  by_cases c : b < w.heap.size
  · rw [if_pos c]; exact (Below.alloc (Below.alloc (Below.alloc (Below.alloc (Below.refl _ _) (by simp; try omega) _) (by simp; try omega) _) (by simp; try omega) _) (by simp; try omega) _).frozen (p := ⟨b, i, s⟩) c
  · rw [if_neg c]; rfl
theorem cell_if5 (w : World) (o1 o2 o3 o4 o5 : Obj) (b i : Nat) (s : Option Nat) : (((((w.alloc o1).alloc o2).alloc o3).alloc o4).alloc o5).cell? ⟨b, i, s⟩ = if b < w.heap.size then w.cell? ⟨b, i, s⟩ else cellX (((((w.alloc o1).alloc o2).alloc o3).alloc o4).alloc o5) b i s := by
  by_cases c : b < w.heap.size
  · rw [if_pos c]; exact (Below.alloc (Below.alloc (Below.alloc (Below.alloc (Below.alloc (Below.refl _ _) (by simp; try omega) _) (by simp; try omega) _) (by simp; try omega) _) (by simp; try omega) _) (by simp; try omega) _).cell (p := ⟨b, i, s⟩) c
  · rw [if_neg c]; rfl
theorem frozen_if5 (w : World) (o1 o2 o3 o4 o5 : Obj) (b i : Nat) (s : Option Nat) : (((((w.alloc o1).alloc o2).alloc o3).alloc o4).alloc o5).frozen? ⟨b, i, s⟩ = if b < w.heap.size then w.frozen? ⟨b, i, s⟩ else frozenX (((((w.alloc o1).alloc o2).alloc o3).alloc o4).alloc o5) b i s := by
  by_cases c : b < w.heap.size
  · rw [if_pos c]; exact (Below.alloc (Below.alloc (Below.alloc (Below.alloc (Below.alloc (Below.refl _ _) (by simp; try omega) _) (by simp; try omega) _) (by simp; try omega) _) (by simp; try omega) _) (by simp; try omega) _).frozen (p := ⟨b, i, s⟩) c
  · rw [if_neg c]; rfl
theorem cell_if6 (w : World) (o1 o2 o3 o4 o5 o6 : Obj) (b i : Nat) (s : Option Nat) : ((((((w.alloc o1).alloc o2).alloc o3).alloc o4).alloc o5).alloc o6).cell? ⟨b, i, s⟩ = if b < w.heap.size then w.cell? ⟨b, i, s⟩ else cellX ((((((w.alloc o1).alloc o2).alloc o3).alloc o4).alloc o5).alloc o6) b i s := by
  by_cases c : b < w.heap.size
  · rw [if_pos c]; exact (Below.alloc (Below.alloc (Below.alloc (Below.alloc (Below.alloc (Below.alloc (Below.refl _ _) (by simp; try omega) _) (by simp; try omega) _) (by simp; try omega) _) (by simp; try omega) _) (by simp; try omega) _) (by simp; try omega) _).cell (p := ⟨b, i, s⟩) c
  · rw [if_neg c]; rfl
theorem frozen_if6 (w : World) (o1 o2 o3 o4 o5 o6 : Obj) (b i : Nat) (s : Option Nat) : ((((((w.alloc o1).alloc o2).alloc o3).alloc o4).alloc o5).alloc o6).frozen? ⟨b, i, s⟩ = if b < w.heap.size then w.frozen? ⟨b, i, s⟩ else frozenX ((((((w.alloc o1).alloc o2).alloc o3).alloc o4).alloc o5).alloc o6) b i s := by
  by_cases c : b < w.heap.size
  · rw [if_pos c]; exact (Below.alloc (Below.alloc (Below.alloc (Below.alloc (Below.alloc (Below.alloc (Below.refl _ _) (by simp; try omega) _) (by simp; try omega) _) (by simp; try omega) _) (by simp; try omega) _) (by simp; try omega) _) (by simp; try omega) _).frozen (p := ⟨b, i, s⟩) c
  · rw [if_neg c]; rfl
theorem cell_setCell_if (w : World) (b i c j : Nat) (v : Value) : (w.setCell ⟨c, j, none⟩ v).cell? ⟨b, i, none⟩ = if b ≠ c then w.cell? ⟨b, i, none⟩ else if i ≠ j then w.cell? ⟨b, i, none⟩ else (w.cell? ⟨b, i, none⟩).map fun _ => v := by
  by_cases h : b = c
  · subst h
    rw [if_neg (by simp)]
    by_cases g : i = j
    · subst g
      rw [if_neg (by simp)]
      cases hc : w.cell? ⟨b, i, none⟩ with
      | some u => exact World.cell?_setCell_same _ _ _ hc
      | none =>
        simp only [Option.map_none]
        simp only [World.cell?, World.setCell, Array.getElem?_modify] at hc ⊢
        cases hb : w.heap[b]? with
        | none => simp
        | some o =>
          cases o with
          | cells cs t m => simp [hb] at hc ⊢; omega
          | _ => simp
    · rw [if_pos g]; exact World.cell?_setCell_other _ _ _ _ (fun e => g (by cases e; rfl))
  · rw [if_pos h]; exact World.cell?_setCell_other _ _ _ _ (fun e => h (by cases e; rfl))
attribute [go_sem 501] cell_if1 frozen_if1
attribute [go_sem 502] cell_if2 frozen_if2
attribute [go_sem 503] cell_if3 frozen_if3
attribute [go_sem 504] cell_if4 frozen_if4
attribute [go_sem 505] cell_if5 frozen_if5
attribute [go_sem 506] cell_if6 frozen_if6
attribute [go_sem 500] cell_setCell_if
end Go.Proofs.Ytpjcijmdoofcbaa
