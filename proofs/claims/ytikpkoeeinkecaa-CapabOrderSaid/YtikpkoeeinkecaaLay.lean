
/-
  field.Lay: the word of some fields, whatever slice they lie in.
-/
import Derived.Test.YtikpkoeeinkecaaField
namespace Go.Proofs.Ytikpkoeeinkecaa
open Go Go.RowKit
set_option linter.unusedVariables false
set_option linter.unusedSimpArgs false

/-- A field, and what it is. -/
abbrev PartV := Int × Int × BitVec 64
def layF (l : List PartV) : BitVec 64 := l.foldl (fun out p => putF out p.1 p.2.1 p.2.2) 0#64
theorem layF_snoc (l : List PartV) (k : Nat) (h : k < l.length) : layF (l.take (k + 1)) = putF (layF (l.take k)) l[k].1 l[k].2.1 l[k].2.2 := by
  unfold layF
  rw [List.take_succ_eq_append_getElem h, List.foldl_append]
  rfl

/-- The fields lie in a slice. -/
def PartsAt (w : World) (b off : Nat) (l : List PartV) : Prop :=
  ∀ (k : Nat) (h : k < l.length), w.cell? ⟨b, off + k * 3, none⟩ = some (.int .i64 l[k].1) ∧ w.cell? ⟨b, off + k * 3 + 1, none⟩ = some (.int .i64 l[k].2.1) ∧ w.cell? ⟨b, off + k * 3 + 2, none⟩ = some (.int .u64 (U l[k].2.2))

theorem lay1_any (p q : Int) (v out : BitVec 64) (c : Nat) (w : World) (hc : w.cell? ⟨c, 0, none⟩ = some (.int .u64 (U out))) (hf : w.frozen? ⟨c, 0, none⟩ = false) (hs : c < w.heap.size) :
    Calls Try.prog 49 #[.agg #[.int .i64 p, .int .i64 q, .int .u64 (U v)], .pointer (some ⟨c, 0, none⟩)] w fun e w' => e = .returned (.tuple #[]) ∧ ∃ k, (((w.alloc (.cells #[.int .i64 p, .int .i64 q, .int .u64 (U v)] 87)).drewN k).setCell ⟨c, 0, none⟩ (.int .u64 (U (putF out p q v)))) = w' := by
  go_enter Try.func49, Try.ntmps49
  go_wp2_with (go_at_call 48; (with_reducible refine (put_any _ _ _ _ _).mono ?_); rintro e w' ⟨rfl, kd, rfl⟩)
  go_end0
  exact ⟨rfl, _, rfl⟩

theorem lay_any (l : List PartV) (b off cap : Nat) (w : World) (hl : l.length ≤ 9223372036854775807) (hb : b < w.heap.size) (hp : PartsAt w b off l) :
    Calls Try.prog 39 #[.slice (some ⟨b, off, none⟩) l.length cap] w fun e w' => e = .returned (.int .u64 (U (layF l))) ∧ Below w.heap.size w w' := by
  go_enter Try.func39, Try.ntmps39
  go_wp2_with fail
  go_loopw [10] (fun i wr => ∃ k : Nat, k ≤ l.length ∧ i = .int .i64 k ∧ Below w.heap.size w wr ∧ w.heap.size < wr.heap.size ∧ wr.cell? ⟨w.heap.size, 0, none⟩ = some (.int .u64 (U (layF (l.take k)))) ∧ wr.frozen? ⟨w.heap.size, 0, none⟩ = false)
    (fun i _ => l.length - (intOf i).toNat)
  case atStart =>
    exact ⟨0, Nat.zero_le _, rfl, (Below.refl _ _).alloc (Nat.le_refl _) _, by simp, by simp [World.cell?_alloc_new, layF, U], by simp⟩
  case round =>
    obtain ⟨k, hk, rfl, hbel, hsz, hcell, hfr⟩ := hrel
    by_cases hlt : k < l.length
    · obtain ⟨q0, q1, q2⟩ := hp k hlt
      have g0 : wr.cell? ⟨b, off + k * 3, none⟩ = some (.int .i64 l[k].1) := by rw [hbel.cell (by exact hb)]; exact q0
      have g1 : wr.cell? ⟨b, off + k * 3 + 1, none⟩ = some (.int .i64 l[k].2.1) := by rw [hbel.cell (by exact hb)]; exact q1
      have g2 : wr.cell? ⟨b, off + k * 3 + 2, none⟩ = some (.int .u64 (U l[k].2.2)) := by rw [hbel.cell (by exact hb)]; exact q2
      have Hs := Lib.hid (layF_snoc l k hlt)
      have Hr := Lib.hid hbel
      clear q0 q1 q2 hp hbel
      have t1 := fun o : Obj => (World.cell?_alloc_past (w := wr) o _ 0 hsz).trans hcell
      have t2 := fun o : Obj => (World.frozen?_alloc_past (w := wr) o _ 0 hsz).trans hfr
      have t3 := fun o : Obj => show w.heap.size < (wr.alloc o).heap.size by simp; omega
      go_wp2_with (go_at_call 49; (with_reducible refine (lay1_any _ _ _ _ _ _ (t1 _) (t2 _) (t3 _)).mono ?_); rintro e w' ⟨rfl, kd, rfl⟩)
      go_roundw
      case rel =>
        refine ⟨k + 1, by omega, by go_num, ?_, by simp; omega, ?_, ?_⟩
        · repeat (first | exact Hr.out | refine below_drewN ?_ _ | refine Below.setCell ?_ (by simp) _ | refine Below.alloc ?_ (by first | omega | (simp; omega)) _)
        · rw [Hs.out]; exact World.cell?_setCell_same _ _ _ ((World.cell?_alloc_past (w := wr.alloc _) _ _ 0 (t3 _)).trans (t1 _))
        · simp only [World.frozen?_setCell, World.frozen?_drewN]
          rw [World.frozen?_alloc_past _ _ _ (by simp; omega), World.frozen?_alloc_past _ _ _ hsz]; exact hfr
      case measure => simp [intOf]; omega
    · have hk' : k = l.length := by omega
      subst hk'
      have Hr := Lib.hid hbel
      clear hbel hp
      go_wp2
      go_ret
      exact ⟨rfl, Hr.out⟩

/-- No field at all. -/
theorem lay_nil (w : World) : Calls Try.prog 39 #[.slice none 0 0] w fun e w' => e = .returned (.int .u64 0) ∧ Below w.heap.size w w' := by
  go_enter Try.func39, Try.ntmps39
  go_wp2_with fail
  refine wp_loop_rounds 1 ?_
  rw [rounds_succ]
  go_wp2
  go_ret
  exact ⟨rfl, (Below.refl _ _).alloc (Nat.le_refl _) _⟩
end Go.Proofs.Ytikpkoeeinkecaa
