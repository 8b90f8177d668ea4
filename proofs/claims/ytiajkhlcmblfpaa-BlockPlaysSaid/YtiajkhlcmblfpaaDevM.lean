
/-
  block: rows of bytes; the map of a device's blocks, read exactly; a block full of a byte.
-/
import Derived.Test.YtiajkhlcmblfpaaDev
import Derived.Maps.OwnSet
import Derived.Carry
import Derived.Laws.CopyOwn
import Derived.Deep.AppendLies
import Derived.Lib.SlBytesRow
import Derived.Laws.OwnMore
import Derived.Lib.Hide
import Derived.WalkKit
namespace Go.Proofs.Ytiajkhlcmblfpaa
open Go Go.RowKit
open Go.Maps (Keyed)
set_option linter.unusedVariables false
set_option linter.unusedSimpArgs false

/-- The bytes, as cells. -/
def byV (s : ByteArray) : List Value := s.data.toList.map fun u => Value.int .u8 (u.toNat : Int)
theorem byV_len (s : ByteArray) : (byV s).length = s.size := by unfold byV; simp
theorem byV_at (s : ByteArray) (j : Nat) (h : j < s.size) : (byV s)[j]? = some (.int .u8 (s[j].toNat : Int)) := by
  unfold byV
  rw [List.getElem?_map, List.getElem?_eq_getElem (by simpa using h)]
  rfl
theorem info_u8 : (Try.prog.info? 5).map (fun i => (i.zero, i.size, i.bytes)) = some (some (.int .u8 0), 1, 1) := by kernel_rfl
theorem owns_below {w w' : World} {base : Nat} {e : TypeId} {size : Nat} {v : Value} {n : Nat} {xs : List Value} (h : w.ownsRow base e size v n xs) (hb : Below w.heap.size w w') : w'.ownsRow base e size v n xs :=
  h.kept (row := none) ⟨hb.os, hb.tape, hb.output, hb.size, fun k hk _ => hb.block k hk⟩ (by cases v.ownBlock <;> simp)
/-- A row of 4096 bytes, s. -/
def RowS (w : World) (n₀ : Nat) (v : Value) (s : ByteArray) : Prop := s.size = 4096 ∧ w.ownsRow n₀ 5 1 v 4096 (byV s)
theorem RowS.form {w : World} {n₀ : Nat} {v : Value} {s : ByteArray} (h : RowS w n₀ v s) : ∃ g cap, v = .slice (some ⟨g, 0, none⟩) 4096 cap ∧ n₀ ≤ g ∧ g < w.heap.size := by
  rcases h.2.2 with ⟨a, b⟩ | ⟨g, cap, cur, a, b, c, _⟩
  · cases b
  · exact ⟨g, cap, a, b, (Array.getElem?_eq_some_iff.1 c).1⟩
theorem RowS.below {w w' : World} {n₀ : Nat} {v : Value} {s : ByteArray} (h : RowS w n₀ v s) (hb : Below w.heap.size w w') : RowS w' n₀ v s := ⟨h.1, owns_below h.2 hb⟩
theorem RowS.lower {w : World} {n₀ n₁ : Nat} {v : Value} {s : ByteArray} (h : RowS w n₀ v s) (hn : n₁ ≤ n₀) : RowS w n₁ v s := by
  refine ⟨h.1, h.2.1, ?_⟩
  rcases h.2.2 with a | ⟨g', cap', cur, a, b, r⟩
  · exact .inl a
  · exact .inr ⟨g', cap', cur, a, Nat.le_trans hn b, r⟩
theorem RowS.grown {w w' : World} {n₀ : Nat} {v : Value} {s : ByteArray} (h : RowS w n₀ v s) {row : Nat} (hg : w.grownBy w' (some row)) (hr : row < n₀) : RowS w' n₀ v s :=
  ⟨h.1, h.2.kept hg (.inr (by intro e; have := (h.2.lt row e).1; omega))⟩
theorem RowS.bytes {w : World} {n₀ g cap : Nat} {s : ByteArray} (h : RowS w n₀ (.slice (some ⟨g, 0, none⟩) 4096 cap) s) : Lib.Bytes w g 0 s := fun i hi => by
  rw [Nat.zero_add, h.2.cellAt i (by rw [h.1] at hi; omega), byV_at s i hi]
/-! ### A block full of a byte -/
def zeroSN (N : Nat) : ByteArray := ⟨(List.replicate N 0).toArray⟩
def zeroVN (N : Nat) : Array Value := madeCells #[.int .u8 0] (N * 1)
def fullToN (N : Nat) (b : UInt8) (k : Nat) : ByteArray := ⟨(List.replicate k b ++ List.replicate (N - k) 0).toArray⟩
def fullSN (N at' : Nat) (b : UInt8) : ByteArray := ⟨((List.replicate N b).set at' (b + 1)).toArray⟩
theorem byV_list (l : List UInt8) : byV ⟨l.toArray⟩ = l.map fun u => Value.int .u8 (u.toNat : Int) := by unfold byV; simp
theorem zeroVN_list (N : Nat) : (zeroVN N).toList = byV (zeroSN N) := by
  unfold zeroVN madeCells zeroSN
  rw [byV_list]
  apply List.ext_getElem?
  intro j
  by_cases c : j < N
  · rw [List.getElem?_eq_getElem (by simpa using c), List.getElem?_eq_getElem (by simpa using c)]
    simp [Nat.mod_one]
  · rw [List.getElem?_eq_none (by simp; omega), List.getElem?_eq_none (by simp; omega)]
theorem zeroSN_size (N : Nat) : (zeroSN N).size = N := by unfold zeroSN; simp [ByteArray.size]
theorem fullToN_size (N : Nat) (b : UInt8) (k : Nat) (h : k ≤ N) : (fullToN N b k).size = N := by unfold fullToN; simp [ByteArray.size]; omega
theorem fullSN_size (N at' : Nat) (b : UInt8) : (fullSN N at' b).size = N := by unfold fullSN; simp [ByteArray.size]
theorem fullToN_zero (N : Nat) (b : UInt8) : fullToN N b 0 = zeroSN N := by unfold fullToN zeroSN; simp
theorem fullToN_succ (N : Nat) (b : UInt8) (k : Nat) (h : k < N) : (byV (fullToN N b k)).set k (.int .u8 (b.toNat : Int)) = byV (fullToN N b (k + 1)) := by
  unfold fullToN
  rw [byV_list, byV_list, show (Value.int .u8 (b.toNat : Int)) = (fun u : UInt8 => Value.int .u8 (u.toNat : Int)) b from rfl, ← List.map_set]
  congr 1
  rw [show N - k = (N - (k + 1)) + 1 by omega, List.replicate_succ, List.set_append_right _ _ (by simp), List.length_replicate, Nat.sub_self, List.set_cons_zero, List.replicate_succ']
  simp
theorem fullSN_set (N at' : Nat) (b : UInt8) : (byV (fullToN N b N)).set at' (.int .u8 ((b + 1).toNat : Int)) = byV (fullSN N at' b) := by
  unfold fullToN fullSN
  rw [byV_list, byV_list, show (Value.int .u8 ((b + 1).toNat : Int)) = (fun u : UInt8 => Value.int .u8 (u.toNat : Int)) (b + 1) from rfl, ← List.map_set]
  simp
def zeroS : ByteArray := zeroSN 4096
def zeroV : Array Value := zeroVN 4096
theorem zeroS_size : zeroS.size = 4096 := zeroSN_size 4096
theorem zeroV_size : zeroV.size = 4096 * 1 := size_madeCells _ _
theorem zeroV_list : zeroV.toList = byV zeroS := zeroVN_list 4096
/-- Full of b up to k; then zeros. -/
def fullTo (b : UInt8) (k : Nat) : ByteArray := fullToN 4096 b k
def fullS (at' : Nat) (b : UInt8) : ByteArray := fullSN 4096 at' b
theorem fullTo_size (b : UInt8) (k : Nat) (h : k ≤ 4096) : (fullTo b k).size = 4096 := fullToN_size 4096 b k h
theorem fullS_size (at' : Nat) (b : UInt8) : (fullS at' b).size = 4096 := fullSN_size 4096 at' b
theorem fullTo_zero (b : UInt8) : fullTo b 0 = zeroS := fullToN_zero 4096 b
theorem fullTo_succ (b : UInt8) (k : Nat) (h : k < 4096) : (byV (fullTo b k)).set k (.int .u8 (b.toNat : Int)) = byV (fullTo b (k + 1)) := fullToN_succ 4096 b k h
theorem fullS_set (at' : Nat) (b : UInt8) : (byV (fullTo b 4096)).set at' (.int .u8 ((b + 1).toNat : Int)) = byV (fullS at' b) := fullSN_set 4096 at' b
theorem make_zero (w : World) : (Instr.makeSlice 26 (.int .i64 4096) (.int .i64 4096)).run Try.prog w = .ok (.slice (some ⟨w.heap.size, 0, none⟩) 4096 4096) (w.alloc (.cells zeroV 5)) := by
  obtain ⟨i0, hi0, hz0, hz1, hz2⟩ := info_parts info_u8
  have h := run_make w 26 5 i0 (.int .u8 0) Try.underlying26 hi0 hz0 .i64 .i64 4096 4096 (by omega) (by omega) (by rw [hz2]; omega) (by omega)
  rw [hz1] at h
  exact h
attribute [irreducible] zeroV fullTo fullS zeroS
theorem zero_row (w : World) (n₀ : Nat) (h : n₀ ≤ w.heap.size) : RowS (w.alloc (.cells zeroV 5)) n₀ (.slice (some ⟨w.heap.size, 0, none⟩) 4096 4096) zeroS := by
  refine ⟨zeroS_size, ?_⟩
  rw [← zeroV_list]
  exact World.ownsRow_lit w zeroV 4096 h (by unfold maxLen; omega) zeroV_size
theorem u8_succ (b : UInt8) : ((b + 1).toNat : Int) = ((b.toNat : Int) + 1) % 256 := by
  rw [UInt8.toNat_add]
  simp
set_option maxHeartbeats 4000000 in
theorem full_any (kd nn at' : Int) (b : UInt8) (raw : Value) (w : World) : Calls Try.prog 7 #[.agg #[.int .i64 kd, .int .i64 nn, .int .i64 at', .int .u8 (b.toNat : Int), raw]] w fun r w' => ∃ v, r = .returned v ∧ Below w.heap.size w w' ∧ RowS w' w.heap.size v (fullS (at' % 4096).toNat b) := by
  have hmk := make_zero
  have hb0 : (0 : Int) ≤ (b.toNat : Int) := by omega
  have hb1 : (b.toNat : Int) < 256 := by have := b.toNat_lt; omega
  go_enter Try.func7, Try.ntmps7
  go_wp2_with fail
  have HR := Lib.hid (zero_row (w.alloc (.cells #[.int .i64 kd, .int .i64 nn, .int .i64 at', .int .u8 (b.toNat : Int), raw] 29)) (w.heap.size + 1) (by simp))
  go_loopw [4] (fun x wr => ∃ k : Nat, x = .int .i64 (k : Int) ∧ k ≤ 4096 ∧ wr.cell? ⟨w.heap.size, 3, none⟩ = some (.int .u8 (b.toNat : Int)) ∧ wr.cell? ⟨w.heap.size, 2, none⟩ = some (.int .i64 at') ∧ Hid (RowS wr (w.heap.size + 1) (.slice (some ⟨w.heap.size + 1, 0, none⟩) 4096 4096) (fullTo b k) ∧ Below w.heap.size w wr)) (fun x _ => 4096 - (intOf x).toNat)
  case atStart =>
    refine ⟨0, rfl, by omega, by (first | (go_simp; done) | (go_simp; (simp [↓IntWalk.iteOmega]; done)) | (go_simp; intros; omega) | (go_simp; simp [↓IntWalk.iteOmega]; intros; omega)), by (first | (go_simp; done) | (go_simp; (simp [↓IntWalk.iteOmega]; done)) | (go_simp; intros; omega) | (go_simp; simp [↓IntWalk.iteOmega]; intros; omega)), Lib.hid ⟨?_, by (repeat (first | with_reducible exact Below.refl _ _ | with_reducible assumption | with_reducible refine below_drewN ?_ _ | with_reducible refine Below.drew ?_ | with_reducible refine below_alloc ?_ _ | (with_reducible refine Below.setCell ?_ (by first | (simp; done) | omega | (simp; omega)) _) | with_reducible refine belows ?_ (by assumption)))⟩⟩
    rw [fullTo_zero]
    simpa using HR.out
  case round =>
    obtain ⟨k, rfl, hk, x3, x2, HI⟩ := hrel
    clear HR
    by_cases c : k < 4096
    · have hc := HI.out.1.2.cellAt k (by omega)
      rw [byV_at _ k (by rw [fullTo_size b k hk]; exact c)] at hc
      have hf := HI.out.1.2.frozenAt k
      have HS : Hid (RowS (wr.setCell ⟨w.heap.size + 1, k, none⟩ (.int .u8 (b.toNat : Int))) (w.heap.size + 1) (.slice (some ⟨w.heap.size + 1, 0, none⟩) 4096 4096) (fullTo b (k + 1)) ∧ Below w.heap.size w (wr.setCell ⟨w.heap.size + 1, k, none⟩ (.int .u8 (b.toNat : Int)))) :=
        Lib.hid ⟨⟨fullTo_size b (k + 1) (by omega), by rw [← fullTo_succ b k c]; exact (HI.out.1.2.stored k _).1⟩, HI.out.2.setCell (by simp) _⟩
      have i1 : (k : Int) < 4096 := by omega
      generalize hu : Value.int .u8 ((fullTo b k)[k]'(by rw [fullTo_size b k hk]; exact c)).toNat = u at hc
      clear HI hu
      go_wp2_with fail
      go_roundw
      case rel => exact ⟨k + 1, by go_num, by omega, by (first | (go_simp; done) | (go_simp; (simp [↓IntWalk.iteOmega]; done)) | (go_simp; intros; omega) | (go_simp; simp [↓IntWalk.iteOmega]; intros; omega)), by (first | (go_simp; done) | (go_simp; (simp [↓IntWalk.iteOmega]; done)) | (go_simp; intros; omega) | (go_simp; simp [↓IntWalk.iteOmega]; intros; omega)), HS⟩
      case measure => (simp [intOf]; omega)
    · obtain rfl : k = 4096 := by omega
      have hi := HI.out.1.2
      obtain ⟨i, hi0⟩ : ∃ i : Nat, at' % 4096 = (i : Int) := ⟨(at' % 4096).toNat, by omega⟩
      have hi1 : i < 4096 := by omega
      have hc := hi.cellAt i (by omega)
      rw [byV_at _ i (by rw [fullTo_size b 4096 hk]; exact hi1)] at hc
      have hf := hi.frozenAt i
      go_wp2_with fail
      go_ret
      refine ⟨_, rfl, HI.out.2.setCell (by simp) _, RowS.lower ⟨fullS_size _ _, ?_⟩ (Nat.le_succ _)⟩
      rw [hi0, Int.toNat_natCast, ← u8_succ b, ← fullS_set]
      exact (hi.stored i _).1
/-! ### The map, read exactly -/
theorem int_law : Keyed Try.prog 3 := Maps.int_keyed Try.underlying3
def tokR (v : Value) : Option (DataW Value × List MemPlace) := some (.held v, [])
theorem zero_slice (w : World) : (zeroValue 26).run Try.prog w = .ok (.slice none 0 0) w := by kernel_rfl
theorem int_key (j : Nat) (h : j < 64) : keyOf Try.prog 3 (.int .i64 (j : Int)) = some (.int .i64 (j : Int)) := Maps.keyOf_int_mk Try.underlying3 (WalkArith.wf_i64 (by omega))
theorem int_lit (j : Nat) : WideAt.IsKeyLit (.int .i64 (j : Int)) := by
  first | trivial | (unfold WideAt.IsKeyLit; simp)
/-- A map of the device's own, in block b, of at most q entries, of which those below n are told by v. -/
def MapV (w : World) (b n q : Nat) (v : Nat → Value) : Prop := ∃ D : DataW Value, w.ownsMap Try.prog 3 tokR b q D ∧ ∀ j, j < n → D.atKey (.int .i64 (j : Int)) (.held (.slice none 0 0)) = .held (v j)
section
variable {w : World} {b n q : Nat} {v : Nat → Value}
theorem MapV.kept {w' : World} {row : Option Nat} (h : MapV w b n q v) (hg : w.grownBy w' row) (hne : some b ≠ row) : MapV w' b n q v := by
  obtain ⟨D, a, r⟩ := h
  exact ⟨D, a.kept hg hne, r⟩
theorem MapV.below {w' : World} (h : MapV w b n q v) (hb : Below w.heap.size w w') : MapV w' b n q v :=
  h.kept (row := none) ⟨hb.os, hb.tape, hb.output, hb.size, fun k hk _ => hb.block k hk⟩ (by simp)
theorem MapV.setCell (h : MapV w b n q v) {a : Addr} (ha : b ≠ a.block) (u : Value) : MapV (w.setCell a u) b n q v := by
  obtain ⟨D, m, r⟩ := h
  exact ⟨D, m.setCell ha u, r⟩
theorem MapV.drew (h : MapV w b n q v) : MapV w.drew b n q v := h
theorem MapV.alloc (h : MapV w b n q v) (o : Obj) : MapV (w.alloc o) b n q v := h.kept (World.grownBy_alloc w o none) (by simp)
theorem MapV.lt (h : MapV w b n q v) : b < w.heap.size := by
  obtain ⟨D, a, r⟩ := h
  exact a.lt
theorem MapV.look (h : MapV w b n q v) (hn : n ≤ 64) (j : Nat) (hj : j < n) : (Instr.lookup 46 (.map (some b)) (.int .i64 (j : Int)) false).run Try.prog w = .ok (v j) w := by
  obtain ⟨D, a, r⟩ := h
  obtain ⟨x, ps, hrun, hv⟩ := a.lookup int_law Try.underlying46 (zero_slice w) (rfl : tokR (.slice none 0 0) = some (.held (.slice none 0 0), [])) (int_key j (by omega))
  rw [hrun]
  rw [r j hj] at hv
  unfold tokR at hv
  simp only [Option.some.injEq, Prod.mk.injEq, DataW.held.injEq] at hv
  rw [hv.1]
theorem MapV.put (h : MapV w b n q v) (hn : n ≤ 64) (hq : q < 1000) (j : Nat) (hj : j < n) (u : Value) : ∃ w', (Instr.mapUpdate 46 (.map (some b)) (.int .i64 (j : Int)) u).run Try.prog w = .ok () w' ∧ MapV w' b n (q + 1) (fun i => if i = j then u else v i) ∧ w.grownBy w' (some b) := by
  obtain ⟨D, a, r⟩ := h
  obtain ⟨w', hrun, a', hg⟩ := a.update int_law Try.underlying46 (by unfold maxLen; omega) (int_key j (by omega)) (rfl : tokR u = some (.held u, []))
  refine ⟨w', hrun, ⟨_, a', fun i hi => ?_⟩, hg⟩
  by_cases c : i = j
  · subst c
    rw [Maps.atKey_put_same a.isMap (int_lit i)]
    show DataW.held u = DataW.held (if i = i then u else v i)
    rw [if_pos rfl]
  · rw [Maps.atKey_put_other (fun e => c (by simp only [Lit.int.injEq] at e; omega))]
    show _ = DataW.held (if i = j then u else v i)
    rw [if_neg c]
    exact r i hi
theorem MapV.made (w : World) (n : Nat) : MapV (w.alloc (.map #[] 0)) w.heap.size n 0 (fun _ => .slice none 0 0) := ⟨.map [], World.ownsMap_made w _ _ _, fun j hj => rfl⟩
end
end Go.Proofs.Ytiajkhlcmblfpaa
