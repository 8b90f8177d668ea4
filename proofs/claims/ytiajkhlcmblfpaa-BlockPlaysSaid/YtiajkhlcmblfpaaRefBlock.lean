
/-
  The document's device, function by function; what it answers, in plain words.
-/
import Derived.Test.YtiajkhlcmblfpaaDevW
import Derived.WalkKit
import Derived.BigRegion
import Derived.BigQuiet
import Derived.Test.YtiajkhlcmblfpaaTail
namespace Go.Proofs.Ytiajkhlcmblfpaa
open Go Go.RowKit
set_option linter.unusedVariables false
set_option linter.unusedSimpArgs false

theorem row_succ {W : World} {base : Nat} {e : TypeId} {size : Nat} {v : Value} {k : Nat} {xs : List Value} (h : W.ownsRow base e size v (k + 1) xs) : ∃ g cap, v = .slice (some ⟨g, 0, none⟩) (k + 1) cap := by
  rcases h.2 with ⟨_, h0⟩ | ⟨g, cap, _, rfl, _⟩
  · omega
  · exact ⟨g, cap, rfl⟩
theorem results_ctt {P : Program} {fn : Func} {p : Tmp} {ty : TypeId} {d : TypeDesc} {w : World} {tmps : Array Value} {g : Nat} {t t2 : Tmp} (vs : List Value) (v v2 : Value) (h : fn.results = #[.cell p ty, .tmp t, .tmp t2]) (hp : tmps.getD p undef = .pointer (some ⟨g, 0, none⟩)) (ht : tmps.getD t undef = v) (ht2 : tmps.getD t2 undef = v2) (hc : cellsAre w g 0 vs)
    (hu : P.underlying ty = some d) (hd : (match d with | .struct _ | .array _ _ => true | _ => false) = true) (hi : (P.info? ty).map (·.size) = some vs.length) :
    (results fn tmps).run P w = .ok (.tuple #[.agg vs.toArray, v, v2]) w := by
  have hp' : tmps[p]?.getD undef = .pointer (some ⟨g, 0, none⟩) := by simpa using hp
  have ht' : tmps[t]?.getD undef = v := by simpa using ht
  have ht2' : tmps[t2]?.getD undef = v2 := by simpa using ht2
  simp [results, h, hp', ht', ht2', asAddr, loadVar_are hc hu hd hi]
/-- What a write does: the error; how many calls are to fail; the blocks. -/
def stepW (n : Nat) (lf : Int) (f : Nat → ByteArray) (k : Int) (s : ByteArray) : Int × Int × (Nat → ByteArray) :=
  if k < 0 ∨ (n : Int) ≤ k ∨ s.size ≠ 4096 then (2, lf, f) else if 0 < lf then (17, lf - 1, f) else (0, lf, fun i => if i = k.toNat then s else f i)
/-- What a read does: the error; how many calls are to fail; what is told. -/
def stepR (n : Nat) (lf : Int) (f : Nat → ByteArray) (k : Int) : Int × Int × ByteArray :=
  if k < 0 ∨ (n : Int) ≤ k then (2, lf, ⟨#[]⟩) else if 0 < lf then (17, lf - 1, ⟨#[]⟩) else (0, lf, f k.toNat)
/-- The blocks, as cells. -/
def strV (n : Nat) (f : Nat → ByteArray) : List Value := (List.range n).map fun i => .string (f i)
theorem strV_len (n : Nat) (f : Nat → ByteArray) : (strV n f).length = n := by unfold strV; simp
theorem strV_at (n : Nat) (f : Nat → ByteArray) (k : Nat) (h : k < n) : (strV n f)[k]? = some (.string (f k)) := by
  unfold strV
  rw [List.getElem?_map, List.getElem?_range h]
  rfl
theorem strV_succ (n : Nat) (f : Nat → ByteArray) : strV n f ++ [.string (f n)] = strV (n + 1) f := by
  unfold strV
  rw [List.range_succ, List.map_append]
  rfl
theorem strV_set (n : Nat) (f : Nat → ByteArray) (k : Nat) (s : ByteArray) : (strV n f).set k (.string s) = strV n (fun i => if i = k then s else f i) := by
  apply List.ext_getElem?
  intro j
  rw [List.getElem?_set, strV_len]
  by_cases c : j < n
  · rw [strV_at n f j c, strV_at n (fun i => if i = k then s else f i) j c]
    by_cases e : k = j
    · subst e; simp [c]
    · rw [if_neg e]
      have : ¬ j = k := fun h => e h.symm
      simp [this]
  · rw [List.getElem?_eq_none (by rw [strV_len]; omega), List.getElem?_eq_none (by rw [strV_len]; omega)]
    by_cases e : k = j
    · subst e; simp [c]
    · simp [e]
theorem info_string : (Try.prog.info? 9).map (fun i => (i.zero, i.size, i.bytes)) = some (some (.string ⟨#[]⟩), 1, 16) := by kernel_rfl
/-- The document's blocks: a row of their own. -/
def RowB (w : World) (n₀ g cap n : Nat) (f : Nat → ByteArray) : Prop := w.ownsRow n₀ 9 1 (.slice (some ⟨g, 0, none⟩) n cap) n (strV n f)
section
variable {w : World} {n₀ g cap n : Nat} {f : Nat → ByteArray}
theorem RowB.below {w' : World} (h : RowB w n₀ g cap n f) (hb : Below w.heap.size w w') : RowB w' n₀ g cap n f := owns_below h hb
theorem RowB.grown {w' : World} (h : RowB w n₀ g cap n f) {row : Nat} (hg : w.grownBy w' (some row)) (hr : row < n₀) : RowB w' n₀ g cap n f :=
  h.kept hg (.inr (by intro e; have := (h.lt g rfl).1; simp [Value.ownBlock] at e; omega))
theorem RowB.lower {n₁ : Nat} (h : RowB w n₀ g cap n f) (hn : n₁ ≤ n₀) : RowB w n₁ g cap n f := by
  refine ⟨h.1, ?_⟩
  rcases h.2 with a | ⟨g', cap', cur, a, b, r⟩
  · exact .inl a
  · exact .inr ⟨g', cap', cur, a, Nat.le_trans hn b, r⟩
end
set_option maxHeartbeats 4000000 in
theorem rbnew_bad (n : Int) (h : n < 1 ∨ 64 < n) (w : World) : Calls Try.prog 11 #[.int .i64 n] w fun r w' => r = .returned (.tuple #[.agg #[.slice none 0 0, .int .i64 0], .int .i64 2]) ∧ Below w.heap.size w w' := by
  by_cases c : n < 1
  · have d1 : decide (n < 1) = true := decide_eq_true c
    go_enter Try.func11, Try.ntmps11
    go_wp2_with fail
    refine bodyPost_ret (results_ct [.slice none 0 0, .int .i64 0] (.int .i64 2) Try.results11 rfl rfl ?_ Try.underlying38 rfl (by kernel_rfl)) rfl ?_
    · (first | (go_simp; done) | (go_simp; (simp [↓IntWalk.iteOmega]; done)) | (go_simp; intros; omega) | (go_simp; simp [↓IntWalk.iteOmega]; intros; omega))
    · exact ⟨rfl, by (repeat (first | with_reducible exact Below.refl _ _ | with_reducible assumption | with_reducible refine below_drewN ?_ _ | with_reducible refine Below.drew ?_ | with_reducible refine below_alloc ?_ _ | (with_reducible refine Below.setCell ?_ (by first | (simp; done) | omega | (simp; omega)) _) | with_reducible refine belows ?_ (by assumption)))⟩
  · have d1 : decide (n < 1) = false := decide_eq_false c
    have d2 : decide (64 < n) = true := decide_eq_true (by omega)
    go_enter Try.func11, Try.ntmps11
    go_wp2_with fail
    refine bodyPost_ret (results_ct [.slice none 0 0, .int .i64 0] (.int .i64 2) Try.results11 rfl rfl ?_ Try.underlying38 rfl (by kernel_rfl)) rfl ?_
    · (first | (go_simp; done) | (go_simp; (simp [↓IntWalk.iteOmega]; done)) | (go_simp; intros; omega) | (go_simp; simp [↓IntWalk.iteOmega]; intros; omega))
    · exact ⟨rfl, by (repeat (first | with_reducible exact Below.refl _ _ | with_reducible assumption | with_reducible refine below_drewN ?_ _ | with_reducible refine Below.drew ?_ | with_reducible refine below_alloc ?_ _ | (with_reducible refine Below.setCell ?_ (by first | (simp; done) | omega | (simp; omega)) _) | with_reducible refine belows ?_ (by assumption)))⟩
theorem zero_succ (k : Nat) : zeroSN k ++ ⟨#[0]⟩ = zeroSN (k + 1) := by
  unfold zeroSN
  apply ByteArray.ext
  rw [ByteArray.data_append]
  apply Array.ext'
  simp [List.replicate_succ']
theorem zero_nil : zeroSN 0 = ⟨#[]⟩ := by unfold zeroSN; simp
set_option maxHeartbeats 8000000 in
set_option maxRecDepth 100000 in
theorem rbnew_good (n : Nat) (h1 : 0 < n) (h2 : n ≤ 64) (w : World) : Calls Try.prog 11 #[.int .i64 (n : Int)] w fun r w' => ∃ g cap, r = .returned (.tuple #[.agg #[.slice (some ⟨g, 0, none⟩) n cap, .int .i64 0], .int .i64 0]) ∧ Below w.heap.size w w' ∧ RowB w' w.heap.size g cap n (fun _ => zeroS) := by
  obtain ⟨i0, hi0, hz0, hz1, hz2⟩ := info_parts info_string
  have d1 : decide ((n : Int) < 1) = false := decide_eq_false (by omega)
  have d2 : decide (64 < (n : Int)) = false := decide_eq_false (by omega)
  have hb0 : Below w.heap.size w (w.alloc (.cells #[.slice none 0 0, .int .i64 0] 38)) := (Below.refl _ w).alloc (Nat.le_refl _) _
  go_enter Try.func11, Try.ntmps11
  go_wp2_with fail
  go_loop [4, 5] (fun z x => ∃ k : Nat, x = .int .i64 (k : Int) ∧ k ≤ 4096 ∧ z = .string (zeroSN k)) (fun _ x => 4096 - (intOf x).toNat)
  case atStart => exact ⟨0, rfl, by omega, by rw [zero_nil]⟩
  case round =>
    obtain ⟨k, rfl, hk, rfl⟩ := hrel
    by_cases c : k < 4096
    · have hz := zero_succ k
      have hs := zeroSN_size k
      go_wp2_with fail
      go_round
      case rel => exact ⟨k + 1, by go_num, by omega, by first | rw [hz] | rfl⟩
      case measure => (simp [intOf]; omega)
    · obtain rfl : k = 4096 := by omega
      rw [show zeroSN 4096 = zeroS from by unfold zeroS; rfl]
      obtain ⟨Z, hZ⟩ : ∃ Z, Z = zeroS := ⟨_, rfl⟩
      rw [← hZ]
      have HZ := Lib.hid hZ
      clear hZ
      go_wp2_with fail
      go_loopw [7] (fun x wr => ∃ (k : Nat) (a : Option Addr) (cp : Nat), x = .int .i64 (k : Int) ∧ k ≤ n ∧ wr.cell? ⟨w.heap.size + 1, 0, none⟩ = some (.slice a k cp) ∧ wr.frozen? ⟨w.heap.size + 1, 0, none⟩ = false ∧ wr.cell? ⟨w.heap.size + 1, 1, none⟩ = some (.int .i64 0) ∧ w.heap.size + 1 < wr.heap.size ∧ Hid (Below w.heap.size w wr ∧ wr.ownsRow (w.heap.size + 2) 9 1 (.slice a k cp) k (strV k fun _ => Z) ∧ wr.cell? ⟨w.heap.size, 0, none⟩ = some (.slice none 0 0) ∧ wr.frozen? ⟨w.heap.size, 0, none⟩ = false ∧ wr.cell? ⟨w.heap.size, 1, none⟩ = some (.int .i64 0) ∧ wr.frozen? ⟨w.heap.size, 1, none⟩ = false)) (fun x _ => n - (intOf x).toNat)
      case atStart => exact ⟨0, none, 0, rfl, by omega, by (first | (go_simp; done) | (go_simp; (simp [↓IntWalk.iteOmega]; done)) | (go_simp; intros; omega) | (go_simp; simp [↓IntWalk.iteOmega]; intros; omega)), by (first | (go_simp; done) | (go_simp; (simp [↓IntWalk.iteOmega]; done)) | (go_simp; intros; omega) | (go_simp; simp [↓IntWalk.iteOmega]; intros; omega)), by (first | (go_simp; done) | (go_simp; (simp [↓IntWalk.iteOmega]; done)) | (go_simp; intros; omega) | (go_simp; simp [↓IntWalk.iteOmega]; intros; omega)), by simp, Lib.hid ⟨by (repeat (first | with_reducible exact Below.refl _ _ | with_reducible assumption | with_reducible refine below_drewN ?_ _ | with_reducible refine Below.drew ?_ | with_reducible refine below_alloc ?_ _ | (with_reducible refine Below.setCell ?_ (by first | (simp; done) | omega | (simp; omega)) _) | with_reducible refine belows ?_ (by assumption))), World.ownsRow_nil _ _ _ _, by (first | (go_simp; done) | (go_simp; (simp [↓IntWalk.iteOmega]; done)) | (go_simp; intros; omega) | (go_simp; simp [↓IntWalk.iteOmega]; intros; omega)), by (first | (go_simp; done) | (go_simp; (simp [↓IntWalk.iteOmega]; done)) | (go_simp; intros; omega) | (go_simp; simp [↓IntWalk.iteOmega]; intros; omega)), by (first | (go_simp; done) | (go_simp; (simp [↓IntWalk.iteOmega]; done)) | (go_simp; intros; omega) | (go_simp; simp [↓IntWalk.iteOmega]; intros; omega)), by (first | (go_simp; done) | (go_simp; (simp [↓IntWalk.iteOmega]; done)) | (go_simp; intros; omega) | (go_simp; simp [↓IntWalk.iteOmega]; intros; omega))⟩⟩
      case round =>
        obtain ⟨k, a, cp, rfl, hk, x0, f0, x1, hsz, HO⟩ := hrel
        by_cases c : k < n
        · have hown := HO.out.2.1
          have hfar : ∀ o : Nat, some (⟨w.heap.size + 1, o, none⟩ : Addr).block ≠ (Value.slice a k cp).ownBlock := fun o e => by
            have hl : w.heap.size + 2 ≤ w.heap.size + 1 := (hown.lt _ e.symm).1
            omega
          go_wp2_with (at_builtin; go_loud (refine wpList_append_own _ rfl _ _ 36 rfl (w.heap.size + 2) 9 i0 (.string ⟨#[]⟩) 1 16 Try.underlying36 hi0 hz0 hz1 hz2 rfl (by decide) _ k _ rfl (hown.alloc _) ⟨wr.heap.size, 0, none⟩ 1 1 [.string Z] rfl rfl (cell_one_new _ _ _) (by simp [Value.oneCell']) (by unfold maxLen; omega) (by omega) (by simp; omega) ?_; intro v' w1 hown' hgrow _; obtain ⟨g', cap', rfl⟩ := row_succ hown'; have z0 := (hgrow.cell_far (a := ⟨w.heap.size + 1, 0, none⟩) (by show w.heap.size + 1 < _; simp; omega) (hfar _)).trans ((World.cell?_of_block (heap_alloc_old wr _ hsz)).trans x0); have z1 := (hgrow.cell_far (a := ⟨w.heap.size + 1, 1, none⟩) (by show w.heap.size + 1 < _; simp; omega) (hfar _)).trans ((World.cell?_of_block (heap_alloc_old wr _ hsz)).trans x1); have zf := (hgrow.frozen_far (a := ⟨w.heap.size + 1, 0, none⟩) (by show w.heap.size + 1 < _; simp; omega) (hfar _)).trans ((World.frozen?_of_block (heap_alloc_old wr _ hsz)).trans f0)))
          have hb1 : Below w.heap.size w w1 := (HO.out.1.alloc (by omega) _).grown hgrow (by simp; omega) (fun j h => by have := (hown.lt j h).1; omega)
          have hs1 := hgrow.size
          simp only [World.size_alloc] at hs1
          obtain ⟨-, -, y0, yf0, y1, yf1⟩ := HO.out
          have hfar2 : ∀ o : Nat, some (⟨w.heap.size, o, none⟩ : Addr).block ≠ (Value.slice a k cp).ownBlock := fun o e => by
            have hl : w.heap.size + 2 ≤ w.heap.size := (hown.lt _ e.symm).1
            omega
          have q0 := (hgrow.cell_far (a := ⟨w.heap.size, 0, none⟩) (by show w.heap.size < _; simp; omega) (hfar2 _)).trans ((World.cell?_of_block (heap_alloc_old wr _ (show w.heap.size < wr.heap.size by omega))).trans y0)
          have q1 := (hgrow.cell_far (a := ⟨w.heap.size, 1, none⟩) (by show w.heap.size < _; simp; omega) (hfar2 _)).trans ((World.cell?_of_block (heap_alloc_old wr _ (show w.heap.size < wr.heap.size by omega))).trans y1)
          have p0 := (hgrow.frozen_far (a := ⟨w.heap.size, 0, none⟩) (by show w.heap.size < _; simp; omega) (hfar2 _)).trans ((World.frozen?_of_block (heap_alloc_old wr _ (show w.heap.size < wr.heap.size by omega))).trans yf0)
          have p1 := (hgrow.frozen_far (a := ⟨w.heap.size, 1, none⟩) (by show w.heap.size < _; simp; omega) (hfar2 _)).trans ((World.frozen?_of_block (heap_alloc_old wr _ (show w.heap.size < wr.heap.size by omega))).trans yf1)
          have hown3 := ownsRow_setCell_below hown' (a := ⟨w.heap.size + 1, 0, none⟩) (by show w.heap.size + 1 < _; omega) (.slice (some ⟨g', 0, none⟩) (k + 1) cap')
          have hne : w.heap.size ≠ w.heap.size + 1 := by omega
          clear hown hown' hgrow hfar hfar2 HO
          go_roundw
          case rel => exact ⟨k + 1, some ⟨g', 0, none⟩, cap', by go_num, by omega, by (first | (go_simp; done) | (go_simp; (simp [↓IntWalk.iteOmega]; done)) | (go_simp; intros; omega) | (go_simp; simp [↓IntWalk.iteOmega]; intros; omega)), by (first | (go_simp; done) | (go_simp; (simp [↓IntWalk.iteOmega]; done)) | (go_simp; intros; omega) | (go_simp; simp [↓IntWalk.iteOmega]; intros; omega)), by (first | (go_simp; done) | (go_simp; (simp [↓IntWalk.iteOmega]; done)) | (go_simp; intros; omega) | (go_simp; simp [↓IntWalk.iteOmega]; intros; omega)), by simp; omega, Lib.hid ⟨hb1.setCell (by simp) _, by rw [← strV_succ]; exact hown3, by (first | (go_simp; done) | (go_simp; (simp [↓IntWalk.iteOmega]; done)) | (go_simp; intros; omega) | (go_simp; simp [↓IntWalk.iteOmega]; intros; omega)), by (first | (go_simp; done) | (go_simp; (simp [↓IntWalk.iteOmega]; done)) | (go_simp; intros; omega) | (go_simp; simp [↓IntWalk.iteOmega]; intros; omega)), by (first | (go_simp; done) | (go_simp; (simp [↓IntWalk.iteOmega]; done)) | (go_simp; intros; omega) | (go_simp; simp [↓IntWalk.iteOmega]; intros; omega)), by (first | (go_simp; done) | (go_simp; (simp [↓IntWalk.iteOmega]; done)) | (go_simp; intros; omega) | (go_simp; simp [↓IntWalk.iteOmega]; intros; omega))⟩⟩
          case measure => (simp [intOf]; omega)
        · obtain rfl : k = n := by omega
          obtain ⟨hbw, hown, y0, yf0, y1, yf1⟩ := HO.out
          obtain ⟨m, hm⟩ : ∃ m, k = m + 1 := ⟨k - 1, by omega⟩
          have hown2 := hown
          rw [hm] at hown2
          obtain ⟨g', cap', e⟩ := row_succ hown2
          rw [← hm] at e
          cases e
          have hne : w.heap.size ≠ w.heap.size + 1 := by omega
          have HW := Lib.hid (And.intro hbw hown)
          clear hm hown2 hown HO hbw
          go_wp2_with fail
          refine bodyPost_ret (results_ct [.slice (some ⟨g', 0, none⟩) k cp, .int .i64 0] (.int .i64 0) Try.results11 rfl rfl ?_ Try.underlying38 rfl (by kernel_rfl)) rfl ?_
          · (first | (go_simp; done) | (go_simp; (simp [↓IntWalk.iteOmega]; done)) | (go_simp; intros; omega) | (go_simp; simp [↓IntWalk.iteOmega]; intros; omega))
          · refine ⟨g', cp, rfl, ?_, ?_⟩
            · exact ((HW.out.1.setCell (Nat.le_refl _) _).setCell (Nat.le_refl _) _)
            · rw [← HZ.out]
              exact RowB.lower (ownsRow_setCell_below (ownsRow_setCell_below HW.out.2 (a := ⟨w.heap.size, 0, none⟩) (by show w.heap.size < _; omega) _) (a := ⟨w.heap.size, 1, none⟩) (by show w.heap.size < _; omega) _) (by omega)
section
variable {w : World} {n₀ g cap n : Nat} {f : Nat → ByteArray} {lf : Int}
theorem rfailed_no (a : Option Addr) (n cap : Nat) (lf : Int) (h : lf ≤ 0) (w : World) : Calls Try.prog 18 #[.agg #[.slice a n cap, .int .i64 lf]] w fun r w' => r = .returned (.tuple #[.agg #[.slice a n cap, .int .i64 lf], .bool false]) ∧ Below w.heap.size w w' := by
  have d : decide (lf < 1) = true := decide_eq_true (by omega)
  go_enter Try.func18, Try.ntmps18
  go_wp2_with fail
  refine bodyPost_ret (results_ct [.slice a n cap, .int .i64 lf] (.bool false) Try.results18 rfl rfl ?_ Try.underlying38 rfl (by kernel_rfl)) rfl ?_
  · (first | (go_simp; done) | (go_simp; (simp [↓IntWalk.iteOmega]; done)) | (go_simp; intros; omega) | (go_simp; simp [↓IntWalk.iteOmega]; intros; omega))
  · exact ⟨rfl, by (repeat (first | with_reducible exact Below.refl _ _ | with_reducible assumption | with_reducible refine below_drewN ?_ _ | with_reducible refine Below.drew ?_ | with_reducible refine below_alloc ?_ _ | (with_reducible refine Below.setCell ?_ (by first | (simp; done) | omega | (simp; omega)) _) | with_reducible refine belows ?_ (by assumption)))⟩
theorem rfailed_yes (a : Option Addr) (n cap : Nat) (lf : Int) (h : 0 < lf) (h2 : lf ≤ 9223372036854775807) (w : World) : Calls Try.prog 18 #[.agg #[.slice a n cap, .int .i64 lf]] w fun r w' => r = .returned (.tuple #[.agg #[.slice a n cap, .int .i64 (lf - 1)], .bool true]) ∧ Below w.heap.size w w' := by
  have d : decide (lf < 1) = false := decide_eq_false (by omega)
  go_enter Try.func18, Try.ntmps18
  go_wp2_with fail
  refine bodyPost_ret (results_ct [.slice a n cap, .int .i64 (lf - 1)] (.bool true) Try.results18 rfl rfl ?_ Try.underlying38 rfl (by kernel_rfl)) rfl ?_
  · (first | (go_simp; done) | (go_simp; (simp [↓IntWalk.iteOmega]; done)) | (go_simp; intros; omega) | (go_simp; simp [↓IntWalk.iteOmega]; intros; omega))
  · exact ⟨rfl, by (repeat (first | with_reducible exact Below.refl _ _ | with_reducible assumption | with_reducible refine below_drewN ?_ _ | with_reducible refine Below.drew ?_ | with_reducible refine below_alloc ?_ _ | (with_reducible refine Below.setCell ?_ (by first | (simp; done) | omega | (simp; omega)) _) | with_reducible refine belows ?_ (by assumption)))⟩
theorem rbwrite_arg (hn : n ≤ 64) (k : Int) (s : ByteArray) (hk : k < 0 ∨ (n : Int) ≤ k ∨ s.size ≠ 4096) (w : World) : Calls Try.prog 13 #[.agg #[.slice (some ⟨g, 0, none⟩) n cap, .int .i64 lf], .int .i64 k, .string s] w fun r w' => r = .returned (.tuple #[.agg #[.slice (some ⟨g, 0, none⟩) n cap, .int .i64 lf], .int .i64 2]) ∧ Below w.heap.size w w' := by
  by_cases d : k < 0
  · have d0 : decide (k < 0) = true := decide_eq_true d
    clear hk
    go_enter Try.func13, Try.ntmps13
    go_wp2_with fail
    refine bodyPost_ret (results_ct [.slice (some ⟨g, 0, none⟩) n cap, .int .i64 lf] (.int .i64 2) Try.results13 rfl rfl ?_ Try.underlying38 rfl (by kernel_rfl)) rfl ?_
    · (first | (go_simp; done) | (go_simp; (simp [↓IntWalk.iteOmega]; done)) | (go_simp; intros; omega) | (go_simp; simp [↓IntWalk.iteOmega]; intros; omega))
    · exact ⟨rfl, by (repeat (first | with_reducible exact Below.refl _ _ | with_reducible assumption | with_reducible refine below_drewN ?_ _ | with_reducible refine Below.drew ?_ | with_reducible refine below_alloc ?_ _ | (with_reducible refine Below.setCell ?_ (by first | (simp; done) | omega | (simp; omega)) _) | with_reducible refine belows ?_ (by assumption)))⟩
  · have d0 : decide (k < 0) = false := decide_eq_false d
    by_cases e : (n : Int) ≤ k
    · have d1 : decide ((n : Int) ≤ k) = true := decide_eq_true e
      clear hk
      go_enter Try.func13, Try.ntmps13
      go_wp2_with fail
      refine bodyPost_ret (results_ct [.slice (some ⟨g, 0, none⟩) n cap, .int .i64 lf] (.int .i64 2) Try.results13 rfl rfl ?_ Try.underlying38 rfl (by kernel_rfl)) rfl ?_
      · (first | (go_simp; done) | (go_simp; (simp [↓IntWalk.iteOmega]; done)) | (go_simp; intros; omega) | (go_simp; simp [↓IntWalk.iteOmega]; intros; omega))
      · exact ⟨rfl, by (repeat (first | with_reducible exact Below.refl _ _ | with_reducible assumption | with_reducible refine below_drewN ?_ _ | with_reducible refine Below.drew ?_ | with_reducible refine below_alloc ?_ _ | (with_reducible refine Below.setCell ?_ (by first | (simp; done) | omega | (simp; omega)) _) | with_reducible refine belows ?_ (by assumption)))⟩
    · have d1 : decide ((n : Int) ≤ k) = false := decide_eq_false e
      have hs : ((s.size : Int) != 4096) = true := by rw [bne_iff_ne]; omega
      clear hk
      go_enter Try.func13, Try.ntmps13
      go_wp2_with fail
      refine bodyPost_ret (results_ct [.slice (some ⟨g, 0, none⟩) n cap, .int .i64 lf] (.int .i64 2) Try.results13 rfl rfl ?_ Try.underlying38 rfl (by kernel_rfl)) rfl ?_
      · (first | (go_simp; done) | (go_simp; (simp [↓IntWalk.iteOmega]; done)) | (go_simp; intros; omega) | (go_simp; simp [↓IntWalk.iteOmega]; intros; omega))
      · exact ⟨rfl, by (repeat (first | with_reducible exact Below.refl _ _ | with_reducible assumption | with_reducible refine below_drewN ?_ _ | with_reducible refine Below.drew ?_ | with_reducible refine below_alloc ?_ _ | (with_reducible refine Below.setCell ?_ (by first | (simp; done) | omega | (simp; omega)) _) | with_reducible refine belows ?_ (by assumption)))⟩
theorem rbwrite_fail (hn : n ≤ 64) (k : Nat) (hk : k < n) (s : ByteArray) (hs : s.size = 4096) (h : 0 < lf) (h2 : lf ≤ 9223372036854775807) (w : World) : Calls Try.prog 13 #[.agg #[.slice (some ⟨g, 0, none⟩) n cap, .int .i64 lf], .int .i64 (k : Int), .string s] w fun r w' => r = .returned (.tuple #[.agg #[.slice (some ⟨g, 0, none⟩) n cap, .int .i64 (lf - 1)], .int .i64 17]) ∧ Below w.heap.size w w' := by
  have d0 : decide ((k : Int) < 0) = false := decide_eq_false (by omega)
  have d1 : decide (n ≤ k) = false := decide_eq_false (by omega)
  have hs1 : ((s.size : Int) != 4096) = false := by rw [hs]; rfl
  have cf := fun w => rfailed_yes (some ⟨g, 0, none⟩) n cap lf h h2 w
  clear h h2
  go_enter Try.func13, Try.ntmps13
  go_wp2_with (first | (go_at_call 18; (with_reducible refine (cf _).mono ?_); rintro e w' ⟨rfl, hbl⟩; obtain ⟨hcw, hfw, hsw⟩ := below_ifs hbl; (try simp only [World.size_alloc, World.size_setCell, World.size_drew, size_drewN_] at hcw hfw hsw)))
  refine bodyPost_ret (results_ct [.slice (some ⟨g, 0, none⟩) n cap, .int .i64 (lf - 1)] (.int .i64 17) Try.results13 rfl rfl ?_ Try.underlying38 rfl (by kernel_rfl)) rfl ?_
  · (first | (go_simp; done) | (go_simp; (simp [↓IntWalk.iteOmega]; done)) | (go_simp; intros; omega) | (go_simp; simp [↓IntWalk.iteOmega]; intros; omega))
  · exact ⟨rfl, by (repeat (first | with_reducible exact Below.refl _ _ | with_reducible assumption | with_reducible refine below_drewN ?_ _ | with_reducible refine Below.drew ?_ | with_reducible refine below_alloc ?_ _ | (with_reducible refine Below.setCell ?_ (by first | (simp; done) | omega | (simp; omega)) _) | with_reducible refine belows ?_ (by assumption)))⟩
theorem rbread_arg (hn : n ≤ 64) (k : Int) (hk : k < 0 ∨ (n : Int) ≤ k) (w : World) : Calls Try.prog 14 #[.agg #[.slice (some ⟨g, 0, none⟩) n cap, .int .i64 lf], .int .i64 k] w fun r w' => r = .returned (.tuple #[.agg #[.slice (some ⟨g, 0, none⟩) n cap, .int .i64 lf], .string ⟨#[]⟩, .int .i64 2]) ∧ Below w.heap.size w w' := by
  by_cases d : k < 0
  · have d0 : decide (k < 0) = true := decide_eq_true d
    clear hk
    go_enter Try.func14, Try.ntmps14
    go_wp2_with fail
    refine bodyPost_ret (results_ctt [.slice (some ⟨g, 0, none⟩) n cap, .int .i64 lf] (.string ⟨#[]⟩) (.int .i64 2) Try.results14 rfl rfl rfl ?_ Try.underlying38 rfl (by kernel_rfl)) rfl ?_
    · (first | (go_simp; done) | (go_simp; (simp [↓IntWalk.iteOmega]; done)) | (go_simp; intros; omega) | (go_simp; simp [↓IntWalk.iteOmega]; intros; omega))
    · exact ⟨rfl, by (repeat (first | with_reducible exact Below.refl _ _ | with_reducible assumption | with_reducible refine below_drewN ?_ _ | with_reducible refine Below.drew ?_ | with_reducible refine below_alloc ?_ _ | (with_reducible refine Below.setCell ?_ (by first | (simp; done) | omega | (simp; omega)) _) | with_reducible refine belows ?_ (by assumption)))⟩
  · have d0 : decide (k < 0) = false := decide_eq_false d
    have d1 : decide ((n : Int) ≤ k) = true := decide_eq_true (by omega)
    clear hk
    go_enter Try.func14, Try.ntmps14
    go_wp2_with fail
    refine bodyPost_ret (results_ctt [.slice (some ⟨g, 0, none⟩) n cap, .int .i64 lf] (.string ⟨#[]⟩) (.int .i64 2) Try.results14 rfl rfl rfl ?_ Try.underlying38 rfl (by kernel_rfl)) rfl ?_
    · (first | (go_simp; done) | (go_simp; (simp [↓IntWalk.iteOmega]; done)) | (go_simp; intros; omega) | (go_simp; simp [↓IntWalk.iteOmega]; intros; omega))
    · exact ⟨rfl, by (repeat (first | with_reducible exact Below.refl _ _ | with_reducible assumption | with_reducible refine below_drewN ?_ _ | with_reducible refine Below.drew ?_ | with_reducible refine below_alloc ?_ _ | (with_reducible refine Below.setCell ?_ (by first | (simp; done) | omega | (simp; omega)) _) | with_reducible refine belows ?_ (by assumption)))⟩
theorem rbread_fail (hn : n ≤ 64) (k : Nat) (hk : k < n) (h : 0 < lf) (h2 : lf ≤ 9223372036854775807) (w : World) : Calls Try.prog 14 #[.agg #[.slice (some ⟨g, 0, none⟩) n cap, .int .i64 lf], .int .i64 (k : Int)] w fun r w' => r = .returned (.tuple #[.agg #[.slice (some ⟨g, 0, none⟩) n cap, .int .i64 (lf - 1)], .string ⟨#[]⟩, .int .i64 17]) ∧ Below w.heap.size w w' := by
  have d0 : decide ((k : Int) < 0) = false := decide_eq_false (by omega)
  have d1 : decide (n ≤ k) = false := decide_eq_false (by omega)
  have cf := fun w => rfailed_yes (some ⟨g, 0, none⟩) n cap lf h h2 w
  clear h h2
  go_enter Try.func14, Try.ntmps14
  go_wp2_with (first | (go_at_call 18; (with_reducible refine (cf _).mono ?_); rintro e w' ⟨rfl, hbl⟩; obtain ⟨hcw, hfw, hsw⟩ := below_ifs hbl; (try simp only [World.size_alloc, World.size_setCell, World.size_drew, size_drewN_] at hcw hfw hsw)))
  refine bodyPost_ret (results_ctt [.slice (some ⟨g, 0, none⟩) n cap, .int .i64 (lf - 1)] (.string ⟨#[]⟩) (.int .i64 17) Try.results14 rfl rfl rfl ?_ Try.underlying38 rfl (by kernel_rfl)) rfl ?_
  · (first | (go_simp; done) | (go_simp; (simp [↓IntWalk.iteOmega]; done)) | (go_simp; intros; omega) | (go_simp; simp [↓IntWalk.iteOmega]; intros; omega))
  · exact ⟨rfl, by (repeat (first | with_reducible exact Below.refl _ _ | with_reducible assumption | with_reducible refine below_drewN ?_ _ | with_reducible refine Below.drew ?_ | with_reducible refine below_alloc ?_ _ | (with_reducible refine Below.setCell ?_ (by first | (simp; done) | omega | (simp; omega)) _) | with_reducible refine belows ?_ (by assumption)))⟩
theorem rbread_ok (hown : RowB w n₀ g cap n f) (hn : n ≤ 64) (k : Nat) (hk : k < n) (h : lf ≤ 0) : Calls Try.prog 14 #[.agg #[.slice (some ⟨g, 0, none⟩) n cap, .int .i64 lf], .int .i64 (k : Int)] w fun r w' => r = .returned (.tuple #[.agg #[.slice (some ⟨g, 0, none⟩) n cap, .int .i64 lf], .string (f k), .int .i64 0]) ∧ Below w.heap.size w w' := by
  have d0 : decide ((k : Int) < 0) = false := decide_eq_false (by omega)
  have d1 : decide (n ≤ k) = false := decide_eq_false (by omega)
  have i0 : (0 : Int) ≤ (k : Int) := by omega
  have i1 : (k : Int) < (n : Int) := by omega
  have cf := fun w => rfailed_no (some ⟨g, 0, none⟩) n cap lf h w
  have hx := hown.cellAt k (by omega)
  rw [strV_at n f k hk] at hx
  have hg := (hown.lt g rfl).2
  clear h hown
  generalize f k = s at hx
  go_enter Try.func14, Try.ntmps14
  go_wp2_with (first | (go_at_call 18; (with_reducible refine (cf _).mono ?_); rintro e w' ⟨rfl, hbl⟩; obtain ⟨hcw, hfw, hsw⟩ := below_ifs hbl; (try simp only [World.size_alloc, World.size_setCell, World.size_drew, size_drewN_] at hcw hfw hsw)))
  go_region
  go_wp2_with fail
  refine bodyPost_ret (results_ctt [.slice (some ⟨g, 0, none⟩) n cap, .int .i64 lf] (.string s) (.int .i64 0) Try.results14 rfl rfl rfl ?_ Try.underlying38 rfl (by kernel_rfl)) rfl ?_
  · (first | (go_simp; done) | (go_simp; (simp [↓IntWalk.iteOmega]; done)) | (go_simp; intros; omega) | (go_simp; simp [↓IntWalk.iteOmega]; intros; omega))
  · exact ⟨rfl, by (repeat (first | with_reducible exact Below.refl _ _ | with_reducible assumption | with_reducible refine below_drewN ?_ _ | with_reducible refine Below.drew ?_ | with_reducible refine below_alloc ?_ _ | (with_reducible refine Below.setCell ?_ (by first | (simp; done) | omega | (simp; omega)) _) | with_reducible refine belows ?_ (by assumption)))⟩
set_option maxHeartbeats 8000000 in
set_option maxRecDepth 100000 in
theorem rbwrite_ok (hown : RowB w n₀ g cap n f) (h0 : 0 < n) (hn : n ≤ 64) (k : Nat) (hk : k < n) (s : ByteArray) (hs : s.size = 4096) (h : lf ≤ 0) : Calls Try.prog 13 #[.agg #[.slice (some ⟨g, 0, none⟩) n cap, .int .i64 lf], .int .i64 (k : Int), .string s] w fun r w' => ∃ g' cap', r = .returned (.tuple #[.agg #[.slice (some ⟨g', 0, none⟩) n cap', .int .i64 lf], .int .i64 0]) ∧ Below w.heap.size w w' ∧ RowB w' w.heap.size g' cap' n (fun i => if i = k then s else f i) := by
  obtain ⟨i0, hi0, hz0, hz1, hz2⟩ := info_parts info_string
  have d0 : decide ((k : Int) < 0) = false := decide_eq_false (by omega)
  have d1 : decide (n ≤ k) = false := decide_eq_false (by omega)
  have j0 : (0 : Int) ≤ (k : Int) := by omega
  have j1 : (k : Int) < (n : Int) := by omega
  have hs1 : ((s.size : Int) != 4096) = false := by rw [hs]; rfl
  have cf := fun w => rfailed_no (some ⟨g, 0, none⟩) n cap lf h w
  have hg := (hown.lt g rfl).2
  have HO := Lib.hid hown
  have HL : ∀ (W : World) (b : Nat), W.heap.size = b → w.heap.size + 2 ≤ b → (W.alloc (.cells #[] 9)).ownsRow (w.heap.size + 2) 9 1 (.slice (some ⟨b, 0, none⟩) 0 0) 0 [] := fun W b e h => by subst e; exact World.ownsRow_lit W #[] 0 h (by unfold maxLen; omega) rfl
  clear h hs hown
  go_enter Try.func13, Try.ntmps13
  go_wp2_with (first | (go_at_call 18; (with_reducible refine (cf _).mono ?_); rintro e w' ⟨rfl, hbl⟩; obtain ⟨hcw, hfw, hsw⟩ := below_ifs hbl; (try simp only [World.size_alloc, World.size_setCell, World.size_drew, size_drewN_] at hcw hfw hsw)) | (at_builtin; go_loud (refine wpList_append_own _ rfl _ _ 36 rfl (w.heap.size + 2) 9 i0 (.string ⟨#[]⟩) 1 16 Try.underlying36 hi0 hz0 hz1 hz2 rfl (by decide) _ 0 _ rfl (HL ((w'.setCell ⟨w.heap.size, 0, none⟩ (.slice (some ⟨g, 0, none⟩) n cap)).setCell ⟨w.heap.size, 1, none⟩ (.int .i64 lf)) w'.heap.size (by simp) (by omega)) ⟨g, 0, none⟩ n cap (strV n f) rfl (by rw [strV_len, Nat.mul_one]) ?c1 ?c2 (by unfold maxLen; omega) (by omega) (by first | omega | (simp; done) | (simp; omega)) ?_)))
  case c1 =>
    intro j u hj
    have hj2 : j < n := by
      by_cases c : j < n
      · exact c
      · rw [List.getElem?_eq_none (by rw [strV_len]; omega)] at hj; cases hj
    have := HO.out.cellAt j (by omega)
    rw [hj] at this
    refine Eq.trans ?_ this
    rw [add_off, Nat.zero_add]
    refine Below.cell (?_ : Below w.heap.size w _) (p := ⟨g, j, none⟩) hg
    (repeat (first | with_reducible exact Below.refl _ _ | with_reducible assumption | with_reducible refine below_drewN ?_ _ | with_reducible refine Below.drew ?_ | with_reducible refine below_alloc ?_ _ | (with_reducible refine Below.setCell ?_ (by first | (simp; done) | omega | (simp; omega)) _) | with_reducible refine belows ?_ (by assumption)))
  case c2 =>
    intro u hu
    obtain ⟨x, -, rfl⟩ := List.mem_map.1 hu
    rfl
  · intro v' w1 hown' hgrow _
    obtain ⟨m, hm⟩ : ∃ m, n = m + 1 := ⟨n - 1, by omega⟩
    have hown2 := hown'
    rw [hm] at hown2
    obtain ⟨g', cap', rfl⟩ := row_succ hown2
    rw [← hm] at hown' ⊢
    have HM := Lib.hid hm
    clear hown2 hm
    have hb1 : Below w.heap.size w w1 := Below.grown (by (repeat (first | with_reducible exact Below.refl _ _ | with_reducible assumption | with_reducible refine below_drewN ?_ _ | with_reducible refine Below.drew ?_ | with_reducible refine below_alloc ?_ _ | (with_reducible refine Below.setCell ?_ (by first | (simp; done) | omega | (simp; omega)) _) | with_reducible refine belows ?_ (by assumption)))) hgrow (by simp; omega) (fun j h => by cases h; show w.heap.size ≤ w'.heap.size; omega)
    have hsz := hgrow.size
    simp only [World.size_alloc, World.size_setCell] at hsz
    have hne : ∀ j o : Nat, j < 2 → some (⟨w.heap.size + j, o, none⟩ : Addr).block ≠ (Value.slice (some ⟨w'.heap.size, 0, none⟩) 0 0).ownBlock := fun j o hj e => by
      have : w.heap.size + j = w'.heap.size := by injection e
      omega
    have x0 := (hgrow.cell_far (a := ⟨w.heap.size, 0, none⟩) (by show w.heap.size < _; simp; omega) (hne 0 0 (by omega)))
    have x1 := (hgrow.cell_far (a := ⟨w.heap.size, 1, none⟩) (by show w.heap.size < _; simp; omega) (hne 0 1 (by omega)))
    have y0 := (hgrow.cell_far (a := ⟨w.heap.size + 1, 0, none⟩) (by show w.heap.size + 1 < _; simp; omega) (hne 1 0 (by omega)))
    have y1 := (hgrow.cell_far (a := ⟨w.heap.size + 1, 1, none⟩) (by show w.heap.size + 1 < _; simp; omega) (hne 1 1 (by omega)))
    have fx0 := (hgrow.frozen_far (a := ⟨w.heap.size, 0, none⟩) (by show w.heap.size < _; simp; omega) (hne 0 0 (by omega)))
    have fy0 := (hgrow.frozen_far (a := ⟨w.heap.size + 1, 0, none⟩) (by show w.heap.size + 1 < _; simp; omega) (hne 1 0 (by omega)))
    have fy1 := (hgrow.frozen_far (a := ⟨w.heap.size + 1, 1, none⟩) (by show w.heap.size + 1 < _; simp; omega) (hne 1 1 (by omega)))
    replace x0 : w1.cell? ⟨w.heap.size, 0, none⟩ = some (.slice (some ⟨g, 0, none⟩) n cap) := x0.trans (by (first | (go_simp; done) | (go_simp; (simp [↓IntWalk.iteOmega]; done)) | (go_simp; intros; omega) | (go_simp; simp [↓IntWalk.iteOmega]; intros; omega)))
    replace x1 : w1.cell? ⟨w.heap.size, 1, none⟩ = some (.int .i64 lf) := x1.trans (by (first | (go_simp; done) | (go_simp; (simp [↓IntWalk.iteOmega]; done)) | (go_simp; intros; omega) | (go_simp; simp [↓IntWalk.iteOmega]; intros; omega)))
    replace y0 : w1.cell? ⟨w.heap.size + 1, 0, none⟩ = some (.slice none 0 0) := y0.trans (by (first | (go_simp; done) | (go_simp; (simp [↓IntWalk.iteOmega]; done)) | (go_simp; intros; omega) | (go_simp; simp [↓IntWalk.iteOmega]; intros; omega)))
    replace y1 : w1.cell? ⟨w.heap.size + 1, 1, none⟩ = some (.int .i64 0) := y1.trans (by (first | (go_simp; done) | (go_simp; (simp [↓IntWalk.iteOmega]; done)) | (go_simp; intros; omega) | (go_simp; simp [↓IntWalk.iteOmega]; intros; omega)))
    replace fx0 : w1.frozen? ⟨w.heap.size, 0, none⟩ = false := fx0.trans (by (first | (go_simp; done) | (go_simp; (simp [↓IntWalk.iteOmega]; done)) | (go_simp; intros; omega) | (go_simp; simp [↓IntWalk.iteOmega]; intros; omega)))
    replace fy0 : w1.frozen? ⟨w.heap.size + 1, 0, none⟩ = false := fy0.trans (by (first | (go_simp; done) | (go_simp; (simp [↓IntWalk.iteOmega]; done)) | (go_simp; intros; omega) | (go_simp; simp [↓IntWalk.iteOmega]; intros; omega)))
    replace fy1 : w1.frozen? ⟨w.heap.size + 1, 1, none⟩ = false := fy1.trans (by (first | (go_simp; done) | (go_simp; (simp [↓IntWalk.iteOmega]; done)) | (go_simp; intros; omega) | (go_simp; simp [↓IntWalk.iteOmega]; intros; omega)))
    have z0 := hown'.cellAt k (by omega)
    rw [strV_at n f k hk] at z0
    have z1 := hown'.frozenAt k
    have HS := Lib.hid (And.intro (hown'.stored k (.string s)).1 (And.intro hb1 (hown'.lt g' rfl)))
    have hg1 := (hown'.lt g' rfl)
    have hn0 : w.heap.size ≠ g' := by have := hg1.1; omega
    have hn1 : w.heap.size + 1 ≠ g' := by have := hg1.1; omega
    generalize f k = fk at z0
    clear hown' hgrow hne HL HO hb1 hg1
    go_wp2_with fail
    refine bodyPost_ret (results_ct [.slice (some ⟨g', 0, none⟩) n cap', .int .i64 lf] (.int .i64 0) Try.results13 rfl rfl ?_ Try.underlying38 rfl (by kernel_rfl)) rfl ?_
    · (first | (go_simp; done) | (go_simp; (simp [↓IntWalk.iteOmega]; done)) | (go_simp; intros; omega) | (go_simp; simp [↓IntWalk.iteOmega]; intros; omega))
    · obtain ⟨ho, hb1, hl1, hl2⟩ := HS.out
      rw [strV_set] at ho
      refine ⟨g', cap', rfl, ?_, RowB.lower (ownsRow_setCell_below (ownsRow_setCell_below (ownsRow_setCell_below ho (a := ⟨w.heap.size, 0, none⟩) (by show w.heap.size < _; omega) _) (a := ⟨w.heap.size + 1, 0, none⟩) (by show w.heap.size + 1 < _; omega) _) (a := ⟨w.heap.size + 1, 1, none⟩) (by show w.heap.size + 1 < _; omega) _) (by omega)⟩
      exact (((hb1.setCell (by show w.heap.size ≤ g'; omega) _).setCell (by simp) _).setCell (by simp) _).setCell (by simp) _
end
end Go.Proofs.Ytiajkhlcmblfpaa
