
/-
  slices.Collect over scale.Ones; the document's Ones; whoever goes over them may end.
-/
import Derived.Test.YtbjffaiokljbdaaOnes
import Derived.Test.YtbjffaiokljbdaaCells
import Derived.Maps.AppendAt
namespace Go.Proofs.Ytbjffaiokljbdaa
open Go Go.RowKit Go.Shelf
set_option linter.unusedVariables false
set_option linter.unusedSimpArgs false

attribute [local go_sem] Oper.semAt_some
theorem info_int : (Try.prog.info? 3).map (fun i => (i.zero, i.size, i.bytes)) = some (some (.int .i64 0), 1, 8) := by kernel_rfl
def valsN (l : List Nat) : List Value := l.map fun n : Nat => Value.int .i64 (n : Int)
theorem valsN_snoc (l : List Nat) (n : Nat) : valsN l ++ [.int .i64 (n : Int)] = valsN (l ++ [n]) := by unfold valsN; rw [List.map_append]; rfl
set_option maxRecDepth 100000 in
set_option maxHeartbeats 4000000 in
theorem append_in (F : Fence) (n : Nat) (h1 : F.fn 25) (h2 : F.fn 24) (hro : F.round = none) (hn : 3 ≤ n) (x : BitVec 64) (Bs : Nat) (w : World) (hBs : Bs < w.heap.size) (hcx : w.cell? ⟨Bs, 0, none⟩ = some (.int .u64 (U x))) :
    CallsIn F n Try.prog 25 #[.slice none 0 0, .func (.func 24) #[] #[.pointer (some ⟨Bs, 0, none⟩)]] w fun e W' => ∃ v, e = .returned v ∧ Below w.heap.size w W' ∧ W'.ownsRow w.heap.size 3 1 v (onesTo x 64).length (valsN (onesTo x 64)) := by
  have hn1 : 1 ≤ n := by omega
  obtain ⟨i0, hi0, hz0, hz1, hz2⟩ := info_parts info_int
  refine callsIn_of_wp_marks Try.func25 rfl h1 ?_ hro
  simp only [Try.ntmps25, List.size_toArray, List.length_cons, List.length_nil, Nat.reduceAdd, Nat.reduceSub, Array.replicate_succ, Array.replicate_zero, List.push_toArray, List.append_toArray, List.nil_append, List.cons_append]
  gi_wp2
  have hbx := Boxed.new w 33 (.slice none 0 0)
  have hB0 : Below w.heap.size w (w.alloc (.cells #[.slice none 0 0] 33)) := (Below.refl _ w).alloc (Nat.le_refl _) _
  refine wpIn_rangeFunc_ownF hro hn1 (gf := 24) (lb := #[.pointer (some ⟨Bs, 0, none⟩)]) rfl h2 (enters_of Try.func24 (by kernel_rfl) rfl)
    (ones_stops F (n - 1) h2 hro (by omega) Bs w.heap.size x _ (by simp; omega) hBs ((hB0.cell (p := ⟨Bs, 0, none⟩) hBs).trans hcx)) belowK_t (belowK_b (by simp)) (Below.refl _ _) (fun _ => rfl)
    (fun pre W => (∃ v, Boxed W w.heap.size 33 v ∧ W.ownsRow w.heap.size 3 1 v pre.length (valsN pre) ∧ True) ∧ Below w.heap.size w W)
    (fun _ _ _ => False)
    (OwnFrom.and (Own.from (holdsRow_own w.heap.size w.heap.size 33 3 1 (fun pre => pre.length) (fun pre => valsN pre) (fun pre v => True)) _) (ownFrom_below (Nat.le_refl _) (by simp)))
    (fun c s W W' row h hg hr => h)
    ⟨⟨_, hbx, World.ownsRow_nil _ _ _ _, trivial⟩, hB0⟩
    (fun p => { tmps := #[.slice none 0 0, .func (.func 24) #[] #[.pointer (some ⟨Bs, 0, none⟩)], .pointer (some ⟨w.heap.size, 0, none⟩), undef, .slice none 0 0, .int .i64 (p : Int), .func (.func 24) #[] #[.pointer (some ⟨Bs, 0, none⟩)], .int .i64 (p : Int), undef, undef, undef, undef, undef], defers := [] }) ?assign ?body ?done ?stop
  case assign =>
    intro l x W K hK
    gi_wp2
    exact hK
  case body =>
    rintro l pre p W ⟨⟨v, hv, hrow, -⟩, hB⟩ hlt
    have hc := hv.cell
    have hf := hv.frozen
    have hsz := hB.size
    gi_wp2_with (gi_at_builtin; refine wpListIn_append_own _ rfl _ _ 33 rfl w.heap.size 3 i0 (.int .i64 0) 1 8 Try.underlying33 hi0 hz0 hz1 hz2 rfl (by decide) _ _ _ rfl (hrow.alloc _) ⟨W.heap.size, 0, none⟩ 1 1 [.int .i64 (p : Int)] rfl rfl (cell_one_new _ _ _) (by simp [Value.oneCell']) (by unfold maxLen; omega) (by omega) (by simp; omega) ?_; intro v' w1 hown' hgrow _; obtain ⟨g', cap', rfl⟩ := ownsRow_succ hown'; obtain ⟨hv1, hv2, hr2, hk2, hb2⟩ := hv.appended (by decide) hrow hB.size (Nat.le_refl _) hown' hgrow; have hc1 := hv1.cell; have hf1 := hv1.frozen)
    exact ⟨hk2, hb2, ⟨_, hv2, by rw [List.length_append, ← valsN_snoc]; exact hr2, trivial⟩, hB.trans hb2⟩
  case done =>
    rintro D ys W hD rfl ⟨⟨v, hv, hrow, -⟩, hB⟩ hK
    have hc := hv.cell
    gi_wp2
    refine ⟨by simp, .inl ⟨_, _, rfl, run_takeDeferred hK, ?_⟩⟩
    refine ⟨v, ?_, v, rfl, hB.trans (belowK_b (w := w) (Nat.le_refl _) W D _ _ (by simp at hD; omega) hK rfl rfl), ownsRow_putObj hrow _ hK rfl⟩
    simp [results, Try.f25, go_sem]
  case stop =>
    rintro D c pre W hD hpre h
    exact h.elim
theorem collect_any (x : BitVec 64) (Bs : Nat) (w : World) (hBs : Bs < w.heap.size) (hcx : w.cell? ⟨Bs, 0, none⟩ = some (.int .u64 (U x))) :
    Calls Try.prog 12 #[.func (.func 24) #[] #[.pointer (some ⟨Bs, 0, none⟩)]] w fun e W' => ∃ v, e = .returned v ∧ Below w.heap.size w W' ∧ W'.ownsRow w.heap.size 3 1 v (onesTo x 64).length (valsN (onesTo x 64)) := by
  have ha : Calls Try.prog 25 #[.slice none 0 0, .func (.func 24) #[] #[.pointer (some ⟨Bs, 0, none⟩)]] w fun e W' => ∃ v, e = .returned v ∧ Below w.heap.size w W' ∧ W'.ownsRow w.heap.size 3 1 v (onesTo x 64).length (valsN (onesTo x 64)) :=
    (callsIn_wide (n := 3)).1 (append_in _ 3 trivial trivial rfl (Nat.le_refl _) x Bs w hBs hcx)
  go_enter Try.func12, Try.ntmps12
  go_wp2_with (go_at_call 25; refine ha.mono ?_; rintro e w' ⟨v, rfl, hbl, hown⟩)
  go_ret
  exact ⟨v, rfl, hbl, hown⟩
theorem ones_any (x : BitVec 64) (w : World) : Calls Try.prog 11 #[.int .u64 (U x)] w fun e w' => e = .returned (.func (.func 24) #[] #[.pointer (some ⟨w.heap.size, 0, none⟩)]) ∧ w' = w.alloc (.cells #[.int .u64 (U x)] 22) :=
  (callsIn_wide (n := 3)).1 (ones_in _ 3 trivial rfl x w)
theorem own_pos {w : World} {base : Nat} {v : Value} {n : Nat} {xs : List Value} (h : w.ownsRow base 3 1 v n xs) : ∃ (ad : Option Addr) (cp : Nat), v = .slice ad n cp := by
  rcases h.2 with ⟨rfl, rfl⟩ | ⟨g, cap, cur, rfl, -⟩
  · exact ⟨none, 0, rfl⟩
  · exact ⟨_, _, rfl⟩
theorem onesTo_yes (x : BitVec 64) (k : Nat) (h : x.getLsbD k = true) : onesTo x (k + 1) = onesTo x k ++ [k] := by rw [onesTo_succ, if_pos h]
theorem onesTo_no (x : BitVec 64) (k : Nat) (h : x.getLsbD k = false) : onesTo x (k + 1) = onesTo x k := by rw [onesTo_succ, h]; simp
theorem onesTo_zero (x : BitVec 64) : onesTo x 0 = [] := rfl
set_option maxHeartbeats 8000000 in
set_option maxRecDepth 100000 in
theorem rones_any (x : BitVec 64) (w : World) : Calls Try.prog 15 #[.int .u64 (U x)] w fun r w' => ∃ v, r = .returned v ∧ Below w.heap.size w w' ∧ w'.ownsRow w.heap.size 3 1 v (onesTo x 64).length (valsN (onesTo x 64)) := by
  obtain ⟨i0, hi0, hz0, hz1, hz2⟩ := info_parts info_int
  go_enter Try.func15, Try.ntmps15
  go_wp2_with fail
  go_loopw [3, 4] (fun s i wr => ∃ k : Nat, i = .int .i64 (k : Int) ∧ k ≤ 64 ∧ Below w.heap.size w wr ∧ Hid (wr.ownsRow w.heap.size 3 1 s (onesTo x k).length (valsN (onesTo x k)))) (fun _ i _ => 64 - (intOf i).toNat)
  case atStart => exact ⟨0, rfl, by omega, Below.refl _ _, Lib.hid (World.ownsRow_nil _ _ _ _)⟩
  case round =>
    obtain ⟨k, rfl, hk, hbw, HO⟩ := hrel
    have hown := HO.out
    have hl := onesTo_len x k
    have hsz := hbw.size
    by_cases hlt : (k : Int) < 64
    · have h0 : 0 ≤ (k : Int) := by omega
      cases hbit : x.getLsbD k
      · have hbt : (x >>> k &&& 1#64 == 1#64) = false := by rw [bit_test, hbit]
        have HBT := Lib.hid hbit
        clear hbit
        go_wp2_with fail
        go_roundw
        case rel => exact ⟨k + 1, by go_num, by omega, hbw, Lib.hid (by rw [onesTo_no x k HBT.out]; exact HO.out)⟩
        case measure => (simp [intOf]; omega)
      · have hbt : (x >>> k &&& 1#64 == 1#64) = true := by rw [bit_test, hbit]
        have HBT := Lib.hid hbit
        clear hbit
        go_wp2_with (at_builtin; refine wpList_append_own _ rfl _ _ 33 rfl w.heap.size 3 i0 (.int .i64 0) 1 8 Try.underlying33 hi0 hz0 hz1 hz2 rfl (by decide) _ _ _ rfl (hown.alloc _) ⟨wr.heap.size, 0, none⟩ 1 1 [.int .i64 (k : Int)] rfl rfl (cell_one_new _ _ _) (by simp [Value.oneCell']) (by unfold maxLen; omega) (by omega) (by simp; omega) ?_; intro v' w1 hown' hgrow _)
        go_roundw
        case rel => exact ⟨k + 1, by go_num, by omega, ((hbw.alloc (by omega) _).grown hgrow (by simp; omega) (fun j h => (hown.lt j h).1)), Lib.hid (by rw [onesTo_yes x k HBT.out, List.length_append, ← valsN_snoc]; exact hown')⟩
        case measure => (simp [intOf]; omega)
    · obtain rfl : k = 64 := by omega
      go_wp2_with fail
      go_ret
      exact ⟨_, rfl, hbw, hown⟩
theorem count_one (B M : Nat) (c m k : Int) (w : World) (hB : B < w.heap.size) (hc : w.cell? ⟨B, 0, none⟩ = some (.int .i64 c)) (hf : w.frozen? ⟨B, 0, none⟩ = false) (hm : w.cell? ⟨M, 0, none⟩ = some (.int .i64 m)) (hne : M ≠ B) (h0 : 0 ≤ c) (h1 : c ≤ 64) :
    Calls Try.prog 16 #[.int .i64 k, .pointer (some ⟨B, 0, none⟩), .pointer (some ⟨M, 0, none⟩)] w fun e w' => e = .returned (.bool (decide (c + 1 ≤ m))) ∧ w' = w.setCell ⟨B, 0, none⟩ (.int .i64 (c + 1)) := by
  go_enter Try.func16, Try.ntmps16
  go_wp2_with fail
  go_ret
  exact ⟨rfl, rfl⟩
theorem len_le (x : BitVec 64) (k : Nat) (h : k ≤ 64) : (onesTo x k).length ≤ (onesTo x 64).length := by
  have := (onesTo_prefix x k (64 - k)).length_le
  rwa [show k + (64 - k) = 64 by omega] at this
set_option maxHeartbeats 8000000 in
set_option maxRecDepth 100000 in
theorem ones_call (x : BitVec 64) (n₀ Bs B M : Nat) (m : Int) (m0 : 0 ≤ m) (w : World) (hn : n₀ ≤ B) (hB : B < w.heap.size) (e1 : Bs ≠ B) (e2 : M ≠ B) (hs : w.cell? ⟨Bs, 0, none⟩ = some (.int .u64 (U x))) (hb : w.cell? ⟨B, 0, none⟩ = some (.int .i64 0)) (hf : w.frozen? ⟨B, 0, none⟩ = false) (hm : w.cell? ⟨M, 0, none⟩ = some (.int .i64 m)) :
    Calls Try.prog 24 #[.func (.func 16) #[] #[.pointer (some ⟨B, 0, none⟩), .pointer (some ⟨M, 0, none⟩)], .pointer (some ⟨Bs, 0, none⟩)] w fun e w' => e = .returned (.tuple #[]) ∧ Below n₀ w w' ∧ w'.cell? ⟨B, 0, none⟩ = some (.int .i64 (min ((onesTo x 64).length : Int) (m + 1))) ∧ w'.cell? ⟨M, 0, none⟩ = some (.int .i64 m) := by
  go_enter Try.func24, Try.ntmps24
  go_wp2_with fail
  go_loopw [4] (fun i wr => ∃ k : Nat, i = .int .i64 (k : Int) ∧ k ≤ 64 ∧ Below n₀ w wr ∧ B < wr.heap.size ∧ ((onesTo x k).length : Int) ≤ m ∧ wr.cell? ⟨Bs, 0, none⟩ = some (.int .u64 (U x)) ∧ wr.cell? ⟨B, 0, none⟩ = some (.int .i64 ((onesTo x k).length : Int)) ∧ wr.frozen? ⟨B, 0, none⟩ = false ∧ wr.cell? ⟨M, 0, none⟩ = some (.int .i64 m)) (fun i _ => 64 - (intOf i).toNat)
  case atStart => exact ⟨0, rfl, by omega, Below.refl _ _, hB, m0, hs, hb, hf, hm⟩
  case round =>
    obtain ⟨k, rfl, hk, hbw, hBs, hle, ys, yb, yf, ym⟩ := hrel
    have hl := onesTo_len x k
    have hl64 := len_le x k hk
    by_cases hlt : (k : Int) < 64
    · have h0 : 0 ≤ (k : Int) := by omega
      cases hbit : x.getLsbD k
      · have hbt : (x >>> k &&& 1#64 == 1#64) = false := by rw [bit_test, hbit]
        have HBT := Lib.hid (onesTo_no x k hbit)
        clear hbit
        go_wp2_with fail
        go_roundw
        case rel => exact ⟨k + 1, by go_num, by omega, hbw, hBs, by rw [HBT.out]; exact hle, ys, by rw [HBT.out]; exact yb, yf, ym⟩
        case measure => (simp [intOf]; omega)
      · have hbt : (x >>> k &&& 1#64 == 1#64) = true := by rw [bit_test, hbit]
        have HBT := Lib.hid (onesTo_yes x k hbit)
        have hl65 := len_le x (k + 1) (by omega)
        rw [HBT.out, List.length_append] at hl65
        have hl66 : (onesTo x k).length + 1 ≤ (onesTo x 64).length := hl65
        clear hl65 hbit
        have z0 : (wr.setCell ⟨B, 0, none⟩ (.int .i64 (((onesTo x k).length : Int) + 1))).cell? ⟨B, 0, none⟩ = some (.int .i64 (((onesTo x k).length : Int) + 1)) := World.cell?_setCell_same _ _ _ yb
        have z1 : (wr.setCell ⟨B, 0, none⟩ (.int .i64 (((onesTo x k).length : Int) + 1))).cell? ⟨M, 0, none⟩ = some (.int .i64 m) := (World.cell?_setCell_other _ _ _ _ (fun e => e2 (by cases e; rfl))).trans ym
        have z2 : (wr.setCell ⟨B, 0, none⟩ (.int .i64 (((onesTo x k).length : Int) + 1))).cell? ⟨Bs, 0, none⟩ = some (.int .u64 (U x)) := (World.cell?_setCell_other _ _ _ _ (fun e => e1 (by cases e; rfl))).trans ys
        have hcall := count_one B M ((onesTo x k).length : Int) m (k : Int) wr hBs yb yf ym e2 (by omega) (by omega)
        by_cases c : ((onesTo x k).length : Int) + 1 ≤ m
        · rw [decide_eq_true c] at hcall
          go_wp2_with (go_at_call 16; refine hcall.mono ?_; rintro e w' ⟨rfl, rfl⟩)
          go_roundw
          case rel => exact ⟨k + 1, by go_num, by omega, hbw.setCell (p := ⟨B, 0, none⟩) hn _, by simpa using hBs, by rw [HBT.out, List.length_append]; simpa using c, z2, by rw [HBT.out, List.length_append]; exact z0, (World.frozen?_setCell _ _ _ _).trans yf, z1⟩
          case measure => (simp [intOf]; omega)
        · rw [decide_eq_false c] at hcall
          go_wp2_with (go_at_call 16; refine hcall.mono ?_; rintro e w' ⟨rfl, rfl⟩)
          refine bodyPost_ret (results_none rfl _ _ _) rfl ?_
          exact ⟨rfl, hbw.setCell (p := ⟨B, 0, none⟩) hn _, by rw [z0]; congr 2; omega, z1⟩
    · obtain rfl : k = 64 := by omega
      go_wp2_with fail
      refine bodyPost_end (results_none rfl _ _ _) rfl ?_
      exact ⟨rfl, hbw, by rw [yb]; congr 2; omega, ym⟩
end Go.Proofs.Ytbjffaiokljbdaa
