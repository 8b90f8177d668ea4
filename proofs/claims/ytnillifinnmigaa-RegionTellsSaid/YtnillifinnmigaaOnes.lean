
/-
  scale.Ones, scale.Zeros: the places of the bits that are 1, from the lowest on; the range over them.
-/
import Derived.Test.YtnillifinnmigaaScale
import Derived.RangeFuncNested
import Derived.RangeFuncBound
import Derived.RangeFuncCalls
import Derived.RangeFuncLeaves
import Derived.RangeFuncBox
import Derived.Shelf.Abstract
import Derived.OwnWalkIn
import Derived.TacticsInMore
import Derived.LoopNIn
import Derived.LoopIn
namespace Go.Proofs.Ytnillifinnmigaa
open Go Go.RowKit Go.Shelf
set_option linter.unusedVariables false
set_option linter.unusedSimpArgs false

attribute [local go_sem] Oper.semAt_some

theorem cell_new_l (W : World) (v : Value) (t : TypeId) : (W.alloc (.cells #[v] t)).cell? ⟨W.heap.size, 0, none⟩ = some v ∧ (W.alloc (.cells #[v] t)).frozen? ⟨W.heap.size, 0, none⟩ = false := by
  constructor <;> simp
theorem cell_alloc_l {W : World} {a : Addr} {v : Value} (o : Obj) (h : W.cell? a = some v) : (W.alloc o).cell? a = some v := cell_kept h (World.grownBy_alloc W o none) (fun r e => by cases e)
theorem frozen_alloc_l {W : World} {a : Addr} {v : Value} (o : Obj) (h : W.cell? a = some v) (hf : W.frozen? a = false) : (W.alloc o).frozen? a = false := (frozen_kept h (World.grownBy_alloc W o none) (fun r e => by cases e)).trans hf

/-- The places of the bits that are 1, below a place. -/
def onesTo (x : BitVec 64) (k : Nat) : List Nat := (List.range k).filter fun i => x.getLsbD i
theorem onesTo_succ (x : BitVec 64) (k : Nat) : onesTo x (k + 1) = onesTo x k ++ (if x.getLsbD k = true then [k] else []) := by
  unfold onesTo
  rw [List.range_succ, List.filter_append]
  congr 1
  cases h : x.getLsbD k <;> simp [h]
theorem onesTo_len (x : BitVec 64) (k : Nat) : (onesTo x k).length ≤ k := by
  unfold onesTo
  have := List.length_filter_le (fun i => x.getLsbD i) (List.range k)
  simpa using this
theorem onesTo_prefix (x : BitVec 64) (k : Nat) (m : Nat) : onesTo x k <+: onesTo x (k + m) := by
  induction m with
  | zero => exact List.prefix_rfl
  | succ m ih => exact ih.trans (by rw [← Nat.add_assoc, onesTo_succ]; exact List.prefix_append _ _)
set_option maxRecDepth 100000 in
set_option maxHeartbeats 2000000 in
theorem ones1_in (F : Fence) (n : Nat) (hf : F.fn 48) (hro : F.round = none) (hn : 1 ≤ n) (l Bs n₀ : Nat) (x : BitVec 64) (hb : Bs < n₀) (J Jx : List Nat → World → Prop)
    (hY : ∀ (pre : List Nat) (p : Nat) (W : World), J pre W → pre.length < 64 → YieldAt F (n - 1) Try.prog l #[.int .i64 (p : Int)] W fun e W' =>
      (e = .returned (.bool true) ∧ J (pre ++ [p]) W' ∧ Below n₀ W W') ∨ (e = .returned (.bool false) ∧ Jx (pre ++ [p]) W'))
    (W : World) (hBs : W.cell? ⟨Bs, 0, none⟩ = some (.int .u64 (U x))) (h0 : J [] W) :
    CallsIn F n Try.prog 48 #[.func (.yield l) #[] #[], .pointer (some ⟨Bs, 0, none⟩)] W fun e W' => (∃ v, e = .returned v) ∧
      (J (onesTo x 64) W' ∨ (∃ k, k < 64 ∧ x.getLsbD k = true ∧ Jx (onesTo x k ++ [k]) W')) := by
  refine callsIn_of_wp Try.func48 rfl hf ?_ hro
  simp only [Try.ntmps48, List.size_toArray, List.length_cons, List.length_nil, Nat.reduceAdd, Nat.reduceSub, Array.replicate_succ, Array.replicate_zero, List.push_toArray, List.append_toArray, List.nil_append, List.cons_append]
  gi_wp2
  gi_loopw [3, 4] (fun _ i wr => ∃ k : Nat, k ≤ 64 ∧ i = .int .i64 k ∧ J (onesTo x k) wr ∧ Below n₀ W wr)
    (fun _ i _ => 64 - (intOf i).toNat)
  case atStart => exact ⟨0, Nat.zero_le _, rfl, h0, Below.refl _ _⟩
  case round =>
    obtain ⟨k, hk, rfl, hJs, hnx⟩ := hrel
    have hcx : wr.cell? ⟨Bs, 0, none⟩ = some (.int .u64 (U x)) := (hnx.cell (p := ⟨Bs, 0, none⟩) hb).trans hBs
    by_cases hlt : (k : Int) < 64
    · have h1 : 0 ≤ (k : Int) := by omega
      have HS := Lib.hid (onesTo_succ x k)
      cases hbit : x.getLsbD k
      · have hbt : (x >>> k &&& 1#64 == 1#64) = false := by rw [bit_test, hbit]
        gi_wp2
        refine ⟨fun _ h => (by cases h), ?_⟩
        gi_wp2
        go_roundw
        case rel => exact ⟨k + 1, by omega, by go_num, by rw [HS.out, hbit]; simpa using hJs, hnx⟩
        case measure => simp [intOf]; omega
      · have hbt : (x >>> k &&& 1#64 == 1#64) = true := by rw [bit_test, hbit]
        obtain ⟨fn, tmps, assign, body, hy, hR⟩ := hY _ k wr hJs (by have := onesTo_len x k; omega)
        gi_wp2
        refine hR.mono ?_
        rintro e W3 (⟨rfl, hJ3, hk3⟩ | ⟨rfl, hJx3⟩)
        · gi_wp2
          go_roundw
          case rel => exact ⟨k + 1, by omega, by go_num, by rw [HS.out, hbit]; exact hJ3, hnx.trans hk3⟩
          case measure => simp [intOf]; omega
        · gi_wp2
          refine bodyPost_ret (results_none rfl _ _ _) rfl ?_
          exact ⟨⟨_, rfl⟩, .inr ⟨k, by omega, hbit, hJx3⟩⟩
    · have hk' : k = 64 := by omega
      have HK := Lib.hid hk'
      clear hk'
      gi_wp2
      go_end0
      exact ⟨⟨_, rfl⟩, .inl (by rw [← HK.out]; exact hJs)⟩

/-- scale.Ones(x): a value that goes over them. -/
theorem ones_in (F : Fence) (n : Nat) (hf : F.fn 42) (hro : F.round = none) (x : BitVec 64) (w : World) :
    CallsIn F n Try.prog 42 #[.int .u64 (U x)] w fun e w' => e = .returned (.func (.func 48) #[] #[.pointer (some ⟨w.heap.size, 0, none⟩)]) ∧ w' = w.alloc (.cells #[.int .u64 (U x)] 22) := by
  refine callsIn_of_wp Try.func42 rfl hf ?_ hro
  simp only [Try.ntmps42, List.size_toArray, List.length_cons, List.length_nil, Nat.reduceAdd, Nat.reduceSub, Array.replicate_succ, Array.replicate_zero, List.push_toArray, List.append_toArray, List.nil_append, List.cons_append]
  gi_wp2
  go_ret
  exact ⟨rfl, rfl⟩

theorem ones_stops (F : Fence) (n : Nat) (hf : F.fn 48) (hro : F.round = none) (hn : 1 ≤ n) (Bs n₀ : Nat) (x : BitVec 64) (w : World) (hBs : Bs < w.heap.size) (hb : Bs < n₀)
    (hc : w.cell? ⟨Bs, 0, none⟩ = some (.int .u64 (U x))) :
    SeqStopsK F n Try.prog 48 #[.pointer (some ⟨Bs, 0, none⟩)] (fun p : Nat => #[Value.int .i64 (p : Int)]) (Below n₀) (fun ys => ys = onesTo x 64) (fun pre => ∃ k, k < 64 ∧ x.getLsbD k = true ∧ pre = onesTo x k ++ [k]) 64 w := fun l J Jx W hW _ _ hY h0 => by
  have hc' := (hW.cell (p := ⟨Bs, 0, none⟩) hBs).trans hc
  refine (ones1_in F n hf hro hn l Bs n₀ x hb J Jx hY W hc' h0).mono ?_
  rintro e W' ⟨he, hj | ⟨k, hk, hbit, hj⟩⟩
  · exact ⟨he, .inl ⟨_, rfl, hj⟩⟩
  · exact ⟨he, .inr ⟨_, ⟨k, hk, hbit, rfl⟩, hj⟩⟩

/-- How many zeros stand behind the lowest bit that is 1; 64: there is none. -/
def zerosF (x : BitVec 64) : Nat := ((List.range 64).find? fun i => x.getLsbD i).getD 64
theorem zerosF_of (x : BitVec 64) (k : Nat) (hk : k < 64) (hb : x.getLsbD k = true) (hl : ∀ i, i < k → x.getLsbD i = false) : zerosF x = k := by
  unfold zerosF
  have : (List.range 64).find? (fun i => x.getLsbD i) = some k := by
    rw [List.find?_eq_some_iff_getElem]
    refine ⟨hb, k, by simpa using hk, by simp, fun j hj => ?_⟩
    simp [hl j hj]
  rw [this]; rfl
theorem zerosF_none (x : BitVec 64) (hl : ∀ i, i < 64 → x.getLsbD i = false) : zerosF x = 64 := by
  unfold zerosF
  have : (List.range 64).find? (fun i => x.getLsbD i) = none := by
    rw [List.find?_eq_none]
    intro i hi
    simp [hl i (by simpa using hi)]
  rw [this]; rfl
theorem onesTo_nil (x : BitVec 64) (k : Nat) (h : onesTo x k = []) : ∀ i, i < k → x.getLsbD i = false := by
  intro i hi
  unfold onesTo at h
  rw [List.filter_eq_nil_iff] at h
  simpa using h i (by simpa using hi)

set_option maxRecDepth 100000 in
set_option maxHeartbeats 2000000 in
theorem zeros_in (F : Fence) (n : Nat) (h0 : F.fn 33) (h1 : F.fn 42) (h2 : F.fn 48) (hro : F.round = none) (hn : 3 ≤ n) (x : BitVec 64) (w : World) :
    CallsIn F n Try.prog 33 #[.int .u64 (U x)] w fun e W' => e = .returned (.int .i64 (zerosF x : Int)) ∧ Below w.heap.size w W' := by
  have hn1 : 1 ≤ n := by omega
  refine callsIn_of_wp_marks Try.func33 rfl h0 ?_ hro
  simp only [Try.ntmps33, List.size_toArray, List.length_cons, List.length_nil, Nat.reduceAdd, Nat.reduceSub, Array.replicate_succ, Array.replicate_zero, List.push_toArray, List.append_toArray, List.nil_append, List.cons_append]
  gi_wp2_with (gi_at_call 42; refine (ones_in F (n - 1) h1 hro _ _).mono ?_; rintro e w' ⟨rfl, rfl⟩)
  have c0 := cell_new_l w (.int .i64 0) 3
  have c1 := cell_new_l (w.alloc (.cells #[.int .i64 0] 3)) (.int .u64 (U x)) 22
  rw [World.size_alloc] at c1
  have hB0 : Below w.heap.size w ((w.alloc (.cells #[.int .i64 0] 3)).alloc (.cells #[.int .u64 (U x)] 22)) := ((Below.refl _ w).alloc (Nat.le_refl _) _).alloc (by simp) _
  refine wpIn_rangeFunc_ownF hro hn1 (gf := 48) (lb := #[.pointer (some ⟨w.heap.size + 1, 0, none⟩)]) rfl h2 (enters_of Try.func48 (by kernel_rfl) rfl)
    (ones_stops F (n - 1) h2 hro (by omega) (w.heap.size + 1) (w.heap.size + 2) x _ (by simp) (by omega) c1.1) belowK_t (belowK_b (by simp)) (Below.refl _ _) (fun _ => rfl)
    (fun pre W => (pre = [] ∧ W.cell? ⟨w.heap.size, 0, none⟩ = some (.int .i64 0) ∧ W.frozen? ⟨w.heap.size, 0, none⟩ = false) ∧ Below w.heap.size w W)
    (fun c pre W => (c = .ret ∧ ∃ k : Nat, pre = [k] ∧ W.cell? ⟨w.heap.size, 0, none⟩ = some (.int .i64 (k : Int))) ∧ Below w.heap.size w W)
    (OwnFrom.and (Own.from (fun s A B row hs hg hr => ⟨hs.1, cell_kept hs.2.1 hg hr, (frozen_kept hs.2.1 hg hr).trans hs.2.2⟩) _) (ownFrom_below (Nat.le_refl _) (by simp; omega)))
    (fun c => OwnFrom.and (Own.from (fun s A B row hs hg hr => ⟨hs.1, hs.2.choose, hs.2.choose_spec.1, cell_kept hs.2.choose_spec.2 hg hr⟩) _) (ownFrom_below (Nat.le_refl _) (by simp; omega)))
    ⟨⟨rfl, cell_alloc_l _ c0.1, frozen_alloc_l _ c0.1 c0.2⟩, hB0⟩
    (fun p => { tmps := #[.int .u64 (U x), undef, .pointer (some ⟨w.heap.size, 0, none⟩), .int .i64 (p : Int), .int .u64 (U x), .func (.func 48) #[] #[.pointer (some ⟨w.heap.size + 1, 0, none⟩)], .int .i64 (p : Int), undef], defers := [] }) ?assign ?body ?done ?stop
  case assign =>
    intro l x W K hK
    gi_wp2
    exact hK
  case body =>
    rintro l pre p W ⟨⟨rfl, hc, hfr⟩, hB⟩ _
    gi_wp2
    exact ⟨KeepsOthers.setCell _ _ _, ⟨rfl, p, rfl, World.cell?_setCell_same' _ _ _ (by rw [hc]; rfl)⟩, hB.setCell (p := ⟨w.heap.size, 0, none⟩) (Nat.le_refl _) _⟩
  case done =>
    rintro D ys W hD rfl ⟨⟨hnil, hc, hfr⟩, hB⟩ hK
    have HN := Lib.hid hnil
    clear hnil
    gi_wp2
    have hK' := (KeepsOthers.setCell W ⟨w.heap.size, 0, none⟩ (.int .i64 64)).same D _ hK rfl
    refine ⟨by simp, .inl ⟨_, _, rfl, run_takeDeferred hK', ?_⟩⟩
    have hc5 := cell_kept (World.cell?_setCell_same' W ⟨w.heap.size, 0, none⟩ (.int .i64 64) (by rw [hc]; rfl)) (grownBy_putObj' _ D (.deferred none)) (fun r e => by cases e; exact ⟨_, hK', rfl⟩)
    refine ⟨.int .i64 64, ?_, by rw [zerosF_none x (onesTo_nil x 64 HN.out)]; rfl, (hB.setCell (p := ⟨w.heap.size, 0, none⟩) (by simp) _).trans (belowK_b (w := w) (Nat.le_refl _) _ D _ _ (by simp at hD; omega) hK' rfl rfl)⟩
    simp [results, Try.f33, go_sem, hc5]
  case stop =>
    rintro D c pre W hD hpre ⟨⟨rfl, p, hp, hc⟩, hB⟩ hK
    gi_wp2
    refine ⟨by simp, .inl ⟨_, _, rfl, run_takeDeferred hK, ?_⟩⟩
    have hc5 := cell_kept hc (grownBy_putObj' _ D (.deferred none)) (fun r e => by cases e; exact ⟨_, hK, rfl⟩)
    refine ⟨.int .i64 (p : Int), ?_, ?_, hB.trans (belowK_b (w := w) (Nat.le_refl _) W D _ _ (by simp at hD; omega) hK rfl rfl)⟩
    · simp [results, Try.f33, go_sem, hc5]
    · obtain ⟨k, hk, hbit, he⟩ := hpre
      rw [hp] at he
      have hnil : onesTo x k = [] := by
        cases h : onesTo x k with
        | nil => rfl
        | cons a t => rw [h] at he; simp at he
      rw [hnil] at he
      simp at he
      rw [he, zerosF_of x k hk hbit (onesTo_nil x k hnil)]

theorem zeros_any (x : BitVec 64) (w : World) : Calls Try.prog 33 #[.int .u64 (U x)] w fun e w' => e = .returned (.int .i64 (zerosF x : Int)) ∧ Below w.heap.size w w' :=
  (callsIn_wide (n := 3)).1 (zeros_in _ 3 trivial trivial trivial rfl (Nat.le_refl _) x w)
end Go.Proofs.Ytnillifinnmigaa
