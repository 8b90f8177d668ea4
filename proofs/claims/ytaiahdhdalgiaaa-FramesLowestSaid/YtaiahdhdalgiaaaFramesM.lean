
/-
  frames: a pool that was made, method by method.
-/
import Derived.Test.YtaiahdhdalgiaaaFrames
import Derived.Test.YtaiahdhdalgiaaaOnes
import Derived.Test.YtaiahdhdalgiaaaLoose
import Derived.BigRegion
import Derived.Maps.AppendAt
import Derived.WalkKit
import Derived.Laws.EntriesVeiled
import Derived.Deep.CutRange
namespace Go.Proofs.Ytaiahdhdalgiaaa
open Go Go.RowKit Go.Shelf
set_option linter.unusedVariables false
set_option linter.unusedSimpArgs false
attribute [local go_sem] Oper.semAt_some

theorem info_int : (Try.prog.info? 3).map (fun i => (i.zero, i.size, i.bytes)) = some (some (.int .i64 0), 1, 8) := by kernel_rfl
def valsN (l : List Nat) : List Value := l.map fun n : Nat => Value.int .i64 (n : Int)
theorem valsN_snoc (l : List Nat) (n : Nat) : valsN l ++ [.int .i64 (n : Int)] = valsN (l ++ [n]) := by unfold valsN; rw [List.map_append]; rfl
theorem onesTo_yes (x : BitVec 64) (k : Nat) (h : x.getLsbD k = true) : onesTo x (k + 1) = onesTo x k ++ [k] := by rw [onesTo_succ, if_pos h]
theorem onesTo_no (x : BitVec 64) (k : Nat) (h : x.getLsbD k = false) : onesTo x (k + 1) = onesTo x k := by rw [onesTo_succ, h]; simp
theorem onesTo_zero (x : BitVec 64) : onesTo x 0 = [] := rfl
theorem ones_any (x : BitVec 64) (w : World) : Calls Try.prog 20 #[.int .u64 (U x)] w fun e w' => e = .returned (.func (.func 22) #[] #[.pointer (some ⟨w.heap.size, 0, none⟩)]) ∧ w' = w.alloc (.cells #[.int .u64 (U x)] 23) :=
  (callsIn_wide (n := 3)).1 (ones_in _ 3 trivial rfl x w)

theorem state_made (n : Nat) (t : BitVec 64) (hn : 0 < n) (w : World) : (binOp .eql 25 (.agg #[.int .i64 (n : Int), .int .u64 (U t)]) (.agg #[.int .i64 0, .int .u64 0])).run Try.prog w = .ok (.bool false) w := by
  have h := state_eql (n : Int) 0 t 0#64 w
  rw [show ((n : Int) == 0) = false by rw [beq_eq_false_iff_ne]; omega] at h
  exact h
/-- The numbers that are free, as bits. -/
def openW (n : Nat) (t : BitVec 64) : BitVec 64 := ~~~t &&& (1#64 <<< (n - 1) <<< 1 - 1#64)
theorem none_made (n : Nat) (t : BitVec 64) (p : Nat) (w : World) (hn : 0 < n) (hb : p < w.heap.size) (h0 : w.cell? ⟨p, 0, none⟩ = some (.int .i64 (n : Int))) (h1 : w.cell? ⟨p, 1, none⟩ = some (.int .u64 (U t))) : Calls Try.prog 16 #[.pointer (some ⟨p, 0, none⟩)] w fun r w' => r = .returned (.bool false) ∧ w = w' := by
  have hs := fun w => state_made n t hn w
  clear hn
  go_enter Try.func16, Try.ntmps16
  go_wp2_with fail
  go_ret
  exact ⟨rfl, rfl⟩
set_option maxHeartbeats 4000000 in
theorem open_made (n : Nat) (t : BitVec 64) (w : World) (hn : 0 < n) (hm : n ≤ 64) : Calls Try.prog 18 #[.agg #[.int .i64 (n : Int), .int .u64 (U t)]] w fun r w' => r = .returned (.int .u64 (U (openW n t))) ∧ Below w.heap.size w w' := by
  unfold openW
  obtain ⟨m, rfl⟩ : ∃ m, n = m + 1 := ⟨n - 1, by omega⟩
  rw [Nat.add_sub_cancel]
  go_enter Try.func18, Try.ntmps18
  go_upto_region 1 with (fail)
  refine wp_region_below (by kernel_rfl) (by kernel_rfl) (fun hcr hfr => ?_)
  (try simp only [World.size_alloc, World.size_setCell, World.size_drew, size_drewN_] at hcr hfr)
  repeat (go_big_quiet_step (fail))
  refine wpQuiet_nil ?_
  intro w' hbl
  clear hcr hfr
  obtain ⟨hcw, hfw, hsw⟩ := below_ifs hbl; (try simp only [World.size_alloc, World.size_setCell, World.size_drew, size_drewN_] at hcw hfw hsw)
  go_wp2_with fail
  go_ret
  exact ⟨rfl, by (repeat (first | with_reducible exact Below.refl _ _ | with_reducible assumption | with_reducible refine below_drewN ?_ _ | with_reducible refine Below.drew ?_ | with_reducible refine below_alloc ?_ _ | (with_reducible refine Below.setCell ?_ (by first | (simp; done) | omega | (simp; omega)) _) | with_reducible refine belows ?_ (by assumption)))⟩
set_option maxRecDepth 100000 in
set_option maxHeartbeats 2000000 in
theorem ones1_inB (F : Fence) (n : Nat) (hf : F.fn 22) (hro : F.round = none) (hn : 1 ≤ n) (l Bs : Nat) (x : BitVec 64) (J Jx : List Nat → World → Prop)
    (hY : ∀ (pre : List Nat) (p : Nat) (W : World), J pre W → pre.length < 64 → YieldAt F (n - 1) Try.prog l #[.int .i64 (p : Int)] W fun e W' =>
      (e = .returned (.bool true) ∧ J (pre ++ [p]) W' ∧ W'.heap[Bs]? = W.heap[Bs]?) ∨ (e = .returned (.bool false) ∧ Jx (pre ++ [p]) W'))
    (W : World) (hBs : W.cell? ⟨Bs, 0, none⟩ = some (.int .u64 (U x))) (h0 : J [] W) :
    CallsIn F n Try.prog 22 #[.func (.yield l) #[] #[], .pointer (some ⟨Bs, 0, none⟩)] W fun e W' => (∃ v, e = .returned v) ∧
      (J (onesTo x 64) W' ∨ (∃ k, k < 64 ∧ x.getLsbD k = true ∧ Jx (onesTo x k ++ [k]) W')) := by
  refine callsIn_of_wp Try.func22 rfl hf ?_ hro
  simp only [Try.ntmps22, List.size_toArray, List.length_cons, List.length_nil, Nat.reduceAdd, Nat.reduceSub, Array.replicate_succ, Array.replicate_zero, List.push_toArray, List.append_toArray, List.nil_append, List.cons_append]
  gi_wp2
  gi_loopw [3, 4] (fun _ i wr => ∃ k : Nat, k ≤ 64 ∧ i = .int .i64 k ∧ J (onesTo x k) wr ∧ wr.heap[Bs]? = W.heap[Bs]?)
    (fun _ i _ => 64 - (intOf i).toNat)
  case atStart => exact ⟨0, Nat.zero_le _, rfl, h0, rfl⟩
  case round =>
    obtain ⟨k, hk, rfl, hJs, hnx⟩ := hrel
    have hcx : wr.cell? ⟨Bs, 0, none⟩ = some (.int .u64 (U x)) := (World.cell?_of_block (a := ⟨Bs, 0, none⟩) hnx).trans hBs
    by_cases hlt : (k : Int) < 64
    · have h1 : 0 ≤ (k : Int) := by omega
      have HS := Lib.hid (onesTo_succ x k)
      cases hbit : x.getLsbD k
      · have hbt : (x >>> k &&& 1#64 == 1#64) = false := by rw [bit_test, hbit]
        gi_wp2
        refine ⟨fun _ h => (by cases h), ?_⟩
        gi_wp2
        go_roundw
        case rel => exact ⟨k + 1, by omega, by go_num, by rw [HS.out, hbit]; simpa using hJs, hnx⟩
        case measure => simp [intOf]; omega
      · have hbt : (x >>> k &&& 1#64 == 1#64) = true := by rw [bit_test, hbit]
        obtain ⟨fn, tmps, assign, body, hy, hR⟩ := hY _ k wr hJs (by have := onesTo_len x k; omega)
        gi_wp2
        refine hR.mono ?_
        rintro e W3 (⟨rfl, hJ3, hk3⟩ | ⟨rfl, hJx3⟩)
        · gi_wp2
          go_roundw
          case rel => exact ⟨k + 1, by omega, by go_num, by rw [HS.out, hbit]; exact hJ3, hk3.trans hnx⟩
          case measure => simp [intOf]; omega
        · gi_wp2
          refine bodyPost_ret (results_none rfl _ _ _) rfl ?_
          exact ⟨⟨_, rfl⟩, .inr ⟨k, by omega, hbit, hJx3⟩⟩
    · have hk' : k = 64 := by omega
      have HK := Lib.hid hk'
      clear hk'
      gi_wp2
      go_end0
      exact ⟨⟨_, rfl⟩, .inl (by rw [← HK.out]; exact hJs)⟩

theorem ones_stopsB (F : Fence) (n : Nat) (hf : F.fn 22) (hro : F.round = none) (hn : 1 ≤ n) (Bs : Nat) (x : BitVec 64) (w : World) (hBs : Bs < w.heap.size)
    (hc : w.cell? ⟨Bs, 0, none⟩ = some (.int .u64 (U x))) :
    SeqStopsK F n Try.prog 22 #[.pointer (some ⟨Bs, 0, none⟩)] (fun p : Nat => #[Value.int .i64 (p : Int)]) (fun W W' => W'.heap[Bs]? = W.heap[Bs]?) (fun ys => ys = onesTo x 64) (fun pre => ∃ k, k < 64 ∧ x.getLsbD k = true ∧ pre = onesTo x k ++ [k]) 64 w := fun l J Jx W hW _ _ hY h0 => by
  have hc' := (hW.cell (p := ⟨Bs, 0, none⟩) hBs).trans hc
  refine (ones1_inB F n hf hro hn l Bs x J Jx hY W hc' h0).mono ?_
  rintro e W' ⟨he, hj | ⟨k, hk, hbit, hj⟩⟩
  · exact ⟨he, .inl ⟨_, rfl, hj⟩⟩
  · exact ⟨he, .inr ⟨_, ⟨k, hk, hbit, rfl⟩, hj⟩⟩

theorem blockK_t {Bs : Nat} {A B C : World} (h : B.heap[Bs]? = A.heap[Bs]?) (k : C.heap[Bs]? = B.heap[Bs]?) : C.heap[Bs]? = A.heap[Bs]? := k.trans h
theorem blockK_b {Bs : Nat} {w : World} (hl : Bs < w.heap.size) (W : World) (l : Nat) (o o' : Obj) (h : w.heap.size ≤ l) (_ : W.heap[l]? = some o) (_ : o.isCells = false) (_ : o.isWalk = false) : (W.putObj l o').heap[Bs]? = W.heap[Bs]? :=
  World.putObj_heap_other (by omega)
set_option maxRecDepth 100000 in
set_option maxHeartbeats 4000000 in
theorem keep_any (n₀ B k : Nat) (l : List Nat) (v : Value) (w : World) (hv : Boxed w B 35 v) (hrow : w.ownsRow n₀ 3 1 v l.length (valsN l)) (hn : n₀ ≤ w.heap.size) (hB : n₀ ≤ B) (hl : l.length < 64) :
    Calls Try.prog 19 #[.int .i64 (k : Int), .pointer (some ⟨B, 0, none⟩)] w fun e w' => e = .returned (.tuple #[]) ∧ ∃ v', Boxed w' B 35 v' ∧ w'.ownsRow n₀ 3 1 v' (l ++ [k]).length (valsN (l ++ [k])) ∧ KeepsOthers w w' ∧ Below n₀ w w' ∧ (∀ (j : Nat) (t : TypeId) (u : Value), Boxed w j t u → t ≠ 3 → j ≠ B → Boxed w' j t u) := by
  obtain ⟨i0, hi0, hz0, hz1, hz2⟩ := info_parts info_int
  have hc := hv.cell
  have hf := hv.frozen
  have hlt := hv.lt
  go_enter Try.func19, Try.ntmps19
  go_wp2_with (at_builtin; refine wpList_append_own _ rfl _ _ 35 rfl n₀ 3 i0 (.int .i64 0) 1 8 Try.underlying35 hi0 hz0 hz1 hz2 rfl (by decide) _ _ _ rfl (hrow.alloc _) ⟨w.heap.size, 0, none⟩ 1 1 [.int .i64 (k : Int)] rfl rfl (cell_one_new _ _ _) (by simp [Value.oneCell']) (by unfold maxLen; omega) (by omega) (by simp; omega) ?_; intro v' w1 hown' hgrow _; obtain ⟨g', cap', rfl⟩ := ownsRow_succ hown'; obtain ⟨hv1, hv2, hr2, hk2, hb2⟩ := hv.appended (by decide) hrow hn hB hown' hgrow; have hc1 := hv1.cell; have hf1 := hv1.frozen)
  refine bodyPost_end (results_none rfl _ _ _) rfl ?_
  refine ⟨rfl, _, hv2, by rw [List.length_append, ← valsN_snoc]; exact hr2, hk2, hb2, ?_⟩
  intro j t u hu hne hj
  exact ((hu.alloc _).kept hgrow (hu.not_row hne hrow)).kept (grownBy_setCell' w1 B _) (by intro e; cases e; exact hj rfl)
set_option maxRecDepth 100000 in
set_option maxHeartbeats 8000000 in
theorem all_made (n : Nat) (t : BitVec 64) (p : Nat) (w : World) (hn : 0 < n) (hb : p < w.heap.size) (h0 : w.cell? ⟨p, 0, none⟩ = some (.int .i64 (n : Int))) (h1 : w.cell? ⟨p, 1, none⟩ = some (.int .u64 (U t))) : Calls Try.prog 10 #[.pointer (some ⟨p, 0, none⟩)] w fun r w' => ∃ v, r = .returned v ∧ Below w.heap.size w w' ∧ w'.ownsRow w.heap.size 3 1 v (onesTo t 64).length (valsN (onesTo t 64)) := by
  have cn := none_made n t p w hn hb h0 h1
  clear hn
  have hmf : ∀ (fn : Fn) (first cap : Array Value) (w : World), (Instr.makeFunc fn first cap).run Try.prog w = .ok (.func fn first cap) w := fun _ _ _ _ => rfl
  refine (callsIn_wide (n := 5)).1 ?_
  refine callsIn_of_wp_marks Try.func10 rfl trivial ?_ rfl
  simp only [Try.ntmps10, List.size_toArray, List.length_cons, List.length_nil, Nat.reduceAdd, Nat.reduceSub, Array.replicate_succ, Array.replicate_zero, List.push_toArray, List.append_toArray, List.nil_append, List.cons_append]
  gi_wp2_with (first | (refine ⟨trivial, ?_⟩; gi_at_call 16; refine (callsIn_wide.2 cn).mono ?_; rintro e w' ⟨rfl, rfl⟩) | (refine ⟨trivial, ?_⟩; gi_at_call 20; refine (ones_in _ _ trivial rfl _ _).mono ?_; rintro e w' ⟨rfl, rfl⟩))
  have hx0 := Boxed.new w 35 (.slice none 0 0)
  have hx1 := Boxed.new (w.alloc (.cells #[.slice none 0 0] 35)) 50 (.func (.func 19) #[] #[.pointer (some ⟨w.heap.size, 0, none⟩)])
  have hx2 := Boxed.new ((w.alloc (.cells #[.slice none 0 0] 35)).alloc (.cells #[.func (.func 19) #[] #[.pointer (some ⟨w.heap.size, 0, none⟩)]] 50)) 23 (.int .u64 (U t))
  simp only [World.size_alloc] at hx1 hx2
  have hB0 : Below w.heap.size w (((w.alloc (.cells #[.slice none 0 0] 35)).alloc (.cells #[.func (.func 19) #[] #[.pointer (some ⟨w.heap.size, 0, none⟩)]] 50)).alloc (.cells #[.int .u64 (U t)] 23)) := (((Below.refl _ w).alloc (Nat.le_refl _) _).alloc (by simp) _).alloc (by simp; omega) _
  refine wpIn_rangeFunc_ownF rfl (by omega) (gf := 22) (lb := #[.pointer (some ⟨w.heap.size + 1 + 1, 0, none⟩)]) rfl trivial (enters_of Try.func22 (by kernel_rfl) rfl)
    (ones_stopsB _ _ trivial rfl (by omega) (w.heap.size + 1 + 1) t _ (by simp) hx2.cell) blockK_t (blockK_b (by simp)) (Below.refl _ _) (fun _ => rfl)
    (fun pre W => (∃ v, Boxed W w.heap.size 35 v ∧ W.ownsRow w.heap.size 3 1 v pre.length (valsN pre) ∧ True) ∧ (Boxed W (w.heap.size + 1) 50 (.func (.func 19) #[] #[.pointer (some ⟨w.heap.size, 0, none⟩)]) ∧ Boxed W (w.heap.size + 1 + 1) 23 (.int .u64 (U t))) ∧ Below w.heap.size w W)
    (fun _ _ _ => False)
    (OwnFrom.and (Own.from (holdsRow_own w.heap.size w.heap.size 35 3 1 (fun pre => pre.length) (fun pre => valsN pre) (fun pre v => True)) _) (OwnFrom.and (OwnFrom.and (Own.from (boxed_own _ _ (fun _ => _)) _) (Own.from (boxed_own _ _ (fun _ => _)) _)) (ownFrom_below (Nat.le_refl _) (by simp; omega))))
    (fun c s W W' row h hg hr => h)
    ⟨⟨_, (hx0.alloc _).alloc _, World.ownsRow_nil _ _ _ _, trivial⟩, ⟨hx1.alloc _, hx2⟩, hB0⟩
    (fun k => { tmps := #[.pointer (some ⟨p, 0, none⟩), undef, .slice none 0 0, .pointer (some ⟨w.heap.size, 0, none⟩), .pointer (some ⟨w.heap.size + 1, 0, none⟩), .int .i64 (k : Int), .pointer (some ⟨p, 0, none⟩), .bool false, .func (.func 19) #[] #[.pointer (some ⟨w.heap.size, 0, none⟩)], .pointer (some ⟨p, 0, none⟩), .pointer (some ⟨p, 0, none⟩), .pointer (some ⟨p, 0, none⟩), .pointer (some ⟨p, 1, none⟩), .int .u64 (U t), .func (.func 22) #[] #[.pointer (some ⟨w.heap.size + 1 + 1, 0, none⟩)], .int .i64 (k : Int), undef, undef, undef, undef], defers := [] }) ?assign ?body ?done ?stop
  case assign =>
    intro l x W K hK
    gi_wp2
    exact hK
  case body =>
    rintro l pre k W ⟨⟨v, hv, hrow, -⟩, ⟨hv1, hv2⟩, hB⟩ hlt
    have hc1 := hv1.cell
    have hkeep := keep_any w.heap.size w.heap.size k pre v W hv hrow hB.size (Nat.le_refl _) hlt
    gi_wp2_with (refine ⟨trivial, ?_⟩; gi_at_call 19; refine (CallsIn.inRound l (callsIn_wide.2 hkeep)).mono ?_; rintro e w' ⟨rfl, v', z0, z1, z2, z3, z4⟩)
    exact ⟨z2, (z4 _ _ _ hv2 (by decide) (by omega)).trans (Eq.symm hv2), ⟨v', z0, z1, trivial⟩, ⟨z4 _ _ _ hv1 (by decide) (by omega), z4 _ _ _ hv2 (by decide) (by omega)⟩, hB.trans z3⟩
  case done =>
    rintro D ys W hD rfl ⟨⟨v, hv, hrow, -⟩, -, hB⟩ hK
    have hc := hv.cell
    gi_wp2
    refine ⟨by simp, .inl ⟨_, _, rfl, run_takeDeferred hK, ?_⟩⟩
    refine ⟨v, ?_, v, rfl, hB.trans (belowK_b (w := w) (Nat.le_refl _) W D _ _ (by simp at hD; omega) hK rfl rfl), ownsRow_putObj hrow _ hK rfl⟩
    simp [results, Try.f10, go_sem]
  case stop =>
    rintro D c pre W hD hpre h
    exact h.elim
end Go.Proofs.Ytaiahdhdalgiaaa
