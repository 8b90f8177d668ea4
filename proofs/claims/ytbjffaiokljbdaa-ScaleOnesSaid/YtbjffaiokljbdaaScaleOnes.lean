
/-
  ScaleOnes: a number is the sum of its bits' powers, whose places rise, from the lowest one to the highest; and whoever goes over them may end. Every input.
-/
import Derived.Test.YtbjffaiokljbdaaRows
import Derived.Test.YtbjffaiokljbdaaLaw
import Derived.Deep.CutRange
import Derived.Test.YtbjffaiokljbdaaOnesAll
import Derived.Test.YtbjffaiokljbdaaLog
import Derived.Test.YtbjffaiokljbdaaLoose
namespace Go.Proofs.Ytbjffaiokljbdaa.Ones
open Go Go.RowKit Go.ChangeShapes Go.WideShapes Go.ChangeAt
set_option linter.unusedVariables false
set_option linter.unusedSimpArgs false

def rowIs (w : World) (a : Option Addr) (L : List Nat) : Prop := ∀ j, j < L.length → ∃ g, a = some ⟨g, 0, none⟩ ∧ g < w.heap.size ∧ w.cell? ⟨g, j, none⟩ = some (.int .i64 ((L.getD j 0 : Nat) : Int))
theorem row_of {w : World} {base : Nat} {v : Value} {L : List Nat} (h : w.ownsRow base 3 1 v L.length (valsN L)) : ∃ (a : Option Addr) (cap : Nat), v = .slice a L.length cap ∧ rowIs w a L := by
  rcases h.2 with ⟨rfl, h0⟩ | ⟨g, cap, cur, rfl, -, hg, -⟩
  · exact ⟨none, 0, by rw [h0], fun j hj => by omega⟩
  · refine ⟨_, _, rfl, fun j hj => ⟨g, rfl, (Array.getElem?_eq_some_iff.1 hg).1, ?_⟩⟩
    have hc := h.cells (g := g) rfl j (.int .i64 ((L.getD j 0 : Nat) : Int)) (by unfold valsN; simp [hj])
    have hadd : (⟨g, 0, none⟩ : Addr).add j = ⟨g, j, none⟩ := by unfold Addr.add; split <;> simp_all
    rw [hadd] at hc
    exact hc
theorem row_below {w w' : World} {a : Option Addr} {L : List Nat} (h : rowIs w a L) (hb : Below w.heap.size w w') : rowIs w' a L := fun j hj => by
  obtain ⟨g, e, hg, hc⟩ := h j hj
  exact ⟨g, e, Nat.lt_of_lt_of_le hg hb.size, (hb.cell (p := ⟨g, j, none⟩) hg).trans hc⟩
theorem getD_at (L : List Nat) (j : Nat) (h : j < L.length) : L.getD j 0 = L[j] := by rw [List.getD_eq_getElem?_getD, List.getElem?_eq_getElem h]; rfl
def sumB (l : List Nat) : BitVec 64 := l.foldl (fun s i => s + 1#64 <<< i) 0#64
theorem sum_take (L : List Nat) (j : Nat) (h : j < L.length) : sumB (L.take (j + 1)) = sumB (L.take j) + 1#64 <<< (L.getD j 0) := by
  unfold sumB
  rw [List.take_add_one, List.getElem?_eq_getElem h, List.foldl_append, getD_at _ _ h]
  rfl
theorem sum_ones (x : BitVec 64) : ∀ k, k ≤ 64 → (sumB (onesTo x k)).toNat = x.toNat % 2 ^ k
  | 0, _ => by rw [onesTo_zero, Nat.pow_zero, Nat.mod_one]; rfl
  | k + 1, h => by
    have ih := sum_ones x k (by omega)
    have hp : (2 : Nat) ^ (k + 1) ≤ 2 ^ 64 := Nat.pow_le_pow_right (by omega) h
    have hm := Nat.mod_lt x.toNat (Nat.two_pow_pos k)
    have hs := Nat.mod_pow_succ (x := x.toNat) (b := 2) (k := k)
    have hbit : x.getLsbD k = decide (x.toNat / 2 ^ k % 2 = 1) := Nat.testBit_eq_decide_div_mod_eq
    have hd := Nat.mod_two_eq_zero_or_one (x.toNat / 2 ^ k)
    rw [onesTo_succ]
    cases hb : x.getLsbD k
    · rw [hb] at hbit
      have hz : x.toNat / 2 ^ k % 2 = 0 := by
        rcases hd with h | h
        · exact h
        · rw [h] at hbit; simp at hbit
      rw [if_neg (by decide), List.append_nil, ih, hs, hz, Nat.mul_zero, Nat.add_zero]
    · rw [hb] at hbit
      have hz : x.toNat / 2 ^ k % 2 = 1 := by simpa using hbit.symm
      rw [if_pos rfl]
      unfold sumB at ih ⊢
      rw [List.foldl_append]
      simp only [List.foldl_cons, List.foldl_nil]
      rw [BitVec.toNat_add, ih, hs, hz, BitVec.toNat_shiftLeft]
      rw [Nat.pow_succ] at hp
      have h1 : (1#64).toNat <<< k % 2 ^ 64 = 2 ^ k := by
        rw [Nat.shiftLeft_eq]
        show 1 * 2 ^ k % 2 ^ 64 = 2 ^ k
        rw [Nat.one_mul, Nat.mod_eq_of_lt (by have := Nat.two_pow_pos k; omega)]
      rw [h1]
      rw [Nat.mul_one, Nat.mod_eq_of_lt (by omega)]
theorem sum_all (x : BitVec 64) : sumB (onesTo x 64) = x := by
  apply BitVec.eq_of_toNat_eq
  rw [sum_ones x 64 (by omega), Nat.mod_eq_of_lt x.isLt]
theorem ones_mem (x : BitVec 64) (i : Nat) : i ∈ onesTo x 64 ↔ i < 64 ∧ x.getLsbD i = true := by
  unfold onesTo
  rw [List.mem_filter, List.mem_range]
theorem ones_at (x : BitVec 64) (j : Nat) (h : j < (onesTo x 64).length) : (onesTo x 64).getD j 0 < 64 ∧ x.getLsbD ((onesTo x 64).getD j 0) = true := by
  rw [getD_at _ _ h]
  exact (ones_mem x _).1 (List.getElem_mem h)
theorem ones_rise (x : BitVec 64) (i j : Nat) (hij : i < j) (h : j < (onesTo x 64).length) : (onesTo x 64).getD i 0 < (onesTo x 64).getD j 0 := by
  have hp : (onesTo x 64).Pairwise (· < ·) := (List.pairwise_lt_range (n := 64)).filter _
  rw [getD_at _ _ h, getD_at _ _ (Nat.lt_trans hij h)]
  exact List.pairwise_iff_getElem.1 hp i j (Nat.lt_trans hij h) h hij
theorem ones_first (x : BitVec 64) (h : 0 < (onesTo x 64).length) : zerosF x = (onesTo x 64).getD 0 0 := by
  obtain ⟨h1, h2⟩ := ones_at x 0 h
  refine zerosF_of x _ h1 h2 fun i hi => ?_
  cases hb : x.getLsbD i
  · rfl
  · exfalso
    obtain ⟨j, hj, e⟩ := List.getElem_of_mem ((ones_mem x i).2 ⟨by omega, hb⟩)
    rw [← getD_at _ _ hj] at e
    by_cases c : j = 0
    · subst c; omega
    · have := ones_rise x 0 j (by omega) hj
      omega
theorem ones_last (x : BitVec 64) (h : 0 < (onesTo x 64).length) : logF x = (((onesTo x 64).getD ((onesTo x 64).length - 1) 0 : Nat) : Int) := by
  obtain ⟨h1, h2⟩ := ones_at x ((onesTo x 64).length - 1) (by omega)
  refine logF_of x _ h1 h2 fun i hi => ?_
  cases hb : x.getLsbD i
  · rfl
  · exfalso
    have hi64 : i < 64 := by
      by_cases c : i < 64
      · exact c
      · rw [BitVec.getLsbD_of_ge _ _ (by omega)] at hb; cases hb
    obtain ⟨j, hj, e⟩ := List.getElem_of_mem ((ones_mem x i).2 ⟨hi64, hb⟩)
    rw [← getD_at _ _ hj] at e
    by_cases c : j = (onesTo x 64).length - 1
    · subst c; omega
    · have := ones_rise x j ((onesTo x 64).length - 1) (by omega) (by omega)
      omega
theorem conv_small (q : Nat) (h : q < 64) : (U (BitVec.ofNat 64 q)).toNat = q := by
  unfold U
  rw [BitVec.toNat_ofNat, Nat.mod_eq_of_lt (by omega)]
  rfl
theorem seq_nil (c : Value) (w : World) : (binOp .eql 31 (.func (.func 24) #[] #[c]) Value.nilFunc).run Try.prog w = .ok (.bool false) w := by kernel_rfl
attribute [local go_sem 3000] seq_nil
set_option maxHeartbeats 16000000 in
set_option maxRecDepth 100000 in
theorem walk (x : BitVec 64) (most : Int) (w : World) : Calls Try.prog 5 #[.int .u64 (U x), .int .i64 most] w fun r w' => r = .returned (.bool true) ∧ Below w.heap.size w w' := by
  obtain ⟨L, hL⟩ : ∃ L, L = onesTo x 64 := ⟨_, rfl⟩
  obtain ⟨m, em⟩ : ∃ m, most % 64 = m := ⟨_, rfl⟩
  have cC := collect_any x
  have cR := rones_any x
  have cN := fun n₀ Bs B M (m : Int) => ones_call x n₀ Bs B M m
  have c1 : ∀ w : World, Calls Try.prog 14 #[.int .u64 1] w fun e w' => e = .returned (.int .i64 0) ∧ w = w' := fun w => (log_any 1#64 w).mono fun _ _ q => ⟨by rw [q.1]; exact congrArg (fun i => Ending.returned (Value.int .i64 i)) (by decide +kernel), q.2⟩
  have hat := ones_at x
  have hrise := ones_rise x
  have hfirst := ones_first x
  have hlast := ones_last x
  have hsum := sum_all x
  have hle := onesTo_len x 64
  rw [← hL] at cC cR cN hat hrise hfirst hlast hsum hle
  clear hL
  go_enter Try.func5, Try.ntmps5
  go_upto_region 4 with (go_at_call 11; refine (ones_any x _).mono ?_; rintro e' w' ⟨rfl, rfl⟩)
  go_cut [6] from 10 (fun s6 wx => ∃ (a : Option Addr) (p : Nat), s6 = .slice a L.length p ∧ w.heap.size + 1 < wx.heap.size ∧ Hid (Below w.heap.size w wx) ∧ Hid (rowIs wx a L) ∧ Hid (wx.cell? ⟨w.heap.size, 0, none⟩ = some (.int .i64 most) ∧ wx.frozen? ⟨w.heap.size, 0, none⟩ = false ∧ wx.cell? ⟨w.heap.size + 1, 0, none⟩ = some (.int .u64 (U x))))
  case first =>
    go_wp2_with (go_at_call 12; refine (cC (w.heap.size + 1) _ (by simp) (by (first | (first | (go_simp; done) | (go_simp; (simp [↓IntWalk.iteOmega]; done)) | (go_simp; intros; omega) | (go_simp; simp [↓IntWalk.iteOmega]; intros; omega)) | (go_simp; simp [*]) | (simp [*])))).mono ?_; rintro e' w' ⟨v, rfl, hbl, hown⟩; obtain ⟨a1, p1, rfl, hrow⟩ := row_of hown; obtain ⟨hcw, hfw, hsw⟩ := below_ifs hbl; (try simp only [World.size_alloc, World.size_setCell, World.size_drew, size_drewN_] at hcw hfw hsw))
    all_goals go_meet
    all_goals exact ⟨_, _, rfl, by first | omega | (simp; done) | (simp; omega), Lib.hid (by (repeat (first | with_reducible exact Below.refl _ _ | with_reducible assumption | with_reducible refine below_drewN ?_ _ | with_reducible refine Below.drew ?_ | with_reducible refine below_alloc ?_ _ | (with_reducible refine Below.setCell ?_ (by first | (simp; done) | omega | (simp; omega)) _) | with_reducible refine belows ?_ (by assumption)))), Lib.hid hrow, Lib.hid ⟨by (first | (first | (go_simp; done) | (go_simp; (simp [↓IntWalk.iteOmega]; done)) | (go_simp; intros; omega) | (go_simp; simp [↓IntWalk.iteOmega]; intros; omega)) | (go_simp; simp [*]) | (simp [*])), by (first | (first | (go_simp; done) | (go_simp; (simp [↓IntWalk.iteOmega]; done)) | (go_simp; intros; omega) | (go_simp; simp [↓IntWalk.iteOmega]; intros; omega)) | (go_simp; simp [*]) | (simp [*])), by (first | (first | (go_simp; done) | (go_simp; (simp [↓IntWalk.iteOmega]; done)) | (go_simp; intros; omega) | (go_simp; simp [↓IntWalk.iteOmega]; intros; omega)) | (go_simp; simp [*]) | (simp [*]))⟩⟩
  case rest =>
  obtain ⟨a, p, rfl, hs, HB, HR, HX⟩ := hcut
  go_wp2_with fail
  go_loopw [7, 8] (fun s i wr => ∃ j : Nat, s = .int .u64 (U (sumB (L.take j))) ∧ i = .int .i64 (j : Int) ∧ j ≤ L.length ∧ w.heap.size + 1 < wr.heap.size ∧ Hid (Below w.heap.size w wr) ∧ Hid (rowIs wr a L) ∧ Hid (wr.cell? ⟨w.heap.size, 0, none⟩ = some (.int .i64 most) ∧ wr.frozen? ⟨w.heap.size, 0, none⟩ = false ∧ wr.cell? ⟨w.heap.size + 1, 0, none⟩ = some (.int .u64 (U x)))) (fun _ i _ => L.length - (intOf i).toNat)
  case atStart => exact ⟨0, rfl, rfl, by omega, hs, HB, HR, HX⟩
  case round =>
    obtain ⟨j, rfl, rfl, hj, hs2, HB2, HR2, HX2⟩ := hrel
    by_cases hlt : j < L.length
    · obtain ⟨g, rfl, hg, hc⟩ := HR2.out j hlt
      have hp := (hat j hlt).1
      have HS := Lib.hid (sum_take L j hlt)
      by_cases c0 : j = 0
      · subst c0
        generalize L.getD 0 0 = q at hp hc HS
        have d1 : decide ((q : Int) < 0) = false := decide_eq_false (by omega)
        have d2 : decide (63 < (q : Int)) = false := decide_eq_false (by omega)
        go_wp2_with fail
        refine wp_region_below (by kernel_rfl) (by kernel_rfl) (fun hcr hfr => ?_)
        (try simp only [World.size_alloc, World.size_setCell, World.size_drew, size_drewN_] at hcr hfr)
        repeat (go_big_quiet_step (fail))
        refine wpQuiet_nil ?_
        intro w' hbl
        clear hcr hfr
        obtain ⟨hcw, hfw, hsw⟩ := below_ifs hbl; (try simp only [World.size_alloc, World.size_setCell, World.size_drew, size_drewN_] at hcw hfw hsw)
        go_wp2_with fail
        go_roundw
        case rel => exact ⟨1, by (rw [HS.out, conv_small q hp]; try rfl), by go_num, by omega, by omega, Lib.hid (by have h1 := HB2.out; (repeat (first | with_reducible exact Below.refl _ _ | with_reducible assumption | with_reducible refine below_drewN ?_ _ | with_reducible refine Below.drew ?_ | with_reducible refine below_alloc ?_ _ | (with_reducible refine Below.setCell ?_ (by first | (simp; done) | omega | (simp; omega)) _) | with_reducible refine belows ?_ (by assumption)))), Lib.hid (row_below HR2.out hbl), by have h1 := HX2.out; exact Lib.hid ⟨by rw [hbl.cell (by show w.heap.size < _; omega)]; exact h1.1, by rw [hbl.frozen (by show w.heap.size < _; omega)]; exact h1.2.1, by rw [hbl.cell (by show w.heap.size + 1 < _; omega)]; exact h1.2.2⟩⟩
        case measure => (simp [intOf]; omega)
      · obtain ⟨k, rfl⟩ : ∃ k, j = k + 1 := ⟨j - 1, by omega⟩
        obtain ⟨g', e, hg', hc'⟩ := HR2.out k (by omega)
        cases e
        have hr := hrise k (k + 1) (by omega) hlt
        generalize L.getD (k + 1) 0 = q at hp hc HS hr
        generalize L.getD k 0 = q' at hc' hr
        have d1 : decide ((q : Int) < 0) = false := decide_eq_false (by omega)
        have d2 : decide (63 < (q : Int)) = false := decide_eq_false (by omega)
        have d3 : decide ((q : Int) ≤ (q' : Int)) = false := decide_eq_false (by omega)
        go_wp2_with fail
        refine wp_region_below (by kernel_rfl) (by kernel_rfl) (fun hcr hfr => ?_)
        (try simp only [World.size_alloc, World.size_setCell, World.size_drew, size_drewN_] at hcr hfr)
        repeat (go_big_quiet_step (fail))
        refine wpQuiet_nil ?_
        intro w' hbl
        clear hcr hfr
        obtain ⟨hcw, hfw, hsw⟩ := below_ifs hbl; (try simp only [World.size_alloc, World.size_setCell, World.size_drew, size_drewN_] at hcw hfw hsw)
        go_wp2_with fail
        go_roundw
        case rel => exact ⟨k + 1 + 1, by (rw [HS.out, conv_small q hp]; try rfl), by go_num, by omega, by omega, Lib.hid (by have h1 := HB2.out; (repeat (first | with_reducible exact Below.refl _ _ | with_reducible assumption | with_reducible refine below_drewN ?_ _ | with_reducible refine Below.drew ?_ | with_reducible refine below_alloc ?_ _ | (with_reducible refine Below.setCell ?_ (by first | (simp; done) | omega | (simp; omega)) _) | with_reducible refine belows ?_ (by assumption)))), Lib.hid (row_below HR2.out hbl), by have h1 := HX2.out; exact Lib.hid ⟨by rw [hbl.cell (by show w.heap.size < _; omega)]; exact h1.1, by rw [hbl.frozen (by show w.heap.size < _; omega)]; exact h1.2.1, by rw [hbl.cell (by show w.heap.size + 1 < _; omega)]; exact h1.2.2⟩⟩
        case measure => (simp [intOf]; omega)
    · obtain rfl : j = L.length := by omega
      rw [List.take_length, hsum]
      by_cases hz : 0 < L.length
      · have hf0 := hfirst hz
        have hl0 := hlast hz
        obtain ⟨g, rfl, hg, hc0⟩ := HR2.out 0 hz
        obtain ⟨g', e, hg', hc1⟩ := HR2.out (L.length - 1) (by omega)
        cases e
        obtain ⟨n, hn⟩ : ∃ n, L.length = n + 1 := ⟨L.length - 1, by omega⟩
        have en : L.length - 1 = n := by omega
        rw [en] at hc1 hl0
        have hd : decide ((0 : Int) < (L.length : Int)) = true := decide_eq_true (by omega)
        have ei : (L.length : Int) - 1 = (n : Int) := by omega
        have hnn : n < L.length := by omega
        rw [← hf0] at hc0
        rw [← hl0] at hc1
        obtain ⟨x0, f0, x1⟩ := HX2.out
        have hB2 := HB2.out
        clear HX HB HR HX2 HB2
        go_wp2_with fail
        refine wp_region_loose_at (d := 89) 31 32 (.slice none L.length L.length) (fun v => ∃ (a : Option Addr) (z : Nat), v = .slice a L.length z) (by kernel_rfl) (by kernel_rfl) rfl rfl (by kernel_rfl) (by kernel_rfl) rfl ?blind (by kernel_rfl) (fun hcr hfr => ?_)
        case blind =>
          rintro g _ ⟨a, z, rfl⟩ h0
          refine ⟨wanted_at (by kernel_rfl) g _, fun w => ?_⟩
          have e1 := eval_put_in (u := .slice a L.length z) h0 (by simp [undef])
          generalize g.put (some 89) (.slice a L.length z) = g' at e1 ⊢
          generalize g'.eval = y1 at e1 ⊢
          generalize g.eval = y2 at h0 ⊢
          simp [go_sem, e1, h0]
        (try simp only [World.size_alloc, World.size_setCell, World.size_drew, size_drewN_] at hcr hfr)
        simp only [List.take_succ_cons, List.take_zero, List.drop_succ_cons, List.drop_zero]
        repeat (go_big_quiet_step (first | (go_at_call 13; first | with_reducible exact Calls.regrown_of (zeros_any x _) | with_reducible exact regrown_k (zeros_any x _) | with_reducible exact regrown_1 (zeros_any x _) | with_reducible exact regrown_a (zeros_any x _)) | (go_at_call 14; first | with_reducible exact Calls.regrown_of (log_any x _) | with_reducible exact regrown_k (log_any x _) | with_reducible exact regrown_1 (log_any x _) | with_reducible exact regrown_a (log_any x _))))
        refine wpQuiet_nil ⟨by kernel_rfl, fun p => ⟨15, #[.int .u64 (U x)], by first | kernel_rfl | (simp [go_sem]; done), (cR _).mono fun _ _ ⟨v, he, hb, ho⟩ => by obtain ⟨a1, p1, rfl, _⟩ := row_of ho; exact ⟨_, he, ⟨_, _, rfl⟩, hb⟩⟩, ?_⟩
        simp only [Act.put, List.setIfInBounds_toArray, List.set_cons_succ, List.set_cons_zero]
        repeat (go_big_quiet_step (fail))
        refine wpQuiet_nil ⟨fun w' hbl => ?_, fun v hv w' hbl => ?_⟩
        all_goals (try simp only [Act.put, List.setIfInBounds_toArray, List.set_cons_succ, List.set_cons_zero])
        all_goals obtain ⟨hcw, hfw, hsw⟩ := below_ifs hbl
        all_goals go_wp2_with (first | (go_at_call 24; refine (cN w.heap.size (w.heap.size + 1) w'.heap.size w.heap.size m (by omega) _ (by omega) (by simp) (by omega) (by omega) (by (first | (first | (go_simp; done) | (go_simp; (simp [↓IntWalk.iteOmega]; done)) | (go_simp; intros; omega) | (go_simp; simp [↓IntWalk.iteOmega]; intros; omega)) | (go_simp; simp [*]) | (simp [*]))) (by (first | (first | (go_simp; done) | (go_simp; (simp [↓IntWalk.iteOmega]; done)) | (go_simp; intros; omega) | (go_simp; simp [↓IntWalk.iteOmega]; intros; omega)) | (go_simp; simp [*]) | (simp [*]))) (by first | (simp; done) | (go_simp; done)) (by (first | (first | (go_simp; done) | (go_simp; (simp [↓IntWalk.iteOmega]; done)) | (go_simp; intros; omega) | (go_simp; simp [↓IntWalk.iteOmega]; intros; omega)) | (go_simp; simp [*]) | (simp [*])))).mono ?_; rintro e2 w2 ⟨rfl, hb2, yB, yM⟩) | (go_at_call 14; (with_reducible refine (c1 _).mono ?_); rintro e w' ⟨rfl, rfl⟩))
        all_goals go_ret
        all_goals exact ⟨ret_bool (by first | rfl | (simp; done)), Below.trans (by (repeat (first | with_reducible exact Below.refl _ _ | with_reducible assumption | with_reducible refine below_drewN ?_ _ | with_reducible refine Below.drew ?_ | with_reducible refine below_alloc ?_ _ | (with_reducible refine Below.setCell ?_ (by first | (simp; done) | omega | (simp; omega)) _) | with_reducible refine belows ?_ (by assumption)))) hb2⟩
                
      · have hd : decide ((0 : Int) < (L.length : Int)) = false := decide_eq_false (by omega)
        obtain ⟨x0, f0, x1⟩ := HX2.out
        have hB2 := HB2.out
        clear HX HB HR HX2 HB2
        go_wp2_with fail
        refine wp_region_loose_at (d := 89) 31 32 (.slice none L.length L.length) (fun v => ∃ (a : Option Addr) (z : Nat), v = .slice a L.length z) (by kernel_rfl) (by kernel_rfl) rfl rfl (by kernel_rfl) (by kernel_rfl) rfl ?blind (by kernel_rfl) (fun hcr hfr => ?_)
        case blind =>
          rintro g _ ⟨a, z, rfl⟩ h0
          refine ⟨wanted_at (by kernel_rfl) g _, fun w => ?_⟩
          have e1 := eval_put_in (u := .slice a L.length z) h0 (by simp [undef])
          generalize g.put (some 89) (.slice a L.length z) = g' at e1 ⊢
          generalize g'.eval = y1 at e1 ⊢
          generalize g.eval = y2 at h0 ⊢
          simp [go_sem, e1, h0]
        (try simp only [World.size_alloc, World.size_setCell, World.size_drew, size_drewN_] at hcr hfr)
        simp only [List.take_succ_cons, List.take_zero, List.drop_succ_cons, List.drop_zero]
        repeat (go_big_quiet_step (first | (go_at_call 13; first | with_reducible exact Calls.regrown_of (zeros_any x _) | with_reducible exact regrown_k (zeros_any x _) | with_reducible exact regrown_1 (zeros_any x _) | with_reducible exact regrown_a (zeros_any x _)) | (go_at_call 14; first | with_reducible exact Calls.regrown_of (log_any x _) | with_reducible exact regrown_k (log_any x _) | with_reducible exact regrown_1 (log_any x _) | with_reducible exact regrown_a (log_any x _))))
        refine wpQuiet_nil ⟨by kernel_rfl, fun p => ⟨15, #[.int .u64 (U x)], by first | kernel_rfl | (simp [go_sem]; done), (cR _).mono fun _ _ ⟨v, he, hb, ho⟩ => by obtain ⟨a1, p1, rfl, _⟩ := row_of ho; exact ⟨_, he, ⟨_, _, rfl⟩, hb⟩⟩, ?_⟩
        simp only [Act.put, List.setIfInBounds_toArray, List.set_cons_succ, List.set_cons_zero]
        repeat (go_big_quiet_step (fail))
        refine wpQuiet_nil ⟨fun w' hbl => ?_, fun v hv w' hbl => ?_⟩
        all_goals (try simp only [Act.put, List.setIfInBounds_toArray, List.set_cons_succ, List.set_cons_zero])
        all_goals obtain ⟨hcw, hfw, hsw⟩ := below_ifs hbl
        all_goals go_wp2_with (first | (go_at_call 24; refine (cN w.heap.size (w.heap.size + 1) w'.heap.size w.heap.size m (by omega) _ (by omega) (by simp) (by omega) (by omega) (by (first | (first | (go_simp; done) | (go_simp; (simp [↓IntWalk.iteOmega]; done)) | (go_simp; intros; omega) | (go_simp; simp [↓IntWalk.iteOmega]; intros; omega)) | (go_simp; simp [*]) | (simp [*]))) (by (first | (first | (go_simp; done) | (go_simp; (simp [↓IntWalk.iteOmega]; done)) | (go_simp; intros; omega) | (go_simp; simp [↓IntWalk.iteOmega]; intros; omega)) | (go_simp; simp [*]) | (simp [*]))) (by first | (simp; done) | (go_simp; done)) (by (first | (first | (go_simp; done) | (go_simp; (simp [↓IntWalk.iteOmega]; done)) | (go_simp; intros; omega) | (go_simp; simp [↓IntWalk.iteOmega]; intros; omega)) | (go_simp; simp [*]) | (simp [*])))).mono ?_; rintro e2 w2 ⟨rfl, hb2, yB, yM⟩) | (go_at_call 14; (with_reducible refine (c1 _).mono ?_); rintro e w' ⟨rfl, rfl⟩))
        all_goals go_ret
        all_goals exact ⟨ret_bool (by first | rfl | (simp; done)), Below.trans (by (repeat (first | with_reducible exact Below.refl _ _ | with_reducible assumption | with_reducible refine below_drewN ?_ _ | with_reducible refine Below.drew ?_ | with_reducible refine below_alloc ?_ _ | (with_reducible refine Below.setCell ?_ (by first | (simp; done) | omega | (simp; omega)) _) | with_reducible refine belows ?_ (by assumption)))) hb2⟩
                

set_option maxRecDepth 100000 in
theorem lifted (os : Os) (started : os.Started) (H : Type) (enc : TypeId × Value → H) :
    ReturnsInHanded {} Try.checked os 5 .any (Rows.scaleOnesSpec.pre6 enc Try.prog Try.f5 Rows.scaleOnesRow.domain false) (Rows.scaleOnesSpec.post enc Try.prog Try.f5 false true false false) := by
  refine law_lift (C := Try.checked) (tb := 4) started (by kernel_rfl) (by kernel_rfl) Try.func5 rfl rfl Try.underlying4 (by kernel_rfl) (by kernel_rfl)
    (fun ds h => by match ds, h with | [_, _], _ => rfl)
    (ChangeSpec.witness6 (enc := enc) (C := Try.checked) false ⟨#[], #[.int .u64 0, .int .i64 0], []⟩ 8 (by kernel_rfl) (by kernel_rfl) (by kernel_rfl) (by kernel_rfl)) ?_
  intro W base args ds ps hval hA hlt hfz hsz
  rw [Try.params5] at hA hval hsz
  obtain ⟨v0, v1, d0, d1, p0, p1, rfl, rfl, rfl, h0, h1⟩ := trodAll_two hA
  obtain ⟨a0, rfl, rfl, rfl, w0⟩ := open_int Try.underlying22 (hval 0 _ v0 rfl rfl) h0
  obtain ⟨x, rfl⟩ := exists_U a0 w0
  obtain ⟨a1, rfl, rfl, rfl, w1⟩ := open_int Try.underlying3 (hval 1 _ v1 rfl rfl) h1
  exact walk x a1 W

theorem over : Rows.scaleOnesRow.holds Try.pinned (OpenSpec.ofChange Rows.scaleOnesSpec) :=
  OpenClaim.holds_of_wide 5 Try.f5 rfl rfl rfl rfl rfl rfl rfl ⟨rfl, rfl, rfl, rfl, rfl⟩ rfl rfl rfl rfl rfl (by kernel_rfl) Try.func5 (by kernel_rfl)
    (of_decide_eq_true (by kernel_rfl)) (by unfold Func.isWrapper; first | (rw [if_pos (by decide +kernel)]; kernel_rfl) | (rw [if_neg (by decide +kernel)]; exact ⟨rfl, rfl⟩))
    (fun os started H enc _ => lifted os started H enc)

theorem proved : Rows.ScaleOnesSaid := over
end Go.Proofs.Ytbjffaiokljbdaa.Ones
