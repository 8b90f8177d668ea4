
/-
  frames: a pool that was made: taking, giving, what is free.
-/
import Derived.Test.YtaiahdhdalgiaaaFramesM
import Derived.Test.YtaiahdhdalgiaaaTail
namespace Go.Proofs.Ytaiahdhdalgiaaa
open Go Go.RowKit
set_option linter.unusedVariables false
set_option linter.unusedSimpArgs false

theorem bit_bne (x : BitVec 64) (k : Nat) : (x >>> k &&& 1#64 != 0#64) = x.getLsbD k := by
  have h : x >>> k &&& 1#64 = if x.getLsbD k = true then 1#64 else 0#64 := by
    apply ext64
    intro j hj
    rw [BitVec.getLsbD_and, BitVec.getLsbD_ushiftRight]
    by_cases c : j = 0
    · subst c
      rw [Nat.add_zero]
      cases x.getLsbD k <;> rfl
    · have e : (1#64).getLsbD j = false := by
        rw [BitVec.getLsbD_one]
        simp [c]
      rw [e, Bool.and_false]
      cases x.getLsbD k
      · simp
      · simp [c]
  rw [h]
  cases x.getLsbD k <;> rfl
theorem new_bad (n : Int) (h : n < 1 ∨ 64 < n) (w : World) : Calls Try.prog 11 #[.int .i64 n] w fun r w' => r = .returned (.tuple #[.pointer none, .int .i64 2]) ∧ w = w' := by
  by_cases c : n < 1
  · have d1 : decide (n < 1) = true := decide_eq_true c
    go_enter Try.func11, Try.ntmps11
    go_wp2_with fail
    go_ret2
    exact ⟨rfl, rfl⟩
  · have d1 : decide (n < 1) = false := decide_eq_false c
    have d2 : decide (64 < n) = true := decide_eq_true (by omega)
    go_enter Try.func11, Try.ntmps11
    go_wp2_with fail
    go_ret2
    exact ⟨rfl, rfl⟩
theorem new_good (n : Nat) (h1 : 0 < n) (h2 : n ≤ 64) (w : World) : Calls Try.prog 11 #[.int .i64 (n : Int)] w fun r w' => r = .returned (.tuple #[.pointer (some ⟨w.heap.size, 0, none⟩), .int .i64 0]) ∧ w' = w.alloc (.cells #[.int .i64 (n : Int), .int .u64 0] 27) := by
  have d1 : decide ((n : Int) < 1) = false := decide_eq_false (by omega)
  have d2 : decide (64 < (n : Int)) = false := decide_eq_false (by omega)
  go_enter Try.func11, Try.ntmps11
  go_wp2_with fail
  go_ret2
  exact ⟨rfl, rfl⟩
theorem open_bit (n : Nat) (t : BitVec 64) (h1 : 0 < n) (h2 : n ≤ 64) (j : Nat) (hj : j < 64) : (openW n t).getLsbD j = (decide (j < n) && !t.getLsbD j) := by
  have hm : ∀ n : Fin 64, ∀ j : Fin 64, ((1#64 <<< n.val <<< 1 - 1#64)).getLsbD j.val = decide (j.val < n.val + 1) := by decide +kernel
  have h := hm ⟨n - 1, by omega⟩ ⟨j, hj⟩
  simp only at h
  unfold openW
  rw [BitVec.getLsbD_and, h, BitVec.getLsbD_not]
  rw [show n - 1 + 1 = n by omega, decide_eq_true hj, Bool.true_and, Bool.and_comm]
set_option maxHeartbeats 4000000 in
theorem take_full (n : Nat) (t : BitVec 64) (p : Nat) (w : World) (hn : 0 < n) (hm : n ≤ 64) (hb : p < w.heap.size) (h0 : w.cell? ⟨p, 0, none⟩ = some (.int .i64 (n : Int))) (h1 : w.cell? ⟨p, 1, none⟩ = some (.int .u64 (U t))) (hz : zerosF (openW n t) = 64) : Calls Try.prog 6 #[.pointer (some ⟨p, 0, none⟩)] w fun r w' => r = .returned (.tuple #[.int .i64 0, .int .i64 15]) ∧ Below w.heap.size w w' := by
  have cn := none_made n t p w hn hb h0 h1
  have co := fun w => open_made n t w hn hm
  have cz := zeros_any (openW n t)
  rw [hz] at cz
  clear hn hm
  go_enter Try.func6, Try.ntmps6
  go_wp2_with (first | (go_at_call 16; (with_reducible refine (cn).mono ?_); rintro e w' ⟨rfl, rfl⟩) | (go_at_call 18; (with_reducible refine (co _).mono ?_); rintro e w' ⟨rfl, hbl⟩; obtain ⟨hcw, hfw, hsw⟩ := below_ifs hbl; (try simp only [World.size_alloc, World.size_setCell, World.size_drew, size_drewN_] at hcw hfw hsw)) | (go_at_call 17; (with_reducible refine (cz _).mono ?_); rintro e w' ⟨rfl, hbl⟩; obtain ⟨hcw, hfw, hsw⟩ := below_ifs hbl; (try simp only [World.size_alloc, World.size_setCell, World.size_drew, size_drewN_] at hcw hfw hsw)))
  go_ret2
  exact ⟨rfl, by (repeat (first | with_reducible exact Below.refl _ _ | with_reducible assumption | with_reducible refine below_drewN ?_ _ | with_reducible refine Below.drew ?_ | with_reducible refine below_alloc ?_ _ | (with_reducible refine Below.setCell ?_ (by first | (simp; done) | omega | (simp; omega)) _) | with_reducible refine belows ?_ (by assumption)))⟩
set_option maxHeartbeats 4000000 in
theorem take_one (n : Nat) (t : BitVec 64) (p k : Nat) (w : World) (hn : 0 < n) (hm : n ≤ 64) (hb : p < w.heap.size) (h0 : w.cell? ⟨p, 0, none⟩ = some (.int .i64 (n : Int))) (h1 : w.cell? ⟨p, 1, none⟩ = some (.int .u64 (U t))) (hf : w.frozen? ⟨p, 1, none⟩ = false) (hz : zerosF (openW n t) = k) (hk : k < 64) : Calls Try.prog 6 #[.pointer (some ⟨p, 0, none⟩)] w fun r w' => r = .returned (.tuple #[.int .i64 (k : Int), .int .i64 0]) ∧ ∃ w1, Below w.heap.size w w1 ∧ w' = w1.setCell ⟨p, 1, none⟩ (.int .u64 (U (t ||| 1#64 <<< k))) := by
  have cn := none_made n t p w hn hb h0 h1
  have co := fun w => open_made n t w hn hm
  have cz := zeros_any (openW n t)
  rw [hz] at cz
  clear hn hm hz
  have hk2 : ((k : Int) == 64) = false := by rw [beq_eq_false_iff_ne]; omega
  go_enter Try.func6, Try.ntmps6
  go_wp2_with (first | (go_at_call 16; (with_reducible refine (cn).mono ?_); rintro e w' ⟨rfl, rfl⟩) | (go_at_call 18; (with_reducible refine (co _).mono ?_); rintro e w' ⟨rfl, hbl⟩; obtain ⟨hcw, hfw, hsw⟩ := below_ifs hbl; (try simp only [World.size_alloc, World.size_setCell, World.size_drew, size_drewN_] at hcw hfw hsw)) | (go_at_call 17; (with_reducible refine (cz _).mono ?_); rintro e w' ⟨rfl, hbl⟩; obtain ⟨hcw, hfw, hsw⟩ := below_ifs hbl; (try simp only [World.size_alloc, World.size_setCell, World.size_drew, size_drewN_] at hcw hfw hsw)))
  refine wp_region_below_tail 11 (by kernel_rfl) (by kernel_rfl) (fun hcr hfr => ?_)
  (try simp only [World.size_alloc, World.size_setCell, World.size_drew, size_drewN_] at hcr hfr)
  simp only [List.take_succ_cons, List.take_zero, List.drop_succ_cons, List.drop_zero]
  repeat (go_big_quiet_step ((fail)))
  refine wpQuiet_nil ?_
  intro w' hbl
  clear hcr hfr
  obtain ⟨hcw, hfw, hsw⟩ := below_ifs hbl; (try simp only [World.size_alloc, World.size_setCell, World.size_drew, size_drewN_] at hcw hfw hsw)
  go_wp2_with fail
  go_ret2
  exact ⟨rfl, w', by (repeat (first | with_reducible exact Below.refl _ _ | with_reducible assumption | with_reducible refine below_drewN ?_ _ | with_reducible refine Below.drew ?_ | with_reducible refine below_alloc ?_ _ | (with_reducible refine Below.setCell ?_ (by first | (simp; done) | omega | (simp; omega)) _) | with_reducible refine belows ?_ (by assumption))), rfl⟩
set_option maxHeartbeats 4000000 in
theorem taken_made (n : Nat) (t : BitVec 64) (p : Nat) (i : Int) (w : World) (hn : 0 < n) (hm : n ≤ 64) (hb : p < w.heap.size) (h0 : w.cell? ⟨p, 0, none⟩ = some (.int .i64 (n : Int))) (h1 : w.cell? ⟨p, 1, none⟩ = some (.int .u64 (U t))) : Calls Try.prog 9 #[.pointer (some ⟨p, 0, none⟩), .int .i64 i] w fun r w' => r = .returned (.bool (decide (0 ≤ i) && (decide (i < (n : Int)) && t.getLsbD i.toNat))) ∧ Below w.heap.size w w' := by
  have cn := none_made n t p w hn hb h0 h1
  clear hn
  by_cases c0 : 0 ≤ i
  · obtain ⟨k, rfl⟩ : ∃ k : Nat, i = (k : Int) := ⟨i.toNat, by omega⟩
    rw [decide_eq_true c0]
    by_cases c1 : (k : Int) < (n : Int)
    · have hk : k < 64 := by omega
      have hbt := bit_bne t k
      rw [decide_eq_true c1]
      clear hm
      go_enter Try.func9, Try.ntmps9
      go_wp2_with (first | (go_at_call 16; (with_reducible refine (cn).mono ?_); rintro e w' ⟨rfl, rfl⟩))
      go_ret
      exact ⟨ret_bool (by rw [Bool.true_and, Bool.true_and]; rfl), by (repeat (first | with_reducible exact Below.refl _ _ | with_reducible assumption | with_reducible refine below_drewN ?_ _ | with_reducible refine Below.drew ?_ | with_reducible refine below_alloc ?_ _ | (with_reducible refine Below.setCell ?_ (by first | (simp; done) | omega | (simp; omega)) _) | with_reducible refine belows ?_ (by assumption)))⟩
    · rw [decide_eq_false c1]
      have d1 : decide ((k : Int) < (n : Int)) = false := decide_eq_false c1
      clear hm
      go_enter Try.func9, Try.ntmps9
      go_wp2_with (first | (go_at_call 16; (with_reducible refine (cn).mono ?_); rintro e w' ⟨rfl, rfl⟩))
      go_ret
      exact ⟨ret_bool (by simp), by (repeat (first | with_reducible exact Below.refl _ _ | with_reducible assumption | with_reducible refine below_drewN ?_ _ | with_reducible refine Below.drew ?_ | with_reducible refine below_alloc ?_ _ | (with_reducible refine Below.setCell ?_ (by first | (simp; done) | omega | (simp; omega)) _) | with_reducible refine belows ?_ (by assumption)))⟩
  · rw [decide_eq_false c0]
    have d0 : decide (0 ≤ i) = false := decide_eq_false c0
    clear hm
    go_enter Try.func9, Try.ntmps9
    go_wp2_with (first | (go_at_call 16; (with_reducible refine (cn).mono ?_); rintro e w' ⟨rfl, rfl⟩))
    go_ret
    exact ⟨ret_bool (by simp), by (repeat (first | with_reducible exact Below.refl _ _ | with_reducible assumption | with_reducible refine below_drewN ?_ _ | with_reducible refine Below.drew ?_ | with_reducible refine below_alloc ?_ _ | (with_reducible refine Below.setCell ?_ (by first | (simp; done) | omega | (simp; omega)) _) | with_reducible refine belows ?_ (by assumption)))⟩
theorem give_bad (n : Nat) (t : BitVec 64) (p : Nat) (i : Int) (w : World) (hn : 0 < n) (hb : p < w.heap.size) (h0 : w.cell? ⟨p, 0, none⟩ = some (.int .i64 (n : Int))) (h1 : w.cell? ⟨p, 1, none⟩ = some (.int .u64 (U t))) (hi : i < 0 ∨ (n : Int) ≤ i) : Calls Try.prog 7 #[.pointer (some ⟨p, 0, none⟩), .int .i64 i] w fun r w' => r = .returned (.int .i64 2) ∧ Below w.heap.size w w' := by
  have cn := none_made n t p w hn hb h0 h1
  clear hn
  by_cases c : i < 0
  · have d0 : decide (i < 0) = true := decide_eq_true c
    clear hi
    go_enter Try.func7, Try.ntmps7
    go_wp2_with (first | (go_at_call 16; (with_reducible refine (cn).mono ?_); rintro e w' ⟨rfl, rfl⟩))
    go_ret
    exact ⟨rfl, by (repeat (first | with_reducible exact Below.refl _ _ | with_reducible assumption | with_reducible refine below_drewN ?_ _ | with_reducible refine Below.drew ?_ | with_reducible refine below_alloc ?_ _ | (with_reducible refine Below.setCell ?_ (by first | (simp; done) | omega | (simp; omega)) _) | with_reducible refine belows ?_ (by assumption)))⟩
  · have d0 : decide (i < 0) = false := decide_eq_false c
    have d1 : decide ((n : Int) ≤ i) = true := decide_eq_true (by omega)
    clear hi
    go_enter Try.func7, Try.ntmps7
    go_wp2_with (first | (go_at_call 16; (with_reducible refine (cn).mono ?_); rintro e w' ⟨rfl, rfl⟩))
    go_ret
    exact ⟨rfl, by (repeat (first | with_reducible exact Below.refl _ _ | with_reducible assumption | with_reducible refine below_drewN ?_ _ | with_reducible refine Below.drew ?_ | with_reducible refine below_alloc ?_ _ | (with_reducible refine Below.setCell ?_ (by first | (simp; done) | omega | (simp; omega)) _) | with_reducible refine belows ?_ (by assumption)))⟩
set_option maxHeartbeats 4000000 in
theorem give_none (n : Nat) (t : BitVec 64) (p k : Nat) (w : World) (hn : 0 < n) (hm : n ≤ 64) (hb : p < w.heap.size) (h0 : w.cell? ⟨p, 0, none⟩ = some (.int .i64 (n : Int))) (h1 : w.cell? ⟨p, 1, none⟩ = some (.int .u64 (U t))) (hk : k < n) (ht : t.getLsbD k = false) : Calls Try.prog 7 #[.pointer (some ⟨p, 0, none⟩), .int .i64 (k : Int)] w fun r w' => r = .returned (.int .i64 13) ∧ Below w.heap.size w w' := by
  have cn := none_made n t p w hn hb h0 h1
  have ct := taken_made n t p (k : Int) w hn hm hb h0 h1
  rw [decide_eq_true (by omega), decide_eq_true (by omega), show ((k : Int)).toNat = k from rfl, ht] at ct
  have d0 : decide ((k : Int) < 0) = false := decide_eq_false (by omega)
  have d1 : decide (n ≤ k) = false := decide_eq_false (by omega)
  clear hn hm hk ht
  go_enter Try.func7, Try.ntmps7
  go_wp2_with (first | (go_at_call 16; (with_reducible refine (cn).mono ?_); rintro e w' ⟨rfl, rfl⟩) | (go_at_call 9; (with_reducible refine (ct).mono ?_); rintro e w' ⟨rfl, hbl⟩; obtain ⟨hcw, hfw, hsw⟩ := below_ifs hbl; (try simp only [World.size_alloc, World.size_setCell, World.size_drew, size_drewN_] at hcw hfw hsw)))
  go_ret
  exact ⟨rfl, by (repeat (first | with_reducible exact Below.refl _ _ | with_reducible assumption | with_reducible refine below_drewN ?_ _ | with_reducible refine Below.drew ?_ | with_reducible refine below_alloc ?_ _ | (with_reducible refine Below.setCell ?_ (by first | (simp; done) | omega | (simp; omega)) _) | with_reducible refine belows ?_ (by assumption)))⟩
set_option maxHeartbeats 4000000 in
theorem give_one (n : Nat) (t : BitVec 64) (p k : Nat) (w : World) (hn : 0 < n) (hm : n ≤ 64) (hb : p < w.heap.size) (h0 : w.cell? ⟨p, 0, none⟩ = some (.int .i64 (n : Int))) (h1 : w.cell? ⟨p, 1, none⟩ = some (.int .u64 (U t))) (hf : w.frozen? ⟨p, 1, none⟩ = false) (hk : k < n) (ht : t.getLsbD k = true) : Calls Try.prog 7 #[.pointer (some ⟨p, 0, none⟩), .int .i64 (k : Int)] w fun r w' => r = .returned (.int .i64 0) ∧ ∃ w1, Below w.heap.size w w1 ∧ w' = w1.setCell ⟨p, 1, none⟩ (.int .u64 (U (t &&& ~~~(1#64 <<< k)))) := by
  have cn := none_made n t p w hn hb h0 h1
  have ct := taken_made n t p (k : Int) w hn hm hb h0 h1
  rw [decide_eq_true (by omega), decide_eq_true (by omega), show ((k : Int)).toNat = k from rfl, ht] at ct
  have d0 : decide ((k : Int) < 0) = false := decide_eq_false (by omega)
  have d1 : decide (n ≤ k) = false := decide_eq_false (by omega)
  have hk2 : k < 64 := by omega
  clear hn hm hk ht
  go_enter Try.func7, Try.ntmps7
  go_wp2_with (first | (go_at_call 16; (with_reducible refine (cn).mono ?_); rintro e w' ⟨rfl, rfl⟩) | (go_at_call 9; (with_reducible refine (ct).mono ?_); rintro e w' ⟨rfl, hbl⟩; obtain ⟨hcw, hfw, hsw⟩ := below_ifs hbl; (try simp only [World.size_alloc, World.size_setCell, World.size_drew, size_drewN_] at hcw hfw hsw)))
  refine wp_region_below_tail 11 (by kernel_rfl) (by kernel_rfl) (fun hcr hfr => ?_)
  (try simp only [World.size_alloc, World.size_setCell, World.size_drew, size_drewN_] at hcr hfr)
  simp only [List.take_succ_cons, List.take_zero, List.drop_succ_cons, List.drop_zero]
  repeat (go_big_quiet_step ((fail)))
  refine wpQuiet_nil ?_
  intro w' hbl
  clear hcr hfr
  obtain ⟨hcw, hfw, hsw⟩ := below_ifs hbl; (try simp only [World.size_alloc, World.size_setCell, World.size_drew, size_drewN_] at hcw hfw hsw)
  go_wp2_with fail
  go_ret
  exact ⟨rfl, w', by (repeat (first | with_reducible exact Below.refl _ _ | with_reducible assumption | with_reducible refine below_drewN ?_ _ | with_reducible refine Below.drew ?_ | with_reducible refine below_alloc ?_ _ | (with_reducible refine Below.setCell ?_ (by first | (simp; done) | omega | (simp; omega)) _) | with_reducible refine belows ?_ (by assumption))), rfl⟩
theorem own_pos {w : World} {base : Nat} {v : Value} {n : Nat} {xs : List Value} (h : w.ownsRow base 3 1 v n xs) : ∃ (ad : Option Addr) (cp : Nat), v = .slice ad n cp := by
  rcases h.2 with ⟨rfl, rfl⟩ | ⟨g, cap, cur, rfl, -⟩
  · exact ⟨none, 0, rfl⟩
  · exact ⟨_, _, rfl⟩
set_option maxHeartbeats 4000000 in
set_option maxRecDepth 100000 in
theorem free_made (n : Nat) (t : BitVec 64) (p : Nat) (w : World) (hn : 0 < n) (hm : n ≤ 64) (hb : p < w.heap.size) (h0 : w.cell? ⟨p, 0, none⟩ = some (.int .i64 (n : Int))) (h1 : w.cell? ⟨p, 1, none⟩ = some (.int .u64 (U t))) : Calls Try.prog 8 #[.pointer (some ⟨p, 0, none⟩)] w fun r w' => r = .returned (.int .i64 ((n : Int) - ((onesTo t 64).length : Int))) ∧ Below w.heap.size w w' := by
  have cn := none_made n t p w hn hb h0 h1
  have hle := onesTo_len t 64
  have cA : ∀ w' : World, w'.cell? ⟨p, 0, none⟩ = some (.int .i64 (n : Int)) → w'.cell? ⟨p, 1, none⟩ = some (.int .u64 (U t)) → p < w'.heap.size → Calls Try.prog 10 #[.pointer (some ⟨p, 0, none⟩)] w' fun r w2 => ∃ u, r = .returned u ∧ (∃ (ad : Option Addr) (z : Nat), u = .slice ad (onesTo t 64).length z) ∧ Below w'.heap.size w' w2 := fun w' e0 e1 eb => (all_made n t p w' hn eb e0 e1).mono fun _ _ ⟨v, q1, q2, q3⟩ => ⟨v, q1, own_pos q3, q2⟩
  generalize (onesTo t 64).length = L at hle cA ⊢
  clear hn
  go_enter Try.func8, Try.ntmps8
  go_wp2_with (first | (go_at_call 16; (with_reducible refine (cn).mono ?_); rintro e w' ⟨rfl, rfl⟩))
  refine wp_region_loose_at (d := 11) 6 7 (.slice none L L) (fun v => ∃ (a : Option Addr) (z : Nat), v = .slice a L z) (by kernel_rfl) (by kernel_rfl) rfl rfl (by kernel_rfl) (by kernel_rfl) rfl ?blind (by kernel_rfl) (fun hcr hfr => ?_)
  case blind =>
    rintro g _ ⟨a, z, rfl⟩ e0
    refine ⟨wanted_at (by kernel_rfl) g _, fun w => ?_⟩
    have e1 := eval_put_in (u := .slice a L z) e0 (by simp [undef])
    generalize g.put (some 11) (.slice a L z) = g' at e1 ⊢
    generalize g'.eval = y1 at e1 ⊢
    generalize g.eval = y2 at e0 ⊢
    simp [go_sem, e1, e0]
  (try simp only [World.size_alloc, World.size_setCell, World.size_drew, size_drewN_] at hcr hfr)
  simp only [List.take_succ_cons, List.take_zero, List.drop_succ_cons, List.drop_zero]
  repeat (go_big_quiet_step (fail))
  refine wpQuiet_nil ⟨by kernel_rfl, fun q => ⟨10, #[.pointer (some ⟨p, 0, none⟩)], by first | kernel_rfl | (simp [go_sem]; done), cA _ (by rw [hcr, if_pos hb]; exact h0) (by rw [hcr, if_pos hb]; exact h1) (Nat.lt_of_lt_of_le hb (below_regrown w q.d q.os).size)⟩, ?_⟩
  simp only [Act.put, List.setIfInBounds_toArray, List.set_cons_succ, List.set_cons_zero]
  repeat (go_big_quiet_step (fail))
  refine wpQuiet_nil ⟨fun w' hbl => ?_, fun v hv w' hbl => ?_⟩
  all_goals (try simp only [Act.put, List.setIfInBounds_toArray, List.set_cons_succ, List.set_cons_zero])
  all_goals go_wp2_with fail
  all_goals go_ret
  all_goals exact ⟨rfl, by (repeat (first | with_reducible exact Below.refl _ _ | with_reducible assumption | with_reducible refine below_drewN ?_ _ | with_reducible refine Below.drew ?_ | with_reducible refine below_alloc ?_ _ | (with_reducible refine Below.setCell ?_ (by first | (simp; done) | omega | (simp; omega)) _) | with_reducible refine belows ?_ (by assumption)))⟩
end Go.Proofs.Ytaiahdhdalgiaaa
