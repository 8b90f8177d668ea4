
/-
  PteRight: an entry that is not valid is right; one with fewer rights than one of a page that is right is right, as long as it may still be read, or run; and what a table's entry has is told by its number. Every input.
-/
import Derived.Test.YtnfaalknhcenpaaRows
import Derived.Test.YtnfaalknhcenpaaLaw
import Derived.Test.YtnfaalknhcenpaaPteBackW
import Derived.Test.YtnfaalknhcenpaaWalk
namespace Go.Proofs.Ytnfaalknhcenpaa.PteRight
open Go Go.RowKit Go.ChangeShapes Go.WideShapes Go.ChangeAt
set_option linter.unusedVariables false
set_option linter.unusedSimpArgs false

theorem leaf_b (e : Ent) (r : Bool) (h : leafF e = r) (w : World) : Calls Try.prog 17 #[.agg #[.bool e.b0, .bool e.b1, .bool e.b2, .bool e.b3, .bool e.b4, .bool e.b5, .bool e.b6, .bool e.b7, .bool e.b8, .bool e.b9, .bool e.b10, .bool e.b11, .int .u64 (U e.f)]] w fun x w' => x = .returned (.bool r) ∧ Below w.heap.size w w' :=
  (leaf_any e w).mono fun _ _ g => ⟨by rw [g.1, h], by rw [← g.2]; exact (Below.refl _ _).alloc (Nat.le_refl _) _⟩
theorem right_b (e : Ent) (r : Bool) (h : rightF e = r) (w : World) : Calls Try.prog 19 #[.agg #[.bool e.b0, .bool e.b1, .bool e.b2, .bool e.b3, .bool e.b4, .bool e.b5, .bool e.b6, .bool e.b7, .bool e.b8, .bool e.b9, .bool e.b10, .bool e.b11, .int .u64 (U e.f)]] w fun x w' => x = .returned (.bool r) ∧ Below w.heap.size w w' :=
  (right_any e w).mono fun _ _ g => ⟨by rw [g.1, h], g.2⟩
theorem word_b (e : Ent) (r : BitVec 64) (h : orE e = r) (w : World) : Calls Try.prog 14 #[.agg #[.bool e.b0, .bool e.b1, .bool e.b2, .bool e.b3, .bool e.b4, .bool e.b5, .bool e.b6, .bool e.b7, .bool e.b8, .bool e.b9, .bool e.b10, .bool e.b11, .int .u64 (U e.f)]] w fun x w' => x = .returned (.int .u64 (U r)) ∧ Below w.heap.size w w' :=
  (word_any e w).mono fun _ _ g => ⟨by rw [g.1, word_or, h], g.2⟩
theorem of_b (x : BitVec 64) (e : Ent) (h : ofE x = e) (w : World) : Calls Try.prog 13 #[.int .u64 (U x)] w fun r w' => r = .returned (.agg #[.bool e.b0, .bool e.b1, .bool e.b2, .bool e.b3, .bool e.b4, .bool e.b5, .bool e.b6, .bool e.b7, .bool e.b8, .bool e.b9, .bool e.b10, .bool e.b11, .int .u64 (U e.f)]) ∧ Below w.heap.size w w' :=
  (of_any x w).mono fun _ _ g => ⟨by rw [g.1, h], g.2⟩
def tabE (f : BitVec 64) : Ent := ⟨true, false, false, false, false, false, false, false, false, false, false, false, (f &&& 65535#64)⟩
theorem tab_lsb (f : BitVec 64) (j : Nat) : (f &&& 65535#64).getLsbD j = (decide (j < 16) && f.getLsbD j) := by
  rw [show (65535#64) = maskF 16 from rfl, BitVec.getLsbD_and, mask_lsb _ (by omega), Bool.and_comm]; rfl
theorem tab_word (f : BitVec 64) : orE (tabE f) = 1#64 + (f &&& 65535#64) <<< 10 := by
  rw [add_apart]
  · apply ext64
    intro j hj
    rw [or_lsb _ _ hj, BitVec.getLsbD_or, BitVec.getLsbD_shiftLeft, tab_lsb]
    simp only [tabE, tab_lsb]
    have e1 : (1#64).getLsbD j = decide (j = 0) := by
      rw [show (1#64) = BitVec.twoPow 64 0 from rfl, BitVec.getLsbD_twoPow]
      by_cases c : j = 0
      · subst c; rfl
      · simp [c]; omega
    rw [e1]
    by_cases c : 10 ≤ j
    · have c0 : ¬ j = 0 := by omega
      have c1 : ¬ (0 : Int).toNat = j := by simp; omega
      rw [decide_eq_false c1, decide_eq_false c0]
      by_cases c2 : j - 10 < 16
      · simp [c, c2, hj, show j < 54 by omega]
      · simp [c2]
    · have c1 : ((0 : Int).toNat = j) = (j = 0) := by simp; exact eq_comm
      simp [c, show j < 10 by omega, eq_comm]
  · intro j hj
    have e1 : (1#64).getLsbD j = decide (j = 0) := by
      rw [show (1#64) = BitVec.twoPow 64 0 from rfl, BitVec.getLsbD_twoPow]
      by_cases c : j = 0
      · subst c; rfl
      · simp [c]; omega
    rw [e1, BitVec.getLsbD_shiftLeft]
    by_cases c : j = 0
    · subst c; simp
    · simp [c]
theorem tab_of (f : BitVec 64) : ofE (1#64 + (f &&& 65535#64) <<< 10) = tabE f := by
  rw [← tab_word, back_is]
  unfold tabE
  congr 1
  apply ext64
  intro j hj
  rw [BitVec.getLsbD_and, tab_lsb, mask_lsb _ (by omega)]
  simp only [show (44 : Int).toNat = 44 from rfl]
  by_cases c : j < 16
  · rw [decide_eq_true (show j < 44 by omega)]; simp
  · simp [c]
theorem tab_small (f : BitVec 64) : decide (17592186044415 < U (f &&& 65535#64)) = false := by
  have h : (f &&& 65535#64).toNat ≤ 65535 := by rw [BitVec.toNat_and]; exact Nat.and_le_right
  unfold U
  exact decide_eq_false (by omega)
theorem right_tab (f : BitVec 64) : rightF (tabE f) = true := by
  unfold rightF tabE leafF
  simp only [tab_small]
  rfl
theorem fewer_x : ∀ b1 b2 b3 b4 b6 b7 b8 b9 b10 b11 q : Bool, (!(b2 && !b1) && !(b8 && !b2) && !(b9 && !b1) && !q && ((b1 || b2 || b3) || (!b4 && !b6 && !b7 && !b8 && !b9 && !b10 && !b11))) = true → (b1 || b3) = true → (!(false && !b1) && !(false && !false) && !(b9 && !b1) && !q && ((b1 || false || b3) || (!b4 && !b6 && !b7 && !false && !b9 && !b10 && !b11))) = true := by decide +kernel
theorem fewer_y : ∀ b1 b2 b3 b4 b6 b7 b8 b9 b10 b11 q : Bool, (!(b2 && !b1) && !(b8 && !b2) && !(b9 && !b1) && !q && ((b1 || b2 || b3) || (!b4 && !b6 && !b7 && !b8 && !b9 && !b10 && !b11))) = true → (b1 || b2 || b3) = true → (!(b2 && !b1) && !(false && !b2) && !(false && !b1) && !q && ((b1 || b2 || b3) || (!b4 && !b6 && !b7 && !false && !false && !b10 && !b11))) = true := by decide +kernel
theorem fewer_z : ∀ b1 b2 b3 b4 b6 b7 b8 b9 b10 b11 q : Bool, (!(b2 && !b1) && !(b8 && !b2) && !(b9 && !b1) && !q && ((b1 || b2 || b3) || (!b4 && !b6 && !b7 && !b8 && !b9 && !b10 && !b11))) = true → (b1 || b2 || b3) = true → (!(b2 && !b1) && !(b8 && !b2) && !(b9 && !b1) && !q && ((b1 || b2 || b3) || (!false && !false && !false && !b8 && !b9 && !false && !false))) = true := by decide +kernel

set_option maxHeartbeats 8000000 in
set_option maxRecDepth 100000 in
theorem walk_r (b0 b1 b2 b3 b4 b5 b6 b7 b8 b9 b10 b11 : Bool) (f : BitVec 64) (w : World) (hr : rightF ⟨b0, b1, b2, b3, b4, b5, b6, b7, b8, b9, b10, b11, f⟩ = false) :
    Calls Try.prog 6 #[.agg #[.bool b0, .bool b1, .bool b2, .bool b3, .bool b4, .bool b5, .bool b6, .bool b7, .bool b8, .bool b9, .bool b10, .bool b11, .int .u64 (U f)]] w fun r w' => r = .returned (.bool true) ∧ Below w.heap.size w w' := by
  have cf : ∀ w : World, Calls Try.prog 19 #[.agg #[.bool false, .bool b1, .bool b2, .bool b3, .bool b4, .bool b5, .bool b6, .bool b7, .bool b8, .bool b9, .bool b10, .bool b11, .int .u64 (U f)]] w fun r w' => r = .returned (.bool true) ∧ Below w.heap.size w w' := fun w => right_b ⟨false, b1, b2, b3, b4, b5, b6, b7, b8, b9, b10, b11, f⟩ true rfl w
  have cg : ∀ w : World, Calls Try.prog 17 #[.agg #[.bool false, .bool b1, .bool b2, .bool b3, .bool b4, .bool b5, .bool b6, .bool b7, .bool b8, .bool b9, .bool b10, .bool b11, .int .u64 (U f)]] w fun r w' => r = .returned (.bool false) ∧ Below w.heap.size w w' := fun w => leaf_b ⟨false, b1, b2, b3, b4, b5, b6, b7, b8, b9, b10, b11, f⟩ false rfl w
  have ct : ∀ w : World, Calls Try.prog 19 #[.agg #[.bool true, .bool false, .bool false, .bool false, .bool false, .bool false, .bool false, .bool false, .bool false, .bool false, .bool false, .bool false, .int .u64 (U (f &&& 65535#64))]] w fun r w' => r = .returned (.bool true) ∧ Below w.heap.size w w' := fun w => right_b (tabE f) true (right_tab f) w
  have cu : ∀ w : World, Calls Try.prog 17 #[.agg #[.bool true, .bool false, .bool false, .bool false, .bool false, .bool false, .bool false, .bool false, .bool false, .bool false, .bool false, .bool false, .int .u64 (U (f &&& 65535#64))]] w fun r w' => r = .returned (.bool false) ∧ Below w.heap.size w w' := fun w => leaf_b (tabE f) false rfl w
  have cw : ∀ w : World, Calls Try.prog 14 #[.agg #[.bool true, .bool false, .bool false, .bool false, .bool false, .bool false, .bool false, .bool false, .bool false, .bool false, .bool false, .bool false, .int .u64 (U (f &&& 65535#64))]] w fun r w' => r = .returned (.int .u64 (U (1#64 + (f &&& 65535#64) <<< 10))) ∧ Below w.heap.size w w' := fun w => word_b (tabE f) _ (tab_word f) w
  have co : ∀ w : World, Calls Try.prog 13 #[.int .u64 (U (1#64 + (f &&& 65535#64) <<< 10))] w fun r w' => r = .returned (.agg #[.bool true, .bool false, .bool false, .bool false, .bool false, .bool false, .bool false, .bool false, .bool false, .bool false, .bool false, .bool false, .int .u64 (U (f &&& 65535#64))]) ∧ Below w.heap.size w w' := fun w => of_b _ (tabE f) (tab_of f) w
  have ce : ∀ w : World, Calls Try.prog 19 #[.agg #[.bool b0, .bool b1, .bool b2, .bool b3, .bool b4, .bool b5, .bool b6, .bool b7, .bool b8, .bool b9, .bool b10, .bool b11, .int .u64 (U f)]] w fun r w' => r = .returned (.bool false) ∧ Below w.heap.size w w' := fun w => right_b ⟨b0, b1, b2, b3, b4, b5, b6, b7, b8, b9, b10, b11, f⟩ false hr w
  clear hr
  go_enter Try.func6, Try.ntmps6
  go_wp2_with (first | (go_at_call 19; (with_reducible refine (cf _).mono ?_); rintro e w' ⟨rfl, hbl⟩; obtain ⟨hcw, hfw, hsw⟩ := below_ifs hbl; (try simp only [World.size_alloc, World.size_setCell, size_drewN_] at hcw hfw hsw)) | (go_at_call 17; (with_reducible refine (cg _).mono ?_); rintro e w' ⟨rfl, hbl⟩; obtain ⟨hcw, hfw, hsw⟩ := below_ifs hbl; (try simp only [World.size_alloc, World.size_setCell, size_drewN_] at hcw hfw hsw)) | (go_at_call 19; (with_reducible refine (ce _).mono ?_); rintro e w' ⟨rfl, hbl⟩; obtain ⟨hcw, hfw, hsw⟩ := below_ifs hbl; (try simp only [World.size_alloc, World.size_setCell, size_drewN_] at hcw hfw hsw)))
  refine wp_region_below (by kernel_rfl) (by kernel_rfl) (fun hcr hfr => ?_)
  (try simp only [World.size_alloc, World.size_setCell, size_drewN_] at hcr hfr)
  repeat (go_big_quiet_step ((first | (go_at_call 19; first | with_reducible exact Calls.regrown_of (ct _) | with_reducible exact regrown_k (ct _) | with_reducible exact regrown_1 (ct _) | with_reducible exact regrown_a (ct _)) | (go_at_call 17; first | with_reducible exact Calls.regrown_of (cu _) | with_reducible exact regrown_k (cu _) | with_reducible exact regrown_1 (cu _) | with_reducible exact regrown_a (cu _)) | (go_at_call 14; first | with_reducible exact Calls.regrown_of (cw _) | with_reducible exact regrown_k (cw _) | with_reducible exact regrown_1 (cw _) | with_reducible exact regrown_a (cw _)) | (go_at_call 13; first | with_reducible exact Calls.regrown_of (co _) | with_reducible exact regrown_k (co _) | with_reducible exact regrown_1 (co _) | with_reducible exact regrown_a (co _)))))
  refine wpQuiet_nil ?_
  intro w' hbl
  clear hcr hfr
  obtain ⟨hcw, hfw, hsw⟩ := below_ifs hbl; (try simp only [World.size_alloc, World.size_setCell, size_drewN_] at hcw hfw hsw)
  go_wp2_with fail
  go_ret
  exact ⟨rfl, by
    repeat (first | with_reducible exact Below.refl _ _ | with_reducible assumption | with_reducible refine below_drewN ?_ _ | with_reducible refine below_alloc ?_ _ | (with_reducible refine Below.setCell ?_ (by first | (simp; done) | omega) _) | with_reducible refine belows ?_ (by assumption))⟩
set_option maxHeartbeats 8000000 in
set_option maxRecDepth 100000 in
theorem walk_l (b0 b1 b2 b3 b4 b5 b6 b7 b8 b9 b10 b11 : Bool) (f : BitVec 64) (w : World) (hr : rightF ⟨b0, b1, b2, b3, b4, b5, b6, b7, b8, b9, b10, b11, f⟩ = true) (hl : leafF ⟨b0, b1, b2, b3, b4, b5, b6, b7, b8, b9, b10, b11, f⟩ = false) :
    Calls Try.prog 6 #[.agg #[.bool b0, .bool b1, .bool b2, .bool b3, .bool b4, .bool b5, .bool b6, .bool b7, .bool b8, .bool b9, .bool b10, .bool b11, .int .u64 (U f)]] w fun r w' => r = .returned (.bool true) ∧ Below w.heap.size w w' := by
  have cf : ∀ w : World, Calls Try.prog 19 #[.agg #[.bool false, .bool b1, .bool b2, .bool b3, .bool b4, .bool b5, .bool b6, .bool b7, .bool b8, .bool b9, .bool b10, .bool b11, .int .u64 (U f)]] w fun r w' => r = .returned (.bool true) ∧ Below w.heap.size w w' := fun w => right_b ⟨false, b1, b2, b3, b4, b5, b6, b7, b8, b9, b10, b11, f⟩ true rfl w
  have cg : ∀ w : World, Calls Try.prog 17 #[.agg #[.bool false, .bool b1, .bool b2, .bool b3, .bool b4, .bool b5, .bool b6, .bool b7, .bool b8, .bool b9, .bool b10, .bool b11, .int .u64 (U f)]] w fun r w' => r = .returned (.bool false) ∧ Below w.heap.size w w' := fun w => leaf_b ⟨false, b1, b2, b3, b4, b5, b6, b7, b8, b9, b10, b11, f⟩ false rfl w
  have ct : ∀ w : World, Calls Try.prog 19 #[.agg #[.bool true, .bool false, .bool false, .bool false, .bool false, .bool false, .bool false, .bool false, .bool false, .bool false, .bool false, .bool false, .int .u64 (U (f &&& 65535#64))]] w fun r w' => r = .returned (.bool true) ∧ Below w.heap.size w w' := fun w => right_b (tabE f) true (right_tab f) w
  have cu : ∀ w : World, Calls Try.prog 17 #[.agg #[.bool true, .bool false, .bool false, .bool false, .bool false, .bool false, .bool false, .bool false, .bool false, .bool false, .bool false, .bool false, .int .u64 (U (f &&& 65535#64))]] w fun r w' => r = .returned (.bool false) ∧ Below w.heap.size w w' := fun w => leaf_b (tabE f) false rfl w
  have cw : ∀ w : World, Calls Try.prog 14 #[.agg #[.bool true, .bool false, .bool false, .bool false, .bool false, .bool false, .bool false, .bool false, .bool false, .bool false, .bool false, .bool false, .int .u64 (U (f &&& 65535#64))]] w fun r w' => r = .returned (.int .u64 (U (1#64 + (f &&& 65535#64) <<< 10))) ∧ Below w.heap.size w w' := fun w => word_b (tabE f) _ (tab_word f) w
  have co : ∀ w : World, Calls Try.prog 13 #[.int .u64 (U (1#64 + (f &&& 65535#64) <<< 10))] w fun r w' => r = .returned (.agg #[.bool true, .bool false, .bool false, .bool false, .bool false, .bool false, .bool false, .bool false, .bool false, .bool false, .bool false, .bool false, .int .u64 (U (f &&& 65535#64))]) ∧ Below w.heap.size w w' := fun w => of_b _ (tabE f) (tab_of f) w
  have ce : ∀ w : World, Calls Try.prog 19 #[.agg #[.bool b0, .bool b1, .bool b2, .bool b3, .bool b4, .bool b5, .bool b6, .bool b7, .bool b8, .bool b9, .bool b10, .bool b11, .int .u64 (U f)]] w fun r w' => r = .returned (.bool true) ∧ Below w.heap.size w w' := fun w => right_b ⟨b0, b1, b2, b3, b4, b5, b6, b7, b8, b9, b10, b11, f⟩ true hr w
  have cl : ∀ w : World, Calls Try.prog 17 #[.agg #[.bool b0, .bool b1, .bool b2, .bool b3, .bool b4, .bool b5, .bool b6, .bool b7, .bool b8, .bool b9, .bool b10, .bool b11, .int .u64 (U f)]] w fun r w' => r = .returned (.bool false) ∧ Below w.heap.size w w' := fun w => leaf_b ⟨b0, b1, b2, b3, b4, b5, b6, b7, b8, b9, b10, b11, f⟩ false hl w
  clear hr hl
  go_enter Try.func6, Try.ntmps6
  go_wp2_with (first | (go_at_call 19; (with_reducible refine (cf _).mono ?_); rintro e w' ⟨rfl, hbl⟩; obtain ⟨hcw, hfw, hsw⟩ := below_ifs hbl; (try simp only [World.size_alloc, World.size_setCell, size_drewN_] at hcw hfw hsw)) | (go_at_call 17; (with_reducible refine (cg _).mono ?_); rintro e w' ⟨rfl, hbl⟩; obtain ⟨hcw, hfw, hsw⟩ := below_ifs hbl; (try simp only [World.size_alloc, World.size_setCell, size_drewN_] at hcw hfw hsw)) | (go_at_call 19; (with_reducible refine (ce _).mono ?_); rintro e w' ⟨rfl, hbl⟩; obtain ⟨hcw, hfw, hsw⟩ := below_ifs hbl; (try simp only [World.size_alloc, World.size_setCell, size_drewN_] at hcw hfw hsw)) | (go_at_call 17; (with_reducible refine (cl _).mono ?_); rintro e w' ⟨rfl, hbl⟩; obtain ⟨hcw, hfw, hsw⟩ := below_ifs hbl; (try simp only [World.size_alloc, World.size_setCell, size_drewN_] at hcw hfw hsw)))
  refine wp_region_below (by kernel_rfl) (by kernel_rfl) (fun hcr hfr => ?_)
  (try simp only [World.size_alloc, World.size_setCell, size_drewN_] at hcr hfr)
  repeat (go_big_quiet_step ((first | (go_at_call 19; first | with_reducible exact Calls.regrown_of (ct _) | with_reducible exact regrown_k (ct _) | with_reducible exact regrown_1 (ct _) | with_reducible exact regrown_a (ct _)) | (go_at_call 17; first | with_reducible exact Calls.regrown_of (cu _) | with_reducible exact regrown_k (cu _) | with_reducible exact regrown_1 (cu _) | with_reducible exact regrown_a (cu _)) | (go_at_call 14; first | with_reducible exact Calls.regrown_of (cw _) | with_reducible exact regrown_k (cw _) | with_reducible exact regrown_1 (cw _) | with_reducible exact regrown_a (cw _)) | (go_at_call 13; first | with_reducible exact Calls.regrown_of (co _) | with_reducible exact regrown_k (co _) | with_reducible exact regrown_1 (co _) | with_reducible exact regrown_a (co _)))))
  refine wpQuiet_nil ?_
  intro w' hbl
  clear hcr hfr
  obtain ⟨hcw, hfw, hsw⟩ := below_ifs hbl; (try simp only [World.size_alloc, World.size_setCell, size_drewN_] at hcw hfw hsw)
  go_wp2_with fail
  go_ret
  exact ⟨rfl, by
    repeat (first | with_reducible exact Below.refl _ _ | with_reducible assumption | with_reducible refine below_drewN ?_ _ | with_reducible refine below_alloc ?_ _ | (with_reducible refine Below.setCell ?_ (by first | (simp; done) | omega) _) | with_reducible refine belows ?_ (by assumption))⟩
set_option maxHeartbeats 8000000 in
set_option maxRecDepth 100000 in
theorem walk_n (b2 b4 b5 b6 b7 b8 b9 b10 b11 : Bool) (f : BitVec 64) (w : World) (hr : rightF ⟨true, false, b2, false, b4, b5, b6, b7, b8, b9, b10, b11, f⟩ = true) (hl : leafF ⟨true, false, b2, false, b4, b5, b6, b7, b8, b9, b10, b11, f⟩ = true) :
    Calls Try.prog 6 #[.agg #[.bool true, .bool false, .bool b2, .bool false, .bool b4, .bool b5, .bool b6, .bool b7, .bool b8, .bool b9, .bool b10, .bool b11, .int .u64 (U f)]] w fun r w' => r = .returned (.bool true) ∧ Below w.heap.size w w' := by
  have cf : ∀ w : World, Calls Try.prog 19 #[.agg #[.bool false, .bool false, .bool b2, .bool false, .bool b4, .bool b5, .bool b6, .bool b7, .bool b8, .bool b9, .bool b10, .bool b11, .int .u64 (U f)]] w fun r w' => r = .returned (.bool true) ∧ Below w.heap.size w w' := fun w => right_b ⟨false, false, b2, false, b4, b5, b6, b7, b8, b9, b10, b11, f⟩ true rfl w
  have cg : ∀ w : World, Calls Try.prog 17 #[.agg #[.bool false, .bool false, .bool b2, .bool false, .bool b4, .bool b5, .bool b6, .bool b7, .bool b8, .bool b9, .bool b10, .bool b11, .int .u64 (U f)]] w fun r w' => r = .returned (.bool false) ∧ Below w.heap.size w w' := fun w => leaf_b ⟨false, false, b2, false, b4, b5, b6, b7, b8, b9, b10, b11, f⟩ false rfl w
  have ct : ∀ w : World, Calls Try.prog 19 #[.agg #[.bool true, .bool false, .bool false, .bool false, .bool false, .bool false, .bool false, .bool false, .bool false, .bool false, .bool false, .bool false, .int .u64 (U (f &&& 65535#64))]] w fun r w' => r = .returned (.bool true) ∧ Below w.heap.size w w' := fun w => right_b (tabE f) true (right_tab f) w
  have cu : ∀ w : World, Calls Try.prog 17 #[.agg #[.bool true, .bool false, .bool false, .bool false, .bool false, .bool false, .bool false, .bool false, .bool false, .bool false, .bool false, .bool false, .int .u64 (U (f &&& 65535#64))]] w fun r w' => r = .returned (.bool false) ∧ Below w.heap.size w w' := fun w => leaf_b (tabE f) false rfl w
  have cw : ∀ w : World, Calls Try.prog 14 #[.agg #[.bool true, .bool false, .bool false, .bool false, .bool false, .bool false, .bool false, .bool false, .bool false, .bool false, .bool false, .bool false, .int .u64 (U (f &&& 65535#64))]] w fun r w' => r = .returned (.int .u64 (U (1#64 + (f &&& 65535#64) <<< 10))) ∧ Below w.heap.size w w' := fun w => word_b (tabE f) _ (tab_word f) w
  have co : ∀ w : World, Calls Try.prog 13 #[.int .u64 (U (1#64 + (f &&& 65535#64) <<< 10))] w fun r w' => r = .returned (.agg #[.bool true, .bool false, .bool false, .bool false, .bool false, .bool false, .bool false, .bool false, .bool false, .bool false, .bool false, .bool false, .int .u64 (U (f &&& 65535#64))]) ∧ Below w.heap.size w w' := fun w => of_b _ (tabE f) (tab_of f) w
  have ce : ∀ w : World, Calls Try.prog 19 #[.agg #[.bool true, .bool false, .bool b2, .bool false, .bool b4, .bool b5, .bool b6, .bool b7, .bool b8, .bool b9, .bool b10, .bool b11, .int .u64 (U f)]] w fun r w' => r = .returned (.bool true) ∧ Below w.heap.size w w' := fun w => right_b ⟨true, false, b2, false, b4, b5, b6, b7, b8, b9, b10, b11, f⟩ true hr w
  have cl : ∀ w : World, Calls Try.prog 17 #[.agg #[.bool true, .bool false, .bool b2, .bool false, .bool b4, .bool b5, .bool b6, .bool b7, .bool b8, .bool b9, .bool b10, .bool b11, .int .u64 (U f)]] w fun r w' => r = .returned (.bool true) ∧ Below w.heap.size w w' := fun w => leaf_b ⟨true, false, b2, false, b4, b5, b6, b7, b8, b9, b10, b11, f⟩ true hl w
  have cv : ∀ w : World, Calls Try.prog 19 #[.agg #[.bool true, .bool false, .bool b2, .bool false, .bool false, .bool b5, .bool false, .bool false, .bool b8, .bool b9, .bool false, .bool false, .int .u64 (U f)]] w fun r w' => r = .returned (.bool true) ∧ Below w.heap.size w w' := fun w => right_b ⟨true, false, b2, false, false, b5, false, false, b8, b9, false, false, f⟩ true (fewer_z false b2 false b4 b6 b7 b8 b9 b10 b11 (decide (17592186044415 < U f)) hr hl) w
  have cz : ∀ w : World, Calls Try.prog 19 #[.agg #[.bool true, .bool false, .bool b2, .bool false, .bool b4, .bool b5, .bool b6, .bool b7, .bool false, .bool false, .bool b10, .bool b11, .int .u64 (U f)]] w fun r w' => r = .returned (.bool true) ∧ Below w.heap.size w w' := fun w => right_b ⟨true, false, b2, false, b4, b5, b6, b7, false, false, b10, b11, f⟩ true (fewer_y false b2 false b4 b6 b7 b8 b9 b10 b11 (decide (17592186044415 < U f)) hr hl) w
  clear hr hl
  go_enter Try.func6, Try.ntmps6
  go_wp2_with (first | (go_at_call 19; (with_reducible refine (cf _).mono ?_); rintro e w' ⟨rfl, hbl⟩; obtain ⟨hcw, hfw, hsw⟩ := below_ifs hbl; (try simp only [World.size_alloc, World.size_setCell, size_drewN_] at hcw hfw hsw)) | (go_at_call 17; (with_reducible refine (cg _).mono ?_); rintro e w' ⟨rfl, hbl⟩; obtain ⟨hcw, hfw, hsw⟩ := below_ifs hbl; (try simp only [World.size_alloc, World.size_setCell, size_drewN_] at hcw hfw hsw)) | (go_at_call 19; (with_reducible refine (ce _).mono ?_); rintro e w' ⟨rfl, hbl⟩; obtain ⟨hcw, hfw, hsw⟩ := below_ifs hbl; (try simp only [World.size_alloc, World.size_setCell, size_drewN_] at hcw hfw hsw)) | (go_at_call 17; (with_reducible refine (cl _).mono ?_); rintro e w' ⟨rfl, hbl⟩; obtain ⟨hcw, hfw, hsw⟩ := below_ifs hbl; (try simp only [World.size_alloc, World.size_setCell, size_drewN_] at hcw hfw hsw)) | (go_at_call 19; (with_reducible refine (cz _).mono ?_); rintro e w' ⟨rfl, hbl⟩; obtain ⟨hcw, hfw, hsw⟩ := below_ifs hbl; (try simp only [World.size_alloc, World.size_setCell, size_drewN_] at hcw hfw hsw)) | (go_at_call 19; (with_reducible refine (cv _).mono ?_); rintro e w' ⟨rfl, hbl⟩; obtain ⟨hcw, hfw, hsw⟩ := below_ifs hbl; (try simp only [World.size_alloc, World.size_setCell, size_drewN_] at hcw hfw hsw)))
  refine wp_region_below (by kernel_rfl) (by kernel_rfl) (fun hcr hfr => ?_)
  (try simp only [World.size_alloc, World.size_setCell, size_drewN_] at hcr hfr)
  repeat (go_big_quiet_step ((first | (go_at_call 19; first | with_reducible exact Calls.regrown_of (ct _) | with_reducible exact regrown_k (ct _) | with_reducible exact regrown_1 (ct _) | with_reducible exact regrown_a (ct _)) | (go_at_call 17; first | with_reducible exact Calls.regrown_of (cu _) | with_reducible exact regrown_k (cu _) | with_reducible exact regrown_1 (cu _) | with_reducible exact regrown_a (cu _)) | (go_at_call 14; first | with_reducible exact Calls.regrown_of (cw _) | with_reducible exact regrown_k (cw _) | with_reducible exact regrown_1 (cw _) | with_reducible exact regrown_a (cw _)) | (go_at_call 13; first | with_reducible exact Calls.regrown_of (co _) | with_reducible exact regrown_k (co _) | with_reducible exact regrown_1 (co _) | with_reducible exact regrown_a (co _)))))
  refine wpQuiet_nil ?_
  intro w' hbl
  clear hcr hfr
  obtain ⟨hcw, hfw, hsw⟩ := below_ifs hbl; (try simp only [World.size_alloc, World.size_setCell, size_drewN_] at hcw hfw hsw)
  go_wp2_with fail
  go_ret
  exact ⟨rfl, by
    repeat (first | with_reducible exact Below.refl _ _ | with_reducible assumption | with_reducible refine below_drewN ?_ _ | with_reducible refine below_alloc ?_ _ | (with_reducible refine Below.setCell ?_ (by first | (simp; done) | omega) _) | with_reducible refine belows ?_ (by assumption))⟩
set_option maxHeartbeats 8000000 in
set_option maxRecDepth 100000 in
theorem walk_3 (b2 b4 b5 b6 b7 b8 b9 b10 b11 : Bool) (f : BitVec 64) (w : World) (hr : rightF ⟨true, false, b2, true, b4, b5, b6, b7, b8, b9, b10, b11, f⟩ = true) (hl : leafF ⟨true, false, b2, true, b4, b5, b6, b7, b8, b9, b10, b11, f⟩ = true) :
    Calls Try.prog 6 #[.agg #[.bool true, .bool false, .bool b2, .bool true, .bool b4, .bool b5, .bool b6, .bool b7, .bool b8, .bool b9, .bool b10, .bool b11, .int .u64 (U f)]] w fun r w' => r = .returned (.bool true) ∧ Below w.heap.size w w' := by
  have cf : ∀ w : World, Calls Try.prog 19 #[.agg #[.bool false, .bool false, .bool b2, .bool true, .bool b4, .bool b5, .bool b6, .bool b7, .bool b8, .bool b9, .bool b10, .bool b11, .int .u64 (U f)]] w fun r w' => r = .returned (.bool true) ∧ Below w.heap.size w w' := fun w => right_b ⟨false, false, b2, true, b4, b5, b6, b7, b8, b9, b10, b11, f⟩ true rfl w
  have cg : ∀ w : World, Calls Try.prog 17 #[.agg #[.bool false, .bool false, .bool b2, .bool true, .bool b4, .bool b5, .bool b6, .bool b7, .bool b8, .bool b9, .bool b10, .bool b11, .int .u64 (U f)]] w fun r w' => r = .returned (.bool false) ∧ Below w.heap.size w w' := fun w => leaf_b ⟨false, false, b2, true, b4, b5, b6, b7, b8, b9, b10, b11, f⟩ false rfl w
  have ct : ∀ w : World, Calls Try.prog 19 #[.agg #[.bool true, .bool false, .bool false, .bool false, .bool false, .bool false, .bool false, .bool false, .bool false, .bool false, .bool false, .bool false, .int .u64 (U (f &&& 65535#64))]] w fun r w' => r = .returned (.bool true) ∧ Below w.heap.size w w' := fun w => right_b (tabE f) true (right_tab f) w
  have cu : ∀ w : World, Calls Try.prog 17 #[.agg #[.bool true, .bool false, .bool false, .bool false, .bool false, .bool false, .bool false, .bool false, .bool false, .bool false, .bool false, .bool false, .int .u64 (U (f &&& 65535#64))]] w fun r w' => r = .returned (.bool false) ∧ Below w.heap.size w w' := fun w => leaf_b (tabE f) false rfl w
  have cw : ∀ w : World, Calls Try.prog 14 #[.agg #[.bool true, .bool false, .bool false, .bool false, .bool false, .bool false, .bool false, .bool false, .bool false, .bool false, .bool false, .bool false, .int .u64 (U (f &&& 65535#64))]] w fun r w' => r = .returned (.int .u64 (U (1#64 + (f &&& 65535#64) <<< 10))) ∧ Below w.heap.size w w' := fun w => word_b (tabE f) _ (tab_word f) w
  have co : ∀ w : World, Calls Try.prog 13 #[.int .u64 (U (1#64 + (f &&& 65535#64) <<< 10))] w fun r w' => r = .returned (.agg #[.bool true, .bool false, .bool false, .bool false, .bool false, .bool false, .bool false, .bool false, .bool false, .bool false, .bool false, .bool false, .int .u64 (U (f &&& 65535#64))]) ∧ Below w.heap.size w w' := fun w => of_b _ (tabE f) (tab_of f) w
  have ce : ∀ w : World, Calls Try.prog 19 #[.agg #[.bool true, .bool false, .bool b2, .bool true, .bool b4, .bool b5, .bool b6, .bool b7, .bool b8, .bool b9, .bool b10, .bool b11, .int .u64 (U f)]] w fun r w' => r = .returned (.bool true) ∧ Below w.heap.size w w' := fun w => right_b ⟨true, false, b2, true, b4, b5, b6, b7, b8, b9, b10, b11, f⟩ true hr w
  have cl : ∀ w : World, Calls Try.prog 17 #[.agg #[.bool true, .bool false, .bool b2, .bool true, .bool b4, .bool b5, .bool b6, .bool b7, .bool b8, .bool b9, .bool b10, .bool b11, .int .u64 (U f)]] w fun r w' => r = .returned (.bool true) ∧ Below w.heap.size w w' := fun w => leaf_b ⟨true, false, b2, true, b4, b5, b6, b7, b8, b9, b10, b11, f⟩ true hl w
  have cv : ∀ w : World, Calls Try.prog 19 #[.agg #[.bool true, .bool false, .bool b2, .bool true, .bool false, .bool b5, .bool false, .bool false, .bool b8, .bool b9, .bool false, .bool false, .int .u64 (U f)]] w fun r w' => r = .returned (.bool true) ∧ Below w.heap.size w w' := fun w => right_b ⟨true, false, b2, true, false, b5, false, false, b8, b9, false, false, f⟩ true (fewer_z false b2 true b4 b6 b7 b8 b9 b10 b11 (decide (17592186044415 < U f)) hr hl) w
  have cz : ∀ w : World, Calls Try.prog 19 #[.agg #[.bool true, .bool false, .bool b2, .bool true, .bool b4, .bool b5, .bool b6, .bool b7, .bool false, .bool false, .bool b10, .bool b11, .int .u64 (U f)]] w fun r w' => r = .returned (.bool true) ∧ Below w.heap.size w w' := fun w => right_b ⟨true, false, b2, true, b4, b5, b6, b7, false, false, b10, b11, f⟩ true (fewer_y false b2 true b4 b6 b7 b8 b9 b10 b11 (decide (17592186044415 < U f)) hr hl) w
  have cx : ∀ w : World, Calls Try.prog 19 #[.agg #[.bool true, .bool false, .bool false, .bool true, .bool b4, .bool b5, .bool b6, .bool b7, .bool false, .bool b9, .bool b10, .bool b11, .int .u64 (U f)]] w fun r w' => r = .returned (.bool true) ∧ Below w.heap.size w w' := fun w => right_b ⟨true, false, false, true, b4, b5, b6, b7, false, b9, b10, b11, f⟩ true (fewer_x false b2 true b4 b6 b7 b8 b9 b10 b11 (decide (17592186044415 < U f)) hr rfl) w
  have cy : ∀ w : World, Calls Try.prog 17 #[.agg #[.bool true, .bool false, .bool false, .bool true, .bool b4, .bool b5, .bool b6, .bool b7, .bool false, .bool b9, .bool b10, .bool b11, .int .u64 (U f)]] w fun r w' => r = .returned (.bool true) ∧ Below w.heap.size w w' := fun w => leaf_b ⟨true, false, false, true, b4, b5, b6, b7, false, b9, b10, b11, f⟩ true rfl w
  clear hr hl
  go_enter Try.func6, Try.ntmps6
  go_wp2_with (first | (go_at_call 19; (with_reducible refine (cf _).mono ?_); rintro e w' ⟨rfl, hbl⟩; obtain ⟨hcw, hfw, hsw⟩ := below_ifs hbl; (try simp only [World.size_alloc, World.size_setCell, size_drewN_] at hcw hfw hsw)) | (go_at_call 17; (with_reducible refine (cg _).mono ?_); rintro e w' ⟨rfl, hbl⟩; obtain ⟨hcw, hfw, hsw⟩ := below_ifs hbl; (try simp only [World.size_alloc, World.size_setCell, size_drewN_] at hcw hfw hsw)) | (go_at_call 19; (with_reducible refine (ce _).mono ?_); rintro e w' ⟨rfl, hbl⟩; obtain ⟨hcw, hfw, hsw⟩ := below_ifs hbl; (try simp only [World.size_alloc, World.size_setCell, size_drewN_] at hcw hfw hsw)) | (go_at_call 17; (with_reducible refine (cl _).mono ?_); rintro e w' ⟨rfl, hbl⟩; obtain ⟨hcw, hfw, hsw⟩ := below_ifs hbl; (try simp only [World.size_alloc, World.size_setCell, size_drewN_] at hcw hfw hsw)) | (go_at_call 19; (with_reducible refine (cx _).mono ?_); rintro e w' ⟨rfl, hbl⟩; obtain ⟨hcw, hfw, hsw⟩ := below_ifs hbl; (try simp only [World.size_alloc, World.size_setCell, size_drewN_] at hcw hfw hsw)) | (go_at_call 17; (with_reducible refine (cy _).mono ?_); rintro e w' ⟨rfl, hbl⟩; obtain ⟨hcw, hfw, hsw⟩ := below_ifs hbl; (try simp only [World.size_alloc, World.size_setCell, size_drewN_] at hcw hfw hsw)) | (go_at_call 19; (with_reducible refine (cz _).mono ?_); rintro e w' ⟨rfl, hbl⟩; obtain ⟨hcw, hfw, hsw⟩ := below_ifs hbl; (try simp only [World.size_alloc, World.size_setCell, size_drewN_] at hcw hfw hsw)) | (go_at_call 19; (with_reducible refine (cv _).mono ?_); rintro e w' ⟨rfl, hbl⟩; obtain ⟨hcw, hfw, hsw⟩ := below_ifs hbl; (try simp only [World.size_alloc, World.size_setCell, size_drewN_] at hcw hfw hsw)))
  refine wp_region_below (by kernel_rfl) (by kernel_rfl) (fun hcr hfr => ?_)
  (try simp only [World.size_alloc, World.size_setCell, size_drewN_] at hcr hfr)
  repeat (go_big_quiet_step ((first | (go_at_call 19; first | with_reducible exact Calls.regrown_of (ct _) | with_reducible exact regrown_k (ct _) | with_reducible exact regrown_1 (ct _) | with_reducible exact regrown_a (ct _)) | (go_at_call 17; first | with_reducible exact Calls.regrown_of (cu _) | with_reducible exact regrown_k (cu _) | with_reducible exact regrown_1 (cu _) | with_reducible exact regrown_a (cu _)) | (go_at_call 14; first | with_reducible exact Calls.regrown_of (cw _) | with_reducible exact regrown_k (cw _) | with_reducible exact regrown_1 (cw _) | with_reducible exact regrown_a (cw _)) | (go_at_call 13; first | with_reducible exact Calls.regrown_of (co _) | with_reducible exact regrown_k (co _) | with_reducible exact regrown_1 (co _) | with_reducible exact regrown_a (co _)))))
  refine wpQuiet_nil ?_
  intro w' hbl
  clear hcr hfr
  obtain ⟨hcw, hfw, hsw⟩ := below_ifs hbl; (try simp only [World.size_alloc, World.size_setCell, size_drewN_] at hcw hfw hsw)
  go_wp2_with fail
  go_ret
  exact ⟨rfl, by
    repeat (first | with_reducible exact Below.refl _ _ | with_reducible assumption | with_reducible refine below_drewN ?_ _ | with_reducible refine below_alloc ?_ _ | (with_reducible refine Below.setCell ?_ (by first | (simp; done) | omega) _) | with_reducible refine belows ?_ (by assumption))⟩
set_option maxHeartbeats 8000000 in
set_option maxRecDepth 100000 in
theorem walk_1 (b2 b3 b4 b5 b6 b7 b8 b9 b10 b11 : Bool) (f : BitVec 64) (w : World) (hr : rightF ⟨true, true, b2, b3, b4, b5, b6, b7, b8, b9, b10, b11, f⟩ = true) (hl : leafF ⟨true, true, b2, b3, b4, b5, b6, b7, b8, b9, b10, b11, f⟩ = true) :
    Calls Try.prog 6 #[.agg #[.bool true, .bool true, .bool b2, .bool b3, .bool b4, .bool b5, .bool b6, .bool b7, .bool b8, .bool b9, .bool b10, .bool b11, .int .u64 (U f)]] w fun r w' => r = .returned (.bool true) ∧ Below w.heap.size w w' := by
  have cf : ∀ w : World, Calls Try.prog 19 #[.agg #[.bool false, .bool true, .bool b2, .bool b3, .bool b4, .bool b5, .bool b6, .bool b7, .bool b8, .bool b9, .bool b10, .bool b11, .int .u64 (U f)]] w fun r w' => r = .returned (.bool true) ∧ Below w.heap.size w w' := fun w => right_b ⟨false, true, b2, b3, b4, b5, b6, b7, b8, b9, b10, b11, f⟩ true rfl w
  have cg : ∀ w : World, Calls Try.prog 17 #[.agg #[.bool false, .bool true, .bool b2, .bool b3, .bool b4, .bool b5, .bool b6, .bool b7, .bool b8, .bool b9, .bool b10, .bool b11, .int .u64 (U f)]] w fun r w' => r = .returned (.bool false) ∧ Below w.heap.size w w' := fun w => leaf_b ⟨false, true, b2, b3, b4, b5, b6, b7, b8, b9, b10, b11, f⟩ false rfl w
  have ct : ∀ w : World, Calls Try.prog 19 #[.agg #[.bool true, .bool false, .bool false, .bool false, .bool false, .bool false, .bool false, .bool false, .bool false, .bool false, .bool false, .bool false, .int .u64 (U (f &&& 65535#64))]] w fun r w' => r = .returned (.bool true) ∧ Below w.heap.size w w' := fun w => right_b (tabE f) true (right_tab f) w
  have cu : ∀ w : World, Calls Try.prog 17 #[.agg #[.bool true, .bool false, .bool false, .bool false, .bool false, .bool false, .bool false, .bool false, .bool false, .bool false, .bool false, .bool false, .int .u64 (U (f &&& 65535#64))]] w fun r w' => r = .returned (.bool false) ∧ Below w.heap.size w w' := fun w => leaf_b (tabE f) false rfl w
  have cw : ∀ w : World, Calls Try.prog 14 #[.agg #[.bool true, .bool false, .bool false, .bool false, .bool false, .bool false, .bool false, .bool false, .bool false, .bool false, .bool false, .bool false, .int .u64 (U (f &&& 65535#64))]] w fun r w' => r = .returned (.int .u64 (U (1#64 + (f &&& 65535#64) <<< 10))) ∧ Below w.heap.size w w' := fun w => word_b (tabE f) _ (tab_word f) w
  have co : ∀ w : World, Calls Try.prog 13 #[.int .u64 (U (1#64 + (f &&& 65535#64) <<< 10))] w fun r w' => r = .returned (.agg #[.bool true, .bool false, .bool false, .bool false, .bool false, .bool false, .bool false, .bool false, .bool false, .bool false, .bool false, .bool false, .int .u64 (U (f &&& 65535#64))]) ∧ Below w.heap.size w w' := fun w => of_b _ (tabE f) (tab_of f) w
  have ce : ∀ w : World, Calls Try.prog 19 #[.agg #[.bool true, .bool true, .bool b2, .bool b3, .bool b4, .bool b5, .bool b6, .bool b7, .bool b8, .bool b9, .bool b10, .bool b11, .int .u64 (U f)]] w fun r w' => r = .returned (.bool true) ∧ Below w.heap.size w w' := fun w => right_b ⟨true, true, b2, b3, b4, b5, b6, b7, b8, b9, b10, b11, f⟩ true hr w
  have cl : ∀ w : World, Calls Try.prog 17 #[.agg #[.bool true, .bool true, .bool b2, .bool b3, .bool b4, .bool b5, .bool b6, .bool b7, .bool b8, .bool b9, .bool b10, .bool b11, .int .u64 (U f)]] w fun r w' => r = .returned (.bool true) ∧ Below w.heap.size w w' := fun w => leaf_b ⟨true, true, b2, b3, b4, b5, b6, b7, b8, b9, b10, b11, f⟩ true hl w
  have cv : ∀ w : World, Calls Try.prog 19 #[.agg #[.bool true, .bool true, .bool b2, .bool b3, .bool false, .bool b5, .bool false, .bool false, .bool b8, .bool b9, .bool false, .bool false, .int .u64 (U f)]] w fun r w' => r = .returned (.bool true) ∧ Below w.heap.size w w' := fun w => right_b ⟨true, true, b2, b3, false, b5, false, false, b8, b9, false, false, f⟩ true (fewer_z true b2 b3 b4 b6 b7 b8 b9 b10 b11 (decide (17592186044415 < U f)) hr hl) w
  have cz : ∀ w : World, Calls Try.prog 19 #[.agg #[.bool true, .bool true, .bool b2, .bool b3, .bool b4, .bool b5, .bool b6, .bool b7, .bool false, .bool false, .bool b10, .bool b11, .int .u64 (U f)]] w fun r w' => r = .returned (.bool true) ∧ Below w.heap.size w w' := fun w => right_b ⟨true, true, b2, b3, b4, b5, b6, b7, false, false, b10, b11, f⟩ true (fewer_y true b2 b3 b4 b6 b7 b8 b9 b10 b11 (decide (17592186044415 < U f)) hr hl) w
  have cx : ∀ w : World, Calls Try.prog 19 #[.agg #[.bool true, .bool true, .bool false, .bool b3, .bool b4, .bool b5, .bool b6, .bool b7, .bool false, .bool b9, .bool b10, .bool b11, .int .u64 (U f)]] w fun r w' => r = .returned (.bool true) ∧ Below w.heap.size w w' := fun w => right_b ⟨true, true, false, b3, b4, b5, b6, b7, false, b9, b10, b11, f⟩ true (fewer_x true b2 b3 b4 b6 b7 b8 b9 b10 b11 (decide (17592186044415 < U f)) hr rfl) w
  have cy : ∀ w : World, Calls Try.prog 17 #[.agg #[.bool true, .bool true, .bool false, .bool b3, .bool b4, .bool b5, .bool b6, .bool b7, .bool false, .bool b9, .bool b10, .bool b11, .int .u64 (U f)]] w fun r w' => r = .returned (.bool true) ∧ Below w.heap.size w w' := fun w => leaf_b ⟨true, true, false, b3, b4, b5, b6, b7, false, b9, b10, b11, f⟩ true rfl w
  clear hr hl
  go_enter Try.func6, Try.ntmps6
  go_wp2_with (first | (go_at_call 19; (with_reducible refine (cf _).mono ?_); rintro e w' ⟨rfl, hbl⟩; obtain ⟨hcw, hfw, hsw⟩ := below_ifs hbl; (try simp only [World.size_alloc, World.size_setCell, size_drewN_] at hcw hfw hsw)) | (go_at_call 17; (with_reducible refine (cg _).mono ?_); rintro e w' ⟨rfl, hbl⟩; obtain ⟨hcw, hfw, hsw⟩ := below_ifs hbl; (try simp only [World.size_alloc, World.size_setCell, size_drewN_] at hcw hfw hsw)) | (go_at_call 19; (with_reducible refine (ce _).mono ?_); rintro e w' ⟨rfl, hbl⟩; obtain ⟨hcw, hfw, hsw⟩ := below_ifs hbl; (try simp only [World.size_alloc, World.size_setCell, size_drewN_] at hcw hfw hsw)) | (go_at_call 17; (with_reducible refine (cl _).mono ?_); rintro e w' ⟨rfl, hbl⟩; obtain ⟨hcw, hfw, hsw⟩ := below_ifs hbl; (try simp only [World.size_alloc, World.size_setCell, size_drewN_] at hcw hfw hsw)) | (go_at_call 19; (with_reducible refine (cx _).mono ?_); rintro e w' ⟨rfl, hbl⟩; obtain ⟨hcw, hfw, hsw⟩ := below_ifs hbl; (try simp only [World.size_alloc, World.size_setCell, size_drewN_] at hcw hfw hsw)) | (go_at_call 17; (with_reducible refine (cy _).mono ?_); rintro e w' ⟨rfl, hbl⟩; obtain ⟨hcw, hfw, hsw⟩ := below_ifs hbl; (try simp only [World.size_alloc, World.size_setCell, size_drewN_] at hcw hfw hsw)) | (go_at_call 19; (with_reducible refine (cz _).mono ?_); rintro e w' ⟨rfl, hbl⟩; obtain ⟨hcw, hfw, hsw⟩ := below_ifs hbl; (try simp only [World.size_alloc, World.size_setCell, size_drewN_] at hcw hfw hsw)) | (go_at_call 19; (with_reducible refine (cv _).mono ?_); rintro e w' ⟨rfl, hbl⟩; obtain ⟨hcw, hfw, hsw⟩ := below_ifs hbl; (try simp only [World.size_alloc, World.size_setCell, size_drewN_] at hcw hfw hsw)))
  refine wp_region_below (by kernel_rfl) (by kernel_rfl) (fun hcr hfr => ?_)
  (try simp only [World.size_alloc, World.size_setCell, size_drewN_] at hcr hfr)
  repeat (go_big_quiet_step ((first | (go_at_call 19; first | with_reducible exact Calls.regrown_of (ct _) | with_reducible exact regrown_k (ct _) | with_reducible exact regrown_1 (ct _) | with_reducible exact regrown_a (ct _)) | (go_at_call 17; first | with_reducible exact Calls.regrown_of (cu _) | with_reducible exact regrown_k (cu _) | with_reducible exact regrown_1 (cu _) | with_reducible exact regrown_a (cu _)) | (go_at_call 14; first | with_reducible exact Calls.regrown_of (cw _) | with_reducible exact regrown_k (cw _) | with_reducible exact regrown_1 (cw _) | with_reducible exact regrown_a (cw _)) | (go_at_call 13; first | with_reducible exact Calls.regrown_of (co _) | with_reducible exact regrown_k (co _) | with_reducible exact regrown_1 (co _) | with_reducible exact regrown_a (co _)))))
  refine wpQuiet_nil ?_
  intro w' hbl
  clear hcr hfr
  obtain ⟨hcw, hfw, hsw⟩ := below_ifs hbl; (try simp only [World.size_alloc, World.size_setCell, size_drewN_] at hcw hfw hsw)
  go_wp2_with fail
  go_ret
  exact ⟨rfl, by
    repeat (first | with_reducible exact Below.refl _ _ | with_reducible assumption | with_reducible refine below_drewN ?_ _ | with_reducible refine below_alloc ?_ _ | (with_reducible refine Below.setCell ?_ (by first | (simp; done) | omega) _) | with_reducible refine belows ?_ (by assumption))⟩
theorem walk (b0 b1 b2 b3 b4 b5 b6 b7 b8 b9 b10 b11 : Bool) (f : BitVec 64) (w : World) :
    Calls Try.prog 6 #[.agg #[.bool b0, .bool b1, .bool b2, .bool b3, .bool b4, .bool b5, .bool b6, .bool b7, .bool b8, .bool b9, .bool b10, .bool b11, .int .u64 (U f)]] w fun r w' => r = .returned (.bool true) ∧ Below w.heap.size w w' := by
  cases hr : rightF ⟨b0, b1, b2, b3, b4, b5, b6, b7, b8, b9, b10, b11, f⟩
  · exact walk_r b0 b1 b2 b3 b4 b5 b6 b7 b8 b9 b10 b11 f w hr
  · cases hl : leafF ⟨b0, b1, b2, b3, b4, b5, b6, b7, b8, b9, b10, b11, f⟩
    · exact walk_l b0 b1 b2 b3 b4 b5 b6 b7 b8 b9 b10 b11 f w hr hl
    · obtain rfl : b0 = true := by revert hl; cases b0 <;> simp [leafF]
      cases b1
      · cases b3
        · exact walk_n b2 b4 b5 b6 b7 b8 b9 b10 b11 f w hr hl
        · exact walk_3 b2 b4 b5 b6 b7 b8 b9 b10 b11 f w hr hl
      · exact walk_1 b2 b3 b4 b5 b6 b7 b8 b9 b10 b11 f w hr hl

set_option maxRecDepth 100000 in
theorem lifted (os : Os) (started : os.Started) (H : Type) (enc : TypeId × Value → H) :
    ReturnsInHanded {} Try.checked os 6 .any (Rows.pteRightSpec.pre6 enc Try.prog Try.f6 Rows.pteRightRow.domain false) (Rows.pteRightSpec.post enc Try.prog Try.f6 false true false false) := by
  refine law_lift (C := Try.checked) (tb := 4) started (by kernel_rfl) (by kernel_rfl) Try.func6 rfl rfl Try.underlying4 (by kernel_rfl) (by kernel_rfl)
    (fun ds h => by match ds, h with | [_], _ => rfl)
    (ChangeSpec.witness6 (enc := enc) (C := Try.checked) false ⟨#[], #[.agg #[.bool false, .bool false, .bool false, .bool false, .bool false, .bool false, .bool false, .bool false, .bool false, .bool false, .bool false, .bool false, .int .u64 0]], []⟩ 8 (by kernel_rfl) (by kernel_rfl) (by kernel_rfl) (by kernel_rfl)) ?_
  intro W base args ds ps hval hA hlt hfz hsz
  rw [Try.params6] at hA hval hsz
  obtain ⟨v0, d0, rfl, rfl, h0⟩ := trodAll_one hA
  obtain ⟨e0, e1, e2, e3, e4, e5, e6, e7, e8, e9, e10, e11, nf, wf, rfl⟩ := open_leaves (d := 5) (ls := [.bool, .bool, .bool, .bool, .bool, .bool, .bool, .bool, .bool, .bool, .bool, .bool, .int .u64]) (by kernel_rfl) (by kernel_rfl) (hval 0 _ v0 rfl rfl) h0
  obtain ⟨f, rfl⟩ := exists_U nf wf
  exact walk e0 e1 e2 e3 e4 e5 e6 e7 e8 e9 e10 e11 f W

theorem over : Rows.pteRightRow.holds Try.pinned (OpenSpec.ofChange Rows.pteRightSpec) :=
  OpenClaim.holds_of_wide 6 Try.f6 rfl rfl rfl rfl rfl rfl rfl ⟨rfl, rfl, rfl, rfl, rfl⟩ rfl rfl rfl rfl rfl (by kernel_rfl) Try.func6 (by kernel_rfl)
    (of_decide_eq_true (by kernel_rfl)) (by unfold Func.isWrapper; first | (rw [if_pos (by decide +kernel)]; kernel_rfl) | (rw [if_neg (by decide +kernel)]; exact ⟨rfl, rfl⟩))
    (fun os started H enc _ => lifted os started H enc)

theorem proved : Rows.PteRightSaid := over
end Go.Proofs.Ytnfaalknhcenpaa.PteRight
