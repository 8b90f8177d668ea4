
/-
  BoundsTells: any fields, beside any two addresses, tell the document's spans, or none, and the same one, or not; and a word has them. Every input.
-/
import Derived.Test.YtjhekfcnoofaaaaRows
import Derived.Test.YtjhekfcnoofaaaaLaw
import Derived.Test.YtjhekfcnoofaaaaRefBoundsD
namespace Go.Proofs.Ytjhekfcnoofaaaa.Tells
open Go Go.RowKit Go.ChangeShapes Go.WideShapes Go.ChangeAt
set_option linter.unusedVariables false
set_option linter.unusedSimpArgs false

theorem word_of (x : BitVec 64) : wordF (getF x 0 14) (getF x 14 12) (getF x 26 6) = x &&& 4294967295#64 := by
  apply ext64
  intro j hj
  have e : (4294967295#64).getLsbD j = decide (j < 32) := by
    have := mask_lsb 32 (by omega) j
    rw [show maskF 32 = 4294967295#64 from rfl] at this
    rw [this]
    rfl
  unfold wordF
  rw [put_lsb _ _ _ _ (by decide) _ hj, put_lsb _ _ _ _ (by decide) _ hj, put_lsb _ _ _ _ (by decide) _ hj, BitVec.getLsbD_and, e]
  simp only [show (26 : Int).toNat = 26 from rfl, show (6 : Int).toNat = 6 from rfl, show (14 : Int).toNat = 14 from rfl, show (12 : Int).toNat = 12 from rfl, show (0 : Int).toNat = 0 from rfl]
  rw [get_lsb _ _ _ (by decide), get_lsb _ _ _ (by decide), get_lsb _ _ _ (by decide)]
  simp only [show (26 : Int).toNat = 26 from rfl, show (6 : Int).toNat = 6 from rfl, show (14 : Int).toNat = 14 from rfl, show (12 : Int).toNat = 12 from rfl, show (0 : Int).toNat = 0 from rfl]
  by_cases c : j < 14
  · rw [if_neg (by omega), if_neg (by omega), if_pos (by omega)]
    simp [c, show j < 32 by omega]
  · by_cases c2 : j < 26
    · rw [if_neg (by omega), if_pos (by omega), show 14 + (j - 14) = j by omega]
      simp [show j < 32 by omega, show j - 14 < 12 by omega]
    · by_cases c3 : j < 32
      · rw [if_pos (by omega), show 26 + (j - 26) = j by omega]
        simp [c3, show j - 26 < 6 by omega]
      · rw [if_neg (by omega), if_neg (by omega), if_neg (by omega)]
        simp [c3]
theorem word_same (x y : BitVec 64) : (getF x 0 14 == getF y 0 14 && getF x 14 12 == getF y 14 12 && getF x 26 6 == getF y 26 6) = (x &&& 4294967295#64 == y &&& 4294967295#64) := by
  rw [Bool.eq_iff_iff]
  simp only [Bool.and_eq_true, beq_iff_eq]
  constructor
  · rintro ⟨⟨h1, h2⟩, h3⟩
    rw [← word_of x, ← word_of y, h1, h2, h3]
  · intro h
    have key : ∀ (a n : Int), mayF a n = true → a + n ≤ 32 → ∀ z : BitVec 64, getF z a n = getF (z &&& 4294967295#64) a n := by
      intro a n g hl z
      obtain ⟨g1, g2, g3, g4⟩ := (mayF_iff a n).1 g
      apply ext64
      intro j hj
      rw [get_lsb _ _ _ g, get_lsb _ _ _ g, BitVec.getLsbD_and]
      have e : (4294967295#64).getLsbD (a.toNat + j) = decide (a.toNat + j < 32) := by
        have := mask_lsb 32 (by omega) (a.toNat + j)
        rw [show maskF 32 = 4294967295#64 from rfl] at this
        rw [this]
        rfl
      rw [e]
      by_cases c : j < n.toNat
      · rw [decide_eq_true (show a.toNat + j < 32 by omega)]; simp
      · simp [c]
    rw [key 0 14 (by decide) (by omega) x, key 0 14 (by decide) (by omega) y, key 14 12 (by decide) (by omega) x, key 14 12 (by decide) (by omega) y, key 26 6 (by decide) (by omega) x, key 26 6 (by decide) (by omega) y, h]
    simp
theorem add_apart (x y : BitVec 64) (h : ∀ j, j < 64 → (x.getLsbD j && y.getLsbD j) = false) : x + y = x ||| y := by
  apply BitVec.add_eq_or_of_and_eq_zero
  apply ext64
  intro j hj
  rw [BitVec.getLsbD_and, h j hj]
  simp
theorem part_lsb (x : BitVec 64) (n at' j : Nat) (hn : n ≤ 64) (hj : j < 64) : ((x &&& maskF n) <<< at').getLsbD j = (decide (at' ≤ j) && decide (j < at' + n) && x.getLsbD (j - at')) := by
  rw [BitVec.getLsbD_shiftLeft, BitVec.getLsbD_and, mask_lsb _ (by omega)]
  simp only [show ((n : Nat) : Int).toNat = n by omega]
  by_cases c : at' ≤ j
  · by_cases c2 : j - at' < n
    · simp [hj, c, c2, show j < at' + n by omega]
    · simp [hj, c, c2, show ¬ j < at' + n by omega]
  · simp [hj, c, show j < at' by omega]
theorem word_sum (b t e : BitVec 64) : wordF b t e = b % 16384#64 + (t % 4096#64) <<< 14 + (e % 64#64) <<< 26 := by
  rw [rem_mask b 14 _ (by omega) rfl, rem_mask t 12 _ (by omega) rfl, rem_mask e 6 _ (by omega) rfl]
  have l : ∀ j, j < 64 → (b &&& maskF (14 : Nat)).getLsbD j = (decide (j < 14) && b.getLsbD j) := by
    intro j hj; rw [BitVec.getLsbD_and, mask_lsb _ (by omega), Bool.and_comm]; rfl
  rw [add_apart (b &&& maskF (14 : Nat)) _ (by
    intro j hj
    rw [l j hj, part_lsb t 12 14 j (by omega) hj]
    by_cases c : j < 14
    · rw [decide_eq_false (show ¬ 14 ≤ j by omega)]; simp
    · simp [c])]
  rw [add_apart (_ ||| _) _ (by
    intro j hj
    rw [BitVec.getLsbD_or, l j hj, part_lsb t 12 14 j (by omega) hj, part_lsb e 6 26 j (by omega) hj]
    by_cases c : j < 26
    · rw [decide_eq_false (show ¬ 26 ≤ j by omega)]; simp
    · rw [decide_eq_false (show ¬ j < 14 by omega), decide_eq_false (show ¬ j < 14 + 12 by omega)]; simp)]
  apply ext64
  intro j hj
  rw [BitVec.getLsbD_or, BitVec.getLsbD_or, l j hj, part_lsb t 12 14 j (by omega) hj, part_lsb e 6 26 j (by omega) hj]
  unfold wordF
  rw [put_lsb _ _ _ _ (by decide) _ hj, put_lsb _ _ _ _ (by decide) _ hj, put_lsb _ _ _ _ (by decide) _ hj]
  simp only [show (26 : Int).toNat = 26 from rfl, show (6 : Int).toNat = 6 from rfl, show (14 : Int).toNat = 14 from rfl, show (12 : Int).toNat = 12 from rfl, show (0 : Int).toNat = 0 from rfl]
  by_cases c : j < 14
  · rw [if_neg (by omega), if_neg (by omega), if_pos (by omega)]
    simp [c, show ¬ 14 ≤ j by omega, show ¬ 26 ≤ j by omega]
  · by_cases c2 : j < 26
    · rw [if_neg (by omega), if_pos (by omega)]
      simp [c, c2, show 14 ≤ j by omega, show ¬ 26 ≤ j by omega]
    · by_cases c3 : j < 32
      · rw [if_pos (by omega)]
        simp [c, c2, c3, show 26 ≤ j by omega]
      · rw [if_neg (by omega), if_neg (by omega), if_neg (by omega)]
        simp [c, c2, c3]
theorem of_sum (b t e : BitVec 64) : getF (wordF b t e) 0 14 = b % 16384#64 ∧ getF (wordF b t e) 14 12 = t % 4096#64 ∧ getF (wordF b t e) 26 6 = e % 64#64 := by
  obtain ⟨h1, h2, h3⟩ := of_word b t e
  rw [rem_mask b 14 _ (by omega) rfl, rem_mask t 12 _ (by omega) rfl, rem_mask e 6 _ (by omega) rfl]
  exact ⟨h1, h2, h3⟩
theorem of_low (a : BitVec 64) : (getF a 0 14 == getF (a % 4294967296#64) 0 14 && getF a 14 12 == getF (a % 4294967296#64) 14 12 && getF a 26 6 == getF (a % 4294967296#64) 26 6) = true := by
  rw [word_same, rem_mask a 32 _ (by omega) rfl, show maskF (32 : Nat) = 4294967295#64 from rfl, BitVec.and_assoc, BitVec.and_self]
  simp
theorem decode_lit (w : World) : Calls Try.prog 12 #[.agg #[.int .u64 5, .int .u64 9, .int .u64 0], .int .u64 6] w fun r w' => r = .returned (.tuple #[.agg #[.int .u64 5, .int .u64 9], .bool true]) ∧ Below w.heap.size w w' := by
  have h := decode_any 5#64 9#64 0#64 6#64 w
  rw [show decB 5#64 9#64 0#64 6#64 = 5#64 by decide, show decT 5#64 9#64 0#64 6#64 = 9#64 by decide, show decOk 5#64 9#64 0#64 6#64 = true by decide] at h
  exact h
set_option maxHeartbeats 8000000 in
set_option maxRecDepth 100000 in
theorem walk_tt (b t e a o : BitVec 64) (ha : decOk b t e a = true) (ho : decOk b t e o = true) (w : World) :
    Calls Try.prog 4 #[.agg #[.int .u64 (U b), .int .u64 (U t), .int .u64 (U e)], .int .u64 (U a), .int .u64 (U o)] w fun r w' => r = .returned (.bool true) ∧ Below w.heap.size w w' := by
  have cd : ∀ w : World, Calls Try.prog 12 #[.agg #[.int .u64 (U b), .int .u64 (U t), .int .u64 (U e)], .int .u64 (U a)] w fun r w' => r = .returned (.tuple #[.agg #[.int .u64 (U (decB b t e a)), .int .u64 (U (decT b t e a))], .bool true]) ∧ Below w.heap.size w w' := fun w => (decode_any b t e a w).mono fun _ _ g => ⟨by rw [g.1, ha], g.2⟩
  have ca : ∀ w : World, Calls Try.prog 13 #[.agg #[.int .u64 (U b), .int .u64 (U t), .int .u64 (U e)], .int .u64 (U a)] w fun r w' => r = .returned (.tuple #[.agg #[.int .u64 (U (decB b t e a)), .int .u64 (U (decT b t e a))], .bool true]) ∧ Below w.heap.size w w' := fun w => (rdecode_any b t e a w).mono fun _ _ g => ⟨by rw [g.1, ha], g.2⟩
  have co : ∀ w : World, Calls Try.prog 13 #[.agg #[.int .u64 (U b), .int .u64 (U t), .int .u64 (U e)], .int .u64 (U o)] w fun r w' => r = .returned (.tuple #[.agg #[.int .u64 (U (decB b t e o)), .int .u64 (U (decT b t e o))], .bool true]) ∧ Below w.heap.size w w' := fun w => (rdecode_any b t e o w).mono fun _ _ g => ⟨by rw [g.1, ho], g.2⟩
  have cn : ∀ w : World, Calls Try.prog 14 #[.agg #[.int .u64 (U b), .int .u64 (U t), .int .u64 (U e)], .int .u64 (U a), .int .u64 (U o)] w fun r w' => r = .returned (.bool (decB b t e a == decB b t e o && decT b t e a == decT b t e o)) ∧ Below w.heap.size w w' := fun w => (near_any b t e a o w).mono fun _ _ g => ⟨by rw [g.1, ha, ho]; rfl, g.2⟩
  have cw : ∀ w : World, Calls Try.prog 11 #[.agg #[.int .u64 (U b), .int .u64 (U t), .int .u64 (U e)]] w fun r w' => r = .returned (.int .u64 (U (b % 16384#64 + (t % 4096#64) <<< 14 + (e % 64#64) <<< 26))) ∧ Below w.heap.size w w' := fun w => (word_any b t e w).mono fun _ _ g => ⟨by rw [g.1, word_sum], g.2⟩
  have cf : ∀ w : World, Calls Try.prog 10 #[.int .u64 (U (b % 16384#64 + (t % 4096#64) <<< 14 + (e % 64#64) <<< 26))] w fun r w' => r = .returned (.agg #[.int .u64 (U (b % 16384#64)), .int .u64 (U (t % 4096#64)), .int .u64 (U (e % 64#64))]) ∧ Below w.heap.size w w' := fun w => (of_any _ w).mono fun _ _ g => ⟨by rw [g.1, ← word_sum, (of_sum b t e).1, (of_sum b t e).2.1, (of_sum b t e).2.2], g.2⟩
  have hl := of_low a
  clear ha ho
  go_enter Try.func4, Try.ntmps4
  go_wp2_with (first | (go_at_call 12; (with_reducible refine (decode_lit _).mono ?_); rintro e w' ⟨rfl, hbl⟩; obtain ⟨hcw, hfw, hsw⟩ := below_ifs hbl; (try simp only [World.size_alloc, World.size_setCell, size_drewN_] at hcw hfw hsw)) | (go_at_call 12; (with_reducible refine (cd _).mono ?_); rintro e w' ⟨rfl, hbl⟩; obtain ⟨hcw, hfw, hsw⟩ := below_ifs hbl; (try simp only [World.size_alloc, World.size_setCell, size_drewN_] at hcw hfw hsw)) | (go_at_call 13; (with_reducible refine (ca _).mono ?_); rintro e w' ⟨rfl, hbl⟩; obtain ⟨hcw, hfw, hsw⟩ := below_ifs hbl; (try simp only [World.size_alloc, World.size_setCell, size_drewN_] at hcw hfw hsw)) | (go_at_call 13; (with_reducible refine (co _).mono ?_); rintro e w' ⟨rfl, hbl⟩; obtain ⟨hcw, hfw, hsw⟩ := below_ifs hbl; (try simp only [World.size_alloc, World.size_setCell, size_drewN_] at hcw hfw hsw)) | (go_at_call 11; (with_reducible refine (cw _).mono ?_); rintro e w' ⟨rfl, hbl⟩; obtain ⟨hcw, hfw, hsw⟩ := below_ifs hbl; (try simp only [World.size_alloc, World.size_setCell, size_drewN_] at hcw hfw hsw)))
  refine wp_region_below (by kernel_rfl) (by kernel_rfl) (fun hcr hfr => ?_)
  (try simp only [World.size_alloc, World.size_setCell, size_drewN_] at hcr hfr)
  repeat (go_big_quiet_step ((first | (go_at_call 14; first | with_reducible exact Calls.regrown_of (cn _) | with_reducible exact regrown_k (cn _) | with_reducible exact regrown_1 (cn _) | with_reducible exact regrown_a (cn _)) | (go_at_call 10; first | with_reducible exact Calls.regrown_of (cf _) | with_reducible exact regrown_k (cf _) | with_reducible exact regrown_1 (cf _) | with_reducible exact regrown_a (cf _)) | (go_at_call 10; first | with_reducible exact Calls.regrown_of (of_any _ _) | with_reducible exact regrown_k (of_any _ _) | with_reducible exact regrown_1 (of_any _ _) | with_reducible exact regrown_a (of_any _ _)))))
  refine wpQuiet_nil ?_
  intro w' hbl
  clear hcr hfr
  obtain ⟨hcw, hfw, hsw⟩ := below_ifs hbl; (try simp only [World.size_alloc, World.size_setCell, size_drewN_] at hcw hfw hsw)
  go_wp2_with fail
  go_ret
  exact ⟨rfl, by (repeat (first | with_reducible exact Below.refl _ _ | with_reducible assumption | with_reducible refine below_drewN ?_ _ | with_reducible refine Below.drew ?_ | with_reducible refine below_alloc ?_ _ | (with_reducible refine Below.setCell ?_ (by first | (simp; done) | omega | (simp; omega)) _) | with_reducible refine belows ?_ (by assumption)))⟩
set_option maxHeartbeats 8000000 in
set_option maxRecDepth 100000 in
theorem walk_tf (b t e a o : BitVec 64) (ha : decOk b t e a = true) (ho : decOk b t e o = false) (w : World) :
    Calls Try.prog 4 #[.agg #[.int .u64 (U b), .int .u64 (U t), .int .u64 (U e)], .int .u64 (U a), .int .u64 (U o)] w fun r w' => r = .returned (.bool true) ∧ Below w.heap.size w w' := by
  have cd : ∀ w : World, Calls Try.prog 12 #[.agg #[.int .u64 (U b), .int .u64 (U t), .int .u64 (U e)], .int .u64 (U a)] w fun r w' => r = .returned (.tuple #[.agg #[.int .u64 (U (decB b t e a)), .int .u64 (U (decT b t e a))], .bool true]) ∧ Below w.heap.size w w' := fun w => (decode_any b t e a w).mono fun _ _ g => ⟨by rw [g.1, ha], g.2⟩
  have ca : ∀ w : World, Calls Try.prog 13 #[.agg #[.int .u64 (U b), .int .u64 (U t), .int .u64 (U e)], .int .u64 (U a)] w fun r w' => r = .returned (.tuple #[.agg #[.int .u64 (U (decB b t e a)), .int .u64 (U (decT b t e a))], .bool true]) ∧ Below w.heap.size w w' := fun w => (rdecode_any b t e a w).mono fun _ _ g => ⟨by rw [g.1, ha], g.2⟩
  have co : ∀ w : World, Calls Try.prog 13 #[.agg #[.int .u64 (U b), .int .u64 (U t), .int .u64 (U e)], .int .u64 (U o)] w fun r w' => r = .returned (.tuple #[.agg #[.int .u64 (U (decB b t e o)), .int .u64 (U (decT b t e o))], .bool false]) ∧ Below w.heap.size w w' := fun w => (rdecode_any b t e o w).mono fun _ _ g => ⟨by rw [g.1, ho], g.2⟩
  have cn : ∀ w : World, Calls Try.prog 14 #[.agg #[.int .u64 (U b), .int .u64 (U t), .int .u64 (U e)], .int .u64 (U a), .int .u64 (U o)] w fun r w' => r = .returned (.bool false) ∧ Below w.heap.size w w' := fun w => (near_any b t e a o w).mono fun _ _ g => ⟨by rw [g.1, ha, ho]; rfl, g.2⟩
  have cw : ∀ w : World, Calls Try.prog 11 #[.agg #[.int .u64 (U b), .int .u64 (U t), .int .u64 (U e)]] w fun r w' => r = .returned (.int .u64 (U (b % 16384#64 + (t % 4096#64) <<< 14 + (e % 64#64) <<< 26))) ∧ Below w.heap.size w w' := fun w => (word_any b t e w).mono fun _ _ g => ⟨by rw [g.1, word_sum], g.2⟩
  have cf : ∀ w : World, Calls Try.prog 10 #[.int .u64 (U (b % 16384#64 + (t % 4096#64) <<< 14 + (e % 64#64) <<< 26))] w fun r w' => r = .returned (.agg #[.int .u64 (U (b % 16384#64)), .int .u64 (U (t % 4096#64)), .int .u64 (U (e % 64#64))]) ∧ Below w.heap.size w w' := fun w => (of_any _ w).mono fun _ _ g => ⟨by rw [g.1, ← word_sum, (of_sum b t e).1, (of_sum b t e).2.1, (of_sum b t e).2.2], g.2⟩
  have hl := of_low a
  clear ha ho
  go_enter Try.func4, Try.ntmps4
  go_wp2_with (first | (go_at_call 12; (with_reducible refine (decode_lit _).mono ?_); rintro e w' ⟨rfl, hbl⟩; obtain ⟨hcw, hfw, hsw⟩ := below_ifs hbl; (try simp only [World.size_alloc, World.size_setCell, size_drewN_] at hcw hfw hsw)) | (go_at_call 12; (with_reducible refine (cd _).mono ?_); rintro e w' ⟨rfl, hbl⟩; obtain ⟨hcw, hfw, hsw⟩ := below_ifs hbl; (try simp only [World.size_alloc, World.size_setCell, size_drewN_] at hcw hfw hsw)) | (go_at_call 13; (with_reducible refine (ca _).mono ?_); rintro e w' ⟨rfl, hbl⟩; obtain ⟨hcw, hfw, hsw⟩ := below_ifs hbl; (try simp only [World.size_alloc, World.size_setCell, size_drewN_] at hcw hfw hsw)) | (go_at_call 13; (with_reducible refine (co _).mono ?_); rintro e w' ⟨rfl, hbl⟩; obtain ⟨hcw, hfw, hsw⟩ := below_ifs hbl; (try simp only [World.size_alloc, World.size_setCell, size_drewN_] at hcw hfw hsw)) | (go_at_call 11; (with_reducible refine (cw _).mono ?_); rintro e w' ⟨rfl, hbl⟩; obtain ⟨hcw, hfw, hsw⟩ := below_ifs hbl; (try simp only [World.size_alloc, World.size_setCell, size_drewN_] at hcw hfw hsw)))
  refine wp_region_below (by kernel_rfl) (by kernel_rfl) (fun hcr hfr => ?_)
  (try simp only [World.size_alloc, World.size_setCell, size_drewN_] at hcr hfr)
  repeat (go_big_quiet_step ((first | (go_at_call 14; first | with_reducible exact Calls.regrown_of (cn _) | with_reducible exact regrown_k (cn _) | with_reducible exact regrown_1 (cn _) | with_reducible exact regrown_a (cn _)) | (go_at_call 10; first | with_reducible exact Calls.regrown_of (cf _) | with_reducible exact regrown_k (cf _) | with_reducible exact regrown_1 (cf _) | with_reducible exact regrown_a (cf _)) | (go_at_call 10; first | with_reducible exact Calls.regrown_of (of_any _ _) | with_reducible exact regrown_k (of_any _ _) | with_reducible exact regrown_1 (of_any _ _) | with_reducible exact regrown_a (of_any _ _)))))
  refine wpQuiet_nil ?_
  intro w' hbl
  clear hcr hfr
  obtain ⟨hcw, hfw, hsw⟩ := below_ifs hbl; (try simp only [World.size_alloc, World.size_setCell, size_drewN_] at hcw hfw hsw)
  go_wp2_with fail
  go_ret
  exact ⟨rfl, by (repeat (first | with_reducible exact Below.refl _ _ | with_reducible assumption | with_reducible refine below_drewN ?_ _ | with_reducible refine Below.drew ?_ | with_reducible refine below_alloc ?_ _ | (with_reducible refine Below.setCell ?_ (by first | (simp; done) | omega | (simp; omega)) _) | with_reducible refine belows ?_ (by assumption)))⟩
set_option maxHeartbeats 8000000 in
set_option maxRecDepth 100000 in
theorem walk_ft (b t e a o : BitVec 64) (ha : decOk b t e a = false) (ho : decOk b t e o = true) (w : World) :
    Calls Try.prog 4 #[.agg #[.int .u64 (U b), .int .u64 (U t), .int .u64 (U e)], .int .u64 (U a), .int .u64 (U o)] w fun r w' => r = .returned (.bool true) ∧ Below w.heap.size w w' := by
  have cd : ∀ w : World, Calls Try.prog 12 #[.agg #[.int .u64 (U b), .int .u64 (U t), .int .u64 (U e)], .int .u64 (U a)] w fun r w' => r = .returned (.tuple #[.agg #[.int .u64 (U (decB b t e a)), .int .u64 (U (decT b t e a))], .bool false]) ∧ Below w.heap.size w w' := fun w => (decode_any b t e a w).mono fun _ _ g => ⟨by rw [g.1, ha], g.2⟩
  have ca : ∀ w : World, Calls Try.prog 13 #[.agg #[.int .u64 (U b), .int .u64 (U t), .int .u64 (U e)], .int .u64 (U a)] w fun r w' => r = .returned (.tuple #[.agg #[.int .u64 (U (decB b t e a)), .int .u64 (U (decT b t e a))], .bool false]) ∧ Below w.heap.size w w' := fun w => (rdecode_any b t e a w).mono fun _ _ g => ⟨by rw [g.1, ha], g.2⟩
  have co : ∀ w : World, Calls Try.prog 13 #[.agg #[.int .u64 (U b), .int .u64 (U t), .int .u64 (U e)], .int .u64 (U o)] w fun r w' => r = .returned (.tuple #[.agg #[.int .u64 (U (decB b t e o)), .int .u64 (U (decT b t e o))], .bool true]) ∧ Below w.heap.size w w' := fun w => (rdecode_any b t e o w).mono fun _ _ g => ⟨by rw [g.1, ho], g.2⟩
  have cn : ∀ w : World, Calls Try.prog 14 #[.agg #[.int .u64 (U b), .int .u64 (U t), .int .u64 (U e)], .int .u64 (U a), .int .u64 (U o)] w fun r w' => r = .returned (.bool false) ∧ Below w.heap.size w w' := fun w => (near_any b t e a o w).mono fun _ _ g => ⟨by rw [g.1, ha, ho]; rfl, g.2⟩
  have cw : ∀ w : World, Calls Try.prog 11 #[.agg #[.int .u64 (U b), .int .u64 (U t), .int .u64 (U e)]] w fun r w' => r = .returned (.int .u64 (U (b % 16384#64 + (t % 4096#64) <<< 14 + (e % 64#64) <<< 26))) ∧ Below w.heap.size w w' := fun w => (word_any b t e w).mono fun _ _ g => ⟨by rw [g.1, word_sum], g.2⟩
  have cf : ∀ w : World, Calls Try.prog 10 #[.int .u64 (U (b % 16384#64 + (t % 4096#64) <<< 14 + (e % 64#64) <<< 26))] w fun r w' => r = .returned (.agg #[.int .u64 (U (b % 16384#64)), .int .u64 (U (t % 4096#64)), .int .u64 (U (e % 64#64))]) ∧ Below w.heap.size w w' := fun w => (of_any _ w).mono fun _ _ g => ⟨by rw [g.1, ← word_sum, (of_sum b t e).1, (of_sum b t e).2.1, (of_sum b t e).2.2], g.2⟩
  have hl := of_low a
  clear ha ho
  go_enter Try.func4, Try.ntmps4
  go_wp2_with (first | (go_at_call 12; (with_reducible refine (decode_lit _).mono ?_); rintro e w' ⟨rfl, hbl⟩; obtain ⟨hcw, hfw, hsw⟩ := below_ifs hbl; (try simp only [World.size_alloc, World.size_setCell, size_drewN_] at hcw hfw hsw)) | (go_at_call 12; (with_reducible refine (cd _).mono ?_); rintro e w' ⟨rfl, hbl⟩; obtain ⟨hcw, hfw, hsw⟩ := below_ifs hbl; (try simp only [World.size_alloc, World.size_setCell, size_drewN_] at hcw hfw hsw)) | (go_at_call 13; (with_reducible refine (ca _).mono ?_); rintro e w' ⟨rfl, hbl⟩; obtain ⟨hcw, hfw, hsw⟩ := below_ifs hbl; (try simp only [World.size_alloc, World.size_setCell, size_drewN_] at hcw hfw hsw)) | (go_at_call 13; (with_reducible refine (co _).mono ?_); rintro e w' ⟨rfl, hbl⟩; obtain ⟨hcw, hfw, hsw⟩ := below_ifs hbl; (try simp only [World.size_alloc, World.size_setCell, size_drewN_] at hcw hfw hsw)) | (go_at_call 11; (with_reducible refine (cw _).mono ?_); rintro e w' ⟨rfl, hbl⟩; obtain ⟨hcw, hfw, hsw⟩ := below_ifs hbl; (try simp only [World.size_alloc, World.size_setCell, size_drewN_] at hcw hfw hsw)))
  refine wp_region_below (by kernel_rfl) (by kernel_rfl) (fun hcr hfr => ?_)
  (try simp only [World.size_alloc, World.size_setCell, size_drewN_] at hcr hfr)
  repeat (go_big_quiet_step ((first | (go_at_call 14; first | with_reducible exact Calls.regrown_of (cn _) | with_reducible exact regrown_k (cn _) | with_reducible exact regrown_1 (cn _) | with_reducible exact regrown_a (cn _)) | (go_at_call 10; first | with_reducible exact Calls.regrown_of (cf _) | with_reducible exact regrown_k (cf _) | with_reducible exact regrown_1 (cf _) | with_reducible exact regrown_a (cf _)) | (go_at_call 10; first | with_reducible exact Calls.regrown_of (of_any _ _) | with_reducible exact regrown_k (of_any _ _) | with_reducible exact regrown_1 (of_any _ _) | with_reducible exact regrown_a (of_any _ _)))))
  refine wpQuiet_nil ?_
  intro w' hbl
  clear hcr hfr
  obtain ⟨hcw, hfw, hsw⟩ := below_ifs hbl; (try simp only [World.size_alloc, World.size_setCell, size_drewN_] at hcw hfw hsw)
  go_wp2_with fail
  go_ret
  exact ⟨rfl, by (repeat (first | with_reducible exact Below.refl _ _ | with_reducible assumption | with_reducible refine below_drewN ?_ _ | with_reducible refine Below.drew ?_ | with_reducible refine below_alloc ?_ _ | (with_reducible refine Below.setCell ?_ (by first | (simp; done) | omega | (simp; omega)) _) | with_reducible refine belows ?_ (by assumption)))⟩
set_option maxHeartbeats 8000000 in
set_option maxRecDepth 100000 in
theorem walk_ff (b t e a o : BitVec 64) (ha : decOk b t e a = false) (ho : decOk b t e o = false) (w : World) :
    Calls Try.prog 4 #[.agg #[.int .u64 (U b), .int .u64 (U t), .int .u64 (U e)], .int .u64 (U a), .int .u64 (U o)] w fun r w' => r = .returned (.bool true) ∧ Below w.heap.size w w' := by
  have cd : ∀ w : World, Calls Try.prog 12 #[.agg #[.int .u64 (U b), .int .u64 (U t), .int .u64 (U e)], .int .u64 (U a)] w fun r w' => r = .returned (.tuple #[.agg #[.int .u64 (U (decB b t e a)), .int .u64 (U (decT b t e a))], .bool false]) ∧ Below w.heap.size w w' := fun w => (decode_any b t e a w).mono fun _ _ g => ⟨by rw [g.1, ha], g.2⟩
  have ca : ∀ w : World, Calls Try.prog 13 #[.agg #[.int .u64 (U b), .int .u64 (U t), .int .u64 (U e)], .int .u64 (U a)] w fun r w' => r = .returned (.tuple #[.agg #[.int .u64 (U (decB b t e a)), .int .u64 (U (decT b t e a))], .bool false]) ∧ Below w.heap.size w w' := fun w => (rdecode_any b t e a w).mono fun _ _ g => ⟨by rw [g.1, ha], g.2⟩
  have co : ∀ w : World, Calls Try.prog 13 #[.agg #[.int .u64 (U b), .int .u64 (U t), .int .u64 (U e)], .int .u64 (U o)] w fun r w' => r = .returned (.tuple #[.agg #[.int .u64 (U (decB b t e o)), .int .u64 (U (decT b t e o))], .bool false]) ∧ Below w.heap.size w w' := fun w => (rdecode_any b t e o w).mono fun _ _ g => ⟨by rw [g.1, ho], g.2⟩
  have cn : ∀ w : World, Calls Try.prog 14 #[.agg #[.int .u64 (U b), .int .u64 (U t), .int .u64 (U e)], .int .u64 (U a), .int .u64 (U o)] w fun r w' => r = .returned (.bool false) ∧ Below w.heap.size w w' := fun w => (near_any b t e a o w).mono fun _ _ g => ⟨by rw [g.1, ha, ho]; rfl, g.2⟩
  have cw : ∀ w : World, Calls Try.prog 11 #[.agg #[.int .u64 (U b), .int .u64 (U t), .int .u64 (U e)]] w fun r w' => r = .returned (.int .u64 (U (b % 16384#64 + (t % 4096#64) <<< 14 + (e % 64#64) <<< 26))) ∧ Below w.heap.size w w' := fun w => (word_any b t e w).mono fun _ _ g => ⟨by rw [g.1, word_sum], g.2⟩
  have cf : ∀ w : World, Calls Try.prog 10 #[.int .u64 (U (b % 16384#64 + (t % 4096#64) <<< 14 + (e % 64#64) <<< 26))] w fun r w' => r = .returned (.agg #[.int .u64 (U (b % 16384#64)), .int .u64 (U (t % 4096#64)), .int .u64 (U (e % 64#64))]) ∧ Below w.heap.size w w' := fun w => (of_any _ w).mono fun _ _ g => ⟨by rw [g.1, ← word_sum, (of_sum b t e).1, (of_sum b t e).2.1, (of_sum b t e).2.2], g.2⟩
  have hl := of_low a
  clear ha ho
  go_enter Try.func4, Try.ntmps4
  go_wp2_with (first | (go_at_call 12; (with_reducible refine (decode_lit _).mono ?_); rintro e w' ⟨rfl, hbl⟩; obtain ⟨hcw, hfw, hsw⟩ := below_ifs hbl; (try simp only [World.size_alloc, World.size_setCell, size_drewN_] at hcw hfw hsw)) | (go_at_call 12; (with_reducible refine (cd _).mono ?_); rintro e w' ⟨rfl, hbl⟩; obtain ⟨hcw, hfw, hsw⟩ := below_ifs hbl; (try simp only [World.size_alloc, World.size_setCell, size_drewN_] at hcw hfw hsw)) | (go_at_call 13; (with_reducible refine (ca _).mono ?_); rintro e w' ⟨rfl, hbl⟩; obtain ⟨hcw, hfw, hsw⟩ := below_ifs hbl; (try simp only [World.size_alloc, World.size_setCell, size_drewN_] at hcw hfw hsw)) | (go_at_call 13; (with_reducible refine (co _).mono ?_); rintro e w' ⟨rfl, hbl⟩; obtain ⟨hcw, hfw, hsw⟩ := below_ifs hbl; (try simp only [World.size_alloc, World.size_setCell, size_drewN_] at hcw hfw hsw)) | (go_at_call 11; (with_reducible refine (cw _).mono ?_); rintro e w' ⟨rfl, hbl⟩; obtain ⟨hcw, hfw, hsw⟩ := below_ifs hbl; (try simp only [World.size_alloc, World.size_setCell, size_drewN_] at hcw hfw hsw)))
  refine wp_region_below (by kernel_rfl) (by kernel_rfl) (fun hcr hfr => ?_)
  (try simp only [World.size_alloc, World.size_setCell, size_drewN_] at hcr hfr)
  repeat (go_big_quiet_step ((first | (go_at_call 14; first | with_reducible exact Calls.regrown_of (cn _) | with_reducible exact regrown_k (cn _) | with_reducible exact regrown_1 (cn _) | with_reducible exact regrown_a (cn _)) | (go_at_call 10; first | with_reducible exact Calls.regrown_of (cf _) | with_reducible exact regrown_k (cf _) | with_reducible exact regrown_1 (cf _) | with_reducible exact regrown_a (cf _)) | (go_at_call 10; first | with_reducible exact Calls.regrown_of (of_any _ _) | with_reducible exact regrown_k (of_any _ _) | with_reducible exact regrown_1 (of_any _ _) | with_reducible exact regrown_a (of_any _ _)))))
  refine wpQuiet_nil ?_
  intro w' hbl
  clear hcr hfr
  obtain ⟨hcw, hfw, hsw⟩ := below_ifs hbl; (try simp only [World.size_alloc, World.size_setCell, size_drewN_] at hcw hfw hsw)
  go_wp2_with fail
  go_ret
  exact ⟨rfl, by (repeat (first | with_reducible exact Below.refl _ _ | with_reducible assumption | with_reducible refine below_drewN ?_ _ | with_reducible refine Below.drew ?_ | with_reducible refine below_alloc ?_ _ | (with_reducible refine Below.setCell ?_ (by first | (simp; done) | omega | (simp; omega)) _) | with_reducible refine belows ?_ (by assumption)))⟩
theorem walk (b t e a o : BitVec 64) (w : World) :
    Calls Try.prog 4 #[.agg #[.int .u64 (U b), .int .u64 (U t), .int .u64 (U e)], .int .u64 (U a), .int .u64 (U o)] w fun r w' => r = .returned (.bool true) ∧ Below w.heap.size w w' := by
  cases ha : decOk b t e a
  · cases ho : decOk b t e o
    · exact walk_ff b t e a o ha ho w
    · exact walk_ft b t e a o ha ho w
  · cases ho : decOk b t e o
    · exact walk_tf b t e a o ha ho w
    · exact walk_tt b t e a o ha ho w

set_option maxRecDepth 100000 in
theorem lifted (os : Os) (started : os.Started) (H : Type) (enc : TypeId × Value → H) :
    ReturnsInHanded {} Try.checked os 4 .any (Rows.boundsTellsSpec.pre6 enc Try.prog Try.f4 Rows.boundsTellsRow.domain false) (Rows.boundsTellsSpec.post enc Try.prog Try.f4 false true false false) := by
  refine law_lift (C := Try.checked) (tb := 4) started (by kernel_rfl) (by kernel_rfl) Try.func4 rfl rfl Try.underlying4 (by kernel_rfl) (by kernel_rfl)
    (fun ds h => by match ds, h with | [_, _, _], _ => rfl)
    (ChangeSpec.witness6 (enc := enc) (C := Try.checked) false ⟨#[], #[.agg #[.int .u64 0, .int .u64 0, .int .u64 0], .int .u64 0, .int .u64 0], []⟩ 8 (by kernel_rfl) (by kernel_rfl) (by kernel_rfl) (by kernel_rfl)) ?_
  intro W base args ds ps hval hA hlt hfz hsz
  rw [Try.params4] at hA hval hsz
  obtain ⟨v0, v1, v2, d0, d1, d2, p0, p1, p2, rfl, rfl, rfl, h0, h1, h2⟩ := trodAll_three hA
  obtain ⟨na, wa, nb, wb, nc, wc, rfl⟩ := open_leaves (d := 5) (ls := [.int .u64, .int .u64, .int .u64]) (by kernel_rfl) (by kernel_rfl) (hval 0 _ v0 rfl rfl) h0
  obtain ⟨a1, rfl, rfl, rfl, w1⟩ := open_int Try.underlying22 (hval 1 _ v1 rfl rfl) h1
  obtain ⟨a2, rfl, rfl, rfl, w2⟩ := open_int Try.underlying22 (hval 2 _ v2 rfl rfl) h2
  obtain ⟨a, rfl⟩ := exists_U na wa
  obtain ⟨b, rfl⟩ := exists_U nb wb
  obtain ⟨c, rfl⟩ := exists_U nc wc
  obtain ⟨x, rfl⟩ := exists_U a1 w1
  obtain ⟨y, rfl⟩ := exists_U a2 w2
  exact walk a b c x y W

theorem over : Rows.boundsTellsRow.holds Try.pinned (OpenSpec.ofChange Rows.boundsTellsSpec) :=
  OpenClaim.holds_of_wide 4 Try.f4 rfl rfl rfl rfl rfl rfl rfl ⟨rfl, rfl, rfl, rfl, rfl⟩ rfl rfl rfl rfl rfl (by kernel_rfl) Try.func4 (by kernel_rfl)
    (of_decide_eq_true (by kernel_rfl)) (by unfold Func.isWrapper; first | (rw [if_pos (by decide +kernel)]; kernel_rfl) | (rw [if_neg (by decide +kernel)]; exact ⟨rfl, rfl⟩))
    (fun os started H enc _ => lifted os started H enc)

theorem proved : Rows.BoundsTellsSaid := over
end Go.Proofs.Ytjhekfcnoofaaaa.Tells
