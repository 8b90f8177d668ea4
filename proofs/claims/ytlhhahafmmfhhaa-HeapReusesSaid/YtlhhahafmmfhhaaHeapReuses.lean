
/-
  HeapReuses: what was given back, and is settled, is given out again, at the same place; and until then another place is. Every input.
-/
import Derived.Test.YtlhhahafmmfhhaaHpM
import Derived.Test.YtlhhahafmmfhhaaLaw
import Derived.Outline
import Derived.Deep.DeepCutAuto
import Derived.Deep.CutRange
import Derived.Deep.RegionLaw
namespace Go.Proofs.Ytlhhahafmmfhhaa.Reuses
open Go Go.RowKit Go.ChangeShapes Go.WideShapes Go.ChangeAt
set_option linter.unusedVariables false
set_option linter.unusedSimpArgs false

set_option maxHeartbeats 16000000 in
set_option maxRecDepth 100000 in
theorem walk (x : BitVec 64) (y z : Int) (w : World) : Calls Try.prog 3 #[.int .u64 (U x), .int .i64 y, .int .i64 z] w fun e w' => e = .returned (.bool true) ∧ Below w.heap.size w w' := by
  have cn : ∀ w : World, Calls Try.prog 4 #[.agg #[.int .u64 65536, .int .u64 131072]] w fun e w' => e = .returned (.tuple #[.agg #[.int .u64 65536, .int .u64 131072, .slice none 0 0], .int .i64 0]) ∧ Below w.heap.size w w' := fun w => new_yes 65536#64 131072#64 (by decide) (by decide +kernel) (by decide) w
  obtain ⟨n, hn⟩ : ∃ n, n = 1#64 + (x &&& 4095#64) := ⟨_, rfl⟩
  have hnb : 0 < n.toNat ∧ n.toNat ≤ 4096 := by
    have h1 : (x &&& 4095#64).toNat ≤ 4095 := by
      rw [BitVec.toNat_and]
      exact Nat.and_le_right
    have e1 : (1#64).toNat = 1 := rfl
    rw [hn, BitVec.toNat_add, e1]
    omega
  have hn0 : n ≠ 0#64 := by
    intro h
    rw [h] at hnb
    exact absurd hnb.1 (by decide)
  have hn1 : U n ≤ 274877906944 := by unfold U; omega
  have R := row3 n hnb.1 hnb.2
  generalize 65536#64 + askN n = b at R
  generalize b + askN n = c at R
  generalize c + askN n = d at R
  have t0 : ∀ (B : Nat) (v : Value) (W : World), SlH W B v [] → Calls Try.prog 5 #[.agg #[.int .u64 65536, .int .u64 131072, v], .int .u64 (U n)] W fun e w' => ∃ v', e = .returned (.tuple #[.agg #[.int .u64 65536, .int .u64 131072, v'], .agg #[.int .u64 65536, .int .u64 (U b)], .int .i64 0]) ∧ SlH w' W.heap.size v' [⟨65536#64, b, false, 0⟩] ∧ Below W.heap.size W w' := fun B v W h => take0 R hn0 hn1 B v W h
  have t1 : ∀ (B : Nat) (v : Value) (W : World), SlH W B v [⟨65536#64, b, false, 0⟩] → Calls Try.prog 5 #[.agg #[.int .u64 65536, .int .u64 131072, v], .int .u64 (U n)] W fun e w' => ∃ v', e = .returned (.tuple #[.agg #[.int .u64 65536, .int .u64 131072, v'], .agg #[.int .u64 (U b), .int .u64 (U c)], .int .i64 0]) ∧ SlH w' W.heap.size v' [⟨65536#64, b, false, 0⟩, ⟨b, c, false, 0⟩] ∧ Below W.heap.size W w' := fun B v W h => take1 R hn0 hn1 _ _ B v W h
  have t2 : ∀ (m : Int) (B : Nat) (v : Value) (W : World), SlH W B v [⟨65536#64, b, true, m⟩, ⟨b, c, false, 0⟩] → Calls Try.prog 5 #[.agg #[.int .u64 65536, .int .u64 131072, v], .int .u64 (U n)] W fun e w' => ∃ v', e = .returned (.tuple #[.agg #[.int .u64 65536, .int .u64 131072, v'], .agg #[.int .u64 (U c), .int .u64 (U d)], .int .i64 0]) ∧ SlH w' W.heap.size v' [⟨65536#64, b, true, m⟩, ⟨b, c, false, 0⟩, ⟨c, d, false, 0⟩] ∧ Below W.heap.size W w' := fun m B v W h => take2 R hn0 hn1 _ _ _ _ B v W h
  have t3 : ∀ (B : Nat) (v : Value) (W : World), SlH W B v [⟨b, c, false, 0⟩] → Calls Try.prog 5 #[.agg #[.int .u64 65536, .int .u64 131072, v], .int .u64 (U n)] W fun e w' => ∃ v', e = .returned (.tuple #[.agg #[.int .u64 65536, .int .u64 131072, v'], .agg #[.int .u64 65536, .int .u64 (U b)], .int .i64 0]) ∧ SlH w' W.heap.size v' [⟨65536#64, b, false, 0⟩, ⟨b, c, false, 0⟩] ∧ Below W.heap.size W w' := fun B v W h => take3 R hn0 hn1 _ _ B v W h
  have gv : ∀ (m : Int) (B : Nat) (v : Value) (W : World), SlH W B v [⟨65536#64, b, false, 0⟩, ⟨b, c, false, 0⟩] → Calls Try.prog 6 #[.agg #[.int .u64 65536, .int .u64 131072, v], .int .u64 65536, .int .i64 m] W fun e w' => ∃ v', e = .returned (.tuple #[.agg #[.int .u64 65536, .int .u64 131072, v'], .int .i64 0]) ∧ SlH w' W.heap.size v' [⟨65536#64, b, true, m⟩, ⟨b, c, false, 0⟩] ∧ Below W.heap.size W w' := fun m B v W h => give_yes B 65536#64 131072#64 65536#64 m v _ W h (by simp) 0 _ (idx_hit _ _ 0 _ rfl rfl (fun j _ hj => absurd hj (Nat.not_lt_zero _))) rfl
  have q1 : (65536 : Int) < U b := R.lb
  have q2 := R.lc
  have q3 := R.ld
  have q4 : (U c == 65536) = false := by rw [beq_eq_false_iff_ne]; omega
  have q5 : (65536 == U c) = false := by rw [beq_eq_false_iff_ne]; omega
  clear R hn0 hn1 hnb
  go_enter Try.func3, Try.ntmps3
  go_wp2_with (first | (go_at_call 4; (with_reducible refine (cn _).mono ?_); rintro e w' ⟨rfl, hbl⟩; obtain ⟨hcw, hfw, hsw⟩ := below_ifs hbl; (try simp only [World.size_alloc, World.size_setCell, World.size_drew, size_drewN_] at hcw hfw hsw)))
  rw [← hn]
  clear hn
  refine (t0 0 _ _ (SlH.nil _ _)).mono ?_
  rintro e w1 ⟨v1, rfl, hs1, hb1⟩
  obtain ⟨a1, n1, c1, rfl⟩ := hs1.form0
  have HS1 := Lib.hid hs1
  clear hs1
  obtain ⟨hcw1, hfw1, hsw1⟩ := below_ifs hb1
  (try simp only [World.size_alloc, World.size_setCell, World.size_drew, size_drewN_] at hcw1 hfw1 hsw1)
  go_wp2_with fail
  refine (t1 0 _ _ (by (repeat (first | with_reducible exact HS1.out.mono (Nat.zero_le _) | with_reducible refine SlH.alloc ?_ _ | with_reducible refine SlH.other ?_ _ _ ?_ | with_reducible refine SlH.below ?_ (by assumption))); all_goals (intro g hg; have q1 := HS1.out.ge g hg; have q2 := HS1.out.lt g hg; (try simp only [World.size_alloc, World.size_setCell, World.size_drew, size_drewN_] at q1 q2); (try simp only [World.size_alloc, World.size_setCell, World.size_drew, size_drewN_]); omega))).mono ?_
  rintro e w2 ⟨v2, rfl, hs2, hb2⟩
  obtain ⟨a2, n2, c2, rfl⟩ := hs2.form0
  have HS2 := Lib.hid hs2
  clear hs2
  obtain ⟨hcw2, hfw2, hsw2⟩ := below_ifs hb2
  (try simp only [World.size_alloc, World.size_setCell, World.size_drew, size_drewN_] at hcw2 hfw2 hsw2)
  go_wp2_with fail
  obtain ⟨m, hm⟩ : ∃ m : Nat, y % 65536 = (m : Int) := ⟨(y % 65536).toNat, by omega⟩
  have hm2 : m ≤ 65535 := by omega
  rw [hm]
  clear hm
  refine (gv m 0 _ _ (by (repeat (first | with_reducible exact HS2.out.mono (Nat.zero_le _) | with_reducible refine SlH.alloc ?_ _ | with_reducible refine SlH.other ?_ _ _ ?_ | with_reducible refine SlH.below ?_ (by assumption))); all_goals (intro g hg; have q1 := HS2.out.ge g hg; have q2 := HS2.out.lt g hg; (try simp only [World.size_alloc, World.size_setCell, World.size_drew, size_drewN_] at q1 q2); (try simp only [World.size_alloc, World.size_setCell, World.size_drew, size_drewN_]); omega))).mono ?_
  rintro e w3 ⟨v3, rfl, hs3, hb3⟩
  obtain ⟨a3, n3, c3, rfl⟩ := hs3.form0
  have HS3 := Lib.hid hs3
  clear hs3
  obtain ⟨hcw3, hfw3, hsw3⟩ := below_ifs hb3
  (try simp only [World.size_alloc, World.size_setCell, World.size_drew, size_drewN_] at hcw3 hfw3 hsw3)
  go_wp2_with fail
  refine (t2 m 0 _ _ (by (repeat (first | with_reducible exact HS3.out.mono (Nat.zero_le _) | with_reducible refine SlH.alloc ?_ _ | with_reducible refine SlH.other ?_ _ _ ?_ | with_reducible refine SlH.below ?_ (by assumption))); all_goals (intro g hg; have q1 := HS3.out.ge g hg; have q2 := HS3.out.lt g hg; (try simp only [World.size_alloc, World.size_setCell, World.size_drew, size_drewN_] at q1 q2); (try simp only [World.size_alloc, World.size_setCell, World.size_drew, size_drewN_]); omega))).mono ?_
  rintro e w4 ⟨v4, rfl, hs4, hb4⟩
  obtain ⟨a4, n4, c4, rfl⟩ := hs4.form0
  have HS4 := Lib.hid hs4
  clear hs4
  obtain ⟨hcw4, hfw4, hsw4⟩ := below_ifs hb4
  (try simp only [World.size_alloc, World.size_setCell, World.size_drew, size_drewN_] at hcw4 hfw4 hsw4)
  go_wp2_with fail
  refine (held_is (k := 1) 0 65536#64 131072#64 _ [⟨65536#64, b, true, (m : Int)⟩, ⟨b, c, false, 0⟩, ⟨c, d, false, 0⟩] _ (by (repeat (first | with_reducible exact HS4.out.mono (Nat.zero_le _) | with_reducible refine SlH.alloc ?_ _ | with_reducible refine SlH.other ?_ _ _ ?_ | with_reducible refine SlH.below ?_ (by assumption))); all_goals (intro g hg; have q1 := HS4.out.ge g hg; have q2 := HS4.out.lt g hg; (try simp only [World.size_alloc, World.size_setCell, World.size_drew, size_drewN_] at q1 q2); (try simp only [World.size_alloc, World.size_setCell, World.size_drew, size_drewN_]); omega)) (by simp) rfl).mono ?_
  rintro e w5 ⟨a5, c5, rfl, hb5⟩
  obtain ⟨hcw5, hfw5, hsw5⟩ := below_ifs hb5
  (try simp only [World.size_alloc, World.size_setCell, World.size_drew, size_drewN_] at hcw5 hfw5 hsw5)
  go_wp2_with fail
  refine (blocks_is (k := 3) 0 65536#64 131072#64 _ [⟨65536#64, b, true, (m : Int)⟩, ⟨b, c, false, 0⟩, ⟨c, d, false, 0⟩] _ (by (repeat (first | with_reducible exact HS4.out.mono (Nat.zero_le _) | with_reducible refine SlH.alloc ?_ _ | with_reducible refine SlH.other ?_ _ _ ?_ | with_reducible refine SlH.below ?_ (by assumption))); all_goals (intro g hg; have q1 := HS4.out.ge g hg; have q2 := HS4.out.lt g hg; (try simp only [World.size_alloc, World.size_setCell, World.size_drew, size_drewN_] at q1 q2); (try simp only [World.size_alloc, World.size_setCell, World.size_drew, size_drewN_]); omega)) (by simp) rfl).mono ?_
  rintro e w6 ⟨a6, c6, rfl, hb6⟩
  obtain ⟨hcw6, hfw6, hsw6⟩ := below_ifs hb6
  (try simp only [World.size_alloc, World.size_setCell, World.size_drew, size_drewN_] at hcw6 hfw6 hsw6)
  go_wp2_with fail
  obtain ⟨k, hk⟩ : ∃ k : Nat, z % 8 = (k : Int) := ⟨(z % 8).toNat, by omega⟩
  have hk2 : k ≤ 7 := by omega
  rw [hk]
  clear hk
  have hag : againF (m : Int) = (m : Int) + 2 + (m : Int) % 2 := by unfold againF; split <;> omega
  have cag := fun w => again_any m (by omega) w
  rw [hag] at cag
  have hst : settleF ((m : Int) + (k : Int)) ⟨65536#64, b, true, m⟩ = decide ((m : Int) + 2 + (m : Int) % 2 ≤ (m : Int) + (k : Int)) := by unfold settleF; rw [Bool.true_and, hag]
  by_cases hev : m % 2 = 0
  · have hpar : ((m : Int) % 2 == 0) = true := by rw [beq_iff_eq]; omega
    by_cases hfr : 2 ≤ k
    · rw [decide_eq_true (by omega)] at hst
      have hfi : (2 : Int) ≤ (k : Int) := by omega
      refine (settle_two 0 65536#64 131072#64 _ _ ⟨65536#64, b, true, m⟩ ⟨b, c, false, 0⟩ _ (by (repeat (first | with_reducible exact HS3.out.mono (Nat.zero_le _) | with_reducible refine SlH.alloc ?_ _ | with_reducible refine SlH.other ?_ _ _ ?_ | with_reducible refine SlH.below ?_ (by assumption))); all_goals (intro g hg; have q1 := HS3.out.ge g hg; have q2 := HS3.out.lt g hg; (try simp only [World.size_alloc, World.size_setCell, World.size_drew, size_drewN_] at q1 q2); (try simp only [World.size_alloc, World.size_setCell, World.size_drew, size_drewN_]); omega)) m 0 rfl (by omega) rfl (by omega) hst rfl).mono ?_
      rintro e w7 ⟨v7, rfl, hs7, hb7⟩
      obtain ⟨a7, n7, c7, rfl⟩ := hs7.form0
      have HS7 := Lib.hid hs7
      clear hs7
      obtain ⟨hcw7, hfw7, hsw7⟩ := below_ifs hb7
      (try simp only [World.size_alloc, World.size_setCell, World.size_drew, size_drewN_] at hcw7 hfw7 hsw7)
      go_wp2_with fail
      refine (t3 0 _ _ (by (repeat (first | with_reducible exact HS7.out.mono (Nat.zero_le _) | with_reducible refine SlH.alloc ?_ _ | with_reducible refine SlH.other ?_ _ _ ?_ | with_reducible refine SlH.below ?_ (by assumption))); all_goals (intro g hg; have q1 := HS7.out.ge g hg; have q2 := HS7.out.lt g hg; (try simp only [World.size_alloc, World.size_setCell, World.size_drew, size_drewN_] at q1 q2); (try simp only [World.size_alloc, World.size_setCell, World.size_drew, size_drewN_]); omega))).mono ?_
      rintro e w8 ⟨v8, rfl, hs8, hb8⟩
      obtain ⟨a8, n8, c8, rfl⟩ := hs8.form0
      have HS8 := Lib.hid hs8
      clear hs8
      obtain ⟨hcw8, hfw8, hsw8⟩ := below_ifs hb8
      (try simp only [World.size_alloc, World.size_setCell, World.size_drew, size_drewN_] at hcw8 hfw8 hsw8)
      go_wp2_with (first | (go_at_call 10; (with_reducible refine (cag _).mono ?_); rintro e w' ⟨rfl, hbl⟩; obtain ⟨hcw, hfw, hsw⟩ := below_ifs hbl; (try simp only [World.size_alloc, World.size_setCell, World.size_drew, size_drewN_] at hcw hfw hsw)) | (go_at_call 11; (with_reducible refine (one_any _).mono ?_); rintro e w' ⟨rfl, hbl⟩; obtain ⟨hcw, hfw, hsw⟩ := below_ifs hbl; (try simp only [World.size_alloc, World.size_setCell, World.size_drew, size_drewN_] at hcw hfw hsw)))
      all_goals first | (exfalso; omega; done) | (go_ret; exact ⟨ret_bool (by first | rfl | (simp; done) | (simp; omega)), by (repeat (first | with_reducible exact Below.refl _ _ | with_reducible assumption | with_reducible refine below_drewN ?_ _ | with_reducible refine Below.drew ?_ | with_reducible refine below_alloc ?_ _ | (with_reducible refine Below.setCell ?_ (by first | (simp; done) | omega | (simp; omega)) _) | with_reducible refine belows ?_ (by assumption)))⟩)
    · rw [decide_eq_false (by omega)] at hst
      have hfi : ¬ (2 : Int) ≤ (k : Int) := by omega
      have hfj : ¬ (3 : Int) ≤ (k : Int) := by omega
      refine (settle_none 0 65536#64 131072#64 _ _ [⟨65536#64, b, true, m⟩, ⟨b, c, false, 0⟩] _ (by (repeat (first | with_reducible exact HS3.out.mono (Nat.zero_le _) | with_reducible refine SlH.alloc ?_ _ | with_reducible refine SlH.other ?_ _ _ ?_ | with_reducible refine SlH.below ?_ (by assumption))); all_goals (intro g hg; have q1 := HS3.out.ge g hg; have q2 := HS3.out.lt g hg; (try simp only [World.size_alloc, World.size_setCell, World.size_drew, size_drewN_] at q1 q2); (try simp only [World.size_alloc, World.size_setCell, World.size_drew, size_drewN_]); omega)) (by simp) (fun j r h => by rcases two_get h with ⟨-, rfl⟩ | ⟨-, rfl⟩; (exact ⟨m, rfl, by omega⟩); exact ⟨0, rfl, by omega⟩) (fun j r h => by rcases two_get h with ⟨-, rfl⟩ | ⟨-, rfl⟩; (exact hst); rfl)).mono ?_
      rintro e w7 ⟨v7, rfl, hs7, hb7⟩
      obtain ⟨a7, n7, c7, rfl⟩ := hs7.form0
      have HS7 := Lib.hid hs7
      clear hs7
      obtain ⟨hcw7, hfw7, hsw7⟩ := below_ifs hb7
      (try simp only [World.size_alloc, World.size_setCell, World.size_drew, size_drewN_] at hcw7 hfw7 hsw7)
      go_wp2_with fail
      refine (t2 m 0 _ _ (by (repeat (first | with_reducible exact HS7.out.mono (Nat.zero_le _) | with_reducible refine SlH.alloc ?_ _ | with_reducible refine SlH.other ?_ _ _ ?_ | with_reducible refine SlH.below ?_ (by assumption))); all_goals (intro g hg; have q1 := HS7.out.ge g hg; have q2 := HS7.out.lt g hg; (try simp only [World.size_alloc, World.size_setCell, World.size_drew, size_drewN_] at q1 q2); (try simp only [World.size_alloc, World.size_setCell, World.size_drew, size_drewN_]); omega))).mono ?_
      rintro e w8 ⟨v8, rfl, hs8, hb8⟩
      obtain ⟨a8, n8, c8, rfl⟩ := hs8.form0
      have HS8 := Lib.hid hs8
      clear hs8
      obtain ⟨hcw8, hfw8, hsw8⟩ := below_ifs hb8
      (try simp only [World.size_alloc, World.size_setCell, World.size_drew, size_drewN_] at hcw8 hfw8 hsw8)
      go_wp2_with (first | (go_at_call 10; (with_reducible refine (cag _).mono ?_); rintro e w' ⟨rfl, hbl⟩; obtain ⟨hcw, hfw, hsw⟩ := below_ifs hbl; (try simp only [World.size_alloc, World.size_setCell, World.size_drew, size_drewN_] at hcw hfw hsw)) | (go_at_call 11; (with_reducible refine (one_any _).mono ?_); rintro e w' ⟨rfl, hbl⟩; obtain ⟨hcw, hfw, hsw⟩ := below_ifs hbl; (try simp only [World.size_alloc, World.size_setCell, World.size_drew, size_drewN_] at hcw hfw hsw)))
      all_goals first | (exfalso; omega; done) | (go_ret; exact ⟨ret_bool (by first | rfl | (simp; done) | (simp; omega)), by (repeat (first | with_reducible exact Below.refl _ _ | with_reducible assumption | with_reducible refine below_drewN ?_ _ | with_reducible refine Below.drew ?_ | with_reducible refine below_alloc ?_ _ | (with_reducible refine Below.setCell ?_ (by first | (simp; done) | omega | (simp; omega)) _) | with_reducible refine belows ?_ (by assumption)))⟩)
  · have hpar : ((m : Int) % 2 == 0) = false := by rw [beq_eq_false_iff_ne]; omega
    by_cases hfr : 3 ≤ k
    · rw [decide_eq_true (by omega)] at hst
      have hfi : (2 : Int) ≤ (k : Int) := by omega
      have hfj : (3 : Int) ≤ (k : Int) := by omega
      refine (settle_two 0 65536#64 131072#64 _ _ ⟨65536#64, b, true, m⟩ ⟨b, c, false, 0⟩ _ (by (repeat (first | with_reducible exact HS3.out.mono (Nat.zero_le _) | with_reducible refine SlH.alloc ?_ _ | with_reducible refine SlH.other ?_ _ _ ?_ | with_reducible refine SlH.below ?_ (by assumption))); all_goals (intro g hg; have q1 := HS3.out.ge g hg; have q2 := HS3.out.lt g hg; (try simp only [World.size_alloc, World.size_setCell, World.size_drew, size_drewN_] at q1 q2); (try simp only [World.size_alloc, World.size_setCell, World.size_drew, size_drewN_]); omega)) m 0 rfl (by omega) rfl (by omega) hst rfl).mono ?_
      rintro e w7 ⟨v7, rfl, hs7, hb7⟩
      obtain ⟨a7, n7, c7, rfl⟩ := hs7.form0
      have HS7 := Lib.hid hs7
      clear hs7
      obtain ⟨hcw7, hfw7, hsw7⟩ := below_ifs hb7
      (try simp only [World.size_alloc, World.size_setCell, World.size_drew, size_drewN_] at hcw7 hfw7 hsw7)
      go_wp2_with fail
      refine (t3 0 _ _ (by (repeat (first | with_reducible exact HS7.out.mono (Nat.zero_le _) | with_reducible refine SlH.alloc ?_ _ | with_reducible refine SlH.other ?_ _ _ ?_ | with_reducible refine SlH.below ?_ (by assumption))); all_goals (intro g hg; have q1 := HS7.out.ge g hg; have q2 := HS7.out.lt g hg; (try simp only [World.size_alloc, World.size_setCell, World.size_drew, size_drewN_] at q1 q2); (try simp only [World.size_alloc, World.size_setCell, World.size_drew, size_drewN_]); omega))).mono ?_
      rintro e w8 ⟨v8, rfl, hs8, hb8⟩
      obtain ⟨a8, n8, c8, rfl⟩ := hs8.form0
      have HS8 := Lib.hid hs8
      clear hs8
      obtain ⟨hcw8, hfw8, hsw8⟩ := below_ifs hb8
      (try simp only [World.size_alloc, World.size_setCell, World.size_drew, size_drewN_] at hcw8 hfw8 hsw8)
      go_wp2_with (first | (go_at_call 10; (with_reducible refine (cag _).mono ?_); rintro e w' ⟨rfl, hbl⟩; obtain ⟨hcw, hfw, hsw⟩ := below_ifs hbl; (try simp only [World.size_alloc, World.size_setCell, World.size_drew, size_drewN_] at hcw hfw hsw)) | (go_at_call 11; (with_reducible refine (one_any _).mono ?_); rintro e w' ⟨rfl, hbl⟩; obtain ⟨hcw, hfw, hsw⟩ := below_ifs hbl; (try simp only [World.size_alloc, World.size_setCell, World.size_drew, size_drewN_] at hcw hfw hsw)))
      all_goals first | (exfalso; omega; done) | (go_ret; exact ⟨ret_bool (by first | rfl | (simp; done) | (simp; omega)), by (repeat (first | with_reducible exact Below.refl _ _ | with_reducible assumption | with_reducible refine below_drewN ?_ _ | with_reducible refine Below.drew ?_ | with_reducible refine below_alloc ?_ _ | (with_reducible refine Below.setCell ?_ (by first | (simp; done) | omega | (simp; omega)) _) | with_reducible refine belows ?_ (by assumption)))⟩)
    · rw [decide_eq_false (by omega)] at hst
      have hfj : ¬ (3 : Int) ≤ (k : Int) := by omega
      refine (settle_none 0 65536#64 131072#64 _ _ [⟨65536#64, b, true, m⟩, ⟨b, c, false, 0⟩] _ (by (repeat (first | with_reducible exact HS3.out.mono (Nat.zero_le _) | with_reducible refine SlH.alloc ?_ _ | with_reducible refine SlH.other ?_ _ _ ?_ | with_reducible refine SlH.below ?_ (by assumption))); all_goals (intro g hg; have q1 := HS3.out.ge g hg; have q2 := HS3.out.lt g hg; (try simp only [World.size_alloc, World.size_setCell, World.size_drew, size_drewN_] at q1 q2); (try simp only [World.size_alloc, World.size_setCell, World.size_drew, size_drewN_]); omega)) (by simp) (fun j r h => by rcases two_get h with ⟨-, rfl⟩ | ⟨-, rfl⟩; (exact ⟨m, rfl, by omega⟩); exact ⟨0, rfl, by omega⟩) (fun j r h => by rcases two_get h with ⟨-, rfl⟩ | ⟨-, rfl⟩; (exact hst); rfl)).mono ?_
      rintro e w7 ⟨v7, rfl, hs7, hb7⟩
      obtain ⟨a7, n7, c7, rfl⟩ := hs7.form0
      have HS7 := Lib.hid hs7
      clear hs7
      obtain ⟨hcw7, hfw7, hsw7⟩ := below_ifs hb7
      (try simp only [World.size_alloc, World.size_setCell, World.size_drew, size_drewN_] at hcw7 hfw7 hsw7)
      go_wp2_with fail
      refine (t2 m 0 _ _ (by (repeat (first | with_reducible exact HS7.out.mono (Nat.zero_le _) | with_reducible refine SlH.alloc ?_ _ | with_reducible refine SlH.other ?_ _ _ ?_ | with_reducible refine SlH.below ?_ (by assumption))); all_goals (intro g hg; have q1 := HS7.out.ge g hg; have q2 := HS7.out.lt g hg; (try simp only [World.size_alloc, World.size_setCell, World.size_drew, size_drewN_] at q1 q2); (try simp only [World.size_alloc, World.size_setCell, World.size_drew, size_drewN_]); omega))).mono ?_
      rintro e w8 ⟨v8, rfl, hs8, hb8⟩
      obtain ⟨a8, n8, c8, rfl⟩ := hs8.form0
      have HS8 := Lib.hid hs8
      clear hs8
      obtain ⟨hcw8, hfw8, hsw8⟩ := below_ifs hb8
      (try simp only [World.size_alloc, World.size_setCell, World.size_drew, size_drewN_] at hcw8 hfw8 hsw8)
      go_wp2_with (first | (go_at_call 10; (with_reducible refine (cag _).mono ?_); rintro e w' ⟨rfl, hbl⟩; obtain ⟨hcw, hfw, hsw⟩ := below_ifs hbl; (try simp only [World.size_alloc, World.size_setCell, World.size_drew, size_drewN_] at hcw hfw hsw)) | (go_at_call 11; (with_reducible refine (one_any _).mono ?_); rintro e w' ⟨rfl, hbl⟩; obtain ⟨hcw, hfw, hsw⟩ := below_ifs hbl; (try simp only [World.size_alloc, World.size_setCell, World.size_drew, size_drewN_] at hcw hfw hsw)))
      all_goals first | (exfalso; omega; done) | (go_ret; exact ⟨ret_bool (by first | rfl | (simp; done) | (simp; omega)), by (repeat (first | with_reducible exact Below.refl _ _ | with_reducible assumption | with_reducible refine below_drewN ?_ _ | with_reducible refine Below.drew ?_ | with_reducible refine below_alloc ?_ _ | (with_reducible refine Below.setCell ?_ (by first | (simp; done) | omega | (simp; omega)) _) | with_reducible refine belows ?_ (by assumption)))⟩)

set_option maxRecDepth 100000 in
theorem lifted (os : Os) (started : os.Started) (H : Type) (enc : TypeId × Value → H) :
    ReturnsInHanded {} Try.checked os 3 .any (Rows.heapReusesSpec.pre6 enc Try.prog Try.f3 Rows.heapReusesRow.domain false) (Rows.heapReusesSpec.post enc Try.prog Try.f3 false true false false) := by
  refine law_lift (C := Try.checked) (tb := 4) started (by kernel_rfl) (by kernel_rfl) Try.func3 rfl rfl Try.underlying4 (by kernel_rfl) (by kernel_rfl)
    (fun ds h => by match ds, h with | [_, _, _], _ => rfl)
    (ChangeSpec.witness6 (enc := enc) (C := Try.checked) false ⟨#[], #[.int .u64 0, .int .i64 0, .int .i64 0], []⟩ 8 (by kernel_rfl) (by kernel_rfl) (by kernel_rfl) (by kernel_rfl)) ?_
  intro W base args ds ps hval hA hlt hfz hsz
  rw [Try.params3] at hA hval hsz
  obtain ⟨v0, v1, v2, d0, d1, d2, p0, p1, p2, rfl, rfl, rfl, h0, h1, h2⟩ := trodAll_three hA
  obtain ⟨a1, rfl, rfl, rfl, w1⟩ := open_int Try.underlying22 (hval 0 _ v0 rfl rfl) h0
  obtain ⟨a2, rfl, rfl, rfl, w2⟩ := open_int Try.underlying3 (hval 1 _ v1 rfl rfl) h1
  obtain ⟨a3, rfl, rfl, rfl, w3⟩ := open_int Try.underlying3 (hval 2 _ v2 rfl rfl) h2
  obtain ⟨x, rfl⟩ := exists_U a1 w1
  exact walk x a2 a3 W

theorem over : Rows.heapReusesRow.holds Try.pinned (OpenSpec.ofChange Rows.heapReusesSpec) :=
  OpenClaim.holds_of_wide 3 Try.f3 rfl rfl rfl rfl rfl rfl rfl ⟨rfl, rfl, rfl, rfl, rfl⟩ rfl rfl rfl rfl rfl (by kernel_rfl) Try.func3 (by kernel_rfl)
    (of_decide_eq_true (by kernel_rfl)) (by unfold Func.isWrapper; first | (rw [if_pos (by decide +kernel)]; kernel_rfl) | (rw [if_neg (by decide +kernel)]; exact ⟨rfl, rfl⟩))
    (fun os started H enc _ => lifted os started H enc)

theorem proved : Rows.HeapReusesSaid := over
end Go.Proofs.Ytlhhahafmmfhhaa.Reuses
