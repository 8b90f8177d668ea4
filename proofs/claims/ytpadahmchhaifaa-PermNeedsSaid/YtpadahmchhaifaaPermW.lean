
/-
  What is needed, what is within, and names: by the program and by the document.
-/
import Derived.Test.YtpadahmchhaifaaRefParse
namespace Go.Proofs.Ytpadahmchhaifaa
open Go Go.RowKit
set_option linter.unusedVariables false
set_option linter.unusedSimpArgs false

theorem pwithin_any (p q : BitVec 64) (w : World) : Calls Try.prog 10 #[.int .u64 (U p), .int .u64 (U q)] w fun r w' => r = .returned (.bool (p &&& ~~~ q == 0#64)) ∧ w = w' := by
  go_enter Try.func10, Try.ntmps10
  go_wp2_with fail
  go_ret
  exact ⟨rfl, rfl⟩
theorem bit_zero (x : BitVec 64) (k : Nat) : (x >>> k &&& 1#64 == 0#64) = !x.getLsbD k := by
  rw [← bit_test]
  have h : x >>> k &&& 1#64 = 0#64 ∨ x >>> k &&& 1#64 = 1#64 := by
    have e : (x >>> k &&& 1#64).toNat < 2 := by
      rw [BitVec.toNat_and]
      exact Nat.lt_of_le_of_lt (Nat.and_le_right) (by decide)
    rcases (show (x >>> k &&& 1#64).toNat = 0 ∨ (x >>> k &&& 1#64).toNat = 1 by omega) with e | e
    · left; exact BitVec.eq_of_toNat_eq e
    · right; exact BitVec.eq_of_toNat_eq e
  rcases h with h | h <;> rw [h] <;> rfl
theorem in_all (p q : BitVec 64) (h : ∀ j, j < 64 → (p.getLsbD j && !q.getLsbD j) = false) : (p &&& ~~~ q == 0#64) = true := by
  rw [beq_iff_eq]
  apply ext64
  intro j hj
  rw [BitVec.getLsbD_and, BitVec.getLsbD_not, decide_eq_true hj, Bool.true_and, h j hj]
  simp
theorem in_not (p q : BitVec 64) (k : Nat) (hk : k < 64) (h : (p.getLsbD k && !q.getLsbD k) = true) : (p &&& ~~~ q == 0#64) = false := by
  rw [beq_eq_false_iff_ne]
  intro e
  have := congrArg (fun x => x.getLsbD k) e
  simp only [BitVec.getLsbD_and, BitVec.getLsbD_not, decide_eq_true hk, Bool.true_and, h] at this
  simp at this
theorem U_next (k : Nat) (h : k < 64) : U (BitVec.ofNat 64 k + 1#64) = ((k + 1 : Nat) : Int) := by
  unfold U; rw [BitVec.toNat_add, BitVec.toNat_ofNat, show (1#64).toNat = 1 from rfl]; omega

set_option maxHeartbeats 4000000 in
set_option maxRecDepth 100000 in
theorem rwithin4_any (p q : BitVec 64) (w : World) : Calls Try.prog 13 #[.int .u64 (U p), .int .u64 (U q)] w fun r w' => r = .returned (.bool (p &&& ~~~ q == 0#64)) ∧ w = w' := by
  go_enter Try.func13, Try.ntmps13
  go_wp2
  go_loopw [5] (fun e wr => ∃ k : Nat, e = .int .u64 (k : Int) ∧ k ≤ 64 ∧ Hid (∀ j, j < k → (p.getLsbD j && !q.getLsbD j) = false) ∧ w = wr) (fun e _ => 64 - (intOf e).toNat)
  case atStart => exact ⟨0, rfl, by omega, Lib.hid (fun j hj => by omega), rfl⟩
  case round =>
    obtain ⟨k, rfl, hk, HH, rfl⟩ := hrel
    by_cases c : k < 64
    · have g1 := bit_test p k
      have g2 := bit_zero q k
      have hk0 : (0 : Int) ≤ (k : Int) := by omega
      cases hp : p.getLsbD k
      · rw [hp] at g1
        clear g2
        go_wp2
        go_roundw
        case rel => exact ⟨k + 1, congrArg (Value.int .u64) (U_next k c), by omega, Lib.hid (fun j hj => by
          by_cases e : j = k
          · subst e; rw [hp]; rfl
          · exact HH.out j (by omega)), by first | rfl | trivial⟩
        case measure => (simp only [intOf]; rw [U_next k c]; omega)
      · cases hq : q.getLsbD k
        · have e := in_not p q k c (by rw [hp, hq]; rfl)
          rw [hp] at g1
          rw [hq] at g2
          go_wp2
          go_ret
          exact ⟨by rw [e]; rfl, rfl⟩
        · rw [hp] at g1
          rw [hq] at g2
          go_wp2
          go_roundw
          case rel => exact ⟨k + 1, congrArg (Value.int .u64) (U_next k c), by omega, Lib.hid (fun j hj => by
            by_cases e : j = k
            · subst e; rw [hp, hq]; rfl
            · exact HH.out j (by omega)), by first | rfl | trivial⟩
          case measure => (simp only [intOf]; rw [U_next k c]; omega)
    · obtain rfl : k = 64 := by omega
      have e := in_all p q HH.out
      go_wp2
      go_ret
      exact ⟨by rw [e]; rfl, rfl⟩

def needF (k : Int) : BitVec 64 := if k = 0 then 4#64 else if k = 1 then 1#64 else if k = 2 then 2#64 else if k = 3 then 9#64 else if k = 4 then 18#64 else 511#64
theorem needs_any (k : Int) (w : World) : Calls Try.prog 11 #[.int .i64 k] w fun r w' => r = .returned (.int .u64 (U (needF k))) ∧ w = w' := by
  unfold needF
  by_cases h0 : k = 0
  · subst h0
    go_enter Try.func11, Try.ntmps11
    go_wp2_with fail
    go_ret
    exact ⟨rfl, rfl⟩
  · rw [if_neg h0]
    by_cases h1 : k = 1
    · subst h1
      go_enter Try.func11, Try.ntmps11
      go_wp2_with fail
      go_ret
      exact ⟨rfl, rfl⟩
    · rw [if_neg h1]
      by_cases h2 : k = 2
      · subst h2
        go_enter Try.func11, Try.ntmps11
        go_wp2_with fail
        go_ret
        exact ⟨rfl, rfl⟩
      · rw [if_neg h2]
        by_cases h3 : k = 3
        · subst h3
          go_enter Try.func11, Try.ntmps11
          go_wp2_with fail
          go_ret
          exact ⟨rfl, rfl⟩
        · rw [if_neg h3]
          by_cases h4 : k = 4
          · subst h4
            go_enter Try.func11, Try.ntmps11
            go_wp2_with fail
            go_ret
            exact ⟨rfl, rfl⟩
          · rw [if_neg h4]
            go_enter Try.func11, Try.ntmps11
            go_wp2_with fail
            go_ret
            exact ⟨rfl, rfl⟩
def nameF (k : Int) : ByteArray := if k = 0 then { data := #[102, 101, 116, 99, 104] } else if k = 1 then { data := #[114, 101, 97, 100] } else if k = 2 then { data := #[119, 114, 105, 116, 101] } else if k = 3 then { data := #[114, 101, 97, 100, 99, 97, 112] } else if k = 4 then { data := #[119, 114, 105, 116, 101, 99, 97, 112] } else { data := #[] }
set_option maxHeartbeats 8000000 in
set_option maxRecDepth 100000 in
theorem rneeds_any (k : Int) (w : World) : Calls Try.prog 12 #[.int .i64 k] w fun r w' => r = .returned (.int .u64 (U (needF k))) ∧ Below w.heap.size w w' := by
  by_cases h0 : k < 0
  · have hd : decide (k < 0) = true := decide_eq_true h0
    have hv : needF k = 511#64 := by unfold needF; rw [if_neg (by omega), if_neg (by omega), if_neg (by omega), if_neg (by omega), if_neg (by omega)]
    rw [hv]
    go_enter Try.func12, Try.ntmps12
    go_wp2_with fail
    go_ret
    exact ⟨rfl, by (repeat (first | with_reducible exact Below.refl _ _ | with_reducible assumption | with_reducible refine below_drewN ?_ _ | with_reducible refine Below.drew ?_ | with_reducible refine below_alloc ?_ _ | (with_reducible refine Below.setCell ?_ (by first | (simp; done) | omega | (simp; omega)) _) | with_reducible refine belows ?_ (by assumption)))⟩
  · have hd : decide (k < 0) = false := decide_eq_false h0
    by_cases h4 : 4 < k
    · have hd4 : decide (4 < k) = true := decide_eq_true h4
      have hv : needF k = 511#64 := by unfold needF; rw [if_neg (by omega), if_neg (by omega), if_neg (by omega), if_neg (by omega), if_neg (by omega)]
      rw [hv]
      go_enter Try.func12, Try.ntmps12
      go_wp2_with fail
      go_ret
      exact ⟨rfl, by (repeat (first | with_reducible exact Below.refl _ _ | with_reducible assumption | with_reducible refine below_drewN ?_ _ | with_reducible refine Below.drew ?_ | with_reducible refine below_alloc ?_ _ | (with_reducible refine Below.setCell ?_ (by first | (simp; done) | omega | (simp; omega)) _) | with_reducible refine belows ?_ (by assumption)))⟩
    · obtain rfl | rfl | rfl | rfl | rfl : k = 0 ∨ k = 1 ∨ k = 2 ∨ k = 3 ∨ k = 4 := by omega
      all_goals
        clear hd h0 h4
        go_enter Try.func12, Try.ntmps12
        go_wp2_with fail
        go_ret
        exact ⟨rfl, by (repeat (first | with_reducible exact Below.refl _ _ | with_reducible assumption | with_reducible refine below_drewN ?_ _ | with_reducible refine Below.drew ?_ | with_reducible refine below_alloc ?_ _ | (with_reducible refine Below.setCell ?_ (by first | (simp; done) | omega | (simp; omega)) _) | with_reducible refine belows ?_ (by assumption)))⟩
set_option maxHeartbeats 8000000 in
set_option maxRecDepth 100000 in
theorem rname_any (k : Int) (w : World) : Calls Try.prog 16 #[.int .i64 k] w fun r w' => r = .returned (.string (nameF k)) ∧ Below w.heap.size w w' := by
  by_cases h0 : k < 0
  · have hd : decide (k < 0) = true := decide_eq_true h0
    have hv : nameF k = { data := #[] } := by unfold nameF; rw [if_neg (by omega), if_neg (by omega), if_neg (by omega), if_neg (by omega), if_neg (by omega)]
    rw [hv]
    go_enter Try.func16, Try.ntmps16
    go_wp2_with fail
    go_ret
    exact ⟨rfl, by (repeat (first | with_reducible exact Below.refl _ _ | with_reducible assumption | with_reducible refine below_drewN ?_ _ | with_reducible refine Below.drew ?_ | with_reducible refine below_alloc ?_ _ | (with_reducible refine Below.setCell ?_ (by first | (simp; done) | omega | (simp; omega)) _) | with_reducible refine belows ?_ (by assumption)))⟩
  · have hd : decide (k < 0) = false := decide_eq_false h0
    by_cases h4 : 4 < k
    · have hd4 : decide (4 < k) = true := decide_eq_true h4
      have hv : nameF k = { data := #[] } := by unfold nameF; rw [if_neg (by omega), if_neg (by omega), if_neg (by omega), if_neg (by omega), if_neg (by omega)]
      rw [hv]
      go_enter Try.func16, Try.ntmps16
      go_wp2_with fail
      go_ret
      exact ⟨rfl, by (repeat (first | with_reducible exact Below.refl _ _ | with_reducible assumption | with_reducible refine below_drewN ?_ _ | with_reducible refine Below.drew ?_ | with_reducible refine below_alloc ?_ _ | (with_reducible refine Below.setCell ?_ (by first | (simp; done) | omega | (simp; omega)) _) | with_reducible refine belows ?_ (by assumption)))⟩
    · obtain rfl | rfl | rfl | rfl | rfl : k = 0 ∨ k = 1 ∨ k = 2 ∨ k = 3 ∨ k = 4 := by omega
      all_goals
        clear hd h0 h4
        go_enter Try.func16, Try.ntmps16
        go_wp2_with fail
        go_ret
        exact ⟨rfl, by (repeat (first | with_reducible exact Below.refl _ _ | with_reducible assumption | with_reducible refine below_drewN ?_ _ | with_reducible refine Below.drew ?_ | with_reducible refine below_alloc ?_ _ | (with_reducible refine Below.setCell ?_ (by first | (simp; done) | omega | (simp; omega)) _) | with_reducible refine belows ?_ (by assumption)))⟩
theorem name_any (k : Int) (w : World) : Calls Try.prog 15 #[.int .i64 k] w fun r w' => r = .returned (.string (nameF k)) ∧ Below w.heap.size w w' := by
  unfold nameF
  by_cases h0 : k = 0
  · subst h0
    go_enter Try.func15, Try.ntmps15
    go_wp2_with fail
    go_ret
    exact ⟨rfl, by (repeat (first | with_reducible exact Below.refl _ _ | with_reducible assumption | with_reducible refine below_drewN ?_ _ | with_reducible refine Below.drew ?_ | with_reducible refine below_alloc ?_ _ | (with_reducible refine Below.setCell ?_ (by first | (simp; done) | omega | (simp; omega)) _) | with_reducible refine belows ?_ (by assumption)))⟩
  · rw [if_neg h0]
    by_cases h1 : k = 1
    · subst h1
      go_enter Try.func15, Try.ntmps15
      go_wp2_with fail
      go_ret
      exact ⟨rfl, by (repeat (first | with_reducible exact Below.refl _ _ | with_reducible assumption | with_reducible refine below_drewN ?_ _ | with_reducible refine Below.drew ?_ | with_reducible refine below_alloc ?_ _ | (with_reducible refine Below.setCell ?_ (by first | (simp; done) | omega | (simp; omega)) _) | with_reducible refine belows ?_ (by assumption)))⟩
    · rw [if_neg h1]
      by_cases h2 : k = 2
      · subst h2
        go_enter Try.func15, Try.ntmps15
        go_wp2_with fail
        go_ret
        exact ⟨rfl, by (repeat (first | with_reducible exact Below.refl _ _ | with_reducible assumption | with_reducible refine below_drewN ?_ _ | with_reducible refine Below.drew ?_ | with_reducible refine below_alloc ?_ _ | (with_reducible refine Below.setCell ?_ (by first | (simp; done) | omega | (simp; omega)) _) | with_reducible refine belows ?_ (by assumption)))⟩
      · rw [if_neg h2]
        by_cases h3 : k = 3
        · subst h3
          go_enter Try.func15, Try.ntmps15
          go_wp2_with fail
          go_ret
          exact ⟨rfl, by (repeat (first | with_reducible exact Below.refl _ _ | with_reducible assumption | with_reducible refine below_drewN ?_ _ | with_reducible refine Below.drew ?_ | with_reducible refine below_alloc ?_ _ | (with_reducible refine Below.setCell ?_ (by first | (simp; done) | omega | (simp; omega)) _) | with_reducible refine belows ?_ (by assumption)))⟩
        · rw [if_neg h3]
          by_cases h4 : k = 4
          · subst h4
            go_enter Try.func15, Try.ntmps15
            go_wp2_with fail
            go_ret
            exact ⟨rfl, by (repeat (first | with_reducible exact Below.refl _ _ | with_reducible assumption | with_reducible refine below_drewN ?_ _ | with_reducible refine Below.drew ?_ | with_reducible refine below_alloc ?_ _ | (with_reducible refine Below.setCell ?_ (by first | (simp; done) | omega | (simp; omega)) _) | with_reducible refine belows ?_ (by assumption)))⟩
          · rw [if_neg h4]
            go_enter Try.func15, Try.ntmps15
            go_wp2_with fail
            go_ret
            exact ⟨rfl, by (repeat (first | with_reducible exact Below.refl _ _ | with_reducible assumption | with_reducible refine below_drewN ?_ _ | with_reducible refine Below.drew ?_ | with_reducible refine below_alloc ?_ _ | (with_reducible refine Below.setCell ?_ (by first | (simp; done) | omega | (simp; omega)) _) | with_reducible refine belows ?_ (by assumption)))⟩
end Go.Proofs.Ytpadahmchhaifaa
