
/-
  The document's answers for what may be done with capabilities.
-/
import Derived.Test.YtpinjngmlelleaaAlgebraT
namespace Go.Proofs.Ytpinjngmlelleaa
open Go Go.RowKit
set_option linter.unusedVariables false
set_option linter.unusedSimpArgs false


theorem bit_zero (x : BitVec 64) (k : Nat) : (x >>> k &&& 1#64 == 0#64) = !x.getLsbD k := by
  rw [← bit_test]
  have h : x >>> k &&& 1#64 = 0#64 ∨ x >>> k &&& 1#64 = 1#64 := by
    have e : (x >>> k &&& 1#64).toNat < 2 := by
      rw [BitVec.toNat_and]
      exact Nat.lt_of_le_of_lt (Nat.and_le_right) (by decide)
    rcases (show (x >>> k &&& 1#64).toNat = 0 ∨ (x >>> k &&& 1#64).toNat = 1 by omega) with e | e
    · left; exact BitVec.eq_of_toNat_eq e
    · right; exact BitVec.eq_of_toNat_eq e
  rcases h with h | h <;> rw [h] <;> rfl
theorem in_all (p q : BitVec 64) (h : ∀ j, j < 64 → (p.getLsbD j && !q.getLsbD j) = false) : (p &&& ~~~ q == 0#64) = true := by
  rw [beq_iff_eq]
  apply ext64
  intro j hj
  rw [BitVec.getLsbD_and, BitVec.getLsbD_not, decide_eq_true hj, Bool.true_and, h j hj]
  simp
theorem in_not (p q : BitVec 64) (k : Nat) (hk : k < 64) (h : (p.getLsbD k && !q.getLsbD k) = true) : (p &&& ~~~ q == 0#64) = false := by
  rw [beq_eq_false_iff_ne]
  intro e
  have := congrArg (fun x => x.getLsbD k) e
  simp only [BitVec.getLsbD_and, BitVec.getLsbD_not, decide_eq_true hk, Bool.true_and, h] at this
  simp at this
theorem U_next (k : Nat) (h : k < 64) : U (BitVec.ofNat 64 k + 1#64) = ((k + 1 : Nat) : Int) := by
  unfold U; rw [ofNat_succ_, BitVec.toNat_ofNat]; omega

set_option maxHeartbeats 4000000 in
set_option maxRecDepth 100000 in
theorem rwithin4_any (p q : BitVec 64) (w : World) : Calls Try.prog 86 #[.int .u64 (U p), .int .u64 (U q)] w fun r w' => r = .returned (.bool (p &&& ~~~ q == 0#64)) ∧ w = w' := by
  go_enter Try.func86, Try.ntmps86
  go_wp2
  go_loopw [5] (fun e wr => ∃ k : Nat, e = .int .u64 (k : Int) ∧ k ≤ 64 ∧ Hid (∀ j, j < k → (p.getLsbD j && !q.getLsbD j) = false) ∧ w = wr) (fun e _ => 64 - (intOf e).toNat)
  case atStart => exact ⟨0, rfl, by omega, Lib.hid (fun j hj => by omega), rfl⟩
  case round =>
    obtain ⟨k, rfl, hk, HH, rfl⟩ := hrel
    by_cases c : k < 64
    · have g1 := bit_test p k
      have g2 := bit_zero q k
      have hk0 : (0 : Int) ≤ (k : Int) := by omega
      cases hp : p.getLsbD k
      · rw [hp] at g1
        clear g2
        go_wp2
        go_roundw
        case rel => exact ⟨k + 1, congrArg (Value.int .u64) (U_next k c), by omega, Lib.hid (fun j hj => by
          by_cases e : j = k
          · subst e; rw [hp]; rfl
          · exact HH.out j (by omega)), by first | rfl | trivial⟩
        case measure => (simp only [intOf]; rw [U_next k c]; omega)
      · cases hq : q.getLsbD k
        · have e := in_not p q k c (by rw [hp, hq]; rfl)
          rw [hp] at g1
          rw [hq] at g2
          go_wp2
          go_ret
          exact ⟨by rw [e]; rfl, rfl⟩
        · rw [hp] at g1
          rw [hq] at g2
          go_wp2
          go_roundw
          case rel => exact ⟨k + 1, congrArg (Value.int .u64) (U_next k c), by omega, Lib.hid (fun j hj => by
            by_cases e : j = k
            · subst e; rw [hp, hq]; rfl
            · exact HH.out j (by omega)), by first | rfl | trivial⟩
          case measure => (simp only [intOf]; rw [U_next k c]; omega)
    · obtain rfl : k = 64 := by omega
      have e := in_all p q HH.out
      go_wp2
      go_ret
      exact ⟨by rw [e]; rfl, rfl⟩

end Go.Proofs.Ytpinjngmlelleaa
