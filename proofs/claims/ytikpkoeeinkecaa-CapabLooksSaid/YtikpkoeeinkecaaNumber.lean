
/-
  The number of eight bytes (capab.number), and the capability of sixteen (capab.Of).
-/
import Derived.Test.YtikpkoeeinkecaaBytes
namespace Go.Proofs.Ytikpkoeeinkecaa
open Go Go.RowKit
set_option linter.unusedVariables false
set_option linter.unusedSimpArgs false

def byteB (x : BitVec 64) (k : Nat) : BitVec 64 := (x >>> (8 * k)) &&& 255#64
theorem byteI_U (x : BitVec 64) (k : Nat) : byteI x k = U (byteB x k) := by
  unfold byteI byteB U
  rw [BitVec.toNat_and, BitVec.toNat_ushiftRight, show (255#64).toNat = 2 ^ 8 - 1 from rfl, Nat.and_two_pow_sub_one_eq_mod, Nat.shiftRight_eq_div_pow, Int.natCast_emod, Int.natCast_ediv, Int.natCast_pow]
  rfl
theorem mul_shift (x : BitVec 64) (k : Nat) (hk : k < 8) : x * BitVec.ofInt 64 (2 ^ (8 * k)) = x <<< (8 * k) := by
  have h : ∀ i : Fin 8, BitVec.ofInt 64 (2 ^ (8 * i.val)) = BitVec.twoPow 64 (8 * i.val) := by decide
  rw [h ⟨k, hk⟩, BitVec.shiftLeft_eq_mul_twoPow]
/-- The lowest bytes of a word. -/
def lowB (x : BitVec 64) (k : Nat) : BitVec 64 := BitVec.ofNat 64 (x.toNat % 2 ^ (8 * k))
theorem lowB_bit (x : BitVec 64) (k j : Nat) (hj : j < 64) : (lowB x k).getLsbD j = (decide (j < 8 * k) && x.getLsbD j) := by
  unfold lowB
  rw [BitVec.getLsbD_ofNat, Nat.testBit_mod_two_pow, decide_eq_true hj, Bool.true_and]
  rfl
theorem lowB_zero (x : BitVec 64) : lowB x 0 = 0#64 := by
  apply ext64
  intro j hj
  rw [lowB_bit _ _ _ hj, decide_eq_false (by omega), Bool.false_and, BitVec.getLsbD_zero]
theorem lowB_all (x : BitVec 64) : lowB x 8 = x := by
  apply ext64
  intro j hj
  rw [lowB_bit _ _ _ hj, decide_eq_true (by omega), Bool.true_and]
theorem b255 (j : Nat) : (255#64).getLsbD j = decide (j < 8) := by
  by_cases c : j < 8
  · have h : ∀ i : Fin 8, (255#64).getLsbD i.val = true := by decide
    rw [h ⟨j, c⟩, decide_eq_true c]
  · rw [decide_eq_false c, BitVec.getLsbD_eq_getElem?_getD]
    by_cases d : j < 64
    · have h : ∀ i : Fin 64, 8 ≤ i.val → (255#64).getLsbD i.val = false := by decide
      have := h ⟨j, d⟩ (show 8 ≤ j by omega)
      rw [BitVec.getLsbD_eq_getElem?_getD] at this
      exact this
    · simp [BitVec.getElem?_eq_none (show 64 ≤ j by omega)]
theorem lowB_next (x : BitVec 64) (k : Nat) : lowB x (k + 1) = lowB x k ||| byteB x k <<< (8 * k) := by
  apply ext64
  intro j hj
  rw [BitVec.getLsbD_or, BitVec.getLsbD_shiftLeft, lowB_bit _ _ _ hj, lowB_bit _ _ _ hj]
  unfold byteB
  rw [BitVec.getLsbD_and, BitVec.getLsbD_ushiftRight, b255, decide_eq_true hj, Bool.true_and]
  by_cases c : j < 8 * k
  · rw [decide_eq_true c, decide_eq_true (show j < 8 * (k + 1) by omega)]
    simp
  · rw [decide_eq_false c, show 8 * k + (j - 8 * k) = j by omega]
    by_cases d : j < 8 * (k + 1)
    · rw [decide_eq_true d, decide_eq_true (show j - 8 * k < 8 by omega)]
      simp
    · rw [decide_eq_false d, decide_eq_false (show ¬ j - 8 * k < 8 by omega)]
      simp
set_option maxHeartbeats 8000000 in
set_option maxRecDepth 100000 in
theorem number_any (x : BitVec 64) (b off cap : Nat) (w : World) (hc : ∀ j, j < 8 → w.cell? ⟨b, off + j, none⟩ = some (.int .u8 (byteI x j))) : Calls Try.prog 36 #[.slice (some ⟨b, off, none⟩) 8 cap] w fun r w' => r = .returned (.int .u64 (U x)) ∧ w = w' := by
  have HC := Lib.hid hc
  clear hc
  go_enter Try.func36, Try.ntmps36
  go_wp2_with fail
  go_loopw [3, 8] (fun n i wr => ∃ k : Nat, i = .int .i64 (k : Int) ∧ k ≤ 8 ∧ n = .int .u64 (U (lowB x k)) ∧ w = wr) (fun _ i _ => 8 - (intOf i).toNat)
  case atStart => exact ⟨0, rfl, by omega, by rw [lowB_zero]; rfl, rfl⟩
  case round =>
    obtain ⟨k, rfl, hk, rfl, rfl⟩ := hrel
    by_cases hlt : k < 8
    · have e := HC.out k hlt
      rw [byteI_U] at e
      have hn := lowB_next x k
      have hm := mul_shift (byteB x k) k hlt
      go_wp2_with fail
      go_roundw
      case rel => exact ⟨k + 1, by go_num, by omega, by first | (rw [hn]; done) | (rw [hn, hm]; done) | (simp [hn, hm]; done), by first | rfl | trivial⟩
      case measure => (simp [intOf]; omega)
    · obtain rfl : k = 8 := by omega
      have e8 := lowB_all x
      go_wp2_with fail
      go_ret
      exact ⟨by first | rfl | (rw [e8]; rfl), rfl⟩
end Go.Proofs.Ytikpkoeeinkecaa
