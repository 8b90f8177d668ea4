
/-
  Letters, plain facts: what is told is parsed as it was, whatever the order.
-/
import Derived.Test.YtpadahmchhaifaaText
namespace Go.Proofs.Ytpadahmchhaifaa
open Go Go.RowKit
set_option linter.unusedVariables false
set_option linter.unusedSimpArgs false

theorem letters_same (p q : BitVec 64) : ∀ n : Nat, (∀ j, j < n → p.getLsbD j = q.getLsbD j) → lettersOf p n = lettersOf q n
  | 0, _ => rfl
  | n + 1, h => by rw [lettersOf, lettersOf, letters_same p q n (fun j hj => h j (by omega)), h n (by omega)]
theorem low_same (p : BitVec 64) : lettersOf (p &&& 511#64) 9 = lettersOf p 9 := by
  apply letters_same
  intro j hj
  rw [BitVec.getLsbD_and]
  have h : ∀ j : Fin 9, (511#64).getLsbD j.val = true := by decide
  rw [h ⟨j, hj⟩, Bool.and_true]
theorem high_same (p : BitVec 64) : lettersOf (p ||| 512#64) 9 = lettersOf p 9 := by
  apply letters_same
  intro j hj
  rw [BitVec.getLsbD_or]
  have h : ∀ j : Fin 9, (512#64).getLsbD j.val = false := by decide
  rw [h ⟨j, hj⟩, Bool.or_false]
theorem low_lt (p : BitVec 64) : (p &&& 511#64).toNat < 512 := by
  rw [BitVec.toNat_and]
  exact Nat.lt_of_le_of_lt Nat.and_le_right (by decide)
theorem low_text (p : BitVec 64) : textF (p &&& 511#64) = strOf (lettersOf (p &&& 511#64) 9) := by
  unfold textF textL
  have := low_lt p
  rw [if_neg (by omega), List.append_nil]
theorem high_text (p : BitVec 64) : textF (p ||| 512#64) = strOf (lettersOf (p &&& 511#64) 9 ++ [43]) := by
  unfold textF textL
  have h : 512 ≤ (p ||| 512#64).toNat := by
    rw [BitVec.toNat_or]
    exact Nat.right_le_or
  rw [if_pos (by omega), high_same, low_same]
theorem all_low (Q : BitVec 64 → Prop) (h : ∀ n : Fin 512, Q (BitVec.ofNat 64 n.val)) (p : BitVec 64) : Q (p &&& 511#64) := by
  have := h ⟨(p &&& 511#64).toNat, low_lt p⟩
  rw [BitVec.ofNat_toNat, BitVec.setWidth_eq] at this
  exact this
theorem parse_low (p : BitVec 64) : parseL (lettersOf (p &&& 511#64) 9) 0#64 = (p &&& 511#64, true) :=
  all_low (fun x => parseL (lettersOf x 9) 0#64 = (x, true)) (by decide +kernel) p
theorem parse_high (p : BitVec 64) : (parseL (lettersOf (p &&& 511#64) 9 ++ [43]) 0#64).2 = false :=
  all_low (fun x => (parseL (lettersOf x 9 ++ [43]) 0#64).2 = false) (by decide +kernel) p
theorem parseF_str (l : List UInt8) : parseF (strOf l) = parseL l 0#64 := rfl
end Go.Proofs.Ytpadahmchhaifaa
