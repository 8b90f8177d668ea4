
/-
  The document's word of an instruction, shape by shape: what its Encode answers.
-/
import Derived.Test.YtokfokgbbpjgdaaInstR
import Derived.Test.YtokfokgbbpjgdaaInstQ
namespace Go.Proofs.Ytokfokgbbpjgdaa
open Go Go.RowKit
set_option linter.unusedVariables false
set_option linter.unusedSimpArgs false

/-- Pieces that are laid into clear places add up. -/
theorem or_add {w x : BitVec 64} (h : w &&& x = 0#64) : (w ||| x).toNat = w.toNat + x.toNat := by
  have e := BitVec.add_eq_or_of_and_eq_zero w x h
  have h1 : w.toNat ≤ (w ||| x).toNat := by rw [BitVec.toNat_or]; exact Nat.left_le_or
  rw [← e, BitVec.toNat_add] at h1 ⊢
  have := w.isLt
  have := x.isLt
  omega
theorem and_maskN (v : BitVec 64) (n : Int) (h : n ≤ 64) : (v &&& maskF n).toNat = v.toNat % 2 ^ n.toNat := by
  rw [BitVec.toNat_and, mask_toNat n h, Nat.and_two_pow_sub_one_eq_mod]
theorem put_add (w v : BitVec 64) (a n : Int) (hm : mayF a n = true) (hz : getF w a n = 0#64) : (putF w a n v).toNat = w.toNat + v.toNat % 2 ^ n.toNat * 2 ^ a.toNat := by
  obtain ⟨h0, h1, h2, h3⟩ := mayF_true hm
  have hX : (((v &&& maskF n) <<< a.toNat : BitVec 64)).toNat = v.toNat % 2 ^ n.toNat * 2 ^ a.toNat := by
    rw [BitVec.toNat_shiftLeft, Nat.shiftLeft_eq, and_maskN v n h1]
    apply Nat.mod_eq_of_lt
    have l1 : v.toNat % 2 ^ n.toNat < 2 ^ n.toNat := Nat.mod_lt _ (Nat.two_pow_pos _)
    calc v.toNat % 2 ^ n.toNat * 2 ^ a.toNat < 2 ^ n.toNat * 2 ^ a.toNat := Nat.mul_lt_mul_of_pos_right l1 (Nat.two_pow_pos _)
      _ = 2 ^ (n.toNat + a.toNat) := (Nat.pow_add _ _ _).symm
      _ ≤ 2 ^ 64 := Nat.pow_le_pow_right (by omega) (by omega)
  have hb : ∀ j, j < 64 → ((v &&& maskF n) <<< a.toNat : BitVec 64).getLsbD j = (decide (a.toNat ≤ j) && decide (j - a.toNat < n.toNat) && v.getLsbD (j - a.toNat)) := fun j hj => by
    rw [BitVec.getLsbD_shiftLeft, BitVec.getLsbD_and, mask_lsb n h1]
    by_cases c : a.toNat ≤ j
    · simp [hj, c, Nat.not_lt.2 c, Bool.and_comm]
    · simp [hj, c, Nat.lt_of_not_le c]
  have hw : ∀ j, a.toNat ≤ j → j - a.toNat < n.toNat → w.getLsbD j = false := fun j g1 g2 => by
    have e : (getF w a n).getLsbD (j - a.toNat) = (0#64).getLsbD (j - a.toNat) := by rw [hz]
    rw [get_lsb w a n hm, decide_eq_true g2, show a.toNat + (j - a.toNat) = j by omega] at e
    simpa using e
  have hp : putF w a n v = w ||| ((v &&& maskF n) <<< a.toNat) := by
    unfold putF
    rw [if_pos hm]
    apply ext64
    intro j hj
    rw [BitVec.getLsbD_or, BitVec.getLsbD_or, hb j hj, BitVec.getLsbD_and, BitVec.getLsbD_not, BitVec.getLsbD_shiftLeft, mask_lsb n h1]
    by_cases c : a.toNat ≤ j
    · by_cases c2 : j - a.toNat < n.toNat
      · rw [hw j c c2]; simp
      · simp [hj, c, c2, Nat.not_lt.2 c]
    · simp [hj, c, Nat.lt_of_not_le c]
  have hd : w &&& ((v &&& maskF n) <<< a.toNat) = 0#64 := by
    apply ext64
    intro j hj
    rw [BitVec.getLsbD_and, hb j hj]
    by_cases c : a.toNat ≤ j
    · by_cases c2 : j - a.toNat < n.toNat
      · rw [hw j c c2]; simp
      · simp [c2]
    · simp [c]
  rw [hp, or_add hd, hX]
def sumN : List (Int × Int × BitVec 64) → Nat
  | [] => 0
  | p :: l => p.2.2.toNat % 2 ^ p.2.1.toNat * 2 ^ p.1.toNat + sumN l
theorem good_cons {p : Int × Int × BitVec 64} {l : List (Int × Int × BitVec 64)} (h : goodL (rg (p :: l)) = true) : goodL (rg l) = true ∧ ∀ q ∈ l, apartP p.1 p.2.1 q.1 q.2.1 = true := by
  simp only [rg, List.map_cons, goodL, Bool.and_eq_true] at h
  exact ⟨h.2, fun q hq => List.all_eq_true.1 h.1.2 _ (List.mem_map.2 ⟨q, hq, rfl⟩)⟩
theorem puts_add : ∀ (l : List (Int × Int × BitVec 64)) (w : BitVec 64), goodL (rg l) = true → (∀ p ∈ l, getF w p.1 p.2.1 = 0#64) → (putsF l w).toNat = w.toNat + sumN l
  | [], w, _, _ => rfl
  | p :: l, w, hg, hz => by
    have hg' : goodL (rg (p :: l)) = true := hg
    have hm := good_may _ (p.1, p.2.1) hg (List.mem_map.2 ⟨p, List.mem_cons_self, rfl⟩)
    obtain ⟨hgl, hap⟩ := good_cons hg
    show (putsF l (putF w p.1 p.2.1 p.2.2)).toNat = _
    rw [puts_add l _ hgl ?_, put_add w p.2.2 p.1 p.2.1 hm (hz p List.mem_cons_self)]
    · show _ = w.toNat + (_ + sumN l); omega
    · intro q hq
      have hmq := good_may _ (q.1, q.2.1) hgl (List.mem_map.2 ⟨q, hq, rfl⟩)
      rw [get_apart w p.2.2 p.1 p.2.1 q.1 q.2.1 hm hmq (apartP_or (hap q hq)), hz q (List.mem_cons_of_mem _ hq)]
theorem puts_sum (l : List (Int × Int × BitVec 64)) (hg : goodL (rg l) = true) : (putsF l 0#64).toNat = sumN l := by
  rw [puts_add l 0#64 hg fun p _ => by unfold getF; split <;> simp]
  show 0 + _ = _
  omega

theorem reg_is (x : BitVec 64) : fitsF x 5 false = (decide (0 ≤ S x) && decide (S x ≤ 31)) := by
  unfold fitsF
  rw [if_neg (by decide), if_neg (by decide), ← and_mask_self]
  by_cases c : 0 ≤ S x
  · rw [decide_eq_true c, Bool.true_and, Bool.true_and]
    have e : S x = (x.toNat : Int) := by
      have h := S_nonneg_lsb x
      rw [decide_eq_true c] at h
      unfold S
      rw [BitVec.toInt_eq_msb_cond]
      rw [BitVec.msb_eq_getLsbD_last]
      simp at h
      simp [h]
    rw [e, Bool.eq_iff_iff, beq_iff_eq, decide_eq_true_iff]
    constructor
    · intro h
      rw [← h, and_maskN x 5 (by decide)]
      have := Nat.mod_lt x.toNat (show 0 < 2 ^ (5 : Int).toNat by decide)
      have e2 : (2 : Nat) ^ (5 : Int).toNat = 32 := rfl
      omega
    · intro h
      apply BitVec.eq_of_toNat_eq
      rw [and_maskN x 5 (by decide)]
      exact Nat.mod_eq_of_lt (by have e2 : (2 : Nat) ^ (5 : Int).toNat = 32 := rfl; omega)
  · rw [decide_eq_false c, Bool.false_and, Bool.false_and]
theorem reg_any (x : BitVec 64) (w : World) : Calls Try.prog 24 #[.int .i64 (S x)] w fun e w' => e = .returned (.bool (fitsF x 5 false)) ∧ Below w.heap.size w w' := by
  have h := S_le x
  rw [reg_is]
  go_enter Try.func24, Try.ntmps24
  go_wp2
  all_goals go_ret
  all_goals exact ⟨ret_bool (by rw [Bool.eq_iff_iff]; simp; omega), Below.refl _ _⟩
/-- Some bits of a number, laid from a bit on, as a word of 32 bits. -/
def bitI (x : BitVec 64) (f n : Int) (a : Nat) : Int := U (getF x f n <<< a) % 4294967296
theorem bits_any (x : BitVec 64) (f n : Int) (a : Nat) (ha : a < 64) (w : World) : Calls Try.prog 25 #[.int .i64 (S x), .int .i64 f, .int .i64 n, .int .i64 (a : Int)] w fun e w' => e = .returned (.int .u32 (bitI x f n a)) ∧ Below w.heap.size w w' := by
  have ex : ∀ b : BitVec 64, (S b) % 18446744073709551616 = U b := fun b => by
    have := b.isLt
    unfold S U
    rw [BitVec.toInt_eq_toNat_cond]
    split <;> omega
  have ex' := ex x
  have ea : (a : Int) % 18446744073709551616 = (a : Int) := by omega
  go_enter Try.func25, Try.ntmps25
  go_wp2_with (go_at_call 36; (with_reducible refine (rget_any _ _ _ _).mono ?_); rintro e w' ⟨rfl, rfl⟩)
  go_ret
  exact ⟨by
    show Ending.returned (.int .u32 (U (getF x f n <<< (U (BitVec.ofNat 64 a)).toNat) % 4294967296)) = _
    rw [U_toNat, BitVec.toNat_ofNat, Nat.mod_eq_of_lt (by omega)]
    rfl, Below.refl _ _⟩
theorem rget13_any (y : BitVec 64) (f n : Int) (w : World) : Calls Try.prog 31 #[.int .u32 (U y), .int .i64 f, .int .i64 n] w fun e w' => e = .returned (.int .u64 (U (getF y f n))) ∧ Below w.heap.size w w' := by
  have ey : U y % 18446744073709551616 = U y := by have := U_nonneg y; have := U_le y; omega
  go_enter Try.func31, Try.ntmps31
  go_wp2_with (go_at_call 36; (with_reducible refine (rget_any _ _ _ _).mono ?_); rintro e w' ⟨rfl, rfl⟩)
  go_ret
  exact ⟨rfl, Below.refl _ _⟩
theorem signed_any (x : BitVec 64) (n : Int) (w : World) : Calls Try.prog 38 #[.int .u64 (U x), .int .i64 n] w fun e w' => e = .returned (.int .i64 (S (sgnF x n))) ∧ Below w.heap.size w w' := by
  go_enter Try.func38, Try.ntmps38
  go_wp2_with (go_at_call 37; (with_reducible refine (rsign_any _ _ _).mono ?_); rintro e w' ⟨rfl, rfl⟩)
  go_ret
  exact ⟨rfl, Below.refl _ _⟩
end Go.Proofs.Ytokfokgbbpjgdaa
