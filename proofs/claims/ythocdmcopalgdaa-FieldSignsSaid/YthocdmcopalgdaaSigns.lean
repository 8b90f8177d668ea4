/-
  FieldSigns: a number that fits with its sign is told by the sign of its lowest bits; one that fits without is its lowest bits; with a bit more it fits still. Every input.
-/
import Derived.Test.YthocdmcopalgdaaRows
import Derived.Test.YthocdmcopalgdaaLaw
import Derived.Test.YthocdmcopalgdaaFieldBits
namespace Go.Proofs.Ythocdmcopalgdaa.Signs
open Go Go.RowKit Go.ChangeShapes Go.WideShapes Go.ChangeAt

theorem sgn_low (x : BitVec 64) (n : Int) (h : 1 ≤ n ∧ n ≤ 64) : sgnF (x &&& maskF n) n = sgnF x n := by
  apply ext64
  intro j hj
  rw [sgn_lsb _ _ h _ hj, sgn_lsb _ _ h _ hj, BitVec.getLsbD_and, mask_lsb n h.2, decide_eq_true (show (if j < n.toNat then j else n.toNat - 1) < n.toNat by split <;> omega), Bool.and_true]
theorem sgn_sgn (x : BitVec 64) (n : Int) (h : 1 ≤ n ∧ n ≤ 64) : sgnF (sgnF x n) n = sgnF x n := by
  apply ext64
  intro j hj
  rw [sgn_lsb (sgnF x n) _ h _ hj, sgn_lsb x _ h _ hj, sgn_lsb x _ h _ (by split <;> omega)]
  congr 1
  by_cases c : j < n.toNat
  · rw [if_pos c, if_pos c]
  · rw [if_neg c, if_pos (by omega)]
theorem fits_signed (x : BitVec 64) (n : Int) (h : 1 ≤ n ∧ n ≤ 64) : fitsF x n true = (sgnF x n == x) := by
  unfold fitsF; rw [if_neg (by omega)]; rfl
theorem fits_plain (x : BitVec 64) (n : Int) (h : 1 ≤ n ∧ n ≤ 64) : fitsF x n false = (decide (0 ≤ S x) && (x &&& maskF n == x)) := by
  unfold fitsF
  rw [if_neg (by omega), if_neg (by decide)]
  congr 1
  rw [Bool.eq_iff_iff, beq_iff_eq, beq_iff_eq]
  constructor
  · intro e
    apply ext64
    intro j hj
    have := congrArg (fun y => y.getLsbD j) e
    simp only [BitVec.getLsbD_and, BitVec.getLsbD_not, BitVec.getLsbD_zero] at this
    rw [BitVec.getLsbD_and]
    cases h1 : x.getLsbD j <;> cases h2 : (maskF n).getLsbD j <;> simp_all
  · intro e
    apply ext64
    intro j hj
    have := congrArg (fun y => y.getLsbD j) e
    simp only [BitVec.getLsbD_and] at this
    rw [BitVec.getLsbD_and, BitVec.getLsbD_not]
    cases h1 : x.getLsbD j <;> cases h2 : (maskF n).getLsbD j <;> simp_all
theorem sgn_more (x : BitVec 64) (n : Int) (h : 1 ≤ n ∧ n < 64) (e : sgnF x n = x) : sgnF x (n + 1) = x := by
  have key : ∀ j, j < 64 → x.getLsbD (if j < n.toNat then j else n.toNat - 1) = x.getLsbD j := fun j hj => by
    rw [← sgn_lsb x n (by omega) j hj, e]
  apply ext64
  intro j hj
  rw [sgn_lsb _ _ (by omega) _ hj]
  by_cases c : j < (n + 1).toNat
  · rw [if_pos c]
  · rw [if_neg c, show (n + 1).toNat - 1 = n.toNat by omega]
    have k1 := key j hj
    have k2 := key n.toNat (by omega)
    rw [if_neg (by omega)] at k1 k2
    rw [← k1, ← k2]
theorem sgn_plain (x : BitVec 64) (n : Int) (h : 1 ≤ n ∧ n < 64) (e : x &&& maskF n = x) : sgnF x (n + 1) = x := by
  have key : ∀ j, n.toNat ≤ j → x.getLsbD j = false := fun j hj => by
    have := congrArg (fun y => y.getLsbD j) e
    simp only [BitVec.getLsbD_and, mask_lsb n (show n ≤ 64 by omega), decide_eq_false (show ¬ j < n.toNat by omega), Bool.and_false] at this
    exact this.symm
  apply ext64
  intro j hj
  rw [sgn_lsb _ _ (by omega) _ hj]
  by_cases c : j < (n + 1).toNat
  · rw [if_pos c]
  · rw [if_neg c, key _ (by omega), key _ (by omega)]
theorem sgn_64 (x : BitVec 64) : sgnF x 64 = x := by
  apply ext64
  intro j hj
  rw [sgn_lsb _ _ (by omega) _ hj, if_pos (show j < (64 : Int).toNat by omega)]
theorem mask_3 (w : World) : Calls Try.prog 10 #[.int .i64 3] w fun e w' => e = .returned (.int .u64 7) ∧ w = w' :=
  (mask_any 3 w).mono fun _ _ h => ⟨by rw [h.1]; rfl, h.2⟩

set_option maxHeartbeats 4000000 in
theorem walk (x : BitVec 64) (n0 : Int) (w : World) :
    Calls Try.prog 5 #[.int .i64 (S x), .int .i64 n0] w fun e w' => e = .returned (.bool true) ∧ Below w.heap.size w w' := by
  have h : 1 ≤ 1 + n0 % 64 ∧ 1 + n0 % 64 ≤ 64 := by omega
  have e1 := sgn_low x _ h
  have e2 := sgn_sgn x _ h
  have e3 := fits_signed x _ h
  have e4 := fits_plain x _ h
  have e5 : fitsF x 64 true = true := by rw [fits_signed x 64 (by omega), sgn_64]; simp
  have e6 : 1 + n0 % 64 < 64 → (sgnF x (1 + n0 % 64) == x) = true → fitsF x (1 + n0 % 64 + 1) true = true := fun h1 h2 => by
    rw [fits_signed x _ (by omega), sgn_more x _ (by omega) (by simpa using h2)]; simp
  have e7 : 1 + n0 % 64 < 64 → (x &&& maskF (1 + n0 % 64) == x) = true → fitsF x (1 + n0 % 64 + 1) true = true := fun h1 h2 => by
    rw [fits_signed x _ (by omega), sgn_plain x _ (by omega) (by simpa using h2)]; simp
  by_cases hn : 1 + n0 % 64 < 64
  all_goals cases h1 : (sgnF x (1 + n0 % 64) == x)
  all_goals cases h2 : (x &&& maskF (1 + n0 % 64) == x)
  all_goals by_cases h3 : 0 ≤ S x
  all_goals
    go_enter Try.func5, Try.ntmps5
    go_wp2_with (first | (go_at_call 13; (with_reducible refine (fits_any _ _ _ _).mono ?_); rintro e w' ⟨rfl, rfl⟩) | (go_at_call 14; (with_reducible refine (sign_any _ _ _).mono ?_); rintro e w' ⟨rfl, rfl⟩) | (go_at_call 10; (with_reducible refine (mask_any _ _).mono ?_); rintro e w' ⟨rfl, rfl⟩))
  all_goals go_ret
  all_goals exact ⟨rfl, Below.refl _ _⟩

set_option maxRecDepth 100000 in
theorem lifted (os : Os) (started : os.Started) (H : Type) (enc : TypeId × Value → H) :
    ReturnsInHanded {} Try.checked os 5 .any (Rows.fieldSignsSpec.pre6 enc Try.prog Try.f5 Rows.fieldSignsRow.domain false) (Rows.fieldSignsSpec.post enc Try.prog Try.f5 false true false false) := by
  refine law_lift (C := Try.checked) (tb := 4) started (by kernel_rfl) (by kernel_rfl) Try.func5 rfl rfl Try.underlying4 (by kernel_rfl) (by kernel_rfl)
    (fun ds h => by match ds, h with | [_, _], _ => rfl)
    (ChangeSpec.witness6 (enc := enc) (C := Try.checked) false ⟨#[], #[.int .i64 0, .int .i64 0], []⟩ 8 (by kernel_rfl) (by kernel_rfl) (by kernel_rfl) (by kernel_rfl)) ?_
  intro W base args ds ps hval hA hlt hfz hsz
  rw [Try.params5] at hA hval hsz
  obtain ⟨v0, v1, d0, d1, p0, p1, rfl, rfl, rfl, h0, h1⟩ := trodAll_two hA
  obtain ⟨a0, rfl, rfl, rfl, w0⟩ := open_int Try.underlying2 (hval 0 _ v0 rfl rfl) h0
  obtain ⟨a1, rfl, rfl, rfl, w1⟩ := open_int Try.underlying3 (hval 1 _ v1 rfl rfl) h1
  obtain ⟨x, rfl⟩ := exists_S a0 ((wf_i64 a0).1 w0)
  exact walk x a1 W

theorem over : Rows.fieldSignsRow.holds Try.pinned (OpenSpec.ofChange Rows.fieldSignsSpec) :=
  OpenClaim.holds_of_wide 5 Try.f5 rfl rfl rfl rfl rfl rfl rfl ⟨rfl, rfl, rfl, rfl, rfl⟩ rfl rfl rfl rfl rfl (by kernel_rfl) Try.func5 (by kernel_rfl)
    (of_decide_eq_true (by kernel_rfl)) (by unfold Func.isWrapper; first | (rw [if_pos (by decide +kernel)]; kernel_rfl) | (rw [if_neg (by decide +kernel)]; exact ⟨rfl, rfl⟩))
    (fun os started H enc _ => lifted os started H enc)

theorem proved : Rows.FieldSignsSaid := over
end Go.Proofs.Ythocdmcopalgdaa.Signs
