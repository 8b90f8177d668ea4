
/-
  BoundsWords: a word has just its fields; two words of which one is a field's number more have other fields. Every input.
-/
import Derived.Test.YtjhekfcnoofaaaaRows
import Derived.Test.YtjhekfcnoofaaaaLaw
import Derived.Test.YtjhekfcnoofaaaaBounds
namespace Go.Proofs.Ytjhekfcnoofaaaa.Words
open Go Go.RowKit Go.ChangeShapes Go.WideShapes Go.ChangeAt
set_option linter.unusedVariables false

theorem word_one (w : World) : Calls Try.prog 11 #[.agg #[.int .u64 1, .int .u64 1, .int .u64 1]] w fun e' w' => e' = .returned (.int .u64 67125249) ∧ Below w.heap.size w w' :=
  (word_any 1#64 1#64 1#64 w).mono fun _ _ h => ⟨by rw [h.1]; rfl, h.2⟩

theorem word_of (x : BitVec 64) : wordF (getF x 0 14) (getF x 14 12) (getF x 26 6) = x &&& 4294967295#64 := by
  apply ext64
  intro j hj
  have e : (4294967295#64).getLsbD j = decide (j < 32) := by
    have := mask_lsb 32 (by omega) j
    rw [show maskF 32 = 4294967295#64 from rfl] at this
    rw [this]
    rfl
  unfold wordF
  rw [put_lsb _ _ _ _ (by decide) _ hj, put_lsb _ _ _ _ (by decide) _ hj, put_lsb _ _ _ _ (by decide) _ hj, BitVec.getLsbD_and, e]
  simp only [show (26 : Int).toNat = 26 from rfl, show (6 : Int).toNat = 6 from rfl, show (14 : Int).toNat = 14 from rfl, show (12 : Int).toNat = 12 from rfl, show (0 : Int).toNat = 0 from rfl]
  rw [get_lsb _ _ _ (by decide), get_lsb _ _ _ (by decide), get_lsb _ _ _ (by decide)]
  simp only [show (26 : Int).toNat = 26 from rfl, show (6 : Int).toNat = 6 from rfl, show (14 : Int).toNat = 14 from rfl, show (12 : Int).toNat = 12 from rfl, show (0 : Int).toNat = 0 from rfl]
  by_cases c : j < 14
  · rw [if_neg (by omega), if_neg (by omega), if_pos (by omega)]
    simp [c, show j < 32 by omega]
  · by_cases c2 : j < 26
    · rw [if_neg (by omega), if_pos (by omega), show 14 + (j - 14) = j by omega]
      simp [show j < 32 by omega, show j - 14 < 12 by omega]
    · by_cases c3 : j < 32
      · rw [if_pos (by omega), show 26 + (j - 26) = j by omega]
        simp [c3, show j - 26 < 6 by omega]
      · rw [if_neg (by omega), if_neg (by omega), if_neg (by omega)]
        simp [c3]
theorem word_same (x y : BitVec 64) : (getF x 0 14 == getF y 0 14 && getF x 14 12 == getF y 14 12 && getF x 26 6 == getF y 26 6) = (x &&& 4294967295#64 == y &&& 4294967295#64) := by
  rw [Bool.eq_iff_iff]
  simp only [Bool.and_eq_true, beq_iff_eq]
  constructor
  · rintro ⟨⟨h1, h2⟩, h3⟩
    rw [← word_of x, ← word_of y, h1, h2, h3]
  · intro h
    have key : ∀ (a n : Int), mayF a n = true → a + n ≤ 32 → ∀ z : BitVec 64, getF z a n = getF (z &&& 4294967295#64) a n := by
      intro a n g hl z
      obtain ⟨g1, g2, g3, g4⟩ := (mayF_iff a n).1 g
      apply ext64
      intro j hj
      rw [get_lsb _ _ _ g, get_lsb _ _ _ g, BitVec.getLsbD_and]
      have e : (4294967295#64).getLsbD (a.toNat + j) = decide (a.toNat + j < 32) := by
        have := mask_lsb 32 (by omega) (a.toNat + j)
        rw [show maskF 32 = 4294967295#64 from rfl] at this
        rw [this]
        rfl
      rw [e]
      by_cases c : j < n.toNat
      · rw [decide_eq_true (show a.toNat + j < 32 by omega)]; simp
      · simp [c]
    rw [key 0 14 (by decide) (by omega) x, key 0 14 (by decide) (by omega) y, key 14 12 (by decide) (by omega) x, key 14 12 (by decide) (by omega) y, key 26 6 (by decide) (by omega) x, key 26 6 (by decide) (by omega) y, h]
    simp
theorem and_lt (x m : BitVec 64) (n : Int) (h : U m < n) : U (x &&& m) < n := by
  have h1 : (x &&& m).toNat ≤ m.toNat := by rw [BitVec.toNat_and]; exact Nat.and_le_right
  unfold U at *
  omega

set_option maxHeartbeats 1000000 in
set_option maxRecDepth 100000 in
theorem walk (x y : BitVec 64) (w : World) :
    Calls Try.prog 3 #[.int .u64 (U x), .int .u64 (U y)] w fun e w' => e = .returned (.bool true) ∧ Below w.heap.size w w' := by
  have hW : wordF (getF x 0 14) (getF x 14 12) (getF x 26 6) = x &&& 4294967295#64 := word_of x
  have h1 : U (getF x 0 14) < 16384 := and_lt _ 16383#64 _ (by decide)
  have h2 : U (getF x 14 12) < 4096 := and_lt _ 4095#64 _ (by decide)
  have h3 : U (getF x 26 6) < 64 := and_lt _ 63#64 _ (by decide)
  have hE := word_same x y
  go_enter Try.func3, Try.ntmps3
  go_wp2_with (first | (go_at_call 10; (with_reducible refine (of_any _ _).mono ?_); rintro e w' ⟨rfl, hbl⟩; obtain ⟨hcw, hfw, hsw⟩ := below_facts hbl) | (go_at_call 11; (with_reducible refine (word_one _).mono ?_); rintro e w' ⟨rfl, hbl⟩; obtain ⟨hcw, hfw, hsw⟩ := below_facts hbl) | (go_at_call 11; (with_reducible refine (word_any _ _ _ _).mono ?_); rintro e w' ⟨rfl, hbl⟩; obtain ⟨hcw, hfw, hsw⟩ := below_facts hbl))
  all_goals go_ret
  refine ⟨rfl, ?_⟩
  repeat (first | with_reducible exact Below.refl _ _ | with_reducible assumption | with_reducible refine below_drewN ?_ _ | with_reducible refine below_alloc ?_ _ | (with_reducible refine Below.setCell ?_ (by simp) _) | with_reducible refine belows ?_ (by assumption))

set_option maxRecDepth 100000 in
theorem lifted (os : Os) (started : os.Started) (H : Type) (enc : TypeId × Value → H) :
    ReturnsInHanded {} Try.checked os 3 .any (Rows.boundsWordsSpec.pre6 enc Try.prog Try.f3 Rows.boundsWordsRow.domain false) (Rows.boundsWordsSpec.post enc Try.prog Try.f3 false true false false) := by
  refine law_lift (C := Try.checked) (tb := 4) started (by kernel_rfl) (by kernel_rfl) Try.func3 rfl rfl Try.underlying4 (by kernel_rfl) (by kernel_rfl)
    (fun ds h => by match ds, h with | [_, _], _ => rfl)
    (ChangeSpec.witness6 (enc := enc) (C := Try.checked) false ⟨#[], #[.int .u64 0, .int .u64 0], []⟩ 8 (by kernel_rfl) (by kernel_rfl) (by kernel_rfl) (by kernel_rfl)) ?_
  intro W base args ds ps hval hA hlt hfz hsz
  rw [Try.params3] at hA hval hsz
  obtain ⟨v0, v1, d0, d1, p0, p1, rfl, rfl, rfl, h0, h1⟩ := trodAll_two hA
  obtain ⟨a0, rfl, rfl, rfl, w0⟩ := open_int Try.underlying22 (hval 0 _ v0 rfl rfl) h0
  obtain ⟨a1, rfl, rfl, rfl, w1⟩ := open_int Try.underlying22 (hval 1 _ v1 rfl rfl) h1
  obtain ⟨x, rfl⟩ := exists_U a0 w0
  obtain ⟨y, rfl⟩ := exists_U a1 w1
  exact walk x y W

theorem over : Rows.boundsWordsRow.holds Try.pinned (OpenSpec.ofChange Rows.boundsWordsSpec) :=
  OpenClaim.holds_of_wide 3 Try.f3 rfl rfl rfl rfl rfl rfl rfl ⟨rfl, rfl, rfl, rfl, rfl⟩ rfl rfl rfl rfl rfl (by kernel_rfl) Try.func3 (by kernel_rfl)
    (of_decide_eq_true (by kernel_rfl)) (by unfold Func.isWrapper; first | (rw [if_pos (by decide +kernel)]; kernel_rfl) | (rw [if_neg (by decide +kernel)]; exact ⟨rfl, rfl⟩))
    (fun os started H enc _ => lifted os started H enc)

theorem proved : Rows.BoundsWordsSaid := over
end Go.Proofs.Ytjhekfcnoofaaaa.Words
