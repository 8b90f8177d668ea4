
/-
  PermBack: what is told of permissions is parsed as them; of two what is within both is within each, and each within what has both. Every input.
-/
import Derived.Test.YtpadahmchhaifaaLaw
import Derived.Test.YtpadahmchhaifaaPermW
import Derived.Test.YtpadahmchhaifaaPermP
namespace Go.Proofs.Ytpadahmchhaifaa.Back
open Go Go.RowKit Go.ChangeShapes Go.WideShapes Go.ChangeAt
set_option linter.unusedVariables false
set_option linter.unusedSimpArgs false

set_option maxHeartbeats 8000000 in
set_option maxRecDepth 100000 in
theorem core (p q x : BitVec 64) (b : Bool) (s t : ByteArray) (hb : (p ||| q == q) = b) (c1 : ∀ w : World, Calls Try.prog 9 #[.int .u64 (U (p &&& 511#64))] w fun r w' => r = .returned (.string s) ∧ Below w.heap.size w w') (c2 : ∀ w : World, Calls Try.prog 7 #[.string s] w fun r w' => r = .returned (.tuple #[.int .u64 (U (p &&& 511#64)), .bool true]) ∧ Below w.heap.size w w') (c3 : ∀ w : World, Calls Try.prog 9 #[.int .u64 (U (p ||| 512#64))] w fun r w' => r = .returned (.string t) ∧ Below w.heap.size w w') (c4 : ∀ w : World, Calls Try.prog 7 #[.string t] w fun r w' => r = .returned (.tuple #[.int .u64 (U x), .bool false]) ∧ Below w.heap.size w w') (c5 : ∀ w : World, Calls Try.prog 10 #[.int .u64 (U (p &&& q)), .int .u64 (U p)] w fun r w' => r = .returned (.bool true) ∧ w = w') (c6 : ∀ w : World, Calls Try.prog 10 #[.int .u64 (U (p &&& q)), .int .u64 (U q)] w fun r w' => r = .returned (.bool true) ∧ w = w') (c7 : ∀ w : World, Calls Try.prog 10 #[.int .u64 (U p), .int .u64 (U (p ||| q))] w fun r w' => r = .returned (.bool true) ∧ w = w') (c8 : ∀ w : World, Calls Try.prog 10 #[.int .u64 (U p), .int .u64 (U q)] w fun r w' => r = .returned (.bool b) ∧ w = w') (c9 : ∀ w : World, Calls Try.prog 10 #[.int .u64 1, .int .u64 3] w fun r w' => r = .returned (.bool true) ∧ w = w') (c10 : ∀ w : World, Calls Try.prog 10 #[.int .u64 4, .int .u64 3] w fun r w' => r = .returned (.bool false) ∧ w = w') (w : World) : Calls Try.prog 4 #[.int .u64 (U p), .int .u64 (U q)] w fun r w' => r = .returned (.bool true) ∧ Below w.heap.size w w' := by
  go_enter Try.func4, Try.ntmps4
  go_wp2_with (first | (go_at_call 9; (with_reducible refine (c1 _).mono ?_); rintro e w' ⟨rfl, hbl⟩; obtain ⟨hcw, hfw, hsw⟩ := below_ifs hbl; (try simp only [World.size_alloc, World.size_setCell, World.size_drew, size_drewN_] at hcw hfw hsw)) | (go_at_call 7; (with_reducible refine (c2 _).mono ?_); rintro e w' ⟨rfl, hbl⟩; obtain ⟨hcw, hfw, hsw⟩ := below_ifs hbl; (try simp only [World.size_alloc, World.size_setCell, World.size_drew, size_drewN_] at hcw hfw hsw)) | (go_at_call 9; (with_reducible refine (c3 _).mono ?_); rintro e w' ⟨rfl, hbl⟩; obtain ⟨hcw, hfw, hsw⟩ := below_ifs hbl; (try simp only [World.size_alloc, World.size_setCell, World.size_drew, size_drewN_] at hcw hfw hsw)) | (go_at_call 7; (with_reducible refine (c4 _).mono ?_); rintro e w' ⟨rfl, hbl⟩; obtain ⟨hcw, hfw, hsw⟩ := below_ifs hbl; (try simp only [World.size_alloc, World.size_setCell, World.size_drew, size_drewN_] at hcw hfw hsw)) | (go_at_call 10; (with_reducible refine (c5 _).mono ?_); rintro e w' ⟨rfl, rfl⟩) | (go_at_call 10; (with_reducible refine (c6 _).mono ?_); rintro e w' ⟨rfl, rfl⟩) | (go_at_call 10; (with_reducible refine (c7 _).mono ?_); rintro e w' ⟨rfl, rfl⟩) | (go_at_call 10; (with_reducible refine (c8 _).mono ?_); rintro e w' ⟨rfl, rfl⟩) | (go_at_call 10; (with_reducible refine (c9 _).mono ?_); rintro e w' ⟨rfl, rfl⟩) | (go_at_call 10; (with_reducible refine (c10 _).mono ?_); rintro e w' ⟨rfl, rfl⟩))
  go_ret
  exact ⟨ret_bool (by simp), by (repeat (first | with_reducible exact Below.refl _ _ | with_reducible assumption | with_reducible refine below_drewN ?_ _ | with_reducible refine Below.drew ?_ | with_reducible refine below_alloc ?_ _ | (with_reducible refine Below.setCell ?_ (by first | (simp; done) | omega | (simp; omega)) _) | with_reducible refine belows ?_ (by assumption)))⟩
theorem in_or (p q : BitVec 64) : (p ||| q == q) = (p &&& ~~~ q == 0#64) := by
  by_cases h : p &&& ~~~ q = 0#64
  · rw [h]
    rw [show (0#64 == 0#64) = true from rfl, beq_iff_eq]
    apply ext64
    intro j hj
    have e := congrArg (fun x => x.getLsbD j) h
    simp only [BitVec.getLsbD_and, BitVec.getLsbD_not, decide_eq_true hj, Bool.true_and, BitVec.getLsbD_zero] at e
    rw [BitVec.getLsbD_or]
    cases hp : p.getLsbD j <;> cases hq : q.getLsbD j <;> simp_all
  · rw [beq_eq_false_iff_ne.2 h, beq_eq_false_iff_ne]
    intro e
    apply h
    apply ext64
    intro j hj
    have e' := congrArg (fun x => x.getLsbD j) e
    simp only [BitVec.getLsbD_or] at e'
    rw [BitVec.getLsbD_and, BitVec.getLsbD_not, decide_eq_true hj, Bool.true_and, BitVec.getLsbD_zero]
    cases hp : p.getLsbD j <;> cases hq : q.getLsbD j <;> simp_all
theorem in_bits (p q : BitVec 64) (h : ∀ j, j < 64 → (p.getLsbD j && !q.getLsbD j) = false) : (p &&& ~~~ q == 0#64) = true := in_all p q h
theorem walk (p q : BitVec 64) (w : World) : Calls Try.prog 4 #[.int .u64 (U p), .int .u64 (U q)] w fun r w' => r = .returned (.bool true) ∧ Below w.heap.size w w' := by
  have c1 := text_any (p &&& 511#64)
  have c3 := text_any (p ||| 512#64)
  rw [low_text] at c1
  rw [high_text] at c3
  have c2 := parse_any (strOf (lettersOf (p &&& 511#64) 9))
  have c4 := parse_any (strOf (lettersOf (p &&& 511#64) 9 ++ [43]))
  rw [parseF_str, parse_low] at c2
  rw [parseF_str, parse_high] at c4
  have c5 := pwithin_any (p &&& q) p
  have c6 := pwithin_any (p &&& q) q
  have c7 := pwithin_any p (p ||| q)
  rw [in_bits _ _ (by intro j hj; rw [BitVec.getLsbD_and]; cases p.getLsbD j <;> simp)] at c5
  rw [in_bits _ _ (by intro j hj; rw [BitVec.getLsbD_and]; cases q.getLsbD j <;> simp)] at c6
  rw [in_bits _ _ (by intro j hj; rw [BitVec.getLsbD_or]; cases p.getLsbD j <;> simp)] at c7
  exact core p q _ _ _ _ (in_or p q) c1 c2 c3 c4 c5 c6 c7 (pwithin_any p q) (pwithin_any 1#64 3#64) (pwithin_any 4#64 3#64) w

set_option maxRecDepth 100000 in
theorem lifted (os : Os) (started : os.Started) (H : Type) (enc : TypeId × Value → H) :
    ReturnsInHanded {} Try.checked os 4 .any (Rows.permBackSpec.pre6 enc Try.prog Try.f4 Rows.permBackRow.domain false) (Rows.permBackSpec.post enc Try.prog Try.f4 false true false false) := by
  refine law_lift (C := Try.checked) (tb := 4) started (by kernel_rfl) (by kernel_rfl) Try.func4 rfl rfl Try.underlying4 (by kernel_rfl) (by kernel_rfl)
    (fun ds h => by match ds, h with | [_, _], _ => rfl)
    (ChangeSpec.witness6 (enc := enc) (C := Try.checked) false ⟨#[], #[.int .u64 0, .int .u64 0], []⟩ 8 (by kernel_rfl) (by kernel_rfl) (by kernel_rfl) (by kernel_rfl)) ?_
  intro W base args ds ps hval hA hlt hfz hsz
  rw [Try.params4] at hA hval hsz
  obtain ⟨v0, v1, d0, d1, p0, p1, rfl, rfl, rfl, h0, h1⟩ := trodAll_two hA
  obtain ⟨a1, rfl, rfl, rfl, w1⟩ := open_int Try.underlying22 (hval 0 _ v0 rfl rfl) h0
  obtain ⟨a2, rfl, rfl, rfl, w2⟩ := open_int Try.underlying22 (hval 1 _ v1 rfl rfl) h1
  obtain ⟨p, rfl⟩ := exists_U a1 w1
  obtain ⟨q, rfl⟩ := exists_U a2 w2
  exact walk p q W

theorem over : Rows.permBackRow.holds Try.pinned (OpenSpec.ofChange Rows.permBackSpec) :=
  OpenClaim.holds_of_wide 4 Try.f4 rfl rfl rfl rfl rfl rfl rfl ⟨rfl, rfl, rfl, rfl, rfl⟩ rfl rfl rfl rfl rfl (by kernel_rfl) Try.func4 (by kernel_rfl)
    (of_decide_eq_true (by kernel_rfl)) (by unfold Func.isWrapper; first | (rw [if_pos (by decide +kernel)]; kernel_rfl) | (rw [if_neg (by decide +kernel)]; exact ⟨rfl, rfl⟩))
    (fun os started H enc _ => lifted os started H enc)

theorem proved : Rows.PermBackSaid := over
end Go.Proofs.Ytpadahmchhaifaa.Back
