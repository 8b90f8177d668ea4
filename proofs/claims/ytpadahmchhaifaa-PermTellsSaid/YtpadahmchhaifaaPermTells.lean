
/-
  PermTells: any kind needs what the document says, any permissions are within others, or not, and have its letters; and so has any kind its name. Every input.
-/
import Derived.Test.YtpadahmchhaifaaLaw
import Derived.Test.YtpadahmchhaifaaPermW
import Derived.Test.YtpadahmchhaifaaText
namespace Go.Proofs.Ytpadahmchhaifaa.Tells
open Go Go.RowKit Go.ChangeShapes Go.WideShapes Go.ChangeAt
set_option linter.unusedVariables false
set_option linter.unusedSimpArgs false

set_option maxHeartbeats 8000000 in
set_option maxRecDepth 100000 in
theorem core (k : Int) (p q n : BitVec 64) (b : Bool) (s m : ByteArray) (c1 : ∀ w : World, Calls Try.prog 11 #[.int .i64 k] w fun r w' => r = .returned (.int .u64 (U n)) ∧ w = w') (c2 : ∀ w : World, Calls Try.prog 12 #[.int .i64 k] w fun r w' => r = .returned (.int .u64 (U n)) ∧ Below w.heap.size w w') (c3 : ∀ w : World, Calls Try.prog 10 #[.int .u64 (U p), .int .u64 (U q)] w fun r w' => r = .returned (.bool b) ∧ w = w') (c4 : ∀ w : World, Calls Try.prog 13 #[.int .u64 (U p), .int .u64 (U q)] w fun r w' => r = .returned (.bool b) ∧ w = w') (c5 : ∀ w : World, Calls Try.prog 9 #[.int .u64 (U p)] w fun r w' => r = .returned (.string s) ∧ Below w.heap.size w w') (c6 : ∀ w : World, Calls Try.prog 14 #[.int .u64 (U p)] w fun r w' => r = .returned (.string s) ∧ Below w.heap.size w w') (c7 : ∀ w : World, Calls Try.prog 15 #[.int .i64 k] w fun r w' => r = .returned (.string m) ∧ Below w.heap.size w w') (c8 : ∀ w : World, Calls Try.prog 16 #[.int .i64 k] w fun r w' => r = .returned (.string m) ∧ Below w.heap.size w w') (c9 : ∀ w : World, Calls Try.prog 9 #[.int .u64 11] w fun r w' => r = .returned (.string { data := #[114, 119, 82] }) ∧ Below w.heap.size w w') (w : World) : Calls Try.prog 5 #[.int .i64 k, .int .u64 (U p), .int .u64 (U q)] w fun r w' => r = .returned (.bool true) ∧ Below w.heap.size w w' := by
  go_enter Try.func5, Try.ntmps5
  go_wp2_with (first | (go_at_call 11; (with_reducible refine (c1 _).mono ?_); rintro e w' ⟨rfl, rfl⟩) | (go_at_call 12; (with_reducible refine (c2 _).mono ?_); rintro e w' ⟨rfl, hbl⟩; obtain ⟨hcw, hfw, hsw⟩ := below_ifs hbl; (try simp only [World.size_alloc, World.size_setCell, World.size_drew, size_drewN_] at hcw hfw hsw)) | (go_at_call 10; (with_reducible refine (c3 _).mono ?_); rintro e w' ⟨rfl, rfl⟩) | (go_at_call 13; (with_reducible refine (c4 _).mono ?_); rintro e w' ⟨rfl, rfl⟩) | (go_at_call 9; (with_reducible refine (c5 _).mono ?_); rintro e w' ⟨rfl, hbl⟩; obtain ⟨hcw, hfw, hsw⟩ := below_ifs hbl; (try simp only [World.size_alloc, World.size_setCell, World.size_drew, size_drewN_] at hcw hfw hsw)) | (go_at_call 14; (with_reducible refine (c6 _).mono ?_); rintro e w' ⟨rfl, hbl⟩; obtain ⟨hcw, hfw, hsw⟩ := below_ifs hbl; (try simp only [World.size_alloc, World.size_setCell, World.size_drew, size_drewN_] at hcw hfw hsw)) | (go_at_call 15; (with_reducible refine (c7 _).mono ?_); rintro e w' ⟨rfl, hbl⟩; obtain ⟨hcw, hfw, hsw⟩ := below_ifs hbl; (try simp only [World.size_alloc, World.size_setCell, World.size_drew, size_drewN_] at hcw hfw hsw)) | (go_at_call 16; (with_reducible refine (c8 _).mono ?_); rintro e w' ⟨rfl, hbl⟩; obtain ⟨hcw, hfw, hsw⟩ := below_ifs hbl; (try simp only [World.size_alloc, World.size_setCell, World.size_drew, size_drewN_] at hcw hfw hsw)) | (go_at_call 9; (with_reducible refine (c9 _).mono ?_); rintro e w' ⟨rfl, hbl⟩; obtain ⟨hcw, hfw, hsw⟩ := below_ifs hbl; (try simp only [World.size_alloc, World.size_setCell, World.size_drew, size_drewN_] at hcw hfw hsw)))
  go_ret
  exact ⟨ret_bool (by simp), by (repeat (first | with_reducible exact Below.refl _ _ | with_reducible assumption | with_reducible refine below_drewN ?_ _ | with_reducible refine Below.drew ?_ | with_reducible refine below_alloc ?_ _ | (with_reducible refine Below.setCell ?_ (by first | (simp; done) | omega | (simp; omega)) _) | with_reducible refine belows ?_ (by assumption)))⟩
theorem text_11 : textF 11#64 = { data := #[114, 119, 82] } := by decide +kernel
theorem walk (k : Int) (p q : BitVec 64) (w : World) : Calls Try.prog 5 #[.int .i64 k, .int .u64 (U p), .int .u64 (U q)] w fun r w' => r = .returned (.bool true) ∧ Below w.heap.size w w' := by
  have c9 := text_any 11#64
  rw [text_11] at c9
  exact core k p q (needF k) (p &&& ~~~ q == 0#64) (textF p) (nameF k) (needs_any k) (rneeds_any k) (pwithin_any p q) (rwithin4_any p q) (text_any p) (rtext_any p) (name_any k) (rname_any k) c9 w

set_option maxRecDepth 100000 in
theorem lifted (os : Os) (started : os.Started) (H : Type) (enc : TypeId × Value → H) :
    ReturnsInHanded {} Try.checked os 5 .any (Rows.permTellsSpec.pre6 enc Try.prog Try.f5 Rows.permTellsRow.domain false) (Rows.permTellsSpec.post enc Try.prog Try.f5 false true false false) := by
  refine law_lift (C := Try.checked) (tb := 4) started (by kernel_rfl) (by kernel_rfl) Try.func5 rfl rfl Try.underlying4 (by kernel_rfl) (by kernel_rfl)
    (fun ds h => by match ds, h with | [_, _, _], _ => rfl)
    (ChangeSpec.witness6 (enc := enc) (C := Try.checked) false ⟨#[], #[.int .i64 0, .int .u64 0, .int .u64 0], []⟩ 8 (by kernel_rfl) (by kernel_rfl) (by kernel_rfl) (by kernel_rfl)) ?_
  intro W base args ds ps hval hA hlt hfz hsz
  rw [Try.params5] at hA hval hsz
  obtain ⟨v0, v1, v2, d0, d1, d2, p0, p1, p2, rfl, rfl, rfl, h0, h1, h2⟩ := trodAll_three hA
  obtain ⟨k, rfl, rfl, rfl, w0⟩ := open_int Try.underlying3 (hval 0 _ v0 rfl rfl) h0
  obtain ⟨a1, rfl, rfl, rfl, w1⟩ := open_int Try.underlying22 (hval 1 _ v1 rfl rfl) h1
  obtain ⟨a2, rfl, rfl, rfl, w2⟩ := open_int Try.underlying22 (hval 2 _ v2 rfl rfl) h2
  obtain ⟨p, rfl⟩ := exists_U a1 w1
  obtain ⟨q, rfl⟩ := exists_U a2 w2
  exact walk k p q W

theorem over : Rows.permTellsRow.holds Try.pinned (OpenSpec.ofChange Rows.permTellsSpec) :=
  OpenClaim.holds_of_wide 5 Try.f5 rfl rfl rfl rfl rfl rfl rfl ⟨rfl, rfl, rfl, rfl, rfl⟩ rfl rfl rfl rfl rfl (by kernel_rfl) Try.func5 (by kernel_rfl)
    (of_decide_eq_true (by kernel_rfl)) (by unfold Func.isWrapper; first | (rw [if_pos (by decide +kernel)]; kernel_rfl) | (rw [if_neg (by decide +kernel)]; exact ⟨rfl, rfl⟩))
    (fun os started H enc _ => lifted os started H enc)

theorem proved : Rows.PermTellsSaid := over
end Go.Proofs.Ytpadahmchhaifaa.Tells
