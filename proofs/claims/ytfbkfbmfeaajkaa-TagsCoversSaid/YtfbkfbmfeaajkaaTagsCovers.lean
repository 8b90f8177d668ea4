
/-
  TagsCovers: any bytes touch the document's granules, and any offset is the first of one, or of none. Every input.
-/
import Derived.Test.YtfbkfbmfeaajkaaRows
import Derived.Test.YtfbkfbmfeaajkaaLaw
import Derived.Test.YtfbkfbmfeaajkaaTagsRC
import Derived.Test.YtfbkfbmfeaajkaaTagsE
namespace Go.Proofs.Ytfbkfbmfeaajkaa.Covers
open Go Go.RowKit Go.ChangeShapes Go.WideShapes Go.ChangeAt
set_option linter.unusedVariables false
set_option linter.unusedSimpArgs false

theorem three (w : World) : (binOp .eql 26 (.agg #[.int .u64 3, .int .u64 0, .int .u64 0, .int .u64 0]) (.agg #[.int .u64 3, .int .u64 0, .int .u64 0, .int .u64 0])).run Try.prog w = .ok (.bool true) w := set_eql 3#64 0#64 0#64 0#64 3#64 0#64 0#64 0#64 w
attribute [local go_sem 3000] three
set_option maxHeartbeats 4000000 in
set_option maxRecDepth 100000 in
theorem core_a (off n : Int) (a b c d : BitVec 64) (h0 : decide (0 ≤ off) = false) (c0 : ∀ w : World, Calls Try.prog 7 #[.int .i64 off] w fun r w' => r = .returned (.tuple #[.int .i64 (0), .bool false]) ∧ w = w') (c1 : ∀ w : World, Calls Try.prog 8 #[.int .i64 off, .int .i64 n] w fun r w' => r = .returned (.agg #[.int .u64 (U a), .int .u64 (U b), .int .u64 (U c), .int .u64 (U d)]) ∧ Below w.heap.size w w') (c2 : ∀ w : World, Calls Try.prog 9 #[.int .i64 off, .int .i64 n] w fun r w' => r = .returned (.agg #[.int .u64 (U a), .int .u64 (U b), .int .u64 (U c), .int .u64 (U d)]) ∧ Below w.heap.size w w') (c3 : ∀ w : World, Calls Try.prog 8 #[.int .i64 15, .int .i64 2] w fun r w' => r = .returned (.agg #[.int .u64 3, .int .u64 0, .int .u64 0, .int .u64 0]) ∧ Below w.heap.size w w') (w : World) : Calls Try.prog 3 #[.int .i64 off, .int .i64 n] w fun r w' => r = .returned (.bool true) ∧ Below w.heap.size w w' := by
  go_enter Try.func3, Try.ntmps3
  go_wp2_with (first | (go_at_call 7; (with_reducible refine (c0 _).mono ?_); rintro e w' ⟨rfl, rfl⟩) | (go_at_call 8; (with_reducible refine (c1 _).mono ?_); rintro e w' ⟨rfl, hbl⟩; obtain ⟨hcw, hfw, hsw⟩ := below_ifs hbl; (try simp only [World.size_alloc, World.size_setCell, World.size_drew, size_drewN_] at hcw hfw hsw)) | (go_at_call 9; (with_reducible refine (c2 _).mono ?_); rintro e w' ⟨rfl, hbl⟩; obtain ⟨hcw, hfw, hsw⟩ := below_ifs hbl; (try simp only [World.size_alloc, World.size_setCell, World.size_drew, size_drewN_] at hcw hfw hsw)) | (go_at_call 8; (with_reducible refine (c3 _).mono ?_); rintro e w' ⟨rfl, hbl⟩; obtain ⟨hcw, hfw, hsw⟩ := below_ifs hbl; (try simp only [World.size_alloc, World.size_setCell, World.size_drew, size_drewN_] at hcw hfw hsw)))
  go_ret
  exact ⟨ret_bool (by first | (simp; done) | (simp [*]; done) | (simp at h2; simp [h2]; done) | (have h3 := beq_iff_eq.1 h2; simp; omega)), by (repeat (first | with_reducible exact Below.refl _ _ | with_reducible assumption | with_reducible refine below_drewN ?_ _ | with_reducible refine Below.drew ?_ | with_reducible refine below_alloc ?_ _ | (with_reducible refine Below.setCell ?_ (by first | (simp; done) | omega | (simp; omega)) _) | with_reducible refine belows ?_ (by assumption)))⟩
set_option maxHeartbeats 4000000 in
set_option maxRecDepth 100000 in
theorem core_b (off n : Int) (a b c d : BitVec 64) (h0 : decide (0 ≤ off) = true) (h1 : decide (off < 4096) = false) (c0 : ∀ w : World, Calls Try.prog 7 #[.int .i64 off] w fun r w' => r = .returned (.tuple #[.int .i64 (0), .bool false]) ∧ w = w') (c1 : ∀ w : World, Calls Try.prog 8 #[.int .i64 off, .int .i64 n] w fun r w' => r = .returned (.agg #[.int .u64 (U a), .int .u64 (U b), .int .u64 (U c), .int .u64 (U d)]) ∧ Below w.heap.size w w') (c2 : ∀ w : World, Calls Try.prog 9 #[.int .i64 off, .int .i64 n] w fun r w' => r = .returned (.agg #[.int .u64 (U a), .int .u64 (U b), .int .u64 (U c), .int .u64 (U d)]) ∧ Below w.heap.size w w') (c3 : ∀ w : World, Calls Try.prog 8 #[.int .i64 15, .int .i64 2] w fun r w' => r = .returned (.agg #[.int .u64 3, .int .u64 0, .int .u64 0, .int .u64 0]) ∧ Below w.heap.size w w') (w : World) : Calls Try.prog 3 #[.int .i64 off, .int .i64 n] w fun r w' => r = .returned (.bool true) ∧ Below w.heap.size w w' := by
  go_enter Try.func3, Try.ntmps3
  go_wp2_with (first | (go_at_call 7; (with_reducible refine (c0 _).mono ?_); rintro e w' ⟨rfl, rfl⟩) | (go_at_call 8; (with_reducible refine (c1 _).mono ?_); rintro e w' ⟨rfl, hbl⟩; obtain ⟨hcw, hfw, hsw⟩ := below_ifs hbl; (try simp only [World.size_alloc, World.size_setCell, World.size_drew, size_drewN_] at hcw hfw hsw)) | (go_at_call 9; (with_reducible refine (c2 _).mono ?_); rintro e w' ⟨rfl, hbl⟩; obtain ⟨hcw, hfw, hsw⟩ := below_ifs hbl; (try simp only [World.size_alloc, World.size_setCell, World.size_drew, size_drewN_] at hcw hfw hsw)) | (go_at_call 8; (with_reducible refine (c3 _).mono ?_); rintro e w' ⟨rfl, hbl⟩; obtain ⟨hcw, hfw, hsw⟩ := below_ifs hbl; (try simp only [World.size_alloc, World.size_setCell, World.size_drew, size_drewN_] at hcw hfw hsw)))
  go_ret
  exact ⟨ret_bool (by first | (simp; done) | (simp [*]; done) | (simp at h2; simp [h2]; done) | (have h3 := beq_iff_eq.1 h2; simp; omega)), by (repeat (first | with_reducible exact Below.refl _ _ | with_reducible assumption | with_reducible refine below_drewN ?_ _ | with_reducible refine Below.drew ?_ | with_reducible refine below_alloc ?_ _ | (with_reducible refine Below.setCell ?_ (by first | (simp; done) | omega | (simp; omega)) _) | with_reducible refine belows ?_ (by assumption)))⟩
set_option maxHeartbeats 4000000 in
set_option maxRecDepth 100000 in
theorem core_c (off n : Int) (a b c d : BitVec 64) (h0 : decide (0 ≤ off) = true) (h1 : decide (off < 4096) = true) (g0 : 0 ≤ off) (g1 : off < 4096) (h2 : (off % 16 == 0) = false) (c0 : ∀ w : World, Calls Try.prog 7 #[.int .i64 off] w fun r w' => r = .returned (.tuple #[.int .i64 (0), .bool false]) ∧ w = w') (c1 : ∀ w : World, Calls Try.prog 8 #[.int .i64 off, .int .i64 n] w fun r w' => r = .returned (.agg #[.int .u64 (U a), .int .u64 (U b), .int .u64 (U c), .int .u64 (U d)]) ∧ Below w.heap.size w w') (c2 : ∀ w : World, Calls Try.prog 9 #[.int .i64 off, .int .i64 n] w fun r w' => r = .returned (.agg #[.int .u64 (U a), .int .u64 (U b), .int .u64 (U c), .int .u64 (U d)]) ∧ Below w.heap.size w w') (c3 : ∀ w : World, Calls Try.prog 8 #[.int .i64 15, .int .i64 2] w fun r w' => r = .returned (.agg #[.int .u64 3, .int .u64 0, .int .u64 0, .int .u64 0]) ∧ Below w.heap.size w w') (w : World) : Calls Try.prog 3 #[.int .i64 off, .int .i64 n] w fun r w' => r = .returned (.bool true) ∧ Below w.heap.size w w' := by
  go_enter Try.func3, Try.ntmps3
  go_wp2_with (first | (go_at_call 7; (with_reducible refine (c0 _).mono ?_); rintro e w' ⟨rfl, rfl⟩) | (go_at_call 8; (with_reducible refine (c1 _).mono ?_); rintro e w' ⟨rfl, hbl⟩; obtain ⟨hcw, hfw, hsw⟩ := below_ifs hbl; (try simp only [World.size_alloc, World.size_setCell, World.size_drew, size_drewN_] at hcw hfw hsw)) | (go_at_call 9; (with_reducible refine (c2 _).mono ?_); rintro e w' ⟨rfl, hbl⟩; obtain ⟨hcw, hfw, hsw⟩ := below_ifs hbl; (try simp only [World.size_alloc, World.size_setCell, World.size_drew, size_drewN_] at hcw hfw hsw)) | (go_at_call 8; (with_reducible refine (c3 _).mono ?_); rintro e w' ⟨rfl, hbl⟩; obtain ⟨hcw, hfw, hsw⟩ := below_ifs hbl; (try simp only [World.size_alloc, World.size_setCell, World.size_drew, size_drewN_] at hcw hfw hsw)))
  go_ret
  exact ⟨ret_bool (by first | (simp; done) | (simp [*]; done) | (simp at h2; simp [h2]; done) | (have h3 := beq_iff_eq.1 h2; simp; omega)), by (repeat (first | with_reducible exact Below.refl _ _ | with_reducible assumption | with_reducible refine below_drewN ?_ _ | with_reducible refine Below.drew ?_ | with_reducible refine below_alloc ?_ _ | (with_reducible refine Below.setCell ?_ (by first | (simp; done) | omega | (simp; omega)) _) | with_reducible refine belows ?_ (by assumption)))⟩
set_option maxHeartbeats 4000000 in
set_option maxRecDepth 100000 in
theorem core_d (off n : Int) (a b c d : BitVec 64) (h0 : decide (0 ≤ off) = true) (h1 : decide (off < 4096) = true) (g0 : 0 ≤ off) (g1 : off < 4096) (h2 : (off % 16 == 0) = true) (c0 : ∀ w : World, Calls Try.prog 7 #[.int .i64 off] w fun r w' => r = .returned (.tuple #[.int .i64 (off / 16), .bool true]) ∧ w = w') (c1 : ∀ w : World, Calls Try.prog 8 #[.int .i64 off, .int .i64 n] w fun r w' => r = .returned (.agg #[.int .u64 (U a), .int .u64 (U b), .int .u64 (U c), .int .u64 (U d)]) ∧ Below w.heap.size w w') (c2 : ∀ w : World, Calls Try.prog 9 #[.int .i64 off, .int .i64 n] w fun r w' => r = .returned (.agg #[.int .u64 (U a), .int .u64 (U b), .int .u64 (U c), .int .u64 (U d)]) ∧ Below w.heap.size w w') (c3 : ∀ w : World, Calls Try.prog 8 #[.int .i64 15, .int .i64 2] w fun r w' => r = .returned (.agg #[.int .u64 3, .int .u64 0, .int .u64 0, .int .u64 0]) ∧ Below w.heap.size w w') (w : World) : Calls Try.prog 3 #[.int .i64 off, .int .i64 n] w fun r w' => r = .returned (.bool true) ∧ Below w.heap.size w w' := by
  go_enter Try.func3, Try.ntmps3
  go_wp2_with (first | (go_at_call 7; (with_reducible refine (c0 _).mono ?_); rintro e w' ⟨rfl, rfl⟩) | (go_at_call 8; (with_reducible refine (c1 _).mono ?_); rintro e w' ⟨rfl, hbl⟩; obtain ⟨hcw, hfw, hsw⟩ := below_ifs hbl; (try simp only [World.size_alloc, World.size_setCell, World.size_drew, size_drewN_] at hcw hfw hsw)) | (go_at_call 9; (with_reducible refine (c2 _).mono ?_); rintro e w' ⟨rfl, hbl⟩; obtain ⟨hcw, hfw, hsw⟩ := below_ifs hbl; (try simp only [World.size_alloc, World.size_setCell, World.size_drew, size_drewN_] at hcw hfw hsw)) | (go_at_call 8; (with_reducible refine (c3 _).mono ?_); rintro e w' ⟨rfl, hbl⟩; obtain ⟨hcw, hfw, hsw⟩ := below_ifs hbl; (try simp only [World.size_alloc, World.size_setCell, World.size_drew, size_drewN_] at hcw hfw hsw)))
  go_ret
  exact ⟨ret_bool (by first | (simp; done) | (simp [*]; done) | (simp at h2; simp [h2]; done) | (have h3 := beq_iff_eq.1 h2; simp; omega)), by (repeat (first | with_reducible exact Below.refl _ _ | with_reducible assumption | with_reducible refine below_drewN ?_ _ | with_reducible refine Below.drew ?_ | with_reducible refine below_alloc ?_ _ | (with_reducible refine Below.setCell ?_ (by first | (simp; done) | omega | (simp; omega)) _) | with_reducible refine belows ?_ (by assumption)))⟩
theorem cov_15 (w : World) : Calls Try.prog 8 #[.int .i64 15, .int .i64 2] w fun r w' => r = .returned (.agg #[.int .u64 3, .int .u64 0, .int .u64 0, .int .u64 0]) ∧ Below w.heap.size w w' := by
  have h := cover_any 15 2 (by omega) (by omega) w
  rw [show wd (covS 15 2) 0 = 3#64 by decide +kernel, show wd (covS 15 2) 1 = 0#64 by decide +kernel, show wd (covS 15 2) 2 = 0#64 by decide +kernel, show wd (covS 15 2) 3 = 0#64 by decide +kernel] at h
  exact h
theorem walk (off n : Int) (ho : -9223372036854775808 ≤ off ∧ off ≤ 9223372036854775807) (hn : n ≤ 9223372036854775807) (w : World) : Calls Try.prog 3 #[.int .i64 off, .int .i64 n] w fun r w' => r = .returned (.bool true) ∧ Below w.heap.size w w' := by
  have c0 := aligned_any off
  have c1 := cover_any off n ho.1 hn
  have c2 := rcover_any off n ho hn
  unfold algS at c0
  cases h0 : decide (0 ≤ off)
  · rw [h0] at c0
    exact core_a off n _ _ _ _ h0 c0 c1 c2 cov_15 w
  · rw [h0] at c0
    cases h1 : decide (off < 4096)
    · rw [h1] at c0
      exact core_b off n _ _ _ _ h0 h1 c0 c1 c2 cov_15 w
    · rw [h1] at c0
      cases h2 : (off % 16 == 0)
      · rw [h2] at c0
        exact core_c off n _ _ _ _ h0 h1 (of_decide_eq_true h0) (of_decide_eq_true h1) h2 c0 c1 c2 cov_15 w
      · rw [h2] at c0
        exact core_d off n _ _ _ _ h0 h1 (of_decide_eq_true h0) (of_decide_eq_true h1) h2 c0 c1 c2 cov_15 w

set_option maxRecDepth 100000 in
theorem lifted (os : Os) (started : os.Started) (H : Type) (enc : TypeId × Value → H) :
    ReturnsInHanded {} Try.checked os 3 .any (Rows.tagsCoversSpec.pre6 enc Try.prog Try.f3 Rows.tagsCoversRow.domain false) (Rows.tagsCoversSpec.post enc Try.prog Try.f3 false true false false) := by
  refine law_lift (C := Try.checked) (tb := 4) started (by kernel_rfl) (by kernel_rfl) Try.func3 rfl rfl Try.underlying4 (by kernel_rfl) (by kernel_rfl)
    (fun ds h => by match ds, h with | [_, _], _ => rfl)
    (ChangeSpec.witness6 (enc := enc) (C := Try.checked) false ⟨#[], #[.int .i64 0, .int .i64 0], []⟩ 8 (by kernel_rfl) (by kernel_rfl) (by kernel_rfl) (by kernel_rfl)) ?_
  intro W base args ds ps hval hA hlt hfz hsz
  rw [Try.params3] at hA hval hsz
  obtain ⟨v0, v1, d0, d1, p0, p1, rfl, rfl, rfl, h0, h1⟩ := trodAll_two hA
  obtain ⟨off, rfl, rfl, rfl, w0⟩ := open_int Try.underlying3 (hval 0 _ v0 rfl rfl) h0
  obtain ⟨n, rfl, rfl, rfl, w1⟩ := open_int Try.underlying3 (hval 1 _ v1 rfl rfl) h1
  exact walk off n ((wf_i64 off).1 w0) ((wf_i64 n).1 w1).2 W

theorem over : Rows.tagsCoversRow.holds Try.pinned (OpenSpec.ofChange Rows.tagsCoversSpec) :=
  OpenClaim.holds_of_wide 3 Try.f3 rfl rfl rfl rfl rfl rfl rfl ⟨rfl, rfl, rfl, rfl, rfl⟩ rfl rfl rfl rfl rfl (by kernel_rfl) Try.func3 (by kernel_rfl)
    (of_decide_eq_true (by kernel_rfl)) (by unfold Func.isWrapper; first | (rw [if_pos (by decide +kernel)]; kernel_rfl) | (rw [if_neg (by decide +kernel)]; exact ⟨rfl, rfl⟩))
    (fun os started H enc _ => lifted os started H enc)

theorem proved : Rows.TagsCoversSaid := over
end Go.Proofs.Ytfbkfbmfeaajkaa.Covers
