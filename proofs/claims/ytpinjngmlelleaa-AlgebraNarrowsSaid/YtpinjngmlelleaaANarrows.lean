
/-
  AlgebraNarrows: whatever is done with a capability, but unsealing, what has a tag at last is within it, or within one that it was built from; and it is right. Every input.
-/
import Derived.Test.YtpinjngmlelleaaRows
import Derived.Test.YtpinjngmlelleaaLaw
import Derived.Test.YtpinjngmlelleaaAlgebraLaw
import Derived.Test.YtpinjngmlelleaaANarrowsS
import Derived.Test.YtpinjngmlelleaaANarrowsL
namespace Go.Proofs.Ytpinjngmlelleaa.Narrows
open Go Go.RowKit Go.ChangeShapes Go.WideShapes Go.ChangeAt
set_option linter.unusedVariables false
set_option linter.unusedSimpArgs false

attribute [local go_sem 3000] cap_tag cap_neq
set_option maxHeartbeats 8000000 in
set_option maxRecDepth 100000 in
theorem core_0f (m a : BitVec 64) (ad : Option Addr) (cap : Nat) (w : World) : Calls Try.prog 7 #[.agg #[.bool false, .int .u64 (U m), .int .u64 (U a)], .slice ad 0 cap] w fun r w' => r = .returned (.bool true) ∧ Below w.heap.size w w' := by
  go_enter Try.func7, Try.ntmps7
  go_wp2_with fail
  refine wp_loop_rounds 1 ?_
  rw [rounds_succ]
  go_wp2_with (first | (go_at_call 19; (with_reducible refine (one6_any _).mono ?_); rintro e w' ⟨rfl, hbl⟩; obtain ⟨hcw, hfw, hsw⟩ := below_ifs hbl; (try simp only [World.size_alloc, World.size_setCell, World.size_drew, size_drewN_] at hcw hfw hsw)))
  go_ret
  exact ⟨rfl, by (repeat (first | with_reducible exact Below.refl _ _ | with_reducible assumption | with_reducible refine below_drewN ?_ _ | with_reducible refine Below.drew ?_ | with_reducible refine below_alloc ?_ _ | (with_reducible refine Below.setCell ?_ (by first | (simp; done) | omega | (simp; omega)) _) | with_reducible refine belows ?_ (by assumption)))⟩
set_option maxHeartbeats 8000000 in
set_option maxRecDepth 100000 in
theorem core_0t (m a : BitVec 64) (ad : Option Addr) (cap : Nat) (w : World) (hR : rtF m a = true) : Calls Try.prog 7 #[.agg #[.bool true, .int .u64 (U m), .int .u64 (U a)], .slice ad 0 cap] w fun r w' => r = .returned (.bool true) ∧ Below w.heap.size w w' := by
  have cR : ∀ w : World, Calls Try.prog 37 #[.agg #[.bool true, .int .u64 (U m), .int .u64 (U a)]] w fun r w' => r = .returned (.bool true) ∧ Below w.heap.size w w' := fun w => (right_any true m a w).mono fun _ _ q => ⟨by rw [q.1, hR], q.2⟩
  clear hR
  go_enter Try.func7, Try.ntmps7
  go_wp2_with (first | (go_at_call 37; (with_reducible refine (cR _).mono ?_); rintro e w' ⟨rfl, hbl⟩; obtain ⟨hcw, hfw, hsw⟩ := below_ifs hbl; (try simp only [World.size_alloc, World.size_setCell, World.size_drew, size_drewN_] at hcw hfw hsw)))
  refine wp_loop_rounds 1 ?_
  rw [rounds_succ]
  go_wp2_with (first | (go_at_call 19; (with_reducible refine (one6_any _).mono ?_); rintro e w' ⟨rfl, hbl⟩; obtain ⟨hcw, hfw, hsw⟩ := below_ifs hbl; (try simp only [World.size_alloc, World.size_setCell, World.size_drew, size_drewN_] at hcw hfw hsw)))
  go_ret
  exact ⟨rfl, by (repeat (first | with_reducible exact Below.refl _ _ | with_reducible assumption | with_reducible refine below_drewN ?_ _ | with_reducible refine Below.drew ?_ | with_reducible refine below_alloc ?_ _ | (with_reducible refine Below.setCell ?_ (by first | (simp; done) | omega | (simp; omega)) _) | with_reducible refine belows ?_ (by assumption)))⟩
set_option maxHeartbeats 8000000 in
set_option maxRecDepth 100000 in
theorem bad_0 (m a : BitVec 64) (ad : Option Addr) (cap : Nat) (w : World) (hR : rtF m a = false) : Calls Try.prog 7 #[.agg #[.bool true, .int .u64 (U m), .int .u64 (U a)], .slice ad 0 cap] w fun r w' => r = .returned (.bool true) ∧ Below w.heap.size w w' := by
  have cR : ∀ w : World, Calls Try.prog 37 #[.agg #[.bool true, .int .u64 (U m), .int .u64 (U a)]] w fun r w' => r = .returned (.bool false) ∧ Below w.heap.size w w' := fun w => (right_any true m a w).mono fun _ _ q => ⟨by rw [q.1, hR], q.2⟩
  have cA : ∀ w : World, Calls Try.prog 12 #[.agg #[.bool true, .int .u64 (U m), .int .u64 (U a)], .int .u64 (U a)] w fun r w' => r = .returned (.agg #[.bool false, .int .u64 (U m), .int .u64 (U a)]) ∧ Below w.heap.size w w' := fun w => (address_any true m a a w).mono fun _ _ q => ⟨by rw [q.1, show opF true m a = false by unfold opF; rw [hR]; rfl]; rfl, q.2⟩
  clear hR
  go_enter Try.func7, Try.ntmps7
  go_wp2_with (first | (go_at_call 37; (with_reducible refine (cR _).mono ?_); rintro e w' ⟨rfl, hbl⟩; obtain ⟨hcw, hfw, hsw⟩ := below_ifs hbl; (try simp only [World.size_alloc, World.size_setCell, World.size_drew, size_drewN_] at hcw hfw hsw)) | (go_at_call 12; (with_reducible refine (cA _).mono ?_); rintro e w' ⟨rfl, hbl⟩; obtain ⟨hcw, hfw, hsw⟩ := below_ifs hbl; (try simp only [World.size_alloc, World.size_setCell, World.size_drew, size_drewN_] at hcw hfw hsw)) | (go_at_call 19; (with_reducible refine (one6_any _).mono ?_); rintro e w' ⟨rfl, hbl⟩; obtain ⟨hcw, hfw, hsw⟩ := below_ifs hbl; (try simp only [World.size_alloc, World.size_setCell, World.size_drew, size_drewN_] at hcw hfw hsw)))
  go_ret
  exact ⟨rfl, by (repeat (first | with_reducible exact Below.refl _ _ | with_reducible assumption | with_reducible refine below_drewN ?_ _ | with_reducible refine Below.drew ?_ | with_reducible refine below_alloc ?_ _ | (with_reducible refine Below.setCell ?_ (by first | (simp; done) | omega | (simp; omega)) _) | with_reducible refine belows ?_ (by assumption)))⟩
set_option maxHeartbeats 8000000 in
set_option maxRecDepth 100000 in
theorem bad_s (m a : BitVec 64) (b off len cap : Nat) (hl : (len : Int) ≤ 60) (hlc : len ≤ cap) (hcm : cap ≤ maxLen) (w : World) (hR : rtF m a = false) : Calls Try.prog 7 #[.agg #[.bool true, .int .u64 (U m), .int .u64 (U a)], .slice (some ⟨b, off, none⟩) len cap] w fun r w' => r = .returned (.bool true) ∧ Below w.heap.size w w' := by
  unfold maxLen at hcm
  have cR : ∀ w : World, Calls Try.prog 37 #[.agg #[.bool true, .int .u64 (U m), .int .u64 (U a)]] w fun r w' => r = .returned (.bool false) ∧ Below w.heap.size w w' := fun w => (right_any true m a w).mono fun _ _ q => ⟨by rw [q.1, hR], q.2⟩
  have cA : ∀ w : World, Calls Try.prog 12 #[.agg #[.bool true, .int .u64 (U m), .int .u64 (U a)], .int .u64 (U a)] w fun r w' => r = .returned (.agg #[.bool false, .int .u64 (U m), .int .u64 (U a)]) ∧ Below w.heap.size w w' := fun w => (address_any true m a a w).mono fun _ _ q => ⟨by rw [q.1, show opF true m a = false by unfold opF; rw [hR]; rfl]; rfl, q.2⟩
  clear hR
  go_enter Try.func7, Try.ntmps7
  go_wp2_with (first | (go_at_call 37; (with_reducible refine (cR _).mono ?_); rintro e w' ⟨rfl, hbl⟩; obtain ⟨hcw, hfw, hsw⟩ := below_ifs hbl; (try simp only [World.size_alloc, World.size_setCell, World.size_drew, size_drewN_] at hcw hfw hsw)) | (go_at_call 12; (with_reducible refine (cA _).mono ?_); rintro e w' ⟨rfl, hbl⟩; obtain ⟨hcw, hfw, hsw⟩ := below_ifs hbl; (try simp only [World.size_alloc, World.size_setCell, World.size_drew, size_drewN_] at hcw hfw hsw)) | (go_at_call 19; (with_reducible refine (one6_any _).mono ?_); rintro e w' ⟨rfl, hbl⟩; obtain ⟨hcw, hfw, hsw⟩ := below_ifs hbl; (try simp only [World.size_alloc, World.size_setCell, World.size_drew, size_drewN_] at hcw hfw hsw)))
  go_ret
  exact ⟨rfl, by (repeat (first | with_reducible exact Below.refl _ _ | with_reducible assumption | with_reducible refine below_drewN ?_ _ | with_reducible refine Below.drew ?_ | with_reducible refine below_alloc ?_ _ | (with_reducible refine Below.setCell ?_ (by first | (simp; done) | omega | (simp; omega)) _) | with_reducible refine belows ?_ (by assumption)))⟩
set_option maxHeartbeats 8000000 in
set_option maxRecDepth 100000 in
theorem bad_l (m a : BitVec 64) (b off len cap : Nat) (hl : 60 < (len : Int)) (hlc : len ≤ cap) (hcm : cap ≤ maxLen) (w : World) (hR : rtF m a = false) : Calls Try.prog 7 #[.agg #[.bool true, .int .u64 (U m), .int .u64 (U a)], .slice (some ⟨b, off, none⟩) len cap] w fun r w' => r = .returned (.bool true) ∧ Below w.heap.size w w' := by
  unfold maxLen at hcm
  have cR : ∀ w : World, Calls Try.prog 37 #[.agg #[.bool true, .int .u64 (U m), .int .u64 (U a)]] w fun r w' => r = .returned (.bool false) ∧ Below w.heap.size w w' := fun w => (right_any true m a w).mono fun _ _ q => ⟨by rw [q.1, hR], q.2⟩
  have cA : ∀ w : World, Calls Try.prog 12 #[.agg #[.bool true, .int .u64 (U m), .int .u64 (U a)], .int .u64 (U a)] w fun r w' => r = .returned (.agg #[.bool false, .int .u64 (U m), .int .u64 (U a)]) ∧ Below w.heap.size w w' := fun w => (address_any true m a a w).mono fun _ _ q => ⟨by rw [q.1, show opF true m a = false by unfold opF; rw [hR]; rfl]; rfl, q.2⟩
  clear hR
  go_enter Try.func7, Try.ntmps7
  go_wp2_with (first | (go_at_call 37; (with_reducible refine (cR _).mono ?_); rintro e w' ⟨rfl, hbl⟩; obtain ⟨hcw, hfw, hsw⟩ := below_ifs hbl; (try simp only [World.size_alloc, World.size_setCell, World.size_drew, size_drewN_] at hcw hfw hsw)) | (go_at_call 12; (with_reducible refine (cA _).mono ?_); rintro e w' ⟨rfl, hbl⟩; obtain ⟨hcw, hfw, hsw⟩ := below_ifs hbl; (try simp only [World.size_alloc, World.size_setCell, World.size_drew, size_drewN_] at hcw hfw hsw)) | (go_at_call 19; (with_reducible refine (one6_any _).mono ?_); rintro e w' ⟨rfl, hbl⟩; obtain ⟨hcw, hfw, hsw⟩ := below_ifs hbl; (try simp only [World.size_alloc, World.size_setCell, World.size_drew, size_drewN_] at hcw hfw hsw)))
  go_ret
  exact ⟨rfl, by (repeat (first | with_reducible exact Below.refl _ _ | with_reducible assumption | with_reducible refine below_drewN ?_ _ | with_reducible refine Below.drew ?_ | with_reducible refine below_alloc ?_ _ | (with_reducible refine Below.setCell ?_ (by first | (simp; done) | omega | (simp; omega)) _) | with_reducible refine belows ?_ (by assumption)))⟩

theorem walk_n (g : Bool) (m a : BitVec 64) (ad : Option Addr) (cap : Nat) (w : World) : Calls Try.prog 7 #[.agg #[.bool g, .int .u64 (U m), .int .u64 (U a)], .slice ad 0 cap] w fun r w' => r = .returned (.bool true) ∧ Below w.heap.size w w' := by
  cases hR : rtF m a
  · cases g
    · exact core_0f m a ad cap w
    · exact bad_0 m a ad cap w hR
  · cases g
    · exact core_0f m a ad cap w
    · exact core_0t m a ad cap w hR
theorem walk_l (g : Bool) (m a : BitVec 64) (b off len cap : Nat) (w : World) (hb : b < w.heap.size) (hlc : len ≤ cap) (hcm : cap ≤ maxLen) (hc : (∀ i, i < len → ∃ (kd : Int) (nn : BitVec 64) (x h : Bool) (wm wa : BitVec 64), w.cell? ⟨b, off + (i * 6 + 0), none⟩ = some (.int .i64 kd) ∧ w.cell? ⟨b, off + (i * 6 + 1), none⟩ = some (.int .u64 (U nn)) ∧ w.cell? ⟨b, off + (i * 6 + 2), none⟩ = some (.bool x) ∧ w.cell? ⟨b, off + (i * 6 + 3), none⟩ = some (.bool h) ∧ w.cell? ⟨b, off + (i * 6 + 4), none⟩ = some (.int .u64 (U wm)) ∧ w.cell? ⟨b, off + (i * 6 + 5), none⟩ = some (.int .u64 (U wa)))) : Calls Try.prog 7 #[.agg #[.bool g, .int .u64 (U m), .int .u64 (U a)], .slice (some ⟨b, off, none⟩) len cap] w fun r w' => r = .returned (.bool true) ∧ Below w.heap.size w w' := by
  by_cases hl : (len : Int) ≤ 60
  · cases g
    · exact core_sf m a b off len cap w hb hl hlc hcm hc
    · cases hR : rtF m a
      · exact bad_s m a b off len cap hl hlc hcm w hR
      · exact core_st m a b off len cap w hR hb hl hlc hcm hc
  · have hl' : 60 < (len : Int) := by omega
    cases g
    · exact core_lf m a b off len cap w hb hl' hlc hcm hc
    · cases hR : rtF m a
      · exact bad_l m a b off len cap hl' hlc hcm w hR
      · exact core_lt m a b off len cap w hR hb hl' hlc hcm hc

set_option maxRecDepth 100000 in
theorem lifted (os : Os) (started : os.Started) (H : Type) (enc : TypeId × Value → H) :
    ReturnsInHanded {} Try.checked os 7 .any (Rows.algebraNarrowsSpec.pre6 enc Try.prog Try.f7 Rows.algebraNarrowsRow.domain false) (Rows.algebraNarrowsSpec.post enc Try.prog Try.f7 false true false false) := by
  refine law_lift (C := Try.checked) (tb := 4) started (by kernel_rfl) (by kernel_rfl) Try.func7 rfl rfl Try.underlying4 (by kernel_rfl) (by kernel_rfl)
    (fun ds h => by match ds, h with | [_, _], _ => rfl)
    (ChangeSpec.witness6 (enc := enc) (C := Try.checked) false ⟨#[], #[.agg #[.bool false, .int .u64 0, .int .u64 0], .slice none 0 0], []⟩ 8 (by kernel_rfl) (by kernel_rfl) (by kernel_rfl) (by kernel_rfl)) ?_
  intro W base args ds ps hval hA hlt hfz hsz
  rw [Try.params7] at hA hval hsz
  obtain ⟨v0, v1, d0, d1, p0, p1, rfl, rfl, rfl, h0, h1⟩ := trodAll_two hA
  obtain ⟨g, nx0, wx0, nx1, wx1, rfl⟩ := open_leaves (d := 5) (ls := [.bool, .int .u64, .int .u64]) (by kernel_rfl) (by kernel_rfl) (hval 0 _ v0 rfl rfl) h0
  obtain ⟨m, rfl⟩ := exists_U nx0 wx0
  obtain ⟨a, rfl⟩ := exists_U nx1 wx1
  rcases open_elems (d := 5) (ls := [.int .i64, .int .u64, .bool, .bool, .int .u64, .int .u64]) Try.underlying49 (by kernel_rfl) (by kernel_rfl) (by decide) (hval 1 _ v1 rfl rfl) h1 with ⟨ad, cap, rfl, -⟩ | ⟨b, off, len, cap, rfl, hpos, hlc, hcm, hb, hc⟩
  · exact walk_n g m a ad cap W
  · refine walk_l g m a b off len cap W hb hlc hcm ?_
    intro i hi
    obtain ⟨kd, -, n1, q1, x, h, n2, q2, n3, q3, hcell⟩ := hc i hi
    obtain ⟨nn, rfl⟩ := exists_U n1 q1
    obtain ⟨wm, rfl⟩ := exists_U n2 q2
    obtain ⟨wa, rfl⟩ := exists_U n3 q3
    exact ⟨kd, nn, x, h, wm, wa, hcell 0 (by decide), hcell 1 (by decide), hcell 2 (by decide), hcell 3 (by decide), hcell 4 (by decide), hcell 5 (by decide)⟩

theorem over : Rows.algebraNarrowsRow.holds Try.pinned (OpenSpec.ofChange Rows.algebraNarrowsSpec) :=
  OpenClaim.holds_of_wide 7 Try.f7 rfl rfl rfl rfl rfl rfl rfl ⟨rfl, rfl, rfl, rfl, rfl⟩ rfl rfl rfl rfl rfl (by kernel_rfl) Try.func7 (by kernel_rfl)
    (of_decide_eq_true (by kernel_rfl)) (by unfold Func.isWrapper; first | (rw [if_pos (by decide +kernel)]; kernel_rfl) | (rw [if_neg (by decide +kernel)]; exact ⟨rfl, rfl⟩))
    (fun os started H enc _ => lifted os started H enc)

theorem proved : Rows.AlgebraNarrowsSaid := over
end Go.Proofs.Ytpinjngmlelleaa.Narrows
