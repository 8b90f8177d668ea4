
/-
  BoundsWithin: a span is within the one that is kept for it, which is longer by less than two steps; what is kept is kept as it is. Every input.
-/
import Derived.Test.YtjhekfcnoofaaaaRows
import Derived.Test.YtjhekfcnoofaaaaLaw
import Derived.Test.YtjhekfcnoofaaaaBoundsW
import Derived.Test.YtjhekfcnoofaaaaBoundsL
import Derived.Outline
namespace Go.Proofs.Ytjhekfcnoofaaaa.Within
open Go Go.RowKit Go.ChangeShapes Go.WideShapes Go.ChangeAt
set_option linter.unusedVariables false
set_option linter.unusedSimpArgs false

theorem span_any (a b : BitVec 64) (w : World) : Calls Try.prog 15 #[.int .u64 (U a), .int .u64 (U b)] w fun r w' => r = .returned (.agg #[.int .u64 (U (lowS a b)), .int .u64 (U (highS a b))]) ∧ Below w.heap.size w w' := by
  unfold lowS highS
  by_cases h : U (a % 281474976710657#64) ≤ U (b % 281474976710657#64)
  · rw [if_pos h, if_pos h]
    go_enter Try.func15, Try.ntmps15
    go_wp2_with fail
    refine bodyPost_ret (results_c [.int .u64 (U (a % 281474976710657#64)), .int .u64 (U (b % 281474976710657#64))] Try.results15 rfl ?_ Try.underlying29 rfl (by kernel_rfl)) rfl ?_
    · (first | (go_simp; done) | (go_simp; (simp [↓IntWalk.iteOmega]; done)) | (go_simp; intros; omega) | (go_simp; simp [↓IntWalk.iteOmega]; intros; omega))
    · exact ⟨rfl, by (repeat (first | with_reducible exact Below.refl _ _ | with_reducible assumption | with_reducible refine below_drewN ?_ _ | with_reducible refine Below.drew ?_ | with_reducible refine below_alloc ?_ _ | (with_reducible refine Below.setCell ?_ (by first | (simp; done) | omega | (simp; omega)) _) | with_reducible refine belows ?_ (by assumption)))⟩
  · rw [if_neg h, if_neg h]
    have h' : U (b % 281474976710657#64) < U (a % 281474976710657#64) := by omega
    clear h
    go_enter Try.func15, Try.ntmps15
    go_wp2_with fail
    refine bodyPost_ret (results_c [.int .u64 (U (b % 281474976710657#64)), .int .u64 (U (a % 281474976710657#64))] Try.results15 rfl ?_ Try.underlying29 rfl (by kernel_rfl)) rfl ?_
    · (first | (go_simp; done) | (go_simp; (simp [↓IntWalk.iteOmega]; done)) | (go_simp; intros; omega) | (go_simp; simp [↓IntWalk.iteOmega]; intros; omega))
    · exact ⟨rfl, by (repeat (first | with_reducible exact Below.refl _ _ | with_reducible assumption | with_reducible refine below_drewN ?_ _ | with_reducible refine Below.drew ?_ | with_reducible refine below_alloc ?_ _ | (with_reducible refine Below.setCell ?_ (by first | (simp; done) | omega | (simp; omega)) _) | with_reducible refine belows ?_ (by assumption)))⟩
theorem length_lit (w : World) : Calls Try.prog 18 #[.int .u64 4096] w fun r w' => r = .returned (.tuple #[.int .u64 4096, .bool true]) ∧ Below w.heap.size w w' := by
  have h := length_any 4096#64 w
  rw [show rndT 0#64 4096#64 = 4096#64 by decide, show mayS 0#64 4096#64 = true by decide] at h
  exact h
theorem encode_b {b t : BitVec 64} (h : mayS b t = true) (w : World) : Calls Try.prog 17 #[.agg #[.int .u64 (U b), .int .u64 (U t)]] w fun r w' => r = .returned (.tuple #[.agg #[.int .u64 (U (fB b t)), .int .u64 (U (fT b t)), .int .u64 (U (kE b t))], .bool (kB b t == b && kT b t == t)]) ∧ Below w.heap.size w w' := encode_yes b t h w
set_option maxHeartbeats 8000000 in
set_option maxRecDepth 100000 in
theorem walk_s (a b s t : BitVec 64) (hs : lowS a b = s) (ht : highS a b = t) (hm : mayS s t = true) (w : World) :
    Calls Try.prog 5 #[.int .u64 (U a), .int .u64 (U b)] w fun r w' => r = .returned (.bool true) ∧ Below w.heap.size w w' := by
  have cs : ∀ w : World, Calls Try.prog 15 #[.int .u64 (U a), .int .u64 (U b)] w fun r w' => r = .returned (.agg #[.int .u64 (U s), .int .u64 (U t)]) ∧ Below w.heap.size w w' := fun w => (span_any a b w).mono fun _ _ g => ⟨by rw [g.1, hs, ht], g.2⟩
  obtain ⟨a1, a2, a3, a4, a5, a6⟩ := kept_again hm
  obtain ⟨n1, n2, n3, n4⟩ := kept_near hm
  have ca : ∀ w : World, Calls Try.prog 16 #[.agg #[.int .u64 (U (kB s t)), .int .u64 (U (kT s t))]] w fun r w' => r = .returned (.tuple #[.agg #[.int .u64 (U (kB s t)), .int .u64 (U (kT s t))], .bool true]) ∧ Below w.heap.size w w' := fun w => (rounded_yes _ _ a1 w).mono fun _ _ g => ⟨by rw [g.1, a2, a3], g.2⟩
  have ce : ∀ w : World, Calls Try.prog 17 #[.agg #[.int .u64 (U (kB s t)), .int .u64 (U (kT s t))]] w fun r w' => r = .returned (.tuple #[.agg #[.int .u64 (U (fB s t)), .int .u64 (U (fT s t)), .int .u64 (U (kE s t))], .bool true]) ∧ Below w.heap.size w w' := fun w => (encode_yes _ _ a1 w).mono fun _ _ g => ⟨by rw [g.1, a2, a3, a4, a5, a6]; simp, g.2⟩
  clear hs ht a1 a2 a3 a4 a5 a6
  rcases kE_S hm with ⟨k0, x0, b0, t0⟩ | ⟨k1, k2, -⟩
  · have cr : ∀ w : World, Calls Try.prog 16 #[.agg #[.int .u64 (U s), .int .u64 (U t)]] w fun r w' => r = .returned (.tuple #[.agg #[.int .u64 (U s), .int .u64 (U t)], .bool true]) ∧ Below w.heap.size w w' := fun w => (rounded_yes s t hm w).mono fun _ _ g => ⟨by rw [g.1, b0, t0], g.2⟩
    have ci : ∀ w : World, Calls Try.prog 17 #[.agg #[.int .u64 (U s), .int .u64 (U t)]] w fun r w' => r = .returned (.tuple #[.agg #[.int .u64 (U (fB s t)), .int .u64 (U (fT s t)), .int .u64 0], .bool true]) ∧ Below w.heap.size w w' := fun w => (encode_yes s t hm w).mono fun _ _ g => ⟨by rw [g.1, k0, b0, t0]; simp; rfl, g.2⟩
    clear ca ce hm k0 x0 b0 t0 n1 n2 n3 n4
    go_enter Try.func5, Try.ntmps5
    go_wp2_with (first | (go_at_call 18; (with_reducible refine (length_lit _).mono ?_); rintro e w' ⟨rfl, hbl⟩; obtain ⟨hcw, hfw, hsw⟩ := below_ifs hbl; (try simp only [World.size_alloc, World.size_setCell, size_drewN_] at hcw hfw hsw)) | (go_at_call 15; (with_reducible refine (cs _).mono ?_); rintro e w' ⟨rfl, hbl⟩; obtain ⟨hcw, hfw, hsw⟩ := below_ifs hbl; (try simp only [World.size_alloc, World.size_setCell, size_drewN_] at hcw hfw hsw)) | (go_at_call 16; (with_reducible refine (cr _).mono ?_); rintro e w' ⟨rfl, hbl⟩; obtain ⟨hcw, hfw, hsw⟩ := below_ifs hbl; (try simp only [World.size_alloc, World.size_setCell, size_drewN_] at hcw hfw hsw)) | (go_at_call 17; (with_reducible refine (ci _).mono ?_); rintro e w' ⟨rfl, hbl⟩; obtain ⟨hcw, hfw, hsw⟩ := below_ifs hbl; (try simp only [World.size_alloc, World.size_setCell, size_drewN_] at hcw hfw hsw)))
    go_ret
    exact ⟨rfl, by (repeat (first | with_reducible exact Below.refl _ _ | with_reducible assumption | with_reducible refine below_drewN ?_ _ | with_reducible refine Below.drew ?_ | with_reducible refine below_alloc ?_ _ | (with_reducible refine Below.setCell ?_ (by first | (simp; done) | omega | (simp; omega)) _) | with_reducible refine belows ?_ (by assumption)))⟩
  · have cr : ∀ w : World, Calls Try.prog 16 #[.agg #[.int .u64 (U s), .int .u64 (U t)]] w fun r w' => r = .returned (.tuple #[.agg #[.int .u64 (U (kB s t)), .int .u64 (U (kT s t))], .bool true]) ∧ Below w.heap.size w w' := fun w => rounded_yes s t hm w
    have ci : ∀ w : World, Calls Try.prog 17 #[.agg #[.int .u64 (U s), .int .u64 (U t)]] w fun r w' => r = .returned (.tuple #[.agg #[.int .u64 (U (fB s t)), .int .u64 (U (fT s t)), .int .u64 (U (kE s t))], .bool (kB s t == s && kT s t == t)]) ∧ Below w.heap.size w w' := fun w => encode_yes s t hm w
    have h36 : (kX s t : Int) ≤ 36 := by have := kX_le hm; omega
    have hq : (U (BitVec.ofNat 64 (kX s t))).toNat = kX s t := by unfold U; simp; omega
    generalize kX s t = x at *
    clear hm
    go_enter Try.func5, Try.ntmps5
    go_wp2_with (first | (go_at_call 18; (with_reducible refine (length_lit _).mono ?_); rintro e w' ⟨rfl, hbl⟩; obtain ⟨hcw, hfw, hsw⟩ := below_ifs hbl; (try simp only [World.size_alloc, World.size_setCell, size_drewN_] at hcw hfw hsw)) | (go_at_call 15; (with_reducible refine (cs _).mono ?_); rintro e w' ⟨rfl, hbl⟩; obtain ⟨hcw, hfw, hsw⟩ := below_ifs hbl; (try simp only [World.size_alloc, World.size_setCell, size_drewN_] at hcw hfw hsw)) | (go_at_call 16; (with_reducible refine (cr _).mono ?_); rintro e w' ⟨rfl, hbl⟩; obtain ⟨hcw, hfw, hsw⟩ := below_ifs hbl; (try simp only [World.size_alloc, World.size_setCell, size_drewN_] at hcw hfw hsw)) | (go_at_call 16; (with_reducible refine (ca _).mono ?_); rintro e w' ⟨rfl, hbl⟩; obtain ⟨hcw, hfw, hsw⟩ := below_ifs hbl; (try simp only [World.size_alloc, World.size_setCell, size_drewN_] at hcw hfw hsw)) | (go_at_call 17; (with_reducible refine (ci _).mono ?_); rintro e w' ⟨rfl, hbl⟩; obtain ⟨hcw, hfw, hsw⟩ := below_ifs hbl; (try simp only [World.size_alloc, World.size_setCell, size_drewN_] at hcw hfw hsw)) | (go_at_call 17; (with_reducible refine (ce _).mono ?_); rintro e w' ⟨rfl, hbl⟩; obtain ⟨hcw, hfw, hsw⟩ := below_ifs hbl; (try simp only [World.size_alloc, World.size_setCell, size_drewN_] at hcw hfw hsw)))
    go_ret
    exact ⟨rfl, by (repeat (first | with_reducible exact Below.refl _ _ | with_reducible assumption | with_reducible refine below_drewN ?_ _ | with_reducible refine Below.drew ?_ | with_reducible refine below_alloc ?_ _ | (with_reducible refine Below.setCell ?_ (by first | (simp; done) | omega | (simp; omega)) _) | with_reducible refine belows ?_ (by assumption)))⟩
theorem walk (a b : BitVec 64) (w : World) : Calls Try.prog 5 #[.int .u64 (U a), .int .u64 (U b)] w fun r w' => r = .returned (.bool true) ∧ Below w.heap.size w w' :=
  walk_s a b _ _ rfl rfl (may_span a b) w

set_option maxRecDepth 100000 in
theorem lifted (os : Os) (started : os.Started) (H : Type) (enc : TypeId × Value → H) :
    ReturnsInHanded {} Try.checked os 5 .any (Rows.boundsWithinSpec.pre6 enc Try.prog Try.f5 Rows.boundsWithinRow.domain false) (Rows.boundsWithinSpec.post enc Try.prog Try.f5 false true false false) := by
  refine law_lift (C := Try.checked) (tb := 4) started (by kernel_rfl) (by kernel_rfl) Try.func5 rfl rfl Try.underlying4 (by kernel_rfl) (by kernel_rfl)
    (fun ds h => by match ds, h with | [_, _], _ => rfl)
    (ChangeSpec.witness6 (enc := enc) (C := Try.checked) false ⟨#[], #[.int .u64 0, .int .u64 0], []⟩ 8 (by kernel_rfl) (by kernel_rfl) (by kernel_rfl) (by kernel_rfl)) ?_
  intro W base args ds ps hval hA hlt hfz hsz
  rw [Try.params5] at hA hval hsz
  obtain ⟨v0, v1, d0, d1, p0, p1, rfl, rfl, rfl, h0, h1⟩ := trodAll_two hA
  obtain ⟨a1, rfl, rfl, rfl, w1⟩ := open_int Try.underlying22 (hval 0 _ v0 rfl rfl) h0
  obtain ⟨a2, rfl, rfl, rfl, w2⟩ := open_int Try.underlying22 (hval 1 _ v1 rfl rfl) h1
  obtain ⟨x, rfl⟩ := exists_U a1 w1
  obtain ⟨y, rfl⟩ := exists_U a2 w2
  exact walk x y W

theorem over : Rows.boundsWithinRow.holds Try.pinned (OpenSpec.ofChange Rows.boundsWithinSpec) :=
  OpenClaim.holds_of_wide 5 Try.f5 rfl rfl rfl rfl rfl rfl rfl ⟨rfl, rfl, rfl, rfl, rfl⟩ rfl rfl rfl rfl rfl (by kernel_rfl) Try.func5 (by kernel_rfl)
    (of_decide_eq_true (by kernel_rfl)) (by unfold Func.isWrapper; first | (rw [if_pos (by decide +kernel)]; kernel_rfl) | (rw [if_neg (by decide +kernel)]; exact ⟨rfl, rfl⟩))
    (fun os started H enc _ => lifted os started H enc)

theorem proved : Rows.BoundsWithinSaid := over
end Go.Proofs.Ytjhekfcnoofaaaa.Within
