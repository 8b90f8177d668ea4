
/-
  BoundsGrow: what is kept for a span is within what is kept for one that it is within; a longer length is kept by no shorter one, and asks for no fewer zeros. Every input.
-/
import Derived.Test.YtjhekfcnoofaaaaRows
import Derived.Test.YtjhekfcnoofaaaaLaw
import Derived.Test.YtjhekfcnoofaaaaBoundsW
import Derived.Test.YtjhekfcnoofaaaaBoundsL
import Derived.Outline
namespace Go.Proofs.Ytjhekfcnoofaaaa.Grow
open Go Go.RowKit Go.ChangeShapes Go.WideShapes Go.ChangeAt
set_option linter.unusedVariables false
set_option linter.unusedSimpArgs false

theorem span_any (a b : BitVec 64) (w : World) : Calls Try.prog 15 #[.int .u64 (U a), .int .u64 (U b)] w fun r w' => r = .returned (.agg #[.int .u64 (U (lowS a b)), .int .u64 (U (highS a b))]) ∧ Below w.heap.size w w' := by
  unfold lowS highS
  by_cases h : U (a % 281474976710657#64) ≤ U (b % 281474976710657#64)
  · rw [if_pos h, if_pos h]
    go_enter Try.func15, Try.ntmps15
    go_wp2_with fail
    refine bodyPost_ret (results_c [.int .u64 (U (a % 281474976710657#64)), .int .u64 (U (b % 281474976710657#64))] Try.results15 rfl ?_ Try.underlying29 rfl (by kernel_rfl)) rfl ?_
    · (first | (go_simp; done) | (go_simp; (simp [↓IntWalk.iteOmega]; done)) | (go_simp; intros; omega) | (go_simp; simp [↓IntWalk.iteOmega]; intros; omega))
    · exact ⟨rfl, by (repeat (first | with_reducible exact Below.refl _ _ | with_reducible assumption | with_reducible refine below_drewN ?_ _ | with_reducible refine Below.drew ?_ | with_reducible refine below_alloc ?_ _ | (with_reducible refine Below.setCell ?_ (by first | (simp; done) | omega | (simp; omega)) _) | with_reducible refine belows ?_ (by assumption)))⟩
  · rw [if_neg h, if_neg h]
    have h' : U (b % 281474976710657#64) < U (a % 281474976710657#64) := by omega
    clear h
    go_enter Try.func15, Try.ntmps15
    go_wp2_with fail
    refine bodyPost_ret (results_c [.int .u64 (U (b % 281474976710657#64)), .int .u64 (U (a % 281474976710657#64))] Try.results15 rfl ?_ Try.underlying29 rfl (by kernel_rfl)) rfl ?_
    · (first | (go_simp; done) | (go_simp; (simp [↓IntWalk.iteOmega]; done)) | (go_simp; intros; omega) | (go_simp; simp [↓IntWalk.iteOmega]; intros; omega))
    · exact ⟨rfl, by (repeat (first | with_reducible exact Below.refl _ _ | with_reducible assumption | with_reducible refine below_drewN ?_ _ | with_reducible refine Below.drew ?_ | with_reducible refine below_alloc ?_ _ | (with_reducible refine Below.setCell ?_ (by first | (simp; done) | omega | (simp; omega)) _) | with_reducible refine belows ?_ (by assumption)))⟩
theorem length_lit (w : World) : Calls Try.prog 18 #[.int .u64 5000] w fun r w' => r = .returned (.tuple #[.int .u64 5000, .bool true]) ∧ Below w.heap.size w w' := by
  have h := length_any 5000#64 w
  rw [show rndT 0#64 5000#64 = 5000#64 by decide, show mayS 0#64 5000#64 = true by decide] at h
  exact h
theorem pick_in {s t : BitVec 64} (hm : mayS s t = true) (l : BitVec 64) : 0 < U (t - s + 1#64) ∧ U s ≤ U (s + l % (t - s + 1#64)) ∧ U (s + l % (t - s + 1#64)) ≤ U t := by
  obtain ⟨h1, h2⟩ := mayS_true hm
  have hn : (t - s + 1#64).toNat = t.toNat - s.toNat + 1 := by
    rw [BitVec.toNat_add, BitVec.toNat_sub_of_le (by rw [BitVec.le_def]; omega)]
    simp only [show (1#64).toNat = 1 from rfl]
    omega
  have hr := Nat.mod_lt l.toNat (show t.toNat - s.toNat + 1 > 0 by omega)
  have e : (s + l % (t - s + 1#64)).toNat = s.toNat + l.toNat % (t.toNat - s.toNat + 1) := by
    rw [BitVec.toNat_add, BitVec.toNat_umod, hn]
    generalize l.toNat % (t.toNat - s.toNat + 1) = r at *
    omega
  unfold U
  rw [e, hn]
  generalize l.toNat % (t.toNat - s.toNat + 1) = r at *
  omega
theorem grow_in {s t u v : BitVec 64} (hm : mayS s t = true) (h1 : U s ≤ U u) (h2 : U u ≤ U v) (h3 : U v ≤ U t) : mayS u v = true ∧ U (kB s t) ≤ U (kB u v) ∧ U (kT u v) ≤ U (kT s t) ∧ U (rndT 0#64 (v - u)) ≤ U (rndT 0#64 (t - s)) ∧ (((encE 0#64 (v - u)).toNat - 1 : Nat) : Int) ≤ (((encE 0#64 (t - s)).toNat - 1 : Nat) : Int) := by
  obtain ⟨m1, m2⟩ := mayS_true hm
  unfold U at *
  have hu : mayS u v = true := by unfold mayS; rw [decide_eq_true (by omega), decide_eq_true (by omega)]; rfl
  have d1 : (v - u).toNat = v.toNat - u.toNat := BitVec.toNat_sub_of_le (by rw [BitVec.le_def]; omega)
  have d2 : (t - s).toNat = t.toNat - s.toNat := BitVec.toNat_sub_of_le (by rw [BitVec.le_def]; omega)
  obtain ⟨k1, k2⟩ := kept_mono (b := u.toNat) (t := v.toNat) (b' := s.toNat) (t' := t.toNat) (by omega) (by omega) (by omega)
  obtain ⟨l1, l2⟩ := length_mono (n := v.toNat - u.toNat) (m := t.toNat - s.toNat) (by omega)
  refine ⟨hu, ?_, ?_, ?_, ?_⟩
  · rw [kB_nat hu, kB_nat hm]; omega
  · rw [kT_nat hu, kT_nat hm]; omega
  · rw [rndT_0 _ (by omega), rndT_0 _ (by omega), d1, d2]; omega
  · rw [encE_0 _ (by omega), encE_0 _ (by omega), d1, d2]; omega
set_option maxHeartbeats 8000000 in
set_option maxRecDepth 100000 in
theorem walk_up (l0 l1 l2 l3 s t p q : BitVec 64) (hs : lowS l0 l1 = s) (ht : highS l0 l1 = t) (hm : mayS s t = true) (hp : s + l2 % (t - s + 1#64) = p) (hq : s + l3 % (t - s + 1#64) = q) (hpq : U p ≤ U q) (w : World) :
    Calls Try.prog 8 #[.agg #[.int .u64 (U l0), .int .u64 (U l1), .int .u64 (U l2), .int .u64 (U l3)]] w fun r w' => r = .returned (.bool true) ∧ Below w.heap.size w w' := by
  have cs : ∀ w : World, Calls Try.prog 15 #[.int .u64 (U l0), .int .u64 (U l1)] w fun r w' => r = .returned (.agg #[.int .u64 (U s), .int .u64 (U t)]) ∧ Below w.heap.size w w' := fun w => (span_any l0 l1 w).mono fun _ _ g => ⟨by rw [g.1, hs, ht], g.2⟩
  obtain ⟨hn, p1, p2⟩ := pick_in hm l2
  obtain ⟨_, q1, q2⟩ := pick_in hm l3
  rw [hp] at p1 p2
  rw [hq] at q1 q2
  obtain ⟨hu, g1, g2, g3, g4⟩ := grow_in (u := p) (v := q) hm (by omega) (by omega) (by omega)
  have cr : ∀ w : World, Calls Try.prog 16 #[.agg #[.int .u64 (U p), .int .u64 (U q)]] w fun r w' => r = .returned (.tuple #[.agg #[.int .u64 (U (kB p q)), .int .u64 (U (kT p q))], .bool true]) ∧ Below w.heap.size w w' := fun w => rounded_yes _ _ hu w
  have ct : ∀ w : World, Calls Try.prog 16 #[.agg #[.int .u64 (U s), .int .u64 (U t)]] w fun r w' => r = .returned (.tuple #[.agg #[.int .u64 (U (kB s t)), .int .u64 (U (kT s t))], .bool true]) ∧ Below w.heap.size w w' := fun w => rounded_yes s t hm w
  clear hs ht hm hu p1 p2 q1 q2
  go_enter Try.func8, Try.ntmps8
  go_wp2_with (first | (go_at_call 15; (with_reducible refine (cs _).mono ?_); rintro e w' ⟨rfl, hbl⟩; obtain ⟨hcw, hfw, hsw⟩ := below_ifs hbl; (try simp only [World.size_alloc, World.size_setCell, World.size_drew, size_drewN_] at hcw hfw hsw)))
  go_region
  go_wp2_with (first | (go_at_call 18; (with_reducible refine (length_lit _).mono ?_); rintro e w' ⟨rfl, hbl⟩; obtain ⟨hcw, hfw, hsw⟩ := below_ifs hbl; (try simp only [World.size_alloc, World.size_setCell, World.size_drew, size_drewN_] at hcw hfw hsw)) | (go_at_call 16; (with_reducible refine (cr _).mono ?_); rintro e w' ⟨rfl, hbl⟩; obtain ⟨hcw, hfw, hsw⟩ := below_ifs hbl; (try simp only [World.size_alloc, World.size_setCell, World.size_drew, size_drewN_] at hcw hfw hsw)) | (go_at_call 16; (with_reducible refine (ct _).mono ?_); rintro e w' ⟨rfl, hbl⟩; obtain ⟨hcw, hfw, hsw⟩ := below_ifs hbl; (try simp only [World.size_alloc, World.size_setCell, World.size_drew, size_drewN_] at hcw hfw hsw)) | (go_at_call 18; (with_reducible refine (length_any _ _).mono ?_); rintro e w' ⟨rfl, hbl⟩; obtain ⟨hcw, hfw, hsw⟩ := below_ifs hbl; (try simp only [World.size_alloc, World.size_setCell, World.size_drew, size_drewN_] at hcw hfw hsw)) | (go_at_call 21; (with_reducible refine (align_any _ _).mono ?_); rintro e w' ⟨rfl, hbl⟩; obtain ⟨hcw, hfw, hsw⟩ := below_ifs hbl; (try simp only [World.size_alloc, World.size_setCell, World.size_drew, size_drewN_] at hcw hfw hsw)))
  go_ret
  exact ⟨rfl, by (repeat (first | with_reducible exact Below.refl _ _ | with_reducible assumption | with_reducible refine below_drewN ?_ _ | with_reducible refine Below.drew ?_ | with_reducible refine below_alloc ?_ _ | (with_reducible refine Below.setCell ?_ (by first | (simp; done) | omega | (simp; omega)) _) | with_reducible refine belows ?_ (by assumption)))⟩
set_option maxHeartbeats 8000000 in
set_option maxRecDepth 100000 in
theorem walk_down (l0 l1 l2 l3 s t p q : BitVec 64) (hs : lowS l0 l1 = s) (ht : highS l0 l1 = t) (hm : mayS s t = true) (hp : s + l2 % (t - s + 1#64) = p) (hq : s + l3 % (t - s + 1#64) = q) (hpq : U q < U p) (w : World) :
    Calls Try.prog 8 #[.agg #[.int .u64 (U l0), .int .u64 (U l1), .int .u64 (U l2), .int .u64 (U l3)]] w fun r w' => r = .returned (.bool true) ∧ Below w.heap.size w w' := by
  have cs : ∀ w : World, Calls Try.prog 15 #[.int .u64 (U l0), .int .u64 (U l1)] w fun r w' => r = .returned (.agg #[.int .u64 (U s), .int .u64 (U t)]) ∧ Below w.heap.size w w' := fun w => (span_any l0 l1 w).mono fun _ _ g => ⟨by rw [g.1, hs, ht], g.2⟩
  obtain ⟨hn, p1, p2⟩ := pick_in hm l2
  obtain ⟨_, q1, q2⟩ := pick_in hm l3
  rw [hp] at p1 p2
  rw [hq] at q1 q2
  obtain ⟨hu, g1, g2, g3, g4⟩ := grow_in (u := q) (v := p) hm (by omega) (by omega) (by omega)
  have cr : ∀ w : World, Calls Try.prog 16 #[.agg #[.int .u64 (U q), .int .u64 (U p)]] w fun r w' => r = .returned (.tuple #[.agg #[.int .u64 (U (kB q p)), .int .u64 (U (kT q p))], .bool true]) ∧ Below w.heap.size w w' := fun w => rounded_yes _ _ hu w
  have ct : ∀ w : World, Calls Try.prog 16 #[.agg #[.int .u64 (U s), .int .u64 (U t)]] w fun r w' => r = .returned (.tuple #[.agg #[.int .u64 (U (kB s t)), .int .u64 (U (kT s t))], .bool true]) ∧ Below w.heap.size w w' := fun w => rounded_yes s t hm w
  clear hs ht hm hu p1 p2 q1 q2
  go_enter Try.func8, Try.ntmps8
  go_wp2_with (first | (go_at_call 15; (with_reducible refine (cs _).mono ?_); rintro e w' ⟨rfl, hbl⟩; obtain ⟨hcw, hfw, hsw⟩ := below_ifs hbl; (try simp only [World.size_alloc, World.size_setCell, World.size_drew, size_drewN_] at hcw hfw hsw)))
  go_region
  go_wp2_with (first | (go_at_call 18; (with_reducible refine (length_lit _).mono ?_); rintro e w' ⟨rfl, hbl⟩; obtain ⟨hcw, hfw, hsw⟩ := below_ifs hbl; (try simp only [World.size_alloc, World.size_setCell, World.size_drew, size_drewN_] at hcw hfw hsw)) | (go_at_call 16; (with_reducible refine (cr _).mono ?_); rintro e w' ⟨rfl, hbl⟩; obtain ⟨hcw, hfw, hsw⟩ := below_ifs hbl; (try simp only [World.size_alloc, World.size_setCell, World.size_drew, size_drewN_] at hcw hfw hsw)) | (go_at_call 16; (with_reducible refine (ct _).mono ?_); rintro e w' ⟨rfl, hbl⟩; obtain ⟨hcw, hfw, hsw⟩ := below_ifs hbl; (try simp only [World.size_alloc, World.size_setCell, World.size_drew, size_drewN_] at hcw hfw hsw)) | (go_at_call 18; (with_reducible refine (length_any _ _).mono ?_); rintro e w' ⟨rfl, hbl⟩; obtain ⟨hcw, hfw, hsw⟩ := below_ifs hbl; (try simp only [World.size_alloc, World.size_setCell, World.size_drew, size_drewN_] at hcw hfw hsw)) | (go_at_call 21; (with_reducible refine (align_any _ _).mono ?_); rintro e w' ⟨rfl, hbl⟩; obtain ⟨hcw, hfw, hsw⟩ := below_ifs hbl; (try simp only [World.size_alloc, World.size_setCell, World.size_drew, size_drewN_] at hcw hfw hsw)))
  go_ret
  exact ⟨rfl, by (repeat (first | with_reducible exact Below.refl _ _ | with_reducible assumption | with_reducible refine below_drewN ?_ _ | with_reducible refine Below.drew ?_ | with_reducible refine below_alloc ?_ _ | (with_reducible refine Below.setCell ?_ (by first | (simp; done) | omega | (simp; omega)) _) | with_reducible refine belows ?_ (by assumption)))⟩
theorem walk (l0 l1 l2 l3 : BitVec 64) (w : World) :
    Calls Try.prog 8 #[.agg #[.int .u64 (U l0), .int .u64 (U l1), .int .u64 (U l2), .int .u64 (U l3)]] w fun r w' => r = .returned (.bool true) ∧ Below w.heap.size w w' := by
  by_cases h : U (lowS l0 l1 + l2 % (highS l0 l1 - lowS l0 l1 + 1#64)) ≤ U (lowS l0 l1 + l3 % (highS l0 l1 - lowS l0 l1 + 1#64))
  · exact walk_up l0 l1 l2 l3 _ _ _ _ rfl rfl (may_span l0 l1) rfl rfl h w
  · exact walk_down l0 l1 l2 l3 _ _ _ _ rfl rfl (may_span l0 l1) rfl rfl (by omega) w

set_option maxRecDepth 100000 in
theorem lifted (os : Os) (started : os.Started) (H : Type) (enc : TypeId × Value → H) :
    ReturnsInHanded {} Try.checked os 8 .any (Rows.boundsGrowSpec.pre6 enc Try.prog Try.f8 Rows.boundsGrowRow.domain false) (Rows.boundsGrowSpec.post enc Try.prog Try.f8 false true false false) := by
  refine law_lift (C := Try.checked) (tb := 4) started (by kernel_rfl) (by kernel_rfl) Try.func8 rfl rfl Try.underlying4 (by kernel_rfl) (by kernel_rfl)
    (fun ds h => by match ds, h with | [_], _ => rfl)
    (ChangeSpec.witness6 (enc := enc) (C := Try.checked) false ⟨#[], #[.agg #[.int .u64 0, .int .u64 0, .int .u64 0, .int .u64 0]], []⟩ 8 (by kernel_rfl) (by kernel_rfl) (by kernel_rfl) (by kernel_rfl)) ?_
  intro W base args ds ps hval hA hlt hfz hsz
  rw [Try.params8] at hA hval hsz
  obtain ⟨v0, d0, rfl, rfl, h0⟩ := trodAll_one hA
  obtain ⟨na, wa, nb, wb, nc, wc, nd, wd, rfl⟩ := open_leaves (d := 5) (ls := [.int .u64, .int .u64, .int .u64, .int .u64]) (by kernel_rfl) (by kernel_rfl) (hval 0 _ v0 rfl rfl) h0
  obtain ⟨a, rfl⟩ := exists_U na wa
  obtain ⟨b, rfl⟩ := exists_U nb wb
  obtain ⟨c, rfl⟩ := exists_U nc wc
  obtain ⟨d, rfl⟩ := exists_U nd wd
  exact walk a b c d W

theorem over : Rows.boundsGrowRow.holds Try.pinned (OpenSpec.ofChange Rows.boundsGrowSpec) :=
  OpenClaim.holds_of_wide 8 Try.f8 rfl rfl rfl rfl rfl rfl rfl ⟨rfl, rfl, rfl, rfl, rfl⟩ rfl rfl rfl rfl rfl (by kernel_rfl) Try.func8 (by kernel_rfl)
    (of_decide_eq_true (by kernel_rfl)) (by unfold Func.isWrapper; first | (rw [if_pos (by decide +kernel)]; kernel_rfl) | (rw [if_neg (by decide +kernel)]; exact ⟨rfl, rfl⟩))
    (fun os started H enc _ => lifted os started H enc)

theorem proved : Rows.BoundsGrowSaid := over
end Go.Proofs.Ytjhekfcnoofaaaa.Grow
