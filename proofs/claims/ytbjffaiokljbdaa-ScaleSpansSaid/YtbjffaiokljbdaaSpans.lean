/-
  ScaleSpans: numbers are within a span just if the first ones are, and the others behind them; and none is within one that ends ahead of it. Every input.
-/
import Derived.Test.YtbjffaiokljbdaaRows
import Derived.Test.YtbjffaiokljbdaaLaw
import Derived.Test.YtbjffaiokljbdaaScale
namespace Go.Proofs.Ytbjffaiokljbdaa.Spans
open Go Go.RowKit Go.ChangeShapes Go.WideShapes Go.ChangeAt

theorem in_parts (a n k b t : BitVec 64) (h : k.toNat ≤ n.toNat) (ho : overF a k = false) : inF a n b t = (inF a k b t && inF (a + k) (n - k) b t) := by
  have hl : ¬ 18446744073709551616 ≤ a.toNat + k.toNat := by simpa [overF] using ho
  unfold inF
  have e1 : (a + k).toNat = a.toNat + k.toNat := by rw [BitVec.toNat_add]; omega
  have e2 : (n - k).toNat = n.toNat - k.toNat := by rw [BitVec.toNat_sub]; have := n.isLt; omega
  rw [e1, e2, Bool.eq_iff_iff]
  simp only [Bool.and_eq_true, decide_eq_true_eq]
  omega
theorem in_over (a n k b t : BitVec 64) (h : k.toNat ≤ n.toNat) (ho : overF a k = true) : inF a n b t = false := by
  have hl : 18446744073709551616 ≤ a.toNat + k.toNat := by simpa [overF] using ho
  have := t.isLt
  unfold inF
  rw [decide_eq_false (show ¬ a.toNat + n.toNat ≤ t.toNat by omega), Bool.and_false]
theorem in_next (a : BitVec 64) : inF a 1#64 (a + 1#64) 18446744073709551615#64 = false := by
  unfold inF
  have e1 : (a + 1#64).toNat = (a.toNat + 1) % 18446744073709551616 := by rw [BitVec.toNat_add]; rfl
  have e2 : (18446744073709551615#64).toNat = 18446744073709551615 := rfl
  have e3 : (1#64).toNat = 1 := rfl
  rw [e1, e2, e3]
  have := a.isLt
  by_cases c : a.toNat = 18446744073709551615
  · rw [decide_eq_false (show ¬ a.toNat + 1 ≤ 18446744073709551615 by omega), Bool.and_false]
  · rw [decide_eq_false (show ¬ (a.toNat + 1) % 18446744073709551616 ≤ a.toNat by omega), Bool.false_and]
theorem in_end (t : BitVec 64) : inF t 1#64 0#64 t = false := by
  unfold inF
  have e3 : (1#64).toNat = 1 := rfl
  rw [e3, decide_eq_false (show ¬ t.toNat + 1 ≤ t.toNat by omega), Bool.and_false]
theorem in_1 (w : World) : Calls Try.prog 9 #[.int .u64 4, .int .u64 4, .int .u64 0, .int .u64 8] w fun e w' => e = .returned (.bool true) ∧ w = w' :=
  (in_any 4#64 4#64 0#64 8#64 w).mono fun _ _ h => ⟨by rw [h.1]; rfl, h.2⟩
theorem in_2 (a : BitVec 64) (w : World) : Calls Try.prog 9 #[.int .u64 (U a), .int .u64 1, .int .u64 (U (a + 1#64)), .int .u64 18446744073709551615] w fun e w' => e = .returned (.bool false) ∧ w = w' :=
  (in_any a 1#64 (a + 1#64) 18446744073709551615#64 w).mono fun _ _ h => ⟨by rw [h.1, in_next], h.2⟩
theorem in_3 (t : BitVec 64) (w : World) : Calls Try.prog 9 #[.int .u64 (U t), .int .u64 1, .int .u64 0, .int .u64 (U t)] w fun e w' => e = .returned (.bool false) ∧ w = w' :=
  (in_any t 1#64 0#64 t w).mono fun _ _ h => ⟨by rw [h.1, in_end], h.2⟩

theorem in_0 (a b t : BitVec 64) (w : World) : Calls Try.prog 9 #[.int .u64 (U a), .int .u64 0, .int .u64 (U b), .int .u64 (U t)] w fun e w' => e = .returned (.bool (inF a 0#64 b t)) ∧ w = w' := in_any a 0#64 b t w
theorem add_0 (a : BitVec 64) (w : World) : Calls Try.prog 8 #[.int .u64 (U a), .int .u64 0] w fun e w' => e = .returned (.tuple #[.int .u64 (U a), .bool false]) ∧ w = w' :=
  (add_any a 0#64 w).mono fun _ _ h => ⟨by
    rw [h.1]
    have e : overF a 0#64 = false := by
      unfold overF
      have := a.isLt
      exact decide_eq_false (by simp; omega)
    rw [e, BitVec.add_zero], h.2⟩

set_option maxHeartbeats 4000000 in
theorem walk (a n k b t : BitVec 64) (w : World) :
    Calls Try.prog 4 #[.agg #[.int .u64 (U a), .int .u64 (U n), .int .u64 (U k)], .agg #[.int .u64 (U b), .int .u64 (U t)]] w fun e w' => e = .returned (.bool true) ∧ Below w.heap.size w w' := by
  by_cases h0 : 0 < U n
  · have hk : (k % n).toNat ≤ n.toNat := by
      rw [BitVec.toNat_umod]
      have : 0 < n.toNat := by unfold U at h0; omega
      exact Nat.le_of_lt (Nat.mod_lt _ this)
    cases ho : overF a (k % n)
    · have f1 := in_parts a n (k % n) b t hk ho
      clear hk
      cases h2 : inF a (k % n) b t
      all_goals
        rw [h2] at f1
        simp only [Bool.false_and, Bool.true_and] at f1
        go_enter Try.func4, Try.ntmps4
        go_wp2_with fail
        go_quiet (fail)
        go_wp2_with (first | (go_at_call 9; (with_reducible refine (in_any _ _ _ _ _).mono ?_); rintro e w' ⟨rfl, rfl⟩) | (go_at_call 8; (with_reducible refine (add_any _ _ _).mono ?_); rintro e w' ⟨rfl, rfl⟩) | (go_at_call 9; (with_reducible refine (in_1 _).mono ?_); rintro e w' ⟨rfl, rfl⟩) | (go_at_call 9; (with_reducible refine (in_2 _ _).mono ?_); rintro e w' ⟨rfl, rfl⟩) | (go_at_call 9; (with_reducible refine (in_3 _ _).mono ?_); rintro e w' ⟨rfl, rfl⟩))
        go_ret
        refine ⟨rfl, ?_⟩
        repeat (first | exact Below.refl _ _ | refine below_drewN ?_ _ | refine Below.alloc ?_ (by simp) _)
    · have f1 := in_over a n (k % n) b t hk ho
      clear hk
      go_enter Try.func4, Try.ntmps4
      go_wp2_with fail
      go_quiet (fail)
      go_wp2_with (first | (go_at_call 9; (with_reducible refine (in_any _ _ _ _ _).mono ?_); rintro e w' ⟨rfl, rfl⟩) | (go_at_call 8; (with_reducible refine (add_any _ _ _).mono ?_); rintro e w' ⟨rfl, rfl⟩) | (go_at_call 9; (with_reducible refine (in_1 _).mono ?_); rintro e w' ⟨rfl, rfl⟩) | (go_at_call 9; (with_reducible refine (in_2 _ _).mono ?_); rintro e w' ⟨rfl, rfl⟩) | (go_at_call 9; (with_reducible refine (in_3 _ _).mono ?_); rintro e w' ⟨rfl, rfl⟩))
      go_ret
      refine ⟨rfl, ?_⟩
      repeat (first | exact Below.refl _ _ | refine below_drewN ?_ _ | refine Below.alloc ?_ (by simp) _)
  · have hn : n = 0#64 := BitVec.eq_of_toNat_eq (by unfold U at h0; simp; omega)
    have f1 : inF a n b t = inF a 0#64 b t := by rw [hn]
    clear hn
    cases h2 : inF a 0#64 b t
    all_goals
      rw [h2] at f1
      go_enter Try.func4, Try.ntmps4
      go_wp2_with fail
      go_quiet (fail)
      go_wp2_with (first | (go_at_call 9; (with_reducible refine (in_any _ _ _ _ _).mono ?_); rintro e w' ⟨rfl, rfl⟩) | (go_at_call 8; (with_reducible refine (add_any _ _ _).mono ?_); rintro e w' ⟨rfl, rfl⟩) | (go_at_call 9; (with_reducible refine (in_0 _ _ _ _).mono ?_); rintro e w' ⟨rfl, rfl⟩) | (go_at_call 8; (with_reducible refine (add_0 _ _).mono ?_); rintro e w' ⟨rfl, rfl⟩) | (go_at_call 9; (with_reducible refine (in_1 _).mono ?_); rintro e w' ⟨rfl, rfl⟩) | (go_at_call 9; (with_reducible refine (in_2 _ _).mono ?_); rintro e w' ⟨rfl, rfl⟩) | (go_at_call 9; (with_reducible refine (in_3 _ _).mono ?_); rintro e w' ⟨rfl, rfl⟩))
      go_ret
      refine ⟨rfl, ?_⟩
      repeat (first | exact Below.refl _ _ | refine below_drewN ?_ _ | refine Below.alloc ?_ (by simp) _)

set_option maxRecDepth 100000 in
theorem lifted (os : Os) (started : os.Started) (H : Type) (enc : TypeId × Value → H) :
    ReturnsInHanded {} Try.checked os 4 .any (Rows.scaleSpansSpec.pre6 enc Try.prog Try.f4 Rows.scaleSpansRow.domain false) (Rows.scaleSpansSpec.post enc Try.prog Try.f4 false true false false) := by
  refine law_lift (C := Try.checked) (tb := 4) started (by kernel_rfl) (by kernel_rfl) Try.func4 rfl rfl Try.underlying4 (by kernel_rfl) (by kernel_rfl)
    (fun ds h => by match ds, h with | [_, _], _ => rfl)
    (ChangeSpec.witness6 (enc := enc) (C := Try.checked) false ⟨#[], #[.agg #[.int .u64 0, .int .u64 0, .int .u64 0], .agg #[.int .u64 0, .int .u64 0]], []⟩ 8 (by kernel_rfl) (by kernel_rfl) (by kernel_rfl) (by kernel_rfl)) ?_
  intro W base args ds ps hval hA hlt hfz hsz
  rw [Try.params4] at hA hval hsz
  obtain ⟨v0, v1, d0, d1, p0, p1, rfl, rfl, rfl, h0, h1⟩ := trodAll_two hA
  obtain ⟨n0, w0, n1, w1, n2, w2, rfl⟩ := open_leaves (d := 5) (ls := [.int .u64, .int .u64, .int .u64]) (by kernel_rfl) (by kernel_rfl) (hval 0 _ v0 rfl rfl) h0
  obtain ⟨m0, y0, m1, y1, rfl⟩ := open_leaves (d := 5) (ls := [.int .u64, .int .u64]) (by kernel_rfl) (by kernel_rfl) (hval 1 _ v1 rfl rfl) h1
  obtain ⟨a, rfl⟩ := exists_U n0 w0
  obtain ⟨n, rfl⟩ := exists_U n1 w1
  obtain ⟨k, rfl⟩ := exists_U n2 w2
  obtain ⟨b, rfl⟩ := exists_U m0 y0
  obtain ⟨t, rfl⟩ := exists_U m1 y1
  exact walk a n k b t W

theorem over : Rows.scaleSpansRow.holds Try.pinned (OpenSpec.ofChange Rows.scaleSpansSpec) :=
  OpenClaim.holds_of_wide 4 Try.f4 rfl rfl rfl rfl rfl rfl rfl ⟨rfl, rfl, rfl, rfl, rfl⟩ rfl rfl rfl rfl rfl (by kernel_rfl) Try.func4 (by kernel_rfl)
    (of_decide_eq_true (by kernel_rfl)) (by unfold Func.isWrapper; first | (rw [if_pos (by decide +kernel)]; kernel_rfl) | (rw [if_neg (by decide +kernel)]; exact ⟨rfl, rfl⟩))
    (fun os started H enc _ => lifted os started H enc)

theorem proved : Rows.ScaleSpansSaid := over
end Go.Proofs.Ytbjffaiokljbdaa.Spans
