/-
  FieldParts: a field is its lower part and its upper one, wherever it is cut, and what is laid part by part is what is laid whole. Every input.
-/
import Derived.Test.YthocdmcopalgdaaRows
import Derived.Test.YthocdmcopalgdaaLaw
import Derived.Test.YthocdmcopalgdaaLay
import Derived.Deep.DeepCutAuto
namespace Go.Proofs.Ythocdmcopalgdaa.Parts
open Go Go.RowKit Go.ChangeShapes Go.WideShapes Go.ChangeAt

theorem lit_get : getF 171#64 4 4 = 10#64 := by decide
theorem get_171 (w : World) : Calls Try.prog 9 #[.int .u64 171, .int .i64 4, .int .i64 4] w fun e w' => e = .returned (.int .u64 10) ∧ ∃ k, w.drewN k = w' :=
  (get_any 171#64 4 4 w).mono fun _ _ h => ⟨by rw [h.1, lit_get]; rfl, h.2⟩
theorem put_0 (v : BitVec 64) (a n : Int) (w : World) : Calls Try.prog 8 #[.int .u64 0, .int .i64 a, .int .i64 n, .int .u64 (U v)] w fun e w' => e = .returned (.int .u64 (U (putF 0#64 a n v))) ∧ ∃ k, w.drewN k = w' :=
  put_any 0#64 v a n w
theorem lay_1 (a n : Int) (v : BitVec 64) (b cap : Nat) (w : World) (hb : b < w.heap.size) (h0 : w.cell? ⟨b, 0, none⟩ = some (.int .i64 a)) (h1 : w.cell? ⟨b, 1, none⟩ = some (.int .i64 n)) (h2 : w.cell? ⟨b, 2, none⟩ = some (.int .u64 (U v))) :
    Calls Try.prog 12 #[.slice (some ⟨b, 0, none⟩) 1 cap] w fun e w' => e = .returned (.int .u64 (U (putF 0#64 a n v))) ∧ Below w.heap.size w w' :=
  lay_any [(a, n, v)] b 0 cap w (by show 1 ≤ _; omega) hb (by
    intro k hk
    match k, hk with
    | 0, _ => exact ⟨h0, h1, h2⟩)

theorem lay_new (a n : Int) (v : BitVec 64) (c : Nat) (t : TypeId) (w : World) (hc : c = w.heap.size) :
    Calls Try.prog 12 #[.slice (some ⟨c, 0, none⟩) 1 1] (w.alloc (.cells #[.int .i64 a, .int .i64 n, .int .u64 (U v)] t)) fun e w' => e = .returned (.int .u64 (U (putF 0#64 a n v))) ∧ Below c (w.alloc (.cells #[.int .i64 a, .int .i64 n, .int .u64 (U v)] t)) w' := by
  subst hc
  exact (lay_1 a n v w.heap.size 1 _ (by simp) (by simp) (by simp) (by simp)).mono fun _ _ h => ⟨h.1, h.2.mono (by simp)⟩

theorem facts (x v : BitVec 64) (a n k : Int) (h : mayF a n = true) (h0 : 0 ≤ k ∧ k ≤ n) :
    putF (putF x a k v) (a + k) (n - k) (v >>> k.toNat) = putF x a n v ∧ getF x a k ||| getF x (a + k) (n - k) <<< k.toNat = getF x a n := by
  have h' := (mayF_iff a n).1 h
  exact ⟨put_parts x v a n k h h0.1 h0.2, get_parts x a n k h h0.1 h0.2⟩

set_option maxRecDepth 100000 in
set_option maxHeartbeats 4000000 in
theorem walk (x v : BitVec 64) (n0 n1 n2 : Int) (w : World) :
    Calls Try.prog 6 #[.int .u64 (U x), .int .u64 (U v), .agg #[.int .i64 n0, .int .i64 n1, .int .i64 n2]] w fun e w' => e = .returned (.bool true) ∧ Below w.heap.size w w' := by
  go_enter Try.func6, Try.ntmps6
  go_upto_region 1 with fail
  go_cut [7, 8] (fun s7 s8 wx => ∃ a n : Int, s7 = .int .i64 a ∧ s8 = .int .i64 n ∧ 0 ≤ a ∧ a ≤ 63 ∧ 0 ≤ n ∧ n ≤ 63 ∧ wx.cell? ⟨w.heap.size, 2, none⟩ = some (.int .i64 n2) ∧ Below w.heap.size w wx)
  case first =>
    go_quiet (fail)
    go_wp2_with fail
    go_meet
    case rel => exact ⟨_, _, rfl, rfl, by omega, by omega, by omega, by omega, by simp, below_drewN ((Below.refl _ _).alloc (Nat.le_refl _) _) _⟩
  case rest =>
    obtain ⟨a, n, rfl, rfl, ha0, ha1, hn0, hn1, hc2, hb⟩ := hcut
    go_upto_if 23 with fail
    go_cut [8] (fun s8 wx => ∃ n : Int, s8 = .int .i64 n ∧ 0 ≤ n ∧ n ≤ 63 ∧ n ≤ 64 - a ∧ wx.cell? ⟨w.heap.size, 2, none⟩ = some (.int .i64 n2) ∧ Below w.heap.size w wx)
    case first =>
      go_wp2_with fail
      all_goals go_meet
      all_goals exact ⟨_, rfl, by omega, by omega, by omega, hc2, hb⟩
    case rest =>
      obtain ⟨n, rfl, hn0, hn1, hn2, hc2, hb⟩ := hcut
      go_upto_if 27 with fail
      go_cut [9] (fun s9 wx => ∃ k : Int, s9 = .int .i64 k ∧ 0 ≤ k ∧ k ≤ n ∧ Below w.heap.size w wx)
      case first =>
        go_wp2_with fail
        all_goals go_meet
        · refine ⟨_, rfl, ?_, ?_, hb⟩
          · exact Int.emod_nonneg _ (by omega)
          · have := Int.emod_lt_of_pos (n2 % 64) (show 0 < n + 1 by omega); omega
        · exact ⟨_, rfl, by omega, by omega, hb⟩
      case rest =>
        obtain ⟨k, rfl, hk0, hk1, hb⟩ := hcut
        have m1 : mayF a n = true := by rw [mayF_iff]; omega
        obtain ⟨f1, f2⟩ := facts x v a n k m1 (by omega)
        have Hb := Lib.hid hb
        clear m1 hb
        by_cases c3 : k < n
        · have c4 : k < 64 := by omega
          go_wp2_with (first | (go_at_call 8; (with_reducible refine (put_any _ _ _ _ _).mono ?_); rintro e w' ⟨rfl, kd, rfl⟩) | (go_at_call 8; (with_reducible refine (put_0 _ _ _ _).mono ?_); rintro e w' ⟨rfl, kd, rfl⟩) | (go_at_call 9; (with_reducible refine (get_any _ _ _ _).mono ?_); rintro e w' ⟨rfl, kd, rfl⟩) | (go_at_call 9; (with_reducible refine (get_171 _).mono ?_); rintro e w' ⟨rfl, kd, rfl⟩) | (go_at_call 12; refine (lay_new _ _ _ _ _ _ rfl).mono ?_; rintro e w' ⟨rfl, hbl⟩))
          go_ret
          refine ⟨rfl, ?_⟩
          have hsz := Hb.out.size
          exact below_drewN (Hb.out.trans ((((below_drewN (Below.refl _ _) _).alloc (Nat.le_refl _) _).mono hsz).trans (hbl.mono hsz))) _
        · have c4 : k < 64 := by omega
          have f3 : getF x a k = getF x a n := by rw [show k = n by omega]
          go_wp2_with (first | (go_at_call 8; (with_reducible refine (put_any _ _ _ _ _).mono ?_); rintro e w' ⟨rfl, kd, rfl⟩) | (go_at_call 8; (with_reducible refine (put_0 _ _ _ _).mono ?_); rintro e w' ⟨rfl, kd, rfl⟩) | (go_at_call 9; (with_reducible refine (get_any _ _ _ _).mono ?_); rintro e w' ⟨rfl, kd, rfl⟩) | (go_at_call 9; (with_reducible refine (get_171 _).mono ?_); rintro e w' ⟨rfl, kd, rfl⟩) | (go_at_call 12; refine (lay_new _ _ _ _ _ _ rfl).mono ?_; rintro e w' ⟨rfl, hbl⟩))
          go_ret
          refine ⟨rfl, ?_⟩
          have hsz := Hb.out.size
          exact below_drewN (Hb.out.trans ((((below_drewN (Below.refl _ _) _).alloc (Nat.le_refl _) _).mono hsz).trans (hbl.mono hsz))) _

set_option maxRecDepth 100000 in
theorem lifted (os : Os) (started : os.Started) (H : Type) (enc : TypeId × Value → H) :
    ReturnsInHanded {} Try.checked os 6 .any (Rows.fieldPartsSpec.pre6 enc Try.prog Try.f6 Rows.fieldPartsRow.domain false) (Rows.fieldPartsSpec.post enc Try.prog Try.f6 false true false false) := by
  refine law_lift (C := Try.checked) (tb := 4) started (by kernel_rfl) (by kernel_rfl) Try.func6 rfl rfl Try.underlying4 (by kernel_rfl) (by kernel_rfl)
    (fun ds h => by match ds, h with | [_, _, _], _ => rfl)
    (ChangeSpec.witness6 (enc := enc) (C := Try.checked) false ⟨#[], #[.int .u64 0, .int .u64 0, .agg #[.int .i64 0, .int .i64 0, .int .i64 0]], []⟩ 8 (by kernel_rfl) (by kernel_rfl) (by kernel_rfl) (by kernel_rfl)) ?_
  intro W base args ds ps hval hA hlt hfz hsz
  rw [Try.params6] at hA hval hsz
  obtain ⟨v0, v1, v2, d0, d1, d2, p0, p1, p2, rfl, rfl, rfl, h0, h1, h2⟩ := trodAll_three hA
  obtain ⟨a0, rfl, rfl, rfl, w0⟩ := open_int Try.underlying22 (hval 0 _ v0 rfl rfl) h0
  obtain ⟨a1, rfl, rfl, rfl, w1⟩ := open_int Try.underlying22 (hval 1 _ v1 rfl rfl) h1
  obtain ⟨x, rfl⟩ := exists_U a0 w0
  obtain ⟨v, rfl⟩ := exists_U a1 w1
  obtain ⟨n0, _, n1, _, n2, _, rfl⟩ := open_leaves (d := 5) (ls := [.int .i64, .int .i64, .int .i64]) (by kernel_rfl) (by kernel_rfl) (hval 2 _ v2 rfl rfl) h2
  exact walk x v n0 n1 n2 W

theorem over : Rows.fieldPartsRow.holds Try.pinned (OpenSpec.ofChange Rows.fieldPartsSpec) :=
  OpenClaim.holds_of_wide 6 Try.f6 rfl rfl rfl rfl rfl rfl rfl ⟨rfl, rfl, rfl, rfl, rfl⟩ rfl rfl rfl rfl rfl (by kernel_rfl) Try.func6 (by kernel_rfl)
    (of_decide_eq_true (by kernel_rfl)) (by unfold Func.isWrapper; first | (rw [if_pos (by decide +kernel)]; kernel_rfl) | (rw [if_neg (by decide +kernel)]; exact ⟨rfl, rfl⟩))
    (fun os started H enc _ => lifted os started H enc)

theorem proved : Rows.FieldPartsSaid := over
end Go.Proofs.Ythocdmcopalgdaa.Parts
