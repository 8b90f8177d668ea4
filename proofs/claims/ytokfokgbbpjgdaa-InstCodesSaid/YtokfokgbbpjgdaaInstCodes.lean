
/-
  InstCodes: any instruction has the document's word, or none; any word is its instruction, or none. Every input.
-/
import Derived.Test.YtokfokgbbpjgdaaInstL
import Derived.Test.YtokfokgbbpjgdaaInstJ
namespace Go.Proofs.Ytokfokgbbpjgdaa.Codes
open Go Go.RowKit Go.ChangeShapes Go.WideShapes Go.ChangeAt
set_option linter.unusedVariables false
set_option linter.unusedSimpArgs false

theorem rinst_guard : Try.prog.eqGuardType Try.prog.depth 28 = false := by kernel_rfl
theorem rinst_stood : Try.prog.stoodInHeld 28 = false := by kernel_rfl
theorem rinst_eql (a b c d e a' b' c' d' e' : Int) (w : World) : (binOp .eql 28 (.agg #[.int .i64 a, .int .i64 b, .int .i64 c, .int .i64 d, .int .i64 e]) (.agg #[.int .i64 a', .int .i64 b', .int .i64 c', .int .i64 d', .int .i64 e'])).run Try.prog w = .ok (.bool (a == a' && b == b' && c == c' && d == d' && e == e')) w := by
  have hs := rinst_stood
  rw [run_eql_struct]
  rw [show (10000 : Nat) = 9999 + 1 from rfl, run_equalIn_struct _ _ _ _ _ Try.underlying28 hs]
  simp [go_sem, Try.underlying28]
  by_cases h1 : a = a' <;> by_cases h2 : b = b' <;> by_cases h3 : c = c' <;> by_cases h4 : d = d' <;> by_cases h5 : e = e' <;> simp [h1, h2, h3, h4, h5]
attribute [go_sem 3000] rinst_guard rinst_eql
set_option maxHeartbeats 8000000 in
set_option maxRecDepth 100000 in
theorem core_no (o D A B M W1 Y o2 D2 A2 B2 M2 : Int) (p : Bool)
    (c1 : ∀ w : World, Calls Try.prog 7 #[.agg #[.int .i64 o, .int .i64 D, .int .i64 A, .int .i64 B, .int .i64 M]] w fun e w' => e = .returned (.tuple #[.int .u32 0, .bool false]) ∧ Below w.heap.size w w')
    (c2 : ∀ w : World, Calls Try.prog 8 #[.agg #[.int .i64 o, .int .i64 D, .int .i64 A, .int .i64 B, .int .i64 M]] w fun e w' => e = .returned (.tuple #[.int .u32 Y, .bool false]) ∧ Below w.heap.size w w')
    (c3 : ∀ w : World, Calls Try.prog 9 #[.int .u32 W1] w fun e w' => e = .returned (.tuple #[.agg #[.int .i64 o2, .int .i64 D2, .int .i64 A2, .int .i64 B2, .int .i64 M2], .bool p]) ∧ Below w.heap.size w w')
    (c4 : ∀ w : World, Calls Try.prog 10 #[.int .u32 W1] w fun e w' => e = .returned (.tuple #[.agg #[.int .i64 o2, .int .i64 D2, .int .i64 A2, .int .i64 B2, .int .i64 M2], .bool p]) ∧ Below w.heap.size w w') (w : World) :
    Calls Try.prog 3 #[.agg #[.int .i64 o, .int .i64 D, .int .i64 A, .int .i64 B, .int .i64 M], .int .u32 W1] w fun e w' => e = .returned (.bool true) ∧ Below w.heap.size w w' := by
  go_enter Try.func3, Try.ntmps3
  go_wp2_with (first | (go_at_call 7; (with_reducible refine (c1 _).mono ?_); rintro e w' ⟨rfl, hbl⟩; obtain ⟨hcw, hfw, hsw⟩ := below_ifs hbl; (try simp only [World.size_alloc, World.size_setCell, World.size_drew, size_drewN_] at hcw hfw hsw)) | (go_at_call 8; (with_reducible refine (c2 _).mono ?_); rintro e w' ⟨rfl, hbl⟩; obtain ⟨hcw, hfw, hsw⟩ := below_ifs hbl; (try simp only [World.size_alloc, World.size_setCell, World.size_drew, size_drewN_] at hcw hfw hsw)) | (go_at_call 9; (with_reducible refine (c3 _).mono ?_); rintro e w' ⟨rfl, hbl⟩; obtain ⟨hcw, hfw, hsw⟩ := below_ifs hbl; (try simp only [World.size_alloc, World.size_setCell, World.size_drew, size_drewN_] at hcw hfw hsw)) | (go_at_call 10; (with_reducible refine (c4 _).mono ?_); rintro e w' ⟨rfl, hbl⟩; obtain ⟨hcw, hfw, hsw⟩ := below_ifs hbl; (try simp only [World.size_alloc, World.size_setCell, World.size_drew, size_drewN_] at hcw hfw hsw)) | (go_at_call 11; (with_reducible refine (one_any _).mono ?_); rintro e w' ⟨rfl, hbl⟩; obtain ⟨hcw, hfw, hsw⟩ := below_ifs hbl; (try simp only [World.size_alloc, World.size_setCell, World.size_drew, size_drewN_] at hcw hfw hsw)))
  go_ret
  exact ⟨ret_bool (by simp), by (repeat (first | with_reducible exact Below.refl _ _ | with_reducible assumption | with_reducible refine below_drewN ?_ _ | with_reducible refine Below.drew ?_ | with_reducible refine below_alloc ?_ _ | (with_reducible refine Below.setCell ?_ (by first | (simp; done) | omega | (simp; omega)) _) | with_reducible refine belows ?_ (by assumption)))⟩
set_option maxHeartbeats 8000000 in
set_option maxRecDepth 100000 in
theorem core_yes (o D A B M W1 X o2 D2 A2 B2 M2 : Int) (p : Bool)
    (c1 : ∀ w : World, Calls Try.prog 7 #[.agg #[.int .i64 o, .int .i64 D, .int .i64 A, .int .i64 B, .int .i64 M]] w fun e w' => e = .returned (.tuple #[.int .u32 X, .bool true]) ∧ Below w.heap.size w w')
    (c2 : ∀ w : World, Calls Try.prog 8 #[.agg #[.int .i64 o, .int .i64 D, .int .i64 A, .int .i64 B, .int .i64 M]] w fun e w' => e = .returned (.tuple #[.int .u32 X, .bool true]) ∧ Below w.heap.size w w')
    (c3 : ∀ w : World, Calls Try.prog 9 #[.int .u32 W1] w fun e w' => e = .returned (.tuple #[.agg #[.int .i64 o2, .int .i64 D2, .int .i64 A2, .int .i64 B2, .int .i64 M2], .bool p]) ∧ Below w.heap.size w w')
    (c4 : ∀ w : World, Calls Try.prog 10 #[.int .u32 W1] w fun e w' => e = .returned (.tuple #[.agg #[.int .i64 o2, .int .i64 D2, .int .i64 A2, .int .i64 B2, .int .i64 M2], .bool p]) ∧ Below w.heap.size w w') (w : World) :
    Calls Try.prog 3 #[.agg #[.int .i64 o, .int .i64 D, .int .i64 A, .int .i64 B, .int .i64 M], .int .u32 W1] w fun e w' => e = .returned (.bool true) ∧ Below w.heap.size w w' := by
  go_enter Try.func3, Try.ntmps3
  go_wp2_with (first | (go_at_call 7; (with_reducible refine (c1 _).mono ?_); rintro e w' ⟨rfl, hbl⟩; obtain ⟨hcw, hfw, hsw⟩ := below_ifs hbl; (try simp only [World.size_alloc, World.size_setCell, World.size_drew, size_drewN_] at hcw hfw hsw)) | (go_at_call 8; (with_reducible refine (c2 _).mono ?_); rintro e w' ⟨rfl, hbl⟩; obtain ⟨hcw, hfw, hsw⟩ := below_ifs hbl; (try simp only [World.size_alloc, World.size_setCell, World.size_drew, size_drewN_] at hcw hfw hsw)) | (go_at_call 9; (with_reducible refine (c3 _).mono ?_); rintro e w' ⟨rfl, hbl⟩; obtain ⟨hcw, hfw, hsw⟩ := below_ifs hbl; (try simp only [World.size_alloc, World.size_setCell, World.size_drew, size_drewN_] at hcw hfw hsw)) | (go_at_call 10; (with_reducible refine (c4 _).mono ?_); rintro e w' ⟨rfl, hbl⟩; obtain ⟨hcw, hfw, hsw⟩ := below_ifs hbl; (try simp only [World.size_alloc, World.size_setCell, World.size_drew, size_drewN_] at hcw hfw hsw)) | (go_at_call 11; (with_reducible refine (one_any _).mono ?_); rintro e w' ⟨rfl, hbl⟩; obtain ⟨hcw, hfw, hsw⟩ := below_ifs hbl; (try simp only [World.size_alloc, World.size_setCell, World.size_drew, size_drewN_] at hcw hfw hsw)))
  go_ret
  exact ⟨ret_bool (by simp), by (repeat (first | with_reducible exact Below.refl _ _ | with_reducible assumption | with_reducible refine below_drewN ?_ _ | with_reducible refine Below.drew ?_ | with_reducible refine below_alloc ?_ _ | (with_reducible refine Below.setCell ?_ (by first | (simp; done) | omega | (simp; omega)) _) | with_reducible refine belows ?_ (by assumption)))⟩
theorem decV_ex (y : BitVec 64) : ∃ (o D A B M : Int) (p : Bool), decV y = .tuple #[.agg #[.int .i64 o, .int .i64 D, .int .i64 A, .int .i64 B, .int .i64 M], .bool p] := by
  unfold decV
  cases decF y with
  | none => exact ⟨0, 0, 0, 0, 0, false, rfl⟩
  | some i => exact ⟨_, _, _, _, _, true, rfl⟩
theorem walk (o : Int) (d a b m y : BitVec 64) (hy : y.toNat < 2 ^ 32) (w : World) : Calls Try.prog 3 #[.agg #[.int .i64 o, .int .i64 (S d), .int .i64 (S a), .int .i64 (S b), .int .i64 (S m)], .int .u32 (U y)] w fun e w' => e = .returned (.bool true) ∧ Below w.heap.size w w' := by
  obtain ⟨o2, D2, A2, B2, M2, p, e⟩ := decV_ex y
  have c3 := dec_any y
  have c4 := rdec_any y hy
  rw [e] at c3 c4
  obtain ⟨X, c2, hX⟩ := renc_any o d a b m
  cases hx : encF ⟨o, d, a, b, m⟩ with
  | none =>
    rw [hx] at c2
    exact core_no o _ _ _ _ (U y) X o2 D2 A2 B2 M2 p (enc_no hx) c2 c3 c4 w
  | some x =>
    have e2 := hX x hx
    rw [hx] at c2
    subst e2
    exact core_yes o _ _ _ _ (U y) (U x) o2 D2 A2 B2 M2 p (enc_yes hx (by obtain ⟨k, hk, e, he⟩ := encF_some hx; exact (enc_back hk he).1)) c2 c3 c4 w
theorem exists_U32 (n : Int) (h : (Lit.int .u32 n).wf = true) : ∃ x : BitVec 64, n = U x ∧ x.toNat < 2 ^ 32 := by
  have hx : 0 ≤ n ∧ n ≤ 4294967295 := by simpa [Lit.wf, IntKind.min, IntKind.max, IntKind.signed, IntKind.bits] using h
  refine ⟨BitVec.ofInt 64 n, ?_⟩
  unfold U
  rw [BitVec.toNat_ofInt]
  omega
set_option maxRecDepth 100000 in
theorem lifted (os : Os) (started : os.Started) (H : Type) (enc : TypeId × Value → H) :
    ReturnsInHanded {} Try.checked os 3 .any (Rows.instCodesSpec.pre6 enc Try.prog Try.f3 Rows.instCodesRow.domain false) (Rows.instCodesSpec.post enc Try.prog Try.f3 false true false false) := by
  refine law_lift (C := Try.checked) (tb := 4) started (by kernel_rfl) (by kernel_rfl) Try.func3 rfl rfl Try.underlying4 (by kernel_rfl) (by kernel_rfl)
    (fun ds h => by match ds, h with | [_, _], _ => rfl)
    (ChangeSpec.witness6 (enc := enc) (C := Try.checked) false ⟨#[], #[.agg #[.int .i64 0, .int .i64 0, .int .i64 0, .int .i64 0, .int .i64 0], .int .u32 0], []⟩ 8 (by kernel_rfl) (by kernel_rfl) (by kernel_rfl) (by kernel_rfl)) ?_
  intro W base args ds ps hval hA hlt hfz hsz
  rw [Try.params3] at hA hval hsz
  obtain ⟨v0, v1, d0, d1, p0, p1, rfl, rfl, rfl, h0, h1⟩ := trodAll_two hA
  obtain ⟨o0, -, n0a, wa0, n0b, wb0, n0c, wc0, n0d, wd0, rfl⟩ := open_leaves (d := 5) (ls := [.int .i64, .int .i64, .int .i64, .int .i64, .int .i64]) (by kernel_rfl) (by kernel_rfl) (hval 0 _ v0 rfl rfl) h0
  obtain ⟨d0', rfl⟩ := exists_S n0a ((wf_i64 _).1 wa0)
  obtain ⟨a0', rfl⟩ := exists_S n0b ((wf_i64 _).1 wb0)
  obtain ⟨b0', rfl⟩ := exists_S n0c ((wf_i64 _).1 wc0)
  obtain ⟨m0', rfl⟩ := exists_S n0d ((wf_i64 _).1 wd0)
  obtain ⟨x1, rfl, rfl, rfl, w1⟩ := open_int Try.underlying24 (hval 1 _ v1 rfl rfl) h1
  obtain ⟨y, rfl, hy⟩ := exists_U32 x1 w1
  exact walk o0 d0' a0' b0' m0' y hy W

theorem over : Rows.instCodesRow.holds Try.pinned (OpenSpec.ofChange Rows.instCodesSpec) :=
  OpenClaim.holds_of_wide 3 Try.f3 rfl rfl rfl rfl rfl rfl rfl ⟨rfl, rfl, rfl, rfl, rfl⟩ rfl rfl rfl rfl rfl (by kernel_rfl) Try.func3 (by kernel_rfl)
    (of_decide_eq_true (by kernel_rfl)) (by unfold Func.isWrapper; first | (rw [if_pos (by decide +kernel)]; kernel_rfl) | (rw [if_neg (by decide +kernel)]; exact ⟨rfl, rfl⟩))
    (fun os started H enc _ => lifted os started H enc)

theorem proved : Rows.InstCodesSaid := over
end Go.Proofs.Ytokfokgbbpjgdaa.Codes
