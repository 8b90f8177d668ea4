
/-
  InstOne: two words that are instructions are the same just if their instructions are; and each instruction of the table has a word, and a name, by which it is found. Every input.
-/
import Derived.Test.YtokfokgbbpjgdaaInstL
namespace Go.Proofs.Ytokfokgbbpjgdaa.One
open Go Go.RowKit Go.ChangeShapes Go.WideShapes Go.ChangeAt
set_option linter.unusedVariables false
set_option linter.unusedSimpArgs false

theorem okE_zero {s : RowT} {o : Int} (h : s.sh ∈ shapes) : okE s ⟨o, 0#64, 0#64, 0#64, 0#64⟩ = true := by
  unfold okE
  dsimp only
  generalize s.sh = x at h
  simp only [shapes, List.mem_cons, List.not_mem_nil, or_false] at h
  rcases h with rfl | rfl | rfl | rfl | rfl | rfl | rfl | rfl | rfl | rfl <;> decide +kernel
theorem zero_back {k : Nat} (hk : k < 69) : ∃ y : BitVec 64, y.toNat < 2 ^ 32 ∧ encF ⟨(k : Int) + 1, 0#64, 0#64, 0#64, 0#64⟩ = some y ∧ decF y = some ⟨(k : Int) + 1, 0#64, 0#64, 0#64, 0#64⟩ := by
  have h : encF ⟨(k : Int) + 1, 0#64, 0#64, 0#64, 0#64⟩ = some (putsF (flds (rowAt k) ⟨(k : Int) + 1, 0#64, 0#64, 0#64, 0#64⟩) 0#64) := by
    rw [encF_at (i := ⟨(k : Int) + 1, 0#64, 0#64, 0#64, 0#64⟩) hk rfl, enc_is, if_pos (okE_zero (rowAt_sh k hk))]
  obtain ⟨j, hj, e, hlt, hd, -⟩ := encF_back h
  have : j = k := by
    have e' : (k : Int) + 1 = (j : Int) + 1 := e
    omega
  subst this
  refine ⟨_, hlt, h, hd.trans ?_⟩
  unfold backI
  simp
set_option maxHeartbeats 8000000 in
set_option maxRecDepth 100000 in
theorem core (W1 V1 op Y o1 d1 a1 b1 m1 o2 d2 a2 b2 m2 q : Int) (nm : ByteArray) (p1 p2 : Bool) (hop : wrap64 (1 + (wrap64 (op.tmod 69 + 69)).tmod 69) = q)
    (ht : p1 = true → p2 = true → (!((o1 == o2 && d1 == d2 && a1 == a2 && b1 == b2 && m1 == m2) == (W1 == V1))) = false)
    (c1 : ∀ w : World, Calls Try.prog 9 #[.int .u32 W1] w fun e w' => e = .returned (.tuple #[.agg #[.int .i64 o1, .int .i64 d1, .int .i64 a1, .int .i64 b1, .int .i64 m1], .bool p1]) ∧ Below w.heap.size w w')
    (c2 : ∀ w : World, Calls Try.prog 9 #[.int .u32 V1] w fun e w' => e = .returned (.tuple #[.agg #[.int .i64 o2, .int .i64 d2, .int .i64 a2, .int .i64 b2, .int .i64 m2], .bool p2]) ∧ Below w.heap.size w w')
    (c3 : ∀ w : World, Calls Try.prog 9 #[.int .u32 Y] w fun e w' => e = .returned (.tuple #[.agg #[.int .i64 q, .int .i64 0, .int .i64 0, .int .i64 0, .int .i64 0], .bool true]) ∧ Below w.heap.size w w')
    (c4 : ∀ w : World, Calls Try.prog 7 #[.agg #[.int .i64 q, .int .i64 0, .int .i64 0, .int .i64 0, .int .i64 0]] w fun e w' => e = .returned (.tuple #[.int .u32 Y, .bool true]) ∧ Below w.heap.size w w')
    (c5 : ∀ w : World, Calls Try.prog 14 #[.int .i64 q] w fun e w' => e = .returned (.string nm) ∧ Below w.heap.size w w')
    (c6 : ∀ w : World, Calls Try.prog 13 #[.string nm] w fun e w' => e = .returned (.int .i64 q) ∧ Below w.heap.size w w') (w : World) :
    Calls Try.prog 5 #[.int .u32 W1, .int .u32 V1, .int .i64 op] w fun e w' => e = .returned (.bool true) ∧ Below w.heap.size w w' := by
  go_enter Try.func5, Try.ntmps5
  cases p1 <;> cases p2
  case true.true =>
    have ht' := ht rfl rfl
    clear ht
    go_wp2_with (first | (go_at_call 9; (with_reducible refine (c3 _).mono ?_); rintro e w' ⟨rfl, hbl⟩; obtain ⟨hcw, hfw, hsw⟩ := below_ifs hbl; (try simp only [World.size_alloc, World.size_setCell, World.size_drew, size_drewN_] at hcw hfw hsw)) | (go_at_call 9; (with_reducible refine (c1 _).mono ?_); rintro e w' ⟨rfl, hbl⟩; obtain ⟨hcw, hfw, hsw⟩ := below_ifs hbl; (try simp only [World.size_alloc, World.size_setCell, World.size_drew, size_drewN_] at hcw hfw hsw)) | (go_at_call 9; (with_reducible refine (c2 _).mono ?_); rintro e w' ⟨rfl, hbl⟩; obtain ⟨hcw, hfw, hsw⟩ := below_ifs hbl; (try simp only [World.size_alloc, World.size_setCell, World.size_drew, size_drewN_] at hcw hfw hsw)) | (go_at_call 7; (with_reducible refine (c4 _).mono ?_); rintro e w' ⟨rfl, hbl⟩; obtain ⟨hcw, hfw, hsw⟩ := below_ifs hbl; (try simp only [World.size_alloc, World.size_setCell, World.size_drew, size_drewN_] at hcw hfw hsw)) | (go_at_call 14; (with_reducible refine (c5 _).mono ?_); rintro e w' ⟨rfl, hbl⟩; obtain ⟨hcw, hfw, hsw⟩ := below_ifs hbl; (try simp only [World.size_alloc, World.size_setCell, World.size_drew, size_drewN_] at hcw hfw hsw)) | (go_at_call 13; (with_reducible refine (c6 _).mono ?_); rintro e w' ⟨rfl, hbl⟩; obtain ⟨hcw, hfw, hsw⟩ := below_ifs hbl; (try simp only [World.size_alloc, World.size_setCell, World.size_drew, size_drewN_] at hcw hfw hsw)) | (go_at_call 11; (with_reducible refine (one_any _).mono ?_); rintro e w' ⟨rfl, hbl⟩; obtain ⟨hcw, hfw, hsw⟩ := below_ifs hbl; (try simp only [World.size_alloc, World.size_setCell, World.size_drew, size_drewN_] at hcw hfw hsw)))
    go_ret
    exact ⟨ret_bool (by simp), by (repeat (first | with_reducible exact Below.refl _ _ | with_reducible assumption | with_reducible refine below_drewN ?_ _ | with_reducible refine Below.drew ?_ | with_reducible refine below_alloc ?_ _ | (with_reducible refine Below.setCell ?_ (by first | (simp; done) | omega | (simp; omega)) _) | with_reducible refine belows ?_ (by assumption)))⟩
  all_goals
    clear ht
    go_wp2_with (first | (go_at_call 9; (with_reducible refine (c3 _).mono ?_); rintro e w' ⟨rfl, hbl⟩; obtain ⟨hcw, hfw, hsw⟩ := below_ifs hbl; (try simp only [World.size_alloc, World.size_setCell, World.size_drew, size_drewN_] at hcw hfw hsw)) | (go_at_call 9; (with_reducible refine (c1 _).mono ?_); rintro e w' ⟨rfl, hbl⟩; obtain ⟨hcw, hfw, hsw⟩ := below_ifs hbl; (try simp only [World.size_alloc, World.size_setCell, World.size_drew, size_drewN_] at hcw hfw hsw)) | (go_at_call 9; (with_reducible refine (c2 _).mono ?_); rintro e w' ⟨rfl, hbl⟩; obtain ⟨hcw, hfw, hsw⟩ := below_ifs hbl; (try simp only [World.size_alloc, World.size_setCell, World.size_drew, size_drewN_] at hcw hfw hsw)) | (go_at_call 7; (with_reducible refine (c4 _).mono ?_); rintro e w' ⟨rfl, hbl⟩; obtain ⟨hcw, hfw, hsw⟩ := below_ifs hbl; (try simp only [World.size_alloc, World.size_setCell, World.size_drew, size_drewN_] at hcw hfw hsw)) | (go_at_call 14; (with_reducible refine (c5 _).mono ?_); rintro e w' ⟨rfl, hbl⟩; obtain ⟨hcw, hfw, hsw⟩ := below_ifs hbl; (try simp only [World.size_alloc, World.size_setCell, World.size_drew, size_drewN_] at hcw hfw hsw)) | (go_at_call 13; (with_reducible refine (c6 _).mono ?_); rintro e w' ⟨rfl, hbl⟩; obtain ⟨hcw, hfw, hsw⟩ := below_ifs hbl; (try simp only [World.size_alloc, World.size_setCell, World.size_drew, size_drewN_] at hcw hfw hsw)) | (go_at_call 11; (with_reducible refine (one_any _).mono ?_); rintro e w' ⟨rfl, hbl⟩; obtain ⟨hcw, hfw, hsw⟩ := below_ifs hbl; (try simp only [World.size_alloc, World.size_setCell, World.size_drew, size_drewN_] at hcw hfw hsw)))
    go_ret
    exact ⟨ret_bool (by simp), by (repeat (first | with_reducible exact Below.refl _ _ | with_reducible assumption | with_reducible refine below_drewN ?_ _ | with_reducible refine Below.drew ?_ | with_reducible refine below_alloc ?_ _ | (with_reducible refine Below.setCell ?_ (by first | (simp; done) | omega | (simp; omega)) _) | with_reducible refine belows ?_ (by assumption)))⟩

theorem op_in (op : Int) : ∃ k : Nat, k < 69 ∧ wrap64 (1 + (wrap64 (op.tmod 69 + 69)).tmod 69) = (k : Int) + 1 := by
  have h1 : -69 < op.tmod 69 ∧ op.tmod 69 < 69 := ⟨by have := Int.lt_tmod_of_pos op (b := 69) (by decide); omega, Int.tmod_lt_of_pos op (by decide)⟩
  generalize op.tmod 69 = x at h1
  have e1 : wrap64 (x + 69) = x + 69 := by unfold wrap64; omega
  rw [e1]
  have h2 : 0 ≤ (x + 69).tmod 69 ∧ (x + 69).tmod 69 < 69 := ⟨Int.tmod_nonneg _ (by omega), Int.tmod_lt_of_pos _ (by decide)⟩
  generalize (x + 69).tmod 69 = y at h2
  refine ⟨y.toNat, by omega, ?_⟩
  unfold wrap64
  omega
theorem same_iff {w v : BitVec 64} {a b : Ins} (hw : w.toNat < 2 ^ 32) (hv : v.toNat < 2 ^ 32) (h1 : decF w = some a) (h2 : decF v = some b) :
    (!((a.op == b.op && S a.rd == S b.rd && S a.r1 == S b.r1 && S a.r2 == S b.r2 && S a.imm == S b.imm) == (U w == U v))) = false := by
  rw [S_beq, S_beq, S_beq, S_beq, U_beq]
  have e1 := decF_back hw h1
  have e2 := decF_back hv h2
  rw [Bool.not_eq_false', beq_iff_eq, Bool.eq_iff_iff]
  simp only [Bool.and_eq_true, beq_iff_eq]
  constructor
  · rintro ⟨⟨⟨⟨x1, x2⟩, x3⟩, x4⟩, x5⟩
    have : a = b := by
      cases a; cases b
      simp only at x1 x2 x3 x4 x5
      subst x1; subst x2; subst x3; subst x4; subst x5
      rfl
    rw [this] at e1
    exact Option.some.inj (e1.symm.trans e2)
  · rintro rfl
    obtain rfl : a = b := Option.some.inj (h1.symm.trans h2)
    simp
theorem dec_ex (y : BitVec 64) : ∃ (o : Int) (d a b m : BitVec 64) (p : Bool), (∀ w : World, Calls Try.prog 9 #[.int .u32 (U y)] w fun e w' => e = .returned (.tuple #[.agg #[.int .i64 o, .int .i64 (S d), .int .i64 (S a), .int .i64 (S b), .int .i64 (S m)], .bool p]) ∧ Below w.heap.size w w') ∧ (p = true → decF y = some ⟨o, d, a, b, m⟩) := by
  cases h : decF y with
  | none => exact ⟨0, 0#64, 0#64, 0#64, 0#64, false, dec_no h, fun e => by cases e⟩
  | some i => exact ⟨i.op, i.rd, i.r1, i.r2, i.imm, true, dec_yes h, fun _ => rfl⟩
theorem walk (x y : BitVec 64) (op : Int) (hx : x.toNat < 2 ^ 32) (hy : y.toNat < 2 ^ 32) (w : World) : Calls Try.prog 5 #[.int .u32 (U x), .int .u32 (U y), .int .i64 op] w fun e w' => e = .returned (.bool true) ∧ Below w.heap.size w w' := by
  obtain ⟨o1, d1, a1, b1, m1, p1, c1, e1⟩ := dec_ex x
  obtain ⟨o2, d2, a2, b2, m2, p2, c2, e2⟩ := dec_ex y
  obtain ⟨k, hk, hop⟩ := op_in op
  obtain ⟨z, hz, ez, dz⟩ := zero_back hk
  have c3 := dec_yes dz
  have c4 := enc_yes ez hz
  have c5 := fun w => (name_any ((k : Int) + 1) w).mono (R' := fun e w' => e = .returned (.string (rowAt k).nm) ∧ Below w.heap.size w w') fun _ _ x => ⟨by rw [x.1, (name_in hk).1], x.2⟩
  have c6 := fun w => (find_any (rowAt k).nm w).mono (R' := fun e w' => e = .returned (.int .i64 ((k : Int) + 1)) ∧ Below w.heap.size w w') fun _ _ x => ⟨by rw [x.1, find_name hk], x.2⟩
  exact core (U x) (U y) op (U z) o1 (S d1) (S a1) (S b1) (S m1) o2 (S d2) (S a2) (S b2) (S m2) _ _ p1 p2 hop (fun h1 h2 => same_iff hx hy (e1 h1) (e2 h2)) c1 c2 c3 c4 c5 c6 w

theorem exists_U32 (n : Int) (h : (Lit.int .u32 n).wf = true) : ∃ x : BitVec 64, n = U x ∧ x.toNat < 2 ^ 32 := by
  have hx : 0 ≤ n ∧ n ≤ 4294967295 := by simpa [Lit.wf, IntKind.min, IntKind.max, IntKind.signed, IntKind.bits] using h
  refine ⟨BitVec.ofInt 64 n, ?_⟩
  unfold U
  rw [BitVec.toNat_ofInt]
  omega
set_option maxRecDepth 100000 in
theorem lifted (os : Os) (started : os.Started) (H : Type) (enc : TypeId × Value → H) :
    ReturnsInHanded {} Try.checked os 5 .any (Rows.instOneSpec.pre6 enc Try.prog Try.f5 Rows.instOneRow.domain false) (Rows.instOneSpec.post enc Try.prog Try.f5 false true false false) := by
  refine law_lift (C := Try.checked) (tb := 4) started (by kernel_rfl) (by kernel_rfl) Try.func5 rfl rfl Try.underlying4 (by kernel_rfl) (by kernel_rfl)
    (fun ds h => by match ds, h with | [_, _, _], _ => rfl)
    (ChangeSpec.witness6 (enc := enc) (C := Try.checked) false ⟨#[], #[.int .u32 0, .int .u32 0, .int .i64 0], []⟩ 8 (by kernel_rfl) (by kernel_rfl) (by kernel_rfl) (by kernel_rfl)) ?_
  intro W base args ds ps hval hA hlt hfz hsz
  rw [Try.params5] at hA hval hsz
  obtain ⟨v0, v1, v2, d0, d1, d2, p0, p1, p2, rfl, rfl, rfl, h0, h1, h2⟩ := trodAll_three hA
  obtain ⟨x0, rfl, rfl, rfl, w0⟩ := open_int Try.underlying24 (hval 0 _ v0 rfl rfl) h0
  obtain ⟨x1, rfl, rfl, rfl, w1⟩ := open_int Try.underlying24 (hval 1 _ v1 rfl rfl) h1
  obtain ⟨op, rfl, rfl, rfl, w2⟩ := open_int Try.underlying3 (hval 2 _ v2 rfl rfl) h2
  obtain ⟨x, rfl, hx⟩ := exists_U32 x0 w0
  obtain ⟨y, rfl, hy⟩ := exists_U32 x1 w1
  exact walk x y op hx hy W

theorem over : Rows.instOneRow.holds Try.pinned (OpenSpec.ofChange Rows.instOneSpec) :=
  OpenClaim.holds_of_wide 5 Try.f5 rfl rfl rfl rfl rfl rfl rfl ⟨rfl, rfl, rfl, rfl, rfl⟩ rfl rfl rfl rfl rfl (by kernel_rfl) Try.func5 (by kernel_rfl)
    (of_decide_eq_true (by kernel_rfl)) (by unfold Func.isWrapper; first | (rw [if_pos (by decide +kernel)]; kernel_rfl) | (rw [if_neg (by decide +kernel)]; exact ⟨rfl, rfl⟩))
    (fun os started H enc _ => lifted os started H enc)

theorem proved : Rows.InstOneSaid := over
end Go.Proofs.Ytokfokgbbpjgdaa.One
