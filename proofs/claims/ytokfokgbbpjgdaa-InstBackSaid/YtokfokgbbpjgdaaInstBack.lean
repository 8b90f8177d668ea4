
/-
  InstBack: the instruction of an instruction's word is it, but for what it has not; what is decoded has the word that it was decoded of. Every input.
-/
import Derived.Test.YtokfokgbbpjgdaaInstBackC
namespace Go.Proofs.Ytokfokgbbpjgdaa.Back
open Go Go.RowKit Go.ChangeShapes Go.WideShapes Go.ChangeAt
set_option linter.unusedVariables false
set_option linter.unusedSimpArgs false


theorem dec_enc (y : BitVec 64) (hy : y.toNat < 2 ^ 32) : ∃ (o : Int) (d a b m : BitVec 64) (p : Bool), (∀ w : World, Calls Try.prog 9 #[.int .u32 (U y)] w fun e w' => e = .returned (.tuple #[.agg #[.int .i64 o, .int .i64 (S d), .int .i64 (S a), .int .i64 (S b), .int .i64 (S m)], .bool p]) ∧ Below w.heap.size w w') ∧ (p = true → ∀ w : World, Calls Try.prog 7 #[.agg #[.int .i64 o, .int .i64 (S d), .int .i64 (S a), .int .i64 (S b), .int .i64 (S m)]] w fun e w' => e = .returned (.tuple #[.int .u32 (U y), .bool true]) ∧ Below w.heap.size w w') := by
  cases h : decF y with
  | none => exact ⟨0, 0#64, 0#64, 0#64, 0#64, false, dec_no h, fun e => by cases e⟩
  | some i => exact ⟨i.op, i.rd, i.r1, i.r2, i.imm, true, dec_yes h, fun _ => enc_yes (decF_back hy h) hy⟩
set_option maxHeartbeats 8000000 in
set_option maxRecDepth 100000 in
theorem walk (o : Int) (d a b m y : BitVec 64) (hy : y.toNat < 2 ^ 32) (w : World) : Calls Try.prog 6 #[.agg #[.int .i64 o, .int .i64 (S d), .int .i64 (S a), .int .i64 (S b), .int .i64 (S m)], .int .u32 (U y)] w fun e w' => e = .returned (.bool true) ∧ Below w.heap.size w w' := by
  obtain ⟨o2, d2, a2, b2, m2, p, c5, c6⟩ := dec_enc y hy
  by_cases hr : o < 1 ∨ 69 < o
  · have c1 := enc_no (o := o) (d := d) (a := a) (b := b) (m := m) (by unfold encF; rw [if_pos hr])
    have c4 := shape_any o
    have c7 := name_any o
    rw [(name_out hr).2] at c4
    rw [(name_out hr).1] at c7
    have c8 := find_any ⟨#[]⟩
    rw [find_none] at c8
    exact core_none1 o _ _ _ _ (U y) o2 _ _ _ _ 0 0 _ p rfl rfl c1 c4 c5 c6 c7 c8 w
  · obtain ⟨k, hk, rfl⟩ : ∃ k : Nat, k < 69 ∧ o = (k : Int) + 1 := ⟨(o - 1).toNat, by omega, by omega⟩
    have c4 := shape_any ((k : Int) + 1)
    have c7 := name_any ((k : Int) + 1)
    rw [(name_in hk).2] at c4
    rw [(name_in hk).1] at c7
    have c8 := find_any (rowAt k).nm
    rw [find_name hk] at c8
    have hF : ((k : Int) + 1 == 0) = false := by rw [beq_eq_false_iff_ne]; omega
    have hsh := rowAt_sh k hk
    cases hx : encF ⟨(k : Int) + 1, d, a, b, m⟩ with
    | none =>
      have hs : (((rowAt k).sh : Int) == 0) = false := by
        generalize (rowAt k).sh = s at hsh
        simp only [shapes, List.mem_cons, List.not_mem_nil, or_false] at hsh
        rcases hsh with rfl | rfl | rfl | rfl | rfl | rfl | rfl | rfl | rfl | rfl <;> rfl
      exact core_none0 _ _ _ _ _ (U y) o2 _ _ _ _ _ _ _ p hF hs (enc_no hx) c4 c5 c6 c7 c8 w
    | some x =>
      obtain ⟨j, hj, e, hlt, hd, he⟩ := encF_back hx
      obtain rfl : j = k := by
        have e' : (k : Int) + 1 = (j : Int) + 1 := e
        omega
      have c1 := enc_yes hx hlt
      unfold backI at hd he
      generalize (rowAt j).sh = s at hsh hd he c4
      generalize (rowAt j).nm = nm at c7 c8
      have z : S 0#64 = 0 := rfl
      simp only [shapes, List.mem_cons, List.not_mem_nil, or_false] at hsh
      rcases hsh with rfl | rfl | rfl | rfl | rfl | rfl | rfl | rfl | rfl | rfl
      · have hd2 : decF x = some ⟨(j : Int) + 1, d, a, b, 0#64⟩ := hd
        have he2 : encF ⟨(j : Int) + 1, d, a, b, 0#64⟩ = some x := he
        have c2 := dec_yes hd2
        have c3 := enc_yes he2 hlt
        clear hd he hd2 he2 hx
        rw [z] at c2 c3
        exact core_R _ _ _ _ _ (U x) (U y) o2 _ _ _ _ _ nm p hF c1 c2 c3 c4 c5 c6 c7 c8 w
      · have hd2 : decF x = some ⟨(j : Int) + 1, d, a, 0#64, 0#64⟩ := hd
        have he2 : encF ⟨(j : Int) + 1, d, a, 0#64, 0#64⟩ = some x := he
        have c2 := dec_yes hd2
        have c3 := enc_yes he2 hlt
        clear hd he hd2 he2 hx
        exact core_X _ _ _ _ _ (U x) (U y) o2 _ _ _ _ _ nm p hF _ _ _ _ _ rfl rfl rfl rfl c1 c2 c3 c4 c5 c6 c7 c8 w
      · have hd2 : decF x = some ⟨(j : Int) + 1, 0#64, 0#64, 0#64, 0#64⟩ := hd
        have he2 : encF ⟨(j : Int) + 1, 0#64, 0#64, 0#64, 0#64⟩ = some x := he
        have c2 := dec_yes hd2
        have c3 := enc_yes he2 hlt
        clear hd he hd2 he2 hx
        exact core_X _ _ _ _ _ (U x) (U y) o2 _ _ _ _ _ nm p hF _ _ _ _ _ rfl rfl rfl rfl c1 c2 c3 c4 c5 c6 c7 c8 w
      · have hd2 : decF x = some ⟨(j : Int) + 1, d, a, 0#64, m⟩ := hd
        have he2 : encF ⟨(j : Int) + 1, d, a, 0#64, m⟩ = some x := he
        have c2 := dec_yes hd2
        have c3 := enc_yes he2 hlt
        clear hd he hd2 he2 hx
        rw [z] at c2 c3
        exact core_I _ _ _ _ _ (U x) (U y) o2 _ _ _ _ _ nm p hF c1 c2 c3 c4 c5 c6 c7 c8 w
      · have hd2 : decF x = some ⟨(j : Int) + 1, d, a, 0#64, m⟩ := hd
        have he2 : encF ⟨(j : Int) + 1, d, a, 0#64, m⟩ = some x := he
        have c2 := dec_yes hd2
        have c3 := enc_yes he2 hlt
        clear hd he hd2 he2 hx
        exact core_X _ _ _ _ _ (U x) (U y) o2 _ _ _ _ _ nm p hF _ _ _ _ _ rfl rfl rfl rfl c1 c2 c3 c4 c5 c6 c7 c8 w
      · have hd2 : decF x = some ⟨(j : Int) + 1, d, a, 0#64, m⟩ := hd
        have he2 : encF ⟨(j : Int) + 1, d, a, 0#64, m⟩ = some x := he
        have c2 := dec_yes hd2
        have c3 := enc_yes he2 hlt
        clear hd he hd2 he2 hx
        exact core_X _ _ _ _ _ (U x) (U y) o2 _ _ _ _ _ nm p hF _ _ _ _ _ rfl rfl rfl rfl c1 c2 c3 c4 c5 c6 c7 c8 w
      · have hd2 : decF x = some ⟨(j : Int) + 1, 0#64, a, b, m⟩ := hd
        have he2 : encF ⟨(j : Int) + 1, 0#64, a, b, m⟩ = some x := he
        have c2 := dec_yes hd2
        have c3 := enc_yes he2 hlt
        clear hd he hd2 he2 hx
        exact core_X _ _ _ _ _ (U x) (U y) o2 _ _ _ _ _ nm p hF _ _ _ _ _ rfl rfl rfl rfl c1 c2 c3 c4 c5 c6 c7 c8 w
      · have hd2 : decF x = some ⟨(j : Int) + 1, 0#64, a, b, m⟩ := hd
        have he2 : encF ⟨(j : Int) + 1, 0#64, a, b, m⟩ = some x := he
        have c2 := dec_yes hd2
        have c3 := enc_yes he2 hlt
        clear hd he hd2 he2 hx
        rw [z] at c2 c3
        exact core_B _ _ _ _ _ (U x) (U y) o2 _ _ _ _ _ nm p hF c1 c2 c3 c4 c5 c6 c7 c8 w
      · have hd2 : decF x = some ⟨(j : Int) + 1, d, 0#64, 0#64, m⟩ := hd
        have he2 : encF ⟨(j : Int) + 1, d, 0#64, 0#64, m⟩ = some x := he
        have c2 := dec_yes hd2
        have c3 := enc_yes he2 hlt
        clear hd he hd2 he2 hx
        exact core_X _ _ _ _ _ (U x) (U y) o2 _ _ _ _ _ nm p hF _ _ _ _ _ rfl rfl rfl rfl c1 c2 c3 c4 c5 c6 c7 c8 w
      · have hd2 : decF x = some ⟨(j : Int) + 1, d, 0#64, 0#64, m⟩ := hd
        have he2 : encF ⟨(j : Int) + 1, d, 0#64, 0#64, m⟩ = some x := he
        have c2 := dec_yes hd2
        have c3 := enc_yes he2 hlt
        clear hd he hd2 he2 hx
        exact core_X _ _ _ _ _ (U x) (U y) o2 _ _ _ _ _ nm p hF _ _ _ _ _ rfl rfl rfl rfl c1 c2 c3 c4 c5 c6 c7 c8 w

theorem exists_U32 (n : Int) (h : (Lit.int .u32 n).wf = true) : ∃ x : BitVec 64, n = U x ∧ x.toNat < 2 ^ 32 := by
  have hx : 0 ≤ n ∧ n ≤ 4294967295 := by simpa [Lit.wf, IntKind.min, IntKind.max, IntKind.signed, IntKind.bits] using h
  refine ⟨BitVec.ofInt 64 n, ?_⟩
  unfold U
  rw [BitVec.toNat_ofInt]
  omega
set_option maxRecDepth 100000 in
theorem lifted (os : Os) (started : os.Started) (H : Type) (enc : TypeId × Value → H) :
    ReturnsInHanded {} Try.checked os 6 .any (Rows.instBackSpec.pre6 enc Try.prog Try.f6 Rows.instBackRow.domain false) (Rows.instBackSpec.post enc Try.prog Try.f6 false true false false) := by
  refine law_lift (C := Try.checked) (tb := 4) started (by kernel_rfl) (by kernel_rfl) Try.func6 rfl rfl Try.underlying4 (by kernel_rfl) (by kernel_rfl)
    (fun ds h => by match ds, h with | [_, _], _ => rfl)
    (ChangeSpec.witness6 (enc := enc) (C := Try.checked) false ⟨#[], #[.agg #[.int .i64 0, .int .i64 0, .int .i64 0, .int .i64 0, .int .i64 0], .int .u32 0], []⟩ 8 (by kernel_rfl) (by kernel_rfl) (by kernel_rfl) (by kernel_rfl)) ?_
  intro W base args ds ps hval hA hlt hfz hsz
  rw [Try.params6] at hA hval hsz
  obtain ⟨v0, v1, d0, d1, p0, p1, rfl, rfl, rfl, h0, h1⟩ := trodAll_two hA
  obtain ⟨o0, -, n0a, wa0, n0b, wb0, n0c, wc0, n0d, wd0, rfl⟩ := open_leaves (d := 5) (ls := [.int .i64, .int .i64, .int .i64, .int .i64, .int .i64]) (by kernel_rfl) (by kernel_rfl) (hval 0 _ v0 rfl rfl) h0
  obtain ⟨d0', rfl⟩ := exists_S n0a ((wf_i64 _).1 wa0)
  obtain ⟨a0', rfl⟩ := exists_S n0b ((wf_i64 _).1 wb0)
  obtain ⟨b0', rfl⟩ := exists_S n0c ((wf_i64 _).1 wc0)
  obtain ⟨m0', rfl⟩ := exists_S n0d ((wf_i64 _).1 wd0)
  obtain ⟨x1, rfl, rfl, rfl, w1⟩ := open_int Try.underlying24 (hval 1 _ v1 rfl rfl) h1
  obtain ⟨y, rfl, hy⟩ := exists_U32 x1 w1
  exact walk o0 d0' a0' b0' m0' y hy W

theorem over : Rows.instBackRow.holds Try.pinned (OpenSpec.ofChange Rows.instBackSpec) :=
  OpenClaim.holds_of_wide 6 Try.f6 rfl rfl rfl rfl rfl rfl rfl ⟨rfl, rfl, rfl, rfl, rfl⟩ rfl rfl rfl rfl rfl (by kernel_rfl) Try.func6 (by kernel_rfl)
    (of_decide_eq_true (by kernel_rfl)) (by unfold Func.isWrapper; first | (rw [if_pos (by decide +kernel)]; kernel_rfl) | (rw [if_neg (by decide +kernel)]; exact ⟨rfl, rfl⟩))
    (fun os started H enc _ => lifted os started H enc)

theorem proved : Rows.InstBackSaid := over
end Go.Proofs.Ytokfokgbbpjgdaa.Back
