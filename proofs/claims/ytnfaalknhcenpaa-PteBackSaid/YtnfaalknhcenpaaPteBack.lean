
/-
  PteBack: the entry of an entry's number is it, with its frame as it is kept; an address that may be is told by its indices and its offset. Every input.
-/
import Derived.Test.YtnfaalknhcenpaaRows
import Derived.Test.YtnfaalknhcenpaaLaw
import Derived.Test.YtnfaalknhcenpaaPteBackW
import Derived.Test.YtnfaalknhcenpaaWalk
import Derived.Deep.DeepCutAuto
import Derived.Outline
namespace Go.Proofs.Ytnfaalknhcenpaa.PteBack
open Go Go.RowKit Go.ChangeShapes Go.WideShapes Go.ChangeAt
set_option linter.unusedVariables false
set_option linter.unusedSimpArgs false

theorem word_here (e : Ent) (w : World) : Calls Try.prog 14 #[.agg #[.bool e.b0, .bool e.b1, .bool e.b2, .bool e.b3, .bool e.b4, .bool e.b5, .bool e.b6, .bool e.b7, .bool e.b8, .bool e.b9, .bool e.b10, .bool e.b11, .int .u64 (U e.f)]] w fun x w' => x = .returned (.int .u64 (U (orE e))) ∧ Below w.heap.size w w' :=
  (word_any e w).mono fun _ _ h => ⟨by rw [h.1, word_or], h.2⟩
theorem of_here (e : Ent) (w : World) : Calls Try.prog 13 #[.int .u64 (U (orE e))] w fun r w' => r = .returned (.agg #[.bool e.b0, .bool e.b1, .bool e.b2, .bool e.b3, .bool e.b4, .bool e.b5, .bool e.b6, .bool e.b7, .bool e.b8, .bool e.b9, .bool e.b10, .bool e.b11, .int .u64 (U (e.f &&& maskF 44))]) ∧ Below w.heap.size w w' :=
  (of_any (orE e) w).mono fun _ _ h => ⟨by rw [h.1, back_is], h.2⟩

theorem word_cut (e : Ent) (w : World) : Calls Try.prog 14 #[.agg #[.bool e.b0, .bool e.b1, .bool e.b2, .bool e.b3, .bool e.b4, .bool e.b5, .bool e.b6, .bool e.b7, .bool e.b8, .bool e.b9, .bool e.b10, .bool e.b11, .int .u64 (U (e.f &&& maskF 44))]] w fun x w' => x = .returned (.int .u64 (U (orE { e with f := e.f &&& maskF 44 }))) ∧ Below w.heap.size w w' := word_here { e with f := e.f &&& maskF 44 } w
theorem word_lit (w : World) : Calls Try.prog 14 #[.agg #[.bool false, .bool false, .bool false, .bool false, .bool false, .bool false, .bool false, .bool false, .bool false, .bool false, .bool false, .bool true, .int .u64 0]] w fun x w' => x = .returned (.int .u64 2305843009213693952) ∧ Below w.heap.size w w' :=
  (word_any ⟨false, false, false, false, false, false, false, false, false, false, false, true, 0#64⟩ w).mono fun _ _ h => ⟨by rw [h.1, word_or]; rfl, h.2⟩
theorem number_b (a : BitVec 64) (w : World) : Calls Try.prog 9 #[.int .u64 (U a)] w fun e w' => e = .returned (.int .u64 (U (a / 4096#64))) ∧ Below w.heap.size w w' := (number_any a w).mono fun _ _ h => ⟨h.1, by rw [← h.2]; exact Below.refl _ _⟩
theorem offset_b (a : BitVec 64) (w : World) : Calls Try.prog 10 #[.int .u64 (U a)] w fun e w' => e = .returned (.int .u64 (U (a % 4096#64))) ∧ Below w.heap.size w w' := (offset_any a w).mono fun _ _ h => ⟨h.1, by rw [← h.2]; exact Below.refl _ _⟩
theorem address_b (a : BitVec 64) (w : World) : Calls Try.prog 11 #[.int .u64 (U a)] w fun e w' => e = .returned (.int .u64 (U (a * 4096#64))) ∧ Below w.heap.size w w' := (address_any a w).mono fun _ _ h => ⟨h.1, by rw [← h.2]; exact Below.refl _ _⟩
theorem may_b (a : BitVec 64) (w : World) : Calls Try.prog 12 #[.int .u64 (U a)] w fun e w' => e = .returned (.bool (decide (U a < 274877906944))) ∧ Below w.heap.size w w' := (maybe_any a w).mono fun _ _ h => ⟨h.1, by rw [← h.2]; exact Below.refl _ _⟩
theorem page_sum (a : BitVec 64) : a / 4096#64 * 4096#64 + a % 4096#64 = a := by
  apply BitVec.eq_of_toNat_eq
  have h := a.isLt
  have h2 := Nat.div_add_mod a.toNat 4096
  rw [BitVec.toNat_add, BitVec.toNat_mul, BitVec.toNat_udiv, BitVec.toNat_umod]
  simp only [show (4096#64).toNat = 4096 from rfl]
  omega
theorem index_0 (a : BitVec 64) (w : World) : Calls Try.prog 7 #[.int .u64 (U a), .int .i64 0] w fun e w' => e = .returned (.int .i64 (S (getF a 12 9))) ∧ ∃ k, w.drewN k = w' := index_any a 0 w
theorem index_1 (a : BitVec 64) (w : World) : Calls Try.prog 7 #[.int .u64 (U a), .int .i64 1] w fun e w' => e = .returned (.int .i64 (S (getF a 21 9))) ∧ ∃ k, w.drewN k = w' := index_any a 1 w
theorem index_2 (a : BitVec 64) (w : World) : Calls Try.prog 7 #[.int .u64 (U a), .int .i64 2] w fun e w' => e = .returned (.int .i64 (S (getF a 30 9))) ∧ ∃ k, w.drewN k = w' := index_any a 2 w

set_option maxHeartbeats 8000000 in
set_option maxRecDepth 100000 in
theorem walk (e : Ent) (x : BitVec 64) (w : World) :
    Calls Try.prog 4 #[.agg #[.bool e.b0, .bool e.b1, .bool e.b2, .bool e.b3, .bool e.b4, .bool e.b5, .bool e.b6, .bool e.b7, .bool e.b8, .bool e.b9, .bool e.b10, .bool e.b11, .int .u64 (U e.f)], .int .u64 (U x)] w fun r w' => r = .returned (.bool true) ∧ Below w.heap.size w w' := by
  have hf : e.f % 17592186044416#64 = e.f &&& maskF 44 := rem_is e.f 44 17592186044416#64 (by omega) rfl
  go_enter Try.func4, Try.ntmps4
  go_upto_region 4 with (first | (go_at_call 14; (with_reducible refine (word_here _ _).mono ?_); rintro e w' ⟨rfl, hbl⟩; obtain ⟨hcw, hfw, hsw⟩ := below_facts hbl; try (have hsx := hsw; simp only [World.size_alloc] at hsx; have hsy := Nat.lt_of_succ_le hsx; try have hsz := Nat.lt_of_succ_lt hsy)) | ((go_at_call 13; (with_reducible refine (of_here _ _).mono ?_); rintro e w' ⟨rfl, hbl⟩; obtain ⟨hcw, hfw, hsw⟩ := below_facts hbl; try (have hsx := hsw; simp only [World.size_alloc] at hsx; have hsy := Nat.lt_of_succ_le hsx; try have hsz := Nat.lt_of_succ_lt hsy)); have hq : w.heap.size < w'.heap.size := by omega))
  go_cut [5, 6] (fun s5 s6 wx => ∃ c : Nat, s5 = .pointer (some ⟨c, 0, none⟩) ∧ s6 = .int .u64 (U (x % 274877906944#64 % 4096#64)) ∧ w.heap.size < c ∧ c < wx.heap.size ∧ Hid (Below w.heap.size w wx) ∧ Hid (wx.cell? ⟨w.heap.size, 0, none⟩ = some (.bool e.b0) ∧ wx.cell? ⟨w.heap.size, 1, none⟩ = some (.bool e.b1) ∧ wx.cell? ⟨w.heap.size, 2, none⟩ = some (.bool e.b2) ∧ wx.cell? ⟨w.heap.size, 3, none⟩ = some (.bool e.b3) ∧ wx.cell? ⟨w.heap.size, 4, none⟩ = some (.bool e.b4) ∧ wx.cell? ⟨w.heap.size, 5, none⟩ = some (.bool e.b5) ∧ wx.cell? ⟨w.heap.size, 6, none⟩ = some (.bool e.b6) ∧ wx.cell? ⟨w.heap.size, 7, none⟩ = some (.bool e.b7) ∧ wx.cell? ⟨w.heap.size, 8, none⟩ = some (.bool e.b8) ∧ wx.cell? ⟨w.heap.size, 9, none⟩ = some (.bool e.b9) ∧ wx.cell? ⟨w.heap.size, 10, none⟩ = some (.bool e.b10) ∧ wx.cell? ⟨w.heap.size, 11, none⟩ = some (.bool e.b11) ∧ wx.cell? ⟨w.heap.size, 12, none⟩ = some (.int .u64 (U (e.f &&& maskF 44)))) ∧ Hid (wx.cell? ⟨c, 0, none⟩ = some (.bool e.b0) ∧ wx.cell? ⟨c, 1, none⟩ = some (.bool e.b1) ∧ wx.cell? ⟨c, 2, none⟩ = some (.bool e.b2) ∧ wx.cell? ⟨c, 3, none⟩ = some (.bool e.b3) ∧ wx.cell? ⟨c, 4, none⟩ = some (.bool e.b4) ∧ wx.cell? ⟨c, 5, none⟩ = some (.bool e.b5) ∧ wx.cell? ⟨c, 6, none⟩ = some (.bool e.b6) ∧ wx.cell? ⟨c, 7, none⟩ = some (.bool e.b7) ∧ wx.cell? ⟨c, 8, none⟩ = some (.bool e.b8) ∧ wx.cell? ⟨c, 9, none⟩ = some (.bool e.b9) ∧ wx.cell? ⟨c, 10, none⟩ = some (.bool e.b10) ∧ wx.cell? ⟨c, 11, none⟩ = some (.bool e.b11) ∧ wx.cell? ⟨c, 12, none⟩ = some (.int .u64 (U (e.f &&& maskF 44)))))
  case first =>
    go_wp2_with (go_at_call 10; (with_reducible refine (offset_any _ _).mono ?_); rintro e w' ⟨rfl, rfl⟩)
    go_meet
    refine ⟨_, rfl, rfl, hq, by simp, Lib.hid ?_, Lib.hid ?_, Lib.hid ?_⟩
    · repeat (first | with_reducible exact Below.refl _ _ | with_reducible assumption | with_reducible refine below_drewN ?_ _ | with_reducible refine below_alloc ?_ _ | (with_reducible refine Below.setCell ?_ (by first | (simp; done) | omega) _) | with_reducible refine belows ?_ (by assumption))
    · refine ⟨?_, ?_, ?_, ?_, ?_, ?_, ?_, ?_, ?_, ?_, ?_, ?_, ?_⟩ <;> go_simp
    · refine ⟨?_, ?_, ?_, ?_, ?_, ?_, ?_, ?_, ?_, ?_, ?_, ?_, ?_⟩ <;> go_simp
  case rest =>
    obtain ⟨c, rfl, rfl, hc1, hc2, HB, H1, H2⟩ := hcut
    go_wp2_with fail
    refine wp_loop_rounds 4 ?_
    rw [rounds_succ]
    go_wp2_with (go_at_call 7; (with_reducible refine (index_0 _ _).mono ?_); rintro e w' ⟨rfl, kd, rfl⟩)
    rw [rounds_succ]
    go_wp2_with (go_at_call 7; (with_reducible refine (index_1 _ _).mono ?_); rintro e w' ⟨rfl, kd, rfl⟩)
    rw [rounds_succ]
    go_wp2_with (go_at_call 7; (with_reducible refine (index_2 _ _).mono ?_); rintro e w' ⟨rfl, kd, rfl⟩)
    rw [rounds_succ]
    go_wp2_with fail
    obtain ⟨p0, p1, p2, p3, p4, p5, p6, p7, p8, p9, p10, p11, p12⟩ := H1.out
    obtain ⟨q0, q1, q2, q3, q4, q5, q6, q7, q8, q9, q10, q11, q12⟩ := H2.out
    have hB := HB.out
    have hw0 : w.heap.size < wc.heap.size := by omega
    have hlt : (x % 274877906944#64).toNat < 274877906944 := by rw [BitVec.toNat_umod]; exact Nat.mod_lt _ (by decide)
    rw [parts_sum (x % 274877906944#64) hlt]
    have hd : x % 274877906944#64 / 4096#64 * 4096#64 + x % 274877906944#64 % 4096#64 = x % 274877906944#64 := page_sum _
    have hm : decide (U (x % 274877906944#64) < 274877906944) = true := by unfold U; simp; omega
    clear hlt
    refine wp_region_below (by kernel_rfl) (by kernel_rfl) (fun hcr hfr => ?_)
    (try simp only [World.size_alloc, World.size_setCell, size_drewN_] at hcr hfr)
    repeat (go_big_quiet_step ((first | (go_at_call 14; first | with_reducible exact Calls.regrown_of (word_lit _) | with_reducible exact regrown_k (word_lit _) | with_reducible exact regrown_1 (word_lit _) | with_reducible exact regrown_a (word_lit _)) | (go_at_call 14; first | with_reducible exact Calls.regrown_of (word_cut _ _) | with_reducible exact regrown_k (word_cut _ _) | with_reducible exact regrown_1 (word_cut _ _) | with_reducible exact regrown_a (word_cut _ _)) | (go_at_call 9; first | with_reducible exact Calls.regrown_of (number_b _ _) | with_reducible exact regrown_k (number_b _ _) | with_reducible exact regrown_1 (number_b _ _) | with_reducible exact regrown_a (number_b _ _)) | (go_at_call 11; first | with_reducible exact Calls.regrown_of (address_b _ _) | with_reducible exact regrown_k (address_b _ _) | with_reducible exact regrown_1 (address_b _ _) | with_reducible exact regrown_a (address_b _ _)) | (go_at_call 10; first | with_reducible exact Calls.regrown_of (offset_b _ _) | with_reducible exact regrown_k (offset_b _ _) | with_reducible exact regrown_1 (offset_b _ _) | with_reducible exact regrown_a (offset_b _ _)) | (go_at_call 12; first | with_reducible exact Calls.regrown_of (may_b _ _) | with_reducible exact regrown_k (may_b _ _) | with_reducible exact regrown_1 (may_b _ _) | with_reducible exact regrown_a (may_b _ _)))))
    refine wpQuiet_nil ?_
    intro w' hbl
    clear hcr hfr
    obtain ⟨hcw, hfw, hsw⟩ := below_ifs hbl; (try simp only [World.size_alloc, World.size_setCell, size_drewN_] at hcw hfw hsw)
    go_wp2_with fail
    go_ret
    exact ⟨rfl, belows (below_drewN HB.out _) hbl⟩

set_option maxRecDepth 100000 in
theorem lifted (os : Os) (started : os.Started) (H : Type) (enc : TypeId × Value → H) :
    ReturnsInHanded {} Try.checked os 4 .any (Rows.pteBackSpec.pre6 enc Try.prog Try.f4 Rows.pteBackRow.domain false) (Rows.pteBackSpec.post enc Try.prog Try.f4 false true false false) := by
  refine law_lift (C := Try.checked) (tb := 4) started (by kernel_rfl) (by kernel_rfl) Try.func4 rfl rfl Try.underlying4 (by kernel_rfl) (by kernel_rfl)
    (fun ds h => by match ds, h with | [_, _], _ => rfl)
    (ChangeSpec.witness6 (enc := enc) (C := Try.checked) false ⟨#[], #[.agg #[.bool false, .bool false, .bool false, .bool false, .bool false, .bool false, .bool false, .bool false, .bool false, .bool false, .bool false, .bool false, .int .u64 0], .int .u64 0], []⟩ 8 (by kernel_rfl) (by kernel_rfl) (by kernel_rfl) (by kernel_rfl)) ?_
  intro W base args ds ps hval hA hlt hfz hsz
  rw [Try.params4] at hA hval hsz
  obtain ⟨v0, v1, d0, d1, p0, p1, rfl, rfl, rfl, h0, h1⟩ := trodAll_two hA
  obtain ⟨e0, e1, e2, e3, e4, e5, e6, e7, e8, e9, e10, e11, nf, wf, rfl⟩ := open_leaves (d := 5) (ls := [.bool, .bool, .bool, .bool, .bool, .bool, .bool, .bool, .bool, .bool, .bool, .bool, .int .u64]) (by kernel_rfl) (by kernel_rfl) (hval 0 _ v0 rfl rfl) h0
  obtain ⟨a1, rfl, rfl, rfl, w1⟩ := open_int Try.underlying22 (hval 1 _ v1 rfl rfl) h1
  obtain ⟨f, rfl⟩ := exists_U nf wf
  obtain ⟨x, rfl⟩ := exists_U a1 w1
  exact walk ⟨e0, e1, e2, e3, e4, e5, e6, e7, e8, e9, e10, e11, f⟩ x W

theorem over : Rows.pteBackRow.holds Try.pinned (OpenSpec.ofChange Rows.pteBackSpec) :=
  OpenClaim.holds_of_wide 4 Try.f4 rfl rfl rfl rfl rfl rfl rfl ⟨rfl, rfl, rfl, rfl, rfl⟩ rfl rfl rfl rfl rfl (by kernel_rfl) Try.func4 (by kernel_rfl)
    (of_decide_eq_true (by kernel_rfl)) (by unfold Func.isWrapper; first | (rw [if_pos (by decide +kernel)]; kernel_rfl) | (rw [if_neg (by decide +kernel)]; exact ⟨rfl, rfl⟩))
    (fun os started H enc _ => lifted os started H enc)

theorem proved : Rows.PteBackSaid := over
end Go.Proofs.Ytnfaalknhcenpaa.PteBack
