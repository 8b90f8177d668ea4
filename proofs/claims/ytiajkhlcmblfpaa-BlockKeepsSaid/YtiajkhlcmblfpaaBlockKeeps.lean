
/-
  BlockKeeps: what was written last into a block is read of it, and of no other one; a call that fails changes nothing; and just as many fail as are to. Every input.
-/
import Derived.Test.YtiajkhlcmblfpaaLaw
import Derived.Test.YtiajkhlcmblfpaaDevW
import Derived.BigRegion
import Derived.BigQuiet
import Derived.Test.YtiajkhlcmblfpaaOnce
namespace Go.Proofs.Ytiajkhlcmblfpaa.Keeps
open Go Go.RowKit Go.ChangeShapes Go.WideShapes Go.ChangeAt
set_option linter.unusedVariables false
set_option linter.unusedSimpArgs false

/-- Two rows, and a device. -/
def St (w w' : World) (c bm q : Nat) (lf : Int) (f : Nat → ByteArray) (gx cx gy cy : Nat) (x y : ByteArray) : Prop :=
  DevAt w' c bm 3 q lf f ∧ RowS w' (c + 1) (.slice (some ⟨gx, 0, none⟩) 4096 cx) x ∧ RowS w' (c + 1) (.slice (some ⟨gy, 0, none⟩) 4096 cy) y ∧ Below w.heap.size w w' ∧ w.heap.size ≤ bm ∧ bm < c
theorem St.grown {w w' w2 : World} {c bm q q' : Nat} {lf lf' : Int} {f f' : Nat → ByteArray} {gx cx gy cy : Nat} {x y : ByteArray} (h : St w w' c bm q lf f gx cx gy cy x y) (hd : DevAt w2 c bm 3 q' lf' f') {row : Nat} (hg : w'.grownBy w2 (some row)) (hr : row = c ∨ row = bm) : St w w2 c bm q' lf' f' gx cx gy cy x y := by
  obtain ⟨a, b, d, e, i, j⟩ := h
  exact ⟨hd, b.grown hg (by omega), d.grown hg (by omega), e.grown hg e.size (fun k h => by cases h; omega), i, j⟩
theorem St.below {w w' w2 : World} {c bm q : Nat} {lf : Int} {f : Nat → ByteArray} {gx cx gy cy : Nat} {x y : ByteArray} (h : St w w' c bm q lf f gx cx gy cy x y) (hb : Below w'.heap.size w' w2) : St w w2 c bm q lf f gx cx gy cy x y := by
  obtain ⟨a, b, d, e, i, j⟩ := h
  exact ⟨a.below hb, b.below hb, d.below hb, e.trans (hb.mono e.size), i, j⟩
theorem conv_run {w : World} {g : Nat} {s : ByteArray} (h : Lib.Bytes w g 0 s) (hs : s.size = 4096) (cap : Nat) : (convert 26 9 (.slice (some ⟨g, 0, none⟩) 4096 cap)).run Try.prog w = .ok (.string s) w := by
  have := Lib.run_convert_whole (P := Try.prog) w 26 5 9 Try.underlying26 Try.underlying5 Try.underlying9 g 0 s h cap
  rw [hs] at this
  exact this
theorem conv_row {w : World} {n₀ g cap : Nat} {s : ByteArray} (h : RowS w n₀ (.slice (some ⟨g, 0, none⟩) 4096 cap) s) : (convert 26 9 (.slice (some ⟨g, 0, none⟩) 4096 cap)).run Try.prog w = .ok (.string s) w := conv_run h.bytes h.1 cap
theorem row_drew {w : World} {n₀ : Nat} {v : Value} {s : ByteArray} (h : RowS w n₀ v s) : RowS w.drew n₀ v s := h
set_option maxHeartbeats 8000000 in
set_option maxRecDepth 100000 in
theorem walk (a b : UInt8) (m : Int) (w : World) : Calls Try.prog 3 #[.int .u8 (a.toNat : Int), .int .u8 (b.toNat : Int), .int .i64 m] w fun r w' => r = .returned (.bool true) ∧ Below w.heap.size w w' := by
  go_enter Try.func3, Try.ntmps3
  go_wp2_with fail
  refine (dnew_good 3 (by decide) (by decide) _).mono ?_
  rintro e w' ⟨rfl, rfl⟩
  have hd := dev_made 3 w
  have hb0 : Below w.heap.size w ((w.alloc (.map #[] 0)).alloc (.cells #[.int .i64 (3 : Nat), .map (some w.heap.size), .int .i64 0] 48)) := ((Below.refl _ w).alloc (Nat.le_refl _) _).alloc (by simp) _
  go_wp2_with fail
  refine (full_any 0 0 0 a (.slice none 0 0) _).mono ?_
  rintro e w1 ⟨x, rfl, hb1, hx⟩
  obtain ⟨gx, cx, rfl, hgx, hgx2⟩ := hx.form
  go_wp2_with fail
  refine (full_any 0 0 7 b (.slice none 0 0) _).mono ?_
  rintro e w2 ⟨y, rfl, hb2, hy⟩
  obtain ⟨gy, cy, rfl, hgy, hgy2⟩ := hy.form
  have hs1 := hb1.size
  simp only [World.size_alloc] at hs1 hgx hx
  have HS : Hid (St w w2 (w.heap.size + 1) w.heap.size 0 0 (fun _ => zeroS) gx cx gy cy (fullS ((0 : Int) % 4096).toNat a) (fullS ((7 : Int) % 4096).toNat b)) :=
    Lib.hid ⟨(hd.below hb1).below hb2, (hx.below hb2).lower (by omega), hy.lower (by omega), (hb0.trans (hb1.mono (by simp; omega))).trans (hb2.mono (by omega)), Nat.le_refl _, by omega⟩
  generalize fullS ((0 : Int) % 4096).toNat a = X at HS
  generalize fullS ((7 : Int) % 4096).toNat b = Y at HS
  clear hd hb0 hx hy hb1 hb2
  go_wp2_with fail
  have hX := HS.out.2.1
  refine (dev_write HS.out.1 (by decide) (by decide) 0 (by decide) (by decide) gx 0 cx X hX.1 hX.src).mono ?_
  rintro e w3 ⟨rfl, hd3, hg3⟩
  have HS3 := Lib.hid (HS.out.grown hd3 hg3 (.inr rfl))
  clear hd3 hg3 HS hX
  go_wp2_with fail
  have hY := HS3.out.2.2.1
  refine (dev_write HS3.out.1 (by decide) (by decide) 2 (by decide) (by decide) gy 0 cy Y hY.1 hY.src).mono ?_
  rintro e w4 ⟨rfl, hd4, hg4⟩
  have HS4 := Lib.hid (HS3.out.grown hd4 hg4 (.inr rfl))
  clear hd4 hg4 HS3 hY
  go_wp2_with fail
  obtain ⟨j, hj⟩ : ∃ j : Nat, m % 8 = (j : Int) := ⟨(m % 8).toNat, by omega⟩
  have hj8 : j < 8 := by omega
  rw [hj]
  clear hj
  refine (dev_fail HS4.out.1 (j : Int)).mono ?_
  rintro e w5 ⟨rfl, hd5, hg5⟩
  have HS5 := Lib.hid (HS4.out.grown hd5 hg5 (.inl rfl))
  clear hd5 hg5 HS4
  generalize hF : (fun i => if i = 2 then Y else (fun i => if i = 0 then X else zeroS) i) = F at HS5
  have F0 : Hid (F 0 = X) := Lib.hid (by rw [← hF]; rfl)
  have F1 : Hid (F 1 = zeroS) := Lib.hid (by rw [← hF]; rfl)
  have F2 : Hid (F 2 = Y) := Lib.hid (by rw [← hF]; rfl)
  clear hF
  go_wp2_with fail
  go_loopw [11] (fun x wr => ∃ (k : Nat) (lf : Int), x = .int .i64 (k : Int) ∧ k ≤ j ∧ lf = (j : Int) - (k : Int) ∧ Hid (St w wr (w.heap.size + 1) w.heap.size 2 lf F gx cx gy cy X Y)) (fun x _ => j - (intOf x).toNat)
  case atStart => exact ⟨0, (j : Int), rfl, by omega, by simp, HS5⟩
  case round =>
    obtain ⟨k, lf, rfl, hk, hlf, HI⟩ := hrel
    clear HS5
    have hlf0 : 0 ≤ lf := by omega
    have hlf8 : lf ≤ 8 := by omega
    by_cases c : k < j
    · have hlf1 : 0 < lf := by omega
      have HN : Hid (lf - 1 = (j : Int) - ((k + 1 : Nat) : Int)) := Lib.hid (by omega)
      clear hlf
      by_cases d : k % 2 = 0
      · have d1 : ((k : Int) % 2 == 0) = true := by rw [beq_iff_eq]; omega
        have ct := dev_write_fail HI.out.1 0 (by decide) hlf1 (by omega) (some ⟨gy, 0, none⟩) cy
        clear d
        go_wp2_with fail
        refine ct.mono ?_
        rintro e w6 ⟨rfl, hd6, hg6⟩
        have HJ := Lib.hid (HI.out.grown hd6 hg6 (.inl rfl))
        clear hd6 hg6 ct HI
        go_wp2_with fail
        go_roundw
        case rel => exact ⟨k + 1, _, by go_num, by omega, HN.out, HJ⟩
        case measure => (simp [intOf]; omega)
      · have d1 : ((k : Int) % 2 == 0) = false := by rw [beq_eq_false_iff_ne]; omega
        have ct := dev_read_fail HI.out.1 2 (by decide) hlf1 (by omega)
        clear d
        go_wp2_with fail
        refine ct.mono ?_
        rintro e w6 ⟨rfl, hd6, hg6⟩
        have HJ := Lib.hid (HI.out.grown hd6 hg6 (.inl rfl))
        clear hd6 hg6 ct HI
        go_wp2_with fail
        go_roundw
        case rel => exact ⟨k + 1, _, by go_num, by omega, HN.out, HJ⟩
        case measure => (simp [intOf]; omega)
    · have hkj : j = k := by omega
      subst hkj
      have hl0 : lf ≤ 0 := by omega
      clear hlf hlf8
      go_wp2_with fail
      refine (dev_read HI.out.1 (by decide) 0 (by decide) hl0).mono ?_
      rintro e w6 ⟨gp, cp, rfl, hb6, hp⟩
      have HI6 := Lib.hid (HI.out.below hb6)
      have hs6 := hb6.size
      rw [F0.out] at hp
      go_wp2_with fail
      refine (dev_read HI6.out.1 (by decide) 2 (by decide) hl0).mono ?_
      rintro e w7 ⟨gq, cq, rfl, hb7, hq⟩
      have HI7 := Lib.hid (HI6.out.below hb7)
      have hs7 := hb7.size
      rw [F2.out] at hq
      go_wp2_with fail
      refine (dev_read HI7.out.1 (by decide) 1 (by decide) hl0).mono ?_
      rintro e w8 ⟨gz, cz, rfl, hb8, hz⟩
      have hs8 := hb8.size
      rw [F1.out] at hz
      have HQ := Lib.hid (And.intro ((hp.below hb7).below hb8) (And.intro (hq.below hb8) (And.intro hz (HI7.out.below hb8))))
      clear hp hq hz hb6 hb7 hb8 HI HI6 HI7
      have hba : Below w8.heap.size w8 ((w8.alloc (.cells zeroV 5)).drew) := Below.drew ((Below.refl _ _).alloc (Nat.le_refl _) _)
      have hmk : (Instr.makeSlice 26 (.int .i64 4096) (.int .i64 4096)).run Try.prog w8.drew = .ok (.slice (some ⟨w8.heap.size, 0, none⟩) 4096 4096) ((w8.alloc (.cells zeroV 5)).drew) := make_zero w8.drew
      have vp := conv_row (row_drew HQ.out.1)
      have vq := conv_row (row_drew HQ.out.2.1)
      have vz := conv_row (row_drew HQ.out.2.2.1)
      have vx := conv_row (row_drew HQ.out.2.2.2.2.1)
      have vy := conv_row (row_drew HQ.out.2.2.2.2.2.1)
      have ap := conv_row (HQ.out.1.below hba)
      have aq := conv_row (HQ.out.2.1.below hba)
      have az := conv_row (HQ.out.2.2.1.below hba)
      have ax := conv_row (HQ.out.2.2.2.2.1.below hba)
      have ay := conv_row (HQ.out.2.2.2.2.2.1.below hba)
      have an := conv_row (row_drew (zero_row w8 w8.heap.size (Nat.le_refl _)))
      go_wp2_with fail
      refine wp_region_once (d := 109) 27 1 (.slice (some ⟨w8.heap.size, 0, none⟩) 4096 4096) ((w8.alloc (.cells zeroV 5)).drew) (by kernel_rfl) (by kernel_rfl) rfl rfl (by kernel_rfl) (by kernel_rfl) (by kernel_rfl) hba ?_
      clear hba
      simp only [List.take_succ_cons, List.take_zero, List.drop_succ_cons, List.drop_zero]
      repeat (go_big_quiet_step (fail))
      refine wpQuiet_nil ⟨by kernel_rfl, (show Sem.run Try.prog (do pure (Next.value (← Instr.makeSlice 26 (.int .i64 4096) (.int .i64 4096)))) w8.drew = _ from by rw [Sem.run_bind, hmk]; rfl), ?_⟩
      simp only [Act.put, List.setIfInBounds_toArray, List.set_cons_succ, List.set_cons_zero]
      repeat (go_big_quiet_step (fail))
      refine wpQuiet_nil ?_
      repeat (go_big_quiet_step (fail))
      refine wpQuiet_nil (fun w' hbl => ?_)
      clear vp vq vz vx vy ap aq az ax ay an hmk
      go_wp2_with fail
      go_ret
      exact ⟨rfl, HQ.out.2.2.2.2.2.2.1.trans (hbl.mono HQ.out.2.2.2.2.2.2.1.size)⟩

theorem exists_byte (x : Int) (h : (Lit.int .u8 x).wf = true) : ∃ b : UInt8, x = (b.toNat : Int) := by
  have hx : 0 ≤ x ∧ x ≤ 255 := by simpa [Lit.wf, IntKind.min, IntKind.max, IntKind.signed, IntKind.bits] using h
  refine ⟨UInt8.ofNat x.toNat, ?_⟩
  rw [UInt8.toNat_ofNat']
  omega
set_option maxRecDepth 100000 in
theorem lifted (os : Os) (started : os.Started) (H : Type) (enc : TypeId × Value → H) :
    ReturnsInHanded {} Try.checked os 3 .any (Rows.blockKeepsSpec.pre6 enc Try.prog Try.f3 Rows.blockKeepsRow.domain false) (Rows.blockKeepsSpec.post enc Try.prog Try.f3 false true false false) := by
  refine law_lift (C := Try.checked) (tb := 4) started (by kernel_rfl) (by kernel_rfl) Try.func3 rfl rfl Try.underlying4 (by kernel_rfl) (by kernel_rfl)
    (fun ds h => by match ds, h with | [_, _, _], _ => rfl)
    (ChangeSpec.witness6 (enc := enc) (C := Try.checked) false ⟨#[], #[.int .u8 0, .int .u8 0, .int .i64 0], []⟩ 8 (by kernel_rfl) (by kernel_rfl) (by kernel_rfl) (by kernel_rfl)) ?_
  intro W base args ds ps hval hA hlt hfz hsz
  rw [Try.params3] at hA hval hsz
  obtain ⟨v0, v1, v2, d0, d1, d2, p0, p1, p2, rfl, rfl, rfl, h0, h1, h2⟩ := trodAll_three hA
  obtain ⟨a0, rfl, rfl, rfl, w0⟩ := open_int Try.underlying5 (hval 0 _ v0 rfl rfl) h0
  obtain ⟨a, rfl⟩ := exists_byte a0 w0
  obtain ⟨b0, rfl, rfl, rfl, w1⟩ := open_int Try.underlying5 (hval 1 _ v1 rfl rfl) h1
  obtain ⟨b, rfl⟩ := exists_byte b0 w1
  obtain ⟨m, rfl, rfl, rfl, w2⟩ := open_int Try.underlying3 (hval 2 _ v2 rfl rfl) h2
  exact walk a b m W

theorem over : Rows.blockKeepsRow.holds Try.pinned (OpenSpec.ofChange Rows.blockKeepsSpec) :=
  OpenClaim.holds_of_wide 3 Try.f3 rfl rfl rfl rfl rfl rfl rfl ⟨rfl, rfl, rfl, rfl, rfl⟩ rfl rfl rfl rfl rfl (by kernel_rfl) Try.func3 (by kernel_rfl)
    (of_decide_eq_true (by kernel_rfl)) (by unfold Func.isWrapper; first | (rw [if_pos (by decide +kernel)]; kernel_rfl) | (rw [if_neg (by decide +kernel)]; exact ⟨rfl, rfl⟩))
    (fun os started H enc _ => lifted os started H enc)

theorem proved : Rows.BlockKeepsSaid := over
end Go.Proofs.Ytiajkhlcmblfpaa.Keeps
