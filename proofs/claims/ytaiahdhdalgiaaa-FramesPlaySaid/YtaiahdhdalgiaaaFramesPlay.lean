
/-
  FramesPlay: under any steps a pool has the document's numbers, and tells its errors. Every input.
-/
import Derived.Test.YtaiahdhdalgiaaaLaw
import Derived.Test.YtaiahdhdalgiaaaFramesL
namespace Go.Proofs.Ytaiahdhdalgiaaa.Play
open Go Go.RowKit Go.ChangeShapes Go.WideShapes Go.ChangeAt
set_option linter.unusedVariables false
set_option linter.unusedSimpArgs false

theorem own_cell {w : World} {base n : Nat} {xs : List Value} {a : Option Addr} {cap : Nat} (h : w.ownsRow base 3 1 (.slice a n cap) n xs) (q : Nat) (hq : q < n) : ∃ g, a = some ⟨g, 0, none⟩ ∧ w.cell? ⟨g, q, none⟩ = xs[q]? ∧ g < w.heap.size := by
  obtain ⟨m, rfl⟩ : ∃ m, n = m + 1 := ⟨n - 1, by omega⟩
  obtain ⟨g, cap', e⟩ := ownsRow_succ h
  cases e
  exact ⟨g, rfl, World.ownsRow.cellAt h q (by omega), (World.ownsRow.lt h g rfl).2⟩
theorem valsN_at (l : List Nat) (q : Nat) (h : q < l.length) : (valsN l)[q]? = some (.int .i64 ((l.getD q 0 : Nat) : Int)) := by
  unfold valsN
  rw [List.getElem?_map, List.getD_eq_getElem?_getD, List.getElem?_eq_getElem h]
  rfl
theorem two_next : zerosF (openW 2 0#64) = 0 := by decide +kernel
theorem two_then : zerosF (openW 2 (0#64 ||| 1#64 <<< 0)) = 1 := by decide +kernel
set_option maxHeartbeats 4000000 in
set_option maxRecDepth 100000 in
theorem walk_bad (n : Int) (l : Value) (h : n < 1 ∨ 64 < n) (w : World) : Calls Try.prog 4 #[.int .i64 n, l] w fun r w' => r = .returned (.bool true) ∧ Below w.heap.size w w' := by
  go_enter Try.func4, Try.ntmps4
  go_wp2_with fail
  refine (new_bad n h _).mono ?_
  rintro e w' ⟨rfl, rfl⟩
  go_wp2_with fail
  refine (rnew_bad n h _).mono ?_
  rintro e w' ⟨rfl, rfl⟩
  go_wp2_with fail
  refine (new_good 2 (by decide) (by decide) _).mono ?_
  rintro e w' ⟨rfl, rfl⟩
  go_wp2_with fail
  refine (pool_take_one (PoolAt.made w 2) (by decide) (by decide) two_next (by decide)).mono ?_
  rintro e w1 ⟨rfl, hp1, hg1⟩
  go_wp2_with fail
  refine (pool_take_one hp1 (by decide) (by decide) two_then (by decide)).mono ?_
  rintro e w2 ⟨rfl, hp2, hg2⟩
  go_wp2_with fail
  go_ret
  exact ⟨rfl, (((Below.refl _ w).alloc (Nat.le_refl _) _).grown hg1 (by simp) (fun j h => by cases h; exact Nat.le_refl _)).grown hg2 (by have := hg1.size; simp at this; omega) (fun j h => by cases h; exact Nat.le_refl _)⟩
set_option maxHeartbeats 4000000 in
set_option maxRecDepth 100000 in
theorem walk_empty (n : Nat) (h1 : 0 < n) (h2 : n ≤ 64) (a : Option Addr) (cap : Nat) (w : World) : Calls Try.prog 4 #[.int .i64 (n : Int), .slice a 0 cap] w fun r w' => r = .returned (.bool true) ∧ Below w.heap.size w w' := by
  go_enter Try.func4, Try.ntmps4
  go_wp2_with fail
  refine (new_good n h1 h2 _).mono ?_
  rintro e w' ⟨rfl, rfl⟩
  have hp := PoolAt.made w n
  have hbw : Below w.heap.size w (w.alloc (.cells #[.int .i64 (n : Int), .int .u64 0] 27)) := (Below.refl _ w).alloc (Nat.le_refl _) _
  go_wp2_with fail
  refine (row_new h1 h2 _).mono ?_
  rintro e w1 ⟨g0, cap0, rfl, hb1, hr⟩
  have hp1 := hp.below hb1
  have hbw1 := hbw.trans (hb1.mono (by simp))
  clear hr hp hbw hb1
  have hsz := hbw1.size
  have hle := onesTo_len 0#64 n
  have cf := pool_free hp1 h1 h2 (bset_zero n)
  have ca := fun w' (hb' : Below w1.heap.size w1 w') => pool_all (hp1.below hb') h1 h2 (bset_zero n)
  generalize (onesTo 0#64 n).length = m at hle cf ca
  have hfin : ((n : Int) - (m : Int) + (m : Int) == (n : Int)) = true := by rw [beq_iff_eq]; omega
  clear hp1
  go_wp2_with fail
  refine wp_loop_rounds 1 ?_
  rw [rounds_succ]
  go_wp2_with fail
  refine cf.mono ?_
  rintro e w2 ⟨rfl, hb2⟩
  go_wp2_with fail
  refine (ca _ hb2).mono ?_
  rintro e w3 ⟨u3, rfl, hb3, ho3⟩
  obtain ⟨a3, c3, rfl⟩ := own_pos ho3
  go_wp2_with fail
  go_ret
  exact ⟨rfl, (hbw1.trans (hb2.mono hsz)).trans (hb3.mono (Nat.le_trans hsz hb2.size))⟩
def ListAt (w : World) (b off len : Nat) (f : Nat → Int) : Prop := ∀ k, k < len → w.cell? ⟨b, off + k, none⟩ = some (.int .i64 (f k))
set_option maxHeartbeats 4000000 in
set_option maxRecDepth 100000 in
theorem walk_good (n : Nat) (h1 : 0 < n) (h2 : n ≤ 64) (b off len cap : Nat) (f : Nat → Int) (w : World) (hcm : cap ≤ maxLen) (hlc : len ≤ cap) (hb : b < w.heap.size) (hl : ListAt w b off len f) : Calls Try.prog 4 #[.int .i64 (n : Int), .slice (some ⟨b, off, none⟩) len cap] w fun r w' => r = .returned (.bool true) ∧ Below w.heap.size w w' := by
  unfold maxLen at hcm
  go_enter Try.func4, Try.ntmps4
  go_wp2_with fail
  refine (new_good n h1 h2 _).mono ?_
  rintro e w' ⟨rfl, rfl⟩
  have hp := PoolAt.made w n
  have hbw : Below w.heap.size w (w.alloc (.cells #[.int .i64 (n : Int), .int .u64 0] 27)) := (Below.refl _ w).alloc (Nat.le_refl _) _
  go_wp2_with fail
  refine (row_new h1 h2 _).mono ?_
  rintro e w1 ⟨g0, cap0, rfl, hb1, hr⟩
  simp only [World.size_alloc] at hr
  have HR := Lib.hid (And.intro (bset_zero n) (And.intro (hp.below hb1) (And.intro hr (hbw.trans (hb1.mono (by simp))))))
  clear hp hbw hb1 hr
  go_wp2_with fail
  go_loopw [7, 15] (fun v x wr => ∃ (k : Nat) (t : BitVec 64) (g cp : Nat), x = .int .i64 (k : Int) ∧ k ≤ len ∧ v = .slice (some ⟨g, 0, none⟩) n cp ∧ Hid (bset n t ∧ PoolAt wr w.heap.size n t ∧ RowAt wr (w.heap.size + 1) g cp n t ∧ Below w.heap.size w wr)) (fun _ x _ => len - (intOf x).toNat)
  case atStart => exact ⟨0, 0#64, g0, cap0, rfl, by omega, rfl, HR⟩
  case round =>
    obtain ⟨k, t, g, cp, rfl, hk, rfl, HI⟩ := hrel
    clear HR
    by_cases c : k < len
    · by_cases c2 : k < 200
      · have hx := (HI.out.2.2.2.cell (p := ⟨b, off + k, none⟩) hb).trans (hl k c)
        generalize f k = v at hx
        clear hl
        have e200 : decide ((k : Int) < 200) = true := decide_eq_true (by omega)
        go_upto_if 92 with (fail)
        go_cut [7, 16, 17, 18, 19, 20, 21, 22] from 92 to 124 (fun s7 s16 s17 s18 s19 s20 s21 s22 wx => ∃ (t' : BitVec 64) (g' cp' : Nat) (e : Int), s7 = .slice (some ⟨g', 0, none⟩) n cp' ∧ s16 = .int .i64 e ∧ s17 = .int .i64 e ∧ Hid (bset n t' ∧ PoolAt wx w.heap.size n t' ∧ RowAt wx (w.heap.size + 1) g' cp' n t' ∧ Below w.heap.size w wx))
        case first =>
          have hsb := HI.out.1
          have hp := HI.out.2.1
          have hr := HI.out.2.2.1
          have hbw := HI.out.2.2.2
          have hsz := hbw.size
          by_cases d : v < 0
          · have d0 : decide (v < 0) = true := decide_eq_true d
            rcases next_cases n t h1 h2 with ⟨z1, z2⟩ | ⟨z, hz, z1, z2, z3⟩
            · have ct := pool_take_full hp h1 h2 z1
              have cr := fun w' q => row_take_full (w := w') (n := n) (t := t) (n₀ := w.heap.size + 1) (g := g) (cap := cp) q h2 z2
              clear z1 z2
              go_wp2_with fail
              refine ct.mono ?_
              rintro e w2 ⟨rfl, hp2, hg2⟩
              go_wp2_with fail
              refine (cr _ (hr.grown hg2 (by omega))).mono ?_
              rintro e w3 ⟨rfl, hb3⟩
              go_wp2_with fail
              go_meet
              exact ⟨t, g, cp, 15, rfl, rfl, rfl, Lib.hid ⟨hsb, hp2.below hb3, (hr.grown hg2 (by omega)).below hb3, (hbw.grown hg2 hsz (fun j h => by cases h; exact Nat.le_refl _)).trans (hb3.mono (Nat.le_trans hsz hg2.size))⟩⟩
            · have ct := pool_take_one hp h1 h2 z1 (by omega)
              have cr := fun w' q => row_take_one (w := w') (n := n) (t := t) (n₀ := w.heap.size + 1) (g := g) (cap := cp) q h2 z hz z2 z3
              clear z1 z2 z3
              have hzz : ((z : Int) != (z : Int)) = false := by simp
              go_wp2_with fail
              refine ct.mono ?_
              rintro e w2 ⟨rfl, hp2, hg2⟩
              go_wp2_with fail
              refine (cr _ (hr.grown hg2 (by omega))).mono ?_
              rintro e w3 ⟨g3, cp3, rfl, hb3, hr3⟩
              go_wp2_with fail
              go_meet
              exact ⟨_, g3, cp3, 0, rfl, rfl, rfl, Lib.hid ⟨bset_put hsb hz h2, hp2.below hb3, RowAt.lower hr3 (by have := hp2.1; omega), (hbw.grown hg2 hsz (fun j h => by cases h; exact Nat.le_refl _)).trans (hb3.mono (Nat.le_trans hsz hg2.size))⟩⟩
          · have d0 : decide (v < 0) = false := decide_eq_false d
            by_cases d2 : (n : Int) ≤ v
            · have ct := pool_give_bad hp h1 (v) (.inr d2)
              have cr := fun w' => row_give_bad (w := w') (n := n) (g := g) (cap := cp) h2 (v) (.inr d2)
              go_wp2_with fail
              refine ct.mono ?_
              rintro e w2 ⟨rfl, hp2, hg2⟩
              have hx2 : w2.cell? ⟨b, off + k, none⟩ = some (.int .i64 (v)) := (World.cell?_of_block (hg2.block b (by omega) (by intro e; cases e; omega))).trans hx
              go_wp2_with fail
              refine (cr _).mono ?_
              rintro e w3 ⟨rfl, hb3⟩
              go_wp2_with fail
              go_meet
              exact ⟨t, g, cp, 2, rfl, rfl, rfl, Lib.hid ⟨hsb, hp2.below hb3, (hr.grown hg2 (by omega)).below hb3, (hbw.grown hg2 hsz (fun j h => by cases h; exact Nat.le_refl _)).trans (hb3.mono (Nat.le_trans hsz hg2.size))⟩⟩
            · obtain ⟨j, rfl⟩ : ∃ j : Nat, v = (j : Int) := ⟨v.toNat, by omega⟩
              have hjn : j < n := by omega
              cases hbit : t.getLsbD j
              · have ct := pool_give_none hp h1 h2 j hjn hbit
                have cr := fun w' q => row_give_none (w := w') (n := n) (t := t) (n₀ := w.heap.size + 1) (g := g) (cap := cp) q h2 j hjn hbit
                clear hbit
                go_wp2_with fail
                refine ct.mono ?_
                rintro e w2 ⟨rfl, hp2, hg2⟩
                have hx2 : w2.cell? ⟨b, off + k, none⟩ = some (.int .i64 (j : Int)) := (World.cell?_of_block (hg2.block b (by omega) (by intro e; cases e; omega))).trans hx
                go_wp2_with fail
                refine (cr _ (hr.grown hg2 (by omega))).mono ?_
                rintro e w3 ⟨rfl, hb3⟩
                go_wp2_with fail
                go_meet
                exact ⟨t, g, cp, 13, rfl, rfl, rfl, Lib.hid ⟨hsb, hp2.below hb3, (hr.grown hg2 (by omega)).below hb3, (hbw.grown hg2 hsz (fun j h => by cases h; exact Nat.le_refl _)).trans (hb3.mono (Nat.le_trans hsz hg2.size))⟩⟩
              · have ct := pool_give_one hp h1 h2 j hjn hbit
                have cr := fun w' q => row_give_one (w := w') (n := n) (t := t) (n₀ := w.heap.size + 1) (g := g) (cap := cp) q h2 j hjn hbit
                clear hbit
                go_wp2_with fail
                refine ct.mono ?_
                rintro e w2 ⟨rfl, hp2, hg2⟩
                have hx2 : w2.cell? ⟨b, off + k, none⟩ = some (.int .i64 (j : Int)) := (World.cell?_of_block (hg2.block b (by omega) (by intro e; cases e; omega))).trans hx
                go_wp2_with fail
                refine (cr _ (hr.grown hg2 (by omega))).mono ?_
                rintro e w3 ⟨g3, cp3, rfl, hb3, hr3⟩
                go_wp2_with fail
                go_meet
                exact ⟨_, g3, cp3, 0, rfl, rfl, rfl, Lib.hid ⟨bset_drop hsb (by omega), hp2.below hb3, RowAt.lower hr3 (by have := hp2.1; omega), (hbw.grown hg2 hsz (fun j h => by cases h; exact Nat.le_refl _)).trans (hb3.mono (Nat.le_trans hsz hg2.size))⟩⟩
        case rest =>
          obtain ⟨t2, g2, cp2, e2, rfl, rfl, rfl, HC⟩ := hcut
          have hsb := HC.out.1
          have hp := HC.out.2.1
          have hr := HC.out.2.2.1
          have hbw := HC.out.2.2.2
          have hsz := hbw.size
          have hp0 := hp.1
          have hx2 := (hbw.cell (p := ⟨b, off + k, none⟩) hb).trans ((HI.out.2.2.2.cell (p := ⟨b, off + k, none⟩) hb).symm.trans hx)
          clear HI HC hx
          have hle := onesTo_len t2 n
          go_wp2_with fail
          refine (pool_all hp h1 h2 hsb).mono ?_
          rintro e w2 ⟨u2, rfl, hb2, ho2⟩
          go_wp2_with fail
          refine (row_all (hr.below hb2) h2).mono ?_
          rintro e w3 ⟨u3, rfl, hb3, ho3⟩
          obtain ⟨a2, c2, rfl⟩ := own_pos ho2
          obtain ⟨a3, c3, rfl⟩ := own_pos ho3
          have hp3 := (hp.below hb2).below hb3
          have cf := fun d os => pool_free (hp3.below (below_regrown w3 d os)) h1 h2 hsb
          have cn := fun d os i hi => pool_taken_no (hp3.below (below_regrown w3 d os)) h1 h2 i hi
          have ct := fun d os i hi => pool_taken_at (hp3.below (below_regrown w3 d os)) h1 h2 i hi
          have HK := Lib.hid (And.intro hsb (And.intro hp3 (And.intro ((hr.below hb2).below hb3) (And.intro (hbw.trans ((hb2.mono hsz).trans (hb3.mono (Nat.le_trans hsz hb2.size)))) (And.intro (owns_below ho2 hb3) ho3)))))
          have hx3 := (hb3.cell (p := ⟨b, off + k, none⟩) (by show b < _; have := hb2.size; omega)).trans ((hb2.cell (p := ⟨b, off + k, none⟩) (by show b < _; omega)).trans hx2)
          have hr3 := fun j hj => ((hr.below hb2).below hb3).cell j hj
          have hg3 := ((hr.below hb2).below hb3).lt.2
          have hb3s : b < w3.heap.size := by have := hb2.size; have := hb3.size; omega
          obtain ⟨m, hm⟩ : ∃ m, (onesTo t2 n).length = m := ⟨_, rfl⟩
          have HM := Lib.hid hm
          rw [hm] at hle HK ⊢
          simp only [hm] at cf
          clear hm
          have hee : (e2 != e2) = false := by simp
          have hmm : ((m : Int) != (m : Int)) = false := by simp
          have hnm : ((n : Int) - (m : Int) != (n : Int) - (m : Int)) = false := by simp
          clear hx2 hp hr hb2 ho2 hb3 ho3 hbw hsb hp3 hp0
          by_cases d : v < 0
          · have d0 : decide (0 ≤ v) = false := decide_eq_false (by omega)
            have cn' := fun dd os => cn dd os v (.inl d)
            clear cn ct hr3
            go_wp2_with fail
            refine wp_region_below (by kernel_rfl) (by kernel_rfl) (fun hcr hfr => ?_)
            (try simp only [World.size_alloc, World.size_setCell, World.size_drew, size_drewN_] at hcr hfr)
            repeat (go_big_quiet_step ((first | (go_at_call 8; first | with_reducible exact Calls.regrown_of (cf _ _) | with_reducible exact regrown_k (cf _ _) | with_reducible exact regrown_1 (cf _ _) | with_reducible exact regrown_a (cf _ _)) | (go_at_call 9; first | with_reducible exact Calls.regrown_of (cn' _ _) | with_reducible exact regrown_k (cn' _ _) | with_reducible exact regrown_1 (cn' _ _) | with_reducible exact regrown_a (cn' _ _)))))
            refine wpQuiet_nil ?_
            intro w' hbl
            clear hcr hfr
            obtain ⟨hcw, hfw, hsw⟩ := below_ifs hbl; (try simp only [World.size_alloc, World.size_setCell, World.size_drew, size_drewN_] at hcw hfw hsw)
            go_wp2_with fail
            go_loopw [25] (fun x wr => ∃ q : Nat, x = .int .i64 (q : Int) ∧ q ≤ m ∧ Hid (Below w3.heap.size w3 wr)) (fun x _ => m - (intOf x).toNat)
            case atStart => exact ⟨0, rfl, by omega, Lib.hid hbl⟩
            case round =>
              obtain ⟨q, rfl, hq, HB⟩ := hrel
              by_cases cq : q < m
              · obtain ⟨g5, rfl, q5, s5⟩ := own_cell HK.out.2.2.2.2.1 q cq
                obtain ⟨g6, rfl, q6, s6⟩ := own_cell HK.out.2.2.2.2.2 q cq
                have y5 := (HB.out.cell (p := ⟨g5, q, none⟩) s5).trans (q5.trans (valsN_at _ q (by rw [HM.out]; exact cq)))
                have y6 := (HB.out.cell (p := ⟨g6, q, none⟩) s6).trans (q6.trans (valsN_at _ q (by rw [HM.out]; exact cq)))
                clear q5 q6 s5 s6
                generalize (onesTo t2 n).getD q 0 = u at y5 y6
                have huu : ((u : Int) != (u : Int)) = false := by simp
                have i0 : (0 : Int) ≤ (q : Int) := by omega
                have i1 : (q : Int) < (m : Int) := by omega
                go_wp2_with fail
                go_quiet (fail)
                go_wp2_with fail
                go_roundw
                case rel => exact ⟨q + 1, by go_num, by omega, Lib.hid (below_drewN HB.out _)⟩
                case measure => (simp [intOf]; omega)
              · obtain rfl : q = m := by omega
                go_wp2_with fail
                go_roundw
                case rel => exact ⟨k + 1, t2, g2, cp2, by go_num, by omega, rfl, Lib.hid ⟨HK.out.1, HK.out.2.1.below HB.out, HK.out.2.2.1.below HB.out, HK.out.2.2.2.1.trans (HB.out.mono HK.out.2.2.2.1.size)⟩⟩
                case measure => (simp [intOf]; omega)
          · by_cases d2 : (n : Int) ≤ v
            · have d0 : decide (0 ≤ v) = true := decide_eq_true (by omega)
              have d1 : decide (v < (n : Int)) = false := decide_eq_false (by omega)
              have cn' := fun dd os => cn dd os v (.inr d2)
              clear cn ct hr3
              go_wp2_with fail
              refine wp_region_below (by kernel_rfl) (by kernel_rfl) (fun hcr hfr => ?_)
              (try simp only [World.size_alloc, World.size_setCell, World.size_drew, size_drewN_] at hcr hfr)
              repeat (go_big_quiet_step ((first | (go_at_call 8; first | with_reducible exact Calls.regrown_of (cf _ _) | with_reducible exact regrown_k (cf _ _) | with_reducible exact regrown_1 (cf _ _) | with_reducible exact regrown_a (cf _ _)) | (go_at_call 9; first | with_reducible exact Calls.regrown_of (cn' _ _) | with_reducible exact regrown_k (cn' _ _) | with_reducible exact regrown_1 (cn' _ _) | with_reducible exact regrown_a (cn' _ _)))))
              refine wpQuiet_nil ?_
              intro w' hbl
              clear hcr hfr
              obtain ⟨hcw, hfw, hsw⟩ := below_ifs hbl; (try simp only [World.size_alloc, World.size_setCell, World.size_drew, size_drewN_] at hcw hfw hsw)
              go_wp2_with fail
              go_loopw [25] (fun x wr => ∃ q : Nat, x = .int .i64 (q : Int) ∧ q ≤ m ∧ Hid (Below w3.heap.size w3 wr)) (fun x _ => m - (intOf x).toNat)
              case atStart => exact ⟨0, rfl, by omega, Lib.hid hbl⟩
              case round =>
                obtain ⟨q, rfl, hq, HB⟩ := hrel
                by_cases cq : q < m
                · obtain ⟨g5, rfl, q5, s5⟩ := own_cell HK.out.2.2.2.2.1 q cq
                  obtain ⟨g6, rfl, q6, s6⟩ := own_cell HK.out.2.2.2.2.2 q cq
                  have y5 := (HB.out.cell (p := ⟨g5, q, none⟩) s5).trans (q5.trans (valsN_at _ q (by rw [HM.out]; exact cq)))
                  have y6 := (HB.out.cell (p := ⟨g6, q, none⟩) s6).trans (q6.trans (valsN_at _ q (by rw [HM.out]; exact cq)))
                  clear q5 q6 s5 s6
                  generalize (onesTo t2 n).getD q 0 = u at y5 y6
                  have huu : ((u : Int) != (u : Int)) = false := by simp
                  have i0 : (0 : Int) ≤ (q : Int) := by omega
                  have i1 : (q : Int) < (m : Int) := by omega
                  go_wp2_with fail
                  go_quiet (fail)
                  go_wp2_with fail
                  go_roundw
                  case rel => exact ⟨q + 1, by go_num, by omega, Lib.hid (below_drewN HB.out _)⟩
                  case measure => (simp [intOf]; omega)
                · obtain rfl : q = m := by omega
                  go_wp2_with fail
                  go_roundw
                  case rel => exact ⟨k + 1, t2, g2, cp2, by go_num, by omega, rfl, Lib.hid ⟨HK.out.1, HK.out.2.1.below HB.out, HK.out.2.2.1.below HB.out, HK.out.2.2.2.1.trans (HB.out.mono HK.out.2.2.2.1.size)⟩⟩
                  case measure => (simp [intOf]; omega)
            · obtain ⟨j, rfl⟩ : ∃ j : Nat, v = (j : Int) := ⟨v.toNat, by omega⟩
              have hjn : j < n := by omega
              have d0 : decide (0 ≤ (j : Int)) = true := decide_eq_true (by omega)
              have d1 : decide (j < n) = true := decide_eq_true hjn
              have j0 : (0 : Int) ≤ (j : Int) := by omega
              have j1 : (j : Int) < (n : Int) := by omega
              have ct' := fun dd os => ct dd os j hjn
              have hrj := hr3 j hjn
              clear cn ct hr3
              generalize t2.getLsbD j = bt at ct' hrj
              have hbb : (bt != bt) = false := by simp
              go_wp2_with fail
              refine wp_region_below (by kernel_rfl) (by kernel_rfl) (fun hcr hfr => ?_)
              (try simp only [World.size_alloc, World.size_setCell, World.size_drew, size_drewN_] at hcr hfr)
              repeat (go_big_quiet_step ((first | (go_at_call 8; first | with_reducible exact Calls.regrown_of (cf _ _) | with_reducible exact regrown_k (cf _ _) | with_reducible exact regrown_1 (cf _ _) | with_reducible exact regrown_a (cf _ _)) | (go_at_call 9; first | with_reducible exact Calls.regrown_of (ct' _ _) | with_reducible exact regrown_k (ct' _ _) | with_reducible exact regrown_1 (ct' _ _) | with_reducible exact regrown_a (ct' _ _)))))
              refine wpQuiet_nil ?_
              intro w' hbl
              clear hcr hfr
              obtain ⟨hcw, hfw, hsw⟩ := below_ifs hbl; (try simp only [World.size_alloc, World.size_setCell, World.size_drew, size_drewN_] at hcw hfw hsw)
              go_wp2_with fail
              go_loopw [25] (fun x wr => ∃ q : Nat, x = .int .i64 (q : Int) ∧ q ≤ m ∧ Hid (Below w3.heap.size w3 wr)) (fun x _ => m - (intOf x).toNat)
              case atStart => exact ⟨0, rfl, by omega, Lib.hid hbl⟩
              case round =>
                obtain ⟨q, rfl, hq, HB⟩ := hrel
                by_cases cq : q < m
                · obtain ⟨g5, rfl, q5, s5⟩ := own_cell HK.out.2.2.2.2.1 q cq
                  obtain ⟨g6, rfl, q6, s6⟩ := own_cell HK.out.2.2.2.2.2 q cq
                  have y5 := (HB.out.cell (p := ⟨g5, q, none⟩) s5).trans (q5.trans (valsN_at _ q (by rw [HM.out]; exact cq)))
                  have y6 := (HB.out.cell (p := ⟨g6, q, none⟩) s6).trans (q6.trans (valsN_at _ q (by rw [HM.out]; exact cq)))
                  clear q5 q6 s5 s6
                  generalize (onesTo t2 n).getD q 0 = u at y5 y6
                  have huu : ((u : Int) != (u : Int)) = false := by simp
                  have i0 : (0 : Int) ≤ (q : Int) := by omega
                  have i1 : (q : Int) < (m : Int) := by omega
                  go_wp2_with fail
                  go_quiet (fail)
                  go_wp2_with fail
                  go_roundw
                  case rel => exact ⟨q + 1, by go_num, by omega, Lib.hid (below_drewN HB.out _)⟩
                  case measure => (simp [intOf]; omega)
                · obtain rfl : q = m := by omega
                  go_wp2_with fail
                  go_roundw
                  case rel => exact ⟨k + 1, t2, g2, cp2, by go_num, by omega, rfl, Lib.hid ⟨HK.out.1, HK.out.2.1.below HB.out, HK.out.2.2.1.below HB.out, HK.out.2.2.2.1.trans (HB.out.mono HK.out.2.2.2.1.size)⟩⟩
                  case measure => (simp [intOf]; omega)
      · have e200 : decide ((k : Int) < 200) = false := decide_eq_false (by omega)
        have hsb := HI.out.1
        have hp := HI.out.2.1
        have hbw := HI.out.2.2.2
        have hsz := hbw.size
        have hle := onesTo_len t n
        clear HI hl
        have cf := pool_free hp h1 h2 hsb
        have ca := fun w' (hb' : Below wr.heap.size wr w') => pool_all (hp.below hb') h1 h2 hsb
        generalize (onesTo t n).length = m at hle cf ca
        have hfin : ((n : Int) - (m : Int) + (m : Int) == (n : Int)) = true := by rw [beq_iff_eq]; omega
        clear hsb hp
        go_wp2_with fail
        refine cf.mono ?_
        rintro e w2 ⟨rfl, hb2⟩
        go_wp2_with fail
        refine (ca _ hb2).mono ?_
        rintro e w3 ⟨u3, rfl, hb3, ho3⟩
        obtain ⟨a3, c3, rfl⟩ := own_pos ho3
        go_wp2_with fail
        go_ret
        exact ⟨rfl, (hbw.trans (hb2.mono hsz)).trans (hb3.mono (Nat.le_trans hsz hb2.size))⟩
    · obtain rfl : k = len := by omega
      have hsb := HI.out.1
      have hp := HI.out.2.1
      have hbw := HI.out.2.2.2
      have hsz := hbw.size
      have hle := onesTo_len t n
      clear HI hl
      have cf := pool_free hp h1 h2 hsb
      have ca := fun w' (hb' : Below wr.heap.size wr w') => pool_all (hp.below hb') h1 h2 hsb
      generalize (onesTo t n).length = m at hle cf ca
      have hfin : ((n : Int) - (m : Int) + (m : Int) == (n : Int)) = true := by rw [beq_iff_eq]; omega
      clear hsb hp
      go_wp2_with fail
      refine cf.mono ?_
      rintro e w2 ⟨rfl, hb2⟩
      go_wp2_with fail
      refine (ca _ hb2).mono ?_
      rintro e w3 ⟨u3, rfl, hb3, ho3⟩
      obtain ⟨a3, c3, rfl⟩ := own_pos ho3
      go_wp2_with fail
      go_ret
      exact ⟨rfl, (hbw.trans (hb2.mono hsz)).trans (hb3.mono (Nat.le_trans hsz hb2.size))⟩

set_option maxRecDepth 100000 in
theorem lifted (os : Os) (started : os.Started) (H : Type) (enc : TypeId × Value → H) :
    ReturnsInHanded {} Try.checked os 4 .any (Rows.framesPlaySpec.pre6 enc Try.prog Try.f4 Rows.framesPlayRow.domain false) (Rows.framesPlaySpec.post enc Try.prog Try.f4 false true false false) := by
  refine law_lift (C := Try.checked) (tb := 4) started (by kernel_rfl) (by kernel_rfl) Try.func4 rfl rfl Try.underlying4 (by kernel_rfl) (by kernel_rfl)
    (fun ds h => by match ds, h with | [_, _], _ => rfl)
    (ChangeSpec.witness6 (enc := enc) (C := Try.checked) false ⟨#[], #[.int .i64 1, .slice none 0 0], []⟩ 8 (by kernel_rfl) (by kernel_rfl) (by kernel_rfl) (by kernel_rfl)) ?_
  intro W base args ds ps hval hA hlt hfz hsz
  rw [Try.params4] at hA hval hsz
  obtain ⟨v0, v1, d0, d1, p0, p1, rfl, rfl, rfl, h0, h1⟩ := trodAll_two hA
  obtain ⟨n, rfl, rfl, rfl, w0⟩ := open_int Try.underlying3 (hval 0 _ v0 rfl rfl) h0
  by_cases c : n < 1 ∨ 64 < n
  · exact walk_bad n v1 c W
  · obtain ⟨n, rfl⟩ : ∃ k : Nat, n = (k : Int) := ⟨n.toNat, by omega⟩
    rcases open_elems (d := 5) (ls := [.int .i64]) Try.underlying35 (by kernel_rfl) (by kernel_rfl) (by decide) (hval 1 _ v1 rfl rfl) h1 with ⟨a, cap, rfl, hcap⟩ | ⟨b, off, len, cap, rfl, hpos, hlc, hcm, hb, hel⟩
    · exact walk_empty n (by omega) (by omega) a cap W
    · have hx : ∀ i : Nat, ∃ z : Int, i < len → W.cell? ⟨b, off + i, none⟩ = some (.int .i64 z) := fun i => by
        by_cases ci : i < len
        · obtain ⟨z, _, hc⟩ := hel i ci
          exact ⟨z, fun _ => by have := hc 0 (by decide); simpa using this⟩
        · exact ⟨0, fun h => absurd h ci⟩
      exact walk_good n (by omega) (by omega) b off len cap (fun i => (hx i).choose) W hcm hlc hb (fun k hk => (hx k).choose_spec hk)

theorem over : Rows.framesPlayRow.holds Try.pinned (OpenSpec.ofChange Rows.framesPlaySpec) :=
  OpenClaim.holds_of_wide 4 Try.f4 rfl rfl rfl rfl rfl rfl rfl ⟨rfl, rfl, rfl, rfl, rfl⟩ rfl rfl rfl rfl rfl (by kernel_rfl) Try.func4 (by kernel_rfl)
    (of_decide_eq_true (by kernel_rfl)) (by unfold Func.isWrapper; first | (rw [if_pos (by decide +kernel)]; kernel_rfl) | (rw [if_neg (by decide +kernel)]; exact ⟨rfl, rfl⟩))
    (fun os started H enc _ => lifted os started H enc)

theorem proved : Rows.FramesPlaySaid := over
end Go.Proofs.Ytaiahdhdalgiaaa.Play
