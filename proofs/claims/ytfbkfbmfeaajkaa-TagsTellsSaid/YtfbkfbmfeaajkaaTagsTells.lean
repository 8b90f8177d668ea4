
/-
  TagsTells: any set has the document's granules, and with another one, or without it, and without others. Every input.
-/
import Derived.Test.YtfbkfbmfeaajkaaRows
import Derived.Test.YtfbkfbmfeaajkaaLaw
import Derived.Deep.CutRange
import Derived.Test.YtfbkfbmfeaajkaaTagsTake
namespace Go.Proofs.Ytfbkfbmfeaajkaa.Tells
open Go Go.RowKit Go.ChangeShapes Go.WideShapes Go.ChangeAt
set_option linter.unusedVariables false
set_option linter.unusedSimpArgs false

/-- A row of numbers, wherever it is. -/
def rowIs (w : World) (a : Option Addr) (L : List Nat) : Prop := ∀ j, j < L.length → ∃ g, a = some ⟨g, 0, none⟩ ∧ g < w.heap.size ∧ w.cell? ⟨g, j, none⟩ = some (.int .i64 ((L.getD j 0 : Nat) : Int))
theorem row_of {w : World} {base : Nat} {v : Value} {L : List Nat} (h : w.ownsRow base 3 1 v L.length (valsN L)) : ∃ (a : Option Addr) (cap : Nat), v = .slice a L.length cap ∧ rowIs w a L := by
  rcases h.2 with ⟨rfl, h0⟩ | ⟨g, cap, cur, rfl, -, hg, -⟩
  · exact ⟨none, 0, by rw [h0], fun j hj => by omega⟩
  · refine ⟨_, _, rfl, fun j hj => ⟨g, rfl, (Array.getElem?_eq_some_iff.1 hg).1, ?_⟩⟩
    have hc := h.cells (g := g) rfl j (.int .i64 ((L.getD j 0 : Nat) : Int)) (by unfold valsN; simp [hj])
    have hadd : (⟨g, 0, none⟩ : Addr).add j = ⟨g, j, none⟩ := by unfold Addr.add; split <;> simp_all
    rw [hadd] at hc
    exact hc
theorem row_below {w w' : World} {a : Option Addr} {L : List Nat} (h : rowIs w a L) (hb : Below w.heap.size w w') : rowIs w' a L := fun j hj => by
  obtain ⟨g, e, hg, hc⟩ := h j hj
  exact ⟨g, e, Nat.lt_of_lt_of_le hg hb.size, (hb.cell (p := ⟨g, j, none⟩) hg).trans hc⟩
theorem any_is (f : Nat → Bool) : anyS f = decide (0 < ((elemsN f 256).length : Int)) := by
  rw [elemsN_len]
  have hz : ∀ k, (wd f k == 0#64) = decide (cntN (fun j => f (64 * k + j)) 64 = 0) := fun k => by
    by_cases c : wd f k = 0#64
    · rw [c, decide_eq_true]
      · rfl
      · have h : cntN (fun j => f (64 * k + j)) 64 = cntN (fun _ => false) 64 := cntN_same 64 _ _ (fun j hj => by
          have e := congrArg (fun x => x.getLsbD j) c
          simp only [wd_bit _ _ _ hj, BitVec.getLsbD_zero] at e
          exact e)
        rw [h]
        decide
    · rw [beq_eq_false_iff_ne.2 c]
      symm
      rw [decide_eq_false]
      intro h0
      apply c
      exact wd_of fun j hj => by
        rw [BitVec.getLsbD_zero]
        have hle : ∀ n, (∀ i, i < n → i < 64) → cntN (fun j => f (64 * k + j)) n = 0 → ∀ i, i < n → f (64 * k + i) = false := by
          intro n
          induction n with
          | zero => intro _ _ i hi; omega
          | succ n ih =>
            intro hn hc i hi
            rw [cntN_add n 1] at hc
            by_cases e : i = n
            · subst e
              have : cntN (fun j => f (64 * k + (i + j))) 1 = 0 := by omega
              rw [cntN, cntN] at this
              rw [show i + 0 = i from rfl] at this
              cases hf : f (64 * k + i)
              · rfl
              · rw [hf] at this; simp at this
            · exact ih (fun i hi => hn i (by omega)) (by omega) i (by omega)
        exact (hle 64 (fun _ h => h) h0 j hj).symm
  have hs := count_is f
  unfold anyS
  rw [hz, hz, hz, hz]
  rw [show (256 : Nat) = 64 + (64 + (64 + 64)) from rfl, cntN_add 64, cntN_add 64, cntN_add 64]
  have e0 : cntN (fun j => f (64 * 0 + j)) 64 = cntN f 64 := cntN_same 64 _ _ (fun j _ => by rw [show 64 * 0 + j = j by omega])
  have e1 : cntN (fun j => f (64 * 1 + j)) 64 = cntN (fun j => f (64 + j)) 64 := rfl
  have e2 : cntN (fun j => f (64 * 2 + j)) 64 = cntN (fun j => f (64 + (64 + j))) 64 := cntN_same 64 _ _ (fun j _ => by rw [show 64 * 2 + j = 64 + (64 + j) by omega])
  have e3 : cntN (fun j => f (64 * 3 + j)) 64 = cntN (fun j => f (64 + (64 + (64 + j)))) 64 := cntN_same 64 _ _ (fun j _ => by rw [show 64 * 3 + j = 64 + (64 + (64 + j)) by omega])
  rw [e0, e1, e2, e3]
  generalize cntN f 64 = a
  generalize cntN (fun j => f (64 + j)) 64 = b
  generalize cntN (fun j => f (64 + (64 + j))) 64 = c
  generalize cntN (fun j => f (64 + (64 + (64 + j)))) 64 = d
  rw [Bool.eq_iff_iff]
  simp only [Bool.or_eq_true, Bool.not_eq_true', decide_eq_false_iff_not, decide_eq_true_eq]
  omega
theorem count_len (f : Nat → Bool) : cntI f = ((elemsN f 256).length : Int) := by rw [count_is, elemsN_len]
theorem count_five (w : World) : Calls Try.prog 12 #[.agg #[.int .u64 5, .int .u64 0, .int .u64 0, .int .u64 0]] w fun r w' => r = .returned (.int .i64 2) ∧ Below w.heap.size w w' := by
  have h := count_any (fun j => j == 0 || j == 2) w
  rw [show wd (fun j => j == 0 || j == 2) 0 = 5#64 by decide +kernel, show wd (fun j => j == 0 || j == 2) 1 = 0#64 by decide +kernel, show wd (fun j => j == 0 || j == 2) 2 = 0#64 by decide +kernel, show wd (fun j => j == 0 || j == 2) 3 = 0#64 by decide +kernel, show cntI (fun j => j == 0 || j == 2) = 2 by decide +kernel] at h
  exact h
set_option maxHeartbeats 16000000 in
set_option maxRecDepth 100000 in
theorem walk (f g : Nat → Bool) (i : Int) (w : World) : Calls Try.prog 4 #[.agg #[.int .u64 (U (wd f 0)), .int .u64 (U (wd f 1)), .int .u64 (U (wd f 2)), .int .u64 (U (wd f 3))], .agg #[.int .u64 (U (wd g 0)), .int .u64 (U (wd g 1)), .int .u64 (U (wd g 2)), .int .u64 (U (wd g 3))], .int .i64 i] w fun r w' => r = .returned (.bool true) ∧ Below w.heap.size w w' := by
  obtain ⟨L, hL⟩ : ∃ L, L = elemsN f 256 := ⟨_, rfl⟩
  have cc : ∀ w : World, Calls Try.prog 12 #[.agg #[.int .u64 (U (wd f 0)), .int .u64 (U (wd f 1)), .int .u64 (U (wd f 2)), .int .u64 (U (wd f 3))]] w fun r w' => r = .returned (.int .i64 (L.length : Int)) ∧ Below w.heap.size w w' := fun w => (count_any f w).mono fun _ _ q => ⟨by rw [q.1, count_len, hL], q.2⟩
  have ca : ∀ w : World, Calls Try.prog 13 #[.agg #[.int .u64 (U (wd f 0)), .int .u64 (U (wd f 1)), .int .u64 (U (wd f 2)), .int .u64 (U (wd f 3))]] w fun r w' => r = .returned (.bool (decide (0 < (L.length : Int)))) ∧ Below w.heap.size w w' := fun w => (any_any f w).mono fun _ _ q => ⟨by rw [q.1, any_is, hL], q.2⟩
  have hle : L.length ≤ 256 := by rw [hL]; exact elemsN_le f 256
  have cAll := all_any f
  have cRef := rall_any f
  rw [← hL] at cAll cRef
  clear hL
  have hwo := without_any f g
  obtain ⟨h, hh⟩ : ∃ h : Nat → Bool, h = fun j => f j && !g j := ⟨_, rfl⟩
  rw [← hh] at hwo
  have HH := Lib.hid hh
  clear hh
  go_enter Try.func4, Try.ntmps4
  go_upto_region 1 with (fail)
  go_cut [7] from 12 (fun s7 wx => ∃ (a1 : Option Addr) (p1 : Nat), s7 = .slice a1 L.length p1 ∧ w.heap.size + 1 < wx.heap.size ∧ Hid (Below w.heap.size w wx) ∧ Hid (rowIs wx a1 L) ∧ Hid (wx.cell? ⟨w.heap.size, 0, none⟩ = some (.int .u64 (U (wd f 0))) ∧ wx.cell? ⟨w.heap.size, 1, none⟩ = some (.int .u64 (U (wd f 1))) ∧ wx.cell? ⟨w.heap.size, 2, none⟩ = some (.int .u64 (U (wd f 2))) ∧ wx.cell? ⟨w.heap.size, 3, none⟩ = some (.int .u64 (U (wd f 3))) ∧ wx.cell? ⟨w.heap.size + 1, 0, none⟩ = some (.int .u64 (U (wd g 0))) ∧ wx.cell? ⟨w.heap.size + 1, 1, none⟩ = some (.int .u64 (U (wd g 1))) ∧ wx.cell? ⟨w.heap.size + 1, 2, none⟩ = some (.int .u64 (U (wd g 2))) ∧ wx.cell? ⟨w.heap.size + 1, 3, none⟩ = some (.int .u64 (U (wd g 3)))))
  case first =>
    go_wp2_with (go_at_call 10; refine (cAll _).mono ?_; rintro e' w' ⟨v, rfl, hbl, hown⟩; obtain ⟨a1, p1, rfl, hrow⟩ := row_of hown; obtain ⟨hcw, hfw, hsw⟩ := below_ifs hbl; (try simp only [World.size_alloc, World.size_setCell, World.size_drew, size_drewN_] at hcw hfw hsw))
    all_goals go_meet
    all_goals exact ⟨_, _, rfl, by first | omega | (simp; done) | (simp; omega), Lib.hid (by (repeat (first | with_reducible exact Below.refl _ _ | with_reducible assumption | with_reducible refine below_drewN ?_ _ | with_reducible refine Below.drew ?_ | with_reducible refine below_alloc ?_ _ | (with_reducible refine Below.setCell ?_ (by first | (simp; done) | omega | (simp; omega)) _) | with_reducible refine belows ?_ (by assumption)))), Lib.hid hrow, Lib.hid ⟨by (first | (first | (go_simp; done) | (go_simp; (simp [↓IntWalk.iteOmega]; done)) | (go_simp; intros; omega) | (go_simp; simp [↓IntWalk.iteOmega]; intros; omega)) | (go_simp; simp [*]) | (simp [*])), by (first | (first | (go_simp; done) | (go_simp; (simp [↓IntWalk.iteOmega]; done)) | (go_simp; intros; omega) | (go_simp; simp [↓IntWalk.iteOmega]; intros; omega)) | (go_simp; simp [*]) | (simp [*])), by (first | (first | (go_simp; done) | (go_simp; (simp [↓IntWalk.iteOmega]; done)) | (go_simp; intros; omega) | (go_simp; simp [↓IntWalk.iteOmega]; intros; omega)) | (go_simp; simp [*]) | (simp [*])), by (first | (first | (go_simp; done) | (go_simp; (simp [↓IntWalk.iteOmega]; done)) | (go_simp; intros; omega) | (go_simp; simp [↓IntWalk.iteOmega]; intros; omega)) | (go_simp; simp [*]) | (simp [*])), by (first | (first | (go_simp; done) | (go_simp; (simp [↓IntWalk.iteOmega]; done)) | (go_simp; intros; omega) | (go_simp; simp [↓IntWalk.iteOmega]; intros; omega)) | (go_simp; simp [*]) | (simp [*])), by (first | (first | (go_simp; done) | (go_simp; (simp [↓IntWalk.iteOmega]; done)) | (go_simp; intros; omega) | (go_simp; simp [↓IntWalk.iteOmega]; intros; omega)) | (go_simp; simp [*]) | (simp [*])), by (first | (first | (go_simp; done) | (go_simp; (simp [↓IntWalk.iteOmega]; done)) | (go_simp; intros; omega) | (go_simp; simp [↓IntWalk.iteOmega]; intros; omega)) | (go_simp; simp [*]) | (simp [*])), by (first | (first | (go_simp; done) | (go_simp; (simp [↓IntWalk.iteOmega]; done)) | (go_simp; intros; omega) | (go_simp; simp [↓IntWalk.iteOmega]; intros; omega)) | (go_simp; simp [*]) | (simp [*]))⟩⟩
  case rest =>
  obtain ⟨a1, p1, rfl, hs1, HB, HR1, HX⟩ := hcut
  obtain ⟨x0, x1, x2, x3, x4, x5, x6, x7⟩ := HX.out
  have hB := HB.out
  clear HB HX
  go_upto_region 2 with (fail)
  go_cut [8] from 14 (fun s8 wx => ∃ (a2 : Option Addr) (p2 : Nat), s8 = .slice a2 L.length p2 ∧ w.heap.size + 1 < wx.heap.size ∧ Hid (Below w.heap.size w wx) ∧ Hid (rowIs wx a1 L) ∧ Hid (rowIs wx a2 L) ∧ Hid (wx.cell? ⟨w.heap.size, 0, none⟩ = some (.int .u64 (U (wd f 0))) ∧ wx.cell? ⟨w.heap.size, 1, none⟩ = some (.int .u64 (U (wd f 1))) ∧ wx.cell? ⟨w.heap.size, 2, none⟩ = some (.int .u64 (U (wd f 2))) ∧ wx.cell? ⟨w.heap.size, 3, none⟩ = some (.int .u64 (U (wd f 3))) ∧ wx.cell? ⟨w.heap.size + 1, 0, none⟩ = some (.int .u64 (U (wd g 0))) ∧ wx.cell? ⟨w.heap.size + 1, 1, none⟩ = some (.int .u64 (U (wd g 1))) ∧ wx.cell? ⟨w.heap.size + 1, 2, none⟩ = some (.int .u64 (U (wd g 2))) ∧ wx.cell? ⟨w.heap.size + 1, 3, none⟩ = some (.int .u64 (U (wd g 3)))))
  case first =>
    go_wp2_with (go_at_call 11; refine (cRef _).mono ?_; rintro e' w' ⟨v, rfl, hbl, hown⟩; obtain ⟨a2, p2, rfl, hrow⟩ := row_of hown; obtain ⟨hcw, hfw, hsw⟩ := below_ifs hbl; (try simp only [World.size_alloc, World.size_setCell, World.size_drew, size_drewN_] at hcw hfw hsw))
    all_goals go_meet
    all_goals exact ⟨_, _, rfl, by first | omega | (simp; done) | (simp; omega), Lib.hid (by (repeat (first | with_reducible exact Below.refl _ _ | with_reducible assumption | with_reducible refine below_drewN ?_ _ | with_reducible refine Below.drew ?_ | with_reducible refine below_alloc ?_ _ | (with_reducible refine Below.setCell ?_ (by first | (simp; done) | omega | (simp; omega)) _) | with_reducible refine belows ?_ (by assumption)))), Lib.hid (row_below HR1.out hbl), Lib.hid hrow, Lib.hid ⟨by (first | (first | (go_simp; done) | (go_simp; (simp [↓IntWalk.iteOmega]; done)) | (go_simp; intros; omega) | (go_simp; simp [↓IntWalk.iteOmega]; intros; omega)) | (go_simp; simp [*]) | (simp [*])), by (first | (first | (go_simp; done) | (go_simp; (simp [↓IntWalk.iteOmega]; done)) | (go_simp; intros; omega) | (go_simp; simp [↓IntWalk.iteOmega]; intros; omega)) | (go_simp; simp [*]) | (simp [*])), by (first | (first | (go_simp; done) | (go_simp; (simp [↓IntWalk.iteOmega]; done)) | (go_simp; intros; omega) | (go_simp; simp [↓IntWalk.iteOmega]; intros; omega)) | (go_simp; simp [*]) | (simp [*])), by (first | (first | (go_simp; done) | (go_simp; (simp [↓IntWalk.iteOmega]; done)) | (go_simp; intros; omega) | (go_simp; simp [↓IntWalk.iteOmega]; intros; omega)) | (go_simp; simp [*]) | (simp [*])), by (first | (first | (go_simp; done) | (go_simp; (simp [↓IntWalk.iteOmega]; done)) | (go_simp; intros; omega) | (go_simp; simp [↓IntWalk.iteOmega]; intros; omega)) | (go_simp; simp [*]) | (simp [*])), by (first | (first | (go_simp; done) | (go_simp; (simp [↓IntWalk.iteOmega]; done)) | (go_simp; intros; omega) | (go_simp; simp [↓IntWalk.iteOmega]; intros; omega)) | (go_simp; simp [*]) | (simp [*])), by (first | (first | (go_simp; done) | (go_simp; (simp [↓IntWalk.iteOmega]; done)) | (go_simp; intros; omega) | (go_simp; simp [↓IntWalk.iteOmega]; intros; omega)) | (go_simp; simp [*]) | (simp [*])), by (first | (first | (go_simp; done) | (go_simp; (simp [↓IntWalk.iteOmega]; done)) | (go_simp; intros; omega) | (go_simp; simp [↓IntWalk.iteOmega]; intros; omega)) | (go_simp; simp [*]) | (simp [*]))⟩⟩
  case rest =>
  clear x0 x1 x2 x3 x4 x5 x6 x7
  obtain ⟨a2, p2, rfl, hs2, HB, HR1', HR2, HX⟩ := hcut
  obtain ⟨x0, x1, x2, x3, x4, x5, x6, x7⟩ := HX.out
  clear HX HR1
  have hB2 := HB.out
  clear HB hB
  generalize hn : L.length = n at cc ca hle
  go_wp2_with fail
  refine wp_region_below (by kernel_rfl) (by kernel_rfl) (fun hcr hfr => ?_)
  (try simp only [World.size_alloc, World.size_setCell, World.size_drew, size_drewN_] at hcr hfr)
  repeat (go_big_quiet_step ((first | (go_at_call 12; first | with_reducible exact Calls.regrown_of (cc _) | with_reducible exact regrown_k (cc _) | with_reducible exact regrown_1 (cc _) | with_reducible exact regrown_a (cc _)) | (go_at_call 13; first | with_reducible exact Calls.regrown_of (ca _) | with_reducible exact regrown_k (ca _) | with_reducible exact regrown_1 (ca _) | with_reducible exact regrown_a (ca _)) | (go_at_call 14; first | with_reducible exact Calls.regrown_of (get_any f i _) | with_reducible exact regrown_k (get_any f i _) | with_reducible exact regrown_1 (get_any f i _) | with_reducible exact regrown_a (get_any f i _)) | (go_at_call 15; first | with_reducible exact Calls.regrown_of (rget_any f i _) | with_reducible exact regrown_k (rget_any f i _) | with_reducible exact regrown_1 (rget_any f i _) | with_reducible exact regrown_a (rget_any f i _)) | (go_at_call 16; first | with_reducible exact Calls.regrown_of (with_any f i true _) | with_reducible exact regrown_k (with_any f i true _) | with_reducible exact regrown_1 (with_any f i true _) | with_reducible exact regrown_a (with_any f i true _)) | (go_at_call 17; first | with_reducible exact Calls.regrown_of (rwith_any f i true _) | with_reducible exact regrown_k (rwith_any f i true _) | with_reducible exact regrown_1 (rwith_any f i true _) | with_reducible exact regrown_a (rwith_any f i true _)) | (go_at_call 16; first | with_reducible exact Calls.regrown_of (with_any f i false _) | with_reducible exact regrown_k (with_any f i false _) | with_reducible exact regrown_1 (with_any f i false _) | with_reducible exact regrown_a (with_any f i false _)) | (go_at_call 17; first | with_reducible exact Calls.regrown_of (rwith_any f i false _) | with_reducible exact regrown_k (rwith_any f i false _) | with_reducible exact regrown_1 (rwith_any f i false _) | with_reducible exact regrown_a (rwith_any f i false _)))))
  refine wpQuiet_nil ?_
  intro w' hbl
  clear hcr hfr
  obtain ⟨hcw, hfw, hsw⟩ := below_ifs hbl; (try simp only [World.size_alloc, World.size_setCell, World.size_drew, size_drewN_] at hcw hfw hsw)
  have R1 := Lib.hid (row_below HR1'.out hbl)
  have R2 := Lib.hid (row_below HR2.out hbl)
  clear HR1' HR2
  go_wp2_with (first | (go_at_call 18; (with_reducible refine (hwo _).mono ?_); rintro e w' ⟨rfl, hbl⟩; obtain ⟨hcw, hfw, hsw⟩ := below_ifs hbl; (try simp only [World.size_alloc, World.size_setCell, World.size_drew, size_drewN_] at hcw hfw hsw)))
  have R3 := Lib.hid (row_below R1.out hbl)
  have R4 := Lib.hid (row_below R2.out hbl)
  clear R1 R2
  go_loopw [10] (fun i wr => ∃ k : Nat, i = .int .i64 (k : Int) ∧ k ≤ 256 ∧ Below w.heap.size w wr ∧ w.heap.size + 1 < wr.heap.size ∧ w'.heap.size < wr.heap.size ∧ Hid (rowIs wr a1 L) ∧ Hid (rowIs wr a2 L) ∧ wr.cell? ⟨w.heap.size, 0, none⟩ = some (.int .u64 (U (wd f 0))) ∧ wr.cell? ⟨w.heap.size, 1, none⟩ = some (.int .u64 (U (wd f 1))) ∧ wr.cell? ⟨w.heap.size, 2, none⟩ = some (.int .u64 (U (wd f 2))) ∧ wr.cell? ⟨w.heap.size, 3, none⟩ = some (.int .u64 (U (wd f 3))) ∧ wr.cell? ⟨w.heap.size + 1, 0, none⟩ = some (.int .u64 (U (wd g 0))) ∧ wr.cell? ⟨w.heap.size + 1, 1, none⟩ = some (.int .u64 (U (wd g 1))) ∧ wr.cell? ⟨w.heap.size + 1, 2, none⟩ = some (.int .u64 (U (wd g 2))) ∧ wr.cell? ⟨w.heap.size + 1, 3, none⟩ = some (.int .u64 (U (wd g 3))) ∧ wr.cell? ⟨w'.heap.size, 0, none⟩ = some (.int .u64 (U (wd h 0))) ∧ wr.cell? ⟨w'.heap.size, 1, none⟩ = some (.int .u64 (U (wd h 1))) ∧ wr.cell? ⟨w'.heap.size, 2, none⟩ = some (.int .u64 (U (wd h 2))) ∧ wr.cell? ⟨w'.heap.size, 3, none⟩ = some (.int .u64 (U (wd h 3)))) (fun i _ => 256 - (intOf i).toNat)
  case atStart => exact ⟨0, rfl, by omega, by (repeat (first | with_reducible exact Below.refl _ _ | with_reducible assumption | with_reducible refine below_drewN ?_ _ | with_reducible refine Below.drew ?_ | with_reducible refine below_alloc ?_ _ | (with_reducible refine Below.setCell ?_ (by first | (simp; done) | omega | (simp; omega)) _) | with_reducible refine belows ?_ (by assumption))), by first | omega | (simp; done) | (simp; omega), by first | omega | (simp; done) | (simp; omega), Lib.hid (row_below R3.out (Below.alloc (Below.refl _ _) (Nat.le_refl _) _)), Lib.hid (row_below R4.out (Below.alloc (Below.refl _ _) (Nat.le_refl _) _)), by (first | (first | (go_simp; done) | (go_simp; (simp [↓IntWalk.iteOmega]; done)) | (go_simp; intros; omega) | (go_simp; simp [↓IntWalk.iteOmega]; intros; omega)) | (go_simp; simp [*]) | (simp [*])), by (first | (first | (go_simp; done) | (go_simp; (simp [↓IntWalk.iteOmega]; done)) | (go_simp; intros; omega) | (go_simp; simp [↓IntWalk.iteOmega]; intros; omega)) | (go_simp; simp [*]) | (simp [*])), by (first | (first | (go_simp; done) | (go_simp; (simp [↓IntWalk.iteOmega]; done)) | (go_simp; intros; omega) | (go_simp; simp [↓IntWalk.iteOmega]; intros; omega)) | (go_simp; simp [*]) | (simp [*])), by (first | (first | (go_simp; done) | (go_simp; (simp [↓IntWalk.iteOmega]; done)) | (go_simp; intros; omega) | (go_simp; simp [↓IntWalk.iteOmega]; intros; omega)) | (go_simp; simp [*]) | (simp [*])), by (first | (first | (go_simp; done) | (go_simp; (simp [↓IntWalk.iteOmega]; done)) | (go_simp; intros; omega) | (go_simp; simp [↓IntWalk.iteOmega]; intros; omega)) | (go_simp; simp [*]) | (simp [*])), by (first | (first | (go_simp; done) | (go_simp; (simp [↓IntWalk.iteOmega]; done)) | (go_simp; intros; omega) | (go_simp; simp [↓IntWalk.iteOmega]; intros; omega)) | (go_simp; simp [*]) | (simp [*])), by (first | (first | (go_simp; done) | (go_simp; (simp [↓IntWalk.iteOmega]; done)) | (go_simp; intros; omega) | (go_simp; simp [↓IntWalk.iteOmega]; intros; omega)) | (go_simp; simp [*]) | (simp [*])), by (first | (first | (go_simp; done) | (go_simp; (simp [↓IntWalk.iteOmega]; done)) | (go_simp; intros; omega) | (go_simp; simp [↓IntWalk.iteOmega]; intros; omega)) | (go_simp; simp [*]) | (simp [*])), by (first | (first | (go_simp; done) | (go_simp; (simp [↓IntWalk.iteOmega]; done)) | (go_simp; intros; omega) | (go_simp; simp [↓IntWalk.iteOmega]; intros; omega)) | (go_simp; simp [*]) | (simp [*])), by (first | (first | (go_simp; done) | (go_simp; (simp [↓IntWalk.iteOmega]; done)) | (go_simp; intros; omega) | (go_simp; simp [↓IntWalk.iteOmega]; intros; omega)) | (go_simp; simp [*]) | (simp [*])), by (first | (first | (go_simp; done) | (go_simp; (simp [↓IntWalk.iteOmega]; done)) | (go_simp; intros; omega) | (go_simp; simp [↓IntWalk.iteOmega]; intros; omega)) | (go_simp; simp [*]) | (simp [*])), by (first | (first | (go_simp; done) | (go_simp; (simp [↓IntWalk.iteOmega]; done)) | (go_simp; intros; omega) | (go_simp; simp [↓IntWalk.iteOmega]; intros; omega)) | (go_simp; simp [*]) | (simp [*]))⟩
  case round =>
    obtain ⟨k, rfl, hk, hbw, sz1, sz2, R5, R6, y0, y1, y2, y3, y4, y5, y6, y7, y8, y9, y10, y11⟩ := hrel
    by_cases hlt : k < 256
    · have gl : ∀ w : World, Calls Try.prog 14 #[.agg #[.int .u64 (U (wd h 0)), .int .u64 (U (wd h 1)), .int .u64 (U (wd h 2)), .int .u64 (U (wd h 3))], .int .i64 (k : Int)] w fun r w' => r = .returned (.bool (f k && !g k)) ∧ Below w.heap.size w w' := fun w => (get_in h (k : Int) (by omega) (by omega) w).mono fun _ _ q => ⟨by rw [q.1, HH.out]; rfl, q.2⟩
      have gf : ∀ w : World, Calls Try.prog 14 #[.agg #[.int .u64 (U (wd f 0)), .int .u64 (U (wd f 1)), .int .u64 (U (wd f 2)), .int .u64 (U (wd f 3))], .int .i64 (k : Int)] w fun r w' => r = .returned (.bool (f k)) ∧ Below w.heap.size w w' := fun w => get_in f (k : Int) (by omega) (by omega) w
      have gg : ∀ w : World, Calls Try.prog 14 #[.agg #[.int .u64 (U (wd g 0)), .int .u64 (U (wd g 1)), .int .u64 (U (wd g 2)), .int .u64 (U (wd g 3))], .int .i64 (k : Int)] w fun r w' => r = .returned (.bool (g k)) ∧ Below w.heap.size w w' := fun w => get_in g (k : Int) (by omega) (by omega) w
      generalize f k = p at gl gf
      generalize g k = q at gl gg
      cases p <;> cases q
      all_goals
        simp only [Bool.not_true, Bool.not_false, Bool.and_true, Bool.and_false, Bool.true_and, Bool.false_and] at gl
        go_wp2_with fail
        refine wp_region_below (by kernel_rfl) (by kernel_rfl) (fun hcr hfr => ?_)
        (try simp only [World.size_alloc, World.size_setCell, World.size_drew, size_drewN_] at hcr hfr)
        repeat (go_big_quiet_step ((first | (go_at_call 14; first | with_reducible exact Calls.regrown_of (gl _) | with_reducible exact regrown_k (gl _) | with_reducible exact regrown_1 (gl _) | with_reducible exact regrown_a (gl _)) | (go_at_call 14; first | with_reducible exact Calls.regrown_of (gf _) | with_reducible exact regrown_k (gf _) | with_reducible exact regrown_1 (gf _) | with_reducible exact regrown_a (gf _)) | (go_at_call 14; first | with_reducible exact Calls.regrown_of (gg _) | with_reducible exact regrown_k (gg _) | with_reducible exact regrown_1 (gg _) | with_reducible exact regrown_a (gg _)))))
        refine wpQuiet_nil ?_
        intro w' hbl
        clear hcr hfr
        obtain ⟨hcw, hfw, hsw⟩ := below_ifs hbl; (try simp only [World.size_alloc, World.size_setCell, World.size_drew, size_drewN_] at hcw hfw hsw)
        go_wp2_with fail
        go_roundw
        case rel => exact ⟨k + 1, by go_num, by omega, by (repeat (first | with_reducible exact Below.refl _ _ | with_reducible assumption | with_reducible refine below_drewN ?_ _ | with_reducible refine Below.drew ?_ | with_reducible refine below_alloc ?_ _ | (with_reducible refine Below.setCell ?_ (by first | (simp; done) | omega | (simp; omega)) _) | with_reducible refine belows ?_ (by assumption))), by omega, by omega, Lib.hid (row_below R5.out hbl), Lib.hid (row_below R6.out hbl), by (first | (first | (go_simp; done) | (go_simp; (simp [↓IntWalk.iteOmega]; done)) | (go_simp; intros; omega) | (go_simp; simp [↓IntWalk.iteOmega]; intros; omega)) | (go_simp; simp [*]) | (simp [*])), by (first | (first | (go_simp; done) | (go_simp; (simp [↓IntWalk.iteOmega]; done)) | (go_simp; intros; omega) | (go_simp; simp [↓IntWalk.iteOmega]; intros; omega)) | (go_simp; simp [*]) | (simp [*])), by (first | (first | (go_simp; done) | (go_simp; (simp [↓IntWalk.iteOmega]; done)) | (go_simp; intros; omega) | (go_simp; simp [↓IntWalk.iteOmega]; intros; omega)) | (go_simp; simp [*]) | (simp [*])), by (first | (first | (go_simp; done) | (go_simp; (simp [↓IntWalk.iteOmega]; done)) | (go_simp; intros; omega) | (go_simp; simp [↓IntWalk.iteOmega]; intros; omega)) | (go_simp; simp [*]) | (simp [*])), by (first | (first | (go_simp; done) | (go_simp; (simp [↓IntWalk.iteOmega]; done)) | (go_simp; intros; omega) | (go_simp; simp [↓IntWalk.iteOmega]; intros; omega)) | (go_simp; simp [*]) | (simp [*])), by (first | (first | (go_simp; done) | (go_simp; (simp [↓IntWalk.iteOmega]; done)) | (go_simp; intros; omega) | (go_simp; simp [↓IntWalk.iteOmega]; intros; omega)) | (go_simp; simp [*]) | (simp [*])), by (first | (first | (go_simp; done) | (go_simp; (simp [↓IntWalk.iteOmega]; done)) | (go_simp; intros; omega) | (go_simp; simp [↓IntWalk.iteOmega]; intros; omega)) | (go_simp; simp [*]) | (simp [*])), by (first | (first | (go_simp; done) | (go_simp; (simp [↓IntWalk.iteOmega]; done)) | (go_simp; intros; omega) | (go_simp; simp [↓IntWalk.iteOmega]; intros; omega)) | (go_simp; simp [*]) | (simp [*])), by (first | (first | (go_simp; done) | (go_simp; (simp [↓IntWalk.iteOmega]; done)) | (go_simp; intros; omega) | (go_simp; simp [↓IntWalk.iteOmega]; intros; omega)) | (go_simp; simp [*]) | (simp [*])), by (first | (first | (go_simp; done) | (go_simp; (simp [↓IntWalk.iteOmega]; done)) | (go_simp; intros; omega) | (go_simp; simp [↓IntWalk.iteOmega]; intros; omega)) | (go_simp; simp [*]) | (simp [*])), by (first | (first | (go_simp; done) | (go_simp; (simp [↓IntWalk.iteOmega]; done)) | (go_simp; intros; omega) | (go_simp; simp [↓IntWalk.iteOmega]; intros; omega)) | (go_simp; simp [*]) | (simp [*])), by (first | (first | (go_simp; done) | (go_simp; (simp [↓IntWalk.iteOmega]; done)) | (go_simp; intros; omega) | (go_simp; simp [↓IntWalk.iteOmega]; intros; omega)) | (go_simp; simp [*]) | (simp [*]))⟩
        case measure => (simp [intOf]; omega)
    · clear y0 y1 y2 y3 y4 y5 y6 y7 y8 y9 y10 y11
      go_wp2_with fail
      go_loopw [11] (fun i wr => ∃ j : Nat, i = .int .i64 (j : Int) ∧ j ≤ n ∧ Below w.heap.size w wr ∧ Hid (rowIs wr a1 L) ∧ Hid (rowIs wr a2 L)) (fun i _ => n - (intOf i).toNat)
      case atStart => exact ⟨0, rfl, by omega, hbw, R5, R6⟩
      case round =>
        obtain ⟨j, rfl, hj, hbz, R7, R8⟩ := hrel
        by_cases hl2 : j < n
        · obtain ⟨g1, rfl, hg1, hc1⟩ := R7.out j (by omega)
          obtain ⟨g2, rfl, hg2, hc2⟩ := R8.out j (by omega)
          go_wp2_with fail
          refine wp_region_below (by kernel_rfl) (by kernel_rfl) (fun hcr hfr => ?_)
          (try simp only [World.size_alloc, World.size_setCell, World.size_drew, size_drewN_] at hcr hfr)
          repeat (go_big_quiet_step (fail))
          refine wpQuiet_nil ?_
          intro w' hbl
          clear hcr hfr
          obtain ⟨hcw, hfw, hsw⟩ := below_ifs hbl; (try simp only [World.size_alloc, World.size_setCell, World.size_drew, size_drewN_] at hcw hfw hsw)
          go_wp2_with fail
          go_roundw
          case rel => exact ⟨j + 1, by go_num, by omega, by (repeat (first | with_reducible exact Below.refl _ _ | with_reducible assumption | with_reducible refine below_drewN ?_ _ | with_reducible refine Below.drew ?_ | with_reducible refine below_alloc ?_ _ | (with_reducible refine Below.setCell ?_ (by first | (simp; done) | omega | (simp; omega)) _) | with_reducible refine belows ?_ (by assumption))), Lib.hid (row_below R7.out hbl), Lib.hid (row_below R8.out hbl)⟩
          case measure => (simp [intOf]; omega)
        · obtain rfl : j = n := by omega
          go_wp2_with (first | (go_at_call 12; (with_reducible refine (count_five _).mono ?_); rintro e w' ⟨rfl, hbl⟩; obtain ⟨hcw, hfw, hsw⟩ := below_ifs hbl; (try simp only [World.size_alloc, World.size_setCell, World.size_drew, size_drewN_] at hcw hfw hsw)))
          go_ret
          exact ⟨rfl, by (repeat (first | with_reducible exact Below.refl _ _ | with_reducible assumption | with_reducible refine below_drewN ?_ _ | with_reducible refine Below.drew ?_ | with_reducible refine below_alloc ?_ _ | (with_reducible refine Below.setCell ?_ (by first | (simp; done) | omega | (simp; omega)) _) | with_reducible refine belows ?_ (by assumption)))⟩
theorem set_of (a b c d : BitVec 64) : ∃ f : Nat → Bool, wd f 0 = a ∧ wd f 1 = b ∧ wd f 2 = c ∧ wd f 3 = d :=
  ⟨fun j => if j < 64 then a.getLsbD j else if j < 128 then b.getLsbD (j - 64) else if j < 192 then c.getLsbD (j - 128) else d.getLsbD (j - 192),
    wd_of fun j hj => by rw [if_pos (by omega), show 64 * 0 + j = j by omega],
    wd_of fun j hj => by rw [if_neg (by omega), if_pos (by omega), show 64 * 1 + j - 64 = j by omega],
    wd_of fun j hj => by rw [if_neg (by omega), if_neg (by omega), if_pos (by omega), show 64 * 2 + j - 128 = j by omega],
    wd_of fun j hj => by rw [if_neg (by omega), if_neg (by omega), if_neg (by omega), show 64 * 3 + j - 192 = j by omega]⟩

set_option maxRecDepth 100000 in
theorem lifted (os : Os) (started : os.Started) (H : Type) (enc : TypeId × Value → H) :
    ReturnsInHanded {} Try.checked os 4 .any (Rows.tagsTellsSpec.pre6 enc Try.prog Try.f4 Rows.tagsTellsRow.domain false) (Rows.tagsTellsSpec.post enc Try.prog Try.f4 false true false false) := by
  refine law_lift (C := Try.checked) (tb := 4) started (by kernel_rfl) (by kernel_rfl) Try.func4 rfl rfl Try.underlying4 (by kernel_rfl) (by kernel_rfl)
    (fun ds h => by match ds, h with | [_, _, _], _ => rfl)
    (ChangeSpec.witness6 (enc := enc) (C := Try.checked) false ⟨#[], #[.agg #[.int .u64 0, .int .u64 0, .int .u64 0, .int .u64 0], .agg #[.int .u64 0, .int .u64 0, .int .u64 0, .int .u64 0], .int .i64 0], []⟩ 8 (by kernel_rfl) (by kernel_rfl) (by kernel_rfl) (by kernel_rfl)) ?_
  intro W base args ds ps hval hA hlt hfz hsz
  rw [Try.params4] at hA hval hsz
  obtain ⟨v0, v1, v2, d0, d1, d2, p0, p1, p2, rfl, rfl, rfl, h0, h1, h2⟩ := trodAll_three hA
  obtain ⟨x0, wx0, x1, wx1, x2, wx2, x3, wx3, rfl⟩ := open_leaves (d := 5) (ls := [.int .u64, .int .u64, .int .u64, .int .u64]) (by kernel_rfl) (by kernel_rfl) (hval 0 _ v0 rfl rfl) h0
  obtain ⟨xa, rfl⟩ := exists_U x0 wx0
  obtain ⟨xb, rfl⟩ := exists_U x1 wx1
  obtain ⟨xc, rfl⟩ := exists_U x2 wx2
  obtain ⟨xd, rfl⟩ := exists_U x3 wx3
  obtain ⟨f, rfl, rfl, rfl, rfl⟩ := set_of xa xb xc xd
  obtain ⟨y0, wy0, y1, wy1, y2, wy2, y3, wy3, rfl⟩ := open_leaves (d := 5) (ls := [.int .u64, .int .u64, .int .u64, .int .u64]) (by kernel_rfl) (by kernel_rfl) (hval 1 _ v1 rfl rfl) h1
  obtain ⟨ya, rfl⟩ := exists_U y0 wy0
  obtain ⟨yb, rfl⟩ := exists_U y1 wy1
  obtain ⟨yc, rfl⟩ := exists_U y2 wy2
  obtain ⟨yd, rfl⟩ := exists_U y3 wy3
  obtain ⟨g, rfl, rfl, rfl, rfl⟩ := set_of ya yb yc yd
  obtain ⟨i, rfl, rfl, rfl, w2⟩ := open_int Try.underlying3 (hval 2 _ v2 rfl rfl) h2
  exact walk f g i W

theorem over : Rows.tagsTellsRow.holds Try.pinned (OpenSpec.ofChange Rows.tagsTellsSpec) :=
  OpenClaim.holds_of_wide 4 Try.f4 rfl rfl rfl rfl rfl rfl rfl ⟨rfl, rfl, rfl, rfl, rfl⟩ rfl rfl rfl rfl rfl (by kernel_rfl) Try.func4 (by kernel_rfl)
    (of_decide_eq_true (by kernel_rfl)) (by unfold Func.isWrapper; first | (rw [if_pos (by decide +kernel)]; kernel_rfl) | (rw [if_neg (by decide +kernel)]; exact ⟨rfl, rfl⟩))
    (fun os started H enc _ => lifted os started H enc)

theorem proved : Rows.TagsTellsSaid := over
end Go.Proofs.Ytfbkfbmfeaajkaa.Tells
