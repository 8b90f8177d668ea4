
/-
  The document's Swept.
-/
import Derived.Test.YtpjcijmdoofcbaaGyB
import Derived.Test.YtpjcijmdoofcbaaGyC
import Derived.Test.YtpjcijmdoofcbaaGyD
import Derived.Test.YtpjcijmdoofcbaaGxH
namespace Go.Proofs.Ytpjcijmdoofcbaa
open Go Go.RowKit
set_option linter.unusedVariables false
set_option linter.unusedSimpArgs false

/-- A sweep of the registers below a number. -/
def rsw (p : BitVec 64 → Bool) (L : List Cp) (n : Nat) : List Cp := (List.range 33).map fun k => if (decide (k < n) && hitF p L k) = true then clearC (capAt L k) else capAt L k
theorem rsw_len (p : BitVec 64 → Bool) (L : List Cp) (n : Nat) : (rsw p L n).length = 33 := by unfold rsw; rw [List.length_map, List.length_range]
theorem rsw_get (p : BitVec 64 → Bool) (L : List Cp) (n k : Nat) (hk : k < 33) : (rsw p L n)[k]? = some (if (decide (k < n) && hitF p L k) = true then clearC (capAt L k) else capAt L k) := by
  unfold rsw
  rw [List.getElem?_map, List.getElem?_range hk]
  rfl
theorem rsw_at (p : BitVec 64 → Bool) (L : List Cp) (k : Nat) (hk : k < 33) : (rsw p L k)[k]? = some (capAt L k) := by
  rw [rsw_get p L k k hk, decide_eq_false (by omega)]
  rfl
theorem rsw_1 (p : BitVec 64 → Bool) (L : List Cp) (hL : L.length = 33) : rsw p L 1 = L := by
  apply List.ext_getElem?
  intro k
  by_cases hk : k < 33
  · have : (decide (k < 1) && hitF p L k) = false := by
      by_cases h0 : k = 0
      · subst h0
        rfl
      · rw [decide_eq_false (by omega)]
        rfl
    rw [rsw_get p L 1 k hk, this]
    exact (capAt_get L k (by omega)).symm
  · rw [List.getElem?_eq_none (by rw [rsw_len]; omega), List.getElem?_eq_none (by omega)]
theorem rsw_33 (p : BitVec 64 → Bool) (L : List Cp) : rsw p L 33 = sweepF p L := by
  unfold rsw sweepF
  apply List.map_congr_left
  intro k hk
  have hk' : k < 33 := by simpa using hk
  rw [decide_eq_true hk', Bool.true_and]
theorem rsw_skip (p : BitVec 64 → Bool) (L : List Cp) (n : Nat) (hh : hitF p L n = false) : rsw p L (n + 1) = rsw p L n := by
  unfold rsw
  apply List.map_congr_left
  intro k hk
  by_cases h : k = n
  · subst h
    rw [hh, Bool.and_false, Bool.and_false]
  · rw [show decide (k < n + 1) = decide (k < n) from decide_eq_decide.2 (by omega)]
theorem rsw_hit (p : BitVec 64 → Bool) (L : List Cp) (n : Nat) (hn : n < 33) (hh : hitF p L n = true) : (rsw p L n).set n (clearC (capAt L n)) = rsw p L (n + 1) := by
  apply List.ext_getElem?
  intro k
  by_cases hk : k < 33
  · rw [rsw_get p L (n + 1) k hk]
    by_cases h : k = n
    · subst h
      rw [List.getElem?_set_self (by rw [rsw_len]; omega), hh, decide_eq_true (by omega)]
      rfl
    · rw [List.getElem?_set_ne (fun e => h e.symm), rsw_get p L n k hk, show decide (k < n + 1) = decide (k < n) from decide_eq_decide.2 (by omega)]
  · rw [List.getElem?_eq_none (by rw [List.length_set, rsw_len]; omega), List.getElem?_eq_none (by rw [rsw_len]; omega)]
def cntR (p : BitVec 64 → Bool) (L : List Cp) (n : Nat) : Nat := ((List.range n).filter (hitF p L)).length
theorem cntR_1 (p : BitVec 64 → Bool) (L : List Cp) : cntR p L 1 = 0 := rfl
theorem cntR_le (p : BitVec 64 → Bool) (L : List Cp) (n : Nat) : cntR p L n ≤ n := by
  unfold cntR
  have := List.length_filter_le (hitF p L) (List.range n)
  simpa using this
theorem cntR_skip (p : BitVec 64 → Bool) (L : List Cp) (n : Nat) (hh : hitF p L n = false) : cntR p L (n + 1) = cntR p L n := by
  unfold cntR
  rw [List.range_succ, List.filter_append, List.length_append]
  simp [hh]
theorem cntR_hit (p : BitVec 64 → Bool) (L : List Cp) (n : Nat) (hh : hitF p L n = true) : cntR p L (n + 1) = cntR p L n + 1 := by
  unfold cntR
  rw [List.range_succ, List.filter_append, List.length_append]
  simp [hh]
theorem cellsC_tag : ∀ (L : List Cp) (k : Nat) (c : Cp), L[k]? = some c → (cellsC L).set (k * 3) (.bool false) = cellsC (L.set k (clearC c))
  | [], _, _, h => by simp at h
  | y :: L, 0, c, h => by
    obtain rfl : y = c := by simpa using h
    rfl
  | y :: L, k + 1, c, h => by
    have e : cellsC (y :: L) = encC y ++ cellsC L := rfl
    have hl : (encC y).length = 3 := rfl
    rw [e, List.set_append_right _ _ (by omega), hl, show (k + 1) * 3 - 3 = k * 3 by omega, cellsC_tag L k c (by simpa using h)]
    rfl
theorem RtxAt.tag {W : World} {g : Nat} {L : List Cp} (h : RtxAt W g L) (k : Nat) (c : Cp) (hk : L[k]? = some c) : RtxAt (W.setCell ⟨g, k * 3, none⟩ (.bool false)) g (L.set k (clearC c)) := by
  show (W.setCell ⟨g, k * 3, none⟩ (.bool false)).heap[g]? = _
  rw [setCell_eq_setRow W g (k * 3) (cellsC L).toArray 45 (0, 0) _ h, setRow_heap W g _ _ _ _ h, ← cellsC_tag L k c hk]
  simp
/-- What stands in a round. -/
structure RsI (p : BitVec 64 → Bool) (L : List Cp) (w : World) (n : Nat) (W : World) : Prop where
  out : RtxAt W w.heap.size (rsw p L n)
  zero : RtxAt W (w.heap.size + 1) zeroL
  below : Below w.heap.size w W
theorem RsI.keep {p : BitVec 64 → Bool} {L : List Cp} {w W W' : World} {n : Nat} (h : RsI p L w n W) (hb : Below W.heap.size W W') : RsI p L w n W' :=
  ⟨h.out.below hb h.out.lt, h.zero.below hb h.zero.lt, h.below.trans (hb.mono h.below.size)⟩
theorem RsI.skip {p : BitVec 64 → Bool} {L : List Cp} {w W : World} {n : Nat} (h : RsI p L w n W) (hh : hitF p L n = false) : RsI p L w (n + 1) W :=
  ⟨by rw [rsw_skip p L n hh]; exact h.out, h.zero, h.below⟩
theorem RsI.hit {p : BitVec 64 → Bool} {L : List Cp} {w W : World} {n : Nat} (h : RsI p L w n W) (hh : hitF p L n = true) (hn : n < 33) : RsI p L w (n + 1) (W.setCell ⟨w.heap.size, n * 3, none⟩ (.bool false)) :=
  ⟨by rw [← rsw_hit p L n hn hh]; exact h.out.tag n _ (rsw_at p L n hn), h.zero.other _ _ (show w.heap.size + 1 ≠ w.heap.size by omega), h.below.setCell (show w.heap.size ≤ w.heap.size from Nat.le_refl _) _⟩
theorem RsI.last {p : BitVec 64 → Bool} {L : List Cp} {w W : World} (h : RsI p L w 33 W) : RtxAt W w.heap.size (sweepF p L) := by
  rw [← rsw_33]
  exact h.out
theorem hitF_is (l0 l1 : BitVec 64) (L : List Cp) (k : Nat) (g : Bool) (m a bb : BitVec 64) (h1 : 1 ≤ k) (hc : capAt L k = ⟨g, m, a⟩) (hb : lkB m a = bb) : hitF (inB l0 l1) L k = (g && (decide (U l0 ≤ U bb) && decide (U bb < U l1))) := by
  unfold hitF tg inB baseF
  rw [hc, decide_eq_true h1]
  simp only [Bool.true_and, hb]
theorem span_base (v0 v1 : Value) (w : World) : (Instr.field 59 (.agg #[v0, v1]) 0).run Try.prog w = .ok v0 w := by kernel_rfl
attribute [local go_sem 3000] span_base
attribute [local irreducible] zeroL cellsC
set_option maxHeartbeats 8000000 in
set_option maxRecDepth 100000 in
theorem rswept_any (L : List Cp) (hL : L.length = 33) (l0 l1 : BitVec 64) (w : World) : Calls Try.prog 20 #[.agg (cellsC L).toArray, .int .u64 (U l0), .int .u64 (U l1)] w fun e w' => e = .returned (.tuple #[.agg (cellsC (sweepF (inB l0 l1) L)).toArray, .int .i64 (cntR (inB l0 l1) L 33 : Int)]) ∧ Below w.heap.size w w' := by
  obtain ⟨W1, hW1⟩ : ∃ W1, W1 = (w.alloc (.cells (cellsC L).toArray 45)).alloc (.cells (cellsC zeroL).toArray 45) := ⟨_, rfl⟩
  have hI1 : RsI (inB l0 l1) L w 1 W1 := by
    rw [hW1]
    refine ⟨by rw [rsw_1 _ L hL]; exact RtxAt.alloc (World.alloc_heap_new w _) _, ?_, by (repeat (first | with_reducible exact Below.refl _ _ | with_reducible assumption | with_reducible refine below_drewN ?_ _ | with_reducible refine Below.drew ?_ | with_reducible refine below_alloc ?_ _ | (with_reducible refine Below.setCell ?_ (by first | (simp; done) | omega | (simp; omega)) _) | with_reducible refine belows ?_ (by assumption)))⟩
    have := World.alloc_heap_new (w.alloc (.cells (cellsC L).toArray 45)) (.cells (cellsC zeroL).toArray 45)
    simpa [RtxAt] using this
  obtain ⟨p, hp⟩ : ∃ p, p = inB l0 l1 := ⟨_, rfl⟩
  rw [← hp] at hI1 ⊢
  have HI := Lib.hid hI1
  have HP := Lib.hid hp
  clear hp hI1
  go_enter Try.func20, Try.ntmps20
  go_upto_region 1 with (fail)
  rw [← hW1]
  clear hW1
  go_wp2_with (fail)
  go_loopw [8, 9] (fun c i wr => ∃ k : Nat, 1 ≤ k ∧ k ≤ 32 ∧ i = .int .i64 k ∧ c = .int .i64 (cntR p L k : Int) ∧ Hid (RsI p L w k wr)) (fun c i _ => 32 - (intOf i).toNat)
  case atStart => exact ⟨1, by omega, by omega, rfl, by rw [cntR_1]; rfl, HI⟩
  case round =>
    obtain ⟨k, hk1, hk, rfl, rfl, HJ⟩ := hrel
    clear HI
    have hn := cntR_le p L k
    obtain ⟨x0, x1, x2⟩ := HJ.out.out.cells k _ (rsw_at p L k (by omega))
    have HX := Lib.hid (rsw_at p L k (by omega))
    obtain ⟨g, m, a, hc⟩ : ∃ g m a, capAt L k = ⟨g, m, a⟩ := ⟨_, _, _, rfl⟩
    obtain ⟨bb, hbb⟩ : ∃ bb, lkB m a = bb := ⟨_, rfl⟩
    have hit := hitF_is l0 l1 L k g m a bb hk1 hc hbb
    rw [← HP.out] at hit
    rw [hc] at x0 x1 x2 HX
    have cs : ∀ w : World, Calls Try.prog 30 #[.agg #[.bool g, .int .u64 (U m), .int .u64 (U a)]] w fun r w' => r = .returned (.agg #[.int .u64 (U bb), .int .u64 (U (lkT m a))]) ∧ Below w.heap.size w w' := fun w => by
      have := rspan_any ⟨g, m, a⟩ w
      rw [show baseF ⟨g, m, a⟩ = bb from hbb] at this
      exact this
    clear hc hbb
    by_cases hlt : (k : Int) < 32
    · cases g
      rotate_left
      cases h1 : decide (U l0 ≤ U bb) <;> cases h2 : decide (U bb < U l1)
      all_goals
        (try rw [h1, h2] at hit)
        simp only [Bool.true_and, Bool.false_and, Bool.and_true, Bool.and_false] at hit
        have HH := Lib.hid hit
        have HN : Hid (hitF p L k = false → cntR p L (k + 1) = cntR p L k) := Lib.hid (cntR_skip p L k)
        have HM : Hid (hitF p L k = true → cntR p L (k + 1) = cntR p L k + 1) := Lib.hid (cntR_hit p L k)
        clear hit
        go_wp2_with (first | (go_at_call 30; refine (cs _).mono ?_; rintro e w5 ⟨rfl, hb5⟩; have HK := Lib.hid (HJ.out.keep hb5); obtain ⟨y0, y1, y2⟩ := HK.out.out.cells k _ HX.out; have f0 := HK.out.out.frozen (k * 3); have lt5 := HK.out.out.lt))
        go_roundw
        case rel => first
          | exact ⟨k + 1, by omega, by omega, by go_num, by rw [HN.out HH.out], Lib.hid (HK.out.skip HH.out)⟩
          | exact ⟨k + 1, by omega, by omega, by go_num, by rw [HM.out HH.out]; go_num, Lib.hid (HK.out.hit HH.out (by omega))⟩
        case measure => (simp [intOf]; omega)
    · obtain rfl : k = 32 := by omega
      cases g
      rotate_left
      cases h1 : decide (U l0 ≤ U bb) <;> cases h2 : decide (U bb < U l1)
      all_goals
        (try rw [h1, h2] at hit)
        simp only [Bool.true_and, Bool.false_and, Bool.and_true, Bool.and_false] at hit
        have HH := Lib.hid hit
        have HN : Hid (hitF p L 32 = false → cntR p L 33 = cntR p L 32) := Lib.hid (cntR_skip p L 32)
        have HM : Hid (hitF p L 32 = true → cntR p L 33 = cntR p L 32 + 1) := Lib.hid (cntR_hit p L 32)
        clear hit
        go_wp2_with (first
          | (go_at_call 30; refine (cs _).mono ?_; rintro e w5 ⟨rfl, hb5⟩; have HK := Lib.hid (HJ.out.keep hb5); obtain ⟨y0, y1, y2⟩ := HK.out.out.cells 32 _ HX.out; have f0 := HK.out.out.frozen (32 * 3); have lt5 := HK.out.out.lt)
          | (refine rwpList_load_ctx rfl _ rfl w.heap.size rfl (sweepF p L) ?_ (sweepF_len p L) ?_; (focus first | exact (HK.out.skip HH.out).last | exact (HK.out.hit HH.out (by omega)).last))
          | (refine rwpList_store_ctx rfl _ _ rfl (w.heap.size + 1) zeroL (sweepF p L) rfl rfl ?_ zeroL_len (sweepF_len p L) ?_; (focus first | exact HK.out.zero | exact (HK.out.hit HH.out (by omega)).zero); intro w9 hst; have HST := Lib.hid hst; clear hst))
        refine bodyPost_ret (rret_ctx_t Try.results20 _ _ (w.heap.size + 1) (sweepF p L) _ rfl rfl HST.out.at_ (sweepF_len p L)) rfl ?_
        refine ⟨?_, ?_⟩
        · first
            | (rw [HN.out HH.out]; rfl)
            | (rw [HM.out HH.out, Int.natCast_add]; rfl)
        · first
            | exact HST.out.below HK.out.below (by omega)
            | exact HST.out.below (HK.out.hit HH.out (by omega)).below (by omega)
end Go.Proofs.Ytpjcijmdoofcbaa
