
/-
  regs.Tagged: the registers with a tag, by rising numbers; the range over them.
-/
import Derived.Test.YtpjcijmdoofcbaaGxA
import Derived.RangeFuncNested
import Derived.RangeFuncBound
import Derived.RangeFuncCalls
import Derived.RangeFuncLeaves
import Derived.RangeFuncBox
import Derived.Shelf.Abstract
import Derived.OwnWalkIn
import Derived.TacticsInMore
import Derived.LoopNIn
import Derived.LoopIn
namespace Go.Proofs.Ytpjcijmdoofcbaa
open Go Go.RowKit Go.Shelf
set_option linter.unusedVariables false
set_option linter.unusedSimpArgs false

attribute [local go_sem] Oper.semAt_some

def capAt (L : List Cp) (p : Nat) : Cp := (L[p]?).getD default
def tg (L : List Cp) (p : Nat) : Bool := decide (1 ≤ p) && (capAt L p).g
/-- The registers with a tag, below a number. -/
def tagsTo (L : List Cp) (k : Nat) : List Nat := (List.range k).filter (tg L)
theorem tagsTo_succ (L : List Cp) (k : Nat) : tagsTo L (k + 1) = tagsTo L k ++ (if tg L k = true then [k] else []) := by
  unfold tagsTo
  rw [List.range_succ, List.filter_append]
  congr 1
  cases h : tg L k <;> simp [h]
theorem tagsTo_len (L : List Cp) (k : Nat) : (tagsTo L k).length ≤ k := by
  unfold tagsTo
  have := List.length_filter_le (tg L) (List.range k)
  simpa using this
theorem tagsTo_one (L : List Cp) : tagsTo L 1 = [] := rfl
theorem capAt_get (L : List Cp) (k : Nat) (h : k < L.length) : L[k]? = some (capAt L k) := by
  unfold capAt
  rw [List.getElem?_eq_getElem h]
  rfl
def cl (p : Nat) : Nat := if 1 ≤ p ∧ p ≤ 32 then p else 32
theorem cl_eq {p : Nat} (h1 : 1 ≤ p) (h2 : p ≤ 32) : cl p = p := by unfold cl; rw [if_pos ⟨h1, h2⟩]
theorem cl_in (p : Nat) : 1 ≤ cl p ∧ cl p ≤ 32 := by unfold cl; split <;> omega
theorem tags_cl (L : List Cp) : (tagsTo L 33).map cl = tagsTo L 33 := by
  have : ∀ k ∈ tagsTo L 33, cl k = k := fun k hk => by
    unfold tagsTo at hk
    rw [List.mem_filter, List.mem_range] at hk
    have h2 := hk.2
    unfold tg at h2
    simp only [Bool.and_eq_true, decide_eq_true_eq] at h2
    exact cl_eq h2.1 (by omega)
  rw [List.map_congr_left this, List.map_id']
def argsC (L : List Cp) (p : Nat) : Array Value := #[.int .i64 (p : Int), .agg #[.bool true, .int .u64 (U (capAt L p).m), .int .u64 (U (capAt L p).a)]]
set_option maxHeartbeats 8000000 in
set_option maxRecDepth 100000 in
theorem tagged1_in (F : Fence) (n : Nat) (hf : F.fn 26) (hro : F.round = none) (hn : 1 ≤ n) (l Bs : Nat) (L : List Cp) (hL : L.length = 33) (J Jx : List Nat → World → Prop)
    (hY : ∀ (pre : List Nat) (p : Nat) (W : World), 1 ≤ p → p ≤ 32 → J pre W → pre.length < 33 → YieldAt F (n - 1) Try.prog l (argsC L p) W fun e W' =>
      (e = .returned (.bool true) ∧ J (pre ++ [p]) W' ∧ W'.heap[Bs]? = W.heap[Bs]?) ∨ (e = .returned (.bool false) ∧ Jx (pre ++ [p]) W'))
    (W : World) (hBs : CtxAt W Bs L) (h0 : J [] W) :
    CallsIn F n Try.prog 26 #[.func (.yield l) #[] #[], .pointer (some ⟨Bs, 0, none⟩)] W fun e W' => (∃ v, e = .returned v) ∧
      (J (tagsTo L 33) W' ∨ (∃ k, k < 33 ∧ tg L k = true ∧ Jx (tagsTo L k ++ [k]) W')) := by
  have HY := Lib.hid hY
  have HBs := Lib.hid hBs
  have hT : ∀ k, 1 ≤ k → tg L k = (capAt L k).g := fun k hk => by unfold tg; rw [decide_eq_true hk, Bool.true_and]
  have HT := Lib.hid hT
  clear hY hBs hT
  refine callsIn_of_wp Try.func26 rfl hf ?_ hro
  simp only [Try.ntmps26, List.size_toArray, List.length_cons, List.length_nil, Nat.reduceAdd, Nat.reduceSub, Array.replicate_succ, Array.replicate_zero, List.push_toArray, List.append_toArray, List.nil_append, List.cons_append]
  gi_wp2
  gi_loopw [3] (fun i wr => ∃ k : Nat, 1 ≤ k ∧ k ≤ 32 ∧ i = .int .i64 k ∧ Hid (J (tagsTo L k) wr) ∧ Hid (CtxAt wr Bs L))
    (fun i _ => 32 - (intOf i).toNat)
  case atStart => exact ⟨1, Nat.le_refl _, by omega, rfl, Lib.hid h0, HBs⟩
  case round =>
    obtain ⟨k, hk1, hk, rfl, HJs, HNx⟩ := hrel
    have hct := HNx.out
    have hltx := hct.lt
    by_cases hlt : (k : Int) < 32
    · obtain ⟨x0, x1, x2⟩ := hct.cells k _ (capAt_get L k (by omega))
      have HS := Lib.hid (tagsTo_succ L k)
      clear hct
      cases hbit : (capAt L k).g
      · rw [hbit] at x0
        have htg := (HT.out k hk1).trans hbit
        gi_wp2
        refine ⟨fun _ h => (by cases h), ?_⟩
        gi_wp2
        go_roundw
        case rel => exact ⟨k + 1, by omega, by omega, by go_num, Lib.hid (by rw [HS.out, htg]; simpa using HJs.out), HNx⟩
        case measure => (simp [intOf]; omega)
      · rw [hbit] at x0
        have htg := (HT.out k hk1).trans hbit
        have hYk := HY.out _ k wr hk1 (by omega) HJs.out (by have := tagsTo_len L k; omega)
        unfold argsC at hYk
        obtain ⟨fn, tmps, assign, body, hy, hR⟩ := hYk
        gi_wp2
        refine hR.mono ?_
        rintro e W3 (⟨rfl, hJ3, hk3⟩ | ⟨rfl, hJx3⟩)
        · have HJ3 := Lib.hid hJ3
          clear hJ3
          gi_wp2
          go_roundw
          case rel => exact ⟨k + 1, by omega, by omega, by go_num, Lib.hid (by rw [HS.out, htg]; exact HJ3.out), Lib.hid ((show W3.heap[Bs]? = _ from hk3).trans HNx.out)⟩
          case measure => (simp [intOf]; omega)
        · have HJx3 := Lib.hid hJx3
          clear hJx3
          gi_wp2
          refine bodyPost_ret (results_none rfl _ _ _) rfl ?_
          exact ⟨⟨_, rfl⟩, .inr ⟨k, by omega, htg, HJx3.out⟩⟩
    · obtain rfl : k = 32 := by omega
      obtain ⟨x0, x1, x2⟩ := hct.cells 32 _ (capAt_get L 32 (by omega))
      have HS := Lib.hid (tagsTo_succ L 32)
      clear hct
      cases hbit : (capAt L 32).g
      · rw [hbit] at x0
        have htg := (HT.out 32 (by omega)).trans hbit
        gi_wp2
        go_end0
        exact ⟨⟨_, rfl⟩, .inl (by rw [HS.out, htg]; simpa using HJs.out)⟩
      · rw [hbit] at x0
        have htg := (HT.out 32 (by omega)).trans hbit
        have hYk := HY.out _ 32 wr (by omega) (Nat.le_refl _) HJs.out (by have := tagsTo_len L 32; omega)
        unfold argsC at hYk
        rw [show ((32 : Nat) : Int) = 32 from rfl] at hYk
        obtain ⟨fn, tmps, assign, body, hy, hR⟩ := hYk
        gi_wp2
        refine hR.mono ?_
        rintro e W3 (⟨rfl, hJ3, hk3⟩ | ⟨rfl, hJx3⟩)
        · have HJ3 := Lib.hid hJ3
          clear hJ3
          gi_wp2
          go_end0
          exact ⟨⟨_, rfl⟩, .inl (by rw [HS.out, htg]; exact HJ3.out)⟩
        · have HJx3 := Lib.hid hJx3
          clear hJx3
          gi_wp2
          go_end0
          exact ⟨⟨_, rfl⟩, .inr ⟨32, by omega, htg, HJx3.out⟩⟩
end Go.Proofs.Ytpjcijmdoofcbaa
