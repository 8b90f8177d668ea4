
/-
  regs.Tagged$1 called with a closure.
-/
import Derived.Test.YtpjcijmdoofcbaaGxG
import Derived.Deep.LoopGhost
import Derived.WalkMore
namespace Go.Proofs.Ytpjcijmdoofcbaa
open Go Go.RowKit
set_option linter.unusedVariables false
set_option linter.unusedSimpArgs false

attribute [local irreducible] zeroL cellsC oneL
set_option maxHeartbeats 8000000 in
set_option maxRecDepth 100000 in
theorem tagged1_by (gid : Nat) (caps : Array Value) (L : List Cp) (hL : L.length = 33) (Bs : Nat) (J Jx : List Nat → World → Prop) (hen : ∀ (args : Array Value) (w : World), (callFunc gid args).run Try.prog w = .ok (.enter gid args) w)
    (hY : ∀ (p : Nat) (W : World), 1 ≤ p → p ≤ 32 → tg L p = true → J (tagsTo L p) W → CtxAt W Bs L → Calls Try.prog gid (argsC L p ++ caps) W fun e W' =>
      (e = .returned (.bool true) ∧ J (tagsTo L p ++ [p]) W' ∧ W'.heap[Bs]? = W.heap[Bs]?) ∨ (e = .returned (.bool false) ∧ Jx (tagsTo L p ++ [p]) W'))
    (W : World) (hBs : CtxAt W Bs L) (h0 : J [] W) :
    Calls Try.prog 26 #[.func (.func gid) #[] caps, .pointer (some ⟨Bs, 0, none⟩)] W fun e W' => (∃ v, e = .returned v) ∧
      (J (tagsTo L 33) W' ∨ (∃ k, k < 33 ∧ tg L k = true ∧ Jx (tagsTo L k ++ [k]) W')) := by
  have HY := Lib.hid hY
  have HBs := Lib.hid hBs
  have hT : ∀ k, 1 ≤ k → tg L k = (capAt L k).g := fun k hk => by unfold tg; rw [decide_eq_true hk, Bool.true_and]
  have HT := Lib.hid hT
  clear hY hBs hT
  go_enter Try.func26, Try.ntmps26
  go_wp2
  go_loopw [3] (fun i wr => ∃ k : Nat, 1 ≤ k ∧ k ≤ 32 ∧ i = .int .i64 k ∧ Hid (J (tagsTo L k) wr) ∧ Hid (CtxAt wr Bs L))
    (fun i _ => 32 - (intOf i).toNat)
  case atStart => exact ⟨1, Nat.le_refl _, by omega, rfl, Lib.hid h0, HBs⟩
  case round =>
    obtain ⟨k, hk1, hk, rfl, HJs, HNx⟩ := hrel
    have hct := HNx.out
    have hltx := hct.lt
    by_cases hlt : (k : Int) < 32
    · obtain ⟨x0, x1, x2⟩ := hct.cells k _ (capAt_get L k (by omega))
      have HS := Lib.hid (tagsTo_succ L k)
      clear hct
      cases hbit : (capAt L k).g
      · rw [hbit] at x0
        have htg := (HT.out k hk1).trans hbit
        go_wp2
        go_roundw
        case rel => exact ⟨k + 1, by omega, by omega, by go_num, Lib.hid (by rw [HS.out, htg]; simpa using HJs.out), HNx⟩
        case measure => (simp [intOf]; omega)
      · rw [hbit] at x0
        have htg := (HT.out k hk1).trans hbit
        have hYk := HY.out k wr hk1 (by omega) htg HJs.out HNx.out
        unfold argsC at hYk
        go_wp2
        refine hYk.mono ?_
        rintro e W3 (⟨rfl, hJ3, hk3⟩ | ⟨rfl, hJx3⟩)
        · have HJ3 := Lib.hid hJ3
          clear hJ3 hYk
          go_wp2
          go_roundw
          case rel => exact ⟨k + 1, by omega, by omega, by go_num, Lib.hid (by rw [HS.out, htg]; exact HJ3.out), Lib.hid ((show W3.heap[Bs]? = _ from hk3).trans HNx.out)⟩
          case measure => (simp [intOf]; omega)
        · have HJx3 := Lib.hid hJx3
          clear hJx3 hYk
          go_wp2
          refine bodyPost_ret (results_none rfl _ _ _) rfl ?_
          exact ⟨⟨_, rfl⟩, .inr ⟨k, by omega, htg, HJx3.out⟩⟩
    · obtain rfl : k = 32 := by omega
      obtain ⟨x0, x1, x2⟩ := hct.cells 32 _ (capAt_get L 32 (by omega))
      have HS := Lib.hid (tagsTo_succ L 32)
      clear hct
      cases hbit : (capAt L 32).g
      · rw [hbit] at x0
        have htg := (HT.out 32 (by omega)).trans hbit
        go_wp2
        go_end0
        exact ⟨⟨_, rfl⟩, .inl (by rw [HS.out, htg]; simpa using HJs.out)⟩
      · rw [hbit] at x0
        have htg := (HT.out 32 (by omega)).trans hbit
        have hYk := HY.out 32 wr (by omega) (Nat.le_refl _) htg HJs.out HNx.out
        unfold argsC at hYk
        rw [show ((32 : Nat) : Int) = 32 from rfl] at hYk
        go_wp2
        refine hYk.mono ?_
        rintro e W3 (⟨rfl, hJ3, hk3⟩ | ⟨rfl, hJx3⟩)
        · have HJ3 := Lib.hid hJ3
          clear hJ3 hYk
          go_wp2
          go_end0
          exact ⟨⟨_, rfl⟩, .inl (by rw [HS.out, htg]; exact HJ3.out)⟩
        · have HJx3 := Lib.hid hJx3
          clear hJx3 hYk
          go_wp2
          go_end0
          exact ⟨⟨_, rfl⟩, .inr ⟨32, by omega, htg, HJx3.out⟩⟩
end Go.Proofs.Ytpjcijmdoofcbaa
