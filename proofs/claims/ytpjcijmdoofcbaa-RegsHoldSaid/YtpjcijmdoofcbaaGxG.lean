
/-
  The law at one context.
-/
import Derived.Test.YtpjcijmdoofcbaaGxE
import Derived.Test.YtpjcijmdoofcbaaGxF
namespace Go.Proofs.Ytpjcijmdoofcbaa
open Go Go.RowKit
set_option linter.unusedVariables false
set_option linter.unusedSimpArgs false

theorem wpQuiet_load_ctx {ops : Array Oper} {C : World → Prop} {Q : Act → Prop} {a : Act} {o : Oper} {rest : List Oper} (hw : Region.wanted o (yielded ops a.tmps) = true) (x : Operand) (ho : o.op = .load 27 x) (g : Nat) (hx : a.eval x = .pointer (some ⟨g, 0, none⟩)) (L : List Cp) (hC : ∀ W, C W → CtxAt W g L) (hL : L.length = 33)
    (h : wpQuiet Try.prog ops C Q rest (a.put o.dst (.agg (cellsC L).toArray))) : wpQuiet Try.prog ops C Q (o :: rest) a := by
  unfold wpQuiet
  rw [if_pos hw]
  refine ⟨_, fun w hw' => ?_, h⟩
  unfold Oper.quietAt execOp
  simp only [ho, hx, Instr.loadAt, Instr.sureAddr, Sem.run_bind, Sem.run_pure, Result.andThen_ok, load_ctx (hC w hw') hL]
  exact ⟨rfl, rfl⟩
theorem cap_stood : Try.prog.stoodInHeld 24 = false := by kernel_rfl
theorem cap_guard : Try.prog.eqGuardType Try.prog.depth 24 = false := by kernel_rfl
theorem ctx_guard : Try.prog.eqGuardType Try.prog.depth 27 = false := by kernel_rfl
theorem cap_eql (g h : Bool) (a b a' b' : BitVec 64) (w : World) : (binOp .eql 24 (.agg #[.bool g, .int .u64 (U a), .int .u64 (U b)]) (.agg #[.bool h, .int .u64 (U a'), .int .u64 (U b')])).run Try.prog w = .ok (.bool (g == h && a == a' && b == b')) w := by
  have hs := cap_stood
  rw [run_eql_struct]
  rw [show (10000 : Nat) = 9998 + 1 + 1 from rfl, run_equalIn_struct _ _ _ _ _ Try.underlying24 hs]
  simp [go_sem, Try.underlying24]
  cases g <;> cases h <;> by_cases h1 : a = a' <;> by_cases h2 : b = b' <;> simp [h1, h2]
theorem null_any (n : BitVec 64) (w : World) : Calls Try.prog 29 #[.int .u64 (U n)] w fun r w' => r = .returned (.agg #[.bool false, .int .u64 0, .int .u64 (U n)]) ∧ Below w.heap.size w w' := by
  go_enter Try.func29, Try.ntmps29
  go_wp2_with fail
  refine bodyPost_ret (results_c [.bool false, .int .u64 0, .int .u64 (U n)] Try.results29 rfl ?_ Try.underlying24 rfl (by kernel_rfl)) rfl ?_
  · (first | (go_simp; done) | (go_simp; (simp [↓IntWalk.iteOmega]; done)) | (go_simp; intros; omega) | (go_simp; simp [↓IntWalk.iteOmega]; intros; omega))
  · exact ⟨rfl, by (repeat (first | with_reducible exact Below.refl _ _ | with_reducible assumption | with_reducible refine below_drewN ?_ _ | with_reducible refine Below.drew ?_ | with_reducible refine below_alloc ?_ _ | (with_reducible refine Below.setCell ?_ (by first | (simp; done) | omega | (simp; omega)) _) | with_reducible refine belows ?_ (by assumption)))⟩
def oneL : List Cp := (zeroL.set 32 ⟨false, 0#64, 4#64⟩).set 5 ⟨false, 0#64, 7#64⟩
theorem oneL_len : oneL.length = 33 := by unfold oneL; rw [List.length_set, List.length_set]; exact zeroL_len
theorem one_w5 (w : World) : Calls Try.prog 22 #[.agg (cellsC (zeroL.set 32 ⟨false, 0#64, 4#64⟩)).toArray, .int .i64 5, .agg #[.bool false, .int .u64 0, .int .u64 7]] w fun e w' => e = .returned (.agg (cellsC oneL).toArray) ∧ Below w.heap.size w w' :=
  with_yes (zeroL.set 32 ⟨false, 0#64, 4#64⟩) (by rw [List.length_set]; exact zeroL_len) 5 (by omega) (by omega) ⟨false, 0#64, 7#64⟩ w
theorem oneL_5 : capAt oneL 5 = ⟨false, 0#64, 7#64⟩ := rfl
theorem oneL_32 : capAt oneL 32 = ⟨false, 0#64, 4#64⟩ := rfl
attribute [local irreducible] zeroL cellsC oneL
set_option maxHeartbeats 4000000 in
set_option maxRecDepth 100000 in
theorem one_any (w : World) : Calls Try.prog 14 #[] w fun e w' => e = .returned (.bool true) ∧ Below w.heap.size w w' := by
  have n4 : ∀ w : World, Calls Try.prog 29 #[.int .u64 4] w fun r w' => r = .returned (.agg #[.bool false, .int .u64 0, .int .u64 4]) ∧ Below w.heap.size w w' := fun w => null_any 4#64 w
  have n7 : ∀ w : World, Calls Try.prog 29 #[.int .u64 7] w fun r w' => r = .returned (.agg #[.bool false, .int .u64 0, .int .u64 7]) ∧ Below w.heap.size w w' := fun w => null_any 7#64 w
  have n9 : ∀ w : World, Calls Try.prog 29 #[.int .u64 9] w fun r w' => r = .returned (.agg #[.bool false, .int .u64 0, .int .u64 9]) ∧ Below w.heap.size w w' := fun w => null_any 9#64 w
  have z4 : ∀ w : World, Calls Try.prog 25 #[.agg #[.bool false, .int .u64 0, .int .u64 4]] w fun e w' => e = .returned (.agg (cellsC (zeroL.set 32 ⟨false, 0#64, 4#64⟩)).toArray) ∧ Below w.heap.size w w' := fun w => zero_ctx_any ⟨false, 0#64, 4#64⟩ w
  have w5 := one_w5
  have w0 : ∀ w : World, Calls Try.prog 22 #[.agg (cellsC oneL).toArray, .int .i64 0, .agg #[.bool false, .int .u64 0, .int .u64 9]] w fun e w' => e = .returned (.agg (cellsC oneL).toArray) ∧ Below w.heap.size w w' := fun w => with_no oneL oneL_len 0 ⟨false, 0#64, 9#64⟩ (by decide) w
  have g0 : ∀ w : World, Calls Try.prog 8 #[.agg (cellsC oneL).toArray, .int .i64 0] w fun e w' => e = .returned (.agg #[.bool false, .int .u64 0, .int .u64 0]) ∧ Below w.heap.size w w' := fun w => get_no oneL 0 (by decide) w
  have g5 : ∀ w : World, Calls Try.prog 8 #[.agg (cellsC oneL).toArray, .int .i64 5] w fun e w' => e = .returned (.agg #[.bool false, .int .u64 0, .int .u64 7]) ∧ Below w.heap.size w w' := fun w => by
    have h := get_yes oneL 5 oneL_len (by omega) (by omega) w
    rw [oneL_5] at h
    exact h
  have e1 : ∀ w : World, (binOp .eql 24 (.agg #[.bool false, .int .u64 0, .int .u64 0]) (.agg #[.bool false, .int .u64 0, .int .u64 0])).run Try.prog w = .ok (.bool true) w := fun w => cap_eql false false 0#64 0#64 0#64 0#64 w
  have e2 : ∀ w : World, (binOp .eql 24 (.agg #[.bool false, .int .u64 0, .int .u64 7]) (.agg #[.bool false, .int .u64 0, .int .u64 7])).run Try.prog w = .ok (.bool true) w := fun w => cap_eql false false 0#64 7#64 0#64 7#64 w
  have cg := cap_guard
  go_enter Try.func14, Try.ntmps14
  go_wp2_with (first | (go_at_call 29; (with_reducible refine (n4 _).mono ?_); rintro e w' ⟨rfl, hbl⟩; obtain ⟨hcw, hfw, hsw⟩ := below_ifs hbl; (try simp only [World.size_alloc, World.size_setCell, World.size_drew, size_drewN_] at hcw hfw hsw)) | (go_at_call 29; (with_reducible refine (n7 _).mono ?_); rintro e w' ⟨rfl, hbl⟩; obtain ⟨hcw, hfw, hsw⟩ := below_ifs hbl; (try simp only [World.size_alloc, World.size_setCell, World.size_drew, size_drewN_] at hcw hfw hsw)) | (go_at_call 25; (with_reducible refine (z4 _).mono ?_); rintro e w' ⟨rfl, hbl⟩; obtain ⟨hcw, hfw, hsw⟩ := below_ifs hbl; (try simp only [World.size_alloc, World.size_setCell, World.size_drew, size_drewN_] at hcw hfw hsw)) | (go_at_call 22; (with_reducible refine (w5 _).mono ?_); rintro e w' ⟨rfl, hbl⟩; obtain ⟨hcw, hfw, hsw⟩ := below_ifs hbl; (try simp only [World.size_alloc, World.size_setCell, World.size_drew, size_drewN_] at hcw hfw hsw)) | (refine wpList_store_ctx rfl _ _ rfl _ zeroL oneL rfl rfl ?_ zeroL_len oneL_len ?_; (focus exact World.alloc_heap_new _ _); intro w9 hst; have HST := Lib.hid hst; clear hst))
  have hlt := HST.out.at_.lt
  obtain ⟨x0, x1, x2⟩ := HST.out.at_.cells 32 _ (capAt_get oneL 32 (by rw [oneL_len]; omega))
  rw [oneL_32] at x0 x1 x2
  have HC9 : ∀ W : World, (∃ q : Regrown, W = Go.Sort.grow (redrawn w9 q.d) q.os) → CtxAt W w'.heap.size oneL := by
    rintro W ⟨q, rfl⟩
    exact HST.out.at_.below (below_regrown w9 q.d q.os) hlt
  have HCh := Lib.hid HC9
  clear HC9
  refine wp_region_below (by kernel_rfl) (by kernel_rfl) (fun hcr hfr => ?_)
  refine wpQuiet_load_ctx (by rfl) _ rfl w'.heap.size rfl oneL ?_ oneL_len ?_
  · exact HCh.out
  go_simp
  go_big_quiet_step (first | (go_at_call 29; first | with_reducible exact Calls.regrown_of (n9 _) | with_reducible exact regrown_k (n9 _) | with_reducible exact regrown_1 (n9 _) | with_reducible exact regrown_a (n9 _)))
  go_big_quiet_step (first | (go_at_call 22; first | with_reducible exact Calls.regrown_of (w0 _) | with_reducible exact regrown_k (w0 _) | with_reducible exact regrown_1 (w0 _) | with_reducible exact regrown_a (w0 _)))
  go_big_quiet_step (first | (go_at_call 8; first | with_reducible exact Calls.regrown_of (g0 _) | with_reducible exact regrown_k (g0 _) | with_reducible exact regrown_1 (g0 _) | with_reducible exact regrown_a (g0 _)))
  go_big_quiet_step (fail)
  go_big_quiet_step (fail)
  go_big_quiet_step (fail)
  refine wpQuiet_load_ctx (by rfl) _ rfl w'.heap.size rfl oneL ?_ oneL_len ?_
  · exact HCh.out
  go_simp
  go_big_quiet_step (first | (go_at_call 8; first | with_reducible exact Calls.regrown_of (g5 _) | with_reducible exact regrown_k (g5 _) | with_reducible exact regrown_1 (g5 _) | with_reducible exact regrown_a (g5 _)))
  go_big_quiet_step (first | (go_at_call 29; first | with_reducible exact Calls.regrown_of (n7 _) | with_reducible exact regrown_k (n7 _) | with_reducible exact regrown_1 (n7 _) | with_reducible exact regrown_a (n7 _)))
  repeat (go_big_quiet_step (fail))
  refine wpQuiet_nil ?_
  intro wz hbz
  clear hcr hfr
  go_wp2_with (fail)
  go_ret
  exact ⟨rfl, (HST.out.below (B := w.heap.size) (w := w) (by (repeat (first | with_reducible exact Below.refl _ _ | with_reducible assumption | with_reducible refine below_drewN ?_ _ | with_reducible refine Below.drew ?_ | with_reducible refine below_alloc ?_ _ | (with_reducible refine Below.setCell ?_ (by first | (simp; done) | omega | (simp; omega)) _) | with_reducible refine belows ?_ (by assumption)))) (by omega)).trans (hbz.mono (by omega))⟩
end Go.Proofs.Ytpjcijmdoofcbaa
