
/-
  Capabilities (capab): what each function makes of words.
-/
import Derived.Test.YtpjcijmdoofcbaaBoundsD
import Derived.Test.YtpjcijmdoofcbaaTail
import Derived.Test.YtpjcijmdoofcbaaLay
import Derived.Deep.RegionHeld3
import Derived.Deep.DeepCutAuto
import Derived.Outline
namespace Go.Proofs.Ytpjcijmdoofcbaa
open Go Go.RowKit
set_option linter.unusedVariables false
set_option linter.unusedSimpArgs false

def mB (m : BitVec 64) : BitVec 64 := getF m 0 14
def mT (m : BitVec 64) : BitVec 64 := getF m 14 12
def mE (m : BitVec 64) : BitVec 64 := getF m 26 6
def mP (m : BitVec 64) : BitVec 64 := getF m 32 9
def mY (m : BitVec 64) : BitVec 64 := getF m 48 12
def lkB (m a : BitVec 64) : BitVec 64 := decB (mB m) (mT m) (mE m) a
def lkT (m a : BitVec 64) : BitVec 64 := decT (mB m) (mT m) (mE m) a
def lkOk (m a : BitVec 64) : Bool := decOk (mB m) (mT m) (mE m) a
theorem ofM_any (m : BitVec 64) (w : World) : Calls Try.prog 41 #[.int .u64 (U m)] w fun r w' => r = .returned (.agg #[.int .u64 (U (mB m)), .int .u64 (U (mT m)), .int .u64 (U (mE m))]) ∧ Below w.heap.size w w' := of_any m w
theorem decM_any (m a : BitVec 64) (w : World) : Calls Try.prog 40 #[.agg #[.int .u64 (U (mB m)), .int .u64 (U (mT m)), .int .u64 (U (mE m))], .int .u64 (U a)] w fun r w' => r = .returned (.tuple #[.agg #[.int .u64 (U (lkB m a)), .int .u64 (U (lkT m a))], .bool (lkOk m a)]) ∧ Below w.heap.size w w' := decode_any _ _ _ a w
theorem getP_any (m : BitVec 64) (w : World) : Calls Try.prog 42 #[.int .u64 (U m), .int .i64 32, .int .i64 9] w fun e w' => e = .returned (.int .u64 (U (mP m))) ∧ ∃ k, w.drewN k = w' := get_any m 32 9 w
theorem getY_any (m : BitVec 64) (w : World) : Calls Try.prog 42 #[.int .u64 (U m), .int .i64 48, .int .i64 12] w fun e w' => e = .returned (.int .u64 (U (mY m))) ∧ ∃ k, w.drewN k = w' := get_any m 48 12 w
set_option maxHeartbeats 2000000 in
set_option maxRecDepth 100000 in
theorem look_any (g : Bool) (m a : BitVec 64) (w : World) : Calls Try.prog 38 #[.agg #[.bool g, .int .u64 (U m), .int .u64 (U a)]] w fun r w' => r = .returned (.tuple #[.agg #[.int .u64 (U (lkB m a)), .int .u64 (U (lkT m a)), .int .u64 (U (mP m)), .int .u64 (U (mY m))], .bool (lkOk m a)]) ∧ Below w.heap.size w w' := by
  go_enter Try.func38, Try.ntmps38
  go_upto_region 2 with (fail)
  go_cut [4, 5] (fun s4 s5 wx => ∃ c : Nat, s4 = .pointer (some ⟨c, 0, none⟩) ∧ s5 = .bool (lkOk m a) ∧ w.heap.size + 2 ≤ c ∧ c < wx.heap.size ∧ Hid (Below w.heap.size w wx) ∧ Hid (cellsAre wx w.heap.size 0 [.bool g, .int .u64 (U m), .int .u64 (U a)] ∧ cellsAre wx (w.heap.size + 1) 0 [.int .u64 0, .int .u64 0, .int .u64 0, .int .u64 0] ∧ cellsAre wx c 0 [.int .u64 (U (lkB m a)), .int .u64 (U (lkT m a))]) ∧ Hid (∀ o : Nat, wx.frozen? ⟨w.heap.size + 1, o, none⟩ = false))
  case first =>
    go_wp2_with fail
    go_region_held3 (fun w'' => Below w.heap.size w w'' ∧ w.heap.size + 2 ≤ w''.heap.size ∧ w''.cell? ⟨w.heap.size, 1, none⟩ = some (.int .u64 (U m)) ∧ w''.cell? ⟨w.heap.size, 2, none⟩ = some (.int .u64 (U a)))
      (first
        | (go_keep; done)
        | (refine ⟨?_, ?_, ?_, ?_⟩; (· (repeat (first | with_reducible exact Below.refl _ _ | with_reducible assumption | with_reducible refine below_drewN ?_ _ | with_reducible refine Below.drew ?_ | with_reducible refine below_alloc ?_ _ | (with_reducible refine Below.setCell ?_ (by first | (simp; done) | omega | (simp; omega)) _) | with_reducible refine belows ?_ (by assumption)))); (· first | omega | (simp; done) | (simp; omega)); (· (first | (go_simp; done) | (go_simp; (simp [↓IntWalk.iteOmega]; done)) | (go_simp; intros; omega) | (go_simp; simp [↓IntWalk.iteOmega]; intros; omega))); (· (first | (go_simp; done) | (go_simp; (simp [↓IntWalk.iteOmega]; done)) | (go_simp; intros; omega) | (go_simp; simp [↓IntWalk.iteOmega]; intros; omega)))))
      (first | (go_at_call 41; (with_reducible refine (ofM_any _ _).mono ?_); rintro e w' ⟨rfl, hbl⟩; obtain ⟨hcw, hfw, hsw⟩ := below_ifs hbl; (try simp only [World.size_alloc, World.size_setCell, World.size_drew, size_drewN_] at hcw hfw hsw)) | (go_at_call 40; (with_reducible refine (decM_any _ _ _).mono ?_); rintro e w' ⟨rfl, hbl⟩; obtain ⟨hcw, hfw, hsw⟩ := below_ifs hbl; (try simp only [World.size_alloc, World.size_setCell, World.size_drew, size_drewN_] at hcw hfw hsw)))
    all_goals go_wp2_with fail
    all_goals go_meet
    all_goals refine ⟨_, rfl, rfl, by first | omega | (simp; done) | (simp; omega), by first | omega | (simp; done) | (simp; omega), Lib.hid ?_, Lib.hid ?_, Lib.hid ?_⟩
    all_goals first | (refine ⟨?_, ?_, ?_⟩ <;> (first | (go_simp; done) | (go_simp; (simp [↓IntWalk.iteOmega]; done)) | (go_simp; intros; omega) | (go_simp; simp [↓IntWalk.iteOmega]; intros; omega))) | (intro o; (first | (go_simp; done) | (go_simp; (simp [↓IntWalk.iteOmega]; done)) | (go_simp; intros; omega) | (go_simp; simp [↓IntWalk.iteOmega]; intros; omega))) | (repeat (first | with_reducible exact Below.refl _ _ | with_reducible assumption | with_reducible refine below_drewN ?_ _ | with_reducible refine Below.drew ?_ | with_reducible refine below_alloc ?_ _ | (with_reducible refine Below.setCell ?_ (by first | (simp; done) | omega | (simp; omega)) _) | with_reducible refine belows ?_ (by assumption)))
  case rest =>
    obtain ⟨c, rfl, rfl, hc1, hc2, HB, HC, HF⟩ := hcut
    obtain ⟨c0, c1, c2⟩ := HC.out
    have hB := HB.out
    have f0 := HF.out 0
    have f1 := HF.out 1
    have f2 := HF.out 2
    have f3 := HF.out 3
    simp only [cellsAre_cons, cellsAre_nil] at c0 c1 c2
    obtain ⟨p0, p1, p2, _⟩ := c0
    obtain ⟨q0, q1, q2, q3, _⟩ := c1
    obtain ⟨r0, r1, _⟩ := c2
    clear HB HC HF
    go_wp2_with fail
    go_region_held3 (fun w'' => w''.cell? ⟨w.heap.size, 1, none⟩ = some (.int .u64 (U m)) ∧ w''.cell? ⟨c, 0, none⟩ = some (.int .u64 (U (lkB m a))) ∧ w''.cell? ⟨c, 1, none⟩ = some (.int .u64 (U (lkT m a))))
      (first | (go_keep; done) | (refine ⟨?_, ?_, ?_⟩ <;> (first | (go_simp; done) | (go_simp; (simp [↓IntWalk.iteOmega]; done)) | (go_simp; intros; omega) | (go_simp; simp [↓IntWalk.iteOmega]; intros; omega))))
      (first | (go_at_call 42; (with_reducible refine (get_any _ _ _ _).mono ?_); rintro e w' ⟨rfl, kd, rfl⟩))
    all_goals go_wp2_with fail
    all_goals refine bodyPost_ret (results_ct [.int .u64 (U (lkB m a)), .int .u64 (U (lkT m a)), .int .u64 (U (getF m 32 9)), .int .u64 (U (getF m 48 12))] (.bool (lkOk m a)) Try.results38 rfl rfl ?_ Try.underlying79 rfl (by kernel_rfl)) rfl ?_
    all_goals first | (first | (go_simp; done) | (go_simp; (simp [↓IntWalk.iteOmega]; done)) | (go_simp; intros; omega) | (go_simp; simp [↓IntWalk.iteOmega]; intros; omega)) | exact ⟨rfl, by (repeat (first | with_reducible exact Below.refl _ _ | with_reducible assumption | with_reducible refine below_drewN ?_ _ | with_reducible refine Below.drew ?_ | with_reducible refine below_alloc ?_ _ | (with_reducible refine Below.setCell ?_ (by first | (simp; done) | omega | (simp; omega)) _) | with_reducible refine belows ?_ (by assumption)))⟩
def metaF (b t e p y : BitVec 64) : BitVec 64 := layF [(0, 32, wordF b t e), (32, 9, p), (48, 12, y)]
end Go.Proofs.Ytpjcijmdoofcbaa
