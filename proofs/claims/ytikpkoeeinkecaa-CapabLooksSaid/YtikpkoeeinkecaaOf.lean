
/-
  The capability of sixteen bytes (capab.Of).
-/
import Derived.Test.YtikpkoeeinkecaaNumber
import Derived.Test.YtikpkoeeinkecaaTail
namespace Go.Proofs.Ytikpkoeeinkecaa
open Go Go.RowKit
set_option linter.unusedVariables false
set_option linter.unusedSimpArgs false

theorem number_lo (x : BitVec 64) (b : Nat) (w : World) (h0 : w.cell? ⟨b, 0, none⟩ = some (.int .u8 (byteI x 0))) (h1 : w.cell? ⟨b, 1, none⟩ = some (.int .u8 (byteI x 1))) (h2 : w.cell? ⟨b, 2, none⟩ = some (.int .u8 (byteI x 2))) (h3 : w.cell? ⟨b, 3, none⟩ = some (.int .u8 (byteI x 3))) (h4 : w.cell? ⟨b, 4, none⟩ = some (.int .u8 (byteI x 4))) (h5 : w.cell? ⟨b, 5, none⟩ = some (.int .u8 (byteI x 5))) (h6 : w.cell? ⟨b, 6, none⟩ = some (.int .u8 (byteI x 6))) (h7 : w.cell? ⟨b, 7, none⟩ = some (.int .u8 (byteI x 7))) : Calls Try.prog 36 #[.slice (some ⟨b, 0, none⟩) 8 16] w fun r w' => r = .returned (.int .u64 (U x)) ∧ w = w' := by
  refine number_any x b 0 16 w ?_
  intro j hj
  obtain rfl | rfl | rfl | rfl | rfl | rfl | rfl | rfl : j = 0 ∨ j = 1 ∨ j = 2 ∨ j = 3 ∨ j = 4 ∨ j = 5 ∨ j = 6 ∨ j = 7 := by omega
  all_goals assumption
theorem number_hi (x : BitVec 64) (b : Nat) (w : World) (h0 : w.cell? ⟨b, 8, none⟩ = some (.int .u8 (byteI x 0))) (h1 : w.cell? ⟨b, 9, none⟩ = some (.int .u8 (byteI x 1))) (h2 : w.cell? ⟨b, 10, none⟩ = some (.int .u8 (byteI x 2))) (h3 : w.cell? ⟨b, 11, none⟩ = some (.int .u8 (byteI x 3))) (h4 : w.cell? ⟨b, 12, none⟩ = some (.int .u8 (byteI x 4))) (h5 : w.cell? ⟨b, 13, none⟩ = some (.int .u8 (byteI x 5))) (h6 : w.cell? ⟨b, 14, none⟩ = some (.int .u8 (byteI x 6))) (h7 : w.cell? ⟨b, 15, none⟩ = some (.int .u8 (byteI x 7))) : Calls Try.prog 36 #[.slice (some ⟨b, 8, none⟩) 8 8] w fun r w' => r = .returned (.int .u64 (U x)) ∧ w = w' := by
  refine number_any x b 8 8 w ?_
  intro j hj
  obtain rfl | rfl | rfl | rfl | rfl | rfl | rfl | rfl : j = 0 ∨ j = 1 ∨ j = 2 ∨ j = 3 ∨ j = 4 ∨ j = 5 ∨ j = 6 ∨ j = 7 := by omega
  all_goals assumption
set_option maxHeartbeats 400000 in
set_option maxRecDepth 100000 in
theorem ofb_any (g : Bool) (m a : BitVec 64) (w : World) : Calls Try.prog 21 #[.agg #[.int .u8 (byteI a 0), .int .u8 (byteI a 1), .int .u8 (byteI a 2), .int .u8 (byteI a 3), .int .u8 (byteI a 4), .int .u8 (byteI a 5), .int .u8 (byteI a 6), .int .u8 (byteI a 7), .int .u8 (byteI m 0), .int .u8 (byteI m 1), .int .u8 (byteI m 2), .int .u8 (byteI m 3), .int .u8 (byteI m 4), .int .u8 (byteI m 5), .int .u8 (byteI m 6), .int .u8 (byteI m 7)], .bool g] w fun r w' => r = .returned (.agg #[.bool g, .int .u64 (U m), .int .u64 (U a)]) ∧ Below w.heap.size w w' := by
  go_enter Try.func21, Try.ntmps21
  go_wp2_with fail
  refine wp_region_below_tail 6 (by kernel_rfl) (by kernel_rfl) (fun hcr hfr => ?_)
  (try simp only [World.size_alloc, World.size_setCell, World.size_drew, size_drewN_] at hcr hfr)
  simp only [List.take_succ_cons, List.take_zero, List.drop_succ_cons, List.drop_zero]
  go_big_quiet_step (fail)
  go_big_quiet_step (fail)
  go_big_quiet_step ((go_at_call 36; with_reducible refine regrown_1 (number_hi m _ _ ?_ ?_ ?_ ?_ ?_ ?_ ?_ ?_); all_goals (clear hfr; (first | (go_simp; done) | (go_simp; (simp [↓IntWalk.iteOmega]; done)) | (go_simp; intros; omega) | (go_simp; simp [↓IntWalk.iteOmega]; intros; omega)))))
  go_big_quiet_step (fail)
  go_big_quiet_step ((go_at_call 36; with_reducible refine regrown_1 (number_lo a _ _ ?_ ?_ ?_ ?_ ?_ ?_ ?_ ?_); all_goals (clear hfr; (first | (go_simp; done) | (go_simp; (simp [↓IntWalk.iteOmega]; done)) | (go_simp; intros; omega) | (go_simp; simp [↓IntWalk.iteOmega]; intros; omega)))))
  go_big_quiet_step (fail)
  refine wpQuiet_nil ?_
  intro w' hbl
  clear hcr hfr
  obtain ⟨hcw, hfw, hsw⟩ := below_ifs hbl
  (try simp only [World.size_alloc, World.size_setCell, World.size_drew, size_drewN_] at hcw hfw hsw)
  go_wp2_with fail
  refine ret_c Try.results21 rfl rfl Try.underlying28 rfl (by kernel_rfl) (by (repeat (first | with_reducible exact Below.refl _ _ | with_reducible assumption | with_reducible refine below_drewN ?_ _ | with_reducible refine Below.drew ?_ | with_reducible refine below_alloc ?_ _ | (with_reducible refine Below.setCell ?_ (by first | (simp; done) | omega | (simp; omega)) _) | with_reducible refine belows ?_ (by assumption)))) ?_
  (first | (go_simp; done) | (go_simp; (simp [↓IntWalk.iteOmega]; done)) | (go_simp; intros; omega) | (go_simp; simp [↓IntWalk.iteOmega]; intros; omega))
end Go.Proofs.Ytikpkoeeinkecaa
