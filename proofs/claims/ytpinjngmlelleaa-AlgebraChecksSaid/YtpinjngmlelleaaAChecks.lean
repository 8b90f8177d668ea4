
/-
  AlgebraChecks: what may be done with some bytes may be done with fewer, and with each of them, and with a part of the capability that has them; what has no tag is good for nothing. Every input.
-/
import Derived.Test.YtpinjngmlelleaaRows
import Derived.Test.YtpinjngmlelleaaLaw
import Derived.Test.YtpinjngmlelleaaAlgebraLaw
import Derived.Test.YtpinjngmlelleaaAlgebraP
namespace Go.Proofs.Ytpinjngmlelleaa.Checks
open Go Go.RowKit Go.ChangeShapes Go.WideShapes Go.ChangeAt
set_option linter.unusedVariables false
set_option linter.unusedSimpArgs false

theorem cap_tag (v0 v1 v2 : Value) (w : World) : (Instr.field 24 (.agg #[v0, v1, v2]) 0).run Try.prog w = .ok v0 w := by kernel_rfl
theorem cap_neq (g h : Bool) (a b a' b' : BitVec 64) (w : World) : (binOp .neq 24 (.agg #[.bool g, .int .u64 (U a), .int .u64 (U b)]) (.agg #[.bool h, .int .u64 (U a'), .int .u64 (U b')])).run Try.prog w = .ok (.bool (!(g == h && (a == a' && b == b')))) w := neq_of_eql (cap_eql g h a b a' b' w)
attribute [local go_sem 3000] cap_tag cap_neq
set_option maxHeartbeats 8000000 in
set_option maxRecDepth 100000 in
theorem core_n (g : Bool) (k i j rr : Int) (m a M : BitVec 64) (hr : (rr == 0) = false) (hr2 : (rr != 0) = true) (c1 : ∀ w : World, Calls Try.prog 10 #[.agg #[.bool g, .int .u64 (U m), .int .u64 (U a)]] w fun r w' => r = .returned (.agg #[.bool false, .int .u64 (U m), .int .u64 (U a)]) ∧ Below w.heap.size w w') (c2 : ∀ w : World, Calls Try.prog 25 #[.agg #[.bool false, .int .u64 (U m), .int .u64 (U a)], .int .i64 k, .int .u64 (U (BitVec.ofInt 64 (i % 65536)))] w fun r w' => r = .returned (.int .i64 1) ∧ Below w.heap.size w w') (c3 : ∀ w : World, Calls Try.prog 25 #[.agg #[.bool g, .int .u64 (U m), .int .u64 (U a)], .int .i64 k, .int .u64 (U (BitVec.ofInt 64 (i % 65536)))] w fun r w' => r = .returned (.int .i64 rr) ∧ Below w.heap.size w w') (w : World) : Calls Try.prog 5 #[.agg #[.bool g, .int .u64 (U m), .int .u64 (U a)], .agg #[.int .i64 k, .int .i64 i, .int .i64 j]] w fun r w' => r = .returned (.bool true) ∧ Below w.heap.size w w' := by
  go_enter Try.func5, Try.ntmps5
  go_wp2_with fail
  refine wp_region_below (by kernel_rfl) (by kernel_rfl) (fun hcr hfr => ?_)
  (try simp only [World.size_alloc, World.size_setCell, World.size_drew, size_drewN_] at hcr hfr)
  repeat (go_big_quiet_step (fail))
  refine wpQuiet_nil ?_
  intro w' hbl
  clear hcr hfr
  obtain ⟨hcw, hfw, hsw⟩ := below_ifs hbl; (try simp only [World.size_alloc, World.size_setCell, World.size_drew, size_drewN_] at hcw hfw hsw)
  go_wp2_with (first | (go_at_call 10; (with_reducible refine (c1 _).mono ?_); rintro e w' ⟨rfl, hbl⟩; obtain ⟨hcw, hfw, hsw⟩ := below_ifs hbl; (try simp only [World.size_alloc, World.size_setCell, World.size_drew, size_drewN_] at hcw hfw hsw)) | (go_at_call 25; (with_reducible refine (c2 _).mono ?_); rintro e w' ⟨rfl, hbl⟩; obtain ⟨hcw, hfw, hsw⟩ := below_ifs hbl; (try simp only [World.size_alloc, World.size_setCell, World.size_drew, size_drewN_] at hcw hfw hsw)) | (go_at_call 25; (with_reducible refine (c3 _).mono ?_); rintro e w' ⟨rfl, hbl⟩; obtain ⟨hcw, hfw, hsw⟩ := below_ifs hbl; (try simp only [World.size_alloc, World.size_setCell, World.size_drew, size_drewN_] at hcw hfw hsw)) | (go_at_call 19; (with_reducible refine (one6_any _).mono ?_); rintro e w' ⟨rfl, hbl⟩; obtain ⟨hcw, hfw, hsw⟩ := below_ifs hbl; (try simp only [World.size_alloc, World.size_setCell, World.size_drew, size_drewN_] at hcw hfw hsw)))
  go_ret
  exact ⟨ret_bool (by simp), by (repeat (first | with_reducible exact Below.refl _ _ | with_reducible assumption | with_reducible refine below_drewN ?_ _ | with_reducible refine Below.drew ?_ | with_reducible refine below_alloc ?_ _ | (with_reducible refine Below.setCell ?_ (by first | (simp; done) | omega | (simp; omega)) _) | with_reducible refine belows ?_ (by assumption)))⟩
set_option maxHeartbeats 8000000 in
set_option maxRecDepth 100000 in
theorem core_z (g : Bool) (k i j rr : Int) (m a M : BitVec 64) (hz : ((BitVec.ofInt 64 (i % 65536)) == 0#64) = true) (c1 : ∀ w : World, Calls Try.prog 10 #[.agg #[.bool g, .int .u64 (U m), .int .u64 (U a)]] w fun r w' => r = .returned (.agg #[.bool false, .int .u64 (U m), .int .u64 (U a)]) ∧ Below w.heap.size w w') (c2 : ∀ w : World, Calls Try.prog 25 #[.agg #[.bool false, .int .u64 (U m), .int .u64 (U a)], .int .i64 k, .int .u64 (U (BitVec.ofInt 64 (i % 65536)))] w fun r w' => r = .returned (.int .i64 1) ∧ Below w.heap.size w w') (c3 : ∀ w : World, Calls Try.prog 25 #[.agg #[.bool g, .int .u64 (U m), .int .u64 (U a)], .int .i64 k, .int .u64 (U (BitVec.ofInt 64 (i % 65536)))] w fun r w' => r = .returned (.int .i64 0) ∧ Below w.heap.size w w') (w : World) : Calls Try.prog 5 #[.agg #[.bool g, .int .u64 (U m), .int .u64 (U a)], .agg #[.int .i64 k, .int .i64 i, .int .i64 j]] w fun r w' => r = .returned (.bool true) ∧ Below w.heap.size w w' := by
  go_enter Try.func5, Try.ntmps5
  go_wp2_with fail
  refine wp_region_below (by kernel_rfl) (by kernel_rfl) (fun hcr hfr => ?_)
  (try simp only [World.size_alloc, World.size_setCell, World.size_drew, size_drewN_] at hcr hfr)
  repeat (go_big_quiet_step (fail))
  refine wpQuiet_nil ?_
  intro w' hbl
  clear hcr hfr
  obtain ⟨hcw, hfw, hsw⟩ := below_ifs hbl; (try simp only [World.size_alloc, World.size_setCell, World.size_drew, size_drewN_] at hcw hfw hsw)
  go_wp2_with (first | (go_at_call 10; (with_reducible refine (c1 _).mono ?_); rintro e w' ⟨rfl, hbl⟩; obtain ⟨hcw, hfw, hsw⟩ := below_ifs hbl; (try simp only [World.size_alloc, World.size_setCell, World.size_drew, size_drewN_] at hcw hfw hsw)) | (go_at_call 25; (with_reducible refine (c2 _).mono ?_); rintro e w' ⟨rfl, hbl⟩; obtain ⟨hcw, hfw, hsw⟩ := below_ifs hbl; (try simp only [World.size_alloc, World.size_setCell, World.size_drew, size_drewN_] at hcw hfw hsw)) | (go_at_call 25; (with_reducible refine (c3 _).mono ?_); rintro e w' ⟨rfl, hbl⟩; obtain ⟨hcw, hfw, hsw⟩ := below_ifs hbl; (try simp only [World.size_alloc, World.size_setCell, World.size_drew, size_drewN_] at hcw hfw hsw)) | (go_at_call 19; (with_reducible refine (one6_any _).mono ?_); rintro e w' ⟨rfl, hbl⟩; obtain ⟨hcw, hfw, hsw⟩ := below_ifs hbl; (try simp only [World.size_alloc, World.size_setCell, World.size_drew, size_drewN_] at hcw hfw hsw)))
  go_ret
  exact ⟨ret_bool (by simp), by (repeat (first | with_reducible exact Below.refl _ _ | with_reducible assumption | with_reducible refine below_drewN ?_ _ | with_reducible refine Below.drew ?_ | with_reducible refine below_alloc ?_ _ | (with_reducible refine Below.setCell ?_ (by first | (simp; done) | omega | (simp; omega)) _) | with_reducible refine belows ?_ (by assumption)))⟩
set_option maxHeartbeats 8000000 in
set_option maxRecDepth 100000 in
theorem core_00 (g : Bool) (k i j rr : Int) (m a M : BitVec 64) (hz : ((BitVec.ofInt 64 (i % 65536)) == 0#64) = false) (hz2 : 0 < U (BitVec.ofInt 64 (i % 65536))) (c1 : ∀ w : World, Calls Try.prog 10 #[.agg #[.bool true, .int .u64 (U m), .int .u64 (U a)]] w fun r w' => r = .returned (.agg #[.bool false, .int .u64 (U m), .int .u64 (U a)]) ∧ Below w.heap.size w w') (c2 : ∀ w : World, Calls Try.prog 25 #[.agg #[.bool false, .int .u64 (U m), .int .u64 (U a)], .int .i64 k, .int .u64 (U (BitVec.ofInt 64 (i % 65536)))] w fun r w' => r = .returned (.int .i64 1) ∧ Below w.heap.size w w') (c3 : ∀ w : World, Calls Try.prog 25 #[.agg #[.bool true, .int .u64 (U m), .int .u64 (U a)], .int .i64 k, .int .u64 (U (BitVec.ofInt 64 (i % 65536)))] w fun r w' => r = .returned (.int .i64 0) ∧ Below w.heap.size w w') (c4 : ∀ w : World, Calls Try.prog 14 #[.agg #[.bool true, .int .u64 (U m), .int .u64 (U a)], .int .u64 (U (BitVec.ofInt 64 (j % 65536) % (BitVec.ofInt 64 (i % 65536))))] w fun r w' => r = .returned (.agg #[.bool false, .int .u64 (U m), .int .u64 (U (a + (BitVec.ofInt 64 (j % 65536) % (BitVec.ofInt 64 (i % 65536)))))]) ∧ Below w.heap.size w w') (c7 : ∀ w : World, Calls Try.prog 15 #[.agg #[.bool true, .int .u64 (U m), .int .u64 (U a)], .int .u64 (U (BitVec.ofInt 64 (i % 65536))), .bool true] w fun r w' => r = .returned (.agg #[.bool false, .int .u64 (U M), .int .u64 (U a)]) ∧ Below w.heap.size w w') (c8 : ∀ w : World, Calls Try.prog 25 #[.agg #[.bool true, .int .u64 (U m), .int .u64 (U a)], .int .i64 k, .int .u64 (U ((BitVec.ofInt 64 (i % 65536)) - 1#64))] w fun r w' => r = .returned (.int .i64 0) ∧ Below w.heap.size w w') (c11 : ∀ w : World, Calls Try.prog 26 #[.agg #[.bool true, .int .u64 (U m), .int .u64 (U a)]] w fun r w' => r = .returned (.bool true) ∧ Below w.heap.size w w') (w : World) : Calls Try.prog 5 #[.agg #[.bool true, .int .u64 (U m), .int .u64 (U a)], .agg #[.int .i64 k, .int .i64 i, .int .i64 j]] w fun r w' => r = .returned (.bool true) ∧ Below w.heap.size w w' := by
  go_enter Try.func5, Try.ntmps5
  go_wp2_with fail
  refine wp_region_below (by kernel_rfl) (by kernel_rfl) (fun hcr hfr => ?_)
  (try simp only [World.size_alloc, World.size_setCell, World.size_drew, size_drewN_] at hcr hfr)
  repeat (go_big_quiet_step (fail))
  refine wpQuiet_nil ?_
  intro w' hbl
  clear hcr hfr
  obtain ⟨hcw, hfw, hsw⟩ := below_ifs hbl; (try simp only [World.size_alloc, World.size_setCell, World.size_drew, size_drewN_] at hcw hfw hsw)
  go_wp2_with (first | (go_at_call 10; (with_reducible refine (c1 _).mono ?_); rintro e w' ⟨rfl, hbl⟩; obtain ⟨hcw, hfw, hsw⟩ := below_ifs hbl; (try simp only [World.size_alloc, World.size_setCell, World.size_drew, size_drewN_] at hcw hfw hsw)) | (go_at_call 25; (with_reducible refine (c2 _).mono ?_); rintro e w' ⟨rfl, hbl⟩; obtain ⟨hcw, hfw, hsw⟩ := below_ifs hbl; (try simp only [World.size_alloc, World.size_setCell, World.size_drew, size_drewN_] at hcw hfw hsw)) | (go_at_call 25; (with_reducible refine (c3 _).mono ?_); rintro e w' ⟨rfl, hbl⟩; obtain ⟨hcw, hfw, hsw⟩ := below_ifs hbl; (try simp only [World.size_alloc, World.size_setCell, World.size_drew, size_drewN_] at hcw hfw hsw)) | (go_at_call 14; (with_reducible refine (c4 _).mono ?_); rintro e w' ⟨rfl, hbl⟩; obtain ⟨hcw, hfw, hsw⟩ := below_ifs hbl; (try simp only [World.size_alloc, World.size_setCell, World.size_drew, size_drewN_] at hcw hfw hsw)) | (go_at_call 15; (with_reducible refine (c7 _).mono ?_); rintro e w' ⟨rfl, hbl⟩; obtain ⟨hcw, hfw, hsw⟩ := below_ifs hbl; (try simp only [World.size_alloc, World.size_setCell, World.size_drew, size_drewN_] at hcw hfw hsw)) | (go_at_call 25; (with_reducible refine (c8 _).mono ?_); rintro e w' ⟨rfl, hbl⟩; obtain ⟨hcw, hfw, hsw⟩ := below_ifs hbl; (try simp only [World.size_alloc, World.size_setCell, World.size_drew, size_drewN_] at hcw hfw hsw)) | (go_at_call 26; (with_reducible refine (c11 _).mono ?_); rintro e w' ⟨rfl, hbl⟩; obtain ⟨hcw, hfw, hsw⟩ := below_ifs hbl; (try simp only [World.size_alloc, World.size_setCell, World.size_drew, size_drewN_] at hcw hfw hsw)) | (go_at_call 19; (with_reducible refine (one6_any _).mono ?_); rintro e w' ⟨rfl, hbl⟩; obtain ⟨hcw, hfw, hsw⟩ := below_ifs hbl; (try simp only [World.size_alloc, World.size_setCell, World.size_drew, size_drewN_] at hcw hfw hsw)))
  go_ret
  exact ⟨ret_bool (by simp), by (repeat (first | with_reducible exact Below.refl _ _ | with_reducible assumption | with_reducible refine below_drewN ?_ _ | with_reducible refine Below.drew ?_ | with_reducible refine below_alloc ?_ _ | (with_reducible refine Below.setCell ?_ (by first | (simp; done) | omega | (simp; omega)) _) | with_reducible refine belows ?_ (by assumption)))⟩
set_option maxHeartbeats 8000000 in
set_option maxRecDepth 100000 in
theorem core_01 (g : Bool) (k i j rr : Int) (m a M : BitVec 64) (hz : ((BitVec.ofInt 64 (i % 65536)) == 0#64) = false) (hz2 : 0 < U (BitVec.ofInt 64 (i % 65536))) (c1 : ∀ w : World, Calls Try.prog 10 #[.agg #[.bool true, .int .u64 (U m), .int .u64 (U a)]] w fun r w' => r = .returned (.agg #[.bool false, .int .u64 (U m), .int .u64 (U a)]) ∧ Below w.heap.size w w') (c2 : ∀ w : World, Calls Try.prog 25 #[.agg #[.bool false, .int .u64 (U m), .int .u64 (U a)], .int .i64 k, .int .u64 (U (BitVec.ofInt 64 (i % 65536)))] w fun r w' => r = .returned (.int .i64 1) ∧ Below w.heap.size w w') (c3 : ∀ w : World, Calls Try.prog 25 #[.agg #[.bool true, .int .u64 (U m), .int .u64 (U a)], .int .i64 k, .int .u64 (U (BitVec.ofInt 64 (i % 65536)))] w fun r w' => r = .returned (.int .i64 0) ∧ Below w.heap.size w w') (c4 : ∀ w : World, Calls Try.prog 14 #[.agg #[.bool true, .int .u64 (U m), .int .u64 (U a)], .int .u64 (U (BitVec.ofInt 64 (j % 65536) % (BitVec.ofInt 64 (i % 65536))))] w fun r w' => r = .returned (.agg #[.bool false, .int .u64 (U m), .int .u64 (U (a + (BitVec.ofInt 64 (j % 65536) % (BitVec.ofInt 64 (i % 65536)))))]) ∧ Below w.heap.size w w') (c7 : ∀ w : World, Calls Try.prog 15 #[.agg #[.bool true, .int .u64 (U m), .int .u64 (U a)], .int .u64 (U (BitVec.ofInt 64 (i % 65536))), .bool true] w fun r w' => r = .returned (.agg #[.bool true, .int .u64 (U M), .int .u64 (U a)]) ∧ Below w.heap.size w w') (c8 : ∀ w : World, Calls Try.prog 25 #[.agg #[.bool true, .int .u64 (U m), .int .u64 (U a)], .int .i64 k, .int .u64 (U ((BitVec.ofInt 64 (i % 65536)) - 1#64))] w fun r w' => r = .returned (.int .i64 0) ∧ Below w.heap.size w w') (c9 : ∀ w : World, Calls Try.prog 25 #[.agg #[.bool true, .int .u64 (U M), .int .u64 (U a)], .int .i64 k, .int .u64 (U (BitVec.ofInt 64 (i % 65536)))] w fun r w' => r = .returned (.int .i64 0) ∧ Below w.heap.size w w') (c10 : ∀ w : World, Calls Try.prog 25 #[.agg #[.bool true, .int .u64 (U M), .int .u64 (U a)], .int .i64 k, .int .u64 (U ((BitVec.ofInt 64 (i % 65536)) + 1#64))] w fun r w' => r = .returned (.int .i64 4) ∧ Below w.heap.size w w') (c11 : ∀ w : World, Calls Try.prog 26 #[.agg #[.bool true, .int .u64 (U m), .int .u64 (U a)]] w fun r w' => r = .returned (.bool true) ∧ Below w.heap.size w w') (w : World) : Calls Try.prog 5 #[.agg #[.bool true, .int .u64 (U m), .int .u64 (U a)], .agg #[.int .i64 k, .int .i64 i, .int .i64 j]] w fun r w' => r = .returned (.bool true) ∧ Below w.heap.size w w' := by
  go_enter Try.func5, Try.ntmps5
  go_wp2_with fail
  refine wp_region_below (by kernel_rfl) (by kernel_rfl) (fun hcr hfr => ?_)
  (try simp only [World.size_alloc, World.size_setCell, World.size_drew, size_drewN_] at hcr hfr)
  repeat (go_big_quiet_step (fail))
  refine wpQuiet_nil ?_
  intro w' hbl
  clear hcr hfr
  obtain ⟨hcw, hfw, hsw⟩ := below_ifs hbl; (try simp only [World.size_alloc, World.size_setCell, World.size_drew, size_drewN_] at hcw hfw hsw)
  go_wp2_with (first | (go_at_call 10; (with_reducible refine (c1 _).mono ?_); rintro e w' ⟨rfl, hbl⟩; obtain ⟨hcw, hfw, hsw⟩ := below_ifs hbl; (try simp only [World.size_alloc, World.size_setCell, World.size_drew, size_drewN_] at hcw hfw hsw)) | (go_at_call 25; (with_reducible refine (c2 _).mono ?_); rintro e w' ⟨rfl, hbl⟩; obtain ⟨hcw, hfw, hsw⟩ := below_ifs hbl; (try simp only [World.size_alloc, World.size_setCell, World.size_drew, size_drewN_] at hcw hfw hsw)) | (go_at_call 25; (with_reducible refine (c3 _).mono ?_); rintro e w' ⟨rfl, hbl⟩; obtain ⟨hcw, hfw, hsw⟩ := below_ifs hbl; (try simp only [World.size_alloc, World.size_setCell, World.size_drew, size_drewN_] at hcw hfw hsw)) | (go_at_call 14; (with_reducible refine (c4 _).mono ?_); rintro e w' ⟨rfl, hbl⟩; obtain ⟨hcw, hfw, hsw⟩ := below_ifs hbl; (try simp only [World.size_alloc, World.size_setCell, World.size_drew, size_drewN_] at hcw hfw hsw)) | (go_at_call 15; (with_reducible refine (c7 _).mono ?_); rintro e w' ⟨rfl, hbl⟩; obtain ⟨hcw, hfw, hsw⟩ := below_ifs hbl; (try simp only [World.size_alloc, World.size_setCell, World.size_drew, size_drewN_] at hcw hfw hsw)) | (go_at_call 25; (with_reducible refine (c8 _).mono ?_); rintro e w' ⟨rfl, hbl⟩; obtain ⟨hcw, hfw, hsw⟩ := below_ifs hbl; (try simp only [World.size_alloc, World.size_setCell, World.size_drew, size_drewN_] at hcw hfw hsw)) | (go_at_call 25; (with_reducible refine (c9 _).mono ?_); rintro e w' ⟨rfl, hbl⟩; obtain ⟨hcw, hfw, hsw⟩ := below_ifs hbl; (try simp only [World.size_alloc, World.size_setCell, World.size_drew, size_drewN_] at hcw hfw hsw)) | (go_at_call 25; (with_reducible refine (c10 _).mono ?_); rintro e w' ⟨rfl, hbl⟩; obtain ⟨hcw, hfw, hsw⟩ := below_ifs hbl; (try simp only [World.size_alloc, World.size_setCell, World.size_drew, size_drewN_] at hcw hfw hsw)) | (go_at_call 26; (with_reducible refine (c11 _).mono ?_); rintro e w' ⟨rfl, hbl⟩; obtain ⟨hcw, hfw, hsw⟩ := below_ifs hbl; (try simp only [World.size_alloc, World.size_setCell, World.size_drew, size_drewN_] at hcw hfw hsw)) | (go_at_call 19; (with_reducible refine (one6_any _).mono ?_); rintro e w' ⟨rfl, hbl⟩; obtain ⟨hcw, hfw, hsw⟩ := below_ifs hbl; (try simp only [World.size_alloc, World.size_setCell, World.size_drew, size_drewN_] at hcw hfw hsw)))
  go_ret
  exact ⟨ret_bool (by simp), by (repeat (first | with_reducible exact Below.refl _ _ | with_reducible assumption | with_reducible refine below_drewN ?_ _ | with_reducible refine Below.drew ?_ | with_reducible refine below_alloc ?_ _ | (with_reducible refine Below.setCell ?_ (by first | (simp; done) | omega | (simp; omega)) _) | with_reducible refine belows ?_ (by assumption)))⟩
set_option maxHeartbeats 8000000 in
set_option maxRecDepth 100000 in
theorem core_10 (g : Bool) (k i j rr : Int) (m a M : BitVec 64) (hz : ((BitVec.ofInt 64 (i % 65536)) == 0#64) = false) (hz2 : 0 < U (BitVec.ofInt 64 (i % 65536))) (c1 : ∀ w : World, Calls Try.prog 10 #[.agg #[.bool true, .int .u64 (U m), .int .u64 (U a)]] w fun r w' => r = .returned (.agg #[.bool false, .int .u64 (U m), .int .u64 (U a)]) ∧ Below w.heap.size w w') (c2 : ∀ w : World, Calls Try.prog 25 #[.agg #[.bool false, .int .u64 (U m), .int .u64 (U a)], .int .i64 k, .int .u64 (U (BitVec.ofInt 64 (i % 65536)))] w fun r w' => r = .returned (.int .i64 1) ∧ Below w.heap.size w w') (c3 : ∀ w : World, Calls Try.prog 25 #[.agg #[.bool true, .int .u64 (U m), .int .u64 (U a)], .int .i64 k, .int .u64 (U (BitVec.ofInt 64 (i % 65536)))] w fun r w' => r = .returned (.int .i64 0) ∧ Below w.heap.size w w') (c4 : ∀ w : World, Calls Try.prog 14 #[.agg #[.bool true, .int .u64 (U m), .int .u64 (U a)], .int .u64 (U (BitVec.ofInt 64 (j % 65536) % (BitVec.ofInt 64 (i % 65536))))] w fun r w' => r = .returned (.agg #[.bool true, .int .u64 (U m), .int .u64 (U (a + (BitVec.ofInt 64 (j % 65536) % (BitVec.ofInt 64 (i % 65536)))))]) ∧ Below w.heap.size w w') (c5 : ∀ w : World, Calls Try.prog 25 #[.agg #[.bool true, .int .u64 (U m), .int .u64 (U (a + (BitVec.ofInt 64 (j % 65536) % (BitVec.ofInt 64 (i % 65536)))))], .int .i64 k, .int .u64 1] w fun r w' => r = .returned (.int .i64 0) ∧ Below w.heap.size w w') (c6 : ∀ w : World, Calls Try.prog 25 #[.agg #[.bool true, .int .u64 (U m), .int .u64 (U (a + (BitVec.ofInt 64 (j % 65536) % (BitVec.ofInt 64 (i % 65536)))))], .int .i64 k, .int .u64 (U ((BitVec.ofInt 64 (i % 65536)) - (BitVec.ofInt 64 (j % 65536) % (BitVec.ofInt 64 (i % 65536)))))] w fun r w' => r = .returned (.int .i64 0) ∧ Below w.heap.size w w') (c7 : ∀ w : World, Calls Try.prog 15 #[.agg #[.bool true, .int .u64 (U m), .int .u64 (U a)], .int .u64 (U (BitVec.ofInt 64 (i % 65536))), .bool true] w fun r w' => r = .returned (.agg #[.bool false, .int .u64 (U M), .int .u64 (U a)]) ∧ Below w.heap.size w w') (c8 : ∀ w : World, Calls Try.prog 25 #[.agg #[.bool true, .int .u64 (U m), .int .u64 (U a)], .int .i64 k, .int .u64 (U ((BitVec.ofInt 64 (i % 65536)) - 1#64))] w fun r w' => r = .returned (.int .i64 0) ∧ Below w.heap.size w w') (c11 : ∀ w : World, Calls Try.prog 26 #[.agg #[.bool true, .int .u64 (U m), .int .u64 (U a)]] w fun r w' => r = .returned (.bool true) ∧ Below w.heap.size w w') (w : World) : Calls Try.prog 5 #[.agg #[.bool true, .int .u64 (U m), .int .u64 (U a)], .agg #[.int .i64 k, .int .i64 i, .int .i64 j]] w fun r w' => r = .returned (.bool true) ∧ Below w.heap.size w w' := by
  go_enter Try.func5, Try.ntmps5
  go_wp2_with fail
  refine wp_region_below (by kernel_rfl) (by kernel_rfl) (fun hcr hfr => ?_)
  (try simp only [World.size_alloc, World.size_setCell, World.size_drew, size_drewN_] at hcr hfr)
  repeat (go_big_quiet_step (fail))
  refine wpQuiet_nil ?_
  intro w' hbl
  clear hcr hfr
  obtain ⟨hcw, hfw, hsw⟩ := below_ifs hbl; (try simp only [World.size_alloc, World.size_setCell, World.size_drew, size_drewN_] at hcw hfw hsw)
  go_wp2_with (first | (go_at_call 10; (with_reducible refine (c1 _).mono ?_); rintro e w' ⟨rfl, hbl⟩; obtain ⟨hcw, hfw, hsw⟩ := below_ifs hbl; (try simp only [World.size_alloc, World.size_setCell, World.size_drew, size_drewN_] at hcw hfw hsw)) | (go_at_call 25; (with_reducible refine (c2 _).mono ?_); rintro e w' ⟨rfl, hbl⟩; obtain ⟨hcw, hfw, hsw⟩ := below_ifs hbl; (try simp only [World.size_alloc, World.size_setCell, World.size_drew, size_drewN_] at hcw hfw hsw)) | (go_at_call 25; (with_reducible refine (c3 _).mono ?_); rintro e w' ⟨rfl, hbl⟩; obtain ⟨hcw, hfw, hsw⟩ := below_ifs hbl; (try simp only [World.size_alloc, World.size_setCell, World.size_drew, size_drewN_] at hcw hfw hsw)) | (go_at_call 14; (with_reducible refine (c4 _).mono ?_); rintro e w' ⟨rfl, hbl⟩; obtain ⟨hcw, hfw, hsw⟩ := below_ifs hbl; (try simp only [World.size_alloc, World.size_setCell, World.size_drew, size_drewN_] at hcw hfw hsw)) | (go_at_call 25; (with_reducible refine (c5 _).mono ?_); rintro e w' ⟨rfl, hbl⟩; obtain ⟨hcw, hfw, hsw⟩ := below_ifs hbl; (try simp only [World.size_alloc, World.size_setCell, World.size_drew, size_drewN_] at hcw hfw hsw)) | (go_at_call 25; (with_reducible refine (c6 _).mono ?_); rintro e w' ⟨rfl, hbl⟩; obtain ⟨hcw, hfw, hsw⟩ := below_ifs hbl; (try simp only [World.size_alloc, World.size_setCell, World.size_drew, size_drewN_] at hcw hfw hsw)) | (go_at_call 15; (with_reducible refine (c7 _).mono ?_); rintro e w' ⟨rfl, hbl⟩; obtain ⟨hcw, hfw, hsw⟩ := below_ifs hbl; (try simp only [World.size_alloc, World.size_setCell, World.size_drew, size_drewN_] at hcw hfw hsw)) | (go_at_call 25; (with_reducible refine (c8 _).mono ?_); rintro e w' ⟨rfl, hbl⟩; obtain ⟨hcw, hfw, hsw⟩ := below_ifs hbl; (try simp only [World.size_alloc, World.size_setCell, World.size_drew, size_drewN_] at hcw hfw hsw)) | (go_at_call 26; (with_reducible refine (c11 _).mono ?_); rintro e w' ⟨rfl, hbl⟩; obtain ⟨hcw, hfw, hsw⟩ := below_ifs hbl; (try simp only [World.size_alloc, World.size_setCell, World.size_drew, size_drewN_] at hcw hfw hsw)) | (go_at_call 19; (with_reducible refine (one6_any _).mono ?_); rintro e w' ⟨rfl, hbl⟩; obtain ⟨hcw, hfw, hsw⟩ := below_ifs hbl; (try simp only [World.size_alloc, World.size_setCell, World.size_drew, size_drewN_] at hcw hfw hsw)))
  go_ret
  exact ⟨ret_bool (by simp), by (repeat (first | with_reducible exact Below.refl _ _ | with_reducible assumption | with_reducible refine below_drewN ?_ _ | with_reducible refine Below.drew ?_ | with_reducible refine below_alloc ?_ _ | (with_reducible refine Below.setCell ?_ (by first | (simp; done) | omega | (simp; omega)) _) | with_reducible refine belows ?_ (by assumption)))⟩
set_option maxHeartbeats 8000000 in
set_option maxRecDepth 100000 in
theorem core_11 (g : Bool) (k i j rr : Int) (m a M : BitVec 64) (hz : ((BitVec.ofInt 64 (i % 65536)) == 0#64) = false) (hz2 : 0 < U (BitVec.ofInt 64 (i % 65536))) (c1 : ∀ w : World, Calls Try.prog 10 #[.agg #[.bool true, .int .u64 (U m), .int .u64 (U a)]] w fun r w' => r = .returned (.agg #[.bool false, .int .u64 (U m), .int .u64 (U a)]) ∧ Below w.heap.size w w') (c2 : ∀ w : World, Calls Try.prog 25 #[.agg #[.bool false, .int .u64 (U m), .int .u64 (U a)], .int .i64 k, .int .u64 (U (BitVec.ofInt 64 (i % 65536)))] w fun r w' => r = .returned (.int .i64 1) ∧ Below w.heap.size w w') (c3 : ∀ w : World, Calls Try.prog 25 #[.agg #[.bool true, .int .u64 (U m), .int .u64 (U a)], .int .i64 k, .int .u64 (U (BitVec.ofInt 64 (i % 65536)))] w fun r w' => r = .returned (.int .i64 0) ∧ Below w.heap.size w w') (c4 : ∀ w : World, Calls Try.prog 14 #[.agg #[.bool true, .int .u64 (U m), .int .u64 (U a)], .int .u64 (U (BitVec.ofInt 64 (j % 65536) % (BitVec.ofInt 64 (i % 65536))))] w fun r w' => r = .returned (.agg #[.bool true, .int .u64 (U m), .int .u64 (U (a + (BitVec.ofInt 64 (j % 65536) % (BitVec.ofInt 64 (i % 65536)))))]) ∧ Below w.heap.size w w') (c5 : ∀ w : World, Calls Try.prog 25 #[.agg #[.bool true, .int .u64 (U m), .int .u64 (U (a + (BitVec.ofInt 64 (j % 65536) % (BitVec.ofInt 64 (i % 65536)))))], .int .i64 k, .int .u64 1] w fun r w' => r = .returned (.int .i64 0) ∧ Below w.heap.size w w') (c6 : ∀ w : World, Calls Try.prog 25 #[.agg #[.bool true, .int .u64 (U m), .int .u64 (U (a + (BitVec.ofInt 64 (j % 65536) % (BitVec.ofInt 64 (i % 65536)))))], .int .i64 k, .int .u64 (U ((BitVec.ofInt 64 (i % 65536)) - (BitVec.ofInt 64 (j % 65536) % (BitVec.ofInt 64 (i % 65536)))))] w fun r w' => r = .returned (.int .i64 0) ∧ Below w.heap.size w w') (c7 : ∀ w : World, Calls Try.prog 15 #[.agg #[.bool true, .int .u64 (U m), .int .u64 (U a)], .int .u64 (U (BitVec.ofInt 64 (i % 65536))), .bool true] w fun r w' => r = .returned (.agg #[.bool true, .int .u64 (U M), .int .u64 (U a)]) ∧ Below w.heap.size w w') (c8 : ∀ w : World, Calls Try.prog 25 #[.agg #[.bool true, .int .u64 (U m), .int .u64 (U a)], .int .i64 k, .int .u64 (U ((BitVec.ofInt 64 (i % 65536)) - 1#64))] w fun r w' => r = .returned (.int .i64 0) ∧ Below w.heap.size w w') (c9 : ∀ w : World, Calls Try.prog 25 #[.agg #[.bool true, .int .u64 (U M), .int .u64 (U a)], .int .i64 k, .int .u64 (U (BitVec.ofInt 64 (i % 65536)))] w fun r w' => r = .returned (.int .i64 0) ∧ Below w.heap.size w w') (c10 : ∀ w : World, Calls Try.prog 25 #[.agg #[.bool true, .int .u64 (U M), .int .u64 (U a)], .int .i64 k, .int .u64 (U ((BitVec.ofInt 64 (i % 65536)) + 1#64))] w fun r w' => r = .returned (.int .i64 4) ∧ Below w.heap.size w w') (c11 : ∀ w : World, Calls Try.prog 26 #[.agg #[.bool true, .int .u64 (U m), .int .u64 (U a)]] w fun r w' => r = .returned (.bool true) ∧ Below w.heap.size w w') (w : World) : Calls Try.prog 5 #[.agg #[.bool true, .int .u64 (U m), .int .u64 (U a)], .agg #[.int .i64 k, .int .i64 i, .int .i64 j]] w fun r w' => r = .returned (.bool true) ∧ Below w.heap.size w w' := by
  go_enter Try.func5, Try.ntmps5
  go_wp2_with fail
  refine wp_region_below (by kernel_rfl) (by kernel_rfl) (fun hcr hfr => ?_)
  (try simp only [World.size_alloc, World.size_setCell, World.size_drew, size_drewN_] at hcr hfr)
  repeat (go_big_quiet_step (fail))
  refine wpQuiet_nil ?_
  intro w' hbl
  clear hcr hfr
  obtain ⟨hcw, hfw, hsw⟩ := below_ifs hbl; (try simp only [World.size_alloc, World.size_setCell, World.size_drew, size_drewN_] at hcw hfw hsw)
  go_wp2_with (first | (go_at_call 10; (with_reducible refine (c1 _).mono ?_); rintro e w' ⟨rfl, hbl⟩; obtain ⟨hcw, hfw, hsw⟩ := below_ifs hbl; (try simp only [World.size_alloc, World.size_setCell, World.size_drew, size_drewN_] at hcw hfw hsw)) | (go_at_call 25; (with_reducible refine (c2 _).mono ?_); rintro e w' ⟨rfl, hbl⟩; obtain ⟨hcw, hfw, hsw⟩ := below_ifs hbl; (try simp only [World.size_alloc, World.size_setCell, World.size_drew, size_drewN_] at hcw hfw hsw)) | (go_at_call 25; (with_reducible refine (c3 _).mono ?_); rintro e w' ⟨rfl, hbl⟩; obtain ⟨hcw, hfw, hsw⟩ := below_ifs hbl; (try simp only [World.size_alloc, World.size_setCell, World.size_drew, size_drewN_] at hcw hfw hsw)) | (go_at_call 14; (with_reducible refine (c4 _).mono ?_); rintro e w' ⟨rfl, hbl⟩; obtain ⟨hcw, hfw, hsw⟩ := below_ifs hbl; (try simp only [World.size_alloc, World.size_setCell, World.size_drew, size_drewN_] at hcw hfw hsw)) | (go_at_call 25; (with_reducible refine (c5 _).mono ?_); rintro e w' ⟨rfl, hbl⟩; obtain ⟨hcw, hfw, hsw⟩ := below_ifs hbl; (try simp only [World.size_alloc, World.size_setCell, World.size_drew, size_drewN_] at hcw hfw hsw)) | (go_at_call 25; (with_reducible refine (c6 _).mono ?_); rintro e w' ⟨rfl, hbl⟩; obtain ⟨hcw, hfw, hsw⟩ := below_ifs hbl; (try simp only [World.size_alloc, World.size_setCell, World.size_drew, size_drewN_] at hcw hfw hsw)) | (go_at_call 15; (with_reducible refine (c7 _).mono ?_); rintro e w' ⟨rfl, hbl⟩; obtain ⟨hcw, hfw, hsw⟩ := below_ifs hbl; (try simp only [World.size_alloc, World.size_setCell, World.size_drew, size_drewN_] at hcw hfw hsw)) | (go_at_call 25; (with_reducible refine (c8 _).mono ?_); rintro e w' ⟨rfl, hbl⟩; obtain ⟨hcw, hfw, hsw⟩ := below_ifs hbl; (try simp only [World.size_alloc, World.size_setCell, World.size_drew, size_drewN_] at hcw hfw hsw)) | (go_at_call 25; (with_reducible refine (c9 _).mono ?_); rintro e w' ⟨rfl, hbl⟩; obtain ⟨hcw, hfw, hsw⟩ := below_ifs hbl; (try simp only [World.size_alloc, World.size_setCell, World.size_drew, size_drewN_] at hcw hfw hsw)) | (go_at_call 25; (with_reducible refine (c10 _).mono ?_); rintro e w' ⟨rfl, hbl⟩; obtain ⟨hcw, hfw, hsw⟩ := below_ifs hbl; (try simp only [World.size_alloc, World.size_setCell, World.size_drew, size_drewN_] at hcw hfw hsw)) | (go_at_call 26; (with_reducible refine (c11 _).mono ?_); rintro e w' ⟨rfl, hbl⟩; obtain ⟨hcw, hfw, hsw⟩ := below_ifs hbl; (try simp only [World.size_alloc, World.size_setCell, World.size_drew, size_drewN_] at hcw hfw hsw)) | (go_at_call 19; (with_reducible refine (one6_any _).mono ?_); rintro e w' ⟨rfl, hbl⟩; obtain ⟨hcw, hfw, hsw⟩ := below_ifs hbl; (try simp only [World.size_alloc, World.size_setCell, World.size_drew, size_drewN_] at hcw hfw hsw)))
  go_ret
  exact ⟨ret_bool (by simp), by (repeat (first | with_reducible exact Below.refl _ _ | with_reducible assumption | with_reducible refine below_drewN ?_ _ | with_reducible refine Below.drew ?_ | with_reducible refine below_alloc ?_ _ | (with_reducible refine Below.setCell ?_ (by first | (simp; done) | omega | (simp; omega)) _) | with_reducible refine belows ?_ (by assumption)))⟩
theorem chk_iff (g : Bool) (m a : BitVec 64) (k : Int) (n : BitVec 64) : chkF g m a k n = 0 ↔ (g && rtF m a) = true ∧ opF g m a = true ∧ (needF k &&& ~~~ mP m == 0#64) = true ∧ inF a n (lkB m a) (lkT m a) = true := by
  unfold chkF chkI
  cases (g && rtF m a) <;> cases opF g m a <;> cases (needF k &&& ~~~ mP m == 0#64) <;> cases inF a n (lkB m a) (lkT m a) <;> simp
theorem in_iff (a n b t : BitVec 64) : inF a n b t = true ↔ b.toNat ≤ a.toNat ∧ a.toNat + n.toNat ≤ t.toNat := by
  unfold inF
  rw [Bool.and_eq_true, decide_eq_true_eq, decide_eq_true_eq]
theorem n_small (i : Int) : (BitVec.ofInt 64 (i % 65536)).toNat < 65536 := by
  rw [BitVec.toNat_ofInt]
  omega
theorem walk (g : Bool) (m a : BitVec 64) (k i j : Int) (w : World) : Calls Try.prog 5 #[.agg #[.bool g, .int .u64 (U m), .int .u64 (U a)], .agg #[.int .i64 k, .int .i64 i, .int .i64 j]] w fun r w' => r = .returned (.bool true) ∧ Below w.heap.size w w' := by
  have c1 : ∀ w : World, Calls Try.prog 10 #[.agg #[.bool g, .int .u64 (U m), .int .u64 (U a)]] w fun r w' => r = .returned (.agg #[.bool false, .int .u64 (U m), .int .u64 (U a)]) ∧ Below w.heap.size w w' := fun w => clear_any g m a w
  have c2 : ∀ w : World, Calls Try.prog 25 #[.agg #[.bool false, .int .u64 (U m), .int .u64 (U a)], .int .i64 k, .int .u64 (U (BitVec.ofInt 64 (i % 65536)))] w fun r w' => r = .returned (.int .i64 1) ∧ Below w.heap.size w w' := fun w => (check_any false m a k (BitVec.ofInt 64 (i % 65536)) w).mono fun _ _ q => ⟨by rw [q.1]; rfl, q.2⟩
  have c3 : ∀ w : World, Calls Try.prog 25 #[.agg #[.bool g, .int .u64 (U m), .int .u64 (U a)], .int .i64 k, .int .u64 (U (BitVec.ofInt 64 (i % 65536)))] w fun r w' => r = .returned (.int .i64 (chkF g m a k (BitVec.ofInt 64 (i % 65536)))) ∧ Below w.heap.size w w' := fun w => check_any g m a k (BitVec.ofInt 64 (i % 65536)) w
  by_cases hr : chkF g m a k (BitVec.ofInt 64 (i % 65536)) = 0
  · rw [hr] at c3
    cases hz : ((BitVec.ofInt 64 (i % 65536)) == 0#64)
    · obtain ⟨k1, k2, k3, k4⟩ := (chk_iff _ _ _ _ _).1 hr
      obtain rfl : g = true := opF_tag k2
      have hN := n_small i
      have hz' := beq_eq_false_iff_ne.1 hz
      have hpos : 0 < ((BitVec.ofInt 64 (i % 65536))).toNat := Nat.pos_of_ne_zero fun e => hz' (BitVec.eq_of_toNat_eq e)
      have hz2 : 0 < U (BitVec.ofInt 64 (i % 65536)) := by unfold U; omega
      have hat : ((BitVec.ofInt 64 (j % 65536) % (BitVec.ofInt 64 (i % 65536)))).toNat < ((BitVec.ofInt 64 (i % 65536))).toNat := by rw [BitVec.toNat_umod]; exact Nat.mod_lt _ hpos
      obtain ⟨i1, i2⟩ := (in_iff _ _ _ _).1 k4
      obtain ⟨o1, o2, o3⟩ := (opF_iff _ _ _).1 k2
      have hT := (lkT m a).isLt
      have c4 : ∀ w : World, Calls Try.prog 14 #[.agg #[.bool true, .int .u64 (U m), .int .u64 (U a)], .int .u64 (U (BitVec.ofInt 64 (j % 65536) % (BitVec.ofInt 64 (i % 65536))))] w fun r w' => r = .returned (.agg #[.bool (movF true m a (a + (BitVec.ofInt 64 (j % 65536) % (BitVec.ofInt 64 (i % 65536))))), .int .u64 (U m), .int .u64 (U (a + (BitVec.ofInt 64 (j % 65536) % (BitVec.ofInt 64 (i % 65536)))))]) ∧ Below w.heap.size w w' := fun w => move_any true m a (BitVec.ofInt 64 (j % 65536) % (BitVec.ofInt 64 (i % 65536))) w
      have c7 : ∀ w : World, Calls Try.prog 15 #[.agg #[.bool true, .int .u64 (U m), .int .u64 (U a)], .int .u64 (U (BitVec.ofInt 64 (i % 65536))), .bool true] w fun r w' => r = .returned (.agg #[.bool (bndG true m a (BitVec.ofInt 64 (i % 65536)) true), .int .u64 (U (bndM m a (BitVec.ofInt 64 (i % 65536)))), .int .u64 (U a)]) ∧ Below w.heap.size w w' := fun w => bound_any true true m a (BitVec.ofInt 64 (i % 65536)) w
      have h8 : chkF true m a k ((BitVec.ofInt 64 (i % 65536)) - 1#64) = 0 := by
        refine (chk_iff _ _ _ _ _).2 ⟨k1, k2, k3, (in_iff _ _ _ _).2 ⟨i1, ?_⟩⟩
        have e : ((BitVec.ofInt 64 (i % 65536)) - 1#64).toNat = ((BitVec.ofInt 64 (i % 65536))).toNat - 1 := by
          have h1 : (1#64).toNat = 1 := rfl
          rw [BitVec.toNat_sub, h1]
          omega
        rw [e]
        omega
      have c8 : ∀ w : World, Calls Try.prog 25 #[.agg #[.bool true, .int .u64 (U m), .int .u64 (U a)], .int .i64 k, .int .u64 (U ((BitVec.ofInt 64 (i % 65536)) - 1#64))] w fun r w' => r = .returned (.int .i64 0) ∧ Below w.heap.size w w' := fun w => (check_any true m a k ((BitVec.ofInt 64 (i % 65536)) - 1#64) w).mono fun _ _ q => ⟨by rw [q.1, h8], q.2⟩
      have c11 : ∀ w : World, Calls Try.prog 26 #[.agg #[.bool true, .int .u64 (U m), .int .u64 (U a)]] w fun r w' => r = .returned (.bool true) ∧ Below w.heap.size w w' := fun w => (rLives_any true m a w).mono fun _ _ q => ⟨by rw [q.1, k1], q.2⟩
      have hmov : movF true m a (a + (BitVec.ofInt 64 (j % 65536) % (BitVec.ofInt 64 (i % 65536)))) = true → chkF true m (a + (BitVec.ofInt 64 (j % 65536) % (BitVec.ofInt 64 (i % 65536)))) k 1#64 = 0 ∧ chkF true m (a + (BitVec.ofInt 64 (j % 65536) % (BitVec.ofInt 64 (i % 65536)))) k ((BitVec.ofInt 64 (i % 65536)) - (BitVec.ofInt 64 (j % 65536) % (BitVec.ofInt 64 (i % 65536)))) = 0 := by
        intro h
        obtain ⟨p1, p2⟩ := mov_right h
        obtain ⟨q1, q2, q3, q4⟩ := (movF_iff _ _ _ _).1 h
        have ea : (a + (BitVec.ofInt 64 (j % 65536) % (BitVec.ofInt 64 (i % 65536)))).toNat = a.toNat + ((BitVec.ofInt 64 (j % 65536) % (BitVec.ofInt 64 (i % 65536)))).toNat := by rw [BitVec.toNat_add]; omega
        have es : ((BitVec.ofInt 64 (i % 65536)) - (BitVec.ofInt 64 (j % 65536) % (BitVec.ofInt 64 (i % 65536)))).toNat = ((BitVec.ofInt 64 (i % 65536))).toNat - ((BitVec.ofInt 64 (j % 65536) % (BitVec.ofInt 64 (i % 65536)))).toNat := by rw [BitVec.toNat_sub]; omega
        have e1 : (1#64).toNat = 1 := rfl
        refine ⟨(chk_iff _ _ _ _ _).2 ⟨by rw [p1]; rfl, p2, k3, (in_iff _ _ _ _).2 ⟨?_, ?_⟩⟩, (chk_iff _ _ _ _ _).2 ⟨by rw [p1]; rfl, p2, k3, (in_iff _ _ _ _).2 ⟨?_, ?_⟩⟩⟩
        · rw [q3, ea]; omega
        · rw [q4, ea, e1]; omega
        · rw [q3, ea]; omega
        · rw [q4, ea, es]; omega
      have hbnd : bndG true m a (BitVec.ofInt 64 (i % 65536)) true = true → chkF true (bndM m a (BitVec.ofInt 64 (i % 65536))) a k (BitVec.ofInt 64 (i % 65536)) = 0 ∧ chkF true (bndM m a (BitVec.ofInt 64 (i % 65536))) a k ((BitVec.ofInt 64 (i % 65536)) + 1#64) = 4 := by
        intro h
        obtain ⟨b1, b2, b3, b4, b5, b6, b7, b8, b9, b10⟩ := bnd_tells h
        obtain ⟨b11, b12⟩ := b9 rfl
        have eo : opF true (bndM m a (BitVec.ofInt 64 (i % 65536))) a = true := (opF_iff _ _ _).2 ⟨rfl, b2, b6⟩
        have ea : (a + (BitVec.ofInt 64 (i % 65536))).toNat = a.toNat + ((BitVec.ofInt 64 (i % 65536))).toNat := by rw [BitVec.toNat_add]; omega
        have en : ((BitVec.ofInt 64 (i % 65536)) + 1#64).toNat = ((BitVec.ofInt 64 (i % 65536))).toNat + 1 := by
          have h1 : (1#64).toNat = 1 := rfl
          rw [BitVec.toNat_add, h1]
          omega
        refine ⟨(chk_iff _ _ _ _ _).2 ⟨by rw [b2]; rfl, eo, by rw [b5]; exact k3, (in_iff _ _ _ _).2 ⟨?_, ?_⟩⟩, ?_⟩
        · rw [b3, b11]; omega
        · rw [b4, b12, ea]; omega
        · have hin : inF a ((BitVec.ofInt 64 (i % 65536)) + 1#64) (lkB (bndM m a (BitVec.ofInt 64 (i % 65536))) a) (lkT (bndM m a (BitVec.ofInt 64 (i % 65536))) a) = false := by
            rw [← Bool.not_eq_true, in_iff]
            rw [b4, b12, ea, en]
            omega
          unfold chkF
          rw [hin, eo, b2, b5, k3]
          rfl
      cases hm : movF true m a (a + (BitVec.ofInt 64 (j % 65536) % (BitVec.ofInt 64 (i % 65536))))
      · rw [hm] at c4
        cases hb : bndG true m a (BitVec.ofInt 64 (i % 65536)) true
        · rw [hb] at c7
          exact core_00 true k i j 0 m a _ hz hz2 c1 c2 c3 c4 c7 c8 c11 w
        · rw [hb] at c7
          obtain ⟨s1, s2⟩ := hbnd hb
          exact core_01 true k i j 0 m a _ hz hz2 c1 c2 c3 c4 c7 c8 (fun w => (check_any true (bndM m a (BitVec.ofInt 64 (i % 65536))) a k (BitVec.ofInt 64 (i % 65536)) w).mono fun _ _ q => ⟨by rw [q.1, s1], q.2⟩) (fun w => (check_any true (bndM m a (BitVec.ofInt 64 (i % 65536))) a k ((BitVec.ofInt 64 (i % 65536)) + 1#64) w).mono fun _ _ q => ⟨by rw [q.1, s2], q.2⟩) c11 w
      · rw [hm] at c4
        obtain ⟨r1, r2⟩ := hmov hm
        cases hb : bndG true m a (BitVec.ofInt 64 (i % 65536)) true
        · rw [hb] at c7
          exact core_10 true k i j 0 m a _ hz hz2 c1 c2 c3 c4 (fun w => (check_any true m (a + (BitVec.ofInt 64 (j % 65536) % (BitVec.ofInt 64 (i % 65536)))) k 1#64 w).mono fun _ _ q => ⟨by rw [q.1, r1], q.2⟩) (fun w => (check_any true m (a + (BitVec.ofInt 64 (j % 65536) % (BitVec.ofInt 64 (i % 65536)))) k ((BitVec.ofInt 64 (i % 65536)) - (BitVec.ofInt 64 (j % 65536) % (BitVec.ofInt 64 (i % 65536)))) w).mono fun _ _ q => ⟨by rw [q.1, r2], q.2⟩) c7 c8 c11 w
        · rw [hb] at c7
          obtain ⟨s1, s2⟩ := hbnd hb
          exact core_11 true k i j 0 m a _ hz hz2 c1 c2 c3 c4 (fun w => (check_any true m (a + (BitVec.ofInt 64 (j % 65536) % (BitVec.ofInt 64 (i % 65536)))) k 1#64 w).mono fun _ _ q => ⟨by rw [q.1, r1], q.2⟩) (fun w => (check_any true m (a + (BitVec.ofInt 64 (j % 65536) % (BitVec.ofInt 64 (i % 65536)))) k ((BitVec.ofInt 64 (i % 65536)) - (BitVec.ofInt 64 (j % 65536) % (BitVec.ofInt 64 (i % 65536)))) w).mono fun _ _ q => ⟨by rw [q.1, r2], q.2⟩) c7 c8 (fun w => (check_any true (bndM m a (BitVec.ofInt 64 (i % 65536))) a k (BitVec.ofInt 64 (i % 65536)) w).mono fun _ _ q => ⟨by rw [q.1, s1], q.2⟩) (fun w => (check_any true (bndM m a (BitVec.ofInt 64 (i % 65536))) a k ((BitVec.ofInt 64 (i % 65536)) + 1#64) w).mono fun _ _ q => ⟨by rw [q.1, s2], q.2⟩) c11 w
    · exact core_z g k i j 0 m a 0#64 hz c1 c2 c3 w
  · exact core_n g k i j _ m a 0#64 (beq_eq_false_iff_ne.2 hr) (bne_iff_ne.2 hr) c1 c2 c3 w

set_option maxRecDepth 100000 in
theorem lifted (os : Os) (started : os.Started) (H : Type) (enc : TypeId × Value → H) :
    ReturnsInHanded {} Try.checked os 5 .any (Rows.algebraChecksSpec.pre6 enc Try.prog Try.f5 Rows.algebraChecksRow.domain false) (Rows.algebraChecksSpec.post enc Try.prog Try.f5 false true false false) := by
  refine law_lift (C := Try.checked) (tb := 4) started (by kernel_rfl) (by kernel_rfl) Try.func5 rfl rfl Try.underlying4 (by kernel_rfl) (by kernel_rfl)
    (fun ds h => by match ds, h with | [_, _], _ => rfl)
    (ChangeSpec.witness6 (enc := enc) (C := Try.checked) false ⟨#[], #[.agg #[.bool false, .int .u64 0, .int .u64 0], .agg #[.int .i64 0, .int .i64 0, .int .i64 0]], []⟩ 8 (by kernel_rfl) (by kernel_rfl) (by kernel_rfl) (by kernel_rfl)) ?_
  intro W base args ds ps hval hA hlt hfz hsz
  rw [Try.params5] at hA hval hsz
  obtain ⟨v0, v1, d0, d1, p0, p1, rfl, rfl, rfl, h0, h1⟩ := trodAll_two hA
  obtain ⟨g, nx0, wx0, nx1, wx1, rfl⟩ := open_leaves (d := 5) (ls := [.bool, .int .u64, .int .u64]) (by kernel_rfl) (by kernel_rfl) (hval 0 _ v0 rfl rfl) h0
  obtain ⟨ny0, wy0, ny1, wy1, ny2, wy2, rfl⟩ := open_leaves (d := 5) (ls := [.int .i64, .int .i64, .int .i64]) (by kernel_rfl) (by kernel_rfl) (hval 1 _ v1 rfl rfl) h1
  obtain ⟨m, rfl⟩ := exists_U nx0 wx0
  obtain ⟨a, rfl⟩ := exists_U nx1 wx1
  exact walk g m a ny0 ny1 ny2 W

theorem over : Rows.algebraChecksRow.holds Try.pinned (OpenSpec.ofChange Rows.algebraChecksSpec) :=
  OpenClaim.holds_of_wide 5 Try.f5 rfl rfl rfl rfl rfl rfl rfl ⟨rfl, rfl, rfl, rfl, rfl⟩ rfl rfl rfl rfl rfl (by kernel_rfl) Try.func5 (by kernel_rfl)
    (of_decide_eq_true (by kernel_rfl)) (by unfold Func.isWrapper; first | (rw [if_pos (by decide +kernel)]; kernel_rfl) | (rw [if_neg (by decide +kernel)]; exact ⟨rfl, rfl⟩))
    (fun os started H enc _ => lifted os started H enc)

theorem proved : Rows.AlgebraChecksSaid := over
end Go.Proofs.Ytpinjngmlelleaa.Checks
