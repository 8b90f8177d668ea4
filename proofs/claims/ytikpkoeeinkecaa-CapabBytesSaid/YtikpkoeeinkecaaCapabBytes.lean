
/-
  CapabBytes: two capabilities have the same bytes just if they differ in the tag at most; and a number is a capability that is right where its span is told, for no use. Every input.
-/
import Derived.Test.YtikpkoeeinkecaaRows
import Derived.Test.YtikpkoeeinkecaaLaw
import Derived.Test.YtikpkoeeinkecaaCapabLaw
import Derived.Test.YtikpkoeeinkecaaCapabP
import Derived.Test.YtikpkoeeinkecaaOf
import Derived.Test.YtikpkoeeinkecaaArr
namespace Go.Proofs.Ytikpkoeeinkecaa.Bytes
open Go Go.RowKit Go.ChangeShapes Go.WideShapes Go.ChangeAt
set_option linter.unusedVariables false
set_option linter.unusedSimpArgs false

theorem cap_eql1 (g h : Bool) (a b a' b' : BitVec 64) (w : World) : (binOp .eql 28 (.agg #[.bool g, .int .u64 (U a), .int .u64 (U b)]) (.agg #[.bool h, .int .u64 (U a'), .int .u64 (U b')])).run Try.prog w = .ok (.bool (g == h && (a == a' && b == b'))) w := cap_eql g h a b a' b' w
attribute [local go_sem 3000] cap_guard cap_eql1
set_option maxHeartbeats 8000000 in
set_option maxRecDepth 100000 in
theorem core_ff (g h vo : Bool) (m a k b n v : BitVec 64) (e1 : (m == k) = false) (x : (k == m) = false) (c1 : ∀ w : World, Calls Try.prog 19 #[.int .u64 (U n)] w fun r w' => r = .returned (.agg #[.bool false, .int .u64 0, .int .u64 (U n)]) ∧ Below w.heap.size w w') (c2 : ∀ w : World, Calls Try.prog 15 #[.agg #[.bool false, .int .u64 0, .int .u64 (U n)]] w fun r w' => r = .returned (.tuple #[.agg #[.int .u64 (U v), .int .u64 (U v), .int .u64 0, .int .u64 0], .bool vo]) ∧ Below w.heap.size w w') (c3 : ∀ w : World, Calls Try.prog 20 #[.agg #[.bool g, .int .u64 (U m), .int .u64 (U a)]] w fun r w' => r = .returned (.agg #[.int .u8 (byteI a 0), .int .u8 (byteI a 1), .int .u8 (byteI a 2), .int .u8 (byteI a 3), .int .u8 (byteI a 4), .int .u8 (byteI a 5), .int .u8 (byteI a 6), .int .u8 (byteI a 7), .int .u8 (byteI m 0), .int .u8 (byteI m 1), .int .u8 (byteI m 2), .int .u8 (byteI m 3), .int .u8 (byteI m 4), .int .u8 (byteI m 5), .int .u8 (byteI m 6), .int .u8 (byteI m 7)]) ∧ Below w.heap.size w w') (c4 : ∀ w : World, Calls Try.prog 20 #[.agg #[.bool h, .int .u64 (U k), .int .u64 (U b)]] w fun r w' => r = .returned (.agg #[.int .u8 (byteI b 0), .int .u8 (byteI b 1), .int .u8 (byteI b 2), .int .u8 (byteI b 3), .int .u8 (byteI b 4), .int .u8 (byteI b 5), .int .u8 (byteI b 6), .int .u8 (byteI b 7), .int .u8 (byteI k 0), .int .u8 (byteI k 1), .int .u8 (byteI k 2), .int .u8 (byteI k 3), .int .u8 (byteI k 4), .int .u8 (byteI k 5), .int .u8 (byteI k 6), .int .u8 (byteI k 7)]) ∧ Below w.heap.size w w') (c5 : ∀ w : World, Calls Try.prog 21 #[.agg #[.int .u8 (byteI a 0), .int .u8 (byteI a 1), .int .u8 (byteI a 2), .int .u8 (byteI a 3), .int .u8 (byteI a 4), .int .u8 (byteI a 5), .int .u8 (byteI a 6), .int .u8 (byteI a 7), .int .u8 (byteI m 0), .int .u8 (byteI m 1), .int .u8 (byteI m 2), .int .u8 (byteI m 3), .int .u8 (byteI m 4), .int .u8 (byteI m 5), .int .u8 (byteI m 6), .int .u8 (byteI m 7)], .bool true] w fun r w' => r = .returned (.agg #[.bool true, .int .u64 (U m), .int .u64 (U a)]) ∧ Below w.heap.size w w') (c6 : ∀ w : World, Calls Try.prog 16 #[.agg #[.bool false, .int .u64 0, .int .u64 (U n)]] w fun r w' => r = .returned (.bool vo) ∧ Below w.heap.size w w') (w : World) : Calls Try.prog 7 #[.agg #[.bool g, .int .u64 (U m), .int .u64 (U a)], .agg #[.bool h, .int .u64 (U k), .int .u64 (U b)], .int .u64 (U n)] w fun r w' => r = .returned (.bool true) ∧ Below w.heap.size w w' := by
  go_enter Try.func7, Try.ntmps7
  go_wp2_with (first | (go_at_call 19; (with_reducible refine (c1 _).mono ?_); rintro e w' ⟨rfl, hbl⟩; obtain ⟨hcw, hfw, hsw⟩ := below_ifs hbl; (try simp only [World.size_alloc, World.size_setCell, World.size_drew, size_drewN_] at hcw hfw hsw)) | (go_at_call 15; (with_reducible refine (c2 _).mono ?_); rintro e w' ⟨rfl, hbl⟩; obtain ⟨hcw, hfw, hsw⟩ := below_ifs hbl; (try simp only [World.size_alloc, World.size_setCell, World.size_drew, size_drewN_] at hcw hfw hsw)))
  refine wp_region_below (by kernel_rfl) (by kernel_rfl) (fun hcr hfr => ?_)
  (try simp only [World.size_alloc, World.size_setCell, World.size_drew, size_drewN_] at hcr hfr)
  repeat (go_big_quiet_step ((first | (go_at_call 20; first | with_reducible exact Calls.regrown_of (c3 _) | with_reducible exact regrown_k (c3 _) | with_reducible exact regrown_1 (c3 _) | with_reducible exact regrown_a (c3 _)) | (go_at_call 20; first | with_reducible exact Calls.regrown_of (c4 _) | with_reducible exact regrown_k (c4 _) | with_reducible exact regrown_1 (c4 _) | with_reducible exact regrown_a (c4 _)) | (go_at_call 21; first | with_reducible exact Calls.regrown_of (c5 _) | with_reducible exact regrown_k (c5 _) | with_reducible exact regrown_1 (c5 _) | with_reducible exact regrown_a (c5 _)) | (go_at_call 16; first | with_reducible exact Calls.regrown_of (c6 _) | with_reducible exact regrown_k (c6 _) | with_reducible exact regrown_1 (c6 _) | with_reducible exact regrown_a (c6 _)) | (go_at_call 14; first | with_reducible exact Calls.regrown_of (one_any _) | with_reducible exact regrown_k (one_any _) | with_reducible exact regrown_1 (one_any _) | with_reducible exact regrown_a (one_any _)))))
  refine wpQuiet_nil ?_
  intro w' hbl
  clear hcr hfr
  obtain ⟨hcw, hfw, hsw⟩ := below_ifs hbl; (try simp only [World.size_alloc, World.size_setCell, World.size_drew, size_drewN_] at hcw hfw hsw)
  go_wp2_with fail
  go_ret
  exact ⟨ret_bool (by simp), by (repeat (first | with_reducible exact Below.refl _ _ | with_reducible assumption | with_reducible refine below_drewN ?_ _ | with_reducible refine Below.drew ?_ | with_reducible refine below_alloc ?_ _ | (with_reducible refine Below.setCell ?_ (by first | (simp; done) | omega | (simp; omega)) _) | with_reducible refine belows ?_ (by assumption)))⟩
set_option maxHeartbeats 8000000 in
set_option maxRecDepth 100000 in
theorem core_tf (g h vo : Bool) (m a k b n v : BitVec 64) (e1 : (m == k) = true) (e2 : (a == b) = false) (c1 : ∀ w : World, Calls Try.prog 19 #[.int .u64 (U n)] w fun r w' => r = .returned (.agg #[.bool false, .int .u64 0, .int .u64 (U n)]) ∧ Below w.heap.size w w') (c2 : ∀ w : World, Calls Try.prog 15 #[.agg #[.bool false, .int .u64 0, .int .u64 (U n)]] w fun r w' => r = .returned (.tuple #[.agg #[.int .u64 (U v), .int .u64 (U v), .int .u64 0, .int .u64 0], .bool vo]) ∧ Below w.heap.size w w') (c3 : ∀ w : World, Calls Try.prog 20 #[.agg #[.bool g, .int .u64 (U m), .int .u64 (U a)]] w fun r w' => r = .returned (.agg #[.int .u8 (byteI a 0), .int .u8 (byteI a 1), .int .u8 (byteI a 2), .int .u8 (byteI a 3), .int .u8 (byteI a 4), .int .u8 (byteI a 5), .int .u8 (byteI a 6), .int .u8 (byteI a 7), .int .u8 (byteI m 0), .int .u8 (byteI m 1), .int .u8 (byteI m 2), .int .u8 (byteI m 3), .int .u8 (byteI m 4), .int .u8 (byteI m 5), .int .u8 (byteI m 6), .int .u8 (byteI m 7)]) ∧ Below w.heap.size w w') (c4 : ∀ w : World, Calls Try.prog 20 #[.agg #[.bool h, .int .u64 (U k), .int .u64 (U b)]] w fun r w' => r = .returned (.agg #[.int .u8 (byteI b 0), .int .u8 (byteI b 1), .int .u8 (byteI b 2), .int .u8 (byteI b 3), .int .u8 (byteI b 4), .int .u8 (byteI b 5), .int .u8 (byteI b 6), .int .u8 (byteI b 7), .int .u8 (byteI k 0), .int .u8 (byteI k 1), .int .u8 (byteI k 2), .int .u8 (byteI k 3), .int .u8 (byteI k 4), .int .u8 (byteI k 5), .int .u8 (byteI k 6), .int .u8 (byteI k 7)]) ∧ Below w.heap.size w w') (c5 : ∀ w : World, Calls Try.prog 21 #[.agg #[.int .u8 (byteI a 0), .int .u8 (byteI a 1), .int .u8 (byteI a 2), .int .u8 (byteI a 3), .int .u8 (byteI a 4), .int .u8 (byteI a 5), .int .u8 (byteI a 6), .int .u8 (byteI a 7), .int .u8 (byteI m 0), .int .u8 (byteI m 1), .int .u8 (byteI m 2), .int .u8 (byteI m 3), .int .u8 (byteI m 4), .int .u8 (byteI m 5), .int .u8 (byteI m 6), .int .u8 (byteI m 7)], .bool true] w fun r w' => r = .returned (.agg #[.bool true, .int .u64 (U m), .int .u64 (U a)]) ∧ Below w.heap.size w w') (c6 : ∀ w : World, Calls Try.prog 16 #[.agg #[.bool false, .int .u64 0, .int .u64 (U n)]] w fun r w' => r = .returned (.bool vo) ∧ Below w.heap.size w w') (w : World) : Calls Try.prog 7 #[.agg #[.bool g, .int .u64 (U m), .int .u64 (U a)], .agg #[.bool h, .int .u64 (U k), .int .u64 (U b)], .int .u64 (U n)] w fun r w' => r = .returned (.bool true) ∧ Below w.heap.size w w' := by
  go_enter Try.func7, Try.ntmps7
  go_wp2_with (first | (go_at_call 19; (with_reducible refine (c1 _).mono ?_); rintro e w' ⟨rfl, hbl⟩; obtain ⟨hcw, hfw, hsw⟩ := below_ifs hbl; (try simp only [World.size_alloc, World.size_setCell, World.size_drew, size_drewN_] at hcw hfw hsw)) | (go_at_call 15; (with_reducible refine (c2 _).mono ?_); rintro e w' ⟨rfl, hbl⟩; obtain ⟨hcw, hfw, hsw⟩ := below_ifs hbl; (try simp only [World.size_alloc, World.size_setCell, World.size_drew, size_drewN_] at hcw hfw hsw)))
  refine wp_region_below (by kernel_rfl) (by kernel_rfl) (fun hcr hfr => ?_)
  (try simp only [World.size_alloc, World.size_setCell, World.size_drew, size_drewN_] at hcr hfr)
  repeat (go_big_quiet_step ((first | (go_at_call 20; first | with_reducible exact Calls.regrown_of (c3 _) | with_reducible exact regrown_k (c3 _) | with_reducible exact regrown_1 (c3 _) | with_reducible exact regrown_a (c3 _)) | (go_at_call 20; first | with_reducible exact Calls.regrown_of (c4 _) | with_reducible exact regrown_k (c4 _) | with_reducible exact regrown_1 (c4 _) | with_reducible exact regrown_a (c4 _)) | (go_at_call 21; first | with_reducible exact Calls.regrown_of (c5 _) | with_reducible exact regrown_k (c5 _) | with_reducible exact regrown_1 (c5 _) | with_reducible exact regrown_a (c5 _)) | (go_at_call 16; first | with_reducible exact Calls.regrown_of (c6 _) | with_reducible exact regrown_k (c6 _) | with_reducible exact regrown_1 (c6 _) | with_reducible exact regrown_a (c6 _)) | (go_at_call 14; first | with_reducible exact Calls.regrown_of (one_any _) | with_reducible exact regrown_k (one_any _) | with_reducible exact regrown_1 (one_any _) | with_reducible exact regrown_a (one_any _)))))
  refine wpQuiet_nil ?_
  intro w' hbl
  clear hcr hfr
  obtain ⟨hcw, hfw, hsw⟩ := below_ifs hbl; (try simp only [World.size_alloc, World.size_setCell, World.size_drew, size_drewN_] at hcw hfw hsw)
  go_wp2_with fail
  go_ret
  exact ⟨ret_bool (by simp), by (repeat (first | with_reducible exact Below.refl _ _ | with_reducible assumption | with_reducible refine below_drewN ?_ _ | with_reducible refine Below.drew ?_ | with_reducible refine below_alloc ?_ _ | (with_reducible refine Below.setCell ?_ (by first | (simp; done) | omega | (simp; omega)) _) | with_reducible refine belows ?_ (by assumption)))⟩
set_option maxHeartbeats 8000000 in
set_option maxRecDepth 100000 in
theorem core_tt (g h vo : Bool) (m a k b n v : BitVec 64) (e1 : (m == k) = true) (e2 : (a == b) = true) (c1 : ∀ w : World, Calls Try.prog 19 #[.int .u64 (U n)] w fun r w' => r = .returned (.agg #[.bool false, .int .u64 0, .int .u64 (U n)]) ∧ Below w.heap.size w w') (c2 : ∀ w : World, Calls Try.prog 15 #[.agg #[.bool false, .int .u64 0, .int .u64 (U n)]] w fun r w' => r = .returned (.tuple #[.agg #[.int .u64 (U v), .int .u64 (U v), .int .u64 0, .int .u64 0], .bool vo]) ∧ Below w.heap.size w w') (c3 : ∀ w : World, Calls Try.prog 20 #[.agg #[.bool g, .int .u64 (U m), .int .u64 (U a)]] w fun r w' => r = .returned (.agg #[.int .u8 (byteI a 0), .int .u8 (byteI a 1), .int .u8 (byteI a 2), .int .u8 (byteI a 3), .int .u8 (byteI a 4), .int .u8 (byteI a 5), .int .u8 (byteI a 6), .int .u8 (byteI a 7), .int .u8 (byteI m 0), .int .u8 (byteI m 1), .int .u8 (byteI m 2), .int .u8 (byteI m 3), .int .u8 (byteI m 4), .int .u8 (byteI m 5), .int .u8 (byteI m 6), .int .u8 (byteI m 7)]) ∧ Below w.heap.size w w') (c4 : ∀ w : World, Calls Try.prog 20 #[.agg #[.bool h, .int .u64 (U k), .int .u64 (U b)]] w fun r w' => r = .returned (.agg #[.int .u8 (byteI b 0), .int .u8 (byteI b 1), .int .u8 (byteI b 2), .int .u8 (byteI b 3), .int .u8 (byteI b 4), .int .u8 (byteI b 5), .int .u8 (byteI b 6), .int .u8 (byteI b 7), .int .u8 (byteI k 0), .int .u8 (byteI k 1), .int .u8 (byteI k 2), .int .u8 (byteI k 3), .int .u8 (byteI k 4), .int .u8 (byteI k 5), .int .u8 (byteI k 6), .int .u8 (byteI k 7)]) ∧ Below w.heap.size w w') (c5 : ∀ w : World, Calls Try.prog 21 #[.agg #[.int .u8 (byteI a 0), .int .u8 (byteI a 1), .int .u8 (byteI a 2), .int .u8 (byteI a 3), .int .u8 (byteI a 4), .int .u8 (byteI a 5), .int .u8 (byteI a 6), .int .u8 (byteI a 7), .int .u8 (byteI m 0), .int .u8 (byteI m 1), .int .u8 (byteI m 2), .int .u8 (byteI m 3), .int .u8 (byteI m 4), .int .u8 (byteI m 5), .int .u8 (byteI m 6), .int .u8 (byteI m 7)], .bool true] w fun r w' => r = .returned (.agg #[.bool true, .int .u64 (U m), .int .u64 (U a)]) ∧ Below w.heap.size w w') (c6 : ∀ w : World, Calls Try.prog 16 #[.agg #[.bool false, .int .u64 0, .int .u64 (U n)]] w fun r w' => r = .returned (.bool vo) ∧ Below w.heap.size w w') (w : World) : Calls Try.prog 7 #[.agg #[.bool g, .int .u64 (U m), .int .u64 (U a)], .agg #[.bool h, .int .u64 (U k), .int .u64 (U b)], .int .u64 (U n)] w fun r w' => r = .returned (.bool true) ∧ Below w.heap.size w w' := by
  go_enter Try.func7, Try.ntmps7
  go_wp2_with (first | (go_at_call 19; (with_reducible refine (c1 _).mono ?_); rintro e w' ⟨rfl, hbl⟩; obtain ⟨hcw, hfw, hsw⟩ := below_ifs hbl; (try simp only [World.size_alloc, World.size_setCell, World.size_drew, size_drewN_] at hcw hfw hsw)) | (go_at_call 15; (with_reducible refine (c2 _).mono ?_); rintro e w' ⟨rfl, hbl⟩; obtain ⟨hcw, hfw, hsw⟩ := below_ifs hbl; (try simp only [World.size_alloc, World.size_setCell, World.size_drew, size_drewN_] at hcw hfw hsw)))
  refine wp_region_below (by kernel_rfl) (by kernel_rfl) (fun hcr hfr => ?_)
  (try simp only [World.size_alloc, World.size_setCell, World.size_drew, size_drewN_] at hcr hfr)
  repeat (go_big_quiet_step ((first | (go_at_call 20; first | with_reducible exact Calls.regrown_of (c3 _) | with_reducible exact regrown_k (c3 _) | with_reducible exact regrown_1 (c3 _) | with_reducible exact regrown_a (c3 _)) | (go_at_call 20; first | with_reducible exact Calls.regrown_of (c4 _) | with_reducible exact regrown_k (c4 _) | with_reducible exact regrown_1 (c4 _) | with_reducible exact regrown_a (c4 _)) | (go_at_call 21; first | with_reducible exact Calls.regrown_of (c5 _) | with_reducible exact regrown_k (c5 _) | with_reducible exact regrown_1 (c5 _) | with_reducible exact regrown_a (c5 _)) | (go_at_call 16; first | with_reducible exact Calls.regrown_of (c6 _) | with_reducible exact regrown_k (c6 _) | with_reducible exact regrown_1 (c6 _) | with_reducible exact regrown_a (c6 _)) | (go_at_call 14; first | with_reducible exact Calls.regrown_of (one_any _) | with_reducible exact regrown_k (one_any _) | with_reducible exact regrown_1 (one_any _) | with_reducible exact regrown_a (one_any _)))))
  refine wpQuiet_nil ?_
  intro w' hbl
  clear hcr hfr
  obtain ⟨hcw, hfw, hsw⟩ := below_ifs hbl; (try simp only [World.size_alloc, World.size_setCell, World.size_drew, size_drewN_] at hcw hfw hsw)
  go_wp2_with fail
  go_ret
  exact ⟨ret_bool (by simp), by (repeat (first | with_reducible exact Below.refl _ _ | with_reducible assumption | with_reducible refine below_drewN ?_ _ | with_reducible refine Below.drew ?_ | with_reducible refine below_alloc ?_ _ | (with_reducible refine Below.setCell ?_ (by first | (simp; done) | omega | (simp; omega)) _) | with_reducible refine belows ?_ (by assumption)))⟩
theorem zero_own : (metaF (mB 0#64) (mT 0#64) (mE 0#64) (mP 0#64) (mY 0#64) == 0#64) = true := by decide +kernel
theorem zero_parts : mB 0#64 = 0#64 ∧ mT 0#64 = 0#64 ∧ mE 0#64 = 0#64 ∧ mP 0#64 = 0#64 ∧ mY 0#64 = 0#64 := by decide +kernel
theorem zero_len : decN 0#64 0#64 0#64 = 0#64 := by decide +kernel
theorem zero_span (n : BitVec 64) : lkB 0#64 n = lkT 0#64 n := by
  obtain ⟨h1, h2, h3, h4, h5⟩ := zero_parts
  unfold lkB lkT
  rw [h1, h2, h3]
  unfold decB decT
  rw [zero_len, BitVec.add_zero]
theorem walk (g h : Bool) (m a k b n : BitVec 64) (w : World) : Calls Try.prog 7 #[.agg #[.bool g, .int .u64 (U m), .int .u64 (U a)], .agg #[.bool h, .int .u64 (U k), .int .u64 (U b)], .int .u64 (U n)] w fun r w' => r = .returned (.bool true) ∧ Below w.heap.size w w' := by
  obtain ⟨h1, h2, h3, h4, h5⟩ := zero_parts
  have c2 : ∀ w : World, Calls Try.prog 15 #[.agg #[.bool false, .int .u64 0, .int .u64 (U n)]] w fun r w' => r = .returned (.tuple #[.agg #[.int .u64 (U (lkT 0#64 n)), .int .u64 (U (lkT 0#64 n)), .int .u64 0, .int .u64 0], .bool (lkOk 0#64 n)]) ∧ Below w.heap.size w w' := fun w => (look_any false 0#64 n w).mono fun _ _ q => ⟨by rw [q.1, zero_span, h4, h5]; rfl, q.2⟩
  have c6 : ∀ w : World, Calls Try.prog 16 #[.agg #[.bool false, .int .u64 0, .int .u64 (U n)]] w fun r w' => r = .returned (.bool (lkOk 0#64 n)) ∧ Below w.heap.size w w' := fun w => (right_any false 0#64 n w).mono fun _ _ q => ⟨by rw [q.1]; unfold rtF; rw [zero_own, Bool.and_true], q.2⟩
  cases e1 : (m == k)
  · exact core_ff g h _ m a k b n _ e1 (by rw [BEq.comm]; exact e1) (null_any n) c2 (bytes_any g m a) (bytes_any h k b) (ofb_any true m a) c6 w
  · cases e2 : (a == b)
    · exact core_tf g h _ m a k b n _ e1 e2 (null_any n) c2 (bytes_any g m a) (bytes_any h k b) (ofb_any true m a) c6 w
    · exact core_tt g h _ m a k b n _ e1 e2 (null_any n) c2 (bytes_any g m a) (bytes_any h k b) (ofb_any true m a) c6 w

set_option maxRecDepth 100000 in
theorem lifted (os : Os) (started : os.Started) (H : Type) (enc : TypeId × Value → H) :
    ReturnsInHanded {} Try.checked os 7 .any (Rows.capabBytesSpec.pre6 enc Try.prog Try.f7 Rows.capabBytesRow.domain false) (Rows.capabBytesSpec.post enc Try.prog Try.f7 false true false false) := by
  refine law_lift (C := Try.checked) (tb := 4) started (by kernel_rfl) (by kernel_rfl) Try.func7 rfl rfl Try.underlying4 (by kernel_rfl) (by kernel_rfl)
    (fun ds h => by match ds, h with | [_, _, _], _ => rfl)
    (ChangeSpec.witness6 (enc := enc) (C := Try.checked) false ⟨#[], #[.agg #[.bool false, .int .u64 0, .int .u64 0], .agg #[.bool false, .int .u64 0, .int .u64 0], .int .u64 0], []⟩ 8 (by kernel_rfl) (by kernel_rfl) (by kernel_rfl) (by kernel_rfl)) ?_
  intro W base args ds ps hval hA hlt hfz hsz
  rw [Try.params7] at hA hval hsz
  obtain ⟨v0, v1, v2, d0, d1, d2, p0, p1, p2, rfl, rfl, rfl, h0, h1, h2⟩ := trodAll_three hA
  obtain ⟨g, nx0, wx0, nx1, wx1, rfl⟩ := open_leaves (d := 5) (ls := [.bool, .int .u64, .int .u64]) (by kernel_rfl) (by kernel_rfl) (hval 0 _ v0 rfl rfl) h0
  obtain ⟨h, ny0, wy0, ny1, wy1, rfl⟩ := open_leaves (d := 5) (ls := [.bool, .int .u64, .int .u64]) (by kernel_rfl) (by kernel_rfl) (hval 1 _ v1 rfl rfl) h1
  obtain ⟨a2, rfl, rfl, rfl, w2⟩ := open_int Try.underlying22 (hval 2 _ v2 rfl rfl) h2
  obtain ⟨m, rfl⟩ := exists_U nx0 wx0
  obtain ⟨a, rfl⟩ := exists_U nx1 wx1
  obtain ⟨k, rfl⟩ := exists_U ny0 wy0
  obtain ⟨b, rfl⟩ := exists_U ny1 wy1
  obtain ⟨n, rfl⟩ := exists_U a2 w2
  exact walk g h m a k b n W

theorem over : Rows.capabBytesRow.holds Try.pinned (OpenSpec.ofChange Rows.capabBytesSpec) :=
  OpenClaim.holds_of_wide 7 Try.f7 rfl rfl rfl rfl rfl rfl rfl ⟨rfl, rfl, rfl, rfl, rfl⟩ rfl rfl rfl rfl rfl (by kernel_rfl) Try.func7 (by kernel_rfl)
    (of_decide_eq_true (by kernel_rfl)) (by unfold Func.isWrapper; first | (rw [if_pos (by decide +kernel)]; kernel_rfl) | (rw [if_neg (by decide +kernel)]; exact ⟨rfl, rfl⟩))
    (fun os started H enc _ => lifted os started H enc)

theorem proved : Rows.CapabBytesSaid := over
end Go.Proofs.Ytikpkoeeinkecaa.Bytes
