
/-
  TagsSets: what is put in is there, and nothing else is another one; without what it has a set has nothing of it; and as many are told as there are. Every input.
-/
import Derived.Test.YtfbkfbmfeaajkaaRows
import Derived.Test.YtfbkfbmfeaajkaaLaw
import Derived.Deep.CutRange
import Derived.Test.YtfbkfbmfeaajkaaTagsTake
import Derived.Test.YtfbkfbmfeaajkaaLoose
namespace Go.Proofs.Ytfbkfbmfeaajkaa.Sets
open Go Go.RowKit Go.ChangeShapes Go.WideShapes Go.ChangeAt
set_option linter.unusedVariables false
set_option linter.unusedSimpArgs false

theorem row_of {w : World} {base : Nat} {v : Value} {L : List Nat} (h : w.ownsRow base 3 1 v L.length (valsN L)) : ∃ (a : Option Addr) (cap : Nat), v = .slice a L.length cap := by
  rcases h.2 with ⟨rfl, h0⟩ | ⟨g, cap, cur, rfl, -, hg, -⟩
  · exact ⟨none, 0, by rw [h0]⟩
  · exact ⟨_, _, rfl⟩
set_option maxHeartbeats 16000000 in
set_option maxRecDepth 100000 in
theorem core_same (f g fx fy fa fb fe fc : Nat → Bool) (i0 k0 i c cx m n q : Int) (N : Nat) (ei : i0 % 256 = i) (ek : k0 % 256 = i) (i0' : 0 ≤ i) (i1' : i < 256) (c0 : 0 ≤ c) (c1 : c ≤ 256) (m0 : 0 ≤ m) (m1 : m ≤ 256) (n0 : 0 ≤ n) (n1 : n ≤ 256) (mn : m + n ≤ 256) (cWx : ∀ w : World, Calls Try.prog 16 #[.agg #[.int .u64 (U (wd f 0)), .int .u64 (U (wd f 1)), .int .u64 (U (wd f 2)), .int .u64 (U (wd f 3))], .int .i64 i, .bool true] w fun r w' => r = .returned (.agg #[.int .u64 (U (wd fx 0)), .int .u64 (U (wd fx 1)), .int .u64 (U (wd fx 2)), .int .u64 (U (wd fx 3))]) ∧ Below w.heap.size w w') (cWy : ∀ w : World, Calls Try.prog 16 #[.agg #[.int .u64 (U (wd f 0)), .int .u64 (U (wd f 1)), .int .u64 (U (wd f 2)), .int .u64 (U (wd f 3))], .int .i64 i, .bool false] w fun r w' => r = .returned (.agg #[.int .u64 (U (wd fy 0)), .int .u64 (U (wd fy 1)), .int .u64 (U (wd fy 2)), .int .u64 (U (wd fy 3))]) ∧ Below w.heap.size w w') (gxi : ∀ w : World, Calls Try.prog 14 #[.agg #[.int .u64 (U (wd fx 0)), .int .u64 (U (wd fx 1)), .int .u64 (U (wd fx 2)), .int .u64 (U (wd fx 3))], .int .i64 i] w fun r w' => r = .returned (.bool true) ∧ Below w.heap.size w w') (gyi : ∀ w : World, Calls Try.prog 14 #[.agg #[.int .u64 (U (wd fy 0)), .int .u64 (U (wd fy 1)), .int .u64 (U (wd fy 2)), .int .u64 (U (wd fy 3))], .int .i64 i] w fun r w' => r = .returned (.bool false) ∧ Below w.heap.size w w') (cCx : ∀ w : World, Calls Try.prog 12 #[.agg #[.int .u64 (U (wd fx 0)), .int .u64 (U (wd fx 1)), .int .u64 (U (wd fx 2)), .int .u64 (U (wd fx 3))]] w fun r w' => r = .returned (.int .i64 cx) ∧ Below w.heap.size w w') (cCy : ∀ w : World, Calls Try.prog 12 #[.agg #[.int .u64 (U (wd fy 0)), .int .u64 (U (wd fy 1)), .int .u64 (U (wd fy 2)), .int .u64 (U (wd fy 3))]] w fun r w' => r = .returned (.int .i64 c) ∧ Below w.heap.size w w') (cWxy : ∀ w : World, Calls Try.prog 16 #[.agg #[.int .u64 (U (wd fx 0)), .int .u64 (U (wd fx 1)), .int .u64 (U (wd fx 2)), .int .u64 (U (wd fx 3))], .int .i64 i, .bool false] w fun r w' => r = .returned (.agg #[.int .u64 (U (wd fy 0)), .int .u64 (U (wd fy 1)), .int .u64 (U (wd fy 2)), .int .u64 (U (wd fy 3))]) ∧ Below w.heap.size w w') (cWa : ∀ w : World, Calls Try.prog 18 #[.agg #[.int .u64 (U (wd f 0)), .int .u64 (U (wd f 1)), .int .u64 (U (wd f 2)), .int .u64 (U (wd f 3))], .agg #[.int .u64 (U (wd g 0)), .int .u64 (U (wd g 1)), .int .u64 (U (wd g 2)), .int .u64 (U (wd g 3))]] w fun r w' => r = .returned (.agg #[.int .u64 (U (wd fa 0)), .int .u64 (U (wd fa 1)), .int .u64 (U (wd fa 2)), .int .u64 (U (wd fa 3))]) ∧ Below w.heap.size w w') (cWb : ∀ w : World, Calls Try.prog 18 #[.agg #[.int .u64 (U (wd f 0)), .int .u64 (U (wd f 1)), .int .u64 (U (wd f 2)), .int .u64 (U (wd f 3))], .agg #[.int .u64 (U (wd fa 0)), .int .u64 (U (wd fa 1)), .int .u64 (U (wd fa 2)), .int .u64 (U (wd fa 3))]] w fun r w' => r = .returned (.agg #[.int .u64 (U (wd fb 0)), .int .u64 (U (wd fb 1)), .int .u64 (U (wd fb 2)), .int .u64 (U (wd fb 3))]) ∧ Below w.heap.size w w') (cCa : ∀ w : World, Calls Try.prog 12 #[.agg #[.int .u64 (U (wd fa 0)), .int .u64 (U (wd fa 1)), .int .u64 (U (wd fa 2)), .int .u64 (U (wd fa 3))]] w fun r w' => r = .returned (.int .i64 m) ∧ Below w.heap.size w w') (cCb : ∀ w : World, Calls Try.prog 12 #[.agg #[.int .u64 (U (wd fb 0)), .int .u64 (U (wd fb 1)), .int .u64 (U (wd fb 2)), .int .u64 (U (wd fb 3))]] w fun r w' => r = .returned (.int .i64 n) ∧ Below w.heap.size w w') (cCf : ∀ w : World, Calls Try.prog 12 #[.agg #[.int .u64 (U (wd f 0)), .int .u64 (U (wd f 1)), .int .u64 (U (wd f 2)), .int .u64 (U (wd f 3))]] w fun r w' => r = .returned (.int .i64 q) ∧ Below w.heap.size w w') (cWe : ∀ w : World, Calls Try.prog 18 #[.agg #[.int .u64 (U (wd fa 0)), .int .u64 (U (wd fa 1)), .int .u64 (U (wd fa 2)), .int .u64 (U (wd fa 3))], .agg #[.int .u64 (U (wd f 0)), .int .u64 (U (wd f 1)), .int .u64 (U (wd f 2)), .int .u64 (U (wd f 3))]] w fun r w' => r = .returned (.agg #[.int .u64 (U (wd fe 0)), .int .u64 (U (wd fe 1)), .int .u64 (U (wd fe 2)), .int .u64 (U (wd fe 3))]) ∧ Below w.heap.size w w') (cAe : ∀ w : World, Calls Try.prog 13 #[.agg #[.int .u64 (U (wd fe 0)), .int .u64 (U (wd fe 1)), .int .u64 (U (wd fe 2)), .int .u64 (U (wd fe 3))]] w fun r w' => r = .returned (.bool false) ∧ Below w.heap.size w w') (cWaa : ∀ w : World, Calls Try.prog 18 #[.agg #[.int .u64 (U (wd fa 0)), .int .u64 (U (wd fa 1)), .int .u64 (U (wd fa 2)), .int .u64 (U (wd fa 3))], .agg #[.int .u64 (U (wd g 0)), .int .u64 (U (wd g 1)), .int .u64 (U (wd g 2)), .int .u64 (U (wd g 3))]] w fun r w' => r = .returned (.agg #[.int .u64 (U (wd fa 0)), .int .u64 (U (wd fa 1)), .int .u64 (U (wd fa 2)), .int .u64 (U (wd fa 3))]) ∧ Below w.heap.size w w') (cCov : ∀ w : World, Calls Try.prog 8 #[.int .i64 16, .int .i64 16] w fun r w' => r = .returned (.agg #[.int .u64 (U (wd fc 0)), .int .u64 (U (wd fc 1)), .int .u64 (U (wd fc 2)), .int .u64 (U (wd fc 3))]) ∧ Below w.heap.size w w') (cGc : ∀ w : World, Calls Try.prog 14 #[.agg #[.int .u64 (U (wd fc 0)), .int .u64 (U (wd fc 1)), .int .u64 (U (wd fc 2)), .int .u64 (U (wd fc 3))], .int .i64 1] w fun r w' => r = .returned (.bool true) ∧ Below w.heap.size w w') (cAll : ∀ w : World, Calls Try.prog 10 #[.agg #[.int .u64 (U (wd f 0)), .int .u64 (U (wd f 1)), .int .u64 (U (wd f 2)), .int .u64 (U (wd f 3))]] w fun r w' => ∃ (a : Option Addr) (z : Nat), r = .returned (.slice a N z) ∧ Below w.heap.size w w') (hN : ((N : Int) == q) = true) (hcx : (cx - c != 1) = false) (hcx2 : c < cx) (hcx3 : cx ≤ c + 1) (hq : (m + n == q) = true) (w : World) : Calls Try.prog 6 #[.agg #[.int .u64 (U (wd f 0)), .int .u64 (U (wd f 1)), .int .u64 (U (wd f 2)), .int .u64 (U (wd f 3))], .agg #[.int .u64 (U (wd g 0)), .int .u64 (U (wd g 1)), .int .u64 (U (wd g 2)), .int .u64 (U (wd g 3))], .agg #[.int .i64 i0, .int .i64 k0]] w fun r w' => r = .returned (.bool true) ∧ Below w.heap.size w w' := by
  go_enter Try.func6, Try.ntmps6
  go_upto_region 1 with (fail)
  refine wp_region_below (by kernel_rfl) (by kernel_rfl) (fun hcr hfr => ?_)
  (try simp only [World.size_alloc, World.size_setCell, World.size_drew, size_drewN_] at hcr hfr)
  repeat (go_big_quiet_step (fail))
  refine wpQuiet_nil ?_
  intro w' hbl
  clear hcr hfr
  obtain ⟨hcw, hfw, hsw⟩ := below_ifs hbl; (try simp only [World.size_alloc, World.size_setCell, World.size_drew, size_drewN_] at hcw hfw hsw)
  go_upto_region 4 with (first | (go_at_call 16; (with_reducible refine (cWx _).mono ?_); rintro e w' ⟨rfl, hbl⟩; obtain ⟨hcw, hfw, hsw⟩ := below_ifs hbl; (try simp only [World.size_alloc, World.size_setCell, World.size_drew, size_drewN_] at hcw hfw hsw)) | (go_at_call 16; (with_reducible refine (cWy _).mono ?_); rintro e w' ⟨rfl, hbl⟩; obtain ⟨hcw, hfw, hsw⟩ := below_ifs hbl; (try simp only [World.size_alloc, World.size_setCell, World.size_drew, size_drewN_] at hcw hfw hsw)))
  refine wp_region_below (by kernel_rfl) (by kernel_rfl) (fun hcr hfr => ?_)
  (try simp only [World.size_alloc, World.size_setCell, World.size_drew, size_drewN_] at hcr hfr)
  repeat (go_big_quiet_step ((first | (go_at_call 14; first | with_reducible exact Calls.regrown_of (gxi _) | with_reducible exact regrown_k (gxi _) | with_reducible exact regrown_1 (gxi _) | with_reducible exact regrown_a (gxi _)) | (go_at_call 14; first | with_reducible exact Calls.regrown_of (gyi _) | with_reducible exact regrown_k (gyi _) | with_reducible exact regrown_1 (gyi _) | with_reducible exact regrown_a (gyi _)) | (go_at_call 12; first | with_reducible exact Calls.regrown_of (cCx _) | with_reducible exact regrown_k (cCx _) | with_reducible exact regrown_1 (cCx _) | with_reducible exact regrown_a (cCx _)) | (go_at_call 12; first | with_reducible exact Calls.regrown_of (cCy _) | with_reducible exact regrown_k (cCy _) | with_reducible exact regrown_1 (cCy _) | with_reducible exact regrown_a (cCy _)) | (go_at_call 16; first | with_reducible exact Calls.regrown_of (cWxy _) | with_reducible exact regrown_k (cWxy _) | with_reducible exact regrown_1 (cWxy _) | with_reducible exact regrown_a (cWxy _)))))
  refine wpQuiet_nil ?_
  intro w' hbl
  clear hcr hfr
  obtain ⟨hcw, hfw, hsw⟩ := below_ifs hbl; (try simp only [World.size_alloc, World.size_setCell, World.size_drew, size_drewN_] at hcw hfw hsw)
  go_upto_region 8 with (first | (go_at_call 18; (with_reducible refine (cWa _).mono ?_); rintro e w' ⟨rfl, hbl⟩; obtain ⟨hcw, hfw, hsw⟩ := below_ifs hbl; (try simp only [World.size_alloc, World.size_setCell, World.size_drew, size_drewN_] at hcw hfw hsw)) | (go_at_call 18; (with_reducible refine (cWb _).mono ?_); rintro e w' ⟨rfl, hbl⟩; obtain ⟨hcw, hfw, hsw⟩ := below_ifs hbl; (try simp only [World.size_alloc, World.size_setCell, World.size_drew, size_drewN_] at hcw hfw hsw)))
  refine wp_region_loose_at (d := 95) 17 18 (.slice none N N) (fun v => ∃ (a : Option Addr) (z : Nat), v = .slice a N z) (by kernel_rfl) (by kernel_rfl) rfl rfl (by kernel_rfl) (by kernel_rfl) rfl ?blind (by kernel_rfl) (fun hcr hfr => ?_)
  case blind =>
    rintro g _ ⟨a, z, rfl⟩ h0
    refine ⟨wanted_at (by kernel_rfl) g _, fun w => ?_⟩
    have e1 := eval_put_in (u := .slice a N z) h0 (by simp [undef])
    generalize g.put (some 95) (.slice a N z) = g' at e1 ⊢
    generalize g'.eval = x1 at e1 ⊢
    generalize g.eval = x2 at h0 ⊢
    simp [go_sem, e1, h0]
  (try simp only [World.size_alloc, World.size_setCell, World.size_drew, size_drewN_] at hcr hfr)
  simp only [List.take_succ_cons, List.take_zero, List.drop_succ_cons, List.drop_zero]
  repeat (go_big_quiet_step ((first | (go_at_call 12; first | with_reducible exact Calls.regrown_of (cCa _) | with_reducible exact regrown_k (cCa _) | with_reducible exact regrown_1 (cCa _) | with_reducible exact regrown_a (cCa _)) | (go_at_call 12; first | with_reducible exact Calls.regrown_of (cCb _) | with_reducible exact regrown_k (cCb _) | with_reducible exact regrown_1 (cCb _) | with_reducible exact regrown_a (cCb _)) | (go_at_call 12; first | with_reducible exact Calls.regrown_of (cCf _) | with_reducible exact regrown_k (cCf _) | with_reducible exact regrown_1 (cCf _) | with_reducible exact regrown_a (cCf _)) | (go_at_call 18; first | with_reducible exact Calls.regrown_of (cWe _) | with_reducible exact regrown_k (cWe _) | with_reducible exact regrown_1 (cWe _) | with_reducible exact regrown_a (cWe _)) | (go_at_call 13; first | with_reducible exact Calls.regrown_of (cAe _) | with_reducible exact regrown_k (cAe _) | with_reducible exact regrown_1 (cAe _) | with_reducible exact regrown_a (cAe _)) | (go_at_call 18; first | with_reducible exact Calls.regrown_of (cWaa _) | with_reducible exact regrown_k (cWaa _) | with_reducible exact regrown_1 (cWaa _) | with_reducible exact regrown_a (cWaa _)) | (go_at_call 8; first | with_reducible exact Calls.regrown_of (cCov _) | with_reducible exact regrown_k (cCov _) | with_reducible exact regrown_1 (cCov _) | with_reducible exact regrown_a (cCov _)) | (go_at_call 14; first | with_reducible exact Calls.regrown_of (cGc _) | with_reducible exact regrown_k (cGc _) | with_reducible exact regrown_1 (cGc _) | with_reducible exact regrown_a (cGc _)))))
  refine wpQuiet_nil ⟨by kernel_rfl, fun p => ⟨10, #[.agg #[.int .u64 (U (wd f 0)), .int .u64 (U (wd f 1)), .int .u64 (U (wd f 2)), .int .u64 (U (wd f 3))]], by first | kernel_rfl | (simp [go_sem]; done), (cAll _).mono fun _ _ ⟨a, z, he, hb⟩ => ⟨_, he, ⟨a, z, rfl⟩, hb⟩⟩, ?_⟩
  simp only [Act.put, List.setIfInBounds_toArray, List.set_cons_succ, List.set_cons_zero]
  repeat (go_big_quiet_step ((first | (go_at_call 12; first | with_reducible exact Calls.regrown_of (cCa _) | with_reducible exact regrown_k (cCa _) | with_reducible exact regrown_1 (cCa _) | with_reducible exact regrown_a (cCa _)) | (go_at_call 12; first | with_reducible exact Calls.regrown_of (cCb _) | with_reducible exact regrown_k (cCb _) | with_reducible exact regrown_1 (cCb _) | with_reducible exact regrown_a (cCb _)) | (go_at_call 12; first | with_reducible exact Calls.regrown_of (cCf _) | with_reducible exact regrown_k (cCf _) | with_reducible exact regrown_1 (cCf _) | with_reducible exact regrown_a (cCf _)) | (go_at_call 18; first | with_reducible exact Calls.regrown_of (cWe _) | with_reducible exact regrown_k (cWe _) | with_reducible exact regrown_1 (cWe _) | with_reducible exact regrown_a (cWe _)) | (go_at_call 13; first | with_reducible exact Calls.regrown_of (cAe _) | with_reducible exact regrown_k (cAe _) | with_reducible exact regrown_1 (cAe _) | with_reducible exact regrown_a (cAe _)) | (go_at_call 18; first | with_reducible exact Calls.regrown_of (cWaa _) | with_reducible exact regrown_k (cWaa _) | with_reducible exact regrown_1 (cWaa _) | with_reducible exact regrown_a (cWaa _)) | (go_at_call 8; first | with_reducible exact Calls.regrown_of (cCov _) | with_reducible exact regrown_k (cCov _) | with_reducible exact regrown_1 (cCov _) | with_reducible exact regrown_a (cCov _)) | (go_at_call 14; first | with_reducible exact Calls.regrown_of (cGc _) | with_reducible exact regrown_k (cGc _) | with_reducible exact regrown_1 (cGc _) | with_reducible exact regrown_a (cGc _)))))
  refine wpQuiet_nil ⟨fun w' hbl => ?_, fun v hv w' hbl => ?_⟩
  · go_wp2_with fail
    go_ret
    exact ⟨ret_bool (by first | rfl | (simp; done)), by (repeat (first | with_reducible exact Below.refl _ _ | with_reducible assumption | with_reducible refine below_drewN ?_ _ | with_reducible refine Below.drew ?_ | with_reducible refine below_alloc ?_ _ | (with_reducible refine Below.setCell ?_ (by first | (simp; done) | omega | (simp; omega)) _) | with_reducible refine belows ?_ (by assumption)))⟩
  · simp only [Act.put, List.setIfInBounds_toArray, List.set_cons_succ, List.set_cons_zero]
    go_wp2_with fail
    go_ret
    exact ⟨ret_bool (by first | rfl | (simp; done)), by (repeat (first | with_reducible exact Below.refl _ _ | with_reducible assumption | with_reducible refine below_drewN ?_ _ | with_reducible refine Below.drew ?_ | with_reducible refine below_alloc ?_ _ | (with_reducible refine Below.setCell ?_ (by first | (simp; done) | omega | (simp; omega)) _) | with_reducible refine belows ?_ (by assumption)))⟩
set_option maxHeartbeats 16000000 in
set_option maxRecDepth 100000 in
theorem core_other (f g fx fy fa fb fe fc : Nat → Bool) (i0 k0 i k c cx m n q : Int) (N : Nat) (p : Bool) (ei : i0 % 256 = i) (ek : k0 % 256 = k) (i0' : 0 ≤ i) (i1' : i < 256) (c0 : 0 ≤ c) (c1 : c ≤ 256) (m0 : 0 ≤ m) (m1 : m ≤ 256) (n0 : 0 ≤ n) (n1 : n ≤ 256) (mn : m + n ≤ 256) (hik : (i != k) = true) (cWx : ∀ w : World, Calls Try.prog 16 #[.agg #[.int .u64 (U (wd f 0)), .int .u64 (U (wd f 1)), .int .u64 (U (wd f 2)), .int .u64 (U (wd f 3))], .int .i64 i, .bool true] w fun r w' => r = .returned (.agg #[.int .u64 (U (wd fx 0)), .int .u64 (U (wd fx 1)), .int .u64 (U (wd fx 2)), .int .u64 (U (wd fx 3))]) ∧ Below w.heap.size w w') (cWy : ∀ w : World, Calls Try.prog 16 #[.agg #[.int .u64 (U (wd f 0)), .int .u64 (U (wd f 1)), .int .u64 (U (wd f 2)), .int .u64 (U (wd f 3))], .int .i64 i, .bool false] w fun r w' => r = .returned (.agg #[.int .u64 (U (wd fy 0)), .int .u64 (U (wd fy 1)), .int .u64 (U (wd fy 2)), .int .u64 (U (wd fy 3))]) ∧ Below w.heap.size w w') (gxi : ∀ w : World, Calls Try.prog 14 #[.agg #[.int .u64 (U (wd fx 0)), .int .u64 (U (wd fx 1)), .int .u64 (U (wd fx 2)), .int .u64 (U (wd fx 3))], .int .i64 i] w fun r w' => r = .returned (.bool true) ∧ Below w.heap.size w w') (gyi : ∀ w : World, Calls Try.prog 14 #[.agg #[.int .u64 (U (wd fy 0)), .int .u64 (U (wd fy 1)), .int .u64 (U (wd fy 2)), .int .u64 (U (wd fy 3))], .int .i64 i] w fun r w' => r = .returned (.bool false) ∧ Below w.heap.size w w') (gxk : ∀ w : World, Calls Try.prog 14 #[.agg #[.int .u64 (U (wd fx 0)), .int .u64 (U (wd fx 1)), .int .u64 (U (wd fx 2)), .int .u64 (U (wd fx 3))], .int .i64 k] w fun r w' => r = .returned (.bool p) ∧ Below w.heap.size w w') (gyk : ∀ w : World, Calls Try.prog 14 #[.agg #[.int .u64 (U (wd fy 0)), .int .u64 (U (wd fy 1)), .int .u64 (U (wd fy 2)), .int .u64 (U (wd fy 3))], .int .i64 k] w fun r w' => r = .returned (.bool p) ∧ Below w.heap.size w w') (gfk : ∀ w : World, Calls Try.prog 14 #[.agg #[.int .u64 (U (wd f 0)), .int .u64 (U (wd f 1)), .int .u64 (U (wd f 2)), .int .u64 (U (wd f 3))], .int .i64 k] w fun r w' => r = .returned (.bool p) ∧ Below w.heap.size w w') (cCx : ∀ w : World, Calls Try.prog 12 #[.agg #[.int .u64 (U (wd fx 0)), .int .u64 (U (wd fx 1)), .int .u64 (U (wd fx 2)), .int .u64 (U (wd fx 3))]] w fun r w' => r = .returned (.int .i64 cx) ∧ Below w.heap.size w w') (cCy : ∀ w : World, Calls Try.prog 12 #[.agg #[.int .u64 (U (wd fy 0)), .int .u64 (U (wd fy 1)), .int .u64 (U (wd fy 2)), .int .u64 (U (wd fy 3))]] w fun r w' => r = .returned (.int .i64 c) ∧ Below w.heap.size w w') (cWxy : ∀ w : World, Calls Try.prog 16 #[.agg #[.int .u64 (U (wd fx 0)), .int .u64 (U (wd fx 1)), .int .u64 (U (wd fx 2)), .int .u64 (U (wd fx 3))], .int .i64 i, .bool false] w fun r w' => r = .returned (.agg #[.int .u64 (U (wd fy 0)), .int .u64 (U (wd fy 1)), .int .u64 (U (wd fy 2)), .int .u64 (U (wd fy 3))]) ∧ Below w.heap.size w w') (cWa : ∀ w : World, Calls Try.prog 18 #[.agg #[.int .u64 (U (wd f 0)), .int .u64 (U (wd f 1)), .int .u64 (U (wd f 2)), .int .u64 (U (wd f 3))], .agg #[.int .u64 (U (wd g 0)), .int .u64 (U (wd g 1)), .int .u64 (U (wd g 2)), .int .u64 (U (wd g 3))]] w fun r w' => r = .returned (.agg #[.int .u64 (U (wd fa 0)), .int .u64 (U (wd fa 1)), .int .u64 (U (wd fa 2)), .int .u64 (U (wd fa 3))]) ∧ Below w.heap.size w w') (cWb : ∀ w : World, Calls Try.prog 18 #[.agg #[.int .u64 (U (wd f 0)), .int .u64 (U (wd f 1)), .int .u64 (U (wd f 2)), .int .u64 (U (wd f 3))], .agg #[.int .u64 (U (wd fa 0)), .int .u64 (U (wd fa 1)), .int .u64 (U (wd fa 2)), .int .u64 (U (wd fa 3))]] w fun r w' => r = .returned (.agg #[.int .u64 (U (wd fb 0)), .int .u64 (U (wd fb 1)), .int .u64 (U (wd fb 2)), .int .u64 (U (wd fb 3))]) ∧ Below w.heap.size w w') (cCa : ∀ w : World, Calls Try.prog 12 #[.agg #[.int .u64 (U (wd fa 0)), .int .u64 (U (wd fa 1)), .int .u64 (U (wd fa 2)), .int .u64 (U (wd fa 3))]] w fun r w' => r = .returned (.int .i64 m) ∧ Below w.heap.size w w') (cCb : ∀ w : World, Calls Try.prog 12 #[.agg #[.int .u64 (U (wd fb 0)), .int .u64 (U (wd fb 1)), .int .u64 (U (wd fb 2)), .int .u64 (U (wd fb 3))]] w fun r w' => r = .returned (.int .i64 n) ∧ Below w.heap.size w w') (cCf : ∀ w : World, Calls Try.prog 12 #[.agg #[.int .u64 (U (wd f 0)), .int .u64 (U (wd f 1)), .int .u64 (U (wd f 2)), .int .u64 (U (wd f 3))]] w fun r w' => r = .returned (.int .i64 q) ∧ Below w.heap.size w w') (cWe : ∀ w : World, Calls Try.prog 18 #[.agg #[.int .u64 (U (wd fa 0)), .int .u64 (U (wd fa 1)), .int .u64 (U (wd fa 2)), .int .u64 (U (wd fa 3))], .agg #[.int .u64 (U (wd f 0)), .int .u64 (U (wd f 1)), .int .u64 (U (wd f 2)), .int .u64 (U (wd f 3))]] w fun r w' => r = .returned (.agg #[.int .u64 (U (wd fe 0)), .int .u64 (U (wd fe 1)), .int .u64 (U (wd fe 2)), .int .u64 (U (wd fe 3))]) ∧ Below w.heap.size w w') (cAe : ∀ w : World, Calls Try.prog 13 #[.agg #[.int .u64 (U (wd fe 0)), .int .u64 (U (wd fe 1)), .int .u64 (U (wd fe 2)), .int .u64 (U (wd fe 3))]] w fun r w' => r = .returned (.bool false) ∧ Below w.heap.size w w') (cWaa : ∀ w : World, Calls Try.prog 18 #[.agg #[.int .u64 (U (wd fa 0)), .int .u64 (U (wd fa 1)), .int .u64 (U (wd fa 2)), .int .u64 (U (wd fa 3))], .agg #[.int .u64 (U (wd g 0)), .int .u64 (U (wd g 1)), .int .u64 (U (wd g 2)), .int .u64 (U (wd g 3))]] w fun r w' => r = .returned (.agg #[.int .u64 (U (wd fa 0)), .int .u64 (U (wd fa 1)), .int .u64 (U (wd fa 2)), .int .u64 (U (wd fa 3))]) ∧ Below w.heap.size w w') (cCov : ∀ w : World, Calls Try.prog 8 #[.int .i64 16, .int .i64 16] w fun r w' => r = .returned (.agg #[.int .u64 (U (wd fc 0)), .int .u64 (U (wd fc 1)), .int .u64 (U (wd fc 2)), .int .u64 (U (wd fc 3))]) ∧ Below w.heap.size w w') (cGc : ∀ w : World, Calls Try.prog 14 #[.agg #[.int .u64 (U (wd fc 0)), .int .u64 (U (wd fc 1)), .int .u64 (U (wd fc 2)), .int .u64 (U (wd fc 3))], .int .i64 1] w fun r w' => r = .returned (.bool true) ∧ Below w.heap.size w w') (cAll : ∀ w : World, Calls Try.prog 10 #[.agg #[.int .u64 (U (wd f 0)), .int .u64 (U (wd f 1)), .int .u64 (U (wd f 2)), .int .u64 (U (wd f 3))]] w fun r w' => ∃ (a : Option Addr) (z : Nat), r = .returned (.slice a N z) ∧ Below w.heap.size w w') (hN : ((N : Int) == q) = true) (hcx : (cx - c != 1) = false) (hcx2 : c < cx) (hcx3 : cx ≤ c + 1) (hq : (m + n == q) = true) (w : World) : Calls Try.prog 6 #[.agg #[.int .u64 (U (wd f 0)), .int .u64 (U (wd f 1)), .int .u64 (U (wd f 2)), .int .u64 (U (wd f 3))], .agg #[.int .u64 (U (wd g 0)), .int .u64 (U (wd g 1)), .int .u64 (U (wd g 2)), .int .u64 (U (wd g 3))], .agg #[.int .i64 i0, .int .i64 k0]] w fun r w' => r = .returned (.bool true) ∧ Below w.heap.size w w' := by
  go_enter Try.func6, Try.ntmps6
  go_upto_region 1 with (fail)
  refine wp_region_below (by kernel_rfl) (by kernel_rfl) (fun hcr hfr => ?_)
  (try simp only [World.size_alloc, World.size_setCell, World.size_drew, size_drewN_] at hcr hfr)
  repeat (go_big_quiet_step (fail))
  refine wpQuiet_nil ?_
  intro w' hbl
  clear hcr hfr
  obtain ⟨hcw, hfw, hsw⟩ := below_ifs hbl; (try simp only [World.size_alloc, World.size_setCell, World.size_drew, size_drewN_] at hcw hfw hsw)
  go_upto_region 4 with (first | (go_at_call 16; (with_reducible refine (cWx _).mono ?_); rintro e w' ⟨rfl, hbl⟩; obtain ⟨hcw, hfw, hsw⟩ := below_ifs hbl; (try simp only [World.size_alloc, World.size_setCell, World.size_drew, size_drewN_] at hcw hfw hsw)) | (go_at_call 16; (with_reducible refine (cWy _).mono ?_); rintro e w' ⟨rfl, hbl⟩; obtain ⟨hcw, hfw, hsw⟩ := below_ifs hbl; (try simp only [World.size_alloc, World.size_setCell, World.size_drew, size_drewN_] at hcw hfw hsw)))
  refine wp_region_below (by kernel_rfl) (by kernel_rfl) (fun hcr hfr => ?_)
  (try simp only [World.size_alloc, World.size_setCell, World.size_drew, size_drewN_] at hcr hfr)
  repeat (go_big_quiet_step ((first | (go_at_call 14; first | with_reducible exact Calls.regrown_of (gxi _) | with_reducible exact regrown_k (gxi _) | with_reducible exact regrown_1 (gxi _) | with_reducible exact regrown_a (gxi _)) | (go_at_call 14; first | with_reducible exact Calls.regrown_of (gyi _) | with_reducible exact regrown_k (gyi _) | with_reducible exact regrown_1 (gyi _) | with_reducible exact regrown_a (gyi _)) | (go_at_call 14; first | with_reducible exact Calls.regrown_of (gxk _) | with_reducible exact regrown_k (gxk _) | with_reducible exact regrown_1 (gxk _) | with_reducible exact regrown_a (gxk _)) | (go_at_call 14; first | with_reducible exact Calls.regrown_of (gyk _) | with_reducible exact regrown_k (gyk _) | with_reducible exact regrown_1 (gyk _) | with_reducible exact regrown_a (gyk _)) | (go_at_call 14; first | with_reducible exact Calls.regrown_of (gfk _) | with_reducible exact regrown_k (gfk _) | with_reducible exact regrown_1 (gfk _) | with_reducible exact regrown_a (gfk _)) | (go_at_call 12; first | with_reducible exact Calls.regrown_of (cCx _) | with_reducible exact regrown_k (cCx _) | with_reducible exact regrown_1 (cCx _) | with_reducible exact regrown_a (cCx _)) | (go_at_call 12; first | with_reducible exact Calls.regrown_of (cCy _) | with_reducible exact regrown_k (cCy _) | with_reducible exact regrown_1 (cCy _) | with_reducible exact regrown_a (cCy _)) | (go_at_call 16; first | with_reducible exact Calls.regrown_of (cWxy _) | with_reducible exact regrown_k (cWxy _) | with_reducible exact regrown_1 (cWxy _) | with_reducible exact regrown_a (cWxy _)))))
  refine wpQuiet_nil ?_
  intro w' hbl
  clear hcr hfr
  obtain ⟨hcw, hfw, hsw⟩ := below_ifs hbl; (try simp only [World.size_alloc, World.size_setCell, World.size_drew, size_drewN_] at hcw hfw hsw)
  go_upto_region 8 with (first | (go_at_call 18; (with_reducible refine (cWa _).mono ?_); rintro e w' ⟨rfl, hbl⟩; obtain ⟨hcw, hfw, hsw⟩ := below_ifs hbl; (try simp only [World.size_alloc, World.size_setCell, World.size_drew, size_drewN_] at hcw hfw hsw)) | (go_at_call 18; (with_reducible refine (cWb _).mono ?_); rintro e w' ⟨rfl, hbl⟩; obtain ⟨hcw, hfw, hsw⟩ := below_ifs hbl; (try simp only [World.size_alloc, World.size_setCell, World.size_drew, size_drewN_] at hcw hfw hsw)))
  refine wp_region_loose_at (d := 95) 17 18 (.slice none N N) (fun v => ∃ (a : Option Addr) (z : Nat), v = .slice a N z) (by kernel_rfl) (by kernel_rfl) rfl rfl (by kernel_rfl) (by kernel_rfl) rfl ?blind (by kernel_rfl) (fun hcr hfr => ?_)
  case blind =>
    rintro g _ ⟨a, z, rfl⟩ h0
    refine ⟨wanted_at (by kernel_rfl) g _, fun w => ?_⟩
    have e1 := eval_put_in (u := .slice a N z) h0 (by simp [undef])
    generalize g.put (some 95) (.slice a N z) = g' at e1 ⊢
    generalize g'.eval = x1 at e1 ⊢
    generalize g.eval = x2 at h0 ⊢
    simp [go_sem, e1, h0]
  (try simp only [World.size_alloc, World.size_setCell, World.size_drew, size_drewN_] at hcr hfr)
  simp only [List.take_succ_cons, List.take_zero, List.drop_succ_cons, List.drop_zero]
  repeat (go_big_quiet_step ((first | (go_at_call 12; first | with_reducible exact Calls.regrown_of (cCa _) | with_reducible exact regrown_k (cCa _) | with_reducible exact regrown_1 (cCa _) | with_reducible exact regrown_a (cCa _)) | (go_at_call 12; first | with_reducible exact Calls.regrown_of (cCb _) | with_reducible exact regrown_k (cCb _) | with_reducible exact regrown_1 (cCb _) | with_reducible exact regrown_a (cCb _)) | (go_at_call 12; first | with_reducible exact Calls.regrown_of (cCf _) | with_reducible exact regrown_k (cCf _) | with_reducible exact regrown_1 (cCf _) | with_reducible exact regrown_a (cCf _)) | (go_at_call 18; first | with_reducible exact Calls.regrown_of (cWe _) | with_reducible exact regrown_k (cWe _) | with_reducible exact regrown_1 (cWe _) | with_reducible exact regrown_a (cWe _)) | (go_at_call 13; first | with_reducible exact Calls.regrown_of (cAe _) | with_reducible exact regrown_k (cAe _) | with_reducible exact regrown_1 (cAe _) | with_reducible exact regrown_a (cAe _)) | (go_at_call 18; first | with_reducible exact Calls.regrown_of (cWaa _) | with_reducible exact regrown_k (cWaa _) | with_reducible exact regrown_1 (cWaa _) | with_reducible exact regrown_a (cWaa _)) | (go_at_call 8; first | with_reducible exact Calls.regrown_of (cCov _) | with_reducible exact regrown_k (cCov _) | with_reducible exact regrown_1 (cCov _) | with_reducible exact regrown_a (cCov _)) | (go_at_call 14; first | with_reducible exact Calls.regrown_of (cGc _) | with_reducible exact regrown_k (cGc _) | with_reducible exact regrown_1 (cGc _) | with_reducible exact regrown_a (cGc _)))))
  refine wpQuiet_nil ⟨by kernel_rfl, fun p => ⟨10, #[.agg #[.int .u64 (U (wd f 0)), .int .u64 (U (wd f 1)), .int .u64 (U (wd f 2)), .int .u64 (U (wd f 3))]], by first | kernel_rfl | (simp [go_sem]; done), (cAll _).mono fun _ _ ⟨a, z, he, hb⟩ => ⟨_, he, ⟨a, z, rfl⟩, hb⟩⟩, ?_⟩
  simp only [Act.put, List.setIfInBounds_toArray, List.set_cons_succ, List.set_cons_zero]
  repeat (go_big_quiet_step ((first | (go_at_call 12; first | with_reducible exact Calls.regrown_of (cCa _) | with_reducible exact regrown_k (cCa _) | with_reducible exact regrown_1 (cCa _) | with_reducible exact regrown_a (cCa _)) | (go_at_call 12; first | with_reducible exact Calls.regrown_of (cCb _) | with_reducible exact regrown_k (cCb _) | with_reducible exact regrown_1 (cCb _) | with_reducible exact regrown_a (cCb _)) | (go_at_call 12; first | with_reducible exact Calls.regrown_of (cCf _) | with_reducible exact regrown_k (cCf _) | with_reducible exact regrown_1 (cCf _) | with_reducible exact regrown_a (cCf _)) | (go_at_call 18; first | with_reducible exact Calls.regrown_of (cWe _) | with_reducible exact regrown_k (cWe _) | with_reducible exact regrown_1 (cWe _) | with_reducible exact regrown_a (cWe _)) | (go_at_call 13; first | with_reducible exact Calls.regrown_of (cAe _) | with_reducible exact regrown_k (cAe _) | with_reducible exact regrown_1 (cAe _) | with_reducible exact regrown_a (cAe _)) | (go_at_call 18; first | with_reducible exact Calls.regrown_of (cWaa _) | with_reducible exact regrown_k (cWaa _) | with_reducible exact regrown_1 (cWaa _) | with_reducible exact regrown_a (cWaa _)) | (go_at_call 8; first | with_reducible exact Calls.regrown_of (cCov _) | with_reducible exact regrown_k (cCov _) | with_reducible exact regrown_1 (cCov _) | with_reducible exact regrown_a (cCov _)) | (go_at_call 14; first | with_reducible exact Calls.regrown_of (cGc _) | with_reducible exact regrown_k (cGc _) | with_reducible exact regrown_1 (cGc _) | with_reducible exact regrown_a (cGc _)))))
  refine wpQuiet_nil ⟨fun w' hbl => ?_, fun v hv w' hbl => ?_⟩
  · go_wp2_with fail
    go_ret
    exact ⟨ret_bool (by first | rfl | (simp; done)), by (repeat (first | with_reducible exact Below.refl _ _ | with_reducible assumption | with_reducible refine below_drewN ?_ _ | with_reducible refine Below.drew ?_ | with_reducible refine below_alloc ?_ _ | (with_reducible refine Below.setCell ?_ (by first | (simp; done) | omega | (simp; omega)) _) | with_reducible refine belows ?_ (by assumption)))⟩
  · simp only [Act.put, List.setIfInBounds_toArray, List.set_cons_succ, List.set_cons_zero]
    go_wp2_with fail
    go_ret
    exact ⟨ret_bool (by first | rfl | (simp; done)), by (repeat (first | with_reducible exact Below.refl _ _ | with_reducible assumption | with_reducible refine below_drewN ?_ _ | with_reducible refine Below.drew ?_ | with_reducible refine below_alloc ?_ _ | (with_reducible refine Below.setCell ?_ (by first | (simp; done) | omega | (simp; omega)) _) | with_reducible refine belows ?_ (by assumption)))⟩
theorem cnt_snoc (g : Nat → Bool) (n : Nat) : cntN g (n + 1) = cntN g n + (if g n = true then 1 else 0) := by
  rw [cntN_add n 1, cntN, cntN]
  rfl
theorem cnt_zero (g : Nat → Bool) : cntN g 0 = 0 := by rw [cntN]
theorem cnt_le (g : Nat → Bool) : ∀ n, cntN g n ≤ n
  | 0 => by rw [cnt_zero]; omega
  | n + 1 => by
    have := cnt_le g n
    rw [cnt_snoc]
    split <;> omega
theorem cnt_parts (f a b : Nat → Bool) (h : ∀ j, f j = (a j || b j)) (h2 : ∀ j, (a j && b j) = false) : ∀ n, cntN a n + cntN b n = cntN f n
  | 0 => by rw [cnt_zero, cnt_zero, cnt_zero]
  | n + 1 => by
    have ih := cnt_parts f a b h h2 n
    have e := h n
    have e2 := h2 n
    rw [cnt_snoc, cnt_snoc, cnt_snoc, e]
    generalize a n = p at e2 ⊢
    generalize b n = q at e2 ⊢
    cases p <;> cases q
    · simp; omega
    · simp; omega
    · simp; omega
    · cases e2
theorem cnt_upd (f : Nat → Bool) (i : Int) (i0 : 0 ≤ i) (i1 : i < 256) : ∀ n, cntN (updS f i true) n = cntN (updS f i false) n + (if i.toNat < n then 1 else 0)
  | 0 => by rw [cnt_zero, cnt_zero]; simp
  | n + 1 => by
    have ih := cnt_upd f i i0 i1 n
    rw [cnt_snoc, cnt_snoc, ih, upd_in f i true i0 i1, upd_in f i false i0 i1]
    by_cases c : n = i.toNat
    · subst c
      simp
    · rw [if_neg c, if_neg c]
      by_cases d : i.toNat < n
      · rw [if_pos d, if_pos (show i.toNat < n + 1 by omega)]; omega
      · rw [if_neg d, if_neg (show ¬ i.toNat < n + 1 by omega)]; omega
theorem upd_upd (f : Nat → Bool) (i : Int) : updS (updS f i true) i false = updS f i false := by
  unfold updS
  split
  · funext j; split <;> simp_all
  · rfl
theorem any_none : anyS (fun _ => false) = false := by decide +kernel
theorem cov_16 : covS 16 16 (Int.toNat 1) = true := by decide +kernel
theorem walk (f g : Nat → Bool) (i0 k0 : Int) (w : World) : Calls Try.prog 6 #[.agg #[.int .u64 (U (wd f 0)), .int .u64 (U (wd f 1)), .int .u64 (U (wd f 2)), .int .u64 (U (wd f 3))], .agg #[.int .u64 (U (wd g 0)), .int .u64 (U (wd g 1)), .int .u64 (U (wd g 2)), .int .u64 (U (wd g 3))], .agg #[.int .i64 i0, .int .i64 k0]] w fun r w' => r = .returned (.bool true) ∧ Below w.heap.size w w' := by
  obtain ⟨i, ei⟩ : ∃ i, i0 % 256 = i := ⟨_, rfl⟩
  obtain ⟨k, ek⟩ : ∃ k, k0 % 256 = k := ⟨_, rfl⟩
  have h0 : 0 ≤ i := by omega
  have h1 : i < 256 := by omega
  have k0' : 0 ≤ k := by omega
  have k1' : k < 256 := by omega
  obtain ⟨fa, hfa⟩ : ∃ fa : Nat → Bool, fa = fun j => f j && !g j := ⟨_, rfl⟩
  have pa : ∀ j, f j = (fa j || (f j && !fa j)) := fun j => by rw [hfa]; show f j = ((f j && !g j) || (f j && !(f j && !g j))); cases f j <;> cases g j <;> rfl
  have pb : ∀ j, (fa j && (f j && !fa j)) = false := fun j => by cases f j <;> cases fa j <;> rfl
  have hsum := cnt_parts f fa (fun j => f j && !fa j) pa pb 256
  have hx := cnt_upd f i h0 h1 256
  rw [if_pos (by omega)] at hx
  have l1 := cnt_le (updS f i false) 256
  have l2 := cnt_le f 256
  have cWe : ∀ w : World, Calls Try.prog 18 #[.agg #[.int .u64 (U (wd fa 0)), .int .u64 (U (wd fa 1)), .int .u64 (U (wd fa 2)), .int .u64 (U (wd fa 3))], .agg #[.int .u64 (U (wd f 0)), .int .u64 (U (wd f 1)), .int .u64 (U (wd f 2)), .int .u64 (U (wd f 3))]] w fun r w' => r = .returned (.agg #[.int .u64 (U (wd (fun _ => false) 0)), .int .u64 (U (wd (fun _ => false) 1)), .int .u64 (U (wd (fun _ => false) 2)), .int .u64 (U (wd (fun _ => false) 3))]) ∧ Below w.heap.size w w' := fun w => by
    have h := without_any fa f w
    have e : (fun j => fa j && !f j) = fun _ => false := by funext j; rw [hfa]; show ((f j && !g j) && !f j) = false; cases f j <;> cases g j <;> rfl
    rw [e] at h
    exact h
  have cWa : ∀ w : World, Calls Try.prog 18 #[.agg #[.int .u64 (U (wd f 0)), .int .u64 (U (wd f 1)), .int .u64 (U (wd f 2)), .int .u64 (U (wd f 3))], .agg #[.int .u64 (U (wd g 0)), .int .u64 (U (wd g 1)), .int .u64 (U (wd g 2)), .int .u64 (U (wd g 3))]] w fun r w' => r = .returned (.agg #[.int .u64 (U (wd fa 0)), .int .u64 (U (wd fa 1)), .int .u64 (U (wd fa 2)), .int .u64 (U (wd fa 3))]) ∧ Below w.heap.size w w' := fun w => by
    have h := without_any f g w
    rw [← hfa] at h
    exact h
  have cWaa : ∀ w : World, Calls Try.prog 18 #[.agg #[.int .u64 (U (wd fa 0)), .int .u64 (U (wd fa 1)), .int .u64 (U (wd fa 2)), .int .u64 (U (wd fa 3))], .agg #[.int .u64 (U (wd g 0)), .int .u64 (U (wd g 1)), .int .u64 (U (wd g 2)), .int .u64 (U (wd g 3))]] w fun r w' => r = .returned (.agg #[.int .u64 (U (wd fa 0)), .int .u64 (U (wd fa 1)), .int .u64 (U (wd fa 2)), .int .u64 (U (wd fa 3))]) ∧ Below w.heap.size w w' := fun w => by
    have h := without_any fa g w
    have e : (fun j => fa j && !g j) = fa := by funext j; rw [hfa]; show ((f j && !g j) && !g j) = (f j && !g j); cases f j <;> cases g j <;> rfl
    rw [e] at h
    exact h
  have cWxy : ∀ w : World, Calls Try.prog 16 #[.agg #[.int .u64 (U (wd (updS f i true) 0)), .int .u64 (U (wd (updS f i true) 1)), .int .u64 (U (wd (updS f i true) 2)), .int .u64 (U (wd (updS f i true) 3))], .int .i64 i, .bool false] w fun r w' => r = .returned (.agg #[.int .u64 (U (wd (updS f i false) 0)), .int .u64 (U (wd (updS f i false) 1)), .int .u64 (U (wd (updS f i false) 2)), .int .u64 (U (wd (updS f i false) 3))]) ∧ Below w.heap.size w w' := fun w => by
    have h := with_any (updS f i true) i false w
    rw [upd_upd] at h
    exact h
  have cCx : ∀ w : World, Calls Try.prog 12 #[.agg #[.int .u64 (U (wd (updS f i true) 0)), .int .u64 (U (wd (updS f i true) 1)), .int .u64 (U (wd (updS f i true) 2)), .int .u64 (U (wd (updS f i true) 3))]] w fun r w' => r = .returned (.int .i64 (cntN (updS f i true) 256 : Nat)) ∧ Below w.heap.size w w' := fun w => (count_any _ w).mono fun _ _ q => ⟨by rw [q.1, count_is], q.2⟩
  have cCy : ∀ w : World, Calls Try.prog 12 #[.agg #[.int .u64 (U (wd (updS f i false) 0)), .int .u64 (U (wd (updS f i false) 1)), .int .u64 (U (wd (updS f i false) 2)), .int .u64 (U (wd (updS f i false) 3))]] w fun r w' => r = .returned (.int .i64 (cntN (updS f i false) 256 : Nat)) ∧ Below w.heap.size w w' := fun w => (count_any _ w).mono fun _ _ q => ⟨by rw [q.1, count_is], q.2⟩
  have cCa : ∀ w : World, Calls Try.prog 12 #[.agg #[.int .u64 (U (wd fa 0)), .int .u64 (U (wd fa 1)), .int .u64 (U (wd fa 2)), .int .u64 (U (wd fa 3))]] w fun r w' => r = .returned (.int .i64 (cntN fa 256 : Nat)) ∧ Below w.heap.size w w' := fun w => (count_any _ w).mono fun _ _ q => ⟨by rw [q.1, count_is], q.2⟩
  have cCb : ∀ w : World, Calls Try.prog 12 #[.agg #[.int .u64 (U (wd (fun j => f j && !fa j) 0)), .int .u64 (U (wd (fun j => f j && !fa j) 1)), .int .u64 (U (wd (fun j => f j && !fa j) 2)), .int .u64 (U (wd (fun j => f j && !fa j) 3))]] w fun r w' => r = .returned (.int .i64 (cntN (fun j => f j && !fa j) 256 : Nat)) ∧ Below w.heap.size w w' := fun w => (count_any _ w).mono fun _ _ q => ⟨by rw [q.1, count_is], q.2⟩
  have cCf : ∀ w : World, Calls Try.prog 12 #[.agg #[.int .u64 (U (wd f 0)), .int .u64 (U (wd f 1)), .int .u64 (U (wd f 2)), .int .u64 (U (wd f 3))]] w fun r w' => r = .returned (.int .i64 (cntN f 256 : Nat)) ∧ Below w.heap.size w w' := fun w => (count_any _ w).mono fun _ _ q => ⟨by rw [q.1, count_is], q.2⟩
  have gxi : ∀ w : World, Calls Try.prog 14 #[.agg #[.int .u64 (U (wd (updS f i true) 0)), .int .u64 (U (wd (updS f i true) 1)), .int .u64 (U (wd (updS f i true) 2)), .int .u64 (U (wd (updS f i true) 3))], .int .i64 i] w fun r w' => r = .returned (.bool true) ∧ Below w.heap.size w w' := fun w => (get_in _ i h0 h1 w).mono fun _ _ q => ⟨by rw [q.1, upd_in f i true h0 h1, if_pos rfl], q.2⟩
  have gyi : ∀ w : World, Calls Try.prog 14 #[.agg #[.int .u64 (U (wd (updS f i false) 0)), .int .u64 (U (wd (updS f i false) 1)), .int .u64 (U (wd (updS f i false) 2)), .int .u64 (U (wd (updS f i false) 3))], .int .i64 i] w fun r w' => r = .returned (.bool false) ∧ Below w.heap.size w w' := fun w => (get_in _ i h0 h1 w).mono fun _ _ q => ⟨by rw [q.1, upd_in f i false h0 h1, if_pos rfl], q.2⟩
  have cAe : ∀ w : World, Calls Try.prog 13 #[.agg #[.int .u64 (U (wd (fun _ => false) 0)), .int .u64 (U (wd (fun _ => false) 1)), .int .u64 (U (wd (fun _ => false) 2)), .int .u64 (U (wd (fun _ => false) 3))]] w fun r w' => r = .returned (.bool false) ∧ Below w.heap.size w w' := fun w => (any_any _ w).mono fun _ _ q => ⟨by rw [q.1, any_none], q.2⟩
  have cGc : ∀ w : World, Calls Try.prog 14 #[.agg #[.int .u64 (U (wd (covS 16 16) 0)), .int .u64 (U (wd (covS 16 16) 1)), .int .u64 (U (wd (covS 16 16) 2)), .int .u64 (U (wd (covS 16 16) 3))], .int .i64 1] w fun r w' => r = .returned (.bool true) ∧ Below w.heap.size w w' := fun w => (get_in _ 1 (by omega) (by omega) w).mono fun _ _ q => ⟨by rw [q.1, cov_16], q.2⟩
  have cAll : ∀ w : World, Calls Try.prog 10 #[.agg #[.int .u64 (U (wd f 0)), .int .u64 (U (wd f 1)), .int .u64 (U (wd f 2)), .int .u64 (U (wd f 3))]] w fun r w' => ∃ (a : Option Addr) (z : Nat), r = .returned (.slice a (elemsN f 256).length z) ∧ Below w.heap.size w w' := fun w => (all_any f w).mono fun _ _ ⟨v, h1, h2, h3⟩ => by
    obtain ⟨a, c, rfl⟩ := row_of h3
    exact ⟨a, c, h1, h2⟩
  have hN : (((elemsN f 256).length : Int) == ((cntN f 256 : Nat) : Int)) = true := by rw [elemsN_len]; exact beq_self_eq_true _
  have hcx : (((cntN (updS f i true) 256 : Nat) : Int) - ((cntN (updS f i false) 256 : Nat) : Int) != 1) = false := by rw [hx]; simp; omega
  have hq : (((cntN fa 256 : Nat) : Int) + ((cntN (fun j => f j && !fa j) 256 : Nat) : Int) == ((cntN f 256 : Nat) : Int)) = true := by rw [← hsum]; simp
  by_cases c : i = k
  · subst c
    exact core_same f g _ _ fa (fun j => f j && !fa j) (fun _ => false) _ i0 k0 i _ _ _ _ _ _ ei ek h0 h1 (by omega) (by omega) (by omega) (by omega) (by omega) (by omega) (by omega) (fun w => with_any f i true w) (fun w => with_any f i false w) gxi gyi cCx cCy cWxy cWa (fun w => without_any f fa w) cCa cCb cCf cWe cAe cWaa (fun w => cover_any 16 16 (by omega) (by omega) w) cGc cAll hN hcx (by omega) (by omega) hq w
  · have hne : ¬ k.toNat = i.toNat := by omega
    have gxk : ∀ w : World, Calls Try.prog 14 #[.agg #[.int .u64 (U (wd (updS f i true) 0)), .int .u64 (U (wd (updS f i true) 1)), .int .u64 (U (wd (updS f i true) 2)), .int .u64 (U (wd (updS f i true) 3))], .int .i64 k] w fun r w' => r = .returned (.bool (f k.toNat)) ∧ Below w.heap.size w w' := fun w => (get_in _ k k0' k1' w).mono fun _ _ q => ⟨by rw [q.1, upd_in f i true h0 h1, if_neg hne], q.2⟩
    have gyk : ∀ w : World, Calls Try.prog 14 #[.agg #[.int .u64 (U (wd (updS f i false) 0)), .int .u64 (U (wd (updS f i false) 1)), .int .u64 (U (wd (updS f i false) 2)), .int .u64 (U (wd (updS f i false) 3))], .int .i64 k] w fun r w' => r = .returned (.bool (f k.toNat)) ∧ Below w.heap.size w w' := fun w => (get_in _ k k0' k1' w).mono fun _ _ q => ⟨by rw [q.1, upd_in f i false h0 h1, if_neg hne], q.2⟩
    exact core_other f g _ _ fa (fun j => f j && !fa j) (fun _ => false) _ i0 k0 i k _ _ _ _ _ _ (f k.toNat) ei ek h0 h1 (by omega) (by omega) (by omega) (by omega) (by omega) (by omega) (by omega) (by rw [bne_iff_ne]; exact c) (fun w => with_any f i true w) (fun w => with_any f i false w) gxi gyi gxk gyk (fun w => get_in f k k0' k1' w) cCx cCy cWxy cWa (fun w => without_any f fa w) cCa cCb cCf cWe cAe cWaa (fun w => cover_any 16 16 (by omega) (by omega) w) cGc cAll hN hcx (by omega) (by omega) hq w
theorem set_of (a b c d : BitVec 64) : ∃ f : Nat → Bool, wd f 0 = a ∧ wd f 1 = b ∧ wd f 2 = c ∧ wd f 3 = d :=
  ⟨fun j => if j < 64 then a.getLsbD j else if j < 128 then b.getLsbD (j - 64) else if j < 192 then c.getLsbD (j - 128) else d.getLsbD (j - 192),
    wd_of fun j hj => by rw [if_pos (by omega), show 64 * 0 + j = j by omega],
    wd_of fun j hj => by rw [if_neg (by omega), if_pos (by omega), show 64 * 1 + j - 64 = j by omega],
    wd_of fun j hj => by rw [if_neg (by omega), if_neg (by omega), if_pos (by omega), show 64 * 2 + j - 128 = j by omega],
    wd_of fun j hj => by rw [if_neg (by omega), if_neg (by omega), if_neg (by omega), show 64 * 3 + j - 192 = j by omega]⟩

set_option maxRecDepth 100000 in
theorem lifted (os : Os) (started : os.Started) (H : Type) (enc : TypeId × Value → H) :
    ReturnsInHanded {} Try.checked os 6 .any (Rows.tagsSetsSpec.pre6 enc Try.prog Try.f6 Rows.tagsSetsRow.domain false) (Rows.tagsSetsSpec.post enc Try.prog Try.f6 false true false false) := by
  refine law_lift (C := Try.checked) (tb := 4) started (by kernel_rfl) (by kernel_rfl) Try.func6 rfl rfl Try.underlying4 (by kernel_rfl) (by kernel_rfl)
    (fun ds h => by match ds, h with | [_, _, _], _ => rfl)
    (ChangeSpec.witness6 (enc := enc) (C := Try.checked) false ⟨#[], #[.agg #[.int .u64 0, .int .u64 0, .int .u64 0, .int .u64 0], .agg #[.int .u64 0, .int .u64 0, .int .u64 0, .int .u64 0], .agg #[.int .i64 0, .int .i64 0]], []⟩ 8 (by kernel_rfl) (by kernel_rfl) (by kernel_rfl) (by kernel_rfl)) ?_
  intro W base args ds ps hval hA hlt hfz hsz
  rw [Try.params6] at hA hval hsz
  obtain ⟨v0, v1, v2, d0, d1, d2, p0, p1, p2, rfl, rfl, rfl, h0, h1, h2⟩ := trodAll_three hA
  obtain ⟨x0, wx0, x1, wx1, x2, wx2, x3, wx3, rfl⟩ := open_leaves (d := 5) (ls := [.int .u64, .int .u64, .int .u64, .int .u64]) (by kernel_rfl) (by kernel_rfl) (hval 0 _ v0 rfl rfl) h0
  obtain ⟨xa, rfl⟩ := exists_U x0 wx0
  obtain ⟨xb, rfl⟩ := exists_U x1 wx1
  obtain ⟨xc, rfl⟩ := exists_U x2 wx2
  obtain ⟨xd, rfl⟩ := exists_U x3 wx3
  obtain ⟨f, rfl, rfl, rfl, rfl⟩ := set_of xa xb xc xd
  obtain ⟨y0, wy0, y1, wy1, y2, wy2, y3, wy3, rfl⟩ := open_leaves (d := 5) (ls := [.int .u64, .int .u64, .int .u64, .int .u64]) (by kernel_rfl) (by kernel_rfl) (hval 1 _ v1 rfl rfl) h1
  obtain ⟨ya, rfl⟩ := exists_U y0 wy0
  obtain ⟨yb, rfl⟩ := exists_U y1 wy1
  obtain ⟨yc, rfl⟩ := exists_U y2 wy2
  obtain ⟨yd, rfl⟩ := exists_U y3 wy3
  obtain ⟨g, rfl, rfl, rfl, rfl⟩ := set_of ya yb yc yd
  obtain ⟨z0, wz0, z1, wz1, rfl⟩ := open_leaves (d := 5) (ls := [.int .i64, .int .i64]) (by kernel_rfl) (by kernel_rfl) (hval 2 _ v2 rfl rfl) h2
  exact walk f g z0 z1 W

theorem over : Rows.tagsSetsRow.holds Try.pinned (OpenSpec.ofChange Rows.tagsSetsSpec) :=
  OpenClaim.holds_of_wide 6 Try.f6 rfl rfl rfl rfl rfl rfl rfl ⟨rfl, rfl, rfl, rfl, rfl⟩ rfl rfl rfl rfl rfl (by kernel_rfl) Try.func6 (by kernel_rfl)
    (of_decide_eq_true (by kernel_rfl)) (by unfold Func.isWrapper; first | (rw [if_pos (by decide +kernel)]; kernel_rfl) | (rw [if_neg (by decide +kernel)]; exact ⟨rfl, rfl⟩))
    (fun os started H enc _ => lifted os started H enc)

theorem proved : Rows.TagsSetsSaid := over
end Go.Proofs.Ytfbkfbmfeaajkaa.Sets
