
/-
  The document's Encode, shape by shape.
-/
import Derived.Test.YtokfokgbbpjgdaaInstX
namespace Go.Proofs.Ytokfokgbbpjgdaa
open Go Go.RowKit
set_option linter.unusedVariables false
set_option linter.unusedSimpArgs false

theorem ret_w {x y : Int} {b c : Bool} (h : x = y) (g : b = c) : Ending.returned (.tuple #[.int .u32 x, .bool b]) = .returned (.tuple #[.int .u32 y, .bool c]) := by rw [h, g]
set_option maxHeartbeats 4000000 in
set_option maxRecDepth 100000 in
theorem renc_R (k : Nat) (hk : k < 69) (cd f ot : Int) (hs : ((rowAt k).sh : Int) = 82) (hcd : U (rowAt k).cd = cd) (hf : U (rowAt k).f = f) (hot : U (rowAt k).ot = ot) (D A B : Int) (m : BitVec 64) (b1 b2 b3 : Bool)
    (c1 : ∀ w : World, Calls Try.prog 24 #[.int .i64 D] w fun e w' => e = .returned (.bool b1) ∧ Below w.heap.size w w')
    (c2 : ∀ w : World, Calls Try.prog 24 #[.int .i64 A] w fun e w' => e = .returned (.bool b2) ∧ Below w.heap.size w w')
    (c3 : ∀ w : World, Calls Try.prog 24 #[.int .i64 B] w fun e w' => e = .returned (.bool b3) ∧ Below w.heap.size w w') (w : World) :
    Calls Try.prog 8 #[.agg #[.int .i64 ((k : Int) + 1), .int .i64 D, .int .i64 A, .int .i64 B, .int .i64 (S m)]] w fun e w' => e = .returned (.tuple #[.int .u32 ((cd + f * 4096 + D % 32 * 128 + A % 32 * 32768 + B % 32 * 1048576 + ot * 33554432) % 4294967296), .bool (b1 && b2 && b3)]) ∧ Below w.heap.size w w' := by
  have d1 : decide ((k : Int) + 1 < 1) = false := decide_eq_false (by omega)
  have d2 : decide (69 < (k : Int) + 1) = false := decide_eq_false (by omega)
  go_enter Try.func8, Try.ntmps8
  cases b1
  · go_wp2_with (go_at_call 23; refine (rrows_any _).mono ?_; rintro e wR ⟨⟨bR, rfl, hge, hR⟩, hblR⟩; obtain ⟨hlt, hRk⟩ := hR; obtain ⟨x0, x1, x2, x3, x4⟩ := hRk k hk; clear hRk; rw [hs] at x1; rw [hcd] at x2; rw [hf] at x3; rw [hot] at x4; obtain ⟨hcw, hfw, hsw⟩ := below_ifs hblR; (try simp only [World.size_alloc, World.size_setCell, World.size_drew, size_drewN_] at hcw hfw hsw hge))
    refine wp_region_below (by kernel_rfl) (by kernel_rfl) (fun hcr hfr => ?_)
    (try simp only [World.size_alloc, World.size_setCell, World.size_drew, size_drewN_] at hcr hfr)
    repeat (go_big_quiet_step ((first | (go_at_call 24; first | with_reducible exact Calls.regrown_of (c1 _) | with_reducible exact regrown_k (c1 _) | with_reducible exact regrown_1 (c1 _) | with_reducible exact regrown_a (c1 _)) | (go_at_call 24; first | with_reducible exact Calls.regrown_of (c2 _) | with_reducible exact regrown_k (c2 _) | with_reducible exact regrown_1 (c2 _) | with_reducible exact regrown_a (c2 _)) | (go_at_call 24; first | with_reducible exact Calls.regrown_of (c3 _) | with_reducible exact regrown_k (c3 _) | with_reducible exact regrown_1 (c3 _) | with_reducible exact regrown_a (c3 _)))))
    refine wpQuiet_nil ?_
    intro w' hbl
    clear hcr hfr
    obtain ⟨hcw, hfw, hsw⟩ := below_ifs hbl; (try simp only [World.size_alloc, World.size_setCell, World.size_drew, size_drewN_] at hcw hfw hsw)
    go_wp2_with fail
    go_returns
    · exact ⟨ret_w (by omega) (by simp), by (repeat (first | with_reducible exact Below.refl _ _ | with_reducible assumption | with_reducible refine below_drewN ?_ _ | with_reducible refine Below.drew ?_ | with_reducible refine below_alloc ?_ _ | (with_reducible refine Below.setCell ?_ (by first | (simp; done) | omega | (simp; omega)) _) | with_reducible refine belows ?_ (by assumption)))⟩
  cases b2
  · go_wp2_with (go_at_call 23; refine (rrows_any _).mono ?_; rintro e wR ⟨⟨bR, rfl, hge, hR⟩, hblR⟩; obtain ⟨hlt, hRk⟩ := hR; obtain ⟨x0, x1, x2, x3, x4⟩ := hRk k hk; clear hRk; rw [hs] at x1; rw [hcd] at x2; rw [hf] at x3; rw [hot] at x4; obtain ⟨hcw, hfw, hsw⟩ := below_ifs hblR; (try simp only [World.size_alloc, World.size_setCell, World.size_drew, size_drewN_] at hcw hfw hsw hge))
    refine wp_region_below (by kernel_rfl) (by kernel_rfl) (fun hcr hfr => ?_)
    (try simp only [World.size_alloc, World.size_setCell, World.size_drew, size_drewN_] at hcr hfr)
    repeat (go_big_quiet_step ((first | (go_at_call 24; first | with_reducible exact Calls.regrown_of (c1 _) | with_reducible exact regrown_k (c1 _) | with_reducible exact regrown_1 (c1 _) | with_reducible exact regrown_a (c1 _)) | (go_at_call 24; first | with_reducible exact Calls.regrown_of (c2 _) | with_reducible exact regrown_k (c2 _) | with_reducible exact regrown_1 (c2 _) | with_reducible exact regrown_a (c2 _)) | (go_at_call 24; first | with_reducible exact Calls.regrown_of (c3 _) | with_reducible exact regrown_k (c3 _) | with_reducible exact regrown_1 (c3 _) | with_reducible exact regrown_a (c3 _)))))
    refine wpQuiet_nil ?_
    intro w' hbl
    clear hcr hfr
    obtain ⟨hcw, hfw, hsw⟩ := below_ifs hbl; (try simp only [World.size_alloc, World.size_setCell, World.size_drew, size_drewN_] at hcw hfw hsw)
    go_wp2_with fail
    go_returns
    · exact ⟨ret_w (by omega) (by simp), by (repeat (first | with_reducible exact Below.refl _ _ | with_reducible assumption | with_reducible refine below_drewN ?_ _ | with_reducible refine Below.drew ?_ | with_reducible refine below_alloc ?_ _ | (with_reducible refine Below.setCell ?_ (by first | (simp; done) | omega | (simp; omega)) _) | with_reducible refine belows ?_ (by assumption)))⟩
  cases b3
  · go_wp2_with (go_at_call 23; refine (rrows_any _).mono ?_; rintro e wR ⟨⟨bR, rfl, hge, hR⟩, hblR⟩; obtain ⟨hlt, hRk⟩ := hR; obtain ⟨x0, x1, x2, x3, x4⟩ := hRk k hk; clear hRk; rw [hs] at x1; rw [hcd] at x2; rw [hf] at x3; rw [hot] at x4; obtain ⟨hcw, hfw, hsw⟩ := below_ifs hblR; (try simp only [World.size_alloc, World.size_setCell, World.size_drew, size_drewN_] at hcw hfw hsw hge))
    refine wp_region_below (by kernel_rfl) (by kernel_rfl) (fun hcr hfr => ?_)
    (try simp only [World.size_alloc, World.size_setCell, World.size_drew, size_drewN_] at hcr hfr)
    repeat (go_big_quiet_step ((first | (go_at_call 24; first | with_reducible exact Calls.regrown_of (c1 _) | with_reducible exact regrown_k (c1 _) | with_reducible exact regrown_1 (c1 _) | with_reducible exact regrown_a (c1 _)) | (go_at_call 24; first | with_reducible exact Calls.regrown_of (c2 _) | with_reducible exact regrown_k (c2 _) | with_reducible exact regrown_1 (c2 _) | with_reducible exact regrown_a (c2 _)) | (go_at_call 24; first | with_reducible exact Calls.regrown_of (c3 _) | with_reducible exact regrown_k (c3 _) | with_reducible exact regrown_1 (c3 _) | with_reducible exact regrown_a (c3 _)))))
    refine wpQuiet_nil ?_
    intro w' hbl
    clear hcr hfr
    obtain ⟨hcw, hfw, hsw⟩ := below_ifs hbl; (try simp only [World.size_alloc, World.size_setCell, World.size_drew, size_drewN_] at hcw hfw hsw)
    go_wp2_with fail
    go_returns
    · exact ⟨ret_w (by omega) (by simp), by (repeat (first | with_reducible exact Below.refl _ _ | with_reducible assumption | with_reducible refine below_drewN ?_ _ | with_reducible refine Below.drew ?_ | with_reducible refine below_alloc ?_ _ | (with_reducible refine Below.setCell ?_ (by first | (simp; done) | omega | (simp; omega)) _) | with_reducible refine belows ?_ (by assumption)))⟩
  go_wp2_with (go_at_call 23; refine (rrows_any _).mono ?_; rintro e wR ⟨⟨bR, rfl, hge, hR⟩, hblR⟩; obtain ⟨hlt, hRk⟩ := hR; obtain ⟨x0, x1, x2, x3, x4⟩ := hRk k hk; clear hRk; rw [hs] at x1; rw [hcd] at x2; rw [hf] at x3; rw [hot] at x4; obtain ⟨hcw, hfw, hsw⟩ := below_ifs hblR; (try simp only [World.size_alloc, World.size_setCell, World.size_drew, size_drewN_] at hcw hfw hsw hge))
  refine wp_region_below (by kernel_rfl) (by kernel_rfl) (fun hcr hfr => ?_)
  (try simp only [World.size_alloc, World.size_setCell, World.size_drew, size_drewN_] at hcr hfr)
  repeat (go_big_quiet_step ((first | (go_at_call 24; first | with_reducible exact Calls.regrown_of (c1 _) | with_reducible exact regrown_k (c1 _) | with_reducible exact regrown_1 (c1 _) | with_reducible exact regrown_a (c1 _)) | (go_at_call 24; first | with_reducible exact Calls.regrown_of (c2 _) | with_reducible exact regrown_k (c2 _) | with_reducible exact regrown_1 (c2 _) | with_reducible exact regrown_a (c2 _)) | (go_at_call 24; first | with_reducible exact Calls.regrown_of (c3 _) | with_reducible exact regrown_k (c3 _) | with_reducible exact regrown_1 (c3 _) | with_reducible exact regrown_a (c3 _)))))
  refine wpQuiet_nil ?_
  intro w' hbl
  clear hcr hfr
  obtain ⟨hcw, hfw, hsw⟩ := below_ifs hbl; (try simp only [World.size_alloc, World.size_setCell, World.size_drew, size_drewN_] at hcw hfw hsw)
  go_wp2_with fail
  go_returns
  · exact ⟨ret_w (by omega) (by simp), by (repeat (first | with_reducible exact Below.refl _ _ | with_reducible assumption | with_reducible refine below_drewN ?_ _ | with_reducible refine Below.drew ?_ | with_reducible refine below_alloc ?_ _ | (with_reducible refine Below.setCell ?_ (by first | (simp; done) | omega | (simp; omega)) _) | with_reducible refine belows ?_ (by assumption)))⟩
set_option maxHeartbeats 4000000 in
set_option maxRecDepth 100000 in
theorem renc_G (k : Nat) (hk : k < 69) (cd f ot : Int) (hs : ((rowAt k).sh : Int) = 71) (hcd : U (rowAt k).cd = cd) (hf : U (rowAt k).f = f) (hot : U (rowAt k).ot = ot) (D A B : Int) (m : BitVec 64) (b1 b2 : Bool)
    (c1 : ∀ w : World, Calls Try.prog 24 #[.int .i64 D] w fun e w' => e = .returned (.bool b1) ∧ Below w.heap.size w w')
    (c2 : ∀ w : World, Calls Try.prog 24 #[.int .i64 A] w fun e w' => e = .returned (.bool b2) ∧ Below w.heap.size w w') (w : World) :
    Calls Try.prog 8 #[.agg #[.int .i64 ((k : Int) + 1), .int .i64 D, .int .i64 A, .int .i64 B, .int .i64 (S m)]] w fun e w' => e = .returned (.tuple #[.int .u32 ((cd + f * 4096 + D % 32 * 128 + A % 32 * 32768 + ot * 1048576 + 4261412864) % 4294967296), .bool (b1 && b2)]) ∧ Below w.heap.size w w' := by
  have d1 : decide ((k : Int) + 1 < 1) = false := decide_eq_false (by omega)
  have d2 : decide (69 < (k : Int) + 1) = false := decide_eq_false (by omega)
  go_enter Try.func8, Try.ntmps8
  cases b1
  · go_wp2_with (go_at_call 23; refine (rrows_any _).mono ?_; rintro e wR ⟨⟨bR, rfl, hge, hR⟩, hblR⟩; obtain ⟨hlt, hRk⟩ := hR; obtain ⟨x0, x1, x2, x3, x4⟩ := hRk k hk; clear hRk; rw [hs] at x1; rw [hcd] at x2; rw [hf] at x3; rw [hot] at x4; obtain ⟨hcw, hfw, hsw⟩ := below_ifs hblR; (try simp only [World.size_alloc, World.size_setCell, World.size_drew, size_drewN_] at hcw hfw hsw hge))
    refine wp_region_below (by kernel_rfl) (by kernel_rfl) (fun hcr hfr => ?_)
    (try simp only [World.size_alloc, World.size_setCell, World.size_drew, size_drewN_] at hcr hfr)
    repeat (go_big_quiet_step ((first | (go_at_call 24; first | with_reducible exact Calls.regrown_of (c1 _) | with_reducible exact regrown_k (c1 _) | with_reducible exact regrown_1 (c1 _) | with_reducible exact regrown_a (c1 _)) | (go_at_call 24; first | with_reducible exact Calls.regrown_of (c2 _) | with_reducible exact regrown_k (c2 _) | with_reducible exact regrown_1 (c2 _) | with_reducible exact regrown_a (c2 _)))))
    refine wpQuiet_nil ?_
    intro w' hbl
    clear hcr hfr
    obtain ⟨hcw, hfw, hsw⟩ := below_ifs hbl; (try simp only [World.size_alloc, World.size_setCell, World.size_drew, size_drewN_] at hcw hfw hsw)
    go_wp2_with fail
    go_returns
    · exact ⟨ret_w (by omega) (by simp), by (repeat (first | with_reducible exact Below.refl _ _ | with_reducible assumption | with_reducible refine below_drewN ?_ _ | with_reducible refine Below.drew ?_ | with_reducible refine below_alloc ?_ _ | (with_reducible refine Below.setCell ?_ (by first | (simp; done) | omega | (simp; omega)) _) | with_reducible refine belows ?_ (by assumption)))⟩
  cases b2
  · go_wp2_with (go_at_call 23; refine (rrows_any _).mono ?_; rintro e wR ⟨⟨bR, rfl, hge, hR⟩, hblR⟩; obtain ⟨hlt, hRk⟩ := hR; obtain ⟨x0, x1, x2, x3, x4⟩ := hRk k hk; clear hRk; rw [hs] at x1; rw [hcd] at x2; rw [hf] at x3; rw [hot] at x4; obtain ⟨hcw, hfw, hsw⟩ := below_ifs hblR; (try simp only [World.size_alloc, World.size_setCell, World.size_drew, size_drewN_] at hcw hfw hsw hge))
    refine wp_region_below (by kernel_rfl) (by kernel_rfl) (fun hcr hfr => ?_)
    (try simp only [World.size_alloc, World.size_setCell, World.size_drew, size_drewN_] at hcr hfr)
    repeat (go_big_quiet_step ((first | (go_at_call 24; first | with_reducible exact Calls.regrown_of (c1 _) | with_reducible exact regrown_k (c1 _) | with_reducible exact regrown_1 (c1 _) | with_reducible exact regrown_a (c1 _)) | (go_at_call 24; first | with_reducible exact Calls.regrown_of (c2 _) | with_reducible exact regrown_k (c2 _) | with_reducible exact regrown_1 (c2 _) | with_reducible exact regrown_a (c2 _)))))
    refine wpQuiet_nil ?_
    intro w' hbl
    clear hcr hfr
    obtain ⟨hcw, hfw, hsw⟩ := below_ifs hbl; (try simp only [World.size_alloc, World.size_setCell, World.size_drew, size_drewN_] at hcw hfw hsw)
    go_wp2_with fail
    go_returns
    · exact ⟨ret_w (by omega) (by simp), by (repeat (first | with_reducible exact Below.refl _ _ | with_reducible assumption | with_reducible refine below_drewN ?_ _ | with_reducible refine Below.drew ?_ | with_reducible refine below_alloc ?_ _ | (with_reducible refine Below.setCell ?_ (by first | (simp; done) | omega | (simp; omega)) _) | with_reducible refine belows ?_ (by assumption)))⟩
  go_wp2_with (go_at_call 23; refine (rrows_any _).mono ?_; rintro e wR ⟨⟨bR, rfl, hge, hR⟩, hblR⟩; obtain ⟨hlt, hRk⟩ := hR; obtain ⟨x0, x1, x2, x3, x4⟩ := hRk k hk; clear hRk; rw [hs] at x1; rw [hcd] at x2; rw [hf] at x3; rw [hot] at x4; obtain ⟨hcw, hfw, hsw⟩ := below_ifs hblR; (try simp only [World.size_alloc, World.size_setCell, World.size_drew, size_drewN_] at hcw hfw hsw hge))
  refine wp_region_below (by kernel_rfl) (by kernel_rfl) (fun hcr hfr => ?_)
  (try simp only [World.size_alloc, World.size_setCell, World.size_drew, size_drewN_] at hcr hfr)
  repeat (go_big_quiet_step ((first | (go_at_call 24; first | with_reducible exact Calls.regrown_of (c1 _) | with_reducible exact regrown_k (c1 _) | with_reducible exact regrown_1 (c1 _) | with_reducible exact regrown_a (c1 _)) | (go_at_call 24; first | with_reducible exact Calls.regrown_of (c2 _) | with_reducible exact regrown_k (c2 _) | with_reducible exact regrown_1 (c2 _) | with_reducible exact regrown_a (c2 _)))))
  refine wpQuiet_nil ?_
  intro w' hbl
  clear hcr hfr
  obtain ⟨hcw, hfw, hsw⟩ := below_ifs hbl; (try simp only [World.size_alloc, World.size_setCell, World.size_drew, size_drewN_] at hcw hfw hsw)
  go_wp2_with fail
  go_returns
  · exact ⟨ret_w (by omega) (by simp), by (repeat (first | with_reducible exact Below.refl _ _ | with_reducible assumption | with_reducible refine below_drewN ?_ _ | with_reducible refine Below.drew ?_ | with_reducible refine below_alloc ?_ _ | (with_reducible refine Below.setCell ?_ (by first | (simp; done) | omega | (simp; omega)) _) | with_reducible refine belows ?_ (by assumption)))⟩
set_option maxHeartbeats 4000000 in
set_option maxRecDepth 100000 in
theorem renc_N (k : Nat) (hk : k < 69) (cd f ot : Int) (hs : ((rowAt k).sh : Int) = 78) (hcd : U (rowAt k).cd = cd) (hf : U (rowAt k).f = f) (hot : U (rowAt k).ot = ot) (D A B : Int) (m : BitVec 64)
     (w : World) :
    Calls Try.prog 8 #[.agg #[.int .i64 ((k : Int) + 1), .int .i64 D, .int .i64 A, .int .i64 B, .int .i64 (S m)]] w fun e w' => e = .returned (.tuple #[.int .u32 ((cd + ot * 1048576) % 4294967296), .bool (true)]) ∧ Below w.heap.size w w' := by
  have d1 : decide ((k : Int) + 1 < 1) = false := decide_eq_false (by omega)
  have d2 : decide (69 < (k : Int) + 1) = false := decide_eq_false (by omega)
  go_enter Try.func8, Try.ntmps8
  go_wp2_with (go_at_call 23; refine (rrows_any _).mono ?_; rintro e wR ⟨⟨bR, rfl, hge, hR⟩, hblR⟩; obtain ⟨hlt, hRk⟩ := hR; obtain ⟨x0, x1, x2, x3, x4⟩ := hRk k hk; clear hRk; rw [hs] at x1; rw [hcd] at x2; rw [hf] at x3; rw [hot] at x4; obtain ⟨hcw, hfw, hsw⟩ := below_ifs hblR; (try simp only [World.size_alloc, World.size_setCell, World.size_drew, size_drewN_] at hcw hfw hsw hge))
  go_returns
  · exact ⟨ret_w (by omega) (by rfl), by (repeat (first | with_reducible exact Below.refl _ _ | with_reducible assumption | with_reducible refine below_drewN ?_ _ | with_reducible refine Below.drew ?_ | with_reducible refine below_alloc ?_ _ | (with_reducible refine Below.setCell ?_ (by first | (simp; done) | omega | (simp; omega)) _) | with_reducible refine belows ?_ (by assumption)))⟩
set_option maxHeartbeats 4000000 in
set_option maxRecDepth 100000 in
theorem renc_I (k : Nat) (hk : k < 69) (cd f ot : Int) (hs : ((rowAt k).sh : Int) = 73) (hcd : U (rowAt k).cd = cd) (hf : U (rowAt k).f = f) (hot : U (rowAt k).ot = ot) (D A B : Int) (m : BitVec 64) (b1 b2 b3 : Bool)
    (c1 : ∀ w : World, Calls Try.prog 24 #[.int .i64 D] w fun e w' => e = .returned (.bool b1) ∧ Below w.heap.size w w')
    (c2 : ∀ w : World, Calls Try.prog 24 #[.int .i64 A] w fun e w' => e = .returned (.bool b2) ∧ Below w.heap.size w w')
    (c3 : ∀ w : World, Calls Try.prog 26 #[.int .i64 (S m), .int .i64 12, .bool true] w fun e w' => e = .returned (.bool b3) ∧ Below w.heap.size w w') (w : World) :
    Calls Try.prog 8 #[.agg #[.int .i64 ((k : Int) + 1), .int .i64 D, .int .i64 A, .int .i64 B, .int .i64 (S m)]] w fun e w' => e = .returned (.tuple #[.int .u32 ((cd + f * 4096 + D % 32 * 128 + A % 32 * 32768 + bitI m 0 12 20) % 4294967296), .bool (b1 && b2 && b3)]) ∧ Below w.heap.size w w' := by
  have d1 : decide ((k : Int) + 1 < 1) = false := decide_eq_false (by omega)
  have d2 : decide (69 < (k : Int) + 1) = false := decide_eq_false (by omega)
  go_enter Try.func8, Try.ntmps8
  cases b1
  · go_wp2_with (go_at_call 23; refine (rrows_any _).mono ?_; rintro e wR ⟨⟨bR, rfl, hge, hR⟩, hblR⟩; obtain ⟨hlt, hRk⟩ := hR; obtain ⟨x0, x1, x2, x3, x4⟩ := hRk k hk; clear hRk; rw [hs] at x1; rw [hcd] at x2; rw [hf] at x3; rw [hot] at x4; obtain ⟨hcw, hfw, hsw⟩ := below_ifs hblR; (try simp only [World.size_alloc, World.size_setCell, World.size_drew, size_drewN_] at hcw hfw hsw hge))
    refine wp_region_below (by kernel_rfl) (by kernel_rfl) (fun hcr hfr => ?_)
    (try simp only [World.size_alloc, World.size_setCell, World.size_drew, size_drewN_] at hcr hfr)
    repeat (go_big_quiet_step ((first | (go_at_call 24; first | with_reducible exact Calls.regrown_of (c1 _) | with_reducible exact regrown_k (c1 _) | with_reducible exact regrown_1 (c1 _) | with_reducible exact regrown_a (c1 _)) | (go_at_call 24; first | with_reducible exact Calls.regrown_of (c2 _) | with_reducible exact regrown_k (c2 _) | with_reducible exact regrown_1 (c2 _) | with_reducible exact regrown_a (c2 _)) | (go_at_call 26; first | with_reducible exact Calls.regrown_of (c3 _) | with_reducible exact regrown_k (c3 _) | with_reducible exact regrown_1 (c3 _) | with_reducible exact regrown_a (c3 _)) | (go_at_call 25; first | with_reducible exact Calls.regrown_of (bits_any m 0 12 20 (by decide) _) | with_reducible exact regrown_k (bits_any m 0 12 20 (by decide) _) | with_reducible exact regrown_1 (bits_any m 0 12 20 (by decide) _) | with_reducible exact regrown_a (bits_any m 0 12 20 (by decide) _)))))
    refine wpQuiet_nil ?_
    intro w' hbl
    clear hcr hfr
    obtain ⟨hcw, hfw, hsw⟩ := below_ifs hbl; (try simp only [World.size_alloc, World.size_setCell, World.size_drew, size_drewN_] at hcw hfw hsw)
    go_wp2_with fail
    go_returns
    · exact ⟨ret_w (by omega) (by simp), by (repeat (first | with_reducible exact Below.refl _ _ | with_reducible assumption | with_reducible refine below_drewN ?_ _ | with_reducible refine Below.drew ?_ | with_reducible refine below_alloc ?_ _ | (with_reducible refine Below.setCell ?_ (by first | (simp; done) | omega | (simp; omega)) _) | with_reducible refine belows ?_ (by assumption)))⟩
  cases b2
  · go_wp2_with (go_at_call 23; refine (rrows_any _).mono ?_; rintro e wR ⟨⟨bR, rfl, hge, hR⟩, hblR⟩; obtain ⟨hlt, hRk⟩ := hR; obtain ⟨x0, x1, x2, x3, x4⟩ := hRk k hk; clear hRk; rw [hs] at x1; rw [hcd] at x2; rw [hf] at x3; rw [hot] at x4; obtain ⟨hcw, hfw, hsw⟩ := below_ifs hblR; (try simp only [World.size_alloc, World.size_setCell, World.size_drew, size_drewN_] at hcw hfw hsw hge))
    refine wp_region_below (by kernel_rfl) (by kernel_rfl) (fun hcr hfr => ?_)
    (try simp only [World.size_alloc, World.size_setCell, World.size_drew, size_drewN_] at hcr hfr)
    repeat (go_big_quiet_step ((first | (go_at_call 24; first | with_reducible exact Calls.regrown_of (c1 _) | with_reducible exact regrown_k (c1 _) | with_reducible exact regrown_1 (c1 _) | with_reducible exact regrown_a (c1 _)) | (go_at_call 24; first | with_reducible exact Calls.regrown_of (c2 _) | with_reducible exact regrown_k (c2 _) | with_reducible exact regrown_1 (c2 _) | with_reducible exact regrown_a (c2 _)) | (go_at_call 26; first | with_reducible exact Calls.regrown_of (c3 _) | with_reducible exact regrown_k (c3 _) | with_reducible exact regrown_1 (c3 _) | with_reducible exact regrown_a (c3 _)) | (go_at_call 25; first | with_reducible exact Calls.regrown_of (bits_any m 0 12 20 (by decide) _) | with_reducible exact regrown_k (bits_any m 0 12 20 (by decide) _) | with_reducible exact regrown_1 (bits_any m 0 12 20 (by decide) _) | with_reducible exact regrown_a (bits_any m 0 12 20 (by decide) _)))))
    refine wpQuiet_nil ?_
    intro w' hbl
    clear hcr hfr
    obtain ⟨hcw, hfw, hsw⟩ := below_ifs hbl; (try simp only [World.size_alloc, World.size_setCell, World.size_drew, size_drewN_] at hcw hfw hsw)
    go_wp2_with fail
    go_returns
    · exact ⟨ret_w (by omega) (by simp), by (repeat (first | with_reducible exact Below.refl _ _ | with_reducible assumption | with_reducible refine below_drewN ?_ _ | with_reducible refine Below.drew ?_ | with_reducible refine below_alloc ?_ _ | (with_reducible refine Below.setCell ?_ (by first | (simp; done) | omega | (simp; omega)) _) | with_reducible refine belows ?_ (by assumption)))⟩
  cases b3
  · go_wp2_with (go_at_call 23; refine (rrows_any _).mono ?_; rintro e wR ⟨⟨bR, rfl, hge, hR⟩, hblR⟩; obtain ⟨hlt, hRk⟩ := hR; obtain ⟨x0, x1, x2, x3, x4⟩ := hRk k hk; clear hRk; rw [hs] at x1; rw [hcd] at x2; rw [hf] at x3; rw [hot] at x4; obtain ⟨hcw, hfw, hsw⟩ := below_ifs hblR; (try simp only [World.size_alloc, World.size_setCell, World.size_drew, size_drewN_] at hcw hfw hsw hge))
    refine wp_region_below (by kernel_rfl) (by kernel_rfl) (fun hcr hfr => ?_)
    (try simp only [World.size_alloc, World.size_setCell, World.size_drew, size_drewN_] at hcr hfr)
    repeat (go_big_quiet_step ((first | (go_at_call 24; first | with_reducible exact Calls.regrown_of (c1 _) | with_reducible exact regrown_k (c1 _) | with_reducible exact regrown_1 (c1 _) | with_reducible exact regrown_a (c1 _)) | (go_at_call 24; first | with_reducible exact Calls.regrown_of (c2 _) | with_reducible exact regrown_k (c2 _) | with_reducible exact regrown_1 (c2 _) | with_reducible exact regrown_a (c2 _)) | (go_at_call 26; first | with_reducible exact Calls.regrown_of (c3 _) | with_reducible exact regrown_k (c3 _) | with_reducible exact regrown_1 (c3 _) | with_reducible exact regrown_a (c3 _)) | (go_at_call 25; first | with_reducible exact Calls.regrown_of (bits_any m 0 12 20 (by decide) _) | with_reducible exact regrown_k (bits_any m 0 12 20 (by decide) _) | with_reducible exact regrown_1 (bits_any m 0 12 20 (by decide) _) | with_reducible exact regrown_a (bits_any m 0 12 20 (by decide) _)))))
    refine wpQuiet_nil ?_
    intro w' hbl
    clear hcr hfr
    obtain ⟨hcw, hfw, hsw⟩ := below_ifs hbl; (try simp only [World.size_alloc, World.size_setCell, World.size_drew, size_drewN_] at hcw hfw hsw)
    go_wp2_with fail
    go_returns
    · exact ⟨ret_w (by omega) (by simp), by (repeat (first | with_reducible exact Below.refl _ _ | with_reducible assumption | with_reducible refine below_drewN ?_ _ | with_reducible refine Below.drew ?_ | with_reducible refine below_alloc ?_ _ | (with_reducible refine Below.setCell ?_ (by first | (simp; done) | omega | (simp; omega)) _) | with_reducible refine belows ?_ (by assumption)))⟩
  go_wp2_with (go_at_call 23; refine (rrows_any _).mono ?_; rintro e wR ⟨⟨bR, rfl, hge, hR⟩, hblR⟩; obtain ⟨hlt, hRk⟩ := hR; obtain ⟨x0, x1, x2, x3, x4⟩ := hRk k hk; clear hRk; rw [hs] at x1; rw [hcd] at x2; rw [hf] at x3; rw [hot] at x4; obtain ⟨hcw, hfw, hsw⟩ := below_ifs hblR; (try simp only [World.size_alloc, World.size_setCell, World.size_drew, size_drewN_] at hcw hfw hsw hge))
  refine wp_region_below (by kernel_rfl) (by kernel_rfl) (fun hcr hfr => ?_)
  (try simp only [World.size_alloc, World.size_setCell, World.size_drew, size_drewN_] at hcr hfr)
  repeat (go_big_quiet_step ((first | (go_at_call 24; first | with_reducible exact Calls.regrown_of (c1 _) | with_reducible exact regrown_k (c1 _) | with_reducible exact regrown_1 (c1 _) | with_reducible exact regrown_a (c1 _)) | (go_at_call 24; first | with_reducible exact Calls.regrown_of (c2 _) | with_reducible exact regrown_k (c2 _) | with_reducible exact regrown_1 (c2 _) | with_reducible exact regrown_a (c2 _)) | (go_at_call 26; first | with_reducible exact Calls.regrown_of (c3 _) | with_reducible exact regrown_k (c3 _) | with_reducible exact regrown_1 (c3 _) | with_reducible exact regrown_a (c3 _)) | (go_at_call 25; first | with_reducible exact Calls.regrown_of (bits_any m 0 12 20 (by decide) _) | with_reducible exact regrown_k (bits_any m 0 12 20 (by decide) _) | with_reducible exact regrown_1 (bits_any m 0 12 20 (by decide) _) | with_reducible exact regrown_a (bits_any m 0 12 20 (by decide) _)))))
  refine wpQuiet_nil ?_
  intro w' hbl
  clear hcr hfr
  obtain ⟨hcw, hfw, hsw⟩ := below_ifs hbl; (try simp only [World.size_alloc, World.size_setCell, World.size_drew, size_drewN_] at hcw hfw hsw)
  go_wp2_with fail
  go_returns
  · exact ⟨ret_w (by omega) (by simp), by (repeat (first | with_reducible exact Below.refl _ _ | with_reducible assumption | with_reducible refine below_drewN ?_ _ | with_reducible refine Below.drew ?_ | with_reducible refine below_alloc ?_ _ | (with_reducible refine Below.setCell ?_ (by first | (simp; done) | omega | (simp; omega)) _) | with_reducible refine belows ?_ (by assumption)))⟩
set_option maxHeartbeats 4000000 in
set_option maxRecDepth 100000 in
theorem renc_C (k : Nat) (hk : k < 69) (cd f ot : Int) (hs : ((rowAt k).sh : Int) = 67) (hcd : U (rowAt k).cd = cd) (hf : U (rowAt k).f = f) (hot : U (rowAt k).ot = ot) (D A B : Int) (m : BitVec 64) (b1 b2 b3 : Bool)
    (c1 : ∀ w : World, Calls Try.prog 24 #[.int .i64 D] w fun e w' => e = .returned (.bool b1) ∧ Below w.heap.size w w')
    (c2 : ∀ w : World, Calls Try.prog 24 #[.int .i64 A] w fun e w' => e = .returned (.bool b2) ∧ Below w.heap.size w w')
    (c3 : ∀ w : World, Calls Try.prog 26 #[.int .i64 (S m), .int .i64 12, .bool false] w fun e w' => e = .returned (.bool b3) ∧ Below w.heap.size w w') (w : World) :
    Calls Try.prog 8 #[.agg #[.int .i64 ((k : Int) + 1), .int .i64 D, .int .i64 A, .int .i64 B, .int .i64 (S m)]] w fun e w' => e = .returned (.tuple #[.int .u32 ((cd + f * 4096 + D % 32 * 128 + A % 32 * 32768 + bitI m 0 12 20) % 4294967296), .bool (b1 && b2 && b3)]) ∧ Below w.heap.size w w' := by
  have d1 : decide ((k : Int) + 1 < 1) = false := decide_eq_false (by omega)
  have d2 : decide (69 < (k : Int) + 1) = false := decide_eq_false (by omega)
  go_enter Try.func8, Try.ntmps8
  cases b1
  · go_wp2_with (go_at_call 23; refine (rrows_any _).mono ?_; rintro e wR ⟨⟨bR, rfl, hge, hR⟩, hblR⟩; obtain ⟨hlt, hRk⟩ := hR; obtain ⟨x0, x1, x2, x3, x4⟩ := hRk k hk; clear hRk; rw [hs] at x1; rw [hcd] at x2; rw [hf] at x3; rw [hot] at x4; obtain ⟨hcw, hfw, hsw⟩ := below_ifs hblR; (try simp only [World.size_alloc, World.size_setCell, World.size_drew, size_drewN_] at hcw hfw hsw hge))
    refine wp_region_below (by kernel_rfl) (by kernel_rfl) (fun hcr hfr => ?_)
    (try simp only [World.size_alloc, World.size_setCell, World.size_drew, size_drewN_] at hcr hfr)
    repeat (go_big_quiet_step ((first | (go_at_call 24; first | with_reducible exact Calls.regrown_of (c1 _) | with_reducible exact regrown_k (c1 _) | with_reducible exact regrown_1 (c1 _) | with_reducible exact regrown_a (c1 _)) | (go_at_call 24; first | with_reducible exact Calls.regrown_of (c2 _) | with_reducible exact regrown_k (c2 _) | with_reducible exact regrown_1 (c2 _) | with_reducible exact regrown_a (c2 _)) | (go_at_call 26; first | with_reducible exact Calls.regrown_of (c3 _) | with_reducible exact regrown_k (c3 _) | with_reducible exact regrown_1 (c3 _) | with_reducible exact regrown_a (c3 _)) | (go_at_call 25; first | with_reducible exact Calls.regrown_of (bits_any m 0 12 20 (by decide) _) | with_reducible exact regrown_k (bits_any m 0 12 20 (by decide) _) | with_reducible exact regrown_1 (bits_any m 0 12 20 (by decide) _) | with_reducible exact regrown_a (bits_any m 0 12 20 (by decide) _)))))
    refine wpQuiet_nil ?_
    intro w' hbl
    clear hcr hfr
    obtain ⟨hcw, hfw, hsw⟩ := below_ifs hbl; (try simp only [World.size_alloc, World.size_setCell, World.size_drew, size_drewN_] at hcw hfw hsw)
    go_wp2_with fail
    go_returns
    · exact ⟨ret_w (by omega) (by simp), by (repeat (first | with_reducible exact Below.refl _ _ | with_reducible assumption | with_reducible refine below_drewN ?_ _ | with_reducible refine Below.drew ?_ | with_reducible refine below_alloc ?_ _ | (with_reducible refine Below.setCell ?_ (by first | (simp; done) | omega | (simp; omega)) _) | with_reducible refine belows ?_ (by assumption)))⟩
  cases b2
  · go_wp2_with (go_at_call 23; refine (rrows_any _).mono ?_; rintro e wR ⟨⟨bR, rfl, hge, hR⟩, hblR⟩; obtain ⟨hlt, hRk⟩ := hR; obtain ⟨x0, x1, x2, x3, x4⟩ := hRk k hk; clear hRk; rw [hs] at x1; rw [hcd] at x2; rw [hf] at x3; rw [hot] at x4; obtain ⟨hcw, hfw, hsw⟩ := below_ifs hblR; (try simp only [World.size_alloc, World.size_setCell, World.size_drew, size_drewN_] at hcw hfw hsw hge))
    refine wp_region_below (by kernel_rfl) (by kernel_rfl) (fun hcr hfr => ?_)
    (try simp only [World.size_alloc, World.size_setCell, World.size_drew, size_drewN_] at hcr hfr)
    repeat (go_big_quiet_step ((first | (go_at_call 24; first | with_reducible exact Calls.regrown_of (c1 _) | with_reducible exact regrown_k (c1 _) | with_reducible exact regrown_1 (c1 _) | with_reducible exact regrown_a (c1 _)) | (go_at_call 24; first | with_reducible exact Calls.regrown_of (c2 _) | with_reducible exact regrown_k (c2 _) | with_reducible exact regrown_1 (c2 _) | with_reducible exact regrown_a (c2 _)) | (go_at_call 26; first | with_reducible exact Calls.regrown_of (c3 _) | with_reducible exact regrown_k (c3 _) | with_reducible exact regrown_1 (c3 _) | with_reducible exact regrown_a (c3 _)) | (go_at_call 25; first | with_reducible exact Calls.regrown_of (bits_any m 0 12 20 (by decide) _) | with_reducible exact regrown_k (bits_any m 0 12 20 (by decide) _) | with_reducible exact regrown_1 (bits_any m 0 12 20 (by decide) _) | with_reducible exact regrown_a (bits_any m 0 12 20 (by decide) _)))))
    refine wpQuiet_nil ?_
    intro w' hbl
    clear hcr hfr
    obtain ⟨hcw, hfw, hsw⟩ := below_ifs hbl; (try simp only [World.size_alloc, World.size_setCell, World.size_drew, size_drewN_] at hcw hfw hsw)
    go_wp2_with fail
    go_returns
    · exact ⟨ret_w (by omega) (by simp), by (repeat (first | with_reducible exact Below.refl _ _ | with_reducible assumption | with_reducible refine below_drewN ?_ _ | with_reducible refine Below.drew ?_ | with_reducible refine below_alloc ?_ _ | (with_reducible refine Below.setCell ?_ (by first | (simp; done) | omega | (simp; omega)) _) | with_reducible refine belows ?_ (by assumption)))⟩
  cases b3
  · go_wp2_with (go_at_call 23; refine (rrows_any _).mono ?_; rintro e wR ⟨⟨bR, rfl, hge, hR⟩, hblR⟩; obtain ⟨hlt, hRk⟩ := hR; obtain ⟨x0, x1, x2, x3, x4⟩ := hRk k hk; clear hRk; rw [hs] at x1; rw [hcd] at x2; rw [hf] at x3; rw [hot] at x4; obtain ⟨hcw, hfw, hsw⟩ := below_ifs hblR; (try simp only [World.size_alloc, World.size_setCell, World.size_drew, size_drewN_] at hcw hfw hsw hge))
    refine wp_region_below (by kernel_rfl) (by kernel_rfl) (fun hcr hfr => ?_)
    (try simp only [World.size_alloc, World.size_setCell, World.size_drew, size_drewN_] at hcr hfr)
    repeat (go_big_quiet_step ((first | (go_at_call 24; first | with_reducible exact Calls.regrown_of (c1 _) | with_reducible exact regrown_k (c1 _) | with_reducible exact regrown_1 (c1 _) | with_reducible exact regrown_a (c1 _)) | (go_at_call 24; first | with_reducible exact Calls.regrown_of (c2 _) | with_reducible exact regrown_k (c2 _) | with_reducible exact regrown_1 (c2 _) | with_reducible exact regrown_a (c2 _)) | (go_at_call 26; first | with_reducible exact Calls.regrown_of (c3 _) | with_reducible exact regrown_k (c3 _) | with_reducible exact regrown_1 (c3 _) | with_reducible exact regrown_a (c3 _)) | (go_at_call 25; first | with_reducible exact Calls.regrown_of (bits_any m 0 12 20 (by decide) _) | with_reducible exact regrown_k (bits_any m 0 12 20 (by decide) _) | with_reducible exact regrown_1 (bits_any m 0 12 20 (by decide) _) | with_reducible exact regrown_a (bits_any m 0 12 20 (by decide) _)))))
    refine wpQuiet_nil ?_
    intro w' hbl
    clear hcr hfr
    obtain ⟨hcw, hfw, hsw⟩ := below_ifs hbl; (try simp only [World.size_alloc, World.size_setCell, World.size_drew, size_drewN_] at hcw hfw hsw)
    go_wp2_with fail
    go_returns
    · exact ⟨ret_w (by omega) (by simp), by (repeat (first | with_reducible exact Below.refl _ _ | with_reducible assumption | with_reducible refine below_drewN ?_ _ | with_reducible refine Below.drew ?_ | with_reducible refine below_alloc ?_ _ | (with_reducible refine Below.setCell ?_ (by first | (simp; done) | omega | (simp; omega)) _) | with_reducible refine belows ?_ (by assumption)))⟩
  go_wp2_with (go_at_call 23; refine (rrows_any _).mono ?_; rintro e wR ⟨⟨bR, rfl, hge, hR⟩, hblR⟩; obtain ⟨hlt, hRk⟩ := hR; obtain ⟨x0, x1, x2, x3, x4⟩ := hRk k hk; clear hRk; rw [hs] at x1; rw [hcd] at x2; rw [hf] at x3; rw [hot] at x4; obtain ⟨hcw, hfw, hsw⟩ := below_ifs hblR; (try simp only [World.size_alloc, World.size_setCell, World.size_drew, size_drewN_] at hcw hfw hsw hge))
  refine wp_region_below (by kernel_rfl) (by kernel_rfl) (fun hcr hfr => ?_)
  (try simp only [World.size_alloc, World.size_setCell, World.size_drew, size_drewN_] at hcr hfr)
  repeat (go_big_quiet_step ((first | (go_at_call 24; first | with_reducible exact Calls.regrown_of (c1 _) | with_reducible exact regrown_k (c1 _) | with_reducible exact regrown_1 (c1 _) | with_reducible exact regrown_a (c1 _)) | (go_at_call 24; first | with_reducible exact Calls.regrown_of (c2 _) | with_reducible exact regrown_k (c2 _) | with_reducible exact regrown_1 (c2 _) | with_reducible exact regrown_a (c2 _)) | (go_at_call 26; first | with_reducible exact Calls.regrown_of (c3 _) | with_reducible exact regrown_k (c3 _) | with_reducible exact regrown_1 (c3 _) | with_reducible exact regrown_a (c3 _)) | (go_at_call 25; first | with_reducible exact Calls.regrown_of (bits_any m 0 12 20 (by decide) _) | with_reducible exact regrown_k (bits_any m 0 12 20 (by decide) _) | with_reducible exact regrown_1 (bits_any m 0 12 20 (by decide) _) | with_reducible exact regrown_a (bits_any m 0 12 20 (by decide) _)))))
  refine wpQuiet_nil ?_
  intro w' hbl
  clear hcr hfr
  obtain ⟨hcw, hfw, hsw⟩ := below_ifs hbl; (try simp only [World.size_alloc, World.size_setCell, World.size_drew, size_drewN_] at hcw hfw hsw)
  go_wp2_with fail
  go_returns
  · exact ⟨ret_w (by omega) (by simp), by (repeat (first | with_reducible exact Below.refl _ _ | with_reducible assumption | with_reducible refine below_drewN ?_ _ | with_reducible refine Below.drew ?_ | with_reducible refine below_alloc ?_ _ | (with_reducible refine Below.setCell ?_ (by first | (simp; done) | omega | (simp; omega)) _) | with_reducible refine belows ?_ (by assumption)))⟩
set_option maxHeartbeats 4000000 in
set_option maxRecDepth 100000 in
theorem renc_H (k : Nat) (hk : k < 69) (cd f ot : Int) (hs : ((rowAt k).sh : Int) = 72) (hcd : U (rowAt k).cd = cd) (hf : U (rowAt k).f = f) (hot : U (rowAt k).ot = ot) (D A B : Int) (m : BitVec 64) (b1 b2 b3 : Bool)
    (c1 : ∀ w : World, Calls Try.prog 24 #[.int .i64 D] w fun e w' => e = .returned (.bool b1) ∧ Below w.heap.size w w')
    (c2 : ∀ w : World, Calls Try.prog 24 #[.int .i64 A] w fun e w' => e = .returned (.bool b2) ∧ Below w.heap.size w w')
    (c3 : ∀ w : World, Calls Try.prog 26 #[.int .i64 (S m), .int .i64 6, .bool false] w fun e w' => e = .returned (.bool b3) ∧ Below w.heap.size w w') (w : World) :
    Calls Try.prog 8 #[.agg #[.int .i64 ((k : Int) + 1), .int .i64 D, .int .i64 A, .int .i64 B, .int .i64 (S m)]] w fun e w' => e = .returned (.tuple #[.int .u32 ((cd + f * 4096 + D % 32 * 128 + A % 32 * 32768 + bitI m 0 6 20 + ot * 67108864) % 4294967296), .bool (b1 && b2 && b3)]) ∧ Below w.heap.size w w' := by
  have d1 : decide ((k : Int) + 1 < 1) = false := decide_eq_false (by omega)
  have d2 : decide (69 < (k : Int) + 1) = false := decide_eq_false (by omega)
  go_enter Try.func8, Try.ntmps8
  cases b1
  · go_wp2_with (go_at_call 23; refine (rrows_any _).mono ?_; rintro e wR ⟨⟨bR, rfl, hge, hR⟩, hblR⟩; obtain ⟨hlt, hRk⟩ := hR; obtain ⟨x0, x1, x2, x3, x4⟩ := hRk k hk; clear hRk; rw [hs] at x1; rw [hcd] at x2; rw [hf] at x3; rw [hot] at x4; obtain ⟨hcw, hfw, hsw⟩ := below_ifs hblR; (try simp only [World.size_alloc, World.size_setCell, World.size_drew, size_drewN_] at hcw hfw hsw hge))
    refine wp_region_below (by kernel_rfl) (by kernel_rfl) (fun hcr hfr => ?_)
    (try simp only [World.size_alloc, World.size_setCell, World.size_drew, size_drewN_] at hcr hfr)
    repeat (go_big_quiet_step ((first | (go_at_call 24; first | with_reducible exact Calls.regrown_of (c1 _) | with_reducible exact regrown_k (c1 _) | with_reducible exact regrown_1 (c1 _) | with_reducible exact regrown_a (c1 _)) | (go_at_call 24; first | with_reducible exact Calls.regrown_of (c2 _) | with_reducible exact regrown_k (c2 _) | with_reducible exact regrown_1 (c2 _) | with_reducible exact regrown_a (c2 _)) | (go_at_call 26; first | with_reducible exact Calls.regrown_of (c3 _) | with_reducible exact regrown_k (c3 _) | with_reducible exact regrown_1 (c3 _) | with_reducible exact regrown_a (c3 _)) | (go_at_call 25; first | with_reducible exact Calls.regrown_of (bits_any m 0 6 20 (by decide) _) | with_reducible exact regrown_k (bits_any m 0 6 20 (by decide) _) | with_reducible exact regrown_1 (bits_any m 0 6 20 (by decide) _) | with_reducible exact regrown_a (bits_any m 0 6 20 (by decide) _)))))
    refine wpQuiet_nil ?_
    intro w' hbl
    clear hcr hfr
    obtain ⟨hcw, hfw, hsw⟩ := below_ifs hbl; (try simp only [World.size_alloc, World.size_setCell, World.size_drew, size_drewN_] at hcw hfw hsw)
    go_wp2_with fail
    go_returns
    · exact ⟨ret_w (by omega) (by simp), by (repeat (first | with_reducible exact Below.refl _ _ | with_reducible assumption | with_reducible refine below_drewN ?_ _ | with_reducible refine Below.drew ?_ | with_reducible refine below_alloc ?_ _ | (with_reducible refine Below.setCell ?_ (by first | (simp; done) | omega | (simp; omega)) _) | with_reducible refine belows ?_ (by assumption)))⟩
  cases b2
  · go_wp2_with (go_at_call 23; refine (rrows_any _).mono ?_; rintro e wR ⟨⟨bR, rfl, hge, hR⟩, hblR⟩; obtain ⟨hlt, hRk⟩ := hR; obtain ⟨x0, x1, x2, x3, x4⟩ := hRk k hk; clear hRk; rw [hs] at x1; rw [hcd] at x2; rw [hf] at x3; rw [hot] at x4; obtain ⟨hcw, hfw, hsw⟩ := below_ifs hblR; (try simp only [World.size_alloc, World.size_setCell, World.size_drew, size_drewN_] at hcw hfw hsw hge))
    refine wp_region_below (by kernel_rfl) (by kernel_rfl) (fun hcr hfr => ?_)
    (try simp only [World.size_alloc, World.size_setCell, World.size_drew, size_drewN_] at hcr hfr)
    repeat (go_big_quiet_step ((first | (go_at_call 24; first | with_reducible exact Calls.regrown_of (c1 _) | with_reducible exact regrown_k (c1 _) | with_reducible exact regrown_1 (c1 _) | with_reducible exact regrown_a (c1 _)) | (go_at_call 24; first | with_reducible exact Calls.regrown_of (c2 _) | with_reducible exact regrown_k (c2 _) | with_reducible exact regrown_1 (c2 _) | with_reducible exact regrown_a (c2 _)) | (go_at_call 26; first | with_reducible exact Calls.regrown_of (c3 _) | with_reducible exact regrown_k (c3 _) | with_reducible exact regrown_1 (c3 _) | with_reducible exact regrown_a (c3 _)) | (go_at_call 25; first | with_reducible exact Calls.regrown_of (bits_any m 0 6 20 (by decide) _) | with_reducible exact regrown_k (bits_any m 0 6 20 (by decide) _) | with_reducible exact regrown_1 (bits_any m 0 6 20 (by decide) _) | with_reducible exact regrown_a (bits_any m 0 6 20 (by decide) _)))))
    refine wpQuiet_nil ?_
    intro w' hbl
    clear hcr hfr
    obtain ⟨hcw, hfw, hsw⟩ := below_ifs hbl; (try simp only [World.size_alloc, World.size_setCell, World.size_drew, size_drewN_] at hcw hfw hsw)
    go_wp2_with fail
    go_returns
    · exact ⟨ret_w (by omega) (by simp), by (repeat (first | with_reducible exact Below.refl _ _ | with_reducible assumption | with_reducible refine below_drewN ?_ _ | with_reducible refine Below.drew ?_ | with_reducible refine below_alloc ?_ _ | (with_reducible refine Below.setCell ?_ (by first | (simp; done) | omega | (simp; omega)) _) | with_reducible refine belows ?_ (by assumption)))⟩
  cases b3
  · go_wp2_with (go_at_call 23; refine (rrows_any _).mono ?_; rintro e wR ⟨⟨bR, rfl, hge, hR⟩, hblR⟩; obtain ⟨hlt, hRk⟩ := hR; obtain ⟨x0, x1, x2, x3, x4⟩ := hRk k hk; clear hRk; rw [hs] at x1; rw [hcd] at x2; rw [hf] at x3; rw [hot] at x4; obtain ⟨hcw, hfw, hsw⟩ := below_ifs hblR; (try simp only [World.size_alloc, World.size_setCell, World.size_drew, size_drewN_] at hcw hfw hsw hge))
    refine wp_region_below (by kernel_rfl) (by kernel_rfl) (fun hcr hfr => ?_)
    (try simp only [World.size_alloc, World.size_setCell, World.size_drew, size_drewN_] at hcr hfr)
    repeat (go_big_quiet_step ((first | (go_at_call 24; first | with_reducible exact Calls.regrown_of (c1 _) | with_reducible exact regrown_k (c1 _) | with_reducible exact regrown_1 (c1 _) | with_reducible exact regrown_a (c1 _)) | (go_at_call 24; first | with_reducible exact Calls.regrown_of (c2 _) | with_reducible exact regrown_k (c2 _) | with_reducible exact regrown_1 (c2 _) | with_reducible exact regrown_a (c2 _)) | (go_at_call 26; first | with_reducible exact Calls.regrown_of (c3 _) | with_reducible exact regrown_k (c3 _) | with_reducible exact regrown_1 (c3 _) | with_reducible exact regrown_a (c3 _)) | (go_at_call 25; first | with_reducible exact Calls.regrown_of (bits_any m 0 6 20 (by decide) _) | with_reducible exact regrown_k (bits_any m 0 6 20 (by decide) _) | with_reducible exact regrown_1 (bits_any m 0 6 20 (by decide) _) | with_reducible exact regrown_a (bits_any m 0 6 20 (by decide) _)))))
    refine wpQuiet_nil ?_
    intro w' hbl
    clear hcr hfr
    obtain ⟨hcw, hfw, hsw⟩ := below_ifs hbl; (try simp only [World.size_alloc, World.size_setCell, World.size_drew, size_drewN_] at hcw hfw hsw)
    go_wp2_with fail
    go_returns
    · exact ⟨ret_w (by omega) (by simp), by (repeat (first | with_reducible exact Below.refl _ _ | with_reducible assumption | with_reducible refine below_drewN ?_ _ | with_reducible refine Below.drew ?_ | with_reducible refine below_alloc ?_ _ | (with_reducible refine Below.setCell ?_ (by first | (simp; done) | omega | (simp; omega)) _) | with_reducible refine belows ?_ (by assumption)))⟩
  go_wp2_with (go_at_call 23; refine (rrows_any _).mono ?_; rintro e wR ⟨⟨bR, rfl, hge, hR⟩, hblR⟩; obtain ⟨hlt, hRk⟩ := hR; obtain ⟨x0, x1, x2, x3, x4⟩ := hRk k hk; clear hRk; rw [hs] at x1; rw [hcd] at x2; rw [hf] at x3; rw [hot] at x4; obtain ⟨hcw, hfw, hsw⟩ := below_ifs hblR; (try simp only [World.size_alloc, World.size_setCell, World.size_drew, size_drewN_] at hcw hfw hsw hge))
  refine wp_region_below (by kernel_rfl) (by kernel_rfl) (fun hcr hfr => ?_)
  (try simp only [World.size_alloc, World.size_setCell, World.size_drew, size_drewN_] at hcr hfr)
  repeat (go_big_quiet_step ((first | (go_at_call 24; first | with_reducible exact Calls.regrown_of (c1 _) | with_reducible exact regrown_k (c1 _) | with_reducible exact regrown_1 (c1 _) | with_reducible exact regrown_a (c1 _)) | (go_at_call 24; first | with_reducible exact Calls.regrown_of (c2 _) | with_reducible exact regrown_k (c2 _) | with_reducible exact regrown_1 (c2 _) | with_reducible exact regrown_a (c2 _)) | (go_at_call 26; first | with_reducible exact Calls.regrown_of (c3 _) | with_reducible exact regrown_k (c3 _) | with_reducible exact regrown_1 (c3 _) | with_reducible exact regrown_a (c3 _)) | (go_at_call 25; first | with_reducible exact Calls.regrown_of (bits_any m 0 6 20 (by decide) _) | with_reducible exact regrown_k (bits_any m 0 6 20 (by decide) _) | with_reducible exact regrown_1 (bits_any m 0 6 20 (by decide) _) | with_reducible exact regrown_a (bits_any m 0 6 20 (by decide) _)))))
  refine wpQuiet_nil ?_
  intro w' hbl
  clear hcr hfr
  obtain ⟨hcw, hfw, hsw⟩ := below_ifs hbl; (try simp only [World.size_alloc, World.size_setCell, World.size_drew, size_drewN_] at hcw hfw hsw)
  go_wp2_with fail
  go_returns
  · exact ⟨ret_w (by omega) (by simp), by (repeat (first | with_reducible exact Below.refl _ _ | with_reducible assumption | with_reducible refine below_drewN ?_ _ | with_reducible refine Below.drew ?_ | with_reducible refine below_alloc ?_ _ | (with_reducible refine Below.setCell ?_ (by first | (simp; done) | omega | (simp; omega)) _) | with_reducible refine belows ?_ (by assumption)))⟩
set_option maxHeartbeats 4000000 in
set_option maxRecDepth 100000 in
theorem renc_S (k : Nat) (hk : k < 69) (cd f ot : Int) (hs : ((rowAt k).sh : Int) = 83) (hcd : U (rowAt k).cd = cd) (hf : U (rowAt k).f = f) (hot : U (rowAt k).ot = ot) (D A B : Int) (m : BitVec 64) (b1 b2 b3 : Bool)
    (c1 : ∀ w : World, Calls Try.prog 24 #[.int .i64 A] w fun e w' => e = .returned (.bool b1) ∧ Below w.heap.size w w')
    (c2 : ∀ w : World, Calls Try.prog 24 #[.int .i64 B] w fun e w' => e = .returned (.bool b2) ∧ Below w.heap.size w w')
    (c3 : ∀ w : World, Calls Try.prog 26 #[.int .i64 (S m), .int .i64 12, .bool true] w fun e w' => e = .returned (.bool b3) ∧ Below w.heap.size w w') (w : World) :
    Calls Try.prog 8 #[.agg #[.int .i64 ((k : Int) + 1), .int .i64 D, .int .i64 A, .int .i64 B, .int .i64 (S m)]] w fun e w' => e = .returned (.tuple #[.int .u32 ((cd + f * 4096 + A % 32 * 32768 + B % 32 * 1048576 + bitI m 0 5 7 + bitI m 5 7 25) % 4294967296), .bool (b1 && b2 && b3)]) ∧ Below w.heap.size w w' := by
  have d1 : decide ((k : Int) + 1 < 1) = false := decide_eq_false (by omega)
  have d2 : decide (69 < (k : Int) + 1) = false := decide_eq_false (by omega)
  go_enter Try.func8, Try.ntmps8
  cases b1
  · go_wp2_with (go_at_call 23; refine (rrows_any _).mono ?_; rintro e wR ⟨⟨bR, rfl, hge, hR⟩, hblR⟩; obtain ⟨hlt, hRk⟩ := hR; obtain ⟨x0, x1, x2, x3, x4⟩ := hRk k hk; clear hRk; rw [hs] at x1; rw [hcd] at x2; rw [hf] at x3; rw [hot] at x4; obtain ⟨hcw, hfw, hsw⟩ := below_ifs hblR; (try simp only [World.size_alloc, World.size_setCell, World.size_drew, size_drewN_] at hcw hfw hsw hge))
    refine wp_region_below (by kernel_rfl) (by kernel_rfl) (fun hcr hfr => ?_)
    (try simp only [World.size_alloc, World.size_setCell, World.size_drew, size_drewN_] at hcr hfr)
    repeat (go_big_quiet_step ((first | (go_at_call 24; first | with_reducible exact Calls.regrown_of (c1 _) | with_reducible exact regrown_k (c1 _) | with_reducible exact regrown_1 (c1 _) | with_reducible exact regrown_a (c1 _)) | (go_at_call 24; first | with_reducible exact Calls.regrown_of (c2 _) | with_reducible exact regrown_k (c2 _) | with_reducible exact regrown_1 (c2 _) | with_reducible exact regrown_a (c2 _)) | (go_at_call 26; first | with_reducible exact Calls.regrown_of (c3 _) | with_reducible exact regrown_k (c3 _) | with_reducible exact regrown_1 (c3 _) | with_reducible exact regrown_a (c3 _)) | (go_at_call 25; first | with_reducible exact Calls.regrown_of (bits_any m 0 5 7 (by decide) _) | with_reducible exact regrown_k (bits_any m 0 5 7 (by decide) _) | with_reducible exact regrown_1 (bits_any m 0 5 7 (by decide) _) | with_reducible exact regrown_a (bits_any m 0 5 7 (by decide) _)) | (go_at_call 25; first | with_reducible exact Calls.regrown_of (bits_any m 5 7 25 (by decide) _) | with_reducible exact regrown_k (bits_any m 5 7 25 (by decide) _) | with_reducible exact regrown_1 (bits_any m 5 7 25 (by decide) _) | with_reducible exact regrown_a (bits_any m 5 7 25 (by decide) _)))))
    refine wpQuiet_nil ?_
    intro w' hbl
    clear hcr hfr
    obtain ⟨hcw, hfw, hsw⟩ := below_ifs hbl; (try simp only [World.size_alloc, World.size_setCell, World.size_drew, size_drewN_] at hcw hfw hsw)
    go_wp2_with fail
    go_returns
    · exact ⟨ret_w (by omega) (by simp), by (repeat (first | with_reducible exact Below.refl _ _ | with_reducible assumption | with_reducible refine below_drewN ?_ _ | with_reducible refine Below.drew ?_ | with_reducible refine below_alloc ?_ _ | (with_reducible refine Below.setCell ?_ (by first | (simp; done) | omega | (simp; omega)) _) | with_reducible refine belows ?_ (by assumption)))⟩
  cases b2
  · go_wp2_with (go_at_call 23; refine (rrows_any _).mono ?_; rintro e wR ⟨⟨bR, rfl, hge, hR⟩, hblR⟩; obtain ⟨hlt, hRk⟩ := hR; obtain ⟨x0, x1, x2, x3, x4⟩ := hRk k hk; clear hRk; rw [hs] at x1; rw [hcd] at x2; rw [hf] at x3; rw [hot] at x4; obtain ⟨hcw, hfw, hsw⟩ := below_ifs hblR; (try simp only [World.size_alloc, World.size_setCell, World.size_drew, size_drewN_] at hcw hfw hsw hge))
    refine wp_region_below (by kernel_rfl) (by kernel_rfl) (fun hcr hfr => ?_)
    (try simp only [World.size_alloc, World.size_setCell, World.size_drew, size_drewN_] at hcr hfr)
    repeat (go_big_quiet_step ((first | (go_at_call 24; first | with_reducible exact Calls.regrown_of (c1 _) | with_reducible exact regrown_k (c1 _) | with_reducible exact regrown_1 (c1 _) | with_reducible exact regrown_a (c1 _)) | (go_at_call 24; first | with_reducible exact Calls.regrown_of (c2 _) | with_reducible exact regrown_k (c2 _) | with_reducible exact regrown_1 (c2 _) | with_reducible exact regrown_a (c2 _)) | (go_at_call 26; first | with_reducible exact Calls.regrown_of (c3 _) | with_reducible exact regrown_k (c3 _) | with_reducible exact regrown_1 (c3 _) | with_reducible exact regrown_a (c3 _)) | (go_at_call 25; first | with_reducible exact Calls.regrown_of (bits_any m 0 5 7 (by decide) _) | with_reducible exact regrown_k (bits_any m 0 5 7 (by decide) _) | with_reducible exact regrown_1 (bits_any m 0 5 7 (by decide) _) | with_reducible exact regrown_a (bits_any m 0 5 7 (by decide) _)) | (go_at_call 25; first | with_reducible exact Calls.regrown_of (bits_any m 5 7 25 (by decide) _) | with_reducible exact regrown_k (bits_any m 5 7 25 (by decide) _) | with_reducible exact regrown_1 (bits_any m 5 7 25 (by decide) _) | with_reducible exact regrown_a (bits_any m 5 7 25 (by decide) _)))))
    refine wpQuiet_nil ?_
    intro w' hbl
    clear hcr hfr
    obtain ⟨hcw, hfw, hsw⟩ := below_ifs hbl; (try simp only [World.size_alloc, World.size_setCell, World.size_drew, size_drewN_] at hcw hfw hsw)
    go_wp2_with fail
    go_returns
    · exact ⟨ret_w (by omega) (by simp), by (repeat (first | with_reducible exact Below.refl _ _ | with_reducible assumption | with_reducible refine below_drewN ?_ _ | with_reducible refine Below.drew ?_ | with_reducible refine below_alloc ?_ _ | (with_reducible refine Below.setCell ?_ (by first | (simp; done) | omega | (simp; omega)) _) | with_reducible refine belows ?_ (by assumption)))⟩
  cases b3
  · go_wp2_with (go_at_call 23; refine (rrows_any _).mono ?_; rintro e wR ⟨⟨bR, rfl, hge, hR⟩, hblR⟩; obtain ⟨hlt, hRk⟩ := hR; obtain ⟨x0, x1, x2, x3, x4⟩ := hRk k hk; clear hRk; rw [hs] at x1; rw [hcd] at x2; rw [hf] at x3; rw [hot] at x4; obtain ⟨hcw, hfw, hsw⟩ := below_ifs hblR; (try simp only [World.size_alloc, World.size_setCell, World.size_drew, size_drewN_] at hcw hfw hsw hge))
    refine wp_region_below (by kernel_rfl) (by kernel_rfl) (fun hcr hfr => ?_)
    (try simp only [World.size_alloc, World.size_setCell, World.size_drew, size_drewN_] at hcr hfr)
    repeat (go_big_quiet_step ((first | (go_at_call 24; first | with_reducible exact Calls.regrown_of (c1 _) | with_reducible exact regrown_k (c1 _) | with_reducible exact regrown_1 (c1 _) | with_reducible exact regrown_a (c1 _)) | (go_at_call 24; first | with_reducible exact Calls.regrown_of (c2 _) | with_reducible exact regrown_k (c2 _) | with_reducible exact regrown_1 (c2 _) | with_reducible exact regrown_a (c2 _)) | (go_at_call 26; first | with_reducible exact Calls.regrown_of (c3 _) | with_reducible exact regrown_k (c3 _) | with_reducible exact regrown_1 (c3 _) | with_reducible exact regrown_a (c3 _)) | (go_at_call 25; first | with_reducible exact Calls.regrown_of (bits_any m 0 5 7 (by decide) _) | with_reducible exact regrown_k (bits_any m 0 5 7 (by decide) _) | with_reducible exact regrown_1 (bits_any m 0 5 7 (by decide) _) | with_reducible exact regrown_a (bits_any m 0 5 7 (by decide) _)) | (go_at_call 25; first | with_reducible exact Calls.regrown_of (bits_any m 5 7 25 (by decide) _) | with_reducible exact regrown_k (bits_any m 5 7 25 (by decide) _) | with_reducible exact regrown_1 (bits_any m 5 7 25 (by decide) _) | with_reducible exact regrown_a (bits_any m 5 7 25 (by decide) _)))))
    refine wpQuiet_nil ?_
    intro w' hbl
    clear hcr hfr
    obtain ⟨hcw, hfw, hsw⟩ := below_ifs hbl; (try simp only [World.size_alloc, World.size_setCell, World.size_drew, size_drewN_] at hcw hfw hsw)
    go_wp2_with fail
    go_returns
    · exact ⟨ret_w (by omega) (by simp), by (repeat (first | with_reducible exact Below.refl _ _ | with_reducible assumption | with_reducible refine below_drewN ?_ _ | with_reducible refine Below.drew ?_ | with_reducible refine below_alloc ?_ _ | (with_reducible refine Below.setCell ?_ (by first | (simp; done) | omega | (simp; omega)) _) | with_reducible refine belows ?_ (by assumption)))⟩
  go_wp2_with (go_at_call 23; refine (rrows_any _).mono ?_; rintro e wR ⟨⟨bR, rfl, hge, hR⟩, hblR⟩; obtain ⟨hlt, hRk⟩ := hR; obtain ⟨x0, x1, x2, x3, x4⟩ := hRk k hk; clear hRk; rw [hs] at x1; rw [hcd] at x2; rw [hf] at x3; rw [hot] at x4; obtain ⟨hcw, hfw, hsw⟩ := below_ifs hblR; (try simp only [World.size_alloc, World.size_setCell, World.size_drew, size_drewN_] at hcw hfw hsw hge))
  refine wp_region_below (by kernel_rfl) (by kernel_rfl) (fun hcr hfr => ?_)
  (try simp only [World.size_alloc, World.size_setCell, World.size_drew, size_drewN_] at hcr hfr)
  repeat (go_big_quiet_step ((first | (go_at_call 24; first | with_reducible exact Calls.regrown_of (c1 _) | with_reducible exact regrown_k (c1 _) | with_reducible exact regrown_1 (c1 _) | with_reducible exact regrown_a (c1 _)) | (go_at_call 24; first | with_reducible exact Calls.regrown_of (c2 _) | with_reducible exact regrown_k (c2 _) | with_reducible exact regrown_1 (c2 _) | with_reducible exact regrown_a (c2 _)) | (go_at_call 26; first | with_reducible exact Calls.regrown_of (c3 _) | with_reducible exact regrown_k (c3 _) | with_reducible exact regrown_1 (c3 _) | with_reducible exact regrown_a (c3 _)) | (go_at_call 25; first | with_reducible exact Calls.regrown_of (bits_any m 0 5 7 (by decide) _) | with_reducible exact regrown_k (bits_any m 0 5 7 (by decide) _) | with_reducible exact regrown_1 (bits_any m 0 5 7 (by decide) _) | with_reducible exact regrown_a (bits_any m 0 5 7 (by decide) _)) | (go_at_call 25; first | with_reducible exact Calls.regrown_of (bits_any m 5 7 25 (by decide) _) | with_reducible exact regrown_k (bits_any m 5 7 25 (by decide) _) | with_reducible exact regrown_1 (bits_any m 5 7 25 (by decide) _) | with_reducible exact regrown_a (bits_any m 5 7 25 (by decide) _)))))
  refine wpQuiet_nil ?_
  intro w' hbl
  clear hcr hfr
  obtain ⟨hcw, hfw, hsw⟩ := below_ifs hbl; (try simp only [World.size_alloc, World.size_setCell, World.size_drew, size_drewN_] at hcw hfw hsw)
  go_wp2_with fail
  go_returns
  · exact ⟨ret_w (by omega) (by simp), by (repeat (first | with_reducible exact Below.refl _ _ | with_reducible assumption | with_reducible refine below_drewN ?_ _ | with_reducible refine Below.drew ?_ | with_reducible refine below_alloc ?_ _ | (with_reducible refine Below.setCell ?_ (by first | (simp; done) | omega | (simp; omega)) _) | with_reducible refine belows ?_ (by assumption)))⟩
set_option maxHeartbeats 4000000 in
set_option maxRecDepth 100000 in
theorem renc_B (k : Nat) (hk : k < 69) (cd f ot : Int) (hs : ((rowAt k).sh : Int) = 66) (hcd : U (rowAt k).cd = cd) (hf : U (rowAt k).f = f) (hot : U (rowAt k).ot = ot) (D A B : Int) (m : BitVec 64) (b1 b2 b3 b4 : Bool)
    (c1 : ∀ w : World, Calls Try.prog 24 #[.int .i64 A] w fun e w' => e = .returned (.bool b1) ∧ Below w.heap.size w w')
    (c2 : ∀ w : World, Calls Try.prog 24 #[.int .i64 B] w fun e w' => e = .returned (.bool b2) ∧ Below w.heap.size w w')
    (c3 : ∀ w : World, Calls Try.prog 26 #[.int .i64 (S m), .int .i64 13, .bool true] w fun e w' => e = .returned (.bool b3) ∧ Below w.heap.size w w')
    (hz : ((S m).tmod 2 == 0) = b4) (w : World) :
    Calls Try.prog 8 #[.agg #[.int .i64 ((k : Int) + 1), .int .i64 D, .int .i64 A, .int .i64 B, .int .i64 (S m)]] w fun e w' => e = .returned (.tuple #[.int .u32 ((cd + f * 4096 + A % 32 * 32768 + B % 32 * 1048576 + bitI m 1 4 8 + bitI m 5 6 25 + bitI m 11 1 7 + bitI m 12 1 31) % 4294967296), .bool (b1 && b2 && b3 && b4)]) ∧ Below w.heap.size w w' := by
  have d1 : decide ((k : Int) + 1 < 1) = false := decide_eq_false (by omega)
  have d2 : decide (69 < (k : Int) + 1) = false := decide_eq_false (by omega)
  go_enter Try.func8, Try.ntmps8
  cases b1
  · go_wp2_with (go_at_call 23; refine (rrows_any _).mono ?_; rintro e wR ⟨⟨bR, rfl, hge, hR⟩, hblR⟩; obtain ⟨hlt, hRk⟩ := hR; obtain ⟨x0, x1, x2, x3, x4⟩ := hRk k hk; clear hRk; rw [hs] at x1; rw [hcd] at x2; rw [hf] at x3; rw [hot] at x4; obtain ⟨hcw, hfw, hsw⟩ := below_ifs hblR; (try simp only [World.size_alloc, World.size_setCell, World.size_drew, size_drewN_] at hcw hfw hsw hge))
    refine wp_region_below (by kernel_rfl) (by kernel_rfl) (fun hcr hfr => ?_)
    (try simp only [World.size_alloc, World.size_setCell, World.size_drew, size_drewN_] at hcr hfr)
    repeat (go_big_quiet_step ((first | (go_at_call 24; first | with_reducible exact Calls.regrown_of (c1 _) | with_reducible exact regrown_k (c1 _) | with_reducible exact regrown_1 (c1 _) | with_reducible exact regrown_a (c1 _)) | (go_at_call 24; first | with_reducible exact Calls.regrown_of (c2 _) | with_reducible exact regrown_k (c2 _) | with_reducible exact regrown_1 (c2 _) | with_reducible exact regrown_a (c2 _)) | (go_at_call 26; first | with_reducible exact Calls.regrown_of (c3 _) | with_reducible exact regrown_k (c3 _) | with_reducible exact regrown_1 (c3 _) | with_reducible exact regrown_a (c3 _)) | (go_at_call 25; first | with_reducible exact Calls.regrown_of (bits_any m 1 4 8 (by decide) _) | with_reducible exact regrown_k (bits_any m 1 4 8 (by decide) _) | with_reducible exact regrown_1 (bits_any m 1 4 8 (by decide) _) | with_reducible exact regrown_a (bits_any m 1 4 8 (by decide) _)) | (go_at_call 25; first | with_reducible exact Calls.regrown_of (bits_any m 5 6 25 (by decide) _) | with_reducible exact regrown_k (bits_any m 5 6 25 (by decide) _) | with_reducible exact regrown_1 (bits_any m 5 6 25 (by decide) _) | with_reducible exact regrown_a (bits_any m 5 6 25 (by decide) _)) | (go_at_call 25; first | with_reducible exact Calls.regrown_of (bits_any m 11 1 7 (by decide) _) | with_reducible exact regrown_k (bits_any m 11 1 7 (by decide) _) | with_reducible exact regrown_1 (bits_any m 11 1 7 (by decide) _) | with_reducible exact regrown_a (bits_any m 11 1 7 (by decide) _)) | (go_at_call 25; first | with_reducible exact Calls.regrown_of (bits_any m 12 1 31 (by decide) _) | with_reducible exact regrown_k (bits_any m 12 1 31 (by decide) _) | with_reducible exact regrown_1 (bits_any m 12 1 31 (by decide) _) | with_reducible exact regrown_a (bits_any m 12 1 31 (by decide) _)))))
    refine wpQuiet_nil ?_
    intro w' hbl
    clear hcr hfr
    obtain ⟨hcw, hfw, hsw⟩ := below_ifs hbl; (try simp only [World.size_alloc, World.size_setCell, World.size_drew, size_drewN_] at hcw hfw hsw)
    go_wp2_with fail
    go_returns
    · exact ⟨ret_w (by omega) (by simp), by (repeat (first | with_reducible exact Below.refl _ _ | with_reducible assumption | with_reducible refine below_drewN ?_ _ | with_reducible refine Below.drew ?_ | with_reducible refine below_alloc ?_ _ | (with_reducible refine Below.setCell ?_ (by first | (simp; done) | omega | (simp; omega)) _) | with_reducible refine belows ?_ (by assumption)))⟩
  cases b2
  · go_wp2_with (go_at_call 23; refine (rrows_any _).mono ?_; rintro e wR ⟨⟨bR, rfl, hge, hR⟩, hblR⟩; obtain ⟨hlt, hRk⟩ := hR; obtain ⟨x0, x1, x2, x3, x4⟩ := hRk k hk; clear hRk; rw [hs] at x1; rw [hcd] at x2; rw [hf] at x3; rw [hot] at x4; obtain ⟨hcw, hfw, hsw⟩ := below_ifs hblR; (try simp only [World.size_alloc, World.size_setCell, World.size_drew, size_drewN_] at hcw hfw hsw hge))
    refine wp_region_below (by kernel_rfl) (by kernel_rfl) (fun hcr hfr => ?_)
    (try simp only [World.size_alloc, World.size_setCell, World.size_drew, size_drewN_] at hcr hfr)
    repeat (go_big_quiet_step ((first | (go_at_call 24; first | with_reducible exact Calls.regrown_of (c1 _) | with_reducible exact regrown_k (c1 _) | with_reducible exact regrown_1 (c1 _) | with_reducible exact regrown_a (c1 _)) | (go_at_call 24; first | with_reducible exact Calls.regrown_of (c2 _) | with_reducible exact regrown_k (c2 _) | with_reducible exact regrown_1 (c2 _) | with_reducible exact regrown_a (c2 _)) | (go_at_call 26; first | with_reducible exact Calls.regrown_of (c3 _) | with_reducible exact regrown_k (c3 _) | with_reducible exact regrown_1 (c3 _) | with_reducible exact regrown_a (c3 _)) | (go_at_call 25; first | with_reducible exact Calls.regrown_of (bits_any m 1 4 8 (by decide) _) | with_reducible exact regrown_k (bits_any m 1 4 8 (by decide) _) | with_reducible exact regrown_1 (bits_any m 1 4 8 (by decide) _) | with_reducible exact regrown_a (bits_any m 1 4 8 (by decide) _)) | (go_at_call 25; first | with_reducible exact Calls.regrown_of (bits_any m 5 6 25 (by decide) _) | with_reducible exact regrown_k (bits_any m 5 6 25 (by decide) _) | with_reducible exact regrown_1 (bits_any m 5 6 25 (by decide) _) | with_reducible exact regrown_a (bits_any m 5 6 25 (by decide) _)) | (go_at_call 25; first | with_reducible exact Calls.regrown_of (bits_any m 11 1 7 (by decide) _) | with_reducible exact regrown_k (bits_any m 11 1 7 (by decide) _) | with_reducible exact regrown_1 (bits_any m 11 1 7 (by decide) _) | with_reducible exact regrown_a (bits_any m 11 1 7 (by decide) _)) | (go_at_call 25; first | with_reducible exact Calls.regrown_of (bits_any m 12 1 31 (by decide) _) | with_reducible exact regrown_k (bits_any m 12 1 31 (by decide) _) | with_reducible exact regrown_1 (bits_any m 12 1 31 (by decide) _) | with_reducible exact regrown_a (bits_any m 12 1 31 (by decide) _)))))
    refine wpQuiet_nil ?_
    intro w' hbl
    clear hcr hfr
    obtain ⟨hcw, hfw, hsw⟩ := below_ifs hbl; (try simp only [World.size_alloc, World.size_setCell, World.size_drew, size_drewN_] at hcw hfw hsw)
    go_wp2_with fail
    go_returns
    · exact ⟨ret_w (by omega) (by simp), by (repeat (first | with_reducible exact Below.refl _ _ | with_reducible assumption | with_reducible refine below_drewN ?_ _ | with_reducible refine Below.drew ?_ | with_reducible refine below_alloc ?_ _ | (with_reducible refine Below.setCell ?_ (by first | (simp; done) | omega | (simp; omega)) _) | with_reducible refine belows ?_ (by assumption)))⟩
  cases b3
  · go_wp2_with (go_at_call 23; refine (rrows_any _).mono ?_; rintro e wR ⟨⟨bR, rfl, hge, hR⟩, hblR⟩; obtain ⟨hlt, hRk⟩ := hR; obtain ⟨x0, x1, x2, x3, x4⟩ := hRk k hk; clear hRk; rw [hs] at x1; rw [hcd] at x2; rw [hf] at x3; rw [hot] at x4; obtain ⟨hcw, hfw, hsw⟩ := below_ifs hblR; (try simp only [World.size_alloc, World.size_setCell, World.size_drew, size_drewN_] at hcw hfw hsw hge))
    refine wp_region_below (by kernel_rfl) (by kernel_rfl) (fun hcr hfr => ?_)
    (try simp only [World.size_alloc, World.size_setCell, World.size_drew, size_drewN_] at hcr hfr)
    repeat (go_big_quiet_step ((first | (go_at_call 24; first | with_reducible exact Calls.regrown_of (c1 _) | with_reducible exact regrown_k (c1 _) | with_reducible exact regrown_1 (c1 _) | with_reducible exact regrown_a (c1 _)) | (go_at_call 24; first | with_reducible exact Calls.regrown_of (c2 _) | with_reducible exact regrown_k (c2 _) | with_reducible exact regrown_1 (c2 _) | with_reducible exact regrown_a (c2 _)) | (go_at_call 26; first | with_reducible exact Calls.regrown_of (c3 _) | with_reducible exact regrown_k (c3 _) | with_reducible exact regrown_1 (c3 _) | with_reducible exact regrown_a (c3 _)) | (go_at_call 25; first | with_reducible exact Calls.regrown_of (bits_any m 1 4 8 (by decide) _) | with_reducible exact regrown_k (bits_any m 1 4 8 (by decide) _) | with_reducible exact regrown_1 (bits_any m 1 4 8 (by decide) _) | with_reducible exact regrown_a (bits_any m 1 4 8 (by decide) _)) | (go_at_call 25; first | with_reducible exact Calls.regrown_of (bits_any m 5 6 25 (by decide) _) | with_reducible exact regrown_k (bits_any m 5 6 25 (by decide) _) | with_reducible exact regrown_1 (bits_any m 5 6 25 (by decide) _) | with_reducible exact regrown_a (bits_any m 5 6 25 (by decide) _)) | (go_at_call 25; first | with_reducible exact Calls.regrown_of (bits_any m 11 1 7 (by decide) _) | with_reducible exact regrown_k (bits_any m 11 1 7 (by decide) _) | with_reducible exact regrown_1 (bits_any m 11 1 7 (by decide) _) | with_reducible exact regrown_a (bits_any m 11 1 7 (by decide) _)) | (go_at_call 25; first | with_reducible exact Calls.regrown_of (bits_any m 12 1 31 (by decide) _) | with_reducible exact regrown_k (bits_any m 12 1 31 (by decide) _) | with_reducible exact regrown_1 (bits_any m 12 1 31 (by decide) _) | with_reducible exact regrown_a (bits_any m 12 1 31 (by decide) _)))))
    refine wpQuiet_nil ?_
    intro w' hbl
    clear hcr hfr
    obtain ⟨hcw, hfw, hsw⟩ := below_ifs hbl; (try simp only [World.size_alloc, World.size_setCell, World.size_drew, size_drewN_] at hcw hfw hsw)
    go_wp2_with fail
    go_returns
    · exact ⟨ret_w (by omega) (by simp), by (repeat (first | with_reducible exact Below.refl _ _ | with_reducible assumption | with_reducible refine below_drewN ?_ _ | with_reducible refine Below.drew ?_ | with_reducible refine below_alloc ?_ _ | (with_reducible refine Below.setCell ?_ (by first | (simp; done) | omega | (simp; omega)) _) | with_reducible refine belows ?_ (by assumption)))⟩
  cases b4
  · go_wp2_with (go_at_call 23; refine (rrows_any _).mono ?_; rintro e wR ⟨⟨bR, rfl, hge, hR⟩, hblR⟩; obtain ⟨hlt, hRk⟩ := hR; obtain ⟨x0, x1, x2, x3, x4⟩ := hRk k hk; clear hRk; rw [hs] at x1; rw [hcd] at x2; rw [hf] at x3; rw [hot] at x4; obtain ⟨hcw, hfw, hsw⟩ := below_ifs hblR; (try simp only [World.size_alloc, World.size_setCell, World.size_drew, size_drewN_] at hcw hfw hsw hge))
    refine wp_region_below (by kernel_rfl) (by kernel_rfl) (fun hcr hfr => ?_)
    (try simp only [World.size_alloc, World.size_setCell, World.size_drew, size_drewN_] at hcr hfr)
    repeat (go_big_quiet_step ((first | (go_at_call 24; first | with_reducible exact Calls.regrown_of (c1 _) | with_reducible exact regrown_k (c1 _) | with_reducible exact regrown_1 (c1 _) | with_reducible exact regrown_a (c1 _)) | (go_at_call 24; first | with_reducible exact Calls.regrown_of (c2 _) | with_reducible exact regrown_k (c2 _) | with_reducible exact regrown_1 (c2 _) | with_reducible exact regrown_a (c2 _)) | (go_at_call 26; first | with_reducible exact Calls.regrown_of (c3 _) | with_reducible exact regrown_k (c3 _) | with_reducible exact regrown_1 (c3 _) | with_reducible exact regrown_a (c3 _)) | (go_at_call 25; first | with_reducible exact Calls.regrown_of (bits_any m 1 4 8 (by decide) _) | with_reducible exact regrown_k (bits_any m 1 4 8 (by decide) _) | with_reducible exact regrown_1 (bits_any m 1 4 8 (by decide) _) | with_reducible exact regrown_a (bits_any m 1 4 8 (by decide) _)) | (go_at_call 25; first | with_reducible exact Calls.regrown_of (bits_any m 5 6 25 (by decide) _) | with_reducible exact regrown_k (bits_any m 5 6 25 (by decide) _) | with_reducible exact regrown_1 (bits_any m 5 6 25 (by decide) _) | with_reducible exact regrown_a (bits_any m 5 6 25 (by decide) _)) | (go_at_call 25; first | with_reducible exact Calls.regrown_of (bits_any m 11 1 7 (by decide) _) | with_reducible exact regrown_k (bits_any m 11 1 7 (by decide) _) | with_reducible exact regrown_1 (bits_any m 11 1 7 (by decide) _) | with_reducible exact regrown_a (bits_any m 11 1 7 (by decide) _)) | (go_at_call 25; first | with_reducible exact Calls.regrown_of (bits_any m 12 1 31 (by decide) _) | with_reducible exact regrown_k (bits_any m 12 1 31 (by decide) _) | with_reducible exact regrown_1 (bits_any m 12 1 31 (by decide) _) | with_reducible exact regrown_a (bits_any m 12 1 31 (by decide) _)))))
    refine wpQuiet_nil ?_
    intro w' hbl
    clear hcr hfr
    obtain ⟨hcw, hfw, hsw⟩ := below_ifs hbl; (try simp only [World.size_alloc, World.size_setCell, World.size_drew, size_drewN_] at hcw hfw hsw)
    go_wp2_with fail
    go_returns
    · exact ⟨ret_w (by omega) (by simp), by (repeat (first | with_reducible exact Below.refl _ _ | with_reducible assumption | with_reducible refine below_drewN ?_ _ | with_reducible refine Below.drew ?_ | with_reducible refine below_alloc ?_ _ | (with_reducible refine Below.setCell ?_ (by first | (simp; done) | omega | (simp; omega)) _) | with_reducible refine belows ?_ (by assumption)))⟩
  go_wp2_with (go_at_call 23; refine (rrows_any _).mono ?_; rintro e wR ⟨⟨bR, rfl, hge, hR⟩, hblR⟩; obtain ⟨hlt, hRk⟩ := hR; obtain ⟨x0, x1, x2, x3, x4⟩ := hRk k hk; clear hRk; rw [hs] at x1; rw [hcd] at x2; rw [hf] at x3; rw [hot] at x4; obtain ⟨hcw, hfw, hsw⟩ := below_ifs hblR; (try simp only [World.size_alloc, World.size_setCell, World.size_drew, size_drewN_] at hcw hfw hsw hge))
  refine wp_region_below (by kernel_rfl) (by kernel_rfl) (fun hcr hfr => ?_)
  (try simp only [World.size_alloc, World.size_setCell, World.size_drew, size_drewN_] at hcr hfr)
  repeat (go_big_quiet_step ((first | (go_at_call 24; first | with_reducible exact Calls.regrown_of (c1 _) | with_reducible exact regrown_k (c1 _) | with_reducible exact regrown_1 (c1 _) | with_reducible exact regrown_a (c1 _)) | (go_at_call 24; first | with_reducible exact Calls.regrown_of (c2 _) | with_reducible exact regrown_k (c2 _) | with_reducible exact regrown_1 (c2 _) | with_reducible exact regrown_a (c2 _)) | (go_at_call 26; first | with_reducible exact Calls.regrown_of (c3 _) | with_reducible exact regrown_k (c3 _) | with_reducible exact regrown_1 (c3 _) | with_reducible exact regrown_a (c3 _)) | (go_at_call 25; first | with_reducible exact Calls.regrown_of (bits_any m 1 4 8 (by decide) _) | with_reducible exact regrown_k (bits_any m 1 4 8 (by decide) _) | with_reducible exact regrown_1 (bits_any m 1 4 8 (by decide) _) | with_reducible exact regrown_a (bits_any m 1 4 8 (by decide) _)) | (go_at_call 25; first | with_reducible exact Calls.regrown_of (bits_any m 5 6 25 (by decide) _) | with_reducible exact regrown_k (bits_any m 5 6 25 (by decide) _) | with_reducible exact regrown_1 (bits_any m 5 6 25 (by decide) _) | with_reducible exact regrown_a (bits_any m 5 6 25 (by decide) _)) | (go_at_call 25; first | with_reducible exact Calls.regrown_of (bits_any m 11 1 7 (by decide) _) | with_reducible exact regrown_k (bits_any m 11 1 7 (by decide) _) | with_reducible exact regrown_1 (bits_any m 11 1 7 (by decide) _) | with_reducible exact regrown_a (bits_any m 11 1 7 (by decide) _)) | (go_at_call 25; first | with_reducible exact Calls.regrown_of (bits_any m 12 1 31 (by decide) _) | with_reducible exact regrown_k (bits_any m 12 1 31 (by decide) _) | with_reducible exact regrown_1 (bits_any m 12 1 31 (by decide) _) | with_reducible exact regrown_a (bits_any m 12 1 31 (by decide) _)))))
  refine wpQuiet_nil ?_
  intro w' hbl
  clear hcr hfr
  obtain ⟨hcw, hfw, hsw⟩ := below_ifs hbl; (try simp only [World.size_alloc, World.size_setCell, World.size_drew, size_drewN_] at hcw hfw hsw)
  go_wp2_with fail
  go_returns
  · exact ⟨ret_w (by omega) (by simp), by (repeat (first | with_reducible exact Below.refl _ _ | with_reducible assumption | with_reducible refine below_drewN ?_ _ | with_reducible refine Below.drew ?_ | with_reducible refine below_alloc ?_ _ | (with_reducible refine Below.setCell ?_ (by first | (simp; done) | omega | (simp; omega)) _) | with_reducible refine belows ?_ (by assumption)))⟩
set_option maxHeartbeats 4000000 in
set_option maxRecDepth 100000 in
theorem renc_U (k : Nat) (hk : k < 69) (cd f ot : Int) (hs : ((rowAt k).sh : Int) = 85) (hcd : U (rowAt k).cd = cd) (hf : U (rowAt k).f = f) (hot : U (rowAt k).ot = ot) (D A B : Int) (m : BitVec 64) (b1 b2 b3 : Bool)
    (c1 : ∀ w : World, Calls Try.prog 24 #[.int .i64 D] w fun e w' => e = .returned (.bool b1) ∧ Below w.heap.size w w')
    (c2 : ∀ w : World, Calls Try.prog 26 #[.int .i64 (S m), .int .i64 32, .bool true] w fun e w' => e = .returned (.bool b2) ∧ Below w.heap.size w w')
    (hz : ((S m).tmod 4096 == 0) = b3) (w : World) :
    Calls Try.prog 8 #[.agg #[.int .i64 ((k : Int) + 1), .int .i64 D, .int .i64 A, .int .i64 B, .int .i64 (S m)]] w fun e w' => e = .returned (.tuple #[.int .u32 ((cd + D % 32 * 128 + bitI m 12 20 12) % 4294967296), .bool (b1 && b2 && b3)]) ∧ Below w.heap.size w w' := by
  have d1 : decide ((k : Int) + 1 < 1) = false := decide_eq_false (by omega)
  have d2 : decide (69 < (k : Int) + 1) = false := decide_eq_false (by omega)
  go_enter Try.func8, Try.ntmps8
  cases b1
  · go_wp2_with (go_at_call 23; refine (rrows_any _).mono ?_; rintro e wR ⟨⟨bR, rfl, hge, hR⟩, hblR⟩; obtain ⟨hlt, hRk⟩ := hR; obtain ⟨x0, x1, x2, x3, x4⟩ := hRk k hk; clear hRk; rw [hs] at x1; rw [hcd] at x2; rw [hf] at x3; rw [hot] at x4; obtain ⟨hcw, hfw, hsw⟩ := below_ifs hblR; (try simp only [World.size_alloc, World.size_setCell, World.size_drew, size_drewN_] at hcw hfw hsw hge))
    refine wp_region_below (by kernel_rfl) (by kernel_rfl) (fun hcr hfr => ?_)
    (try simp only [World.size_alloc, World.size_setCell, World.size_drew, size_drewN_] at hcr hfr)
    repeat (go_big_quiet_step ((first | (go_at_call 24; first | with_reducible exact Calls.regrown_of (c1 _) | with_reducible exact regrown_k (c1 _) | with_reducible exact regrown_1 (c1 _) | with_reducible exact regrown_a (c1 _)) | (go_at_call 26; first | with_reducible exact Calls.regrown_of (c2 _) | with_reducible exact regrown_k (c2 _) | with_reducible exact regrown_1 (c2 _) | with_reducible exact regrown_a (c2 _)) | (go_at_call 25; first | with_reducible exact Calls.regrown_of (bits_any m 12 20 12 (by decide) _) | with_reducible exact regrown_k (bits_any m 12 20 12 (by decide) _) | with_reducible exact regrown_1 (bits_any m 12 20 12 (by decide) _) | with_reducible exact regrown_a (bits_any m 12 20 12 (by decide) _)))))
    refine wpQuiet_nil ?_
    intro w' hbl
    clear hcr hfr
    obtain ⟨hcw, hfw, hsw⟩ := below_ifs hbl; (try simp only [World.size_alloc, World.size_setCell, World.size_drew, size_drewN_] at hcw hfw hsw)
    go_wp2_with fail
    go_returns
    · exact ⟨ret_w (by omega) (by simp), by (repeat (first | with_reducible exact Below.refl _ _ | with_reducible assumption | with_reducible refine below_drewN ?_ _ | with_reducible refine Below.drew ?_ | with_reducible refine below_alloc ?_ _ | (with_reducible refine Below.setCell ?_ (by first | (simp; done) | omega | (simp; omega)) _) | with_reducible refine belows ?_ (by assumption)))⟩
  cases b2
  · go_wp2_with (go_at_call 23; refine (rrows_any _).mono ?_; rintro e wR ⟨⟨bR, rfl, hge, hR⟩, hblR⟩; obtain ⟨hlt, hRk⟩ := hR; obtain ⟨x0, x1, x2, x3, x4⟩ := hRk k hk; clear hRk; rw [hs] at x1; rw [hcd] at x2; rw [hf] at x3; rw [hot] at x4; obtain ⟨hcw, hfw, hsw⟩ := below_ifs hblR; (try simp only [World.size_alloc, World.size_setCell, World.size_drew, size_drewN_] at hcw hfw hsw hge))
    refine wp_region_below (by kernel_rfl) (by kernel_rfl) (fun hcr hfr => ?_)
    (try simp only [World.size_alloc, World.size_setCell, World.size_drew, size_drewN_] at hcr hfr)
    repeat (go_big_quiet_step ((first | (go_at_call 24; first | with_reducible exact Calls.regrown_of (c1 _) | with_reducible exact regrown_k (c1 _) | with_reducible exact regrown_1 (c1 _) | with_reducible exact regrown_a (c1 _)) | (go_at_call 26; first | with_reducible exact Calls.regrown_of (c2 _) | with_reducible exact regrown_k (c2 _) | with_reducible exact regrown_1 (c2 _) | with_reducible exact regrown_a (c2 _)) | (go_at_call 25; first | with_reducible exact Calls.regrown_of (bits_any m 12 20 12 (by decide) _) | with_reducible exact regrown_k (bits_any m 12 20 12 (by decide) _) | with_reducible exact regrown_1 (bits_any m 12 20 12 (by decide) _) | with_reducible exact regrown_a (bits_any m 12 20 12 (by decide) _)))))
    refine wpQuiet_nil ?_
    intro w' hbl
    clear hcr hfr
    obtain ⟨hcw, hfw, hsw⟩ := below_ifs hbl; (try simp only [World.size_alloc, World.size_setCell, World.size_drew, size_drewN_] at hcw hfw hsw)
    go_wp2_with fail
    go_returns
    · exact ⟨ret_w (by omega) (by simp), by (repeat (first | with_reducible exact Below.refl _ _ | with_reducible assumption | with_reducible refine below_drewN ?_ _ | with_reducible refine Below.drew ?_ | with_reducible refine below_alloc ?_ _ | (with_reducible refine Below.setCell ?_ (by first | (simp; done) | omega | (simp; omega)) _) | with_reducible refine belows ?_ (by assumption)))⟩
  cases b3
  · go_wp2_with (go_at_call 23; refine (rrows_any _).mono ?_; rintro e wR ⟨⟨bR, rfl, hge, hR⟩, hblR⟩; obtain ⟨hlt, hRk⟩ := hR; obtain ⟨x0, x1, x2, x3, x4⟩ := hRk k hk; clear hRk; rw [hs] at x1; rw [hcd] at x2; rw [hf] at x3; rw [hot] at x4; obtain ⟨hcw, hfw, hsw⟩ := below_ifs hblR; (try simp only [World.size_alloc, World.size_setCell, World.size_drew, size_drewN_] at hcw hfw hsw hge))
    refine wp_region_below (by kernel_rfl) (by kernel_rfl) (fun hcr hfr => ?_)
    (try simp only [World.size_alloc, World.size_setCell, World.size_drew, size_drewN_] at hcr hfr)
    repeat (go_big_quiet_step ((first | (go_at_call 24; first | with_reducible exact Calls.regrown_of (c1 _) | with_reducible exact regrown_k (c1 _) | with_reducible exact regrown_1 (c1 _) | with_reducible exact regrown_a (c1 _)) | (go_at_call 26; first | with_reducible exact Calls.regrown_of (c2 _) | with_reducible exact regrown_k (c2 _) | with_reducible exact regrown_1 (c2 _) | with_reducible exact regrown_a (c2 _)) | (go_at_call 25; first | with_reducible exact Calls.regrown_of (bits_any m 12 20 12 (by decide) _) | with_reducible exact regrown_k (bits_any m 12 20 12 (by decide) _) | with_reducible exact regrown_1 (bits_any m 12 20 12 (by decide) _) | with_reducible exact regrown_a (bits_any m 12 20 12 (by decide) _)))))
    refine wpQuiet_nil ?_
    intro w' hbl
    clear hcr hfr
    obtain ⟨hcw, hfw, hsw⟩ := below_ifs hbl; (try simp only [World.size_alloc, World.size_setCell, World.size_drew, size_drewN_] at hcw hfw hsw)
    go_wp2_with fail
    go_returns
    · exact ⟨ret_w (by omega) (by simp), by (repeat (first | with_reducible exact Below.refl _ _ | with_reducible assumption | with_reducible refine below_drewN ?_ _ | with_reducible refine Below.drew ?_ | with_reducible refine below_alloc ?_ _ | (with_reducible refine Below.setCell ?_ (by first | (simp; done) | omega | (simp; omega)) _) | with_reducible refine belows ?_ (by assumption)))⟩
  go_wp2_with (go_at_call 23; refine (rrows_any _).mono ?_; rintro e wR ⟨⟨bR, rfl, hge, hR⟩, hblR⟩; obtain ⟨hlt, hRk⟩ := hR; obtain ⟨x0, x1, x2, x3, x4⟩ := hRk k hk; clear hRk; rw [hs] at x1; rw [hcd] at x2; rw [hf] at x3; rw [hot] at x4; obtain ⟨hcw, hfw, hsw⟩ := below_ifs hblR; (try simp only [World.size_alloc, World.size_setCell, World.size_drew, size_drewN_] at hcw hfw hsw hge))
  refine wp_region_below (by kernel_rfl) (by kernel_rfl) (fun hcr hfr => ?_)
  (try simp only [World.size_alloc, World.size_setCell, World.size_drew, size_drewN_] at hcr hfr)
  repeat (go_big_quiet_step ((first | (go_at_call 24; first | with_reducible exact Calls.regrown_of (c1 _) | with_reducible exact regrown_k (c1 _) | with_reducible exact regrown_1 (c1 _) | with_reducible exact regrown_a (c1 _)) | (go_at_call 26; first | with_reducible exact Calls.regrown_of (c2 _) | with_reducible exact regrown_k (c2 _) | with_reducible exact regrown_1 (c2 _) | with_reducible exact regrown_a (c2 _)) | (go_at_call 25; first | with_reducible exact Calls.regrown_of (bits_any m 12 20 12 (by decide) _) | with_reducible exact regrown_k (bits_any m 12 20 12 (by decide) _) | with_reducible exact regrown_1 (bits_any m 12 20 12 (by decide) _) | with_reducible exact regrown_a (bits_any m 12 20 12 (by decide) _)))))
  refine wpQuiet_nil ?_
  intro w' hbl
  clear hcr hfr
  obtain ⟨hcw, hfw, hsw⟩ := below_ifs hbl; (try simp only [World.size_alloc, World.size_setCell, World.size_drew, size_drewN_] at hcw hfw hsw)
  go_wp2_with fail
  go_returns
  · exact ⟨ret_w (by omega) (by simp), by (repeat (first | with_reducible exact Below.refl _ _ | with_reducible assumption | with_reducible refine below_drewN ?_ _ | with_reducible refine Below.drew ?_ | with_reducible refine below_alloc ?_ _ | (with_reducible refine Below.setCell ?_ (by first | (simp; done) | omega | (simp; omega)) _) | with_reducible refine belows ?_ (by assumption)))⟩
set_option maxHeartbeats 4000000 in
set_option maxRecDepth 100000 in
theorem renc_J (k : Nat) (hk : k < 69) (cd f ot : Int) (hs : ((rowAt k).sh : Int) = 74) (hcd : U (rowAt k).cd = cd) (hf : U (rowAt k).f = f) (hot : U (rowAt k).ot = ot) (D A B : Int) (m : BitVec 64) (b1 b2 b3 : Bool)
    (c1 : ∀ w : World, Calls Try.prog 24 #[.int .i64 D] w fun e w' => e = .returned (.bool b1) ∧ Below w.heap.size w w')
    (c2 : ∀ w : World, Calls Try.prog 26 #[.int .i64 (S m), .int .i64 21, .bool true] w fun e w' => e = .returned (.bool b2) ∧ Below w.heap.size w w')
    (hz : ((S m).tmod 2 == 0) = b3) (w : World) :
    Calls Try.prog 8 #[.agg #[.int .i64 ((k : Int) + 1), .int .i64 D, .int .i64 A, .int .i64 B, .int .i64 (S m)]] w fun e w' => e = .returned (.tuple #[.int .u32 ((cd + D % 32 * 128 + bitI m 12 8 12 + bitI m 11 1 20 + bitI m 1 10 21 + bitI m 20 1 31) % 4294967296), .bool (b1 && b2 && b3)]) ∧ Below w.heap.size w w' := by
  have d1 : decide ((k : Int) + 1 < 1) = false := decide_eq_false (by omega)
  have d2 : decide (69 < (k : Int) + 1) = false := decide_eq_false (by omega)
  go_enter Try.func8, Try.ntmps8
  cases b1
  · go_wp2_with (go_at_call 23; refine (rrows_any _).mono ?_; rintro e wR ⟨⟨bR, rfl, hge, hR⟩, hblR⟩; obtain ⟨hlt, hRk⟩ := hR; obtain ⟨x0, x1, x2, x3, x4⟩ := hRk k hk; clear hRk; rw [hs] at x1; rw [hcd] at x2; rw [hf] at x3; rw [hot] at x4; obtain ⟨hcw, hfw, hsw⟩ := below_ifs hblR; (try simp only [World.size_alloc, World.size_setCell, World.size_drew, size_drewN_] at hcw hfw hsw hge))
    refine wp_region_below (by kernel_rfl) (by kernel_rfl) (fun hcr hfr => ?_)
    (try simp only [World.size_alloc, World.size_setCell, World.size_drew, size_drewN_] at hcr hfr)
    repeat (go_big_quiet_step ((first | (go_at_call 24; first | with_reducible exact Calls.regrown_of (c1 _) | with_reducible exact regrown_k (c1 _) | with_reducible exact regrown_1 (c1 _) | with_reducible exact regrown_a (c1 _)) | (go_at_call 26; first | with_reducible exact Calls.regrown_of (c2 _) | with_reducible exact regrown_k (c2 _) | with_reducible exact regrown_1 (c2 _) | with_reducible exact regrown_a (c2 _)) | (go_at_call 25; first | with_reducible exact Calls.regrown_of (bits_any m 12 8 12 (by decide) _) | with_reducible exact regrown_k (bits_any m 12 8 12 (by decide) _) | with_reducible exact regrown_1 (bits_any m 12 8 12 (by decide) _) | with_reducible exact regrown_a (bits_any m 12 8 12 (by decide) _)) | (go_at_call 25; first | with_reducible exact Calls.regrown_of (bits_any m 11 1 20 (by decide) _) | with_reducible exact regrown_k (bits_any m 11 1 20 (by decide) _) | with_reducible exact regrown_1 (bits_any m 11 1 20 (by decide) _) | with_reducible exact regrown_a (bits_any m 11 1 20 (by decide) _)) | (go_at_call 25; first | with_reducible exact Calls.regrown_of (bits_any m 1 10 21 (by decide) _) | with_reducible exact regrown_k (bits_any m 1 10 21 (by decide) _) | with_reducible exact regrown_1 (bits_any m 1 10 21 (by decide) _) | with_reducible exact regrown_a (bits_any m 1 10 21 (by decide) _)) | (go_at_call 25; first | with_reducible exact Calls.regrown_of (bits_any m 20 1 31 (by decide) _) | with_reducible exact regrown_k (bits_any m 20 1 31 (by decide) _) | with_reducible exact regrown_1 (bits_any m 20 1 31 (by decide) _) | with_reducible exact regrown_a (bits_any m 20 1 31 (by decide) _)))))
    refine wpQuiet_nil ?_
    intro w' hbl
    clear hcr hfr
    obtain ⟨hcw, hfw, hsw⟩ := below_ifs hbl; (try simp only [World.size_alloc, World.size_setCell, World.size_drew, size_drewN_] at hcw hfw hsw)
    go_wp2_with fail
    go_returns
    · exact ⟨ret_w (by omega) (by simp), by (repeat (first | with_reducible exact Below.refl _ _ | with_reducible assumption | with_reducible refine below_drewN ?_ _ | with_reducible refine Below.drew ?_ | with_reducible refine below_alloc ?_ _ | (with_reducible refine Below.setCell ?_ (by first | (simp; done) | omega | (simp; omega)) _) | with_reducible refine belows ?_ (by assumption)))⟩
  cases b2
  · go_wp2_with (go_at_call 23; refine (rrows_any _).mono ?_; rintro e wR ⟨⟨bR, rfl, hge, hR⟩, hblR⟩; obtain ⟨hlt, hRk⟩ := hR; obtain ⟨x0, x1, x2, x3, x4⟩ := hRk k hk; clear hRk; rw [hs] at x1; rw [hcd] at x2; rw [hf] at x3; rw [hot] at x4; obtain ⟨hcw, hfw, hsw⟩ := below_ifs hblR; (try simp only [World.size_alloc, World.size_setCell, World.size_drew, size_drewN_] at hcw hfw hsw hge))
    refine wp_region_below (by kernel_rfl) (by kernel_rfl) (fun hcr hfr => ?_)
    (try simp only [World.size_alloc, World.size_setCell, World.size_drew, size_drewN_] at hcr hfr)
    repeat (go_big_quiet_step ((first | (go_at_call 24; first | with_reducible exact Calls.regrown_of (c1 _) | with_reducible exact regrown_k (c1 _) | with_reducible exact regrown_1 (c1 _) | with_reducible exact regrown_a (c1 _)) | (go_at_call 26; first | with_reducible exact Calls.regrown_of (c2 _) | with_reducible exact regrown_k (c2 _) | with_reducible exact regrown_1 (c2 _) | with_reducible exact regrown_a (c2 _)) | (go_at_call 25; first | with_reducible exact Calls.regrown_of (bits_any m 12 8 12 (by decide) _) | with_reducible exact regrown_k (bits_any m 12 8 12 (by decide) _) | with_reducible exact regrown_1 (bits_any m 12 8 12 (by decide) _) | with_reducible exact regrown_a (bits_any m 12 8 12 (by decide) _)) | (go_at_call 25; first | with_reducible exact Calls.regrown_of (bits_any m 11 1 20 (by decide) _) | with_reducible exact regrown_k (bits_any m 11 1 20 (by decide) _) | with_reducible exact regrown_1 (bits_any m 11 1 20 (by decide) _) | with_reducible exact regrown_a (bits_any m 11 1 20 (by decide) _)) | (go_at_call 25; first | with_reducible exact Calls.regrown_of (bits_any m 1 10 21 (by decide) _) | with_reducible exact regrown_k (bits_any m 1 10 21 (by decide) _) | with_reducible exact regrown_1 (bits_any m 1 10 21 (by decide) _) | with_reducible exact regrown_a (bits_any m 1 10 21 (by decide) _)) | (go_at_call 25; first | with_reducible exact Calls.regrown_of (bits_any m 20 1 31 (by decide) _) | with_reducible exact regrown_k (bits_any m 20 1 31 (by decide) _) | with_reducible exact regrown_1 (bits_any m 20 1 31 (by decide) _) | with_reducible exact regrown_a (bits_any m 20 1 31 (by decide) _)))))
    refine wpQuiet_nil ?_
    intro w' hbl
    clear hcr hfr
    obtain ⟨hcw, hfw, hsw⟩ := below_ifs hbl; (try simp only [World.size_alloc, World.size_setCell, World.size_drew, size_drewN_] at hcw hfw hsw)
    go_wp2_with fail
    go_returns
    · exact ⟨ret_w (by omega) (by simp), by (repeat (first | with_reducible exact Below.refl _ _ | with_reducible assumption | with_reducible refine below_drewN ?_ _ | with_reducible refine Below.drew ?_ | with_reducible refine below_alloc ?_ _ | (with_reducible refine Below.setCell ?_ (by first | (simp; done) | omega | (simp; omega)) _) | with_reducible refine belows ?_ (by assumption)))⟩
  cases b3
  · go_wp2_with (go_at_call 23; refine (rrows_any _).mono ?_; rintro e wR ⟨⟨bR, rfl, hge, hR⟩, hblR⟩; obtain ⟨hlt, hRk⟩ := hR; obtain ⟨x0, x1, x2, x3, x4⟩ := hRk k hk; clear hRk; rw [hs] at x1; rw [hcd] at x2; rw [hf] at x3; rw [hot] at x4; obtain ⟨hcw, hfw, hsw⟩ := below_ifs hblR; (try simp only [World.size_alloc, World.size_setCell, World.size_drew, size_drewN_] at hcw hfw hsw hge))
    refine wp_region_below (by kernel_rfl) (by kernel_rfl) (fun hcr hfr => ?_)
    (try simp only [World.size_alloc, World.size_setCell, World.size_drew, size_drewN_] at hcr hfr)
    repeat (go_big_quiet_step ((first | (go_at_call 24; first | with_reducible exact Calls.regrown_of (c1 _) | with_reducible exact regrown_k (c1 _) | with_reducible exact regrown_1 (c1 _) | with_reducible exact regrown_a (c1 _)) | (go_at_call 26; first | with_reducible exact Calls.regrown_of (c2 _) | with_reducible exact regrown_k (c2 _) | with_reducible exact regrown_1 (c2 _) | with_reducible exact regrown_a (c2 _)) | (go_at_call 25; first | with_reducible exact Calls.regrown_of (bits_any m 12 8 12 (by decide) _) | with_reducible exact regrown_k (bits_any m 12 8 12 (by decide) _) | with_reducible exact regrown_1 (bits_any m 12 8 12 (by decide) _) | with_reducible exact regrown_a (bits_any m 12 8 12 (by decide) _)) | (go_at_call 25; first | with_reducible exact Calls.regrown_of (bits_any m 11 1 20 (by decide) _) | with_reducible exact regrown_k (bits_any m 11 1 20 (by decide) _) | with_reducible exact regrown_1 (bits_any m 11 1 20 (by decide) _) | with_reducible exact regrown_a (bits_any m 11 1 20 (by decide) _)) | (go_at_call 25; first | with_reducible exact Calls.regrown_of (bits_any m 1 10 21 (by decide) _) | with_reducible exact regrown_k (bits_any m 1 10 21 (by decide) _) | with_reducible exact regrown_1 (bits_any m 1 10 21 (by decide) _) | with_reducible exact regrown_a (bits_any m 1 10 21 (by decide) _)) | (go_at_call 25; first | with_reducible exact Calls.regrown_of (bits_any m 20 1 31 (by decide) _) | with_reducible exact regrown_k (bits_any m 20 1 31 (by decide) _) | with_reducible exact regrown_1 (bits_any m 20 1 31 (by decide) _) | with_reducible exact regrown_a (bits_any m 20 1 31 (by decide) _)))))
    refine wpQuiet_nil ?_
    intro w' hbl
    clear hcr hfr
    obtain ⟨hcw, hfw, hsw⟩ := below_ifs hbl; (try simp only [World.size_alloc, World.size_setCell, World.size_drew, size_drewN_] at hcw hfw hsw)
    go_wp2_with fail
    go_returns
    · exact ⟨ret_w (by omega) (by simp), by (repeat (first | with_reducible exact Below.refl _ _ | with_reducible assumption | with_reducible refine below_drewN ?_ _ | with_reducible refine Below.drew ?_ | with_reducible refine below_alloc ?_ _ | (with_reducible refine Below.setCell ?_ (by first | (simp; done) | omega | (simp; omega)) _) | with_reducible refine belows ?_ (by assumption)))⟩
  go_wp2_with (go_at_call 23; refine (rrows_any _).mono ?_; rintro e wR ⟨⟨bR, rfl, hge, hR⟩, hblR⟩; obtain ⟨hlt, hRk⟩ := hR; obtain ⟨x0, x1, x2, x3, x4⟩ := hRk k hk; clear hRk; rw [hs] at x1; rw [hcd] at x2; rw [hf] at x3; rw [hot] at x4; obtain ⟨hcw, hfw, hsw⟩ := below_ifs hblR; (try simp only [World.size_alloc, World.size_setCell, World.size_drew, size_drewN_] at hcw hfw hsw hge))
  refine wp_region_below (by kernel_rfl) (by kernel_rfl) (fun hcr hfr => ?_)
  (try simp only [World.size_alloc, World.size_setCell, World.size_drew, size_drewN_] at hcr hfr)
  repeat (go_big_quiet_step ((first | (go_at_call 24; first | with_reducible exact Calls.regrown_of (c1 _) | with_reducible exact regrown_k (c1 _) | with_reducible exact regrown_1 (c1 _) | with_reducible exact regrown_a (c1 _)) | (go_at_call 26; first | with_reducible exact Calls.regrown_of (c2 _) | with_reducible exact regrown_k (c2 _) | with_reducible exact regrown_1 (c2 _) | with_reducible exact regrown_a (c2 _)) | (go_at_call 25; first | with_reducible exact Calls.regrown_of (bits_any m 12 8 12 (by decide) _) | with_reducible exact regrown_k (bits_any m 12 8 12 (by decide) _) | with_reducible exact regrown_1 (bits_any m 12 8 12 (by decide) _) | with_reducible exact regrown_a (bits_any m 12 8 12 (by decide) _)) | (go_at_call 25; first | with_reducible exact Calls.regrown_of (bits_any m 11 1 20 (by decide) _) | with_reducible exact regrown_k (bits_any m 11 1 20 (by decide) _) | with_reducible exact regrown_1 (bits_any m 11 1 20 (by decide) _) | with_reducible exact regrown_a (bits_any m 11 1 20 (by decide) _)) | (go_at_call 25; first | with_reducible exact Calls.regrown_of (bits_any m 1 10 21 (by decide) _) | with_reducible exact regrown_k (bits_any m 1 10 21 (by decide) _) | with_reducible exact regrown_1 (bits_any m 1 10 21 (by decide) _) | with_reducible exact regrown_a (bits_any m 1 10 21 (by decide) _)) | (go_at_call 25; first | with_reducible exact Calls.regrown_of (bits_any m 20 1 31 (by decide) _) | with_reducible exact regrown_k (bits_any m 20 1 31 (by decide) _) | with_reducible exact regrown_1 (bits_any m 20 1 31 (by decide) _) | with_reducible exact regrown_a (bits_any m 20 1 31 (by decide) _)))))
  refine wpQuiet_nil ?_
  intro w' hbl
  clear hcr hfr
  obtain ⟨hcw, hfw, hsw⟩ := below_ifs hbl; (try simp only [World.size_alloc, World.size_setCell, World.size_drew, size_drewN_] at hcw hfw hsw)
  go_wp2_with fail
  go_returns
  · exact ⟨ret_w (by omega) (by simp), by (repeat (first | with_reducible exact Below.refl _ _ | with_reducible assumption | with_reducible refine below_drewN ?_ _ | with_reducible refine Below.drew ?_ | with_reducible refine below_alloc ?_ _ | (with_reducible refine Below.setCell ?_ (by first | (simp; done) | omega | (simp; omega)) _) | with_reducible refine belows ?_ (by assumption)))⟩

end Go.Proofs.Ytokfokgbbpjgdaa
