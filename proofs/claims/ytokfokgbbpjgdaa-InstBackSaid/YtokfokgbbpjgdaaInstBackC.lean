
/-
  What InstBack asks, case by case: the instruction of an instruction's word is it, but for what it has not; what is decoded has the word that it was decoded of. Every input.
-/
import Derived.Test.YtokfokgbbpjgdaaInstL
namespace Go.Proofs.Ytokfokgbbpjgdaa.Back
open Go Go.RowKit Go.ChangeShapes Go.WideShapes Go.ChangeAt
set_option linter.unusedVariables false
set_option linter.unusedSimpArgs false

set_option maxHeartbeats 8000000 in
set_option maxRecDepth 100000 in
theorem core_none0 (o D A B M W1 o2 D2 A2 B2 M2 s F : Int) (nm : ByteArray) (p : Bool) (hF : (F == 0) = false) (hs : (s == 0) = false)
    (c1 : ∀ w : World, Calls Try.prog 7 #[.agg #[.int .i64 o, .int .i64 D, .int .i64 A, .int .i64 B, .int .i64 M]] w fun e w' => e = .returned (.tuple #[.int .u32 0, .bool false]) ∧ Below w.heap.size w w')
    (c4 : ∀ w : World, Calls Try.prog 12 #[.int .i64 o] w fun e w' => e = .returned (.int .u8 s) ∧ Below w.heap.size w w')
    (c5 : ∀ w : World, Calls Try.prog 9 #[.int .u32 W1] w fun e w' => e = .returned (.tuple #[.agg #[.int .i64 o2, .int .i64 D2, .int .i64 A2, .int .i64 B2, .int .i64 M2], .bool p]) ∧ Below w.heap.size w w')
    (c6 : p = true → ∀ w : World, Calls Try.prog 7 #[.agg #[.int .i64 o2, .int .i64 D2, .int .i64 A2, .int .i64 B2, .int .i64 M2]] w fun e w' => e = .returned (.tuple #[.int .u32 W1, .bool true]) ∧ Below w.heap.size w w')
    (c7 : ∀ w : World, Calls Try.prog 14 #[.int .i64 o] w fun e w' => e = .returned (.string nm) ∧ Below w.heap.size w w')
    (c8 : ∀ w : World, Calls Try.prog 13 #[.string nm] w fun e w' => e = .returned (.int .i64 F) ∧ Below w.heap.size w w') (w : World) :
    Calls Try.prog 6 #[.agg #[.int .i64 o, .int .i64 D, .int .i64 A, .int .i64 B, .int .i64 M], .int .u32 W1] w fun e w' => e = .returned (.bool true) ∧ Below w.heap.size w w' := by
  go_enter Try.func6, Try.ntmps6
  cases p
  case false =>
    clear c6
    go_wp2_with (first | (go_at_call 7; (with_reducible refine (c1 _).mono ?_); rintro e w' ⟨rfl, hbl⟩; obtain ⟨hcw, hfw, hsw⟩ := below_ifs hbl; (try simp only [World.size_alloc, World.size_setCell, World.size_drew, size_drewN_] at hcw hfw hsw)) | (go_at_call 9; (with_reducible refine (c5 _).mono ?_); rintro e w' ⟨rfl, hbl⟩; obtain ⟨hcw, hfw, hsw⟩ := below_ifs hbl; (try simp only [World.size_alloc, World.size_setCell, World.size_drew, size_drewN_] at hcw hfw hsw)))
    refine wp_region_below (by kernel_rfl) (by kernel_rfl) (fun hcr hfr => ?_)
    (try simp only [World.size_alloc, World.size_setCell, World.size_drew, size_drewN_] at hcr hfr)
    repeat (go_big_quiet_step ((first | (go_at_call 14; first | with_reducible exact Calls.regrown_of (c7 _) | with_reducible exact regrown_k (c7 _) | with_reducible exact regrown_1 (c7 _) | with_reducible exact regrown_a (c7 _)) | (go_at_call 13; first | with_reducible exact Calls.regrown_of (c8 _) | with_reducible exact regrown_k (c8 _) | with_reducible exact regrown_1 (c8 _) | with_reducible exact regrown_a (c8 _)) | (go_at_call 12; first | with_reducible exact Calls.regrown_of (c4 _) | with_reducible exact regrown_k (c4 _) | with_reducible exact regrown_1 (c4 _) | with_reducible exact regrown_a (c4 _)) | (go_at_call 11; first | with_reducible exact Calls.regrown_of (one_any _) | with_reducible exact regrown_k (one_any _) | with_reducible exact regrown_1 (one_any _) | with_reducible exact regrown_a (one_any _)))))
    refine wpQuiet_nil ?_
    intro w' hbl
    clear hcr hfr
    obtain ⟨hcw, hfw, hsw⟩ := below_ifs hbl; (try simp only [World.size_alloc, World.size_setCell, World.size_drew, size_drewN_] at hcw hfw hsw)
    go_wp2_with fail
    go_ret
    exact ⟨ret_bool (by simp), by (repeat (first | with_reducible exact Below.refl _ _ | with_reducible assumption | with_reducible refine below_drewN ?_ _ | with_reducible refine Below.drew ?_ | with_reducible refine below_alloc ?_ _ | (with_reducible refine Below.setCell ?_ (by first | (simp; done) | omega | (simp; omega)) _) | with_reducible refine belows ?_ (by assumption)))⟩
  case true =>
    have c9 := c6 rfl
    clear c6
    go_wp2_with (first | (go_at_call 7; (with_reducible refine (c1 _).mono ?_); rintro e w' ⟨rfl, hbl⟩; obtain ⟨hcw, hfw, hsw⟩ := below_ifs hbl; (try simp only [World.size_alloc, World.size_setCell, World.size_drew, size_drewN_] at hcw hfw hsw)) | (go_at_call 9; (with_reducible refine (c5 _).mono ?_); rintro e w' ⟨rfl, hbl⟩; obtain ⟨hcw, hfw, hsw⟩ := below_ifs hbl; (try simp only [World.size_alloc, World.size_setCell, World.size_drew, size_drewN_] at hcw hfw hsw)) | (go_at_call 7; (with_reducible refine (c9 _).mono ?_); rintro e w' ⟨rfl, hbl⟩; obtain ⟨hcw, hfw, hsw⟩ := below_ifs hbl; (try simp only [World.size_alloc, World.size_setCell, World.size_drew, size_drewN_] at hcw hfw hsw)))
    refine wp_region_below (by kernel_rfl) (by kernel_rfl) (fun hcr hfr => ?_)
    (try simp only [World.size_alloc, World.size_setCell, World.size_drew, size_drewN_] at hcr hfr)
    repeat (go_big_quiet_step ((first | (go_at_call 14; first | with_reducible exact Calls.regrown_of (c7 _) | with_reducible exact regrown_k (c7 _) | with_reducible exact regrown_1 (c7 _) | with_reducible exact regrown_a (c7 _)) | (go_at_call 13; first | with_reducible exact Calls.regrown_of (c8 _) | with_reducible exact regrown_k (c8 _) | with_reducible exact regrown_1 (c8 _) | with_reducible exact regrown_a (c8 _)) | (go_at_call 12; first | with_reducible exact Calls.regrown_of (c4 _) | with_reducible exact regrown_k (c4 _) | with_reducible exact regrown_1 (c4 _) | with_reducible exact regrown_a (c4 _)) | (go_at_call 11; first | with_reducible exact Calls.regrown_of (one_any _) | with_reducible exact regrown_k (one_any _) | with_reducible exact regrown_1 (one_any _) | with_reducible exact regrown_a (one_any _)))))
    refine wpQuiet_nil ?_
    intro w' hbl
    clear hcr hfr
    obtain ⟨hcw, hfw, hsw⟩ := below_ifs hbl; (try simp only [World.size_alloc, World.size_setCell, World.size_drew, size_drewN_] at hcw hfw hsw)
    go_wp2_with fail
    go_ret
    exact ⟨ret_bool (by simp), by (repeat (first | with_reducible exact Below.refl _ _ | with_reducible assumption | with_reducible refine below_drewN ?_ _ | with_reducible refine Below.drew ?_ | with_reducible refine below_alloc ?_ _ | (with_reducible refine Below.setCell ?_ (by first | (simp; done) | omega | (simp; omega)) _) | with_reducible refine belows ?_ (by assumption)))⟩
set_option maxHeartbeats 8000000 in
set_option maxRecDepth 100000 in
theorem core_none1 (o D A B M W1 o2 D2 A2 B2 M2 s F : Int) (nm : ByteArray) (p : Bool) (hF : (F == 0) = true) (hs : (s == 0) = true)
    (c1 : ∀ w : World, Calls Try.prog 7 #[.agg #[.int .i64 o, .int .i64 D, .int .i64 A, .int .i64 B, .int .i64 M]] w fun e w' => e = .returned (.tuple #[.int .u32 0, .bool false]) ∧ Below w.heap.size w w')
    (c4 : ∀ w : World, Calls Try.prog 12 #[.int .i64 o] w fun e w' => e = .returned (.int .u8 s) ∧ Below w.heap.size w w')
    (c5 : ∀ w : World, Calls Try.prog 9 #[.int .u32 W1] w fun e w' => e = .returned (.tuple #[.agg #[.int .i64 o2, .int .i64 D2, .int .i64 A2, .int .i64 B2, .int .i64 M2], .bool p]) ∧ Below w.heap.size w w')
    (c6 : p = true → ∀ w : World, Calls Try.prog 7 #[.agg #[.int .i64 o2, .int .i64 D2, .int .i64 A2, .int .i64 B2, .int .i64 M2]] w fun e w' => e = .returned (.tuple #[.int .u32 W1, .bool true]) ∧ Below w.heap.size w w')
    (c7 : ∀ w : World, Calls Try.prog 14 #[.int .i64 o] w fun e w' => e = .returned (.string nm) ∧ Below w.heap.size w w')
    (c8 : ∀ w : World, Calls Try.prog 13 #[.string nm] w fun e w' => e = .returned (.int .i64 F) ∧ Below w.heap.size w w') (w : World) :
    Calls Try.prog 6 #[.agg #[.int .i64 o, .int .i64 D, .int .i64 A, .int .i64 B, .int .i64 M], .int .u32 W1] w fun e w' => e = .returned (.bool true) ∧ Below w.heap.size w w' := by
  go_enter Try.func6, Try.ntmps6
  cases p
  case false =>
    clear c6
    go_wp2_with (first | (go_at_call 7; (with_reducible refine (c1 _).mono ?_); rintro e w' ⟨rfl, hbl⟩; obtain ⟨hcw, hfw, hsw⟩ := below_ifs hbl; (try simp only [World.size_alloc, World.size_setCell, World.size_drew, size_drewN_] at hcw hfw hsw)) | (go_at_call 9; (with_reducible refine (c5 _).mono ?_); rintro e w' ⟨rfl, hbl⟩; obtain ⟨hcw, hfw, hsw⟩ := below_ifs hbl; (try simp only [World.size_alloc, World.size_setCell, World.size_drew, size_drewN_] at hcw hfw hsw)))
    refine wp_region_below (by kernel_rfl) (by kernel_rfl) (fun hcr hfr => ?_)
    (try simp only [World.size_alloc, World.size_setCell, World.size_drew, size_drewN_] at hcr hfr)
    repeat (go_big_quiet_step ((first | (go_at_call 14; first | with_reducible exact Calls.regrown_of (c7 _) | with_reducible exact regrown_k (c7 _) | with_reducible exact regrown_1 (c7 _) | with_reducible exact regrown_a (c7 _)) | (go_at_call 13; first | with_reducible exact Calls.regrown_of (c8 _) | with_reducible exact regrown_k (c8 _) | with_reducible exact regrown_1 (c8 _) | with_reducible exact regrown_a (c8 _)) | (go_at_call 12; first | with_reducible exact Calls.regrown_of (c4 _) | with_reducible exact regrown_k (c4 _) | with_reducible exact regrown_1 (c4 _) | with_reducible exact regrown_a (c4 _)) | (go_at_call 11; first | with_reducible exact Calls.regrown_of (one_any _) | with_reducible exact regrown_k (one_any _) | with_reducible exact regrown_1 (one_any _) | with_reducible exact regrown_a (one_any _)))))
    refine wpQuiet_nil ?_
    intro w' hbl
    clear hcr hfr
    obtain ⟨hcw, hfw, hsw⟩ := below_ifs hbl; (try simp only [World.size_alloc, World.size_setCell, World.size_drew, size_drewN_] at hcw hfw hsw)
    go_wp2_with fail
    go_ret
    exact ⟨ret_bool (by simp), by (repeat (first | with_reducible exact Below.refl _ _ | with_reducible assumption | with_reducible refine below_drewN ?_ _ | with_reducible refine Below.drew ?_ | with_reducible refine below_alloc ?_ _ | (with_reducible refine Below.setCell ?_ (by first | (simp; done) | omega | (simp; omega)) _) | with_reducible refine belows ?_ (by assumption)))⟩
  case true =>
    have c9 := c6 rfl
    clear c6
    go_wp2_with (first | (go_at_call 7; (with_reducible refine (c1 _).mono ?_); rintro e w' ⟨rfl, hbl⟩; obtain ⟨hcw, hfw, hsw⟩ := below_ifs hbl; (try simp only [World.size_alloc, World.size_setCell, World.size_drew, size_drewN_] at hcw hfw hsw)) | (go_at_call 9; (with_reducible refine (c5 _).mono ?_); rintro e w' ⟨rfl, hbl⟩; obtain ⟨hcw, hfw, hsw⟩ := below_ifs hbl; (try simp only [World.size_alloc, World.size_setCell, World.size_drew, size_drewN_] at hcw hfw hsw)) | (go_at_call 7; (with_reducible refine (c9 _).mono ?_); rintro e w' ⟨rfl, hbl⟩; obtain ⟨hcw, hfw, hsw⟩ := below_ifs hbl; (try simp only [World.size_alloc, World.size_setCell, World.size_drew, size_drewN_] at hcw hfw hsw)))
    refine wp_region_below (by kernel_rfl) (by kernel_rfl) (fun hcr hfr => ?_)
    (try simp only [World.size_alloc, World.size_setCell, World.size_drew, size_drewN_] at hcr hfr)
    repeat (go_big_quiet_step ((first | (go_at_call 14; first | with_reducible exact Calls.regrown_of (c7 _) | with_reducible exact regrown_k (c7 _) | with_reducible exact regrown_1 (c7 _) | with_reducible exact regrown_a (c7 _)) | (go_at_call 13; first | with_reducible exact Calls.regrown_of (c8 _) | with_reducible exact regrown_k (c8 _) | with_reducible exact regrown_1 (c8 _) | with_reducible exact regrown_a (c8 _)) | (go_at_call 12; first | with_reducible exact Calls.regrown_of (c4 _) | with_reducible exact regrown_k (c4 _) | with_reducible exact regrown_1 (c4 _) | with_reducible exact regrown_a (c4 _)) | (go_at_call 11; first | with_reducible exact Calls.regrown_of (one_any _) | with_reducible exact regrown_k (one_any _) | with_reducible exact regrown_1 (one_any _) | with_reducible exact regrown_a (one_any _)))))
    refine wpQuiet_nil ?_
    intro w' hbl
    clear hcr hfr
    obtain ⟨hcw, hfw, hsw⟩ := below_ifs hbl; (try simp only [World.size_alloc, World.size_setCell, World.size_drew, size_drewN_] at hcw hfw hsw)
    go_wp2_with fail
    go_ret
    exact ⟨ret_bool (by simp), by (repeat (first | with_reducible exact Below.refl _ _ | with_reducible assumption | with_reducible refine below_drewN ?_ _ | with_reducible refine Below.drew ?_ | with_reducible refine below_alloc ?_ _ | (with_reducible refine Below.setCell ?_ (by first | (simp; done) | omega | (simp; omega)) _) | with_reducible refine belows ?_ (by assumption)))⟩
set_option maxHeartbeats 8000000 in
set_option maxRecDepth 100000 in
theorem core_R (o D A B M X W1 o2 D2 A2 B2 M2 F : Int) (nm : ByteArray) (p : Bool) (hF : (F == 0) = false)
    (c1 : ∀ w : World, Calls Try.prog 7 #[.agg #[.int .i64 o, .int .i64 D, .int .i64 A, .int .i64 B, .int .i64 M]] w fun e w' => e = .returned (.tuple #[.int .u32 X, .bool true]) ∧ Below w.heap.size w w')
    (c2 : ∀ w : World, Calls Try.prog 9 #[.int .u32 X] w fun e w' => e = .returned (.tuple #[.agg #[.int .i64 o, .int .i64 D, .int .i64 A, .int .i64 B, .int .i64 0], .bool true]) ∧ Below w.heap.size w w')
    (c3 : ∀ w : World, Calls Try.prog 7 #[.agg #[.int .i64 o, .int .i64 D, .int .i64 A, .int .i64 B, .int .i64 0]] w fun e w' => e = .returned (.tuple #[.int .u32 X, .bool true]) ∧ Below w.heap.size w w')
    (c4 : ∀ w : World, Calls Try.prog 12 #[.int .i64 o] w fun e w' => e = .returned (.int .u8 82) ∧ Below w.heap.size w w')
    (c5 : ∀ w : World, Calls Try.prog 9 #[.int .u32 W1] w fun e w' => e = .returned (.tuple #[.agg #[.int .i64 o2, .int .i64 D2, .int .i64 A2, .int .i64 B2, .int .i64 M2], .bool p]) ∧ Below w.heap.size w w')
    (c6 : p = true → ∀ w : World, Calls Try.prog 7 #[.agg #[.int .i64 o2, .int .i64 D2, .int .i64 A2, .int .i64 B2, .int .i64 M2]] w fun e w' => e = .returned (.tuple #[.int .u32 W1, .bool true]) ∧ Below w.heap.size w w')
    (c7 : ∀ w : World, Calls Try.prog 14 #[.int .i64 o] w fun e w' => e = .returned (.string nm) ∧ Below w.heap.size w w')
    (c8 : ∀ w : World, Calls Try.prog 13 #[.string nm] w fun e w' => e = .returned (.int .i64 F) ∧ Below w.heap.size w w') (w : World) :
    Calls Try.prog 6 #[.agg #[.int .i64 o, .int .i64 D, .int .i64 A, .int .i64 B, .int .i64 M], .int .u32 W1] w fun e w' => e = .returned (.bool true) ∧ Below w.heap.size w w' := by
  go_enter Try.func6, Try.ntmps6
  cases p
  case false =>
    clear c6
    go_wp2_with (first | (go_at_call 7; (with_reducible refine (c1 _).mono ?_); rintro e w' ⟨rfl, hbl⟩; obtain ⟨hcw, hfw, hsw⟩ := below_ifs hbl; (try simp only [World.size_alloc, World.size_setCell, World.size_drew, size_drewN_] at hcw hfw hsw)) | (go_at_call 9; (with_reducible refine (c2 _).mono ?_); rintro e w' ⟨rfl, hbl⟩; obtain ⟨hcw, hfw, hsw⟩ := below_ifs hbl; (try simp only [World.size_alloc, World.size_setCell, World.size_drew, size_drewN_] at hcw hfw hsw)) | (go_at_call 7; (with_reducible refine (c3 _).mono ?_); rintro e w' ⟨rfl, hbl⟩; obtain ⟨hcw, hfw, hsw⟩ := below_ifs hbl; (try simp only [World.size_alloc, World.size_setCell, World.size_drew, size_drewN_] at hcw hfw hsw)) | (go_at_call 12; (with_reducible refine (c4 _).mono ?_); rintro e w' ⟨rfl, hbl⟩; obtain ⟨hcw, hfw, hsw⟩ := below_ifs hbl; (try simp only [World.size_alloc, World.size_setCell, World.size_drew, size_drewN_] at hcw hfw hsw)) | (go_at_call 9; (with_reducible refine (c5 _).mono ?_); rintro e w' ⟨rfl, hbl⟩; obtain ⟨hcw, hfw, hsw⟩ := below_ifs hbl; (try simp only [World.size_alloc, World.size_setCell, World.size_drew, size_drewN_] at hcw hfw hsw)))
    refine wp_region_below (by kernel_rfl) (by kernel_rfl) (fun hcr hfr => ?_)
    (try simp only [World.size_alloc, World.size_setCell, World.size_drew, size_drewN_] at hcr hfr)
    repeat (go_big_quiet_step ((first | (go_at_call 14; first | with_reducible exact Calls.regrown_of (c7 _) | with_reducible exact regrown_k (c7 _) | with_reducible exact regrown_1 (c7 _) | with_reducible exact regrown_a (c7 _)) | (go_at_call 13; first | with_reducible exact Calls.regrown_of (c8 _) | with_reducible exact regrown_k (c8 _) | with_reducible exact regrown_1 (c8 _) | with_reducible exact regrown_a (c8 _)) | (go_at_call 12; first | with_reducible exact Calls.regrown_of (c4 _) | with_reducible exact regrown_k (c4 _) | with_reducible exact regrown_1 (c4 _) | with_reducible exact regrown_a (c4 _)) | (go_at_call 11; first | with_reducible exact Calls.regrown_of (one_any _) | with_reducible exact regrown_k (one_any _) | with_reducible exact regrown_1 (one_any _) | with_reducible exact regrown_a (one_any _)))))
    refine wpQuiet_nil ?_
    intro w' hbl
    clear hcr hfr
    obtain ⟨hcw, hfw, hsw⟩ := below_ifs hbl; (try simp only [World.size_alloc, World.size_setCell, World.size_drew, size_drewN_] at hcw hfw hsw)
    go_wp2_with fail
    go_ret
    exact ⟨ret_bool (by simp), by (repeat (first | with_reducible exact Below.refl _ _ | with_reducible assumption | with_reducible refine below_drewN ?_ _ | with_reducible refine Below.drew ?_ | with_reducible refine below_alloc ?_ _ | (with_reducible refine Below.setCell ?_ (by first | (simp; done) | omega | (simp; omega)) _) | with_reducible refine belows ?_ (by assumption)))⟩
  case true =>
    have c9 := c6 rfl
    clear c6
    go_wp2_with (first | (go_at_call 7; (with_reducible refine (c1 _).mono ?_); rintro e w' ⟨rfl, hbl⟩; obtain ⟨hcw, hfw, hsw⟩ := below_ifs hbl; (try simp only [World.size_alloc, World.size_setCell, World.size_drew, size_drewN_] at hcw hfw hsw)) | (go_at_call 9; (with_reducible refine (c2 _).mono ?_); rintro e w' ⟨rfl, hbl⟩; obtain ⟨hcw, hfw, hsw⟩ := below_ifs hbl; (try simp only [World.size_alloc, World.size_setCell, World.size_drew, size_drewN_] at hcw hfw hsw)) | (go_at_call 7; (with_reducible refine (c3 _).mono ?_); rintro e w' ⟨rfl, hbl⟩; obtain ⟨hcw, hfw, hsw⟩ := below_ifs hbl; (try simp only [World.size_alloc, World.size_setCell, World.size_drew, size_drewN_] at hcw hfw hsw)) | (go_at_call 12; (with_reducible refine (c4 _).mono ?_); rintro e w' ⟨rfl, hbl⟩; obtain ⟨hcw, hfw, hsw⟩ := below_ifs hbl; (try simp only [World.size_alloc, World.size_setCell, World.size_drew, size_drewN_] at hcw hfw hsw)) | (go_at_call 9; (with_reducible refine (c5 _).mono ?_); rintro e w' ⟨rfl, hbl⟩; obtain ⟨hcw, hfw, hsw⟩ := below_ifs hbl; (try simp only [World.size_alloc, World.size_setCell, World.size_drew, size_drewN_] at hcw hfw hsw)) | (go_at_call 7; (with_reducible refine (c9 _).mono ?_); rintro e w' ⟨rfl, hbl⟩; obtain ⟨hcw, hfw, hsw⟩ := below_ifs hbl; (try simp only [World.size_alloc, World.size_setCell, World.size_drew, size_drewN_] at hcw hfw hsw)))
    refine wp_region_below (by kernel_rfl) (by kernel_rfl) (fun hcr hfr => ?_)
    (try simp only [World.size_alloc, World.size_setCell, World.size_drew, size_drewN_] at hcr hfr)
    repeat (go_big_quiet_step ((first | (go_at_call 14; first | with_reducible exact Calls.regrown_of (c7 _) | with_reducible exact regrown_k (c7 _) | with_reducible exact regrown_1 (c7 _) | with_reducible exact regrown_a (c7 _)) | (go_at_call 13; first | with_reducible exact Calls.regrown_of (c8 _) | with_reducible exact regrown_k (c8 _) | with_reducible exact regrown_1 (c8 _) | with_reducible exact regrown_a (c8 _)) | (go_at_call 12; first | with_reducible exact Calls.regrown_of (c4 _) | with_reducible exact regrown_k (c4 _) | with_reducible exact regrown_1 (c4 _) | with_reducible exact regrown_a (c4 _)) | (go_at_call 11; first | with_reducible exact Calls.regrown_of (one_any _) | with_reducible exact regrown_k (one_any _) | with_reducible exact regrown_1 (one_any _) | with_reducible exact regrown_a (one_any _)))))
    refine wpQuiet_nil ?_
    intro w' hbl
    clear hcr hfr
    obtain ⟨hcw, hfw, hsw⟩ := below_ifs hbl; (try simp only [World.size_alloc, World.size_setCell, World.size_drew, size_drewN_] at hcw hfw hsw)
    go_wp2_with fail
    go_ret
    exact ⟨ret_bool (by simp), by (repeat (first | with_reducible exact Below.refl _ _ | with_reducible assumption | with_reducible refine below_drewN ?_ _ | with_reducible refine Below.drew ?_ | with_reducible refine below_alloc ?_ _ | (with_reducible refine Below.setCell ?_ (by first | (simp; done) | omega | (simp; omega)) _) | with_reducible refine belows ?_ (by assumption)))⟩
set_option maxHeartbeats 8000000 in
set_option maxRecDepth 100000 in
theorem core_I (o D A B M X W1 o2 D2 A2 B2 M2 F : Int) (nm : ByteArray) (p : Bool) (hF : (F == 0) = false)
    (c1 : ∀ w : World, Calls Try.prog 7 #[.agg #[.int .i64 o, .int .i64 D, .int .i64 A, .int .i64 B, .int .i64 M]] w fun e w' => e = .returned (.tuple #[.int .u32 X, .bool true]) ∧ Below w.heap.size w w')
    (c2 : ∀ w : World, Calls Try.prog 9 #[.int .u32 X] w fun e w' => e = .returned (.tuple #[.agg #[.int .i64 o, .int .i64 D, .int .i64 A, .int .i64 0, .int .i64 M], .bool true]) ∧ Below w.heap.size w w')
    (c3 : ∀ w : World, Calls Try.prog 7 #[.agg #[.int .i64 o, .int .i64 D, .int .i64 A, .int .i64 0, .int .i64 M]] w fun e w' => e = .returned (.tuple #[.int .u32 X, .bool true]) ∧ Below w.heap.size w w')
    (c4 : ∀ w : World, Calls Try.prog 12 #[.int .i64 o] w fun e w' => e = .returned (.int .u8 73) ∧ Below w.heap.size w w')
    (c5 : ∀ w : World, Calls Try.prog 9 #[.int .u32 W1] w fun e w' => e = .returned (.tuple #[.agg #[.int .i64 o2, .int .i64 D2, .int .i64 A2, .int .i64 B2, .int .i64 M2], .bool p]) ∧ Below w.heap.size w w')
    (c6 : p = true → ∀ w : World, Calls Try.prog 7 #[.agg #[.int .i64 o2, .int .i64 D2, .int .i64 A2, .int .i64 B2, .int .i64 M2]] w fun e w' => e = .returned (.tuple #[.int .u32 W1, .bool true]) ∧ Below w.heap.size w w')
    (c7 : ∀ w : World, Calls Try.prog 14 #[.int .i64 o] w fun e w' => e = .returned (.string nm) ∧ Below w.heap.size w w')
    (c8 : ∀ w : World, Calls Try.prog 13 #[.string nm] w fun e w' => e = .returned (.int .i64 F) ∧ Below w.heap.size w w') (w : World) :
    Calls Try.prog 6 #[.agg #[.int .i64 o, .int .i64 D, .int .i64 A, .int .i64 B, .int .i64 M], .int .u32 W1] w fun e w' => e = .returned (.bool true) ∧ Below w.heap.size w w' := by
  go_enter Try.func6, Try.ntmps6
  cases p
  case false =>
    clear c6
    go_wp2_with (first | (go_at_call 7; (with_reducible refine (c1 _).mono ?_); rintro e w' ⟨rfl, hbl⟩; obtain ⟨hcw, hfw, hsw⟩ := below_ifs hbl; (try simp only [World.size_alloc, World.size_setCell, World.size_drew, size_drewN_] at hcw hfw hsw)) | (go_at_call 9; (with_reducible refine (c2 _).mono ?_); rintro e w' ⟨rfl, hbl⟩; obtain ⟨hcw, hfw, hsw⟩ := below_ifs hbl; (try simp only [World.size_alloc, World.size_setCell, World.size_drew, size_drewN_] at hcw hfw hsw)) | (go_at_call 7; (with_reducible refine (c3 _).mono ?_); rintro e w' ⟨rfl, hbl⟩; obtain ⟨hcw, hfw, hsw⟩ := below_ifs hbl; (try simp only [World.size_alloc, World.size_setCell, World.size_drew, size_drewN_] at hcw hfw hsw)) | (go_at_call 12; (with_reducible refine (c4 _).mono ?_); rintro e w' ⟨rfl, hbl⟩; obtain ⟨hcw, hfw, hsw⟩ := below_ifs hbl; (try simp only [World.size_alloc, World.size_setCell, World.size_drew, size_drewN_] at hcw hfw hsw)) | (go_at_call 9; (with_reducible refine (c5 _).mono ?_); rintro e w' ⟨rfl, hbl⟩; obtain ⟨hcw, hfw, hsw⟩ := below_ifs hbl; (try simp only [World.size_alloc, World.size_setCell, World.size_drew, size_drewN_] at hcw hfw hsw)))
    refine wp_region_below (by kernel_rfl) (by kernel_rfl) (fun hcr hfr => ?_)
    (try simp only [World.size_alloc, World.size_setCell, World.size_drew, size_drewN_] at hcr hfr)
    repeat (go_big_quiet_step ((first | (go_at_call 14; first | with_reducible exact Calls.regrown_of (c7 _) | with_reducible exact regrown_k (c7 _) | with_reducible exact regrown_1 (c7 _) | with_reducible exact regrown_a (c7 _)) | (go_at_call 13; first | with_reducible exact Calls.regrown_of (c8 _) | with_reducible exact regrown_k (c8 _) | with_reducible exact regrown_1 (c8 _) | with_reducible exact regrown_a (c8 _)) | (go_at_call 12; first | with_reducible exact Calls.regrown_of (c4 _) | with_reducible exact regrown_k (c4 _) | with_reducible exact regrown_1 (c4 _) | with_reducible exact regrown_a (c4 _)) | (go_at_call 11; first | with_reducible exact Calls.regrown_of (one_any _) | with_reducible exact regrown_k (one_any _) | with_reducible exact regrown_1 (one_any _) | with_reducible exact regrown_a (one_any _)))))
    refine wpQuiet_nil ?_
    intro w' hbl
    clear hcr hfr
    obtain ⟨hcw, hfw, hsw⟩ := below_ifs hbl; (try simp only [World.size_alloc, World.size_setCell, World.size_drew, size_drewN_] at hcw hfw hsw)
    go_wp2_with fail
    go_ret
    exact ⟨ret_bool (by simp), by (repeat (first | with_reducible exact Below.refl _ _ | with_reducible assumption | with_reducible refine below_drewN ?_ _ | with_reducible refine Below.drew ?_ | with_reducible refine below_alloc ?_ _ | (with_reducible refine Below.setCell ?_ (by first | (simp; done) | omega | (simp; omega)) _) | with_reducible refine belows ?_ (by assumption)))⟩
  case true =>
    have c9 := c6 rfl
    clear c6
    go_wp2_with (first | (go_at_call 7; (with_reducible refine (c1 _).mono ?_); rintro e w' ⟨rfl, hbl⟩; obtain ⟨hcw, hfw, hsw⟩ := below_ifs hbl; (try simp only [World.size_alloc, World.size_setCell, World.size_drew, size_drewN_] at hcw hfw hsw)) | (go_at_call 9; (with_reducible refine (c2 _).mono ?_); rintro e w' ⟨rfl, hbl⟩; obtain ⟨hcw, hfw, hsw⟩ := below_ifs hbl; (try simp only [World.size_alloc, World.size_setCell, World.size_drew, size_drewN_] at hcw hfw hsw)) | (go_at_call 7; (with_reducible refine (c3 _).mono ?_); rintro e w' ⟨rfl, hbl⟩; obtain ⟨hcw, hfw, hsw⟩ := below_ifs hbl; (try simp only [World.size_alloc, World.size_setCell, World.size_drew, size_drewN_] at hcw hfw hsw)) | (go_at_call 12; (with_reducible refine (c4 _).mono ?_); rintro e w' ⟨rfl, hbl⟩; obtain ⟨hcw, hfw, hsw⟩ := below_ifs hbl; (try simp only [World.size_alloc, World.size_setCell, World.size_drew, size_drewN_] at hcw hfw hsw)) | (go_at_call 9; (with_reducible refine (c5 _).mono ?_); rintro e w' ⟨rfl, hbl⟩; obtain ⟨hcw, hfw, hsw⟩ := below_ifs hbl; (try simp only [World.size_alloc, World.size_setCell, World.size_drew, size_drewN_] at hcw hfw hsw)) | (go_at_call 7; (with_reducible refine (c9 _).mono ?_); rintro e w' ⟨rfl, hbl⟩; obtain ⟨hcw, hfw, hsw⟩ := below_ifs hbl; (try simp only [World.size_alloc, World.size_setCell, World.size_drew, size_drewN_] at hcw hfw hsw)))
    refine wp_region_below (by kernel_rfl) (by kernel_rfl) (fun hcr hfr => ?_)
    (try simp only [World.size_alloc, World.size_setCell, World.size_drew, size_drewN_] at hcr hfr)
    repeat (go_big_quiet_step ((first | (go_at_call 14; first | with_reducible exact Calls.regrown_of (c7 _) | with_reducible exact regrown_k (c7 _) | with_reducible exact regrown_1 (c7 _) | with_reducible exact regrown_a (c7 _)) | (go_at_call 13; first | with_reducible exact Calls.regrown_of (c8 _) | with_reducible exact regrown_k (c8 _) | with_reducible exact regrown_1 (c8 _) | with_reducible exact regrown_a (c8 _)) | (go_at_call 12; first | with_reducible exact Calls.regrown_of (c4 _) | with_reducible exact regrown_k (c4 _) | with_reducible exact regrown_1 (c4 _) | with_reducible exact regrown_a (c4 _)) | (go_at_call 11; first | with_reducible exact Calls.regrown_of (one_any _) | with_reducible exact regrown_k (one_any _) | with_reducible exact regrown_1 (one_any _) | with_reducible exact regrown_a (one_any _)))))
    refine wpQuiet_nil ?_
    intro w' hbl
    clear hcr hfr
    obtain ⟨hcw, hfw, hsw⟩ := below_ifs hbl; (try simp only [World.size_alloc, World.size_setCell, World.size_drew, size_drewN_] at hcw hfw hsw)
    go_wp2_with fail
    go_ret
    exact ⟨ret_bool (by simp), by (repeat (first | with_reducible exact Below.refl _ _ | with_reducible assumption | with_reducible refine below_drewN ?_ _ | with_reducible refine Below.drew ?_ | with_reducible refine below_alloc ?_ _ | (with_reducible refine Below.setCell ?_ (by first | (simp; done) | omega | (simp; omega)) _) | with_reducible refine belows ?_ (by assumption)))⟩
set_option maxHeartbeats 8000000 in
set_option maxRecDepth 100000 in
theorem core_B (o D A B M X W1 o2 D2 A2 B2 M2 F : Int) (nm : ByteArray) (p : Bool) (hF : (F == 0) = false)
    (c1 : ∀ w : World, Calls Try.prog 7 #[.agg #[.int .i64 o, .int .i64 D, .int .i64 A, .int .i64 B, .int .i64 M]] w fun e w' => e = .returned (.tuple #[.int .u32 X, .bool true]) ∧ Below w.heap.size w w')
    (c2 : ∀ w : World, Calls Try.prog 9 #[.int .u32 X] w fun e w' => e = .returned (.tuple #[.agg #[.int .i64 o, .int .i64 0, .int .i64 A, .int .i64 B, .int .i64 M], .bool true]) ∧ Below w.heap.size w w')
    (c3 : ∀ w : World, Calls Try.prog 7 #[.agg #[.int .i64 o, .int .i64 0, .int .i64 A, .int .i64 B, .int .i64 M]] w fun e w' => e = .returned (.tuple #[.int .u32 X, .bool true]) ∧ Below w.heap.size w w')
    (c4 : ∀ w : World, Calls Try.prog 12 #[.int .i64 o] w fun e w' => e = .returned (.int .u8 66) ∧ Below w.heap.size w w')
    (c5 : ∀ w : World, Calls Try.prog 9 #[.int .u32 W1] w fun e w' => e = .returned (.tuple #[.agg #[.int .i64 o2, .int .i64 D2, .int .i64 A2, .int .i64 B2, .int .i64 M2], .bool p]) ∧ Below w.heap.size w w')
    (c6 : p = true → ∀ w : World, Calls Try.prog 7 #[.agg #[.int .i64 o2, .int .i64 D2, .int .i64 A2, .int .i64 B2, .int .i64 M2]] w fun e w' => e = .returned (.tuple #[.int .u32 W1, .bool true]) ∧ Below w.heap.size w w')
    (c7 : ∀ w : World, Calls Try.prog 14 #[.int .i64 o] w fun e w' => e = .returned (.string nm) ∧ Below w.heap.size w w')
    (c8 : ∀ w : World, Calls Try.prog 13 #[.string nm] w fun e w' => e = .returned (.int .i64 F) ∧ Below w.heap.size w w') (w : World) :
    Calls Try.prog 6 #[.agg #[.int .i64 o, .int .i64 D, .int .i64 A, .int .i64 B, .int .i64 M], .int .u32 W1] w fun e w' => e = .returned (.bool true) ∧ Below w.heap.size w w' := by
  go_enter Try.func6, Try.ntmps6
  cases p
  case false =>
    clear c6
    go_wp2_with (first | (go_at_call 7; (with_reducible refine (c1 _).mono ?_); rintro e w' ⟨rfl, hbl⟩; obtain ⟨hcw, hfw, hsw⟩ := below_ifs hbl; (try simp only [World.size_alloc, World.size_setCell, World.size_drew, size_drewN_] at hcw hfw hsw)) | (go_at_call 9; (with_reducible refine (c2 _).mono ?_); rintro e w' ⟨rfl, hbl⟩; obtain ⟨hcw, hfw, hsw⟩ := below_ifs hbl; (try simp only [World.size_alloc, World.size_setCell, World.size_drew, size_drewN_] at hcw hfw hsw)) | (go_at_call 7; (with_reducible refine (c3 _).mono ?_); rintro e w' ⟨rfl, hbl⟩; obtain ⟨hcw, hfw, hsw⟩ := below_ifs hbl; (try simp only [World.size_alloc, World.size_setCell, World.size_drew, size_drewN_] at hcw hfw hsw)) | (go_at_call 12; (with_reducible refine (c4 _).mono ?_); rintro e w' ⟨rfl, hbl⟩; obtain ⟨hcw, hfw, hsw⟩ := below_ifs hbl; (try simp only [World.size_alloc, World.size_setCell, World.size_drew, size_drewN_] at hcw hfw hsw)) | (go_at_call 9; (with_reducible refine (c5 _).mono ?_); rintro e w' ⟨rfl, hbl⟩; obtain ⟨hcw, hfw, hsw⟩ := below_ifs hbl; (try simp only [World.size_alloc, World.size_setCell, World.size_drew, size_drewN_] at hcw hfw hsw)))
    refine wp_region_below (by kernel_rfl) (by kernel_rfl) (fun hcr hfr => ?_)
    (try simp only [World.size_alloc, World.size_setCell, World.size_drew, size_drewN_] at hcr hfr)
    repeat (go_big_quiet_step ((first | (go_at_call 14; first | with_reducible exact Calls.regrown_of (c7 _) | with_reducible exact regrown_k (c7 _) | with_reducible exact regrown_1 (c7 _) | with_reducible exact regrown_a (c7 _)) | (go_at_call 13; first | with_reducible exact Calls.regrown_of (c8 _) | with_reducible exact regrown_k (c8 _) | with_reducible exact regrown_1 (c8 _) | with_reducible exact regrown_a (c8 _)) | (go_at_call 12; first | with_reducible exact Calls.regrown_of (c4 _) | with_reducible exact regrown_k (c4 _) | with_reducible exact regrown_1 (c4 _) | with_reducible exact regrown_a (c4 _)) | (go_at_call 11; first | with_reducible exact Calls.regrown_of (one_any _) | with_reducible exact regrown_k (one_any _) | with_reducible exact regrown_1 (one_any _) | with_reducible exact regrown_a (one_any _)))))
    refine wpQuiet_nil ?_
    intro w' hbl
    clear hcr hfr
    obtain ⟨hcw, hfw, hsw⟩ := below_ifs hbl; (try simp only [World.size_alloc, World.size_setCell, World.size_drew, size_drewN_] at hcw hfw hsw)
    go_wp2_with fail
    go_ret
    exact ⟨ret_bool (by simp), by (repeat (first | with_reducible exact Below.refl _ _ | with_reducible assumption | with_reducible refine below_drewN ?_ _ | with_reducible refine Below.drew ?_ | with_reducible refine below_alloc ?_ _ | (with_reducible refine Below.setCell ?_ (by first | (simp; done) | omega | (simp; omega)) _) | with_reducible refine belows ?_ (by assumption)))⟩
  case true =>
    have c9 := c6 rfl
    clear c6
    go_wp2_with (first | (go_at_call 7; (with_reducible refine (c1 _).mono ?_); rintro e w' ⟨rfl, hbl⟩; obtain ⟨hcw, hfw, hsw⟩ := below_ifs hbl; (try simp only [World.size_alloc, World.size_setCell, World.size_drew, size_drewN_] at hcw hfw hsw)) | (go_at_call 9; (with_reducible refine (c2 _).mono ?_); rintro e w' ⟨rfl, hbl⟩; obtain ⟨hcw, hfw, hsw⟩ := below_ifs hbl; (try simp only [World.size_alloc, World.size_setCell, World.size_drew, size_drewN_] at hcw hfw hsw)) | (go_at_call 7; (with_reducible refine (c3 _).mono ?_); rintro e w' ⟨rfl, hbl⟩; obtain ⟨hcw, hfw, hsw⟩ := below_ifs hbl; (try simp only [World.size_alloc, World.size_setCell, World.size_drew, size_drewN_] at hcw hfw hsw)) | (go_at_call 12; (with_reducible refine (c4 _).mono ?_); rintro e w' ⟨rfl, hbl⟩; obtain ⟨hcw, hfw, hsw⟩ := below_ifs hbl; (try simp only [World.size_alloc, World.size_setCell, World.size_drew, size_drewN_] at hcw hfw hsw)) | (go_at_call 9; (with_reducible refine (c5 _).mono ?_); rintro e w' ⟨rfl, hbl⟩; obtain ⟨hcw, hfw, hsw⟩ := below_ifs hbl; (try simp only [World.size_alloc, World.size_setCell, World.size_drew, size_drewN_] at hcw hfw hsw)) | (go_at_call 7; (with_reducible refine (c9 _).mono ?_); rintro e w' ⟨rfl, hbl⟩; obtain ⟨hcw, hfw, hsw⟩ := below_ifs hbl; (try simp only [World.size_alloc, World.size_setCell, World.size_drew, size_drewN_] at hcw hfw hsw)))
    refine wp_region_below (by kernel_rfl) (by kernel_rfl) (fun hcr hfr => ?_)
    (try simp only [World.size_alloc, World.size_setCell, World.size_drew, size_drewN_] at hcr hfr)
    repeat (go_big_quiet_step ((first | (go_at_call 14; first | with_reducible exact Calls.regrown_of (c7 _) | with_reducible exact regrown_k (c7 _) | with_reducible exact regrown_1 (c7 _) | with_reducible exact regrown_a (c7 _)) | (go_at_call 13; first | with_reducible exact Calls.regrown_of (c8 _) | with_reducible exact regrown_k (c8 _) | with_reducible exact regrown_1 (c8 _) | with_reducible exact regrown_a (c8 _)) | (go_at_call 12; first | with_reducible exact Calls.regrown_of (c4 _) | with_reducible exact regrown_k (c4 _) | with_reducible exact regrown_1 (c4 _) | with_reducible exact regrown_a (c4 _)) | (go_at_call 11; first | with_reducible exact Calls.regrown_of (one_any _) | with_reducible exact regrown_k (one_any _) | with_reducible exact regrown_1 (one_any _) | with_reducible exact regrown_a (one_any _)))))
    refine wpQuiet_nil ?_
    intro w' hbl
    clear hcr hfr
    obtain ⟨hcw, hfw, hsw⟩ := below_ifs hbl; (try simp only [World.size_alloc, World.size_setCell, World.size_drew, size_drewN_] at hcw hfw hsw)
    go_wp2_with fail
    go_ret
    exact ⟨ret_bool (by simp), by (repeat (first | with_reducible exact Below.refl _ _ | with_reducible assumption | with_reducible refine below_drewN ?_ _ | with_reducible refine Below.drew ?_ | with_reducible refine below_alloc ?_ _ | (with_reducible refine Below.setCell ?_ (by first | (simp; done) | omega | (simp; omega)) _) | with_reducible refine belows ?_ (by assumption)))⟩
set_option maxHeartbeats 8000000 in
set_option maxRecDepth 100000 in
theorem core_X (o D A B M X W1 o2 D2 A2 B2 M2 F : Int) (nm : ByteArray) (p : Bool) (hF : (F == 0) = false) (s D' A' B' M' : Int) (h82 : (s == 82) = false) (h73 : (s == 73) = false) (h66 : (s == 66) = false) (hs : (s == 0) = false)
    (c1 : ∀ w : World, Calls Try.prog 7 #[.agg #[.int .i64 o, .int .i64 D, .int .i64 A, .int .i64 B, .int .i64 M]] w fun e w' => e = .returned (.tuple #[.int .u32 X, .bool true]) ∧ Below w.heap.size w w')
    (c2 : ∀ w : World, Calls Try.prog 9 #[.int .u32 X] w fun e w' => e = .returned (.tuple #[.agg #[.int .i64 o, .int .i64 D', .int .i64 A', .int .i64 B', .int .i64 M'], .bool true]) ∧ Below w.heap.size w w')
    (c3 : ∀ w : World, Calls Try.prog 7 #[.agg #[.int .i64 o, .int .i64 D', .int .i64 A', .int .i64 B', .int .i64 M']] w fun e w' => e = .returned (.tuple #[.int .u32 X, .bool true]) ∧ Below w.heap.size w w')
    (c4 : ∀ w : World, Calls Try.prog 12 #[.int .i64 o] w fun e w' => e = .returned (.int .u8 s) ∧ Below w.heap.size w w')
    (c5 : ∀ w : World, Calls Try.prog 9 #[.int .u32 W1] w fun e w' => e = .returned (.tuple #[.agg #[.int .i64 o2, .int .i64 D2, .int .i64 A2, .int .i64 B2, .int .i64 M2], .bool p]) ∧ Below w.heap.size w w')
    (c6 : p = true → ∀ w : World, Calls Try.prog 7 #[.agg #[.int .i64 o2, .int .i64 D2, .int .i64 A2, .int .i64 B2, .int .i64 M2]] w fun e w' => e = .returned (.tuple #[.int .u32 W1, .bool true]) ∧ Below w.heap.size w w')
    (c7 : ∀ w : World, Calls Try.prog 14 #[.int .i64 o] w fun e w' => e = .returned (.string nm) ∧ Below w.heap.size w w')
    (c8 : ∀ w : World, Calls Try.prog 13 #[.string nm] w fun e w' => e = .returned (.int .i64 F) ∧ Below w.heap.size w w') (w : World) :
    Calls Try.prog 6 #[.agg #[.int .i64 o, .int .i64 D, .int .i64 A, .int .i64 B, .int .i64 M], .int .u32 W1] w fun e w' => e = .returned (.bool true) ∧ Below w.heap.size w w' := by
  go_enter Try.func6, Try.ntmps6
  cases p
  case false =>
    clear c6
    go_wp2_with (first | (go_at_call 7; (with_reducible refine (c1 _).mono ?_); rintro e w' ⟨rfl, hbl⟩; obtain ⟨hcw, hfw, hsw⟩ := below_ifs hbl; (try simp only [World.size_alloc, World.size_setCell, World.size_drew, size_drewN_] at hcw hfw hsw)) | (go_at_call 9; (with_reducible refine (c2 _).mono ?_); rintro e w' ⟨rfl, hbl⟩; obtain ⟨hcw, hfw, hsw⟩ := below_ifs hbl; (try simp only [World.size_alloc, World.size_setCell, World.size_drew, size_drewN_] at hcw hfw hsw)) | (go_at_call 7; (with_reducible refine (c3 _).mono ?_); rintro e w' ⟨rfl, hbl⟩; obtain ⟨hcw, hfw, hsw⟩ := below_ifs hbl; (try simp only [World.size_alloc, World.size_setCell, World.size_drew, size_drewN_] at hcw hfw hsw)) | (go_at_call 12; (with_reducible refine (c4 _).mono ?_); rintro e w' ⟨rfl, hbl⟩; obtain ⟨hcw, hfw, hsw⟩ := below_ifs hbl; (try simp only [World.size_alloc, World.size_setCell, World.size_drew, size_drewN_] at hcw hfw hsw)) | (go_at_call 9; (with_reducible refine (c5 _).mono ?_); rintro e w' ⟨rfl, hbl⟩; obtain ⟨hcw, hfw, hsw⟩ := below_ifs hbl; (try simp only [World.size_alloc, World.size_setCell, World.size_drew, size_drewN_] at hcw hfw hsw)))
    refine wp_region_below (by kernel_rfl) (by kernel_rfl) (fun hcr hfr => ?_)
    (try simp only [World.size_alloc, World.size_setCell, World.size_drew, size_drewN_] at hcr hfr)
    repeat (go_big_quiet_step ((first | (go_at_call 14; first | with_reducible exact Calls.regrown_of (c7 _) | with_reducible exact regrown_k (c7 _) | with_reducible exact regrown_1 (c7 _) | with_reducible exact regrown_a (c7 _)) | (go_at_call 13; first | with_reducible exact Calls.regrown_of (c8 _) | with_reducible exact regrown_k (c8 _) | with_reducible exact regrown_1 (c8 _) | with_reducible exact regrown_a (c8 _)) | (go_at_call 12; first | with_reducible exact Calls.regrown_of (c4 _) | with_reducible exact regrown_k (c4 _) | with_reducible exact regrown_1 (c4 _) | with_reducible exact regrown_a (c4 _)) | (go_at_call 11; first | with_reducible exact Calls.regrown_of (one_any _) | with_reducible exact regrown_k (one_any _) | with_reducible exact regrown_1 (one_any _) | with_reducible exact regrown_a (one_any _)))))
    refine wpQuiet_nil ?_
    intro w' hbl
    clear hcr hfr
    obtain ⟨hcw, hfw, hsw⟩ := below_ifs hbl; (try simp only [World.size_alloc, World.size_setCell, World.size_drew, size_drewN_] at hcw hfw hsw)
    go_wp2_with fail
    go_ret
    exact ⟨ret_bool (by simp), by (repeat (first | with_reducible exact Below.refl _ _ | with_reducible assumption | with_reducible refine below_drewN ?_ _ | with_reducible refine Below.drew ?_ | with_reducible refine below_alloc ?_ _ | (with_reducible refine Below.setCell ?_ (by first | (simp; done) | omega | (simp; omega)) _) | with_reducible refine belows ?_ (by assumption)))⟩
  case true =>
    have c9 := c6 rfl
    clear c6
    go_wp2_with (first | (go_at_call 7; (with_reducible refine (c1 _).mono ?_); rintro e w' ⟨rfl, hbl⟩; obtain ⟨hcw, hfw, hsw⟩ := below_ifs hbl; (try simp only [World.size_alloc, World.size_setCell, World.size_drew, size_drewN_] at hcw hfw hsw)) | (go_at_call 9; (with_reducible refine (c2 _).mono ?_); rintro e w' ⟨rfl, hbl⟩; obtain ⟨hcw, hfw, hsw⟩ := below_ifs hbl; (try simp only [World.size_alloc, World.size_setCell, World.size_drew, size_drewN_] at hcw hfw hsw)) | (go_at_call 7; (with_reducible refine (c3 _).mono ?_); rintro e w' ⟨rfl, hbl⟩; obtain ⟨hcw, hfw, hsw⟩ := below_ifs hbl; (try simp only [World.size_alloc, World.size_setCell, World.size_drew, size_drewN_] at hcw hfw hsw)) | (go_at_call 12; (with_reducible refine (c4 _).mono ?_); rintro e w' ⟨rfl, hbl⟩; obtain ⟨hcw, hfw, hsw⟩ := below_ifs hbl; (try simp only [World.size_alloc, World.size_setCell, World.size_drew, size_drewN_] at hcw hfw hsw)) | (go_at_call 9; (with_reducible refine (c5 _).mono ?_); rintro e w' ⟨rfl, hbl⟩; obtain ⟨hcw, hfw, hsw⟩ := below_ifs hbl; (try simp only [World.size_alloc, World.size_setCell, World.size_drew, size_drewN_] at hcw hfw hsw)) | (go_at_call 7; (with_reducible refine (c9 _).mono ?_); rintro e w' ⟨rfl, hbl⟩; obtain ⟨hcw, hfw, hsw⟩ := below_ifs hbl; (try simp only [World.size_alloc, World.size_setCell, World.size_drew, size_drewN_] at hcw hfw hsw)))
    refine wp_region_below (by kernel_rfl) (by kernel_rfl) (fun hcr hfr => ?_)
    (try simp only [World.size_alloc, World.size_setCell, World.size_drew, size_drewN_] at hcr hfr)
    repeat (go_big_quiet_step ((first | (go_at_call 14; first | with_reducible exact Calls.regrown_of (c7 _) | with_reducible exact regrown_k (c7 _) | with_reducible exact regrown_1 (c7 _) | with_reducible exact regrown_a (c7 _)) | (go_at_call 13; first | with_reducible exact Calls.regrown_of (c8 _) | with_reducible exact regrown_k (c8 _) | with_reducible exact regrown_1 (c8 _) | with_reducible exact regrown_a (c8 _)) | (go_at_call 12; first | with_reducible exact Calls.regrown_of (c4 _) | with_reducible exact regrown_k (c4 _) | with_reducible exact regrown_1 (c4 _) | with_reducible exact regrown_a (c4 _)) | (go_at_call 11; first | with_reducible exact Calls.regrown_of (one_any _) | with_reducible exact regrown_k (one_any _) | with_reducible exact regrown_1 (one_any _) | with_reducible exact regrown_a (one_any _)))))
    refine wpQuiet_nil ?_
    intro w' hbl
    clear hcr hfr
    obtain ⟨hcw, hfw, hsw⟩ := below_ifs hbl; (try simp only [World.size_alloc, World.size_setCell, World.size_drew, size_drewN_] at hcw hfw hsw)
    go_wp2_with fail
    go_ret
    exact ⟨ret_bool (by simp), by (repeat (first | with_reducible exact Below.refl _ _ | with_reducible assumption | with_reducible refine below_drewN ?_ _ | with_reducible refine Below.drew ?_ | with_reducible refine below_alloc ?_ _ | (with_reducible refine Below.setCell ?_ (by first | (simp; done) | omega | (simp; omega)) _) | with_reducible refine belows ?_ (by assumption)))⟩

end Go.Proofs.Ytokfokgbbpjgdaa.Back
