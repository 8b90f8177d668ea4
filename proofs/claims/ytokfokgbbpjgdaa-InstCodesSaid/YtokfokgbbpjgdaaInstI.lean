
/-
  The document's Decode.
-/
import Derived.Test.YtokfokgbbpjgdaaInstV
import Derived.Test.YtokfokgbbpjgdaaInstF
namespace Go.Proofs.Ytokfokgbbpjgdaa
open Go Go.RowKit
set_option linter.unusedVariables false
set_option linter.unusedSimpArgs false

theorem imm_is_I (y : BitVec 64) : readI 73 y = sgnF (getF y 20 12) 12 := by
  have hg : goodL (rg (rdL 73 y)) = true := by rw [rg_rd]; exact (okN_1 (show (73 : Nat) ∈ shapes by decide)).good
  have e : readF (pcs 73) y = getF y 20 12 := by
    rw [read_is]
    apply BitVec.eq_of_toNat_eq
    rw [puts_sum _ hg]
    simp only [rdL, pcs]
    simp [sumN, BitVec.toNat_add, BitVec.toNat_shiftLeft, Nat.shiftLeft_eq]
    have g0 := get_lt y 20 12 (by decide)
    simp at g0
    generalize (getF y 20 12).toNat = z0 at g0 ⊢
    omega
  unfold readI
  rw [e]
  rfl
theorem imm_is_C (y : BitVec 64) : readI 67 y = getF y 20 12 := by
  have hg : goodL (rg (rdL 67 y)) = true := by rw [rg_rd]; exact (okN_1 (show (67 : Nat) ∈ shapes by decide)).good
  have e : readF (pcs 67) y = getF y 20 12 := by
    rw [read_is]
    apply BitVec.eq_of_toNat_eq
    rw [puts_sum _ hg]
    simp only [rdL, pcs]
    simp [sumN, BitVec.toNat_add, BitVec.toNat_shiftLeft, Nat.shiftLeft_eq]
    have g0 := get_lt y 20 12 (by decide)
    simp at g0
    generalize (getF y 20 12).toNat = z0 at g0 ⊢
    omega
  unfold readI
  rw [e]
  rfl
theorem imm_is_H (y : BitVec 64) : readI 72 y = getF y 20 6 := by
  have hg : goodL (rg (rdL 72 y)) = true := by rw [rg_rd]; exact (okN_1 (show (72 : Nat) ∈ shapes by decide)).good
  have e : readF (pcs 72) y = getF y 20 6 := by
    rw [read_is]
    apply BitVec.eq_of_toNat_eq
    rw [puts_sum _ hg]
    simp only [rdL, pcs]
    simp [sumN, BitVec.toNat_add, BitVec.toNat_shiftLeft, Nat.shiftLeft_eq]
    have g0 := get_lt y 20 6 (by decide)
    simp at g0
    generalize (getF y 20 6).toNat = z0 at g0 ⊢
    omega
  unfold readI
  rw [e]
  rfl
theorem imm_is_S (y : BitVec 64) : readI 83 y = sgnF (getF y 7 5 + getF y 25 7 <<< 5) 12 := by
  have hg : goodL (rg (rdL 83 y)) = true := by rw [rg_rd]; exact (okN_1 (show (83 : Nat) ∈ shapes by decide)).good
  have e : readF (pcs 83) y = getF y 7 5 + getF y 25 7 <<< 5 := by
    rw [read_is]
    apply BitVec.eq_of_toNat_eq
    rw [puts_sum _ hg]
    simp only [rdL, pcs]
    simp [sumN, BitVec.toNat_add, BitVec.toNat_shiftLeft, Nat.shiftLeft_eq]
    have g0 := get_lt y 7 5 (by decide)
    have g1 := get_lt y 25 7 (by decide)
    simp at g0 g1
    generalize (getF y 7 5).toNat = z0 at g0 ⊢
    generalize (getF y 25 7).toNat = z1 at g1 ⊢
    omega
  unfold readI
  rw [e]
  rfl
theorem imm_is_B (y : BitVec 64) : readI 66 y = sgnF (getF y 8 4 <<< 1 + getF y 25 6 <<< 5 + getF y 7 1 <<< 11 + getF y 31 1 <<< 12) 13 := by
  have hg : goodL (rg (rdL 66 y)) = true := by rw [rg_rd]; exact (okN_1 (show (66 : Nat) ∈ shapes by decide)).good
  have e : readF (pcs 66) y = getF y 8 4 <<< 1 + getF y 25 6 <<< 5 + getF y 7 1 <<< 11 + getF y 31 1 <<< 12 := by
    rw [read_is]
    apply BitVec.eq_of_toNat_eq
    rw [puts_sum _ hg]
    simp only [rdL, pcs]
    simp [sumN, BitVec.toNat_add, BitVec.toNat_shiftLeft, Nat.shiftLeft_eq]
    have g0 := get_lt y 8 4 (by decide)
    have g1 := get_lt y 25 6 (by decide)
    have g2 := get_lt y 7 1 (by decide)
    have g3 := get_lt y 31 1 (by decide)
    simp at g0 g1 g2 g3
    generalize (getF y 8 4).toNat = z0 at g0 ⊢
    generalize (getF y 25 6).toNat = z1 at g1 ⊢
    generalize (getF y 7 1).toNat = z2 at g2 ⊢
    generalize (getF y 31 1).toNat = z3 at g3 ⊢
    omega
  unfold readI
  rw [e]
  rfl
theorem imm_is_U (y : BitVec 64) : readI 85 y = sgnF (getF y 12 20 <<< 12) 32 := by
  have hg : goodL (rg (rdL 85 y)) = true := by rw [rg_rd]; exact (okN_1 (show (85 : Nat) ∈ shapes by decide)).good
  have e : readF (pcs 85) y = getF y 12 20 <<< 12 := by
    rw [read_is]
    apply BitVec.eq_of_toNat_eq
    rw [puts_sum _ hg]
    simp only [rdL, pcs]
    simp [sumN, BitVec.toNat_add, BitVec.toNat_shiftLeft, Nat.shiftLeft_eq]
    have g0 := get_lt y 12 20 (by decide)
    simp at g0
    generalize (getF y 12 20).toNat = z0 at g0 ⊢
    omega
  unfold readI
  rw [e]
  rfl
theorem imm_is_J (y : BitVec 64) : readI 74 y = sgnF (getF y 21 10 <<< 1 + getF y 20 1 <<< 11 + getF y 12 8 <<< 12 + getF y 31 1 <<< 20) 21 := by
  have hg : goodL (rg (rdL 74 y)) = true := by rw [rg_rd]; exact (okN_1 (show (74 : Nat) ∈ shapes by decide)).good
  have e : readF (pcs 74) y = getF y 21 10 <<< 1 + getF y 20 1 <<< 11 + getF y 12 8 <<< 12 + getF y 31 1 <<< 20 := by
    rw [read_is]
    apply BitVec.eq_of_toNat_eq
    rw [puts_sum _ hg]
    simp only [rdL, pcs]
    simp [sumN, BitVec.toNat_add, BitVec.toNat_shiftLeft, Nat.shiftLeft_eq]
    have g0 := get_lt y 12 8 (by decide)
    have g1 := get_lt y 20 1 (by decide)
    have g2 := get_lt y 21 10 (by decide)
    have g3 := get_lt y 31 1 (by decide)
    simp at g0 g1 g2 g3
    generalize (getF y 12 8).toNat = z0 at g0 ⊢
    generalize (getF y 20 1).toNat = z1 at g1 ⊢
    generalize (getF y 21 10).toNat = z2 at g2 ⊢
    generalize (getF y 31 1).toNat = z3 at g3 ⊢
    omega
  unfold readI
  rw [e]
  rfl
set_option maxHeartbeats 8000000 in
set_option maxRecDepth 100000 in
theorem imm_R (y : BitVec 64) (w : World) : Calls Try.prog 30 #[.int .u32 (U y), .int .u8 82] w fun e w' => e = .returned (.int .i64 (S (readI 82 y))) ∧ Below w.heap.size w w' := by
  rw [show S (readI 82 y) = 0 from rfl]
  go_enter Try.func30, Try.ntmps30
  go_wp2_with (first | (go_at_call 31; (with_reducible refine (rget13_any _ _ _ _).mono ?_); rintro e w' ⟨rfl, hbl⟩; obtain ⟨hcw, hfw, hsw⟩ := below_ifs hbl; (try simp only [World.size_alloc, World.size_setCell, World.size_drew, size_drewN_] at hcw hfw hsw)) | (go_at_call 38; (with_reducible refine (signed_any _ _ _).mono ?_); rintro e w' ⟨rfl, hbl⟩; obtain ⟨hcw, hfw, hsw⟩ := below_ifs hbl; (try simp only [World.size_alloc, World.size_setCell, World.size_drew, size_drewN_] at hcw hfw hsw)))
  go_ret
  exact ⟨rfl, by (repeat (first | with_reducible exact Below.refl _ _ | with_reducible assumption | with_reducible refine below_drewN ?_ _ | with_reducible refine Below.drew ?_ | with_reducible refine below_alloc ?_ _ | (with_reducible refine Below.setCell ?_ (by first | (simp; done) | omega | (simp; omega)) _) | with_reducible refine belows ?_ (by assumption)))⟩
set_option maxHeartbeats 8000000 in
set_option maxRecDepth 100000 in
theorem imm_G (y : BitVec 64) (w : World) : Calls Try.prog 30 #[.int .u32 (U y), .int .u8 71] w fun e w' => e = .returned (.int .i64 (S (readI 71 y))) ∧ Below w.heap.size w w' := by
  rw [show S (readI 71 y) = 0 from rfl]
  go_enter Try.func30, Try.ntmps30
  go_wp2_with (first | (go_at_call 31; (with_reducible refine (rget13_any _ _ _ _).mono ?_); rintro e w' ⟨rfl, hbl⟩; obtain ⟨hcw, hfw, hsw⟩ := below_ifs hbl; (try simp only [World.size_alloc, World.size_setCell, World.size_drew, size_drewN_] at hcw hfw hsw)) | (go_at_call 38; (with_reducible refine (signed_any _ _ _).mono ?_); rintro e w' ⟨rfl, hbl⟩; obtain ⟨hcw, hfw, hsw⟩ := below_ifs hbl; (try simp only [World.size_alloc, World.size_setCell, World.size_drew, size_drewN_] at hcw hfw hsw)))
  go_ret
  exact ⟨rfl, by (repeat (first | with_reducible exact Below.refl _ _ | with_reducible assumption | with_reducible refine below_drewN ?_ _ | with_reducible refine Below.drew ?_ | with_reducible refine below_alloc ?_ _ | (with_reducible refine Below.setCell ?_ (by first | (simp; done) | omega | (simp; omega)) _) | with_reducible refine belows ?_ (by assumption)))⟩
set_option maxHeartbeats 8000000 in
set_option maxRecDepth 100000 in
theorem imm_N (y : BitVec 64) (w : World) : Calls Try.prog 30 #[.int .u32 (U y), .int .u8 78] w fun e w' => e = .returned (.int .i64 (S (readI 78 y))) ∧ Below w.heap.size w w' := by
  rw [show S (readI 78 y) = 0 from rfl]
  go_enter Try.func30, Try.ntmps30
  go_wp2_with (first | (go_at_call 31; (with_reducible refine (rget13_any _ _ _ _).mono ?_); rintro e w' ⟨rfl, hbl⟩; obtain ⟨hcw, hfw, hsw⟩ := below_ifs hbl; (try simp only [World.size_alloc, World.size_setCell, World.size_drew, size_drewN_] at hcw hfw hsw)) | (go_at_call 38; (with_reducible refine (signed_any _ _ _).mono ?_); rintro e w' ⟨rfl, hbl⟩; obtain ⟨hcw, hfw, hsw⟩ := below_ifs hbl; (try simp only [World.size_alloc, World.size_setCell, World.size_drew, size_drewN_] at hcw hfw hsw)))
  go_ret
  exact ⟨rfl, by (repeat (first | with_reducible exact Below.refl _ _ | with_reducible assumption | with_reducible refine below_drewN ?_ _ | with_reducible refine Below.drew ?_ | with_reducible refine below_alloc ?_ _ | (with_reducible refine Below.setCell ?_ (by first | (simp; done) | omega | (simp; omega)) _) | with_reducible refine belows ?_ (by assumption)))⟩
set_option maxHeartbeats 8000000 in
set_option maxRecDepth 100000 in
theorem imm_I (y : BitVec 64) (w : World) : Calls Try.prog 30 #[.int .u32 (U y), .int .u8 73] w fun e w' => e = .returned (.int .i64 (S (readI 73 y))) ∧ Below w.heap.size w w' := by
  rw [imm_is_I]
  go_enter Try.func30, Try.ntmps30
  go_wp2_with (first | (go_at_call 31; (with_reducible refine (rget13_any _ _ _ _).mono ?_); rintro e w' ⟨rfl, hbl⟩; obtain ⟨hcw, hfw, hsw⟩ := below_ifs hbl; (try simp only [World.size_alloc, World.size_setCell, World.size_drew, size_drewN_] at hcw hfw hsw)) | (go_at_call 38; (with_reducible refine (signed_any _ _ _).mono ?_); rintro e w' ⟨rfl, hbl⟩; obtain ⟨hcw, hfw, hsw⟩ := below_ifs hbl; (try simp only [World.size_alloc, World.size_setCell, World.size_drew, size_drewN_] at hcw hfw hsw)))
  go_ret
  exact ⟨rfl, by (repeat (first | with_reducible exact Below.refl _ _ | with_reducible assumption | with_reducible refine below_drewN ?_ _ | with_reducible refine Below.drew ?_ | with_reducible refine below_alloc ?_ _ | (with_reducible refine Below.setCell ?_ (by first | (simp; done) | omega | (simp; omega)) _) | with_reducible refine belows ?_ (by assumption)))⟩
set_option maxHeartbeats 8000000 in
set_option maxRecDepth 100000 in
theorem imm_C (y : BitVec 64) (w : World) : Calls Try.prog 30 #[.int .u32 (U y), .int .u8 67] w fun e w' => e = .returned (.int .i64 (S (readI 67 y))) ∧ Below w.heap.size w w' := by
  rw [imm_is_C]
  go_enter Try.func30, Try.ntmps30
  go_wp2_with (first | (go_at_call 31; (with_reducible refine (rget13_any _ _ _ _).mono ?_); rintro e w' ⟨rfl, hbl⟩; obtain ⟨hcw, hfw, hsw⟩ := below_ifs hbl; (try simp only [World.size_alloc, World.size_setCell, World.size_drew, size_drewN_] at hcw hfw hsw)) | (go_at_call 38; (with_reducible refine (signed_any _ _ _).mono ?_); rintro e w' ⟨rfl, hbl⟩; obtain ⟨hcw, hfw, hsw⟩ := below_ifs hbl; (try simp only [World.size_alloc, World.size_setCell, World.size_drew, size_drewN_] at hcw hfw hsw)))
  go_ret
  exact ⟨rfl, by (repeat (first | with_reducible exact Below.refl _ _ | with_reducible assumption | with_reducible refine below_drewN ?_ _ | with_reducible refine Below.drew ?_ | with_reducible refine below_alloc ?_ _ | (with_reducible refine Below.setCell ?_ (by first | (simp; done) | omega | (simp; omega)) _) | with_reducible refine belows ?_ (by assumption)))⟩
set_option maxHeartbeats 8000000 in
set_option maxRecDepth 100000 in
theorem imm_H (y : BitVec 64) (w : World) : Calls Try.prog 30 #[.int .u32 (U y), .int .u8 72] w fun e w' => e = .returned (.int .i64 (S (readI 72 y))) ∧ Below w.heap.size w w' := by
  rw [imm_is_H]
  go_enter Try.func30, Try.ntmps30
  go_wp2_with (first | (go_at_call 31; (with_reducible refine (rget13_any _ _ _ _).mono ?_); rintro e w' ⟨rfl, hbl⟩; obtain ⟨hcw, hfw, hsw⟩ := below_ifs hbl; (try simp only [World.size_alloc, World.size_setCell, World.size_drew, size_drewN_] at hcw hfw hsw)) | (go_at_call 38; (with_reducible refine (signed_any _ _ _).mono ?_); rintro e w' ⟨rfl, hbl⟩; obtain ⟨hcw, hfw, hsw⟩ := below_ifs hbl; (try simp only [World.size_alloc, World.size_setCell, World.size_drew, size_drewN_] at hcw hfw hsw)))
  go_ret
  exact ⟨rfl, by (repeat (first | with_reducible exact Below.refl _ _ | with_reducible assumption | with_reducible refine below_drewN ?_ _ | with_reducible refine Below.drew ?_ | with_reducible refine below_alloc ?_ _ | (with_reducible refine Below.setCell ?_ (by first | (simp; done) | omega | (simp; omega)) _) | with_reducible refine belows ?_ (by assumption)))⟩
set_option maxHeartbeats 8000000 in
set_option maxRecDepth 100000 in
theorem imm_S (y : BitVec 64) (w : World) : Calls Try.prog 30 #[.int .u32 (U y), .int .u8 83] w fun e w' => e = .returned (.int .i64 (S (readI 83 y))) ∧ Below w.heap.size w w' := by
  rw [imm_is_S]
  go_enter Try.func30, Try.ntmps30
  go_wp2_with (first | (go_at_call 31; (with_reducible refine (rget13_any _ _ _ _).mono ?_); rintro e w' ⟨rfl, hbl⟩; obtain ⟨hcw, hfw, hsw⟩ := below_ifs hbl; (try simp only [World.size_alloc, World.size_setCell, World.size_drew, size_drewN_] at hcw hfw hsw)) | (go_at_call 38; (with_reducible refine (signed_any _ _ _).mono ?_); rintro e w' ⟨rfl, hbl⟩; obtain ⟨hcw, hfw, hsw⟩ := below_ifs hbl; (try simp only [World.size_alloc, World.size_setCell, World.size_drew, size_drewN_] at hcw hfw hsw)))
  go_ret
  exact ⟨rfl, by (repeat (first | with_reducible exact Below.refl _ _ | with_reducible assumption | with_reducible refine below_drewN ?_ _ | with_reducible refine Below.drew ?_ | with_reducible refine below_alloc ?_ _ | (with_reducible refine Below.setCell ?_ (by first | (simp; done) | omega | (simp; omega)) _) | with_reducible refine belows ?_ (by assumption)))⟩
set_option maxHeartbeats 8000000 in
set_option maxRecDepth 100000 in
theorem imm_B (y : BitVec 64) (w : World) : Calls Try.prog 30 #[.int .u32 (U y), .int .u8 66] w fun e w' => e = .returned (.int .i64 (S (readI 66 y))) ∧ Below w.heap.size w w' := by
  rw [imm_is_B]
  go_enter Try.func30, Try.ntmps30
  go_wp2_with (first | (go_at_call 31; (with_reducible refine (rget13_any _ _ _ _).mono ?_); rintro e w' ⟨rfl, hbl⟩; obtain ⟨hcw, hfw, hsw⟩ := below_ifs hbl; (try simp only [World.size_alloc, World.size_setCell, World.size_drew, size_drewN_] at hcw hfw hsw)) | (go_at_call 38; (with_reducible refine (signed_any _ _ _).mono ?_); rintro e w' ⟨rfl, hbl⟩; obtain ⟨hcw, hfw, hsw⟩ := below_ifs hbl; (try simp only [World.size_alloc, World.size_setCell, World.size_drew, size_drewN_] at hcw hfw hsw)))
  go_ret
  exact ⟨rfl, by (repeat (first | with_reducible exact Below.refl _ _ | with_reducible assumption | with_reducible refine below_drewN ?_ _ | with_reducible refine Below.drew ?_ | with_reducible refine below_alloc ?_ _ | (with_reducible refine Below.setCell ?_ (by first | (simp; done) | omega | (simp; omega)) _) | with_reducible refine belows ?_ (by assumption)))⟩
set_option maxHeartbeats 8000000 in
set_option maxRecDepth 100000 in
theorem imm_U (y : BitVec 64) (w : World) : Calls Try.prog 30 #[.int .u32 (U y), .int .u8 85] w fun e w' => e = .returned (.int .i64 (S (readI 85 y))) ∧ Below w.heap.size w w' := by
  rw [imm_is_U]
  go_enter Try.func30, Try.ntmps30
  go_wp2_with (first | (go_at_call 31; (with_reducible refine (rget13_any _ _ _ _).mono ?_); rintro e w' ⟨rfl, hbl⟩; obtain ⟨hcw, hfw, hsw⟩ := below_ifs hbl; (try simp only [World.size_alloc, World.size_setCell, World.size_drew, size_drewN_] at hcw hfw hsw)) | (go_at_call 38; (with_reducible refine (signed_any _ _ _).mono ?_); rintro e w' ⟨rfl, hbl⟩; obtain ⟨hcw, hfw, hsw⟩ := below_ifs hbl; (try simp only [World.size_alloc, World.size_setCell, World.size_drew, size_drewN_] at hcw hfw hsw)))
  go_ret
  exact ⟨rfl, by (repeat (first | with_reducible exact Below.refl _ _ | with_reducible assumption | with_reducible refine below_drewN ?_ _ | with_reducible refine Below.drew ?_ | with_reducible refine below_alloc ?_ _ | (with_reducible refine Below.setCell ?_ (by first | (simp; done) | omega | (simp; omega)) _) | with_reducible refine belows ?_ (by assumption)))⟩
set_option maxHeartbeats 8000000 in
set_option maxRecDepth 100000 in
theorem imm_J (y : BitVec 64) (w : World) : Calls Try.prog 30 #[.int .u32 (U y), .int .u8 74] w fun e w' => e = .returned (.int .i64 (S (readI 74 y))) ∧ Below w.heap.size w w' := by
  rw [imm_is_J]
  go_enter Try.func30, Try.ntmps30
  go_wp2_with (first | (go_at_call 31; (with_reducible refine (rget13_any _ _ _ _).mono ?_); rintro e w' ⟨rfl, hbl⟩; obtain ⟨hcw, hfw, hsw⟩ := below_ifs hbl; (try simp only [World.size_alloc, World.size_setCell, World.size_drew, size_drewN_] at hcw hfw hsw)) | (go_at_call 38; (with_reducible refine (signed_any _ _ _).mono ?_); rintro e w' ⟨rfl, hbl⟩; obtain ⟨hcw, hfw, hsw⟩ := below_ifs hbl; (try simp only [World.size_alloc, World.size_setCell, World.size_drew, size_drewN_] at hcw hfw hsw)))
  go_ret
  exact ⟨rfl, by (repeat (first | with_reducible exact Below.refl _ _ | with_reducible assumption | with_reducible refine below_drewN ?_ _ | with_reducible refine Below.drew ?_ | with_reducible refine below_alloc ?_ _ | (with_reducible refine Below.setCell ?_ (by first | (simp; done) | omega | (simp; omega)) _) | with_reducible refine belows ?_ (by assumption)))⟩
theorem imm_any (s : Nat) (hs : s ∈ shapes) (y : BitVec 64) (w : World) : Calls Try.prog 30 #[.int .u32 (U y), .int .u8 (s : Int)] w fun e w' => e = .returned (.int .i64 (S (readI s y))) ∧ Below w.heap.size w w' := by
  simp only [shapes, List.mem_cons, List.not_mem_nil, or_false] at hs
  rcases hs with rfl | rfl | rfl | rfl | rfl | rfl | rfl | rfl | rfl | rfl
  · exact imm_R y w
  · exact imm_G y w
  · exact imm_N y w
  · exact imm_I y w
  · exact imm_C y w
  · exact imm_H y w
  · exact imm_S y w
  · exact imm_B y w
  · exact imm_U y w
  · exact imm_J y w

end Go.Proofs.Ytokfokgbbpjgdaa
