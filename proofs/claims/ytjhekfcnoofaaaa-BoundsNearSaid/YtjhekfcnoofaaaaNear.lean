
/-
  BoundsNear: what is kept is told again beside each address from as much below its base on, up to three times that above it. Every input.
-/
import Derived.Test.YtjhekfcnoofaaaaRows
import Derived.Test.YtjhekfcnoofaaaaLaw
import Derived.Test.YtjhekfcnoofaaaaBoundsW
import Derived.Test.YtjhekfcnoofaaaaBoundsD
import Derived.Test.YtjhekfcnoofaaaaBoundsL
import Derived.Outline
namespace Go.Proofs.Ytjhekfcnoofaaaa.Near
open Go Go.RowKit Go.ChangeShapes Go.WideShapes Go.ChangeAt
set_option linter.unusedVariables false
set_option linter.unusedSimpArgs false

theorem span_any (a b : BitVec 64) (w : World) : Calls Try.prog 15 #[.int .u64 (U a), .int .u64 (U b)] w fun r w' => r = .returned (.agg #[.int .u64 (U (lowS a b)), .int .u64 (U (highS a b))]) ∧ Below w.heap.size w w' := by
  unfold lowS highS
  by_cases h : U (a % 281474976710657#64) ≤ U (b % 281474976710657#64)
  · rw [if_pos h, if_pos h]
    go_enter Try.func15, Try.ntmps15
    go_wp2_with fail
    refine bodyPost_ret (results_c [.int .u64 (U (a % 281474976710657#64)), .int .u64 (U (b % 281474976710657#64))] Try.results15 rfl ?_ Try.underlying29 rfl (by kernel_rfl)) rfl ?_
    · (first | (go_simp; done) | (go_simp; (simp [↓IntWalk.iteOmega]; done)) | (go_simp; intros; omega) | (go_simp; simp [↓IntWalk.iteOmega]; intros; omega))
    · exact ⟨rfl, by (repeat (first | with_reducible exact Below.refl _ _ | with_reducible assumption | with_reducible refine below_drewN ?_ _ | with_reducible refine Below.drew ?_ | with_reducible refine below_alloc ?_ _ | (with_reducible refine Below.setCell ?_ (by first | (simp; done) | omega | (simp; omega)) _) | with_reducible refine belows ?_ (by assumption)))⟩
  · rw [if_neg h, if_neg h]
    have h' : U (b % 281474976710657#64) < U (a % 281474976710657#64) := by omega
    clear h
    go_enter Try.func15, Try.ntmps15
    go_wp2_with fail
    refine bodyPost_ret (results_c [.int .u64 (U (b % 281474976710657#64)), .int .u64 (U (a % 281474976710657#64))] Try.results15 rfl ?_ Try.underlying29 rfl (by kernel_rfl)) rfl ?_
    · (first | (go_simp; done) | (go_simp; (simp [↓IntWalk.iteOmega]; done)) | (go_simp; intros; omega) | (go_simp; simp [↓IntWalk.iteOmega]; intros; omega))
    · exact ⟨rfl, by (repeat (first | with_reducible exact Below.refl _ _ | with_reducible assumption | with_reducible refine below_drewN ?_ _ | with_reducible refine Below.drew ?_ | with_reducible refine below_alloc ?_ _ | (with_reducible refine Below.setCell ?_ (by first | (simp; done) | omega | (simp; omega)) _) | with_reducible refine belows ?_ (by assumption)))⟩
/-- One word is below another one. -/
def belowP (l h : BitVec 64) : Prop := l.toNat < h.toNat
theorem rem_apart (l h : BitVec 64) (g : belowP l h) : 0 < U (h - l) := by
  unfold belowP at g
  unfold U
  rw [BitVec.toNat_sub_of_le (by rw [BitVec.le_def]; omega)]
  omega
theorem rem_zero (h : BitVec 64) (g : belowP 0#64 h) : 0 < U h := by
  unfold belowP at g
  unfold U
  simp at g
  omega
theorem window_N (k : BitVec 64) (x : Nat) (hk : k.toNat ≤ 3) (hx : x ≤ 36) : (k <<< (12 + x)).toNat = k.toNat * 4096 * 2 ^ x := by
  have hp : 2 ^ x ≤ 2 ^ 36 := Nat.pow_le_pow_right (by omega) hx
  have h1 : k.toNat * 4096 * 2 ^ x ≤ 3 * 4096 * 2 ^ 36 := Nat.mul_le_mul (by omega) hp
  rw [BitVec.toNat_shiftLeft, Nat.shiftLeft_eq, Nat.pow_add, ← Nat.mul_assoc, show (2 : Nat) ^ 12 = 4096 from rfl]
  exact Nat.mod_eq_of_lt (by omega)
theorem near_z {s t : BitVec 64} (hm : mayS s t = true) (x : Nat) (hx : kX s t = x) (a l h : BitVec 64)
    (hl : (U (1#64 <<< (12 + x)) < U (kB s t) ∧ l = kB s t - 1#64 <<< (12 + x)) ∨ (U (kB s t) ≤ U (1#64 <<< (12 + x)) ∧ l = 0#64))
    (hh : (281474976710656 ≤ U (kB s t + 3#64 <<< (12 + x)) ∧ h = 281474976710656#64) ∨ (U (kB s t + 3#64 <<< (12 + x)) < 281474976710656 ∧ h = kB s t + 3#64 <<< (12 + x))) :
    belowP l h ∧ decOk (fB s t) (fT s t) (kE s t) (l + a % (h - l)) = true ∧ decB (fB s t) (fT s t) (kE s t) (l + a % (h - l)) = kB s t ∧ decT (fB s t) (fT s t) (kE s t) (l + a % (h - l)) = kT s t := by
  obtain ⟨m1, m2⟩ := mayS_true hm
  have h36 := kX_le hm
  rw [hx] at h36
  have w1 := window_N 1#64 x (by decide) h36
  have w3 := window_N 3#64 x (by decide) h36
  simp only [show (1#64).toNat = 1 from rfl] at w1
  simp only [show (3#64).toNat = 3 from rfl] at w3
  have hk := kB_nat hm
  have hk1 := kb_le s.toNat t.toNat
  have hp := pow_pos' x
  have hp2 : 2 ^ x ≤ 2 ^ 36 := Nat.pow_le_pow_right (by omega) h36
  have ht : (kB s t + 3#64 <<< (12 + x)).toNat = (kB s t).toNat + 3 * 4096 * 2 ^ x := by
    rw [BitVec.toNat_add, w3]; omega
  have h48 : (281474976710656#64).toNat = 281474976710656 := rfl
  unfold U at hl hh
  rw [w1] at hl
  rw [ht] at hh
  have hln : l.toNat ≤ (kB s t).toNat ∧ (kB s t).toNat ≤ l.toNat + 4096 * 2 ^ x := by
    rcases hl with ⟨g, rfl⟩ | ⟨g, rfl⟩
    · rw [BitVec.toNat_sub_of_le (by rw [BitVec.le_def, w1]; omega), w1]; omega
    · simp only [show (0#64).toNat = 0 from rfl]; omega
  have hhn : h.toNat ≤ 281474976710656 ∧ h.toNat ≤ (kB s t).toNat + 12288 * 2 ^ x ∧ l.toNat < h.toNat := by
    rcases hh with ⟨g, rfl⟩ | ⟨g, rfl⟩
    · rw [h48]
      refine ⟨by omega, by omega, ?_⟩
      rcases hl with ⟨g2, rfl⟩ | ⟨g2, rfl⟩
      · rw [BitVec.toNat_sub_of_le (by rw [BitVec.le_def, w1]; omega), w1]; omega
      · simp only [show (0#64).toNat = 0 from rfl]; omega
    · rw [ht]; omega
  have hr := Nat.mod_lt a.toNat (show h.toNat - l.toNat > 0 by omega)
  have hz : (l + a % (h - l)).toNat = l.toNat + a.toNat % (h.toNat - l.toNat) := by
    rw [BitVec.toNat_add, BitVec.toNat_umod, BitVec.toNat_sub_of_le (by rw [BitVec.le_def]; omega)]
    omega
  generalize a.toNat % (h.toNat - l.toNat) = r at *
  obtain ⟨n1, n2, n3⟩ := near_is hm (l + a % (h - l)) (by rw [hz]; omega) (by rw [hz, ← hk, hx]; omega) (by rw [hz, ← hk, hx]; omega)
  exact ⟨hhn.2.2, n1, n2, n3⟩
theorem window_0 : (1#64 <<< (12 + 0)) = 4096#64 ∧ (3#64 <<< (12 + 0)) = 12288#64 := by decide
theorem near_z0 {s t : BitVec 64} (hm : mayS s t = true) (hx : kX s t = 0) (a l h : BitVec 64)
    (hl : (U 4096#64 < U (kB s t) ∧ l = kB s t - 4096#64) ∨ (U (kB s t) ≤ U 4096#64 ∧ l = 0#64))
    (hh : (281474976710656 ≤ U (kB s t + 12288#64) ∧ h = 281474976710656#64) ∨ (U (kB s t + 12288#64) < 281474976710656 ∧ h = kB s t + 12288#64)) :
    belowP l h ∧ decOk (fB s t) (fT s t) (kE s t) (l + a % (h - l)) = true ∧ decB (fB s t) (fT s t) (kE s t) (l + a % (h - l)) = kB s t ∧ decT (fB s t) (fT s t) (kE s t) (l + a % (h - l)) = kT s t := by
  have g := near_z hm 0 hx a l h
  rw [window_0.1, window_0.2] at g
  exact g hl hh
theorem near_base {s t : BitVec 64} (hm : mayS s t = true) (h : (U (kB s t) == 281474976710656) = false) : decOk (fB s t) (fT s t) (kE s t) (kB s t) = true ∧ decB (fB s t) (fT s t) (kE s t) (kB s t) = kB s t ∧ decT (fB s t) (fT s t) (kE s t) (kB s t) = kT s t := by
  obtain ⟨m1, m2⟩ := mayS_true hm
  have hk := kB_nat hm
  have hk1 := kb_le s.toNat t.toNat
  have hp := pow_pos' (kX s t)
  have hne : (kB s t).toNat ≠ 281474976710656 := by
    intro e
    have : U (kB s t) = 281474976710656 := by unfold U; omega
    rw [this] at h
    simp at h
  exact near_is hm (kB s t) (by omega) (by omega) (by omega)
attribute [go_sem 2000] rem_apart rem_zero
attribute [local irreducible] U
set_option maxHeartbeats 8000000 in
set_option maxRecDepth 100000 in
theorem walk_zlh (a0 b0 s t a : BitVec 64) (x : Nat) (hs : lowS a0 b0 = s) (ht : highS a0 b0 = t) (hm : mayS s t = true) (hx : kX s t = x) (hE : kE s t = 0#64 ∧ x = 0) (hl : U (4096#64) < U (kB s t)) (hh : 281474976710656 ≤ U (kB s t + 12288#64)) (htop : (U (kB s t) == 281474976710656) = false) (w : World) :
    Calls Try.prog 9 #[.int .u64 (U a0), .int .u64 (U b0), .int .u64 (U a)] w fun r w' => r = .returned (.bool true) ∧ Below w.heap.size w w' := by
  have cs : ∀ w : World, Calls Try.prog 15 #[.int .u64 (U a0), .int .u64 (U b0)] w fun r w' => r = .returned (.agg #[.int .u64 (U s), .int .u64 (U t)]) ∧ Below w.heap.size w w' := fun w => (span_any a0 b0 w).mono fun _ _ g => ⟨by rw [g.1, hs, ht], g.2⟩
  have h36 := kX_le hm
  rw [hx] at h36
  obtain ⟨hE, rfl⟩ := hE
  have q := near_z0 hm hx a (kB s t - 4096#64) 281474976710656#64 (.inl ⟨hl, rfl⟩) (.inl ⟨hh, rfl⟩)
  obtain ⟨q0, q1, q2, q3⟩ := q
  have ce : ∀ w : World, Calls Try.prog 17 #[.agg #[.int .u64 (U s), .int .u64 (U t)]] w fun r w' => r = .returned (.tuple #[.agg #[.int .u64 (U (fB s t)), .int .u64 (U (fT s t)), .int .u64 0], .bool (kB s t == s && kT s t == t)]) ∧ Below w.heap.size w w' := fun w => (encode_yes s t hm w).mono fun _ _ g => ⟨by rw [g.1, hE, U_zero], g.2⟩
  have cr : ∀ w : World, Calls Try.prog 16 #[.agg #[.int .u64 (U s), .int .u64 (U t)]] w fun r w' => r = .returned (.tuple #[.agg #[.int .u64 (U (kB s t)), .int .u64 (U (kT s t))], .bool true]) ∧ Below w.heap.size w w' := fun w => rounded_yes s t hm w
  have cd : ∀ w : World, Calls Try.prog 12 #[.agg #[.int .u64 (U (fB s t)), .int .u64 (U (fT s t)), .int .u64 0], .int .u64 (U (kB s t - 4096#64 + a % (281474976710656#64 - (kB s t - 4096#64))))] w fun r w' => r = .returned (.tuple #[.agg #[.int .u64 (U (kB s t)), .int .u64 (U (kT s t))], .bool true]) ∧ Below w.heap.size w w' := fun w => by
    have g := decode_any (fB s t) (fT s t) (kE s t) (kB s t - 4096#64 + a % (281474976710656#64 - (kB s t - 4096#64))) w
    rw [q1, q2, q3, hE, U_zero] at g
    exact g
  obtain ⟨p1, p2, p3⟩ := near_base hm htop
  have cn : ∀ w : World, Calls Try.prog 14 #[.agg #[.int .u64 (U (fB s t)), .int .u64 (U (fT s t)), .int .u64 0], .int .u64 (U (kB s t)), .int .u64 (U (kB s t - 4096#64 + a % (281474976710656#64 - (kB s t - 4096#64))))] w fun r w' => r = .returned (.bool true) ∧ Below w.heap.size w w' := fun w => by
    have g := near_any (fB s t) (fT s t) (kE s t) (kB s t) (kB s t - 4096#64 + a % (281474976710656#64 - (kB s t - 4096#64))) w
    rw [q1, q2, q3, p1, p2, p3, hE, U_zero] at g
    refine g.mono fun _ _ g => ⟨by rw [g.1]; simp, g.2⟩
  clear p1 p2 p3
  have hd : decide (281474976710656 ≤ U (kB s t - 4096#64)) = false := decide_eq_false (by have := q0; unfold belowP at this; unfold U; simp only [show (281474976710656#64).toNat = 281474976710656 from rfl] at this; omega)
  have hmin : min (U (kB s t + 12288#64)) 281474976710656 = 281474976710656 := by omega
  clear hh hs ht hm hx hE h36 q1 q2 q3
  go_enter Try.func9, Try.ntmps9
  go_wp2_with (first | (go_at_call 15; (with_reducible refine (cs _).mono ?_); rintro e w' ⟨rfl, hbl⟩; obtain ⟨hcw, hfw, hsw⟩ := below_ifs hbl; (try simp only [World.size_alloc, World.size_setCell, World.size_drew, size_drewN_] at hcw hfw hsw)) | (go_at_call 17; (with_reducible refine (ce _).mono ?_); rintro e w' ⟨rfl, hbl⟩; obtain ⟨hcw, hfw, hsw⟩ := below_ifs hbl; (try simp only [World.size_alloc, World.size_setCell, World.size_drew, size_drewN_] at hcw hfw hsw)) | (go_at_call 16; (with_reducible refine (cr _).mono ?_); rintro e w' ⟨rfl, hbl⟩; obtain ⟨hcw, hfw, hsw⟩ := below_ifs hbl; (try simp only [World.size_alloc, World.size_setCell, World.size_drew, size_drewN_] at hcw hfw hsw)))
  go_region
  go_wp2_with (first | (go_at_call 12; (with_reducible refine (cd _).mono ?_); rintro e w' ⟨rfl, hbl⟩; obtain ⟨hcw, hfw, hsw⟩ := below_ifs hbl; (try simp only [World.size_alloc, World.size_setCell, World.size_drew, size_drewN_] at hcw hfw hsw)) | (go_at_call 14; (with_reducible refine (cn _).mono ?_); rintro e w' ⟨rfl, hbl⟩; obtain ⟨hcw, hfw, hsw⟩ := below_ifs hbl; (try simp only [World.size_alloc, World.size_setCell, World.size_drew, size_drewN_] at hcw hfw hsw)))
  go_ret
  exact ⟨rfl, by (repeat (first | with_reducible exact Below.refl _ _ | with_reducible assumption | with_reducible refine below_drewN ?_ _ | with_reducible refine Below.drew ?_ | with_reducible refine below_alloc ?_ _ | (with_reducible refine Below.setCell ?_ (by first | (simp; done) | omega | (simp; omega)) _) | with_reducible refine belows ?_ (by assumption)))⟩
set_option maxHeartbeats 8000000 in
set_option maxRecDepth 100000 in
theorem walk_zlht (a0 b0 s t a : BitVec 64) (x : Nat) (hs : lowS a0 b0 = s) (ht : highS a0 b0 = t) (hm : mayS s t = true) (hx : kX s t = x) (hE : kE s t = 0#64 ∧ x = 0) (hl : U (4096#64) < U (kB s t)) (hh : 281474976710656 ≤ U (kB s t + 12288#64)) (htop : (U (kB s t) == 281474976710656) = true) (w : World) :
    Calls Try.prog 9 #[.int .u64 (U a0), .int .u64 (U b0), .int .u64 (U a)] w fun r w' => r = .returned (.bool true) ∧ Below w.heap.size w w' := by
  have cs : ∀ w : World, Calls Try.prog 15 #[.int .u64 (U a0), .int .u64 (U b0)] w fun r w' => r = .returned (.agg #[.int .u64 (U s), .int .u64 (U t)]) ∧ Below w.heap.size w w' := fun w => (span_any a0 b0 w).mono fun _ _ g => ⟨by rw [g.1, hs, ht], g.2⟩
  have h36 := kX_le hm
  rw [hx] at h36
  obtain ⟨hE, rfl⟩ := hE
  have q := near_z0 hm hx a (kB s t - 4096#64) 281474976710656#64 (.inl ⟨hl, rfl⟩) (.inl ⟨hh, rfl⟩)
  obtain ⟨q0, q1, q2, q3⟩ := q
  have ce : ∀ w : World, Calls Try.prog 17 #[.agg #[.int .u64 (U s), .int .u64 (U t)]] w fun r w' => r = .returned (.tuple #[.agg #[.int .u64 (U (fB s t)), .int .u64 (U (fT s t)), .int .u64 0], .bool (kB s t == s && kT s t == t)]) ∧ Below w.heap.size w w' := fun w => (encode_yes s t hm w).mono fun _ _ g => ⟨by rw [g.1, hE, U_zero], g.2⟩
  have cr : ∀ w : World, Calls Try.prog 16 #[.agg #[.int .u64 (U s), .int .u64 (U t)]] w fun r w' => r = .returned (.tuple #[.agg #[.int .u64 (U (kB s t)), .int .u64 (U (kT s t))], .bool true]) ∧ Below w.heap.size w w' := fun w => rounded_yes s t hm w
  have cd : ∀ w : World, Calls Try.prog 12 #[.agg #[.int .u64 (U (fB s t)), .int .u64 (U (fT s t)), .int .u64 0], .int .u64 (U (kB s t - 4096#64 + a % (281474976710656#64 - (kB s t - 4096#64))))] w fun r w' => r = .returned (.tuple #[.agg #[.int .u64 (U (kB s t)), .int .u64 (U (kT s t))], .bool true]) ∧ Below w.heap.size w w' := fun w => by
    have g := decode_any (fB s t) (fT s t) (kE s t) (kB s t - 4096#64 + a % (281474976710656#64 - (kB s t - 4096#64))) w
    rw [q1, q2, q3, hE, U_zero] at g
    exact g
  have hd : decide (281474976710656 ≤ U (kB s t - 4096#64)) = false := decide_eq_false (by have := q0; unfold belowP at this; unfold U; simp only [show (281474976710656#64).toNat = 281474976710656 from rfl] at this; omega)
  have hmin : min (U (kB s t + 12288#64)) 281474976710656 = 281474976710656 := by omega
  clear hh hs ht hm hx hE h36 q1 q2 q3
  go_enter Try.func9, Try.ntmps9
  go_wp2_with (first | (go_at_call 15; (with_reducible refine (cs _).mono ?_); rintro e w' ⟨rfl, hbl⟩; obtain ⟨hcw, hfw, hsw⟩ := below_ifs hbl; (try simp only [World.size_alloc, World.size_setCell, World.size_drew, size_drewN_] at hcw hfw hsw)) | (go_at_call 17; (with_reducible refine (ce _).mono ?_); rintro e w' ⟨rfl, hbl⟩; obtain ⟨hcw, hfw, hsw⟩ := below_ifs hbl; (try simp only [World.size_alloc, World.size_setCell, World.size_drew, size_drewN_] at hcw hfw hsw)) | (go_at_call 16; (with_reducible refine (cr _).mono ?_); rintro e w' ⟨rfl, hbl⟩; obtain ⟨hcw, hfw, hsw⟩ := below_ifs hbl; (try simp only [World.size_alloc, World.size_setCell, World.size_drew, size_drewN_] at hcw hfw hsw)))
  go_region
  go_wp2_with (first | (go_at_call 12; (with_reducible refine (cd _).mono ?_); rintro e w' ⟨rfl, hbl⟩; obtain ⟨hcw, hfw, hsw⟩ := below_ifs hbl; (try simp only [World.size_alloc, World.size_setCell, World.size_drew, size_drewN_] at hcw hfw hsw)))
  go_ret
  exact ⟨rfl, by (repeat (first | with_reducible exact Below.refl _ _ | with_reducible assumption | with_reducible refine below_drewN ?_ _ | with_reducible refine Below.drew ?_ | with_reducible refine below_alloc ?_ _ | (with_reducible refine Below.setCell ?_ (by first | (simp; done) | omega | (simp; omega)) _) | with_reducible refine belows ?_ (by assumption)))⟩
set_option maxHeartbeats 8000000 in
set_option maxRecDepth 100000 in
theorem walk_zlk (a0 b0 s t a : BitVec 64) (x : Nat) (hs : lowS a0 b0 = s) (ht : highS a0 b0 = t) (hm : mayS s t = true) (hx : kX s t = x) (hE : kE s t = 0#64 ∧ x = 0) (hl : U (4096#64) < U (kB s t)) (hh : U (kB s t + 12288#64) < 281474976710656) (htop : (U (kB s t) == 281474976710656) = false) (w : World) :
    Calls Try.prog 9 #[.int .u64 (U a0), .int .u64 (U b0), .int .u64 (U a)] w fun r w' => r = .returned (.bool true) ∧ Below w.heap.size w w' := by
  have cs : ∀ w : World, Calls Try.prog 15 #[.int .u64 (U a0), .int .u64 (U b0)] w fun r w' => r = .returned (.agg #[.int .u64 (U s), .int .u64 (U t)]) ∧ Below w.heap.size w w' := fun w => (span_any a0 b0 w).mono fun _ _ g => ⟨by rw [g.1, hs, ht], g.2⟩
  have h36 := kX_le hm
  rw [hx] at h36
  obtain ⟨hE, rfl⟩ := hE
  have q := near_z0 hm hx a (kB s t - 4096#64) (kB s t + 12288#64) (.inl ⟨hl, rfl⟩) (.inr ⟨hh, rfl⟩)
  obtain ⟨q0, q1, q2, q3⟩ := q
  have ce : ∀ w : World, Calls Try.prog 17 #[.agg #[.int .u64 (U s), .int .u64 (U t)]] w fun r w' => r = .returned (.tuple #[.agg #[.int .u64 (U (fB s t)), .int .u64 (U (fT s t)), .int .u64 0], .bool (kB s t == s && kT s t == t)]) ∧ Below w.heap.size w w' := fun w => (encode_yes s t hm w).mono fun _ _ g => ⟨by rw [g.1, hE, U_zero], g.2⟩
  have cr : ∀ w : World, Calls Try.prog 16 #[.agg #[.int .u64 (U s), .int .u64 (U t)]] w fun r w' => r = .returned (.tuple #[.agg #[.int .u64 (U (kB s t)), .int .u64 (U (kT s t))], .bool true]) ∧ Below w.heap.size w w' := fun w => rounded_yes s t hm w
  have cd : ∀ w : World, Calls Try.prog 12 #[.agg #[.int .u64 (U (fB s t)), .int .u64 (U (fT s t)), .int .u64 0], .int .u64 (U (kB s t - 4096#64 + a % (kB s t + 12288#64 - (kB s t - 4096#64))))] w fun r w' => r = .returned (.tuple #[.agg #[.int .u64 (U (kB s t)), .int .u64 (U (kT s t))], .bool true]) ∧ Below w.heap.size w w' := fun w => by
    have g := decode_any (fB s t) (fT s t) (kE s t) (kB s t - 4096#64 + a % (kB s t + 12288#64 - (kB s t - 4096#64))) w
    rw [q1, q2, q3, hE, U_zero] at g
    exact g
  obtain ⟨p1, p2, p3⟩ := near_base hm htop
  have cn : ∀ w : World, Calls Try.prog 14 #[.agg #[.int .u64 (U (fB s t)), .int .u64 (U (fT s t)), .int .u64 0], .int .u64 (U (kB s t)), .int .u64 (U (kB s t - 4096#64 + a % (kB s t + 12288#64 - (kB s t - 4096#64))))] w fun r w' => r = .returned (.bool true) ∧ Below w.heap.size w w' := fun w => by
    have g := near_any (fB s t) (fT s t) (kE s t) (kB s t) (kB s t - 4096#64 + a % (kB s t + 12288#64 - (kB s t - 4096#64))) w
    rw [q1, q2, q3, p1, p2, p3, hE, U_zero] at g
    refine g.mono fun _ _ g => ⟨by rw [g.1]; simp, g.2⟩
  clear p1 p2 p3
  have hd : decide (U (kB s t + 12288#64) ≤ U (kB s t - 4096#64)) = false := decide_eq_false (by have := q0; unfold belowP at this; unfold U; omega)
  have hmin : min (U (kB s t + 12288#64)) 281474976710656 = U (kB s t + 12288#64) := by omega
  clear hh hs ht hm hx hE h36 q1 q2 q3
  go_enter Try.func9, Try.ntmps9
  go_wp2_with (first | (go_at_call 15; (with_reducible refine (cs _).mono ?_); rintro e w' ⟨rfl, hbl⟩; obtain ⟨hcw, hfw, hsw⟩ := below_ifs hbl; (try simp only [World.size_alloc, World.size_setCell, World.size_drew, size_drewN_] at hcw hfw hsw)) | (go_at_call 17; (with_reducible refine (ce _).mono ?_); rintro e w' ⟨rfl, hbl⟩; obtain ⟨hcw, hfw, hsw⟩ := below_ifs hbl; (try simp only [World.size_alloc, World.size_setCell, World.size_drew, size_drewN_] at hcw hfw hsw)) | (go_at_call 16; (with_reducible refine (cr _).mono ?_); rintro e w' ⟨rfl, hbl⟩; obtain ⟨hcw, hfw, hsw⟩ := below_ifs hbl; (try simp only [World.size_alloc, World.size_setCell, World.size_drew, size_drewN_] at hcw hfw hsw)))
  go_region
  go_wp2_with (first | (go_at_call 12; (with_reducible refine (cd _).mono ?_); rintro e w' ⟨rfl, hbl⟩; obtain ⟨hcw, hfw, hsw⟩ := below_ifs hbl; (try simp only [World.size_alloc, World.size_setCell, World.size_drew, size_drewN_] at hcw hfw hsw)) | (go_at_call 14; (with_reducible refine (cn _).mono ?_); rintro e w' ⟨rfl, hbl⟩; obtain ⟨hcw, hfw, hsw⟩ := below_ifs hbl; (try simp only [World.size_alloc, World.size_setCell, World.size_drew, size_drewN_] at hcw hfw hsw)))
  go_ret
  exact ⟨rfl, by (repeat (first | with_reducible exact Below.refl _ _ | with_reducible assumption | with_reducible refine below_drewN ?_ _ | with_reducible refine Below.drew ?_ | with_reducible refine below_alloc ?_ _ | (with_reducible refine Below.setCell ?_ (by first | (simp; done) | omega | (simp; omega)) _) | with_reducible refine belows ?_ (by assumption)))⟩
set_option maxHeartbeats 8000000 in
set_option maxRecDepth 100000 in
theorem walk_z0h (a0 b0 s t a : BitVec 64) (x : Nat) (hs : lowS a0 b0 = s) (ht : highS a0 b0 = t) (hm : mayS s t = true) (hx : kX s t = x) (hE : kE s t = 0#64 ∧ x = 0) (hl : U (kB s t) ≤ U (4096#64)) (hh : 281474976710656 ≤ U (kB s t + 12288#64)) (htop : (U (kB s t) == 281474976710656) = false) (w : World) :
    Calls Try.prog 9 #[.int .u64 (U a0), .int .u64 (U b0), .int .u64 (U a)] w fun r w' => r = .returned (.bool true) ∧ Below w.heap.size w w' := by
  have cs : ∀ w : World, Calls Try.prog 15 #[.int .u64 (U a0), .int .u64 (U b0)] w fun r w' => r = .returned (.agg #[.int .u64 (U s), .int .u64 (U t)]) ∧ Below w.heap.size w w' := fun w => (span_any a0 b0 w).mono fun _ _ g => ⟨by rw [g.1, hs, ht], g.2⟩
  have h36 := kX_le hm
  rw [hx] at h36
  obtain ⟨hE, rfl⟩ := hE
  have q := near_z0 hm hx a 0#64 281474976710656#64 (.inr ⟨hl, rfl⟩) (.inl ⟨hh, rfl⟩)
  rw [BitVec.sub_zero, BitVec.zero_add] at q
  obtain ⟨q0, q1, q2, q3⟩ := q
  have ce : ∀ w : World, Calls Try.prog 17 #[.agg #[.int .u64 (U s), .int .u64 (U t)]] w fun r w' => r = .returned (.tuple #[.agg #[.int .u64 (U (fB s t)), .int .u64 (U (fT s t)), .int .u64 0], .bool (kB s t == s && kT s t == t)]) ∧ Below w.heap.size w w' := fun w => (encode_yes s t hm w).mono fun _ _ g => ⟨by rw [g.1, hE, U_zero], g.2⟩
  have cr : ∀ w : World, Calls Try.prog 16 #[.agg #[.int .u64 (U s), .int .u64 (U t)]] w fun r w' => r = .returned (.tuple #[.agg #[.int .u64 (U (kB s t)), .int .u64 (U (kT s t))], .bool true]) ∧ Below w.heap.size w w' := fun w => rounded_yes s t hm w
  have cd : ∀ w : World, Calls Try.prog 12 #[.agg #[.int .u64 (U (fB s t)), .int .u64 (U (fT s t)), .int .u64 0], .int .u64 (U (a % 281474976710656#64))] w fun r w' => r = .returned (.tuple #[.agg #[.int .u64 (U (kB s t)), .int .u64 (U (kT s t))], .bool true]) ∧ Below w.heap.size w w' := fun w => by
    have g := decode_any (fB s t) (fT s t) (kE s t) (a % 281474976710656#64) w
    rw [q1, q2, q3, hE, U_zero] at g
    exact g
  obtain ⟨p1, p2, p3⟩ := near_base hm htop
  have cn : ∀ w : World, Calls Try.prog 14 #[.agg #[.int .u64 (U (fB s t)), .int .u64 (U (fT s t)), .int .u64 0], .int .u64 (U (kB s t)), .int .u64 (U (a % 281474976710656#64))] w fun r w' => r = .returned (.bool true) ∧ Below w.heap.size w w' := fun w => by
    have g := near_any (fB s t) (fT s t) (kE s t) (kB s t) (a % 281474976710656#64) w
    rw [q1, q2, q3, p1, p2, p3, hE, U_zero] at g
    refine g.mono fun _ _ g => ⟨by rw [g.1]; simp, g.2⟩
  clear p1 p2 p3
  have hd : decide ((281474976710656 : Int) ≤ 0) = false := by decide
  have hmin : min (U (kB s t + 12288#64)) 281474976710656 = 281474976710656 := by omega
  clear hh hs ht hm hx hE h36 q1 q2 q3
  go_enter Try.func9, Try.ntmps9
  go_wp2_with (first | (go_at_call 15; (with_reducible refine (cs _).mono ?_); rintro e w' ⟨rfl, hbl⟩; obtain ⟨hcw, hfw, hsw⟩ := below_ifs hbl; (try simp only [World.size_alloc, World.size_setCell, World.size_drew, size_drewN_] at hcw hfw hsw)) | (go_at_call 17; (with_reducible refine (ce _).mono ?_); rintro e w' ⟨rfl, hbl⟩; obtain ⟨hcw, hfw, hsw⟩ := below_ifs hbl; (try simp only [World.size_alloc, World.size_setCell, World.size_drew, size_drewN_] at hcw hfw hsw)) | (go_at_call 16; (with_reducible refine (cr _).mono ?_); rintro e w' ⟨rfl, hbl⟩; obtain ⟨hcw, hfw, hsw⟩ := below_ifs hbl; (try simp only [World.size_alloc, World.size_setCell, World.size_drew, size_drewN_] at hcw hfw hsw)))
  go_region
  go_wp2_with (first | (go_at_call 12; (with_reducible refine (cd _).mono ?_); rintro e w' ⟨rfl, hbl⟩; obtain ⟨hcw, hfw, hsw⟩ := below_ifs hbl; (try simp only [World.size_alloc, World.size_setCell, World.size_drew, size_drewN_] at hcw hfw hsw)) | (go_at_call 14; (with_reducible refine (cn _).mono ?_); rintro e w' ⟨rfl, hbl⟩; obtain ⟨hcw, hfw, hsw⟩ := below_ifs hbl; (try simp only [World.size_alloc, World.size_setCell, World.size_drew, size_drewN_] at hcw hfw hsw)))
  go_ret
  exact ⟨rfl, by (repeat (first | with_reducible exact Below.refl _ _ | with_reducible assumption | with_reducible refine below_drewN ?_ _ | with_reducible refine Below.drew ?_ | with_reducible refine below_alloc ?_ _ | (with_reducible refine Below.setCell ?_ (by first | (simp; done) | omega | (simp; omega)) _) | with_reducible refine belows ?_ (by assumption)))⟩
set_option maxHeartbeats 8000000 in
set_option maxRecDepth 100000 in
theorem walk_z0k (a0 b0 s t a : BitVec 64) (x : Nat) (hs : lowS a0 b0 = s) (ht : highS a0 b0 = t) (hm : mayS s t = true) (hx : kX s t = x) (hE : kE s t = 0#64 ∧ x = 0) (hl : U (kB s t) ≤ U (4096#64)) (hh : U (kB s t + 12288#64) < 281474976710656) (htop : (U (kB s t) == 281474976710656) = false) (w : World) :
    Calls Try.prog 9 #[.int .u64 (U a0), .int .u64 (U b0), .int .u64 (U a)] w fun r w' => r = .returned (.bool true) ∧ Below w.heap.size w w' := by
  have cs : ∀ w : World, Calls Try.prog 15 #[.int .u64 (U a0), .int .u64 (U b0)] w fun r w' => r = .returned (.agg #[.int .u64 (U s), .int .u64 (U t)]) ∧ Below w.heap.size w w' := fun w => (span_any a0 b0 w).mono fun _ _ g => ⟨by rw [g.1, hs, ht], g.2⟩
  have h36 := kX_le hm
  rw [hx] at h36
  obtain ⟨hE, rfl⟩ := hE
  have q := near_z0 hm hx a 0#64 (kB s t + 12288#64) (.inr ⟨hl, rfl⟩) (.inr ⟨hh, rfl⟩)
  rw [BitVec.sub_zero, BitVec.zero_add] at q
  obtain ⟨q0, q1, q2, q3⟩ := q
  have ce : ∀ w : World, Calls Try.prog 17 #[.agg #[.int .u64 (U s), .int .u64 (U t)]] w fun r w' => r = .returned (.tuple #[.agg #[.int .u64 (U (fB s t)), .int .u64 (U (fT s t)), .int .u64 0], .bool (kB s t == s && kT s t == t)]) ∧ Below w.heap.size w w' := fun w => (encode_yes s t hm w).mono fun _ _ g => ⟨by rw [g.1, hE, U_zero], g.2⟩
  have cr : ∀ w : World, Calls Try.prog 16 #[.agg #[.int .u64 (U s), .int .u64 (U t)]] w fun r w' => r = .returned (.tuple #[.agg #[.int .u64 (U (kB s t)), .int .u64 (U (kT s t))], .bool true]) ∧ Below w.heap.size w w' := fun w => rounded_yes s t hm w
  have cd : ∀ w : World, Calls Try.prog 12 #[.agg #[.int .u64 (U (fB s t)), .int .u64 (U (fT s t)), .int .u64 0], .int .u64 (U (a % (kB s t + 12288#64)))] w fun r w' => r = .returned (.tuple #[.agg #[.int .u64 (U (kB s t)), .int .u64 (U (kT s t))], .bool true]) ∧ Below w.heap.size w w' := fun w => by
    have g := decode_any (fB s t) (fT s t) (kE s t) (a % (kB s t + 12288#64)) w
    rw [q1, q2, q3, hE, U_zero] at g
    exact g
  obtain ⟨p1, p2, p3⟩ := near_base hm htop
  have cn : ∀ w : World, Calls Try.prog 14 #[.agg #[.int .u64 (U (fB s t)), .int .u64 (U (fT s t)), .int .u64 0], .int .u64 (U (kB s t)), .int .u64 (U (a % (kB s t + 12288#64)))] w fun r w' => r = .returned (.bool true) ∧ Below w.heap.size w w' := fun w => by
    have g := near_any (fB s t) (fT s t) (kE s t) (kB s t) (a % (kB s t + 12288#64)) w
    rw [q1, q2, q3, p1, p2, p3, hE, U_zero] at g
    refine g.mono fun _ _ g => ⟨by rw [g.1]; simp, g.2⟩
  clear p1 p2 p3
  have hd : decide (U (kB s t + 12288#64) ≤ 0) = false := decide_eq_false (by have := q0; unfold belowP at this; unfold U; simp only [show (0#64).toNat = 0 from rfl] at this; omega)
  have hmin : min (U (kB s t + 12288#64)) 281474976710656 = U (kB s t + 12288#64) := by omega
  clear hh hs ht hm hx hE h36 q1 q2 q3
  go_enter Try.func9, Try.ntmps9
  go_wp2_with (first | (go_at_call 15; (with_reducible refine (cs _).mono ?_); rintro e w' ⟨rfl, hbl⟩; obtain ⟨hcw, hfw, hsw⟩ := below_ifs hbl; (try simp only [World.size_alloc, World.size_setCell, World.size_drew, size_drewN_] at hcw hfw hsw)) | (go_at_call 17; (with_reducible refine (ce _).mono ?_); rintro e w' ⟨rfl, hbl⟩; obtain ⟨hcw, hfw, hsw⟩ := below_ifs hbl; (try simp only [World.size_alloc, World.size_setCell, World.size_drew, size_drewN_] at hcw hfw hsw)) | (go_at_call 16; (with_reducible refine (cr _).mono ?_); rintro e w' ⟨rfl, hbl⟩; obtain ⟨hcw, hfw, hsw⟩ := below_ifs hbl; (try simp only [World.size_alloc, World.size_setCell, World.size_drew, size_drewN_] at hcw hfw hsw)))
  go_region
  go_wp2_with (first | (go_at_call 12; (with_reducible refine (cd _).mono ?_); rintro e w' ⟨rfl, hbl⟩; obtain ⟨hcw, hfw, hsw⟩ := below_ifs hbl; (try simp only [World.size_alloc, World.size_setCell, World.size_drew, size_drewN_] at hcw hfw hsw)) | (go_at_call 14; (with_reducible refine (cn _).mono ?_); rintro e w' ⟨rfl, hbl⟩; obtain ⟨hcw, hfw, hsw⟩ := below_ifs hbl; (try simp only [World.size_alloc, World.size_setCell, World.size_drew, size_drewN_] at hcw hfw hsw)))
  go_ret
  exact ⟨rfl, by (repeat (first | with_reducible exact Below.refl _ _ | with_reducible assumption | with_reducible refine below_drewN ?_ _ | with_reducible refine Below.drew ?_ | with_reducible refine below_alloc ?_ _ | (with_reducible refine Below.setCell ?_ (by first | (simp; done) | omega | (simp; omega)) _) | with_reducible refine belows ?_ (by assumption)))⟩
set_option maxHeartbeats 8000000 in
set_option maxRecDepth 100000 in
theorem walk_plh (a0 b0 s t a : BitVec 64) (x : Nat) (hs : lowS a0 b0 = s) (ht : highS a0 b0 = t) (hm : mayS s t = true) (hx : kX s t = x) (hE : 0 < U (kE s t) ∧ kE s t = BitVec.ofNat 64 x + 1#64) (hl : U (1#64 <<< (12 + x)) < U (kB s t)) (hh : 281474976710656 ≤ U (kB s t + 3#64 <<< (12 + x))) (htop : (U (kB s t) == 281474976710656) = false) (w : World) :
    Calls Try.prog 9 #[.int .u64 (U a0), .int .u64 (U b0), .int .u64 (U a)] w fun r w' => r = .returned (.bool true) ∧ Below w.heap.size w w' := by
  have cs : ∀ w : World, Calls Try.prog 15 #[.int .u64 (U a0), .int .u64 (U b0)] w fun r w' => r = .returned (.agg #[.int .u64 (U s), .int .u64 (U t)]) ∧ Below w.heap.size w w' := fun w => (span_any a0 b0 w).mono fun _ _ g => ⟨by rw [g.1, hs, ht], g.2⟩
  have h36 := kX_le hm
  rw [hx] at h36
  obtain ⟨hE0, hE⟩ := hE
  have q := near_z hm x hx a (kB s t - 1#64 <<< (12 + x)) 281474976710656#64 (.inl ⟨hl, rfl⟩) (.inl ⟨hh, rfl⟩)
  obtain ⟨q0, q1, q2, q3⟩ := q
  have ce : ∀ w : World, Calls Try.prog 17 #[.agg #[.int .u64 (U s), .int .u64 (U t)]] w fun r w' => r = .returned (.tuple #[.agg #[.int .u64 (U (fB s t)), .int .u64 (U (fT s t)), .int .u64 (U (kE s t))], .bool (kB s t == s && kT s t == t)]) ∧ Below w.heap.size w w' := fun w => (encode_yes s t hm w).mono fun _ _ g => ⟨by rw [g.1], g.2⟩
  have cr : ∀ w : World, Calls Try.prog 16 #[.agg #[.int .u64 (U s), .int .u64 (U t)]] w fun r w' => r = .returned (.tuple #[.agg #[.int .u64 (U (kB s t)), .int .u64 (U (kT s t))], .bool true]) ∧ Below w.heap.size w w' := fun w => rounded_yes s t hm w
  have cd : ∀ w : World, Calls Try.prog 12 #[.agg #[.int .u64 (U (fB s t)), .int .u64 (U (fT s t)), .int .u64 (U (kE s t))], .int .u64 (U (kB s t - 1#64 <<< (12 + x) + a % (281474976710656#64 - (kB s t - 1#64 <<< (12 + x)))))] w fun r w' => r = .returned (.tuple #[.agg #[.int .u64 (U (kB s t)), .int .u64 (U (kT s t))], .bool true]) ∧ Below w.heap.size w w' := fun w => by
    have g := decode_any (fB s t) (fT s t) (kE s t) (kB s t - 1#64 <<< (12 + x) + a % (281474976710656#64 - (kB s t - 1#64 <<< (12 + x)))) w
    rw [q1, q2, q3] at g
    exact g
  obtain ⟨p1, p2, p3⟩ := near_base hm htop
  have cn : ∀ w : World, Calls Try.prog 14 #[.agg #[.int .u64 (U (fB s t)), .int .u64 (U (fT s t)), .int .u64 (U (kE s t))], .int .u64 (U (kB s t)), .int .u64 (U (kB s t - 1#64 <<< (12 + x) + a % (281474976710656#64 - (kB s t - 1#64 <<< (12 + x)))))] w fun r w' => r = .returned (.bool true) ∧ Below w.heap.size w w' := fun w => by
    have g := near_any (fB s t) (fT s t) (kE s t) (kB s t) (kB s t - 1#64 <<< (12 + x) + a % (281474976710656#64 - (kB s t - 1#64 <<< (12 + x)))) w
    rw [q1, q2, q3, p1, p2, p3] at g
    refine g.mono fun _ _ g => ⟨by rw [g.1]; simp, g.2⟩
  clear p1 p2 p3
  have hk : kE s t - 1#64 = BitVec.ofNat 64 x := by rw [hE, BitVec.add_sub_cancel]
  have hq : (U (12#64 + BitVec.ofNat 64 x)).toNat = 12 + x := by unfold U; rw [BitVec.toNat_add]; simp; omega
  have hd : decide (281474976710656 ≤ U (kB s t - 1#64 <<< (12 + x))) = false := decide_eq_false (by have := q0; unfold belowP at this; unfold U; simp only [show (281474976710656#64).toNat = 281474976710656 from rfl] at this; omega)
  have hmin : min (U (kB s t + 3#64 <<< (12 + x))) 281474976710656 = 281474976710656 := by omega
  clear hh hs ht hm hx hE h36 q1 q2 q3
  go_enter Try.func9, Try.ntmps9
  go_wp2_with (first | (go_at_call 15; (with_reducible refine (cs _).mono ?_); rintro e w' ⟨rfl, hbl⟩; obtain ⟨hcw, hfw, hsw⟩ := below_ifs hbl; (try simp only [World.size_alloc, World.size_setCell, World.size_drew, size_drewN_] at hcw hfw hsw)) | (go_at_call 17; (with_reducible refine (ce _).mono ?_); rintro e w' ⟨rfl, hbl⟩; obtain ⟨hcw, hfw, hsw⟩ := below_ifs hbl; (try simp only [World.size_alloc, World.size_setCell, World.size_drew, size_drewN_] at hcw hfw hsw)) | (go_at_call 16; (with_reducible refine (cr _).mono ?_); rintro e w' ⟨rfl, hbl⟩; obtain ⟨hcw, hfw, hsw⟩ := below_ifs hbl; (try simp only [World.size_alloc, World.size_setCell, World.size_drew, size_drewN_] at hcw hfw hsw)))
  go_region
  go_wp2_with (first | (go_at_call 12; (with_reducible refine (cd _).mono ?_); rintro e w' ⟨rfl, hbl⟩; obtain ⟨hcw, hfw, hsw⟩ := below_ifs hbl; (try simp only [World.size_alloc, World.size_setCell, World.size_drew, size_drewN_] at hcw hfw hsw)) | (go_at_call 14; (with_reducible refine (cn _).mono ?_); rintro e w' ⟨rfl, hbl⟩; obtain ⟨hcw, hfw, hsw⟩ := below_ifs hbl; (try simp only [World.size_alloc, World.size_setCell, World.size_drew, size_drewN_] at hcw hfw hsw)))
  go_ret
  exact ⟨rfl, by (repeat (first | with_reducible exact Below.refl _ _ | with_reducible assumption | with_reducible refine below_drewN ?_ _ | with_reducible refine Below.drew ?_ | with_reducible refine below_alloc ?_ _ | (with_reducible refine Below.setCell ?_ (by first | (simp; done) | omega | (simp; omega)) _) | with_reducible refine belows ?_ (by assumption)))⟩
set_option maxHeartbeats 8000000 in
set_option maxRecDepth 100000 in
theorem walk_plk (a0 b0 s t a : BitVec 64) (x : Nat) (hs : lowS a0 b0 = s) (ht : highS a0 b0 = t) (hm : mayS s t = true) (hx : kX s t = x) (hE : 0 < U (kE s t) ∧ kE s t = BitVec.ofNat 64 x + 1#64) (hl : U (1#64 <<< (12 + x)) < U (kB s t)) (hh : U (kB s t + 3#64 <<< (12 + x)) < 281474976710656) (htop : (U (kB s t) == 281474976710656) = false) (w : World) :
    Calls Try.prog 9 #[.int .u64 (U a0), .int .u64 (U b0), .int .u64 (U a)] w fun r w' => r = .returned (.bool true) ∧ Below w.heap.size w w' := by
  have cs : ∀ w : World, Calls Try.prog 15 #[.int .u64 (U a0), .int .u64 (U b0)] w fun r w' => r = .returned (.agg #[.int .u64 (U s), .int .u64 (U t)]) ∧ Below w.heap.size w w' := fun w => (span_any a0 b0 w).mono fun _ _ g => ⟨by rw [g.1, hs, ht], g.2⟩
  have h36 := kX_le hm
  rw [hx] at h36
  obtain ⟨hE0, hE⟩ := hE
  have q := near_z hm x hx a (kB s t - 1#64 <<< (12 + x)) (kB s t + 3#64 <<< (12 + x)) (.inl ⟨hl, rfl⟩) (.inr ⟨hh, rfl⟩)
  obtain ⟨q0, q1, q2, q3⟩ := q
  have ce : ∀ w : World, Calls Try.prog 17 #[.agg #[.int .u64 (U s), .int .u64 (U t)]] w fun r w' => r = .returned (.tuple #[.agg #[.int .u64 (U (fB s t)), .int .u64 (U (fT s t)), .int .u64 (U (kE s t))], .bool (kB s t == s && kT s t == t)]) ∧ Below w.heap.size w w' := fun w => (encode_yes s t hm w).mono fun _ _ g => ⟨by rw [g.1], g.2⟩
  have cr : ∀ w : World, Calls Try.prog 16 #[.agg #[.int .u64 (U s), .int .u64 (U t)]] w fun r w' => r = .returned (.tuple #[.agg #[.int .u64 (U (kB s t)), .int .u64 (U (kT s t))], .bool true]) ∧ Below w.heap.size w w' := fun w => rounded_yes s t hm w
  have cd : ∀ w : World, Calls Try.prog 12 #[.agg #[.int .u64 (U (fB s t)), .int .u64 (U (fT s t)), .int .u64 (U (kE s t))], .int .u64 (U (kB s t - 1#64 <<< (12 + x) + a % (kB s t + 3#64 <<< (12 + x) - (kB s t - 1#64 <<< (12 + x)))))] w fun r w' => r = .returned (.tuple #[.agg #[.int .u64 (U (kB s t)), .int .u64 (U (kT s t))], .bool true]) ∧ Below w.heap.size w w' := fun w => by
    have g := decode_any (fB s t) (fT s t) (kE s t) (kB s t - 1#64 <<< (12 + x) + a % (kB s t + 3#64 <<< (12 + x) - (kB s t - 1#64 <<< (12 + x)))) w
    rw [q1, q2, q3] at g
    exact g
  obtain ⟨p1, p2, p3⟩ := near_base hm htop
  have cn : ∀ w : World, Calls Try.prog 14 #[.agg #[.int .u64 (U (fB s t)), .int .u64 (U (fT s t)), .int .u64 (U (kE s t))], .int .u64 (U (kB s t)), .int .u64 (U (kB s t - 1#64 <<< (12 + x) + a % (kB s t + 3#64 <<< (12 + x) - (kB s t - 1#64 <<< (12 + x)))))] w fun r w' => r = .returned (.bool true) ∧ Below w.heap.size w w' := fun w => by
    have g := near_any (fB s t) (fT s t) (kE s t) (kB s t) (kB s t - 1#64 <<< (12 + x) + a % (kB s t + 3#64 <<< (12 + x) - (kB s t - 1#64 <<< (12 + x)))) w
    rw [q1, q2, q3, p1, p2, p3] at g
    refine g.mono fun _ _ g => ⟨by rw [g.1]; simp, g.2⟩
  clear p1 p2 p3
  have hk : kE s t - 1#64 = BitVec.ofNat 64 x := by rw [hE, BitVec.add_sub_cancel]
  have hq : (U (12#64 + BitVec.ofNat 64 x)).toNat = 12 + x := by unfold U; rw [BitVec.toNat_add]; simp; omega
  have hd : decide (U (kB s t + 3#64 <<< (12 + x)) ≤ U (kB s t - 1#64 <<< (12 + x))) = false := decide_eq_false (by have := q0; unfold belowP at this; unfold U; omega)
  have hmin : min (U (kB s t + 3#64 <<< (12 + x))) 281474976710656 = U (kB s t + 3#64 <<< (12 + x)) := by omega
  clear hh hs ht hm hx hE h36 q1 q2 q3
  go_enter Try.func9, Try.ntmps9
  go_wp2_with (first | (go_at_call 15; (with_reducible refine (cs _).mono ?_); rintro e w' ⟨rfl, hbl⟩; obtain ⟨hcw, hfw, hsw⟩ := below_ifs hbl; (try simp only [World.size_alloc, World.size_setCell, World.size_drew, size_drewN_] at hcw hfw hsw)) | (go_at_call 17; (with_reducible refine (ce _).mono ?_); rintro e w' ⟨rfl, hbl⟩; obtain ⟨hcw, hfw, hsw⟩ := below_ifs hbl; (try simp only [World.size_alloc, World.size_setCell, World.size_drew, size_drewN_] at hcw hfw hsw)) | (go_at_call 16; (with_reducible refine (cr _).mono ?_); rintro e w' ⟨rfl, hbl⟩; obtain ⟨hcw, hfw, hsw⟩ := below_ifs hbl; (try simp only [World.size_alloc, World.size_setCell, World.size_drew, size_drewN_] at hcw hfw hsw)))
  go_region
  go_wp2_with (first | (go_at_call 12; (with_reducible refine (cd _).mono ?_); rintro e w' ⟨rfl, hbl⟩; obtain ⟨hcw, hfw, hsw⟩ := below_ifs hbl; (try simp only [World.size_alloc, World.size_setCell, World.size_drew, size_drewN_] at hcw hfw hsw)) | (go_at_call 14; (with_reducible refine (cn _).mono ?_); rintro e w' ⟨rfl, hbl⟩; obtain ⟨hcw, hfw, hsw⟩ := below_ifs hbl; (try simp only [World.size_alloc, World.size_setCell, World.size_drew, size_drewN_] at hcw hfw hsw)))
  go_ret
  exact ⟨rfl, by (repeat (first | with_reducible exact Below.refl _ _ | with_reducible assumption | with_reducible refine below_drewN ?_ _ | with_reducible refine Below.drew ?_ | with_reducible refine below_alloc ?_ _ | (with_reducible refine Below.setCell ?_ (by first | (simp; done) | omega | (simp; omega)) _) | with_reducible refine belows ?_ (by assumption)))⟩
set_option maxHeartbeats 8000000 in
set_option maxRecDepth 100000 in
theorem walk_p0h (a0 b0 s t a : BitVec 64) (x : Nat) (hs : lowS a0 b0 = s) (ht : highS a0 b0 = t) (hm : mayS s t = true) (hx : kX s t = x) (hE : 0 < U (kE s t) ∧ kE s t = BitVec.ofNat 64 x + 1#64) (hl : U (kB s t) ≤ U (1#64 <<< (12 + x))) (hh : 281474976710656 ≤ U (kB s t + 3#64 <<< (12 + x))) (htop : (U (kB s t) == 281474976710656) = false) (w : World) :
    Calls Try.prog 9 #[.int .u64 (U a0), .int .u64 (U b0), .int .u64 (U a)] w fun r w' => r = .returned (.bool true) ∧ Below w.heap.size w w' := by
  have cs : ∀ w : World, Calls Try.prog 15 #[.int .u64 (U a0), .int .u64 (U b0)] w fun r w' => r = .returned (.agg #[.int .u64 (U s), .int .u64 (U t)]) ∧ Below w.heap.size w w' := fun w => (span_any a0 b0 w).mono fun _ _ g => ⟨by rw [g.1, hs, ht], g.2⟩
  have h36 := kX_le hm
  rw [hx] at h36
  obtain ⟨hE0, hE⟩ := hE
  have q := near_z hm x hx a 0#64 281474976710656#64 (.inr ⟨hl, rfl⟩) (.inl ⟨hh, rfl⟩)
  rw [BitVec.sub_zero, BitVec.zero_add] at q
  obtain ⟨q0, q1, q2, q3⟩ := q
  have ce : ∀ w : World, Calls Try.prog 17 #[.agg #[.int .u64 (U s), .int .u64 (U t)]] w fun r w' => r = .returned (.tuple #[.agg #[.int .u64 (U (fB s t)), .int .u64 (U (fT s t)), .int .u64 (U (kE s t))], .bool (kB s t == s && kT s t == t)]) ∧ Below w.heap.size w w' := fun w => (encode_yes s t hm w).mono fun _ _ g => ⟨by rw [g.1], g.2⟩
  have cr : ∀ w : World, Calls Try.prog 16 #[.agg #[.int .u64 (U s), .int .u64 (U t)]] w fun r w' => r = .returned (.tuple #[.agg #[.int .u64 (U (kB s t)), .int .u64 (U (kT s t))], .bool true]) ∧ Below w.heap.size w w' := fun w => rounded_yes s t hm w
  have cd : ∀ w : World, Calls Try.prog 12 #[.agg #[.int .u64 (U (fB s t)), .int .u64 (U (fT s t)), .int .u64 (U (kE s t))], .int .u64 (U (a % 281474976710656#64))] w fun r w' => r = .returned (.tuple #[.agg #[.int .u64 (U (kB s t)), .int .u64 (U (kT s t))], .bool true]) ∧ Below w.heap.size w w' := fun w => by
    have g := decode_any (fB s t) (fT s t) (kE s t) (a % 281474976710656#64) w
    rw [q1, q2, q3] at g
    exact g
  obtain ⟨p1, p2, p3⟩ := near_base hm htop
  have cn : ∀ w : World, Calls Try.prog 14 #[.agg #[.int .u64 (U (fB s t)), .int .u64 (U (fT s t)), .int .u64 (U (kE s t))], .int .u64 (U (kB s t)), .int .u64 (U (a % 281474976710656#64))] w fun r w' => r = .returned (.bool true) ∧ Below w.heap.size w w' := fun w => by
    have g := near_any (fB s t) (fT s t) (kE s t) (kB s t) (a % 281474976710656#64) w
    rw [q1, q2, q3, p1, p2, p3] at g
    refine g.mono fun _ _ g => ⟨by rw [g.1]; simp, g.2⟩
  clear p1 p2 p3
  have hk : kE s t - 1#64 = BitVec.ofNat 64 x := by rw [hE, BitVec.add_sub_cancel]
  have hq : (U (12#64 + BitVec.ofNat 64 x)).toNat = 12 + x := by unfold U; rw [BitVec.toNat_add]; simp; omega
  have hd : decide ((281474976710656 : Int) ≤ 0) = false := by decide
  have hmin : min (U (kB s t + 3#64 <<< (12 + x))) 281474976710656 = 281474976710656 := by omega
  clear hh hs ht hm hx hE h36 q1 q2 q3
  go_enter Try.func9, Try.ntmps9
  go_wp2_with (first | (go_at_call 15; (with_reducible refine (cs _).mono ?_); rintro e w' ⟨rfl, hbl⟩; obtain ⟨hcw, hfw, hsw⟩ := below_ifs hbl; (try simp only [World.size_alloc, World.size_setCell, World.size_drew, size_drewN_] at hcw hfw hsw)) | (go_at_call 17; (with_reducible refine (ce _).mono ?_); rintro e w' ⟨rfl, hbl⟩; obtain ⟨hcw, hfw, hsw⟩ := below_ifs hbl; (try simp only [World.size_alloc, World.size_setCell, World.size_drew, size_drewN_] at hcw hfw hsw)) | (go_at_call 16; (with_reducible refine (cr _).mono ?_); rintro e w' ⟨rfl, hbl⟩; obtain ⟨hcw, hfw, hsw⟩ := below_ifs hbl; (try simp only [World.size_alloc, World.size_setCell, World.size_drew, size_drewN_] at hcw hfw hsw)))
  go_region
  go_wp2_with (first | (go_at_call 12; (with_reducible refine (cd _).mono ?_); rintro e w' ⟨rfl, hbl⟩; obtain ⟨hcw, hfw, hsw⟩ := below_ifs hbl; (try simp only [World.size_alloc, World.size_setCell, World.size_drew, size_drewN_] at hcw hfw hsw)) | (go_at_call 14; (with_reducible refine (cn _).mono ?_); rintro e w' ⟨rfl, hbl⟩; obtain ⟨hcw, hfw, hsw⟩ := below_ifs hbl; (try simp only [World.size_alloc, World.size_setCell, World.size_drew, size_drewN_] at hcw hfw hsw)))
  go_ret
  exact ⟨rfl, by (repeat (first | with_reducible exact Below.refl _ _ | with_reducible assumption | with_reducible refine below_drewN ?_ _ | with_reducible refine Below.drew ?_ | with_reducible refine below_alloc ?_ _ | (with_reducible refine Below.setCell ?_ (by first | (simp; done) | omega | (simp; omega)) _) | with_reducible refine belows ?_ (by assumption)))⟩
set_option maxHeartbeats 8000000 in
set_option maxRecDepth 100000 in
theorem walk_p0k (a0 b0 s t a : BitVec 64) (x : Nat) (hs : lowS a0 b0 = s) (ht : highS a0 b0 = t) (hm : mayS s t = true) (hx : kX s t = x) (hE : 0 < U (kE s t) ∧ kE s t = BitVec.ofNat 64 x + 1#64) (hl : U (kB s t) ≤ U (1#64 <<< (12 + x))) (hh : U (kB s t + 3#64 <<< (12 + x)) < 281474976710656) (htop : (U (kB s t) == 281474976710656) = false) (w : World) :
    Calls Try.prog 9 #[.int .u64 (U a0), .int .u64 (U b0), .int .u64 (U a)] w fun r w' => r = .returned (.bool true) ∧ Below w.heap.size w w' := by
  have cs : ∀ w : World, Calls Try.prog 15 #[.int .u64 (U a0), .int .u64 (U b0)] w fun r w' => r = .returned (.agg #[.int .u64 (U s), .int .u64 (U t)]) ∧ Below w.heap.size w w' := fun w => (span_any a0 b0 w).mono fun _ _ g => ⟨by rw [g.1, hs, ht], g.2⟩
  have h36 := kX_le hm
  rw [hx] at h36
  obtain ⟨hE0, hE⟩ := hE
  have q := near_z hm x hx a 0#64 (kB s t + 3#64 <<< (12 + x)) (.inr ⟨hl, rfl⟩) (.inr ⟨hh, rfl⟩)
  rw [BitVec.sub_zero, BitVec.zero_add] at q
  obtain ⟨q0, q1, q2, q3⟩ := q
  have ce : ∀ w : World, Calls Try.prog 17 #[.agg #[.int .u64 (U s), .int .u64 (U t)]] w fun r w' => r = .returned (.tuple #[.agg #[.int .u64 (U (fB s t)), .int .u64 (U (fT s t)), .int .u64 (U (kE s t))], .bool (kB s t == s && kT s t == t)]) ∧ Below w.heap.size w w' := fun w => (encode_yes s t hm w).mono fun _ _ g => ⟨by rw [g.1], g.2⟩
  have cr : ∀ w : World, Calls Try.prog 16 #[.agg #[.int .u64 (U s), .int .u64 (U t)]] w fun r w' => r = .returned (.tuple #[.agg #[.int .u64 (U (kB s t)), .int .u64 (U (kT s t))], .bool true]) ∧ Below w.heap.size w w' := fun w => rounded_yes s t hm w
  have cd : ∀ w : World, Calls Try.prog 12 #[.agg #[.int .u64 (U (fB s t)), .int .u64 (U (fT s t)), .int .u64 (U (kE s t))], .int .u64 (U (a % (kB s t + 3#64 <<< (12 + x))))] w fun r w' => r = .returned (.tuple #[.agg #[.int .u64 (U (kB s t)), .int .u64 (U (kT s t))], .bool true]) ∧ Below w.heap.size w w' := fun w => by
    have g := decode_any (fB s t) (fT s t) (kE s t) (a % (kB s t + 3#64 <<< (12 + x))) w
    rw [q1, q2, q3] at g
    exact g
  obtain ⟨p1, p2, p3⟩ := near_base hm htop
  have cn : ∀ w : World, Calls Try.prog 14 #[.agg #[.int .u64 (U (fB s t)), .int .u64 (U (fT s t)), .int .u64 (U (kE s t))], .int .u64 (U (kB s t)), .int .u64 (U (a % (kB s t + 3#64 <<< (12 + x))))] w fun r w' => r = .returned (.bool true) ∧ Below w.heap.size w w' := fun w => by
    have g := near_any (fB s t) (fT s t) (kE s t) (kB s t) (a % (kB s t + 3#64 <<< (12 + x))) w
    rw [q1, q2, q3, p1, p2, p3] at g
    refine g.mono fun _ _ g => ⟨by rw [g.1]; simp, g.2⟩
  clear p1 p2 p3
  have hk : kE s t - 1#64 = BitVec.ofNat 64 x := by rw [hE, BitVec.add_sub_cancel]
  have hq : (U (12#64 + BitVec.ofNat 64 x)).toNat = 12 + x := by unfold U; rw [BitVec.toNat_add]; simp; omega
  have hd : decide (U (kB s t + 3#64 <<< (12 + x)) ≤ 0) = false := decide_eq_false (by have := q0; unfold belowP at this; unfold U; simp only [show (0#64).toNat = 0 from rfl] at this; omega)
  have hmin : min (U (kB s t + 3#64 <<< (12 + x))) 281474976710656 = U (kB s t + 3#64 <<< (12 + x)) := by omega
  clear hh hs ht hm hx hE h36 q1 q2 q3
  go_enter Try.func9, Try.ntmps9
  go_wp2_with (first | (go_at_call 15; (with_reducible refine (cs _).mono ?_); rintro e w' ⟨rfl, hbl⟩; obtain ⟨hcw, hfw, hsw⟩ := below_ifs hbl; (try simp only [World.size_alloc, World.size_setCell, World.size_drew, size_drewN_] at hcw hfw hsw)) | (go_at_call 17; (with_reducible refine (ce _).mono ?_); rintro e w' ⟨rfl, hbl⟩; obtain ⟨hcw, hfw, hsw⟩ := below_ifs hbl; (try simp only [World.size_alloc, World.size_setCell, World.size_drew, size_drewN_] at hcw hfw hsw)) | (go_at_call 16; (with_reducible refine (cr _).mono ?_); rintro e w' ⟨rfl, hbl⟩; obtain ⟨hcw, hfw, hsw⟩ := below_ifs hbl; (try simp only [World.size_alloc, World.size_setCell, World.size_drew, size_drewN_] at hcw hfw hsw)))
  go_region
  go_wp2_with (first | (go_at_call 12; (with_reducible refine (cd _).mono ?_); rintro e w' ⟨rfl, hbl⟩; obtain ⟨hcw, hfw, hsw⟩ := below_ifs hbl; (try simp only [World.size_alloc, World.size_setCell, World.size_drew, size_drewN_] at hcw hfw hsw)) | (go_at_call 14; (with_reducible refine (cn _).mono ?_); rintro e w' ⟨rfl, hbl⟩; obtain ⟨hcw, hfw, hsw⟩ := below_ifs hbl; (try simp only [World.size_alloc, World.size_setCell, World.size_drew, size_drewN_] at hcw hfw hsw)))
  go_ret
  exact ⟨rfl, by (repeat (first | with_reducible exact Below.refl _ _ | with_reducible assumption | with_reducible refine below_drewN ?_ _ | with_reducible refine Below.drew ?_ | with_reducible refine below_alloc ?_ _ | (with_reducible refine Below.setCell ?_ (by first | (simp; done) | omega | (simp; omega)) _) | with_reducible refine belows ?_ (by assumption)))⟩
theorem walk_x (a0 b0 s t a : BitVec 64) (hs : lowS a0 b0 = s) (ht : highS a0 b0 = t) (hm : mayS s t = true) (w : World) :
    Calls Try.prog 9 #[.int .u64 (U a0), .int .u64 (U b0), .int .u64 (U a)] w fun r w' => r = .returned (.bool true) ∧ Below w.heap.size w w' := by
  have h36 := kX_le hm
  have hkB : U (kB s t) ≤ 281474976710656 := by
    have h1 := kB_nat hm
    have h2 := kb_le s.toNat t.toNat
    obtain ⟨m1, m2⟩ := mayS_true hm
    unfold U; omega
  rcases kE_S hm with ⟨k0, x0, b0', t0⟩ | ⟨k1, k2, k3⟩
  · by_cases hl : U (4096#64) < U (kB s t)
    · by_cases hh : 281474976710656 ≤ U (kB s t + 12288#64)
      · cases htop : (U (kB s t) == 281474976710656)
        · exact walk_zlh a0 b0 s t a 0 hs ht hm x0 ⟨k0, rfl⟩ hl hh htop w
        · exact walk_zlht a0 b0 s t a 0 hs ht hm x0 ⟨k0, rfl⟩ hl hh htop w
      · have htop : (U (kB s t) == 281474976710656) = false := by
          rw [beq_eq_false_iff_ne]
          intro e
          apply hh
          unfold U at e ⊢
          rw [BitVec.toNat_add]
          simp only [show (12288#64).toNat = 12288 from rfl]
          omega
        exact walk_zlk a0 b0 s t a 0 hs ht hm x0 ⟨k0, rfl⟩ hl (by omega) htop w
    · have htop : (U (kB s t) == 281474976710656) = false := by
        rw [beq_eq_false_iff_ne]
        intro e
        apply hl
        rw [e]
        unfold U
        simp only [show (4096#64).toNat = 4096 from rfl]
        omega
      by_cases hh : 281474976710656 ≤ U (kB s t + 12288#64)
      · exact walk_z0h a0 b0 s t a 0 hs ht hm x0 ⟨k0, rfl⟩ (by omega) hh htop w
      · exact walk_z0k a0 b0 s t a 0 hs ht hm x0 ⟨k0, rfl⟩ (by omega) (by omega) htop w
  · have w1 := window_N 1#64 (kX s t) (by decide) h36
    have w3 := window_N 3#64 (kX s t) (by decide) h36
    have hp2 : 2 ^ kX s t ≤ 2 ^ 36 := Nat.pow_le_pow_right (by omega) h36
    have hp := pow_pos' (kX s t)
    simp only [show (1#64).toNat = 1 from rfl] at w1
    simp only [show (3#64).toNat = 3 from rfl] at w3
    have hlen : U (kB s t) + 4096 * 2 ^ kX s t ≤ 281474976710656 := by
      obtain ⟨m1, m2⟩ := mayS_true hm
      have hk1 := kB_nat hm
      have hk2 := kt_48 m1 m2
      have hE := kE_nat hm
      have hn : ¬ t.toNat - s.toNat < 4096 := fun c => by
        have : eN s.toNat t.toNat = 0 := by unfold eN; rw [if_pos c]
        unfold U at k1
        omega
      obtain ⟨s1, s2, s3⟩ := exp_spec m1 (by omega)
      have hks := kept_sub s.toNat t.toNat
      have hle := kept_le m1
      have := Nat.mul_le_mul_right (2 ^ kX s t) s1
      have hx : expN s.toNat t.toNat = kX s t := rfl
      rw [hx] at hks this
      unfold U
      rw [show ((2 : Int) ^ kX s t) = ((2 ^ kX s t : Nat) : Int) by norm_cast]
      generalize 2 ^ kX s t = p at *
      omega
    have hne : (U (kB s t) == 281474976710656) = false := by
      rw [beq_eq_false_iff_ne]
      intro e
      rw [show ((2 : Int) ^ kX s t) = ((2 ^ kX s t : Nat) : Int) by norm_cast] at hlen
      omega
    by_cases hl : U (1#64 <<< (12 + kX s t)) < U (kB s t)
    · by_cases hh : 281474976710656 ≤ U (kB s t + 3#64 <<< (12 + kX s t))
      · exact walk_plh a0 b0 s t a _ hs ht hm rfl ⟨k1, k3⟩ hl hh hne w
      · exact walk_plk a0 b0 s t a _ hs ht hm rfl ⟨k1, k3⟩ hl (by omega) hne w
    · by_cases hh : 281474976710656 ≤ U (kB s t + 3#64 <<< (12 + kX s t))
      · exact walk_p0h a0 b0 s t a _ hs ht hm rfl ⟨k1, k3⟩ (by omega) hh hne w
      · exact walk_p0k a0 b0 s t a _ hs ht hm rfl ⟨k1, k3⟩ (by omega) (by omega) hne w
theorem walk (a0 b0 a : BitVec 64) (w : World) : Calls Try.prog 9 #[.int .u64 (U a0), .int .u64 (U b0), .int .u64 (U a)] w fun r w' => r = .returned (.bool true) ∧ Below w.heap.size w w' :=
  walk_x a0 b0 _ _ a rfl rfl (may_span a0 b0) w

set_option maxRecDepth 100000 in
theorem lifted (os : Os) (started : os.Started) (H : Type) (enc : TypeId × Value → H) :
    ReturnsInHanded {} Try.checked os 9 .any (Rows.boundsNearSpec.pre6 enc Try.prog Try.f9 Rows.boundsNearRow.domain false) (Rows.boundsNearSpec.post enc Try.prog Try.f9 false true false false) := by
  refine law_lift (C := Try.checked) (tb := 4) started (by kernel_rfl) (by kernel_rfl) Try.func9 rfl rfl Try.underlying4 (by kernel_rfl) (by kernel_rfl)
    (fun ds h => by match ds, h with | [_, _, _], _ => rfl)
    (ChangeSpec.witness6 (enc := enc) (C := Try.checked) false ⟨#[], #[.int .u64 0, .int .u64 0, .int .u64 0], []⟩ 8 (by kernel_rfl) (by kernel_rfl) (by kernel_rfl) (by kernel_rfl)) ?_
  intro W base args ds ps hval hA hlt hfz hsz
  rw [Try.params9] at hA hval hsz
  obtain ⟨v0, v1, v2, d0, d1, d2, p0, p1, p2, rfl, rfl, rfl, h0, h1, h2⟩ := trodAll_three hA
  obtain ⟨a1, rfl, rfl, rfl, w1⟩ := open_int Try.underlying22 (hval 0 _ v0 rfl rfl) h0
  obtain ⟨a2, rfl, rfl, rfl, w2⟩ := open_int Try.underlying22 (hval 1 _ v1 rfl rfl) h1
  obtain ⟨a3, rfl, rfl, rfl, w3⟩ := open_int Try.underlying22 (hval 2 _ v2 rfl rfl) h2
  obtain ⟨x, rfl⟩ := exists_U a1 w1
  obtain ⟨y, rfl⟩ := exists_U a2 w2
  obtain ⟨z, rfl⟩ := exists_U a3 w3
  exact walk x y z W

theorem over : Rows.boundsNearRow.holds Try.pinned (OpenSpec.ofChange Rows.boundsNearSpec) :=
  OpenClaim.holds_of_wide 9 Try.f9 rfl rfl rfl rfl rfl rfl rfl ⟨rfl, rfl, rfl, rfl, rfl⟩ rfl rfl rfl rfl rfl (by kernel_rfl) Try.func9 (by kernel_rfl)
    (of_decide_eq_true (by kernel_rfl)) (by unfold Func.isWrapper; first | (rw [if_pos (by decide +kernel)]; kernel_rfl) | (rw [if_neg (by decide +kernel)]; exact ⟨rfl, rfl⟩))
    (fun os started H enc _ => lifted os started H enc)

theorem proved : Rows.BoundsNearSaid := over
end Go.Proofs.Ytjhekfcnoofaaaa.Near
