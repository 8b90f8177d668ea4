
/-
  BoundsAligned: a span whose base and length are multiples of what the length asks for is kept as it is; and a length that is kept asks for no more than the one that it is kept for. Every input.
-/
import Derived.Test.YtjhekfcnoofaaaaRows
import Derived.Test.YtjhekfcnoofaaaaLaw
import Derived.Test.YtjhekfcnoofaaaaBoundsW
import Derived.Test.YtjhekfcnoofaaaaBoundsL
import Derived.Outline
namespace Go.Proofs.Ytjhekfcnoofaaaa.Aligned
open Go Go.RowKit Go.ChangeShapes Go.WideShapes Go.ChangeAt
set_option linter.unusedVariables false
set_option linter.unusedSimpArgs false

theorem length_lit (w : World) : Calls Try.prog 18 #[.int .u64 5000] w fun r w' => r = .returned (.tuple #[.int .u64 5000, .bool true]) ∧ Below w.heap.size w w' := by
  have h := length_any 5000#64 w
  rw [show rndT 0#64 5000#64 = 5000#64 by decide, show mayS 0#64 5000#64 = true by decide] at h
  exact h
/-- What the law asks of a length that may be. -/
theorem aligned_is (n m a : BitVec 64) (x : Nat) (hn : n.toNat ≤ 281474976710656) (hm : rndT 0#64 n = m) (hx : (encE 0#64 n).toNat - 1 = x) :
    mayS 0#64 n = true ∧ mayS 0#64 m = true ∧ U n ≤ U m ∧ U m ≤ 281474976710656 ∧ (encE 0#64 m).toNat - 1 = x ∧ (m >>> x) <<< x = m ∧ x ≤ 36 ∧
    0 < U (281474976710656#64 - m + 1#64) ∧ encX (((a % (281474976710656#64 - m + 1#64)) >>> x) <<< x) (((a % (281474976710656#64 - m + 1#64)) >>> x) <<< x + m) = true := by
  have h1 := may_0' n hn
  obtain ⟨r1, r2⟩ := rndT_le n hn
  have hm' := rndT_0 n hn
  rw [hm] at r1 r2 hm'
  have h2 := may_0' m r1
  have hx' : expN 0 n.toNat = x := by rw [← hx, encE_0 n hn]
  have h36 : x ≤ 36 := by rw [← hx']; exact exp_36 (by omega) hn
  have hmm : m.toNat = hiN n.toNat x * 2 ^ x := by rw [hm', ← hx']; rfl
  have hs : (281474976710656#64 - m + 1#64).toNat = 281474976710656 - m.toNat + 1 := by
    rw [BitVec.toNat_add, BitVec.toNat_sub_of_le (by rw [BitVec.le_def]; exact r1)]
    simp only [show (1#64).toNat = 1 from rfl, show (281474976710656#64).toNat = 281474976710656 from rfl]
    omega
  refine ⟨h1, h2, by unfold U; omega, by unfold U; omega, ?_, ?_, h36, by unfold U; omega, ?_⟩
  · rw [encE_0 m r1, hm', exp_of_length, hx']
  · apply BitVec.eq_of_toNat_eq
    rw [BitVec.toNat_shiftLeft, BitVec.toNat_ushiftRight, Nat.shiftRight_eq_div_pow, Nat.shiftLeft_eq]
    have hd : m.toNat / 2 ^ x = hiN n.toNat x := by rw [hmm, Nat.mul_div_cancel _ (pow_pos' x)]
    rw [hd, ← hmm]
    omega
  · have hr := Nat.mod_lt a.toNat (show 281474976710656 - m.toNat + 1 > 0 by omega)
    have hq : (a % (281474976710656#64 - m + 1#64)).toNat ≤ 281474976710656 - m.toNat := by rw [BitVec.toNat_umod, hs]; omega
    generalize a % (281474976710656#64 - m + 1#64) = z at *
    have hf := Nat.div_mul_le_self z.toNat (2 ^ x)
    have hb : ((z >>> x) <<< x).toNat = z.toNat / 2 ^ x * 2 ^ x := by
      rw [BitVec.toNat_shiftLeft, BitVec.toNat_ushiftRight, Nat.shiftRight_eq_div_pow, Nat.shiftLeft_eq, Nat.mod_eq_of_lt (by omega)]
    have ht : ((z >>> x) <<< x + m).toNat = z.toNat / 2 ^ x * 2 ^ x + m.toNat := by rw [BitVec.toNat_add, hb]; omega
    have hmay : mayS ((z >>> x) <<< x) ((z >>> x) <<< x + m) = true := by
      unfold mayS; rw [hb, ht, decide_eq_true (by omega), decide_eq_true (by omega)]; rfl
    obtain ⟨k1, k2⟩ := aligned_kept n.toNat (z.toNat / 2 ^ x)
    rw [hx', ← hm'] at k1 k2
    unfold encX
    rw [hmay, show kB ((z >>> x) <<< x) ((z >>> x) <<< x + m) = (z >>> x) <<< x from BitVec.eq_of_toNat_eq (by rw [kB_nat hmay, hb, ht, k1]),
      show kT ((z >>> x) <<< x) ((z >>> x) <<< x + m) = (z >>> x) <<< x + m from BitVec.eq_of_toNat_eq (by rw [kT_nat hmay, hb, ht, k2])]
    simp
/-- No more than the highest address and one. -/
def small48 (m : BitVec 64) : Prop := m.toNat ≤ 281474976710656
theorem rem_safe (m : BitVec 64) (h : small48 m) : 0 < U (281474976710656#64 - m + 1#64) := by
  unfold small48 at h
  unfold U
  rw [BitVec.toNat_add, BitVec.toNat_sub_of_le (by rw [BitVec.le_def]; exact h)]
  simp only [show (1#64).toNat = 1 from rfl, show (281474976710656#64).toNat = 281474976710656 from rfl]
  omega
attribute [go_sem 2000] rem_safe
set_option maxHeartbeats 8000000 in
set_option maxRecDepth 100000 in
theorem walk_n (a l n m : BitVec 64) (x : Nat) (hl : l % 281474976710657#64 = n) (hm : rndT 0#64 n = m) (hx : (encE 0#64 n).toNat - 1 = x) (w : World) :
    Calls Try.prog 7 #[.int .u64 (U a), .int .u64 (U l)] w fun r w' => r = .returned (.bool true) ∧ Below w.heap.size w w' := by
  have hn : n.toNat ≤ 281474976710656 := by rw [← hl, BitVec.toNat_umod]; simp only [show (281474976710657#64).toNat = 281474976710657 from rfl]; omega
  obtain ⟨m1, m2, h1, h2, h3, h4, h5, h6, h7⟩ := aligned_is n m a x hn hm hx
  have hq : (U (BitVec.ofNat 64 x)).toNat = x := by unfold U; simp; omega
  have cl : ∀ w : World, Calls Try.prog 18 #[.int .u64 (U n)] w fun r w' => r = .returned (.tuple #[.int .u64 (U m), .bool true]) ∧ Below w.heap.size w w' := fun w => (length_any n w).mono fun _ _ g => ⟨by rw [g.1, hm, m1], g.2⟩
  have ca : ∀ w : World, Calls Try.prog 21 #[.int .u64 (U n)] w fun r w' => r = .returned (.tuple #[.int .i64 (x : Int), .bool true]) ∧ Below w.heap.size w w' := fun w => (align_any n w).mono fun _ _ g => ⟨by rw [g.1, hx, m1], g.2⟩
  have cb : ∀ w : World, Calls Try.prog 21 #[.int .u64 (U m)] w fun r w' => r = .returned (.tuple #[.int .i64 (x : Int), .bool true]) ∧ Below w.heap.size w w' := fun w => (align_any m w).mono fun _ _ g => ⟨by rw [g.1, h3, m2], g.2⟩
  have ce : ∀ w : World, Calls Try.prog 17 #[.agg #[.int .u64 (U (((a % (281474976710656#64 - m + 1#64)) >>> x) <<< x)), .int .u64 (U (((a % (281474976710656#64 - m + 1#64)) >>> x) <<< x + m))]] w fun r w' => r = .returned (.tuple #[.agg #[.int .u64 (U (encB (((a % (281474976710656#64 - m + 1#64)) >>> x) <<< x) (((a % (281474976710656#64 - m + 1#64)) >>> x) <<< x + m))), .int .u64 (U (encT (((a % (281474976710656#64 - m + 1#64)) >>> x) <<< x) (((a % (281474976710656#64 - m + 1#64)) >>> x) <<< x + m))), .int .u64 (U (encE (((a % (281474976710656#64 - m + 1#64)) >>> x) <<< x) (((a % (281474976710656#64 - m + 1#64)) >>> x) <<< x + m)))], .bool true]) ∧ Below w.heap.size w w' := fun w => (encode_any _ _ w).mono fun _ _ g => ⟨by rw [g.1, h7], g.2⟩
  have hd : decide (281474976710656 < U m) = false := decide_eq_false (by omega)
  have hs : small48 m := by unfold small48; unfold U at h2; omega
  clear hm hx hn m1 m2 h2 h3 h6 h7
  go_enter Try.func7, Try.ntmps7
  go_wp2_with (first | (go_at_call 18; (with_reducible refine (length_lit _).mono ?_); rintro e w' ⟨rfl, hbl⟩; obtain ⟨hcw, hfw, hsw⟩ := below_ifs hbl; (try simp only [World.size_alloc, World.size_setCell, World.size_drew, size_drewN_] at hcw hfw hsw)) | (go_at_call 18; (with_reducible refine (cl _).mono ?_); rintro e w' ⟨rfl, hbl⟩; obtain ⟨hcw, hfw, hsw⟩ := below_ifs hbl; (try simp only [World.size_alloc, World.size_setCell, World.size_drew, size_drewN_] at hcw hfw hsw)) | (go_at_call 21; (with_reducible refine (ca _).mono ?_); rintro e w' ⟨rfl, hbl⟩; obtain ⟨hcw, hfw, hsw⟩ := below_ifs hbl; (try simp only [World.size_alloc, World.size_setCell, World.size_drew, size_drewN_] at hcw hfw hsw)) | (go_at_call 21; (with_reducible refine (cb _).mono ?_); rintro e w' ⟨rfl, hbl⟩; obtain ⟨hcw, hfw, hsw⟩ := below_ifs hbl; (try simp only [World.size_alloc, World.size_setCell, World.size_drew, size_drewN_] at hcw hfw hsw)) | (go_at_call 17; (with_reducible refine (ce _).mono ?_); rintro e w' ⟨rfl, hbl⟩; obtain ⟨hcw, hfw, hsw⟩ := below_ifs hbl; (try simp only [World.size_alloc, World.size_setCell, World.size_drew, size_drewN_] at hcw hfw hsw)))
  all_goals go_ways
  all_goals go_ret
  exact ⟨rfl, by (repeat (first | with_reducible exact Below.refl _ _ | with_reducible assumption | with_reducible refine below_drewN ?_ _ | with_reducible refine Below.drew ?_ | with_reducible refine below_alloc ?_ _ | (with_reducible refine Below.setCell ?_ (by first | (simp; done) | omega | (simp; omega)) _) | with_reducible refine belows ?_ (by assumption)))⟩
theorem walk (a l : BitVec 64) (w : World) : Calls Try.prog 7 #[.int .u64 (U a), .int .u64 (U l)] w fun r w' => r = .returned (.bool true) ∧ Below w.heap.size w w' :=
  walk_n a l _ _ _ rfl rfl rfl w

set_option maxRecDepth 100000 in
theorem lifted (os : Os) (started : os.Started) (H : Type) (enc : TypeId × Value → H) :
    ReturnsInHanded {} Try.checked os 7 .any (Rows.boundsAlignedSpec.pre6 enc Try.prog Try.f7 Rows.boundsAlignedRow.domain false) (Rows.boundsAlignedSpec.post enc Try.prog Try.f7 false true false false) := by
  refine law_lift (C := Try.checked) (tb := 4) started (by kernel_rfl) (by kernel_rfl) Try.func7 rfl rfl Try.underlying4 (by kernel_rfl) (by kernel_rfl)
    (fun ds h => by match ds, h with | [_, _], _ => rfl)
    (ChangeSpec.witness6 (enc := enc) (C := Try.checked) false ⟨#[], #[.int .u64 0, .int .u64 0], []⟩ 8 (by kernel_rfl) (by kernel_rfl) (by kernel_rfl) (by kernel_rfl)) ?_
  intro W base args ds ps hval hA hlt hfz hsz
  rw [Try.params7] at hA hval hsz
  obtain ⟨v0, v1, d0, d1, p0, p1, rfl, rfl, rfl, h0, h1⟩ := trodAll_two hA
  obtain ⟨a1, rfl, rfl, rfl, w1⟩ := open_int Try.underlying22 (hval 0 _ v0 rfl rfl) h0
  obtain ⟨a2, rfl, rfl, rfl, w2⟩ := open_int Try.underlying22 (hval 1 _ v1 rfl rfl) h1
  obtain ⟨x, rfl⟩ := exists_U a1 w1
  obtain ⟨y, rfl⟩ := exists_U a2 w2
  exact walk x y W

theorem over : Rows.boundsAlignedRow.holds Try.pinned (OpenSpec.ofChange Rows.boundsAlignedSpec) :=
  OpenClaim.holds_of_wide 7 Try.f7 rfl rfl rfl rfl rfl rfl rfl ⟨rfl, rfl, rfl, rfl, rfl⟩ rfl rfl rfl rfl rfl (by kernel_rfl) Try.func7 (by kernel_rfl)
    (of_decide_eq_true (by kernel_rfl)) (by unfold Func.isWrapper; first | (rw [if_pos (by decide +kernel)]; kernel_rfl) | (rw [if_neg (by decide +kernel)]; exact ⟨rfl, rfl⟩))
    (fun os started H enc _ => lifted os started H enc)

theorem proved : Rows.BoundsAlignedSaid := over
end Go.Proofs.Ytjhekfcnoofaaaa.Aligned
