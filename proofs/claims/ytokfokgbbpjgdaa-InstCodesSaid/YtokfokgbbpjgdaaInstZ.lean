
/-
  The document's Encode is the program's: the words, and whether there is one.
-/
import Derived.Test.YtokfokgbbpjgdaaInstY
import Derived.Test.YtokfokgbbpjgdaaInstB
namespace Go.Proofs.Ytokfokgbbpjgdaa
open Go Go.RowKit
set_option linter.unusedVariables false
set_option linter.unusedSimpArgs false

theorem tab_ok : ∀ k, k < 69 → (rowAt k).cd.toNat < 128 ∧ (rowAt k).f.toNat < 8 ∧ ((rowAt k).sh = 82 → (rowAt k).ot.toNat < 128) ∧ ((rowAt k).sh = 71 → (rowAt k).ot.toNat < 32) ∧ ((rowAt k).sh = 72 → (rowAt k).ot.toNat < 64) ∧ ((rowAt k).sh = 78 → (rowAt k).ot.toNat < 4096) := by decide +kernel
theorem S_mod32 {v : BitVec 64} (h : v.toNat < 32) : S v % 32 = (v.toNat : Int) := by
  unfold S
  rw [BitVec.toInt_eq_toNat_of_lt (by omega)]
  omega
theorem bitI_is (m : BitVec 64) (f n : Int) (a : Nat) : bitI m f n a = (((getF m f n).toNat * 2 ^ a : Nat) : Int) % 18446744073709551616 % 4294967296 := by
  unfold bitI U
  rw [BitVec.toNat_shiftLeft, Nat.shiftLeft_eq]
  omega
theorem get_lt (m : BitVec 64) (f n : Int) (h : n ≤ 64) : (getF m f n).toNat < 2 ^ n.toNat := by
  unfold getF
  split
  · rw [and_maskN _ _ h]; exact Nat.mod_lt _ (Nat.two_pow_pos _)
  · exact Nat.two_pow_pos _
theorem tmod_mask (m : BitVec 64) (n : Int) (h0 : 0 ≤ n) (h : n ≤ 62) : ((S m).tmod (2 ^ n.toNat : Nat) == 0) = (m &&& maskF n == 0#64) := by
  rw [Bool.eq_iff_iff, beq_iff_eq, beq_iff_eq, ← BitVec.toNat_inj, and_maskN m n (by omega)]
  rw [← Int.dvd_iff_tmod_eq_zero]
  have e : (S m) = (m.toNat : Int) ∨ S m = (m.toNat : Int) - ((2 ^ n.toNat * 2 ^ (64 - n.toNat) : Nat) : Int) := by
    rw [← Nat.pow_add, show n.toNat + (64 - n.toNat) = 64 by omega]
    unfold S
    rw [BitVec.toInt_eq_toNat_cond]
    split
    · exact .inl rfl
    · exact .inr (by simp)
  have e2 : ((2 ^ n.toNat : Nat) : Int) ∣ S m ↔ ((2 ^ n.toNat : Nat) : Int) ∣ (m.toNat : Int) := by
    rcases e with e | e
    · rw [e]
    · rw [e]
      refine Int.dvd_iff_dvd_of_dvd_sub ?_
      rw [Int.natCast_mul, show (m.toNat : Int) - ((2 ^ n.toNat : Nat) : Int) * ((2 ^ (64 - n.toNat) : Nat) : Int) - (m.toNat : Int) = -(((2 ^ n.toNat : Nat) : Int) * ((2 ^ (64 - n.toNat) : Nat) : Int)) by omega]
      exact Int.dvd_neg.2 (Int.dvd_mul_right _ _)
  rw [e2, Int.natCast_dvd_natCast]
  show _ ↔ m.toNat % 2 ^ n.toNat = 0
  exact Nat.dvd_iff_mod_eq_zero
set_option maxHeartbeats 4000000 in
set_option maxRecDepth 100000 in
theorem word_R (nm : ByteArray) (cd f ot : BitVec 64) (o : Int) (d a b m : BitVec 64) (hc : cd.toNat < 128) (hf : f.toNat < 8) (ho : ot.toNat < 128) (hd : d.toNat < 32) (ha : a.toNat < 32) (hb : b.toNat < 32) : (U cd + U f * 4096 + S d % 32 * 128 + S a % 32 * 32768 + S b % 32 * 1048576 + U ot * 33554432) % 4294967296 = U (putsF (flds ⟨nm, 82, cd, f, ot⟩ ⟨o, d, a, b, m⟩) 0#64) := by
  have hg : goodL (rg (flds ⟨nm, 82, cd, f, ot⟩ ⟨o, d, a, b, m⟩)) = true := by rw [rg_flds]; exact (okS_1 (show (82 : Nat) ∈ shapes by decide)).1
  have e : U (putsF (flds ⟨nm, 82, cd, f, ot⟩ ⟨o, d, a, b, m⟩) 0#64) = ((sumN (flds ⟨nm, 82, cd, f, ot⟩ ⟨o, d, a, b, m⟩) : Nat) : Int) := by
    unfold U
    rw [puts_sum _ hg]
  rw [e]
  simp only [flds, fix, pcsL, pcs, regsL, hasD, has1, has2]
  simp [sumN]
  rw [S_mod32 hd, S_mod32 ha, S_mod32 hb]
  unfold U
  omega
set_option maxHeartbeats 4000000 in
set_option maxRecDepth 100000 in
theorem word_G (nm : ByteArray) (cd f ot : BitVec 64) (o : Int) (d a b m : BitVec 64) (hc : cd.toNat < 128) (hf : f.toNat < 8) (ho : ot.toNat < 32) (hd : d.toNat < 32) (ha : a.toNat < 32) : (U cd + U f * 4096 + S d % 32 * 128 + S a % 32 * 32768 + U ot * 1048576 + 4261412864) % 4294967296 = U (putsF (flds ⟨nm, 71, cd, f, ot⟩ ⟨o, d, a, b, m⟩) 0#64) := by
  have hg : goodL (rg (flds ⟨nm, 71, cd, f, ot⟩ ⟨o, d, a, b, m⟩)) = true := by rw [rg_flds]; exact (okS_1 (show (71 : Nat) ∈ shapes by decide)).1
  have e : U (putsF (flds ⟨nm, 71, cd, f, ot⟩ ⟨o, d, a, b, m⟩) 0#64) = ((sumN (flds ⟨nm, 71, cd, f, ot⟩ ⟨o, d, a, b, m⟩) : Nat) : Int) := by
    unfold U
    rw [puts_sum _ hg]
  rw [e]
  simp only [flds, fix, pcsL, pcs, regsL, hasD, has1, has2]
  simp [sumN]
  rw [S_mod32 hd, S_mod32 ha]
  unfold U
  omega
set_option maxHeartbeats 4000000 in
set_option maxRecDepth 100000 in
theorem word_N (nm : ByteArray) (cd f ot : BitVec 64) (o : Int) (d a b m : BitVec 64) (hc : cd.toNat < 128) (hf : f.toNat < 8) (ho : ot.toNat < 4096)  : (U cd + U ot * 1048576) % 4294967296 = U (putsF (flds ⟨nm, 78, cd, f, ot⟩ ⟨o, d, a, b, m⟩) 0#64) := by
  have hg : goodL (rg (flds ⟨nm, 78, cd, f, ot⟩ ⟨o, d, a, b, m⟩)) = true := by rw [rg_flds]; exact (okS_1 (show (78 : Nat) ∈ shapes by decide)).1
  have e : U (putsF (flds ⟨nm, 78, cd, f, ot⟩ ⟨o, d, a, b, m⟩) 0#64) = ((sumN (flds ⟨nm, 78, cd, f, ot⟩ ⟨o, d, a, b, m⟩) : Nat) : Int) := by
    unfold U
    rw [puts_sum _ hg]
  rw [e]
  simp only [flds, fix, pcsL, pcs, regsL, hasD, has1, has2]
  simp [sumN]
  unfold U
  omega
set_option maxHeartbeats 4000000 in
set_option maxRecDepth 100000 in
theorem word_I (nm : ByteArray) (cd f ot : BitVec 64) (o : Int) (d a b m : BitVec 64) (hc : cd.toNat < 128) (hf : f.toNat < 8)  (hd : d.toNat < 32) (ha : a.toNat < 32) : (U cd + U f * 4096 + S d % 32 * 128 + S a % 32 * 32768 + bitI m 0 12 20) % 4294967296 = U (putsF (flds ⟨nm, 73, cd, f, ot⟩ ⟨o, d, a, b, m⟩) 0#64) := by
  have hg : goodL (rg (flds ⟨nm, 73, cd, f, ot⟩ ⟨o, d, a, b, m⟩)) = true := by rw [rg_flds]; exact (okS_1 (show (73 : Nat) ∈ shapes by decide)).1
  have e : U (putsF (flds ⟨nm, 73, cd, f, ot⟩ ⟨o, d, a, b, m⟩) 0#64) = ((sumN (flds ⟨nm, 73, cd, f, ot⟩ ⟨o, d, a, b, m⟩) : Nat) : Int) := by
    unfold U
    rw [puts_sum _ hg]
  rw [e]
  simp only [flds, fix, pcsL, pcs, regsL, hasD, has1, has2]
  simp [sumN]
  rw [S_mod32 hd, S_mod32 ha]
  have g0 := get_lt m 0 12 (by decide)
  simp only [bitI_is]
  simp at g0
  generalize (getF m 0 12).toNat = y0 at g0 ⊢
  unfold U
  omega
set_option maxHeartbeats 4000000 in
set_option maxRecDepth 100000 in
theorem word_C (nm : ByteArray) (cd f ot : BitVec 64) (o : Int) (d a b m : BitVec 64) (hc : cd.toNat < 128) (hf : f.toNat < 8)  (hd : d.toNat < 32) (ha : a.toNat < 32) : (U cd + U f * 4096 + S d % 32 * 128 + S a % 32 * 32768 + bitI m 0 12 20) % 4294967296 = U (putsF (flds ⟨nm, 67, cd, f, ot⟩ ⟨o, d, a, b, m⟩) 0#64) := by
  have hg : goodL (rg (flds ⟨nm, 67, cd, f, ot⟩ ⟨o, d, a, b, m⟩)) = true := by rw [rg_flds]; exact (okS_1 (show (67 : Nat) ∈ shapes by decide)).1
  have e : U (putsF (flds ⟨nm, 67, cd, f, ot⟩ ⟨o, d, a, b, m⟩) 0#64) = ((sumN (flds ⟨nm, 67, cd, f, ot⟩ ⟨o, d, a, b, m⟩) : Nat) : Int) := by
    unfold U
    rw [puts_sum _ hg]
  rw [e]
  simp only [flds, fix, pcsL, pcs, regsL, hasD, has1, has2]
  simp [sumN]
  rw [S_mod32 hd, S_mod32 ha]
  have g0 := get_lt m 0 12 (by decide)
  simp only [bitI_is]
  simp at g0
  generalize (getF m 0 12).toNat = y0 at g0 ⊢
  unfold U
  omega
set_option maxHeartbeats 4000000 in
set_option maxRecDepth 100000 in
theorem word_H (nm : ByteArray) (cd f ot : BitVec 64) (o : Int) (d a b m : BitVec 64) (hc : cd.toNat < 128) (hf : f.toNat < 8) (ho : ot.toNat < 64) (hd : d.toNat < 32) (ha : a.toNat < 32) : (U cd + U f * 4096 + S d % 32 * 128 + S a % 32 * 32768 + bitI m 0 6 20 + U ot * 67108864) % 4294967296 = U (putsF (flds ⟨nm, 72, cd, f, ot⟩ ⟨o, d, a, b, m⟩) 0#64) := by
  have hg : goodL (rg (flds ⟨nm, 72, cd, f, ot⟩ ⟨o, d, a, b, m⟩)) = true := by rw [rg_flds]; exact (okS_1 (show (72 : Nat) ∈ shapes by decide)).1
  have e : U (putsF (flds ⟨nm, 72, cd, f, ot⟩ ⟨o, d, a, b, m⟩) 0#64) = ((sumN (flds ⟨nm, 72, cd, f, ot⟩ ⟨o, d, a, b, m⟩) : Nat) : Int) := by
    unfold U
    rw [puts_sum _ hg]
  rw [e]
  simp only [flds, fix, pcsL, pcs, regsL, hasD, has1, has2]
  simp [sumN]
  rw [S_mod32 hd, S_mod32 ha]
  have g0 := get_lt m 0 6 (by decide)
  simp only [bitI_is]
  simp at g0
  generalize (getF m 0 6).toNat = y0 at g0 ⊢
  unfold U
  omega
set_option maxHeartbeats 4000000 in
set_option maxRecDepth 100000 in
theorem word_S (nm : ByteArray) (cd f ot : BitVec 64) (o : Int) (d a b m : BitVec 64) (hc : cd.toNat < 128) (hf : f.toNat < 8)  (ha : a.toNat < 32) (hb : b.toNat < 32) : (U cd + U f * 4096 + S a % 32 * 32768 + S b % 32 * 1048576 + bitI m 0 5 7 + bitI m 5 7 25) % 4294967296 = U (putsF (flds ⟨nm, 83, cd, f, ot⟩ ⟨o, d, a, b, m⟩) 0#64) := by
  have hg : goodL (rg (flds ⟨nm, 83, cd, f, ot⟩ ⟨o, d, a, b, m⟩)) = true := by rw [rg_flds]; exact (okS_1 (show (83 : Nat) ∈ shapes by decide)).1
  have e : U (putsF (flds ⟨nm, 83, cd, f, ot⟩ ⟨o, d, a, b, m⟩) 0#64) = ((sumN (flds ⟨nm, 83, cd, f, ot⟩ ⟨o, d, a, b, m⟩) : Nat) : Int) := by
    unfold U
    rw [puts_sum _ hg]
  rw [e]
  simp only [flds, fix, pcsL, pcs, regsL, hasD, has1, has2]
  simp [sumN]
  rw [S_mod32 ha, S_mod32 hb]
  have g0 := get_lt m 0 5 (by decide)
  have g1 := get_lt m 5 7 (by decide)
  simp only [bitI_is]
  simp at g0 g1
  generalize (getF m 0 5).toNat = y0 at g0 ⊢
  generalize (getF m 5 7).toNat = y1 at g1 ⊢
  unfold U
  omega
set_option maxHeartbeats 4000000 in
set_option maxRecDepth 100000 in
theorem word_B (nm : ByteArray) (cd f ot : BitVec 64) (o : Int) (d a b m : BitVec 64) (hc : cd.toNat < 128) (hf : f.toNat < 8)  (ha : a.toNat < 32) (hb : b.toNat < 32) : (U cd + U f * 4096 + S a % 32 * 32768 + S b % 32 * 1048576 + bitI m 1 4 8 + bitI m 5 6 25 + bitI m 11 1 7 + bitI m 12 1 31) % 4294967296 = U (putsF (flds ⟨nm, 66, cd, f, ot⟩ ⟨o, d, a, b, m⟩) 0#64) := by
  have hg : goodL (rg (flds ⟨nm, 66, cd, f, ot⟩ ⟨o, d, a, b, m⟩)) = true := by rw [rg_flds]; exact (okS_1 (show (66 : Nat) ∈ shapes by decide)).1
  have e : U (putsF (flds ⟨nm, 66, cd, f, ot⟩ ⟨o, d, a, b, m⟩) 0#64) = ((sumN (flds ⟨nm, 66, cd, f, ot⟩ ⟨o, d, a, b, m⟩) : Nat) : Int) := by
    unfold U
    rw [puts_sum _ hg]
  rw [e]
  simp only [flds, fix, pcsL, pcs, regsL, hasD, has1, has2]
  simp [sumN]
  rw [S_mod32 ha, S_mod32 hb]
  have g0 := get_lt m 1 4 (by decide)
  have g1 := get_lt m 5 6 (by decide)
  have g2 := get_lt m 11 1 (by decide)
  have g3 := get_lt m 12 1 (by decide)
  simp only [bitI_is]
  simp at g0 g1 g2 g3
  generalize (getF m 1 4).toNat = y0 at g0 ⊢
  generalize (getF m 5 6).toNat = y1 at g1 ⊢
  generalize (getF m 11 1).toNat = y2 at g2 ⊢
  generalize (getF m 12 1).toNat = y3 at g3 ⊢
  unfold U
  omega
set_option maxHeartbeats 4000000 in
set_option maxRecDepth 100000 in
theorem word_U (nm : ByteArray) (cd f ot : BitVec 64) (o : Int) (d a b m : BitVec 64) (hc : cd.toNat < 128) (hf : f.toNat < 8)  (hd : d.toNat < 32) : (U cd + S d % 32 * 128 + bitI m 12 20 12) % 4294967296 = U (putsF (flds ⟨nm, 85, cd, f, ot⟩ ⟨o, d, a, b, m⟩) 0#64) := by
  have hg : goodL (rg (flds ⟨nm, 85, cd, f, ot⟩ ⟨o, d, a, b, m⟩)) = true := by rw [rg_flds]; exact (okS_1 (show (85 : Nat) ∈ shapes by decide)).1
  have e : U (putsF (flds ⟨nm, 85, cd, f, ot⟩ ⟨o, d, a, b, m⟩) 0#64) = ((sumN (flds ⟨nm, 85, cd, f, ot⟩ ⟨o, d, a, b, m⟩) : Nat) : Int) := by
    unfold U
    rw [puts_sum _ hg]
  rw [e]
  simp only [flds, fix, pcsL, pcs, regsL, hasD, has1, has2]
  simp [sumN]
  rw [S_mod32 hd]
  have g0 := get_lt m 12 20 (by decide)
  simp only [bitI_is]
  simp at g0
  generalize (getF m 12 20).toNat = y0 at g0 ⊢
  unfold U
  omega
set_option maxHeartbeats 4000000 in
set_option maxRecDepth 100000 in
theorem word_J (nm : ByteArray) (cd f ot : BitVec 64) (o : Int) (d a b m : BitVec 64) (hc : cd.toNat < 128) (hf : f.toNat < 8)  (hd : d.toNat < 32) : (U cd + S d % 32 * 128 + bitI m 12 8 12 + bitI m 11 1 20 + bitI m 1 10 21 + bitI m 20 1 31) % 4294967296 = U (putsF (flds ⟨nm, 74, cd, f, ot⟩ ⟨o, d, a, b, m⟩) 0#64) := by
  have hg : goodL (rg (flds ⟨nm, 74, cd, f, ot⟩ ⟨o, d, a, b, m⟩)) = true := by rw [rg_flds]; exact (okS_1 (show (74 : Nat) ∈ shapes by decide)).1
  have e : U (putsF (flds ⟨nm, 74, cd, f, ot⟩ ⟨o, d, a, b, m⟩) 0#64) = ((sumN (flds ⟨nm, 74, cd, f, ot⟩ ⟨o, d, a, b, m⟩) : Nat) : Int) := by
    unfold U
    rw [puts_sum _ hg]
  rw [e]
  simp only [flds, fix, pcsL, pcs, regsL, hasD, has1, has2]
  simp [sumN]
  rw [S_mod32 hd]
  have g0 := get_lt m 12 8 (by decide)
  have g1 := get_lt m 11 1 (by decide)
  have g2 := get_lt m 1 10 (by decide)
  have g3 := get_lt m 20 1 (by decide)
  simp only [bitI_is]
  simp at g0 g1 g2 g3
  generalize (getF m 12 8).toNat = y0 at g0 ⊢
  generalize (getF m 11 1).toNat = y1 at g1 ⊢
  generalize (getF m 1 10).toNat = y2 at g2 ⊢
  generalize (getF m 20 1).toNat = y3 at g3 ⊢
  unfold U
  omega

end Go.Proofs.Ytokfokgbbpjgdaa
