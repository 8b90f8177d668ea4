
/-
  An instruction's word and back, as the laws need it; plain.
-/
import Derived.Test.YtokfokgbbpjgdaaInstQ
namespace Go.Proofs.Ytokfokgbbpjgdaa
open Go Go.RowKit
set_option linter.unusedVariables false
set_option linter.unusedSimpArgs false

theorem fits5_mask {x : BitVec 64} (h : fitsF x 5 false = true) : x &&& maskF 5 = x := by
  rw [fits_plain_lsb _ _ (by omega)] at h
  refine ext64 fun j hj => ?_
  rw [BitVec.getLsbD_and, mask_lsb 5 (by omega)]
  by_cases c : j < (5 : Int).toNat
  · rw [decide_eq_true c, Bool.and_true]
  · rw [decide_eq_false c, Bool.and_false, h j (by omega) hj]
theorem fits5_lt {x : BitVec 64} (h : fitsF x 5 false = true) : x.toNat < 32 := by
  rw [fits_plain_lsb _ _ (by omega)] at h
  exact lt_of_low (n := 5) fun j h1 h2 => h j (by omega) h2
theorem fits5_get (w : BitVec 64) (a : Int) : fitsF (getF w a 5) 5 false = true := by
  rw [fits_plain_lsb _ _ (by omega)]
  intro j h1 h2
  cases hm : mayF a 5
  · rw [get_not _ _ _ hm]; simp
  · rw [get_lsb _ _ _ hm, decide_eq_false (by omega)]; rfl
theorem enc_some {r : RowT} {i : Ins} {y : BitVec 64} (h : encW r i = some y) : okE r i = true ∧ y = putsF (flds r i) 0#64 := by
  rw [enc_is] at h
  split at h
  · rename_i ho
    cases h
    exact ⟨ho, rfl⟩
  · cases h
theorem okE_parts {r : RowT} {i : Ins} (h : okE r i = true) : fitsL (pcs r.sh) (bitsOf r.sh) (sgOf r.sh) (zerosOf r.sh) i.imm = true ∧ (hasD r.sh = true → fitsF i.rd 5 false = true) ∧ (has1 r.sh = true → fitsF i.r1 5 false = true) ∧ (has2 r.sh = true → fitsF i.r2 5 false = true) := by
  unfold okE at h
  simp only [Bool.and_eq_true, Bool.or_eq_true, Bool.not_eq_true'] at h
  obtain ⟨h1, h2, h3, h4⟩ := h
  refine ⟨h1, fun c => ?_, fun c => ?_, fun c => ?_⟩
  · rcases h2 with h | h
    · rw [c] at h; cases h
    · exact h
  · rcases h3 with h | h
    · rw [c] at h; cases h
    · exact h
  · rcases h4 with h | h
    · rw [c] at h; cases h
    · exact h
theorem okE_of {r : RowT} {i : Ins} (h1 : fitsL (pcs r.sh) (bitsOf r.sh) (sgOf r.sh) (zerosOf r.sh) i.imm = true) (h2 : hasD r.sh = true → fitsF i.rd 5 false = true) (h3 : has1 r.sh = true → fitsF i.r1 5 false = true) (h4 : has2 r.sh = true → fitsF i.r2 5 false = true) : okE r i = true := by
  unfold okE
  rw [h1, Bool.true_and]
  cases hd : hasD r.sh <;> cases ha : has1 r.sh <;> cases hb : has2 r.sh <;> simp [*]
theorem mem_d {s : Nat} {d a b : BitVec 64} (h : hasD s = true) : ((7, 5, d) : Int × Int × BitVec 64) ∈ regsL s d a b := by
  unfold regsL; rw [if_pos h]; exact List.mem_append_left _ List.mem_cons_self
theorem mem_1 {s : Nat} {d a b : BitVec 64} (h : has1 s = true) : ((15, 5, a) : Int × Int × BitVec 64) ∈ regsL s d a b := by
  unfold regsL; rw [if_pos h]; exact List.mem_append_right _ (List.mem_append_left _ List.mem_cons_self)
theorem mem_2 {s : Nat} {d a b : BitVec 64} (h : has2 s = true) : ((20, 5, b) : Int × Int × BitVec 64) ∈ regsL s d a b := by
  unfold regsL; rw [if_pos h]; exact List.mem_append_right _ (List.mem_append_right _ List.mem_cons_self)
theorem mem_regs {s : Nat} {d a b : BitVec 64} {p : Int × Int × BitVec 64} (h : p ∈ regsL s d a b) : (p = (7, 5, d) ∧ hasD s = true) ∨ (p = (15, 5, a) ∧ has1 s = true) ∨ (p = (20, 5, b) ∧ has2 s = true) := by
  unfold regsL at h
  rcases List.mem_append.1 h with h | h
  · split at h
    · rename_i c; exact .inl ⟨by simpa using h, c⟩
    · cases h
  · rcases List.mem_append.1 h with h | h
    · split at h
      · rename_i c; exact .inr (.inl ⟨by simpa using h, c⟩)
      · cases h
    · split at h
      · rename_i c; exact .inr (.inr ⟨by simpa using h, c⟩)
      · cases h
/-- What an instruction's word is read as. -/
def backI (k : Nat) (i : Ins) : Ins := ⟨(k : Int) + 1, if hasD (rowAt k).sh then i.rd else 0#64, if has1 (rowAt k).sh then i.r1 else 0#64, if has2 (rowAt k).sh then i.r2 else 0#64, if (pcs (rowAt k).sh).isEmpty then 0#64 else i.imm⟩
theorem enc_back {k : Nat} {i : Ins} {y : BitVec 64} (hk : k < 69) (h : encW (rowAt k) i = some y) : y.toNat < 2 ^ 32 ∧ hit y k = true ∧ decI k y = backI k i := by
  have hs := rowAt_sh k hk
  obtain ⟨ho, rfl⟩ := enc_some h
  obtain ⟨f0, f1, f2, f3⟩ := okE_parts ho
  have hg := fun p hp => word_get (rowAt k) i hs p hp
  refine ⟨word_lt _ _ hs, ?_, ?_⟩
  · unfold hit
    rw [beq_iff_eq, hit_iff _ hs]
    exact fun p hp => hg p (List.mem_append_left _ hp)
  · have e1 : hasD (rowAt k).sh = true → getF (putsF (flds (rowAt k) i) 0#64) 7 5 = i.rd := fun c => (hg (7, 5, i.rd) (List.mem_append_right _ (List.mem_append_right _ (mem_d c)))).trans (fits5_mask (f1 c))
    have e2 : has1 (rowAt k).sh = true → getF (putsF (flds (rowAt k) i) 0#64) 15 5 = i.r1 := fun c => (hg (15, 5, i.r1) (List.mem_append_right _ (List.mem_append_right _ (mem_1 c)))).trans (fits5_mask (f2 c))
    have e3 : has2 (rowAt k).sh = true → getF (putsF (flds (rowAt k) i) 0#64) 20 5 = i.r2 := fun c => (hg (20, 5, i.r2) (List.mem_append_right _ (List.mem_append_right _ (mem_2 c)))).trans (fits5_mask (f3 c))
    have e4 : pcs (rowAt k).sh ≠ [] → readI (rowAt k).sh (putsF (flds (rowAt k) i) 0#64) = i.imm := fun c => readI_of hs _ _ c f0 fun p hp => by
      have := hg (p.2.2, p.2.1, getF i.imm p.1 p.2.1) (List.mem_append_right _ (List.mem_append_left _ (List.mem_map.2 ⟨p, hp, rfl⟩)))
      simp only at this
      rw [this, get_mask]
    have e5 : pcs (rowAt k).sh = [] → readI (rowAt k).sh (putsF (flds (rowAt k) i) 0#64) = 0#64 := fun c => readI_none hs _ c
    unfold decI backI
    congr 1
    · split
      · exact e1 (by assumption)
      · rfl
    · split
      · exact e2 (by assumption)
      · rfl
    · split
      · exact e3 (by assumption)
      · rfl
    · split
      · rename_i c; exact e5 (List.isEmpty_iff.1 c)
      · rename_i c; exact e4 (fun hn => c (by rw [hn]; rfl))
/-- What is decoded has the word that it was decoded of. -/
theorem dec_back {k : Nat} {w : BitVec 64} (hk : k < 69) (hw : w.toNat < 2 ^ 32) (h : hit w k = true) : encW (rowAt k) (decI k w) = some w := by
  have hs := rowAt_sh k hk
  have ho : okE (rowAt k) (decI k w) = true := by
    refine okE_of (read_fits hs w) (fun c => ?_) (fun c => ?_) (fun c => ?_)
    · show fitsF (if hasD (rowAt k).sh = true then getF w 7 5 else 0#64) 5 false = true
      rw [if_pos c]; exact fits5_get w 7
    · show fitsF (if has1 (rowAt k).sh = true then getF w 15 5 else 0#64) 5 false = true
      rw [if_pos c]; exact fits5_get w 15
    · show fitsF (if has2 (rowAt k).sh = true then getF w 20 5 else 0#64) 5 false = true
      rw [if_pos c]; exact fits5_get w 20
  rw [enc_is, if_pos ho]
  congr 1
  refine cover_eq (okS_1 hs).1 (okS_1 hs).2.1 (word_lt _ _ hs) hw fun q hq => ?_
  rw [← rg_flds (rowAt k) (decI k w)] at hq
  obtain ⟨p, hp, rfl⟩ := List.mem_map.1 hq
  show getF _ p.1 p.2.1 = getF w p.1 p.2.1
  rw [word_get _ _ hs p hp]
  rcases List.mem_append.1 hp with hp | hp
  · unfold hit at h
    rw [beq_iff_eq, hit_iff _ hs] at h
    exact (h p hp).symm
  · rcases List.mem_append.1 hp with hp | hp
    · obtain ⟨c, hc, rfl⟩ := List.mem_map.1 hp
      show getF (readI (rowAt k).sh w) c.1 c.2.1 &&& maskF c.2.1 = getF w c.2.2 c.2.1
      rw [get_mask, readI_get hs w c hc]
    · rcases mem_regs hp with ⟨rfl, c⟩ | ⟨rfl, c⟩ | ⟨rfl, c⟩
      · show (if hasD (rowAt k).sh = true then getF w 7 5 else 0#64) &&& maskF 5 = getF w 7 5
        rw [if_pos c, get_mask]
      · show (if has1 (rowAt k).sh = true then getF w 15 5 else 0#64) &&& maskF 5 = getF w 15 5
        rw [if_pos c, get_mask]
      · show (if has2 (rowAt k).sh = true then getF w 20 5 else 0#64) &&& maskF 5 = getF w 20 5
        rw [if_pos c, get_mask]
theorem encF_some {i : Ins} {y : BitVec 64} (h : encF i = some y) : ∃ k : Nat, k < 69 ∧ i.op = (k : Int) + 1 ∧ encW (rowAt k) i = some y := by
  unfold encF at h
  split at h
  · cases h
  · exact ⟨(i.op - 1).toNat, by omega, by omega, h⟩
theorem encF_at {i : Ins} {k : Nat} (hk : k < 69) (h : i.op = (k : Int) + 1) : encF i = encW (rowAt k) i := by
  unfold encF
  rw [if_neg (by omega), show (i.op - 1).toNat = k by omega]
theorem decF_back {w : BitVec 64} {d : Ins} (hw : w.toNat < 2 ^ 32) (h : decF w = some d) : encF d = some w := by
  obtain ⟨k, hk, hh, rfl⟩ := dec_some h
  rw [encF_at (i := decI k w) hk rfl]
  exact dec_back hk hw hh
theorem encF_back {i : Ins} {y : BitVec 64} (h : encF i = some y) : ∃ k : Nat, k < 69 ∧ i.op = (k : Int) + 1 ∧ y.toNat < 2 ^ 32 ∧ decF y = some (backI k i) ∧ encF (backI k i) = some y := by
  obtain ⟨k, hk, he, hw⟩ := encF_some h
  obtain ⟨h1, h2, h3⟩ := enc_back hk hw
  have hd := dec_hit hk h2
  rw [h3] at hd
  exact ⟨k, hk, he, h1, hd, decF_back h1 hd⟩
end Go.Proofs.Ytokfokgbbpjgdaa
