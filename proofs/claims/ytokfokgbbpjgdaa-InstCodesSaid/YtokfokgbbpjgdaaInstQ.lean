
/-
  An instruction's word, by its fields; one row alone has a word; back and forth; plain.
-/
import Derived.Test.YtokfokgbbpjgdaaInstP
namespace Go.Proofs.Ytokfokgbbpjgdaa
open Go Go.RowKit
set_option linter.unusedVariables false
set_option linter.unusedSimpArgs false

theorem fits_plain_lsb (x : BitVec 64) (n : Int) (h : 1 ≤ n ∧ n ≤ 63) : fitsF x n false = true ↔ ∀ j : Nat, n ≤ j → j < 64 → x.getLsbD j = false := by
  unfold fitsF
  rw [if_neg (by omega), if_neg (by decide), Bool.and_eq_true, S_nonneg_lsb, beq_iff_eq]
  constructor
  · rintro ⟨h1, h2⟩ j hj h3
    have := congrArg (fun y => y.getLsbD j) h2
    simp only [BitVec.getLsbD_and, BitVec.getLsbD_not, BitVec.getLsbD_zero, mask_lsb n (by omega), decide_eq_false (show ¬ j < n.toNat by omega), decide_eq_true h3] at this
    simpa using this
  · intro hb
    refine ⟨by rw [hb 63 (by omega) (by omega)]; rfl, ext64 fun j hj => ?_⟩
    simp only [BitVec.getLsbD_and, BitVec.getLsbD_not, BitVec.getLsbD_zero, mask_lsb n (show n ≤ 64 by omega), decide_eq_true hj]
    by_cases c : j < n.toNat
    · rw [decide_eq_true c]; simp
    · rw [hb j (by omega) hj]; simp
theorem fits_signed_is (x : BitVec 64) (n : Int) (h : 1 ≤ n ∧ n ≤ 64) : fitsF x n true = (sgnF x n == x) := by
  unfold fitsF; rw [if_neg (by omega)]; rfl
theorem sgn_alike {x y : BitVec 64} (n : Int) (h : 1 ≤ n ∧ n ≤ 64) (hb : ∀ j : Nat, (j : Int) < n → x.getLsbD j = y.getLsbD j) : sgnF x n = sgnF y n := by
  refine ext64 fun j hj => ?_
  rw [sgn_lsb _ _ h _ hj, sgn_lsb _ _ h _ hj]
  exact hb _ (by split <;> omega)
theorem sgn_twice (x : BitVec 64) (n : Int) (h : 1 ≤ n ∧ n ≤ 64) : sgnF (sgnF x n) n = sgnF x n :=
  sgn_alike n h fun j hj => by rw [sgn_lsb _ _ h _ (by omega), if_pos (by omega)]
theorem get_mask (x : BitVec 64) (a n : Int) : getF x a n &&& maskF n = getF x a n := by
  unfold getF
  split
  · rw [BitVec.and_assoc, BitVec.and_self]
  · simp
theorem get_and (x m : BitVec 64) (a n : Int) : getF (x &&& m) a n = getF x a n &&& getF m a n := by
  unfold getF
  split
  · refine ext64 fun j hj => ?_
    simp only [BitVec.getLsbD_and, BitVec.getLsbD_ushiftRight]
    cases (maskF n).getLsbD j <;> simp
  · simp
theorem get_xor (x m : BitVec 64) (a n : Int) : getF (x ^^^ m) a n = getF x a n ^^^ getF m a n := by
  unfold getF
  split
  · refine ext64 fun j hj => ?_
    simp only [BitVec.getLsbD_and, BitVec.getLsbD_xor, BitVec.getLsbD_ushiftRight]
    cases (maskF n).getLsbD j <;> simp
  · simp
theorem and_all (x : BitVec 64) : x &&& ones64 = x := BitVec.and_allOnes
theorem all_and (x : BitVec 64) : ones64 &&& x = x := BitVec.allOnes_and
/-- The fields of a word. -/
def regsL (s : Nat) (d a b : BitVec 64) : List (Int × Int × BitVec 64) := (if hasD s = true then [(7, 5, d)] else []) ++ ((if has1 s = true then [(15, 5, a)] else []) ++ (if has2 s = true then [(20, 5, b)] else []))
def pcsL (s : Nat) (x : BitVec 64) : List (Int × Int × BitVec 64) := (pcs s).map fun p => (p.2.2, p.2.1, getF x p.1 p.2.1)
def flds (r : RowT) (i : Ins) : List (Int × Int × BitVec 64) := fix r ++ (pcsL r.sh i.imm ++ regsL r.sh i.rd i.r1 i.r2)
def okE (r : RowT) (i : Ins) : Bool := fitsL (pcs r.sh) (bitsOf r.sh) (sgOf r.sh) (zerosOf r.sh) i.imm && ((!hasD r.sh || fitsF i.rd 5 false) && ((!has1 r.sh || fitsF i.r1 5 false) && (!has2 r.sh || fitsF i.r2 5 false)))
theorem enc_is (r : RowT) (i : Ins) : encW r i = if okE r i = true then some (putsF (flds r i) 0#64) else none := by
  have hl : layF (pcs r.sh) i.imm (fixW r) = putsF (fix r ++ pcsL r.sh i.imm) 0#64 := by
    unfold layF fixW putsF pcsL
    rw [List.foldl_append, List.foldl_map]
  have hp : putsF (flds r i) 0#64 = putsF (regsL r.sh i.rd i.r1 i.r2) (layF (pcs r.sh) i.imm (fixW r)) := by
    rw [hl]
    unfold flds putsF
    rw [← List.append_assoc, List.foldl_append]
  rw [hp]
  unfold encW okE regsL
  generalize layF (pcs r.sh) i.imm (fixW r) = Y
  cases fitsL (pcs r.sh) (bitsOf r.sh) (sgOf r.sh) (zerosOf r.sh) i.imm
  · simp
  · cases hasD r.sh <;> cases has1 r.sh <;> cases has2 r.sh <;> cases hd : fitsF i.rd 5 false <;> cases h1 : fitsF i.r1 5 false <;> cases h2 : fitsF i.r2 5 false <;> simp [regF, hd, h1, h2, putsF]
def fixS (s : Nat) : List (Int × Int) := (0, 7) :: (if s = 85 ∨ s = 74 then [] else if s = 78 then [(7, 13), (20, 12)] else (12, 3) :: (if s = 82 then [(25, 7)] else if s = 71 then [(20, 5), (25, 7)] else if s = 72 then [(26, 6)] else []))
def rngS (s : Nat) : List (Int × Int) := fixS s ++ ((pcs s).map (fun p => (p.2.2, p.2.1)) ++ rg (regsL s 0#64 0#64 0#64))
theorem rg_fix (r : RowT) : rg (fix r) = fixS r.sh := by
  unfold rg fix fixS
  repeat (first | rfl | split)
theorem rg_regs (s : Nat) (d a b : BitVec 64) : rg (regsL s d a b) = rg (regsL s 0#64 0#64 0#64) := by
  unfold rg regsL
  cases hasD s <;> cases has1 s <;> cases has2 s <;> rfl
theorem rg_flds (r : RowT) (i : Ins) : rg (flds r i) = rngS r.sh := by
  unfold flds rngS
  rw [← rg_fix, ← rg_regs r.sh i.rd i.r1 i.r2]
  unfold rg pcsL
  simp
def okS (s : Nat) : Bool := goodL (rngS s) && coverL (rngS s) 32 && underL (rngS s) 32 && goodL (fixS s)
theorem okS_all : ∀ s, s ∈ shapes → okS s = true := by decide +kernel
theorem okS_1 {s : Nat} (h : s ∈ shapes) : goodL (rngS s) = true ∧ coverL (rngS s) 32 = true ∧ underL (rngS s) 32 = true ∧ goodL (fixS s) = true := by
  have := okS_all s h
  simpa [okS, and_assoc] using this
theorem word_lt (r : RowT) (i : Ins) (h : r.sh ∈ shapes) : (putsF (flds r i) 0#64).toNat < 2 ^ 32 := by
  obtain ⟨h1, h2, h3, h4⟩ := okS_1 h
  exact puts_lt (by rw [rg_flds]; exact h1) (by rw [rg_flds]; exact h3)
theorem word_get (r : RowT) (i : Ins) (h : r.sh ∈ shapes) (p : Int × Int × BitVec 64) (hp : p ∈ flds r i) : getF (putsF (flds r i) 0#64) p.1 p.2.1 = p.2.2 &&& maskF p.2.1 :=
  puts_get _ _ p (by rw [rg_flds]; exact (okS_1 h).1) hp
def onesL (l : List (Int × Int × BitVec 64)) : List (Int × Int × BitVec 64) := l.map fun p => (p.1, p.2.1, ones64)
theorem ones_is (l : List (Int × Int × BitVec 64)) (m : BitVec 64) : onesF l m = putsF (onesL l) m := by
  unfold onesF putsF onesL
  rw [List.foldl_map]
theorem rg_ones (l : List (Int × Int × BitVec 64)) : rg (onesL l) = rg l := by
  unfold rg onesL
  simp
theorem hit_iff (r : RowT) (h : r.sh ∈ shapes) (w : BitVec 64) : w &&& fixM r = fixW r ↔ ∀ p ∈ fix r, getF w p.1 p.2.1 = p.2.2 &&& maskF p.2.1 := by
  have hg : goodL (rg (fix r)) = true := by rw [rg_fix]; exact (okS_1 h).2.2.2
  have hgo : goodL (rg (onesL (fix r))) = true := by rw [rg_ones]; exact hg
  have hm : ∀ p ∈ fix r, getF (fixM r) p.1 p.2.1 = maskF p.2.1 := fun p hp => by
    unfold fixM
    rw [ones_is]
    have := puts_get (onesL (fix r)) 0#64 (p.1, p.2.1, ones64) hgo (List.mem_map.2 ⟨p, hp, rfl⟩)
    simp only at this
    rw [this, all_and]
  have hw : ∀ p ∈ fix r, getF (fixW r) p.1 p.2.1 = p.2.2 &&& maskF p.2.1 := fun p hp => puts_get _ _ p hg hp
  constructor
  · intro e p hp
    rw [← hw p hp, ← e, get_and, hm p hp, get_mask]
  · intro e
    refine ext64 fun j hj => ?_
    by_cases c : ∃ p ∈ rg (fix r), p.1 ≤ (j : Int) ∧ (j : Int) < p.1 + p.2
    · obtain ⟨p, hp, h1, h2⟩ := c
      obtain ⟨q, hq, rfl⟩ := List.mem_map.1 hp
      refine get_bits (good_may _ _ hg hp) ?_ j h1 h2
      show getF _ q.1 q.2.1 = getF _ q.1 q.2.1
      rw [get_and, hm q hq, get_mask, e q hq, hw q hq]
    · have hn : ∀ p ∈ rg (fix r), ¬ (p.1 ≤ (j : Int) ∧ (j : Int) < p.1 + p.2) := fun p hp hc => c ⟨p, hp, hc⟩
      unfold fixM fixW
      rw [ones_is, BitVec.getLsbD_and, puts_out _ _ j hj hg hn, puts_out _ _ j hj hgo (by rw [rg_ones]; exact hn)]
      simp
/-- The rows are pairwise apart. -/
def fixT : List (BitVec 64 × BitVec 64) := (List.range 69).map fun k => (fixW (rowAt k), fixM (rowAt k))
def apartT (T : List (BitVec 64 × BitVec 64)) : Bool := (List.range 69).all fun k => (List.range 69).all fun j => k == j || !((T.getD k (0#64, 0#64)).1 &&& (T.getD j (0#64, 0#64)).2 == (T.getD j (0#64, 0#64)).1 &&& (T.getD k (0#64, 0#64)).2)
def fixN : List (BitVec 64 × BitVec 64) := [(55#64, 127#64), (23#64, 127#64), (111#64, 127#64), (103#64, 28799#64), (99#64, 28799#64), (4195#64, 28799#64), (16483#64, 28799#64), (20579#64, 28799#64), (24675#64, 28799#64), (28771#64, 28799#64), (3#64, 28799#64), (4099#64, 28799#64), (8195#64, 28799#64), (12291#64, 28799#64), (16387#64, 28799#64), (20483#64, 28799#64), (24579#64, 28799#64), (35#64, 28799#64), (4131#64, 28799#64), (8227#64, 28799#64), (12323#64, 28799#64), (19#64, 28799#64), (8211#64, 28799#64), (12307#64, 28799#64), (16403#64, 28799#64), (24595#64, 28799#64), (28691#64, 28799#64), (4115#64, 4227887231#64), (20499#64, 4227887231#64), (1073762323#64, 4227887231#64), (51#64, 4261441663#64), (1073741875#64, 4261441663#64), (4147#64, 4261441663#64), (8243#64, 4261441663#64), (12339#64, 4261441663#64), (16435#64, 4261441663#64), (20531#64, 4261441663#64), (1073762355#64, 4261441663#64), (24627#64, 4261441663#64), (28723#64, 4261441663#64), (115#64, 4294967295#64), (1048691#64, 4294967295#64), (8207#64, 28799#64), (16419#64, 28799#64), (268435547#64, 4261441663#64), (301989979#64, 4261441663#64), (369098843#64, 4261441663#64), (402653275#64, 4261441663#64), (436207707#64, 4261441663#64), (536871003#64, 4261441663#64), (570425435#64, 4261441663#64), (671088731#64, 4261441663#64), (973078619#64, 4261441663#64), (1073741915#64, 4261441663#64), (1107296347#64, 4261441663#64), (4261412955#64, 4293947519#64), (4262461531#64, 4293947519#64), (4263510107#64, 4293947519#64), (4264558683#64, 4293947519#64), (4265607259#64, 4293947519#64), (4267704411#64, 4293947519#64), (4269801563#64, 4293947519#64), (4270850139#64, 4293947519#64), (4271898715#64, 4293947519#64), (4272947291#64, 4293947519#64), (4277141595#64, 4293947519#64), (4279238747#64, 4293947519#64), (4187#64, 28799#64), (8283#64, 28799#64)]
theorem fixT_is : fixT = fixN := by kernel_rfl
theorem apart_N : apartT fixN = true := by decide +kernel
theorem apart_all : apartT fixT = true := by rw [fixT_is]; exact apart_N
theorem fixT_at (k : Nat) (h : k < 69) : fixT.getD k (0#64, 0#64) = (fixW (rowAt k), fixM (rowAt k)) := by
  unfold fixT
  rw [List.getD_eq_getElem?_getD, List.getElem?_map, List.getElem?_range h]
  rfl
theorem hit_one {w : BitVec 64} {k j : Nat} (hk : k < 69) (hj : j < 69) (h1 : hit w k = true) (h2 : hit w j = true) : k = j := by
  have h := apart_all
  unfold apartT at h
  have h3 := List.all_eq_true.1 (List.all_eq_true.1 h k (List.mem_range.2 hk)) j (List.mem_range.2 hj)
  rw [fixT_at k hk, fixT_at j hj] at h3
  simp only at h3
  unfold hit at h1 h2
  rw [beq_iff_eq] at h1 h2
  rw [← h1, ← h2, BitVec.and_assoc, BitVec.and_assoc, BitVec.and_comm (fixM (rowAt j))] at h3
  simpa using h3
theorem hitFrom_some (w : BitVec 64) : ∀ (n k : Nat) (j : Nat), hitFrom w n k = some j → hit w j = true ∧ k ≤ j ∧ j < k + n
  | 0, _, _, h => by cases h
  | n + 1, k, j, h => by
    unfold hitFrom at h
    split at h
    · rename_i hh
      cases h
      exact ⟨hh, Nat.le_refl _, by omega⟩
    · obtain ⟨h1, h2, h3⟩ := hitFrom_some w n (k + 1) j h
      exact ⟨h1, by omega, by omega⟩
theorem hitFrom_none (w : BitVec 64) : ∀ (n k : Nat), hitFrom w n k = none → ∀ j, k ≤ j → j < k + n → hit w j = false
  | 0, _, _, _, _, _ => by omega
  | n + 1, k, h, j, h1, h2 => by
    unfold hitFrom at h
    split at h
    · cases h
    · rename_i hh
      by_cases c : j = k
      · subst c; simpa using hh
      · exact hitFrom_none w n (k + 1) h j (by omega) (by omega)
theorem dec_hit {w : BitVec 64} {k : Nat} (hk : k < 69) (h : hit w k = true) : decF w = some (decI k w) := by
  unfold decF
  cases hf : hitFrom w 69 0 with
  | none => have := hitFrom_none w 69 0 hf k (by omega) (by omega); rw [h] at this; cases this
  | some j =>
    obtain ⟨h1, h2, h3⟩ := hitFrom_some w 69 0 j hf
    rw [hit_one hk (by omega) h h1]
    rfl
theorem dec_some {w : BitVec 64} {d : Ins} (h : decF w = some d) : ∃ k, k < 69 ∧ hit w k = true ∧ d = decI k w := by
  unfold decF at h
  cases hf : hitFrom w 69 0 with
  | none => rw [hf] at h; cases h
  | some j =>
    obtain ⟨h1, h2, h3⟩ := hitFrom_some w 69 0 j hf
    rw [hf] at h
    cases h
    exact ⟨j, by omega, h1, rfl⟩
/-- What is in the pieces of a number. -/
def frS (s : Nat) : List (Int × Int) := (pcs s).map fun p => (p.1, p.2.1)
def okN (s : Nat) : Bool := goodL (frS s) && underL (frS s) (bitsOf s) && (frS s).all (fun p => decide (zerosOf s ≤ p.1)) && ((List.range (bitsOf s).toNat).all fun j => decide ((j : Int) < zerosOf s) || (frS s).any fun p => decide (p.1 ≤ (j : Int)) && decide ((j : Int) < p.1 + p.2)) && ((pcs s).isEmpty || (decide (1 ≤ bitsOf s) && decide (bitsOf s ≤ 63) && decide (0 ≤ zerosOf s) && decide (zerosOf s ≤ bitsOf s))) && (!(pcs s).isEmpty || !(sgOf s))
theorem okN_all : ∀ s, s ∈ shapes → okN s = true := by decide +kernel
structure OkN (s : Nat) : Prop where
  good : goodL (frS s) = true
  under : ∀ p ∈ frS s, p.1 + p.2 ≤ bitsOf s
  above : ∀ p ∈ frS s, zerosOf s ≤ p.1
  cover : ∀ j : Nat, (j : Int) < bitsOf s → (j : Int) < zerosOf s ∨ ∃ p ∈ frS s, p.1 ≤ (j : Int) ∧ (j : Int) < p.1 + p.2
  bits : pcs s ≠ [] → 1 ≤ bitsOf s ∧ bitsOf s ≤ 63 ∧ 0 ≤ zerosOf s ∧ zerosOf s ≤ bitsOf s
  none : pcs s = [] → sgOf s = false
theorem okN_1 {s : Nat} (h : s ∈ shapes) : OkN s := by
  have h := okN_all s h
  simp only [okN, Bool.and_eq_true] at h
  obtain ⟨⟨⟨⟨⟨h1, h2⟩, h3⟩, h4⟩, h5⟩, h6⟩ := h
  refine ⟨h1, fun p hp => by simpa using List.all_eq_true.1 h2 p hp, fun p hp => by simpa using List.all_eq_true.1 h3 p hp, fun j hj => ?_, fun hn => ?_, fun hn => ?_⟩
  · have := List.all_eq_true.1 h4 j (List.mem_range.2 (by omega))
    rw [Bool.or_eq_true] at this
    rcases this with h | h
    · exact .inl (by simpa using h)
    · obtain ⟨p, hp, hq⟩ := List.any_eq_true.1 h
      exact .inr ⟨p, hp, by simpa using hq⟩
  · rw [Bool.or_eq_true] at h5
    rcases h5 with h | h
    · exact absurd (List.isEmpty_iff.1 h) hn
    · simpa [and_assoc] using h
  · rw [hn] at h6
    simpa using h6
def rdL (s : Nat) (w : BitVec 64) : List (Int × Int × BitVec 64) := (pcs s).map fun p => (p.1, p.2.1, getF w p.2.2 p.2.1)
theorem read_is (s : Nat) (w : BitVec 64) : readF (pcs s) w = putsF (rdL s w) 0#64 := by
  unfold readF putsF rdL
  rw [List.foldl_map]
theorem rg_rd (s : Nat) (w : BitVec 64) : rg (rdL s w) = frS s := by
  unfold rg rdL frS
  simp
theorem read_get {s : Nat} (h : s ∈ shapes) (w : BitVec 64) (p : Pc) (hp : p ∈ pcs s) : getF (readF (pcs s) w) p.1 p.2.1 = getF w p.2.2 p.2.1 := by
  rw [read_is]
  have := puts_get (rdL s w) 0#64 (p.1, p.2.1, getF w p.2.2 p.2.1) (by rw [rg_rd]; exact (okN_1 h).good) (List.mem_map.2 ⟨p, hp, rfl⟩)
  simp only at this
  rw [this, get_mask]
theorem read_out {s : Nat} (h : s ∈ shapes) (w : BitVec 64) (j : Nat) (hj : j < 64) (ho : (j : Int) < zerosOf s ∨ bitsOf s ≤ j) : (readF (pcs s) w).getLsbD j = false := by
  rw [read_is, puts_out _ _ j hj (by rw [rg_rd]; exact (okN_1 h).good)]
  · simp
  · intro p hp
    rw [rg_rd] at hp
    have := (okN_1 h).under p hp
    have := (okN_1 h).above p hp
    omega
/-- A number that is read of a word fits. -/
theorem read_fits {s : Nat} (h : s ∈ shapes) (w : BitVec 64) : fitsL (pcs s) (bitsOf s) (sgOf s) (zerosOf s) (readI s w) = true := by
  unfold fitsL
  by_cases c : pcs s = []
  · rw [c]; rfl
  · obtain ⟨b1, b2, b3, b4⟩ := (okN_1 h).bits c
    rw [Bool.or_eq_true]
    right
    rw [Bool.and_eq_true, beq_iff_eq]
    constructor
    · unfold readI
      cases hs : sgOf s
      · rw [if_neg (by decide), fits_plain_lsb _ _ ⟨b1, b2⟩]
        exact fun j h1 h2 => read_out h w j h2 (.inr h1)
      · rw [if_pos rfl, fits_signed_is _ _ ⟨b1, by omega⟩, sgn_twice _ _ ⟨b1, by omega⟩, beq_self_eq_true]
    · refine ext64 fun j hj => ?_
      rw [BitVec.getLsbD_and, mask_lsb _ (by omega)]
      by_cases c2 : j < (zerosOf s).toNat
      · have hz : (readI s w).getLsbD j = false := by
          unfold readI
          split
          · rw [sgn_lsb _ _ ⟨b1, by omega⟩ j hj, if_pos (by omega)]
            exact read_out h w j hj (.inl (by omega))
          · exact read_out h w j hj (.inl (by omega))
        rw [hz]; simp
      · rw [decide_eq_false c2]; simp
theorem readI_get {s : Nat} (h : s ∈ shapes) (w : BitVec 64) (p : Pc) (hp : p ∈ pcs s) : getF (readI s w) p.1 p.2.1 = getF w p.2.2 p.2.1 := by
  have hne : pcs s ≠ [] := fun c => by rw [c] at hp; cases hp
  obtain ⟨b1, b2, b3, b4⟩ := (okN_1 h).bits hne
  rw [← read_get h w p hp]
  unfold readI
  split
  · refine bits_get fun j h1 h2 => ?_
    have := (okN_1 h).under (p.1, p.2.1) (List.mem_map.2 ⟨p, hp, rfl⟩)
    simp only at this
    rw [sgn_lsb _ _ ⟨b1, by omega⟩ j (by omega), if_pos (by omega)]
  · rfl
/-- A number that fits is read of the word that has its pieces. -/
theorem readI_of {s : Nat} (h : s ∈ shapes) (y x : BitVec 64) (hne : pcs s ≠ []) (hf : fitsL (pcs s) (bitsOf s) (sgOf s) (zerosOf s) x = true) (hg : ∀ p ∈ pcs s, getF y p.2.2 p.2.1 = getF x p.1 p.2.1) : readI s y = x := by
  obtain ⟨b1, b2, b3, b4⟩ := (okN_1 h).bits hne
  unfold fitsL at hf
  rw [Bool.or_eq_true] at hf
  rcases hf with hf | hf
  · exact absurd (List.isEmpty_iff.1 hf) hne
  rw [Bool.and_eq_true, beq_iff_eq] at hf
  have low : ∀ j : Nat, (j : Int) < bitsOf s → (readF (pcs s) y).getLsbD j = x.getLsbD j := fun j hj => by
    rcases (okN_1 h).cover j hj with c | ⟨q, hq, h1, h2⟩
    · rw [read_out h y j (by omega) (.inl c)]
      have := congrArg (fun z => z.getLsbD j) hf.2
      simp only [BitVec.getLsbD_and, mask_lsb (zerosOf s) (by omega), decide_eq_true (show j < (zerosOf s).toNat by omega), Bool.and_true, BitVec.getLsbD_zero] at this
      exact this.symm
    · obtain ⟨p, hp, rfl⟩ := List.mem_map.1 hq
      exact get_bits (good_may _ _ (okN_1 h).good hq) ((read_get h y p hp).trans (hg p hp)) j h1 h2
  unfold readI
  cases hs : sgOf s
  · rw [if_neg (by decide)]
    rw [hs, fits_plain_lsb _ _ ⟨b1, b2⟩] at hf
    refine ext64 fun j hj => ?_
    by_cases c : (j : Int) < bitsOf s
    · exact low j c
    · rw [read_out h y j hj (.inr (by omega)), hf.1 j (by omega) hj]
  · rw [if_pos rfl]
    rw [hs, fits_signed_is _ _ ⟨b1, by omega⟩, beq_iff_eq] at hf
    exact (sgn_alike _ ⟨b1, by omega⟩ low).trans hf.1
theorem readI_none {s : Nat} (h : s ∈ shapes) (y : BitVec 64) (hn : pcs s = []) : readI s y = 0#64 := by
  unfold readI
  rw [(okN_1 h).none hn, if_neg (by decide), hn]
  rfl
end Go.Proofs.Ytokfokgbbpjgdaa
