
/-
  The document's Encode at every instruction; the number that it reads of a word.
-/
import Derived.Test.YtokfokgbbpjgdaaInstZ
namespace Go.Proofs.Ytokfokgbbpjgdaa
open Go Go.RowKit
set_option linter.unusedVariables false
set_option linter.unusedSimpArgs false

theorem rfits_b (m : BitVec 64) (n : Int) (s : Bool) (w : World) : Calls Try.prog 26 #[.int .i64 (S m), .int .i64 n, .bool s] w fun e w' => e = .returned (.bool (fitsF m n s)) ∧ Below w.heap.size w w' :=
  (rfits_any m n s w).mono fun _ _ x => ⟨x.1, by rw [← x.2]; exact Below.refl _ _⟩
theorem tmod_2 (m : BitVec 64) : ((S m).tmod 2 == 0) = (m &&& maskF 1 == 0#64) := tmod_mask m 1 (by decide) (by decide)
theorem tmod_4096 (m : BitVec 64) : ((S m).tmod 4096 == 0) = (m &&& maskF 12 == 0#64) := tmod_mask m 12 (by decide) (by decide)
theorem fitsL_nil (b : Int) (sg : Bool) (z : Int) (x : BitVec 64) : fitsL [] b sg z x = true := rfl
theorem fitsL_cons (p : Pc) (l : List Pc) (b : Int) (sg : Bool) (z : Int) (x : BitVec 64) : fitsL (p :: l) b sg z x = (fitsF x b sg && (x &&& maskF z == 0#64)) := rfl
theorem mask_0 (x : BitVec 64) : (x &&& maskF 0 == 0#64) = true := by rw [low_0]; rfl
/-- What the document's Encode answers, as a law meets it. -/
def REnc (o : Int) (d a b m : BitVec 64) : Prop := ∃ X : Int, (∀ w : World, Calls Try.prog 8 #[.agg #[.int .i64 o, .int .i64 (S d), .int .i64 (S a), .int .i64 (S b), .int .i64 (S m)]] w fun e w' => e = .returned (.tuple #[.int .u32 X, .bool (encF ⟨o, d, a, b, m⟩).isSome]) ∧ Below w.heap.size w w') ∧ ∀ y, encF ⟨o, d, a, b, m⟩ = some y → X = U y
theorem isSome_ite (c : Bool) (y : BitVec 64) : (if c = true then some y else none).isSome = c := by cases c <;> rfl
set_option maxHeartbeats 4000000 in
set_option maxRecDepth 100000 in
theorem renc_out (o : Int) (ho : o < 1 ∨ 69 < o) (D A B M : Int) (w : World) : Calls Try.prog 8 #[.agg #[.int .i64 o, .int .i64 D, .int .i64 A, .int .i64 B, .int .i64 M]] w fun e w' => e = .returned (.tuple #[.int .u32 0, .bool false]) ∧ Below w.heap.size w w' := by
  by_cases h1 : o < 1
  · have d1 : decide (o < 1) = true := decide_eq_true h1
    go_enter Try.func8, Try.ntmps8
    go_wp2_with (go_at_call 23; refine (rrows_any _).mono ?_; rintro e wR ⟨⟨bR, rfl, hge, hR⟩, hblR⟩; obtain ⟨hcw, hfw, hsw⟩ := below_ifs hblR; (try simp only [World.size_alloc, World.size_setCell, World.size_drew, size_drewN_] at hcw hfw hsw hge))
    go_returns
    exact ⟨rfl, by (repeat (first | with_reducible exact Below.refl _ _ | with_reducible assumption | with_reducible refine below_drewN ?_ _ | with_reducible refine Below.drew ?_ | with_reducible refine below_alloc ?_ _ | (with_reducible refine Below.setCell ?_ (by first | (simp; done) | omega | (simp; omega)) _) | with_reducible refine belows ?_ (by assumption)))⟩
  · have d1 : decide (o < 1) = false := decide_eq_false h1
    have d2 : decide (69 < o) = true := decide_eq_true (by omega)
    go_enter Try.func8, Try.ntmps8
    go_wp2_with (go_at_call 23; refine (rrows_any _).mono ?_; rintro e wR ⟨⟨bR, rfl, hge, hR⟩, hblR⟩; obtain ⟨hcw, hfw, hsw⟩ := below_ifs hblR; (try simp only [World.size_alloc, World.size_setCell, World.size_drew, size_drewN_] at hcw hfw hsw hge))
    go_returns
    exact ⟨rfl, by (repeat (first | with_reducible exact Below.refl _ _ | with_reducible assumption | with_reducible refine below_drewN ?_ _ | with_reducible refine Below.drew ?_ | with_reducible refine below_alloc ?_ _ | (with_reducible refine Below.setCell ?_ (by first | (simp; done) | omega | (simp; omega)) _) | with_reducible refine belows ?_ (by assumption)))⟩
theorem okE_R (nm : ByteArray) (cd f ot : BitVec 64) (o : Int) (d a b m : BitVec 64) : okE ⟨nm, 82, cd, f, ot⟩ ⟨o, d, a, b, m⟩ = (fitsF d 5 false && fitsF a 5 false && fitsF b 5 false) := by
  unfold okE
  simp [pcs, bitsOf, sgOf, zerosOf, hasD, has1, has2, fitsL_nil, fitsL_cons, mask_0]
  try generalize (fitsF d 5 false) = x0
  try generalize (fitsF a 5 false) = x1
  try generalize (fitsF b 5 false) = x2
  try (revert x0 x1 x2; decide)
set_option maxHeartbeats 4000000 in
set_option maxRecDepth 100000 in
theorem renc_any_R (k : Nat) (hk : k < 69) (hs : (rowAt k).sh = 82) (d a b m : BitVec 64) : REnc ((k : Int) + 1) d a b m := by
  have tk := tab_ok k hk
  have he := encF_at (i := ⟨(k : Int) + 1, d, a, b, m⟩) hk rfl
  have hw := enc_is (rowAt k) ⟨(k : Int) + 1, d, a, b, m⟩
  unfold REnc
  rw [he, hw, isSome_ite]
  have core := renc_R k hk (U (rowAt k).cd) (U (rowAt k).f) (U (rowAt k).ot) (by rw [hs]; rfl) rfl rfl rfl (S d) (S a) (S b) m _ _ _ (reg_any d) (reg_any a) (reg_any b)
  clear he hw
  revert core tk hs
  generalize rowAt k = r
  obtain ⟨nm, sh, cd, f, ot⟩ := r
  intro hs tk core
  obtain rfl : sh = 82 := hs
  refine ⟨_, fun w => (core w).mono fun _ _ x => ⟨by rw [x.1, okE_R], x.2⟩, ?_⟩
  intro y hy
  have ho : okE ⟨nm, 82, cd, f, ot⟩ ⟨(k : Int) + 1, d, a, b, m⟩ = true := by
    cases h : okE ⟨nm, 82, cd, f, ot⟩ ⟨(k : Int) + 1, d, a, b, m⟩
    · rw [h] at hy; cases hy
    · rfl
  rw [if_pos ho] at hy
  obtain rfl := Option.some.inj hy
  rw [okE_R] at ho
  simp only [Bool.and_eq_true] at ho
  exact word_R nm cd f ot _ d a b m tk.1 tk.2.1 (tk.2.2.1 rfl) (fits5_lt ho.1.1) (fits5_lt ho.1.2) (fits5_lt ho.2)
theorem okE_G (nm : ByteArray) (cd f ot : BitVec 64) (o : Int) (d a b m : BitVec 64) : okE ⟨nm, 71, cd, f, ot⟩ ⟨o, d, a, b, m⟩ = (fitsF d 5 false && fitsF a 5 false) := by
  unfold okE
  simp [pcs, bitsOf, sgOf, zerosOf, hasD, has1, has2, fitsL_nil, fitsL_cons, mask_0]
  try generalize (fitsF d 5 false) = x0
  try generalize (fitsF a 5 false) = x1
  try (revert x0 x1; decide)
set_option maxHeartbeats 4000000 in
set_option maxRecDepth 100000 in
theorem renc_any_G (k : Nat) (hk : k < 69) (hs : (rowAt k).sh = 71) (d a b m : BitVec 64) : REnc ((k : Int) + 1) d a b m := by
  have tk := tab_ok k hk
  have he := encF_at (i := ⟨(k : Int) + 1, d, a, b, m⟩) hk rfl
  have hw := enc_is (rowAt k) ⟨(k : Int) + 1, d, a, b, m⟩
  unfold REnc
  rw [he, hw, isSome_ite]
  have core := renc_G k hk (U (rowAt k).cd) (U (rowAt k).f) (U (rowAt k).ot) (by rw [hs]; rfl) rfl rfl rfl (S d) (S a) (S b) m _ _ (reg_any d) (reg_any a)
  clear he hw
  revert core tk hs
  generalize rowAt k = r
  obtain ⟨nm, sh, cd, f, ot⟩ := r
  intro hs tk core
  obtain rfl : sh = 71 := hs
  refine ⟨_, fun w => (core w).mono fun _ _ x => ⟨by rw [x.1, okE_G], x.2⟩, ?_⟩
  intro y hy
  have ho : okE ⟨nm, 71, cd, f, ot⟩ ⟨(k : Int) + 1, d, a, b, m⟩ = true := by
    cases h : okE ⟨nm, 71, cd, f, ot⟩ ⟨(k : Int) + 1, d, a, b, m⟩
    · rw [h] at hy; cases hy
    · rfl
  rw [if_pos ho] at hy
  obtain rfl := Option.some.inj hy
  rw [okE_G] at ho
  simp only [Bool.and_eq_true] at ho
  exact word_G nm cd f ot _ d a b m tk.1 tk.2.1 (tk.2.2.2.1 rfl) (fits5_lt ho.1) (fits5_lt ho.2)
theorem okE_N (nm : ByteArray) (cd f ot : BitVec 64) (o : Int) (d a b m : BitVec 64) : okE ⟨nm, 78, cd, f, ot⟩ ⟨o, d, a, b, m⟩ = (true) := by
  unfold okE
  simp [pcs, bitsOf, sgOf, zerosOf, hasD, has1, has2, fitsL_nil, fitsL_cons, mask_0]
set_option maxHeartbeats 4000000 in
set_option maxRecDepth 100000 in
theorem renc_any_N (k : Nat) (hk : k < 69) (hs : (rowAt k).sh = 78) (d a b m : BitVec 64) : REnc ((k : Int) + 1) d a b m := by
  have tk := tab_ok k hk
  have he := encF_at (i := ⟨(k : Int) + 1, d, a, b, m⟩) hk rfl
  have hw := enc_is (rowAt k) ⟨(k : Int) + 1, d, a, b, m⟩
  unfold REnc
  rw [he, hw, isSome_ite]
  have core := renc_N k hk (U (rowAt k).cd) (U (rowAt k).f) (U (rowAt k).ot) (by rw [hs]; rfl) rfl rfl rfl (S d) (S a) (S b) m
  clear he hw
  revert core tk hs
  generalize rowAt k = r
  obtain ⟨nm, sh, cd, f, ot⟩ := r
  intro hs tk core
  obtain rfl : sh = 78 := hs
  refine ⟨_, fun w => (core w).mono fun _ _ x => ⟨by rw [x.1, okE_N], x.2⟩, ?_⟩
  intro y hy
  have ho : okE ⟨nm, 78, cd, f, ot⟩ ⟨(k : Int) + 1, d, a, b, m⟩ = true := by
    cases h : okE ⟨nm, 78, cd, f, ot⟩ ⟨(k : Int) + 1, d, a, b, m⟩
    · rw [h] at hy; cases hy
    · rfl
  rw [if_pos ho] at hy
  obtain rfl := Option.some.inj hy
  exact word_N nm cd f ot _ d a b m tk.1 tk.2.1 (tk.2.2.2.2.2 rfl) 
theorem okE_I (nm : ByteArray) (cd f ot : BitVec 64) (o : Int) (d a b m : BitVec 64) : okE ⟨nm, 73, cd, f, ot⟩ ⟨o, d, a, b, m⟩ = (fitsF d 5 false && fitsF a 5 false && fitsF m 12 true) := by
  unfold okE
  simp [pcs, bitsOf, sgOf, zerosOf, hasD, has1, has2, fitsL_nil, fitsL_cons, mask_0]
  try generalize (fitsF d 5 false) = x0
  try generalize (fitsF a 5 false) = x1
  try generalize (fitsF m 12 true) = x2
  try (revert x0 x1 x2; decide)
set_option maxHeartbeats 4000000 in
set_option maxRecDepth 100000 in
theorem renc_any_I (k : Nat) (hk : k < 69) (hs : (rowAt k).sh = 73) (d a b m : BitVec 64) : REnc ((k : Int) + 1) d a b m := by
  have tk := tab_ok k hk
  have he := encF_at (i := ⟨(k : Int) + 1, d, a, b, m⟩) hk rfl
  have hw := enc_is (rowAt k) ⟨(k : Int) + 1, d, a, b, m⟩
  unfold REnc
  rw [he, hw, isSome_ite]
  have core := renc_I k hk (U (rowAt k).cd) (U (rowAt k).f) (U (rowAt k).ot) (by rw [hs]; rfl) rfl rfl rfl (S d) (S a) (S b) m _ _ _ (reg_any d) (reg_any a) (rfits_b m 12 true)
  clear he hw
  revert core tk hs
  generalize rowAt k = r
  obtain ⟨nm, sh, cd, f, ot⟩ := r
  intro hs tk core
  obtain rfl : sh = 73 := hs
  refine ⟨_, fun w => (core w).mono fun _ _ x => ⟨by rw [x.1, okE_I], x.2⟩, ?_⟩
  intro y hy
  have ho : okE ⟨nm, 73, cd, f, ot⟩ ⟨(k : Int) + 1, d, a, b, m⟩ = true := by
    cases h : okE ⟨nm, 73, cd, f, ot⟩ ⟨(k : Int) + 1, d, a, b, m⟩
    · rw [h] at hy; cases hy
    · rfl
  rw [if_pos ho] at hy
  obtain rfl := Option.some.inj hy
  rw [okE_I] at ho
  simp only [Bool.and_eq_true] at ho
  exact word_I nm cd f ot _ d a b m tk.1 tk.2.1 (fits5_lt ho.1.1) (fits5_lt ho.1.2)
theorem okE_C (nm : ByteArray) (cd f ot : BitVec 64) (o : Int) (d a b m : BitVec 64) : okE ⟨nm, 67, cd, f, ot⟩ ⟨o, d, a, b, m⟩ = (fitsF d 5 false && fitsF a 5 false && fitsF m 12 false) := by
  unfold okE
  simp [pcs, bitsOf, sgOf, zerosOf, hasD, has1, has2, fitsL_nil, fitsL_cons, mask_0]
  try generalize (fitsF d 5 false) = x0
  try generalize (fitsF a 5 false) = x1
  try generalize (fitsF m 12 false) = x2
  try (revert x0 x1 x2; decide)
set_option maxHeartbeats 4000000 in
set_option maxRecDepth 100000 in
theorem renc_any_C (k : Nat) (hk : k < 69) (hs : (rowAt k).sh = 67) (d a b m : BitVec 64) : REnc ((k : Int) + 1) d a b m := by
  have tk := tab_ok k hk
  have he := encF_at (i := ⟨(k : Int) + 1, d, a, b, m⟩) hk rfl
  have hw := enc_is (rowAt k) ⟨(k : Int) + 1, d, a, b, m⟩
  unfold REnc
  rw [he, hw, isSome_ite]
  have core := renc_C k hk (U (rowAt k).cd) (U (rowAt k).f) (U (rowAt k).ot) (by rw [hs]; rfl) rfl rfl rfl (S d) (S a) (S b) m _ _ _ (reg_any d) (reg_any a) (rfits_b m 12 false)
  clear he hw
  revert core tk hs
  generalize rowAt k = r
  obtain ⟨nm, sh, cd, f, ot⟩ := r
  intro hs tk core
  obtain rfl : sh = 67 := hs
  refine ⟨_, fun w => (core w).mono fun _ _ x => ⟨by rw [x.1, okE_C], x.2⟩, ?_⟩
  intro y hy
  have ho : okE ⟨nm, 67, cd, f, ot⟩ ⟨(k : Int) + 1, d, a, b, m⟩ = true := by
    cases h : okE ⟨nm, 67, cd, f, ot⟩ ⟨(k : Int) + 1, d, a, b, m⟩
    · rw [h] at hy; cases hy
    · rfl
  rw [if_pos ho] at hy
  obtain rfl := Option.some.inj hy
  rw [okE_C] at ho
  simp only [Bool.and_eq_true] at ho
  exact word_C nm cd f ot _ d a b m tk.1 tk.2.1 (fits5_lt ho.1.1) (fits5_lt ho.1.2)
theorem okE_H (nm : ByteArray) (cd f ot : BitVec 64) (o : Int) (d a b m : BitVec 64) : okE ⟨nm, 72, cd, f, ot⟩ ⟨o, d, a, b, m⟩ = (fitsF d 5 false && fitsF a 5 false && fitsF m 6 false) := by
  unfold okE
  simp [pcs, bitsOf, sgOf, zerosOf, hasD, has1, has2, fitsL_nil, fitsL_cons, mask_0]
  try generalize (fitsF d 5 false) = x0
  try generalize (fitsF a 5 false) = x1
  try generalize (fitsF m 6 false) = x2
  try (revert x0 x1 x2; decide)
set_option maxHeartbeats 4000000 in
set_option maxRecDepth 100000 in
theorem renc_any_H (k : Nat) (hk : k < 69) (hs : (rowAt k).sh = 72) (d a b m : BitVec 64) : REnc ((k : Int) + 1) d a b m := by
  have tk := tab_ok k hk
  have he := encF_at (i := ⟨(k : Int) + 1, d, a, b, m⟩) hk rfl
  have hw := enc_is (rowAt k) ⟨(k : Int) + 1, d, a, b, m⟩
  unfold REnc
  rw [he, hw, isSome_ite]
  have core := renc_H k hk (U (rowAt k).cd) (U (rowAt k).f) (U (rowAt k).ot) (by rw [hs]; rfl) rfl rfl rfl (S d) (S a) (S b) m _ _ _ (reg_any d) (reg_any a) (rfits_b m 6 false)
  clear he hw
  revert core tk hs
  generalize rowAt k = r
  obtain ⟨nm, sh, cd, f, ot⟩ := r
  intro hs tk core
  obtain rfl : sh = 72 := hs
  refine ⟨_, fun w => (core w).mono fun _ _ x => ⟨by rw [x.1, okE_H], x.2⟩, ?_⟩
  intro y hy
  have ho : okE ⟨nm, 72, cd, f, ot⟩ ⟨(k : Int) + 1, d, a, b, m⟩ = true := by
    cases h : okE ⟨nm, 72, cd, f, ot⟩ ⟨(k : Int) + 1, d, a, b, m⟩
    · rw [h] at hy; cases hy
    · rfl
  rw [if_pos ho] at hy
  obtain rfl := Option.some.inj hy
  rw [okE_H] at ho
  simp only [Bool.and_eq_true] at ho
  exact word_H nm cd f ot _ d a b m tk.1 tk.2.1 (tk.2.2.2.2.1 rfl) (fits5_lt ho.1.1) (fits5_lt ho.1.2)
theorem okE_S (nm : ByteArray) (cd f ot : BitVec 64) (o : Int) (d a b m : BitVec 64) : okE ⟨nm, 83, cd, f, ot⟩ ⟨o, d, a, b, m⟩ = (fitsF a 5 false && fitsF b 5 false && fitsF m 12 true) := by
  unfold okE
  simp [pcs, bitsOf, sgOf, zerosOf, hasD, has1, has2, fitsL_nil, fitsL_cons, mask_0]
  try generalize (fitsF a 5 false) = x0
  try generalize (fitsF b 5 false) = x1
  try generalize (fitsF m 12 true) = x2
  try (revert x0 x1 x2; decide)
set_option maxHeartbeats 4000000 in
set_option maxRecDepth 100000 in
theorem renc_any_S (k : Nat) (hk : k < 69) (hs : (rowAt k).sh = 83) (d a b m : BitVec 64) : REnc ((k : Int) + 1) d a b m := by
  have tk := tab_ok k hk
  have he := encF_at (i := ⟨(k : Int) + 1, d, a, b, m⟩) hk rfl
  have hw := enc_is (rowAt k) ⟨(k : Int) + 1, d, a, b, m⟩
  unfold REnc
  rw [he, hw, isSome_ite]
  have core := renc_S k hk (U (rowAt k).cd) (U (rowAt k).f) (U (rowAt k).ot) (by rw [hs]; rfl) rfl rfl rfl (S d) (S a) (S b) m _ _ _ (reg_any a) (reg_any b) (rfits_b m 12 true)
  clear he hw
  revert core tk hs
  generalize rowAt k = r
  obtain ⟨nm, sh, cd, f, ot⟩ := r
  intro hs tk core
  obtain rfl : sh = 83 := hs
  refine ⟨_, fun w => (core w).mono fun _ _ x => ⟨by rw [x.1, okE_S], x.2⟩, ?_⟩
  intro y hy
  have ho : okE ⟨nm, 83, cd, f, ot⟩ ⟨(k : Int) + 1, d, a, b, m⟩ = true := by
    cases h : okE ⟨nm, 83, cd, f, ot⟩ ⟨(k : Int) + 1, d, a, b, m⟩
    · rw [h] at hy; cases hy
    · rfl
  rw [if_pos ho] at hy
  obtain rfl := Option.some.inj hy
  rw [okE_S] at ho
  simp only [Bool.and_eq_true] at ho
  exact word_S nm cd f ot _ d a b m tk.1 tk.2.1 (fits5_lt ho.1.1) (fits5_lt ho.1.2)
theorem okE_B (nm : ByteArray) (cd f ot : BitVec 64) (o : Int) (d a b m : BitVec 64) : okE ⟨nm, 66, cd, f, ot⟩ ⟨o, d, a, b, m⟩ = (fitsF a 5 false && fitsF b 5 false && fitsF m 13 true && (m &&& maskF 1 == 0#64)) := by
  unfold okE
  simp [pcs, bitsOf, sgOf, zerosOf, hasD, has1, has2, fitsL_nil, fitsL_cons, mask_0]
  try generalize (fitsF a 5 false) = x0
  try generalize (fitsF b 5 false) = x1
  try generalize (fitsF m 13 true) = x2
  try generalize ((m &&& maskF 1 == 0#64)) = x3
  try (revert x0 x1 x2 x3; decide)
set_option maxHeartbeats 4000000 in
set_option maxRecDepth 100000 in
theorem renc_any_B (k : Nat) (hk : k < 69) (hs : (rowAt k).sh = 66) (d a b m : BitVec 64) : REnc ((k : Int) + 1) d a b m := by
  have tk := tab_ok k hk
  have he := encF_at (i := ⟨(k : Int) + 1, d, a, b, m⟩) hk rfl
  have hw := enc_is (rowAt k) ⟨(k : Int) + 1, d, a, b, m⟩
  unfold REnc
  rw [he, hw, isSome_ite]
  have core := renc_B k hk (U (rowAt k).cd) (U (rowAt k).f) (U (rowAt k).ot) (by rw [hs]; rfl) rfl rfl rfl (S d) (S a) (S b) m _ _ _ _ (reg_any a) (reg_any b) (rfits_b m 13 true) (tmod_2 m)
  clear he hw
  revert core tk hs
  generalize rowAt k = r
  obtain ⟨nm, sh, cd, f, ot⟩ := r
  intro hs tk core
  obtain rfl : sh = 66 := hs
  refine ⟨_, fun w => (core w).mono fun _ _ x => ⟨by rw [x.1, okE_B], x.2⟩, ?_⟩
  intro y hy
  have ho : okE ⟨nm, 66, cd, f, ot⟩ ⟨(k : Int) + 1, d, a, b, m⟩ = true := by
    cases h : okE ⟨nm, 66, cd, f, ot⟩ ⟨(k : Int) + 1, d, a, b, m⟩
    · rw [h] at hy; cases hy
    · rfl
  rw [if_pos ho] at hy
  obtain rfl := Option.some.inj hy
  rw [okE_B] at ho
  simp only [Bool.and_eq_true] at ho
  exact word_B nm cd f ot _ d a b m tk.1 tk.2.1 (fits5_lt ho.1.1.1) (fits5_lt ho.1.1.2)
theorem okE_U (nm : ByteArray) (cd f ot : BitVec 64) (o : Int) (d a b m : BitVec 64) : okE ⟨nm, 85, cd, f, ot⟩ ⟨o, d, a, b, m⟩ = (fitsF d 5 false && fitsF m 32 true && (m &&& maskF 12 == 0#64)) := by
  unfold okE
  simp [pcs, bitsOf, sgOf, zerosOf, hasD, has1, has2, fitsL_nil, fitsL_cons, mask_0]
  try generalize (fitsF d 5 false) = x0
  try generalize (fitsF m 32 true) = x1
  try generalize ((m &&& maskF 12 == 0#64)) = x2
  try (revert x0 x1 x2; decide)
set_option maxHeartbeats 4000000 in
set_option maxRecDepth 100000 in
theorem renc_any_U (k : Nat) (hk : k < 69) (hs : (rowAt k).sh = 85) (d a b m : BitVec 64) : REnc ((k : Int) + 1) d a b m := by
  have tk := tab_ok k hk
  have he := encF_at (i := ⟨(k : Int) + 1, d, a, b, m⟩) hk rfl
  have hw := enc_is (rowAt k) ⟨(k : Int) + 1, d, a, b, m⟩
  unfold REnc
  rw [he, hw, isSome_ite]
  have core := renc_U k hk (U (rowAt k).cd) (U (rowAt k).f) (U (rowAt k).ot) (by rw [hs]; rfl) rfl rfl rfl (S d) (S a) (S b) m _ _ _ (reg_any d) (rfits_b m 32 true) (tmod_4096 m)
  clear he hw
  revert core tk hs
  generalize rowAt k = r
  obtain ⟨nm, sh, cd, f, ot⟩ := r
  intro hs tk core
  obtain rfl : sh = 85 := hs
  refine ⟨_, fun w => (core w).mono fun _ _ x => ⟨by rw [x.1, okE_U], x.2⟩, ?_⟩
  intro y hy
  have ho : okE ⟨nm, 85, cd, f, ot⟩ ⟨(k : Int) + 1, d, a, b, m⟩ = true := by
    cases h : okE ⟨nm, 85, cd, f, ot⟩ ⟨(k : Int) + 1, d, a, b, m⟩
    · rw [h] at hy; cases hy
    · rfl
  rw [if_pos ho] at hy
  obtain rfl := Option.some.inj hy
  rw [okE_U] at ho
  simp only [Bool.and_eq_true] at ho
  exact word_U nm cd f ot _ d a b m tk.1 tk.2.1 (fits5_lt ho.1.1)
theorem okE_J (nm : ByteArray) (cd f ot : BitVec 64) (o : Int) (d a b m : BitVec 64) : okE ⟨nm, 74, cd, f, ot⟩ ⟨o, d, a, b, m⟩ = (fitsF d 5 false && fitsF m 21 true && (m &&& maskF 1 == 0#64)) := by
  unfold okE
  simp [pcs, bitsOf, sgOf, zerosOf, hasD, has1, has2, fitsL_nil, fitsL_cons, mask_0]
  try generalize (fitsF d 5 false) = x0
  try generalize (fitsF m 21 true) = x1
  try generalize ((m &&& maskF 1 == 0#64)) = x2
  try (revert x0 x1 x2; decide)
set_option maxHeartbeats 4000000 in
set_option maxRecDepth 100000 in
theorem renc_any_J (k : Nat) (hk : k < 69) (hs : (rowAt k).sh = 74) (d a b m : BitVec 64) : REnc ((k : Int) + 1) d a b m := by
  have tk := tab_ok k hk
  have he := encF_at (i := ⟨(k : Int) + 1, d, a, b, m⟩) hk rfl
  have hw := enc_is (rowAt k) ⟨(k : Int) + 1, d, a, b, m⟩
  unfold REnc
  rw [he, hw, isSome_ite]
  have core := renc_J k hk (U (rowAt k).cd) (U (rowAt k).f) (U (rowAt k).ot) (by rw [hs]; rfl) rfl rfl rfl (S d) (S a) (S b) m _ _ _ (reg_any d) (rfits_b m 21 true) (tmod_2 m)
  clear he hw
  revert core tk hs
  generalize rowAt k = r
  obtain ⟨nm, sh, cd, f, ot⟩ := r
  intro hs tk core
  obtain rfl : sh = 74 := hs
  refine ⟨_, fun w => (core w).mono fun _ _ x => ⟨by rw [x.1, okE_J], x.2⟩, ?_⟩
  intro y hy
  have ho : okE ⟨nm, 74, cd, f, ot⟩ ⟨(k : Int) + 1, d, a, b, m⟩ = true := by
    cases h : okE ⟨nm, 74, cd, f, ot⟩ ⟨(k : Int) + 1, d, a, b, m⟩
    · rw [h] at hy; cases hy
    · rfl
  rw [if_pos ho] at hy
  obtain rfl := Option.some.inj hy
  rw [okE_J] at ho
  simp only [Bool.and_eq_true] at ho
  exact word_J nm cd f ot _ d a b m tk.1 tk.2.1 (fits5_lt ho.1.1)
theorem renc_any (o : Int) (d a b m : BitVec 64) : REnc o d a b m := by
  by_cases hr : o < 1 ∨ 69 < o
  · have h : encF ⟨o, d, a, b, m⟩ = none := by unfold encF; rw [if_pos hr]
    unfold REnc
    rw [h]
    exact ⟨0, fun w => renc_out o hr _ _ _ _ w, fun y hy => by cases hy⟩
  · obtain ⟨k, hk, rfl⟩ : ∃ k : Nat, k < 69 ∧ o = (k : Int) + 1 := ⟨(o - 1).toNat, by omega, by omega⟩
    have hsh := rowAt_sh k hk
    simp only [shapes, List.mem_cons, List.not_mem_nil, or_false] at hsh
    rcases hsh with h | h | h | h | h | h | h | h | h | h
    · exact renc_any_R k hk h d a b m
    · exact renc_any_G k hk h d a b m
    · exact renc_any_N k hk h d a b m
    · exact renc_any_I k hk h d a b m
    · exact renc_any_C k hk h d a b m
    · exact renc_any_H k hk h d a b m
    · exact renc_any_S k hk h d a b m
    · exact renc_any_B k hk h d a b m
    · exact renc_any_U k hk h d a b m
    · exact renc_any_J k hk h d a b m

end Go.Proofs.Ytokfokgbbpjgdaa
