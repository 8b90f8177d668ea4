
/-
  How many bits of a word are 1: what is reckoned is the number (plain).
-/
import Derived.Test.YtfbkfbmfeaajkaaTagsO
namespace Go.Proofs.Ytfbkfbmfeaajkaa
open Go Go.RowKit
set_option linter.unusedVariables false
set_option linter.unusedSimpArgs false

/-- A number by its bytes, the lowest first. -/
def nest : List Nat → Nat
  | [] => 0
  | b :: l => b + 256 * nest l
theorem nest_bound : ∀ l : List Nat, (∀ b ∈ l, b < 256) → nest l < 256 ^ l.length
  | [], _ => by decide
  | b :: l, h => by
    have ih := nest_bound l (fun x hx => h x (by simp [hx]))
    have hb := h b (by simp)
    rw [nest, List.length_cons, Nat.pow_succ]
    omega
theorem nest_lt {l : List Nat} (hl : l.length = 8) (h : ∀ b ∈ l, b < 256) : nest l < 18446744073709551616 := by
  have := nest_bound l h
  rw [hl] at this
  exact this
theorem and_rep (m : Nat) (hm : m < 256) : ∀ l : List Nat, (∀ b ∈ l, b < 256) → nest l &&& nest (List.replicate l.length m) = nest (l.map fun b => b &&& m)
  | [], _ => by simp [nest]
  | a :: l, hl => by
    have ih := and_rep m hm l (fun x hx => hl x (by simp [hx]))
    have ha := hl a (by simp)
    rw [List.length_cons, List.replicate_succ, List.map_cons, nest, nest, nest, ← ih]
    have hab : a &&& m < 2 ^ 8 := Nat.lt_of_le_of_lt Nat.and_le_left ha
    generalize nest l = x
    generalize nest (List.replicate l.length m) = y
    apply Nat.eq_of_testBit_eq
    intro j
    rw [Nat.testBit_and]
    rw [show a + 256 * x = 2 ^ 8 * x + a by omega, show m + 256 * y = 2 ^ 8 * y + m by omega, show (a &&& m) + 256 * (x &&& y) = 2 ^ 8 * (x &&& y) + (a &&& m) by omega]
    rw [Nat.testBit_two_pow_mul_add _ ha, Nat.testBit_two_pow_mul_add _ hm, Nat.testBit_two_pow_mul_add _ hab]
    by_cases c : j < 8
    · simp only [c, if_true, Nat.testBit_and]
    · simp only [c, if_false, Nat.testBit_and]
theorem add_map (f g : Nat → Nat) : ∀ l : List Nat, nest (l.map f) + nest (l.map g) = nest (l.map fun b => f b + g b)
  | [] => rfl
  | a :: l => by
    have ih := add_map f g l
    rw [List.map_cons, List.map_cons, List.map_cons, nest, nest, nest, ← ih]
    omega
theorem mod_map (d : Nat) (hd : 256 % d = 0) (f : Nat → Nat) : ∀ l : List Nat, (∀ b ∈ l, f b % d = 0) → nest (l.map f) % d = 0
  | [], _ => Nat.zero_mod d
  | a :: l, h => by
    rw [List.map_cons, nest, Nat.add_mod, h a (by simp), Nat.mul_mod, hd, Nat.zero_mul, Nat.zero_mod, Nat.zero_add, Nat.zero_mod]
theorem div2_map (f : Nat → Nat) : ∀ l : List Nat, (∀ b ∈ l, f b % 2 = 0) → nest (l.map f) / 2 = nest (l.map fun b => f b / 2)
  | [], _ => by simp [nest]
  | a :: l, h => by
    have ih := div2_map f l (fun x hx => h x (by simp [hx]))
    have hm := mod_map 2 rfl f l (fun x hx => h x (by simp [hx]))
    have ha := h a (by simp)
    rw [List.map_cons, List.map_cons, nest, nest, ← ih]
    omega
theorem div4_map (f : Nat → Nat) : ∀ l : List Nat, (∀ b ∈ l, f b % 4 = 0) → nest (l.map f) / 4 = nest (l.map fun b => f b / 4)
  | [], _ => by simp [nest]
  | a :: l, h => by
    have ih := div4_map f l (fun x hx => h x (by simp [hx]))
    have hm := mod_map 4 rfl f l (fun x hx => h x (by simp [hx]))
    have ha := h a (by simp)
    rw [List.map_cons, List.map_cons, nest, nest, ← ih]
    omega
theorem half_and (n m k : Nat) : n / 2 ^ k &&& m = (n &&& (2 ^ k * m)) / 2 ^ k := by
  apply Nat.eq_of_testBit_eq
  intro j
  rw [Nat.testBit_and, Nat.testBit_div_two_pow, Nat.testBit_div_two_pow, Nat.testBit_and, Nat.testBit_two_pow_mul]
  simp
def ones8 (b : Nat) : Nat := b % 2 + b / 2 % 2 + b / 4 % 2 + b / 8 % 2 + b / 16 % 2 + b / 32 % 2 + b / 64 % 2 + b / 128 % 2
def st1 (b : Nat) : Nat := (b &&& 170) / 2 + (b &&& 85)
def st2 (a : Nat) : Nat := (a &&& 204) / 4 + (a &&& 51)
theorem byte_facts : ∀ b : Fin 256, (b.val &&& 170) % 2 = 0 ∧ st1 b.val < 256 ∧ (st1 b.val &&& 204) % 4 = 0 ∧ st2 (st1 b.val) < 256 ∧ st2 (st1 b.val) % 16 ≤ 4 ∧ st2 (st1 b.val) / 16 ≤ 4 ∧ st2 (st1 b.val) % 16 + st2 (st1 b.val) / 16 = ones8 b.val ∧ ones8 b.val ≤ 8 := by decide +kernel
theorem byte_at {b : Nat} (h : b < 256) : (b &&& 170) % 2 = 0 ∧ st1 b < 256 ∧ (st1 b &&& 204) % 4 = 0 ∧ st2 (st1 b) < 256 ∧ st2 (st1 b) % 16 ≤ 4 ∧ st2 (st1 b) / 16 ≤ 4 ∧ st2 (st1 b) % 16 + st2 (st1 b) / 16 = ones8 b ∧ ones8 b ≤ 8 := byte_facts ⟨b, h⟩
theorem stage1 (x : BitVec 64) (l : List Nat) (hl : l.length = 8) (hx : x.toNat = nest l) (h : ∀ b ∈ l, b < 256) : (((x >>> 1) &&& 6148914691236517205#64) + (x &&& 6148914691236517205#64)).toNat = nest (l.map st1) := by
  have e1 : nest (List.replicate l.length 170) = 2 ^ 1 * 6148914691236517205 := by rw [hl]; decide
  have e2 : nest (List.replicate l.length 85) = 6148914691236517205 := by rw [hl]; decide
  have hlt : nest (l.map st1) < 18446744073709551616 := nest_lt (by rw [List.length_map]; exact hl) (fun b hb => by
    obtain ⟨c, hc, rfl⟩ := List.mem_map.1 hb
    exact (byte_at (h c hc)).2.1)
  rw [BitVec.toNat_add, BitVec.toNat_and, BitVec.toNat_and, BitVec.toNat_ushiftRight, Nat.shiftRight_eq_div_pow, BitVec.toNat_ofNat, hx, show (6148914691236517205 : Nat) % 2 ^ 64 = 6148914691236517205 from rfl, half_and, ← e1, and_rep 170 (by omega) l h, ← e2, and_rep 85 (by omega) l h]
  rw [show (2 : Nat) ^ 1 = 2 from rfl, div2_map _ l (fun b hb => (byte_at (h b hb)).1), add_map]
  exact Nat.mod_eq_of_lt hlt
theorem stage2 (x : BitVec 64) (l : List Nat) (hl : l.length = 8) (hx : x.toNat = nest (l.map st1)) (h : ∀ b ∈ l, b < 256) : (((x >>> 2) &&& 3689348814741910323#64) + (x &&& 3689348814741910323#64)).toNat = nest ((l.map st1).map st2) := by
  have hm : (l.map st1).length = 8 := by rw [List.length_map]; exact hl
  have h1 : ∀ b ∈ l.map st1, b < 256 := fun b hb => by
    obtain ⟨c, hc, rfl⟩ := List.mem_map.1 hb
    exact (byte_at (h c hc)).2.1
  have e1 : nest (List.replicate (l.map st1).length 204) = 2 ^ 2 * 3689348814741910323 := by rw [hm]; decide
  have e2 : nest (List.replicate (l.map st1).length 51) = 3689348814741910323 := by rw [hm]; decide
  have hlt : nest ((l.map st1).map st2) < 18446744073709551616 := nest_lt (by rw [List.length_map]; exact hm) (fun b hb => by
    obtain ⟨c, hc, rfl⟩ := List.mem_map.1 hb
    obtain ⟨d, hd, rfl⟩ := List.mem_map.1 hc
    exact (byte_at (h d hd)).2.2.2.1)
  rw [BitVec.toNat_add, BitVec.toNat_and, BitVec.toNat_and, BitVec.toNat_ushiftRight, Nat.shiftRight_eq_div_pow, BitVec.toNat_ofNat, hx, show (3689348814741910323 : Nat) % 2 ^ 64 = 3689348814741910323 from rfl, half_and, ← e1, and_rep 204 (by omega) _ h1, ← e2, and_rep 51 (by omega) _ h1]
  rw [show (2 : Nat) ^ 2 = 4 from rfl, div4_map _ _ (fun b hb => by
    obtain ⟨c, hc, rfl⟩ := List.mem_map.1 hb
    exact (byte_at (h c hc)).2.2.1), add_map]
  exact Nat.mod_eq_of_lt hlt
def s3 : List Nat → List Nat
  | [] => []
  | b :: l => (b % 16 + b / 16 + 16 * (b / 16 + l.headD 0 % 16)) :: s3 l
theorem s3_len : ∀ l : List Nat, (s3 l).length = l.length
  | [] => rfl
  | b :: l => by rw [s3, List.length_cons, List.length_cons, s3_len l]
theorem nest_head : ∀ l : List Nat, nest l % 16 = l.headD 0 % 16
  | [] => rfl
  | b :: l => by rw [nest, List.headD_cons]; omega
theorem s3_sum : ∀ l : List Nat, nest l / 16 + nest l = nest (s3 l)
  | [] => rfl
  | b :: l => by
    have ih := s3_sum l
    have hh := nest_head l
    rw [s3, nest, nest, ← ih]
    omega
theorem s3_lt : ∀ l : List Nat, (∀ b ∈ l, b % 16 ≤ 4 ∧ b / 16 ≤ 4) → ∀ c ∈ s3 l, c < 256
  | [], _, c, hc => by cases hc
  | b :: l, h, c, hc => by
    rw [s3, List.mem_cons] at hc
    rcases hc with rfl | hc
    · obtain ⟨h1, h2⟩ := h b (by simp)
      have h3 : l.headD 0 % 16 ≤ 4 := by
        cases l with
        | nil => decide
        | cons d l => exact (h d (by simp)).1
      omega
    · exact s3_lt l (fun x hx => h x (by simp [hx])) c hc
theorem s3_low : ∀ l : List Nat, (∀ b ∈ l, b % 16 ≤ 4 ∧ b / 16 ≤ 4) → (s3 l).map (fun b => b &&& 15) = l.map fun b => b % 16 + b / 16
  | [], _ => rfl
  | b :: l, h => by
    rw [s3, List.map_cons, List.map_cons, s3_low l (fun x hx => h x (by simp [hx]))]
    obtain ⟨h1, h2⟩ := h b (by simp)
    have : (b % 16 + b / 16 + 16 * (b / 16 + l.headD 0 % 16)) &&& 15 = b % 16 + b / 16 := by
      rw [show (15 : Nat) = 2 ^ 4 - 1 from rfl, Nat.and_two_pow_sub_one_eq_mod]
      omega
    rw [this]
theorem stage3 (x : BitVec 64) (l : List Nat) (hl : l.length = 8) (hx : x.toNat = nest l) (h : ∀ b ∈ l, b % 16 ≤ 4 ∧ b / 16 ≤ 4) : (((x >>> 4) + x) &&& 1085102592571150095#64).toNat = nest (l.map fun b => b % 16 + b / 16) := by
  have hs : (s3 l).length = 8 := by rw [s3_len]; exact hl
  have e2 : nest (List.replicate (s3 l).length 15) = 1085102592571150095 := by rw [hs]; decide
  have hlt := nest_lt hs (s3_lt l h)
  rw [BitVec.toNat_and, BitVec.toNat_add, BitVec.toNat_ushiftRight, Nat.shiftRight_eq_div_pow, BitVec.toNat_ofNat, hx, show (2 : Nat) ^ 4 = 16 from rfl, s3_sum, Nat.mod_eq_of_lt hlt, show (1085102592571150095 : Nat) % 2 ^ 64 = 1085102592571150095 from rfl, ← e2, and_rep 15 (by omega) _ (s3_lt l h), s3_low l h]
theorem nest_tail {b : Nat} {l : List Nat} (h : b < 256) : nest (b :: l) / 256 = nest l := by rw [nest]; omega
theorem nest_two {a b : Nat} {l : List Nat} (h : a < 256) (k : b < 256) : nest (a :: b :: l) / 65536 = nest l := by
  rw [nest, nest]
  omega
theorem nest_add2 (a b : Nat) (l m : List Nat) (x : Nat) (h : nest l + nest m = x) : nest (a :: l) + nest (b :: m) = (a + b) + 256 * x := by rw [nest, nest, ← h]; omega
theorem S_mod (y : BitVec 64) : S y % 128 = ((y.toNat % 128 : Nat) : Int) := by
  unfold S
  rw [BitVec.toInt_eq_toNat_cond]
  split <;> omega
theorem low_seven (a n : Nat) (h : a < 128) : (a + 256 * n) % 128 = a := by omega
theorem div_pow32 {a b c d : Nat} {l : List Nat} (ha : a < 256) (hb : b < 256) (hc : c < 256) (hd : d < 256) : nest (a :: b :: c :: d :: l) / 4294967296 = nest l := by
  have e : nest (a :: b :: c :: d :: l) / 4294967296 = nest (a :: b :: c :: d :: l) / 65536 / 65536 := by rw [Nat.div_div_eq_div_mul]
  rw [e, nest_two ha hb, nest_two hc hd]
theorem stage4 (x : BitVec 64) (c0 c1 c2 c3 c4 c5 c6 c7 : Nat) (hx : x.toNat = nest [c0, c1, c2, c3, c4, c5, c6, c7]) (l0 : c0 ≤ 8) (l1 : c1 ≤ 8) (l2 : c2 ≤ 8) (l3 : c3 ≤ 8) (l4 : c4 ≤ 8) (l5 : c5 ≤ 8) (l6 : c6 ≤ 8) (l7 : c7 ≤ 8) :
    S ((x + (x >>> 8)) + ((x + (x >>> 8)) >>> 16) + (((x + (x >>> 8)) + ((x + (x >>> 8)) >>> 16)) >>> 32)) % 128 = ((c0 + c1 + c2 + c3 + c4 + c5 + c6 + c7 : Nat) : Int) := by
  have z : ∀ b : Nat, b = b + 0 := fun b => rfl
  have e1 : (x + (x >>> 8)).toNat = nest [c0 + c1, c1 + c2, c2 + c3, c3 + c4, c4 + c5, c5 + c6, c6 + c7, c7] := by
    rw [BitVec.toNat_add, BitVec.toNat_ushiftRight, Nat.shiftRight_eq_div_pow, hx, show (2 : Nat) ^ 8 = 256 from rfl, nest_tail (by omega)]
    rw [show nest [c0, c1, c2, c3, c4, c5, c6, c7] + nest [c1, c2, c3, c4, c5, c6, c7] = nest [c0 + c1, c1 + c2, c2 + c3, c3 + c4, c4 + c5, c5 + c6, c6 + c7, c7] by simp only [nest]; omega]
    exact Nat.mod_eq_of_lt (nest_lt rfl (by simp only [List.mem_cons, List.not_mem_nil, or_false, forall_eq_or_imp, forall_eq]; omega))
  have e2 : ((x + (x >>> 8)) + ((x + (x >>> 8)) >>> 16)).toNat = nest [c0 + c1 + (c2 + c3), c1 + c2 + (c3 + c4), c2 + c3 + (c4 + c5), c3 + c4 + (c5 + c6), c4 + c5 + (c6 + c7), c5 + c6 + c7, c6 + c7, c7] := by
    rw [BitVec.toNat_add, BitVec.toNat_ushiftRight, Nat.shiftRight_eq_div_pow, e1, show (2 : Nat) ^ 16 = 65536 from rfl, nest_two (by omega) (by omega)]
    rw [show nest [c0 + c1, c1 + c2, c2 + c3, c3 + c4, c4 + c5, c5 + c6, c6 + c7, c7] + nest [c2 + c3, c3 + c4, c4 + c5, c5 + c6, c6 + c7, c7] = nest [c0 + c1 + (c2 + c3), c1 + c2 + (c3 + c4), c2 + c3 + (c4 + c5), c3 + c4 + (c5 + c6), c4 + c5 + (c6 + c7), c5 + c6 + c7, c6 + c7, c7] by simp only [nest]; omega]
    exact Nat.mod_eq_of_lt (nest_lt rfl (by simp only [List.mem_cons, List.not_mem_nil, or_false, forall_eq_or_imp, forall_eq]; omega))
  rw [S_mod, BitVec.toNat_add, BitVec.toNat_ushiftRight, Nat.shiftRight_eq_div_pow, e2, show (2 : Nat) ^ 32 = 4294967296 from rfl, div_pow32 (by omega) (by omega) (by omega) (by omega)]
  have e3 : nest [c0 + c1 + (c2 + c3), c1 + c2 + (c3 + c4), c2 + c3 + (c4 + c5), c3 + c4 + (c5 + c6), c4 + c5 + (c6 + c7), c5 + c6 + c7, c6 + c7, c7] + nest [c4 + c5 + (c6 + c7), c5 + c6 + c7, c6 + c7, c7] = (c0 + c1 + c2 + c3 + c4 + c5 + c6 + c7) + 256 * nest [c1 + c2 + (c3 + c4) + (c5 + c6 + c7), c2 + c3 + (c4 + c5) + (c6 + c7), c3 + c4 + (c5 + c6) + c7, c4 + c5 + (c6 + c7), c5 + c6 + c7, c6 + c7, c7] := by simp only [nest]; omega
  rw [e3, Nat.mod_mod_of_dvd _ (by decide : 128 ∣ 2 ^ 64), low_seven _ _ (by omega)]
theorem pop_bytes (x : BitVec 64) (b0 b1 b2 b3 b4 b5 b6 b7 : Nat) (hx : x.toNat = nest [b0, b1, b2, b3, b4, b5, b6, b7]) (h : ∀ b ∈ [b0, b1, b2, b3, b4, b5, b6, b7], b < 256) : popI x = ((ones8 b0 + ones8 b1 + ones8 b2 + ones8 b3 + ones8 b4 + ones8 b5 + ones8 b6 + ones8 b7 : Nat) : Int) := by
  have q1 := stage1 x _ rfl hx h
  have q2 := stage2 _ _ rfl q1 h
  have q3 := stage3 _ _ rfl q2 (fun b hb => by
    obtain ⟨c, hc, rfl⟩ := List.mem_map.1 hb
    obtain ⟨d, hd, rfl⟩ := List.mem_map.1 hc
    have := byte_at (h d hd)
    exact ⟨this.2.2.2.2.1, this.2.2.2.2.2.1⟩)
  simp only [List.map_cons, List.map_nil] at q3
  have hb : ∀ b ∈ [b0, b1, b2, b3, b4, b5, b6, b7], st2 (st1 b) % 16 + st2 (st1 b) / 16 = ones8 b ∧ ones8 b ≤ 8 := fun b hb => (byte_at (h b hb)).2.2.2.2.2.2
  simp only [List.mem_cons, List.not_mem_nil, or_false, forall_eq_or_imp, forall_eq] at hb
  obtain ⟨⟨t0, u0⟩, ⟨t1, u1⟩, ⟨t2, u2⟩, ⟨t3, u3⟩, ⟨t4, u4⟩, ⟨t5, u5⟩, ⟨t6, u6⟩, t7, u7⟩ := hb
  rw [t0, t1, t2, t3, t4, t5, t6, t7] at q3
  exact stage4 _ _ _ _ _ _ _ _ _ q3 u0 u1 u2 u3 u4 u5 u6 u7
/-- How many of the first places are in. -/
def cntN (g : Nat → Bool) : Nat → Nat
  | 0 => 0
  | n + 1 => (if g 0 = true then 1 else 0) + cntN (fun j => g (j + 1)) n
theorem cntN_same : ∀ (n : Nat) (g h : Nat → Bool), (∀ j, j < n → g j = h j) → cntN g n = cntN h n
  | 0, _, _, _ => rfl
  | n + 1, g, h, e => by rw [cntN, cntN, e 0 (by omega), cntN_same n (fun j => g (j + 1)) (fun j => h (j + 1)) (fun j hj => e (j + 1) (by omega))]
theorem cntN_add : ∀ (a b : Nat) (g : Nat → Bool), cntN g (a + b) = cntN g a + cntN (fun j => g (a + j)) b
  | 0, b, g => by rw [Nat.zero_add, cntN, Nat.zero_add]; exact cntN_same b _ _ (fun j _ => by rw [Nat.zero_add])
  | a + 1, b, g => by
    rw [show a + 1 + b = (a + b) + 1 by omega, cntN, cntN, cntN_add a b (fun j => g (j + 1)), Nat.add_assoc]
    congr 1
    congr 1
    exact cntN_same b _ _ (fun j _ => by rw [show a + j + 1 = a + 1 + j by omega])
/-- How many of a number's lowest bits are 1. -/
def bitsN : Nat → Nat → Nat
  | 0, _ => 0
  | k + 1, n => n % 2 + bitsN k (n / 2)
theorem bitsN_cnt : ∀ (k n : Nat), bitsN k n = cntN (fun j => n.testBit j) k
  | 0, _ => rfl
  | k + 1, n => by
    rw [bitsN, cntN, bitsN_cnt k (n / 2)]
    have e0 : n % 2 = if n.testBit 0 = true then 1 else 0 := by
      rw [Nat.testBit_zero]
      rcases Nat.mod_two_eq_zero_or_one n with h | h <;> rw [h] <;> rfl
    rw [e0]
    congr 1
    exact cntN_same k _ _ (fun j _ => by rw [Nat.testBit_succ])
theorem ones8_bits (b n : Nat) : ones8 (b % 256) + bitsN n (b / 256) = bitsN (n + 8) b := by
  simp only [bitsN]
  rw [show b / 2 / 2 / 2 / 2 / 2 / 2 / 2 / 2 = b / 256 by simp only [Nat.div_div_eq_div_mul]]
  unfold ones8
  omega
theorem nest_step (n : Nat) (l : List Nat) (h : n / 256 = nest l) : n = nest (n % 256 :: l) := by rw [nest, ← h]; omega
theorem div_zero8 (n : Nat) (h : n < 18446744073709551616) : n / 256 / 256 / 256 / 256 / 256 / 256 / 256 / 256 = 0 := by
  simp only [Nat.div_div_eq_div_mul]
  exact Nat.div_eq_of_lt h
theorem nest_bytes (n : Nat) (h : n < 18446744073709551616) : n = nest [n % 256, n / 256 % 256, n / 256 / 256 % 256, n / 256 / 256 / 256 % 256, n / 256 / 256 / 256 / 256 % 256, n / 256 / 256 / 256 / 256 / 256 % 256, n / 256 / 256 / 256 / 256 / 256 / 256 % 256, n / 256 / 256 / 256 / 256 / 256 / 256 / 256 % 256] :=
  nest_step _ _ (nest_step _ _ (nest_step _ _ (nest_step _ _ (nest_step _ _ (nest_step _ _ (nest_step _ _ (nest_step _ _ (div_zero8 n h))))))))
theorem mod_256 (n : Nat) : n % 256 < 256 := Nat.mod_lt _ (by omega)
theorem bytes_lt (n : Nat) : ∀ b ∈ [n % 256, n / 256 % 256, n / 256 / 256 % 256, n / 256 / 256 / 256 % 256, n / 256 / 256 / 256 / 256 % 256, n / 256 / 256 / 256 / 256 / 256 % 256, n / 256 / 256 / 256 / 256 / 256 / 256 % 256, n / 256 / 256 / 256 / 256 / 256 / 256 / 256 % 256], b < 256 := by
  simp only [List.mem_cons, List.not_mem_nil, or_false, forall_eq_or_imp, forall_eq]
  exact ⟨mod_256 _, mod_256 _, mod_256 _, mod_256 _, mod_256 _, mod_256 _, mod_256 _, mod_256 _⟩
theorem ones_bits (n : Nat) : ones8 (n % 256) + ones8 (n / 256 % 256) + ones8 (n / 256 / 256 % 256) + ones8 (n / 256 / 256 / 256 % 256) + ones8 (n / 256 / 256 / 256 / 256 % 256) + ones8 (n / 256 / 256 / 256 / 256 / 256 % 256) + ones8 (n / 256 / 256 / 256 / 256 / 256 / 256 % 256) + ones8 (n / 256 / 256 / 256 / 256 / 256 / 256 / 256 % 256) = bitsN 64 n := by
  rw [← ones8_bits n 56, ← ones8_bits _ 48, ← ones8_bits _ 40, ← ones8_bits _ 32, ← ones8_bits _ 24, ← ones8_bits _ 16, ← ones8_bits _ 8, ← ones8_bits _ 0, bitsN]
  simp only [Nat.add_zero, Nat.add_assoc]
theorem pop_nat (x : BitVec 64) (n : Nat) (hn : n < 18446744073709551616) (hx : x.toNat = n) : popI x = ((bitsN 64 n : Nat) : Int) := by
  have h := pop_bytes x (n % 256) (n / 256 % 256) (n / 256 / 256 % 256) (n / 256 / 256 / 256 % 256) (n / 256 / 256 / 256 / 256 % 256) (n / 256 / 256 / 256 / 256 / 256 % 256) (n / 256 / 256 / 256 / 256 / 256 / 256 % 256) (n / 256 / 256 / 256 / 256 / 256 / 256 / 256 % 256) (hx.trans (nest_bytes n hn)) (bytes_lt n)
  rw [ones_bits] at h
  exact h
theorem pop_is (x : BitVec 64) : popI x = ((cntN (fun j => x.getLsbD j) 64 : Nat) : Int) := by
  rw [pop_nat x x.toNat (by have := x.isLt; omega) rfl, bitsN_cnt]
  rfl
theorem count_is (f : Nat → Bool) : cntI f = ((cntN f 256 : Nat) : Int) := by
  have hw : ∀ k, popI (wd f k) = ((cntN (fun j => f (64 * k + j)) 64 : Nat) : Int) := fun k => by
    rw [pop_is]
    exact congrArg (fun n : Nat => (n : Int)) (cntN_same 64 _ _ (fun j hj => wd_bit f k j hj))
  unfold cntI
  rw [hw, hw, hw, hw]
  rw [show (256 : Nat) = 64 + (64 + (64 + 64)) from rfl, cntN_add 64, cntN_add 64, cntN_add 64]
  have e0 : cntN (fun j => f (64 * 0 + j)) 64 = cntN f 64 := cntN_same 64 _ _ (fun j _ => by rw [show 64 * 0 + j = j by omega])
  have e1 : cntN (fun j => f (64 * 1 + j)) 64 = cntN (fun j => f (64 + j)) 64 := rfl
  have e2 : cntN (fun j => f (64 * 2 + j)) 64 = cntN (fun j => f (64 + (64 + j))) 64 := cntN_same 64 _ _ (fun j _ => by rw [show 64 * 2 + j = 64 + (64 + j) by omega])
  have e3 : cntN (fun j => f (64 * 3 + j)) 64 = cntN (fun j => f (64 + (64 + (64 + j)))) 64 := cntN_same 64 _ _ (fun j _ => by rw [show 64 * 3 + j = 64 + (64 + (64 + j)) by omega])
  rw [e0, e1, e2, e3]
  omega
/-- What is in, the lowest first. -/
def elemsN (f : Nat → Bool) : Nat → List Nat
  | 0 => []
  | n + 1 => elemsN f n ++ (if f n = true then [n] else [])
theorem elemsN_len (f : Nat → Bool) : ∀ n : Nat, (elemsN f n).length = cntN f n
  | 0 => rfl
  | n + 1 => by
    rw [elemsN, List.length_append, elemsN_len f n, cntN_add n 1, cntN, cntN]
    rw [show n + 0 = n from rfl]
    cases f n <;> simp
theorem elemsN_le (f : Nat → Bool) (n : Nat) : (elemsN f n).length ≤ n := by
  induction n with
  | zero => exact Nat.le_refl _
  | succ n ih =>
    rw [elemsN, List.length_append]
    cases f n <;> simp <;> omega
end Go.Proofs.Ytfbkfbmfeaajkaa
