
/-
  Words of 64 bits in a walk: Go's uint64 as 'U x', x a BitVec 64; what each operation makes of such words. Plain facts over the model's operations; no program.
-/
import Derived.WalkKit
import Derived.WalkLawsBesides
import Derived.Lib.Hide
import Derived.WalkSpells
import Derived.Deep.QuietTactic
import Derived.BigQuiet
namespace Go.Proofs.Ytpjcijmdoofcbaa
open Go Go.RowKit
set_option linter.unusedVariables false
set_option linter.unusedSimpArgs false

/-- A word as the model has it: a number from 0 on. -/
def U (x : BitVec 64) : Int := (x.toNat : Int)

theorem U_nonneg (x : BitVec 64) : 0 ≤ U x := Int.natCast_nonneg _
theorem U_le (x : BitVec 64) : U x ≤ 18446744073709551615 := by unfold U; omega
theorem U_toNat (x : BitVec 64) : (U x).toNat = x.toNat := rfl
theorem U_def (x : BitVec 64) : U x = (x.toNat : Int) := rfl
theorem U_inj (x y : BitVec 64) : U x = U y ↔ x = y := by
  unfold U; constructor
  · intro h; exact BitVec.eq_of_toNat_eq (by omega)
  · rintro rfl; rfl
theorem ofInt_U (x : BitVec 64) : BitVec.ofInt 64 (U x) = x := by
  unfold U; rw [BitVec.ofInt_natCast]; simp
theorem ofInt_zero' : BitVec.ofInt 64 0 = 0#64 := rfl
theorem ofInt_one' : BitVec.ofInt 64 1 = 1#64 := rfl
theorem ofInt_neg_one' : BitVec.ofInt 64 (-1) = 18446744073709551615#64 := rfl
theorem ofInt_sub' (x y : Int) : BitVec.ofInt 64 (x - y) = BitVec.ofInt 64 x - BitVec.ofInt 64 y := by
  rw [Int.sub_eq_add_neg, BitVec.ofInt_add, BitVec.ofInt_neg, BitVec.sub_eq_add_neg]
theorem exists_U (n : Int) (h : (Lit.int .u64 n).wf = true) : ∃ x : BitVec 64, n = U x := by
  have hx : 0 ≤ n ∧ n ≤ 18446744073709551615 := by simpa [Lit.wf, IntKind.min, IntKind.max, IntKind.signed, IntKind.bits] using h
  refine ⟨BitVec.ofInt 64 n, ?_⟩
  unfold U
  rw [BitVec.toNat_ofInt]
  omega
theorem wf_U (x : BitVec 64) : (Lit.int .u64 (U x)).wf = true := by
  have h1 := U_nonneg x
  have h2 := U_le x
  simp [Lit.wf, IntKind.min, IntKind.max, IntKind.signed, IntKind.bits]
  omega
theorem wf_i64 (n : Int) : (Lit.int .i64 n).wf = true ↔ -9223372036854775808 ≤ n ∧ n ≤ 9223372036854775807 := by
  simp [Lit.wf, IntKind.min, IntKind.max, IntKind.signed, IntKind.bits]

theorem wrap_U (n : Int) : IntKind.u64.wrap n = U (BitVec.ofInt 64 n) := by
  unfold U
  rw [BitVec.toNat_ofInt, IntKind.wrap_u64]
  omega
theorem bits_and_U (a b : Int) : bits .and .u64 a b = U (BitVec.ofInt 64 a &&& BitVec.ofInt 64 b) := by
  show IntKind.u64.wrap _ = _
  rw [wrap_U]; congr 1; simp [IntKind.bits]; rfl
theorem bits_or_U (a b : Int) : bits .or .u64 a b = U (BitVec.ofInt 64 a ||| BitVec.ofInt 64 b) := by
  show IntKind.u64.wrap _ = _
  rw [wrap_U]; congr 1; simp [IntKind.bits]; rfl
theorem bits_xor_U (a b : Int) : bits .xor .u64 a b = U (BitVec.ofInt 64 a ^^^ BitVec.ofInt 64 b) := by
  show IntKind.u64.wrap _ = _
  rw [wrap_U]; congr 1; simp [IntKind.bits]; rfl
theorem bits_andNot_U (a b : Int) : bits .andNot .u64 a b = U (BitVec.ofInt 64 a &&& ~~~ (BitVec.ofInt 64 b)) := by
  show IntKind.u64.wrap _ = _
  rw [wrap_U]; congr 1; simp [IntKind.bits]; rfl

theorem shl_U (yk : IntKind) (x y : Int) (h : 0 ≤ y) : Op.shift .shl .u64 x yk y = pure (.int .u64 (U (BitVec.ofInt 64 x <<< y.toNat))) := by
  rw [shift_shl_any _ _ _ _ h, wrap_U, BitVec.ofInt_mul]
  congr 3
  apply BitVec.eq_of_toNat_eq
  show _ = (BitVec.ofInt 64 x <<< y.toNat).toNat
  rw [BitVec.toNat_mul, BitVec.toNat_shiftLeft, Nat.shiftLeft_eq]
  have e : (BitVec.ofInt 64 (2 ^ min y.toNat IntKind.u64.bits)).toNat = 2 ^ min y.toNat 64 % 2 ^ 64 := by
    rw [show ((2 : Int) ^ min y.toNat IntKind.u64.bits) = ((2 ^ min y.toNat 64 : Nat) : Int) by simp [IntKind.bits]]
    rw [BitVec.ofInt_natCast, BitVec.toNat_ofNat]
  rw [e, Nat.mul_mod_mod]
  by_cases hy : y.toNat ≤ 64
  · rw [Nat.min_eq_left hy]
  · rw [Nat.min_eq_right (by omega)]
    have e1 : 2 ^ y.toNat = 2 ^ 64 * 2 ^ (y.toNat - 64) := by rw [← Nat.pow_add]; congr 1; omega
    rw [e1, ← Nat.mul_assoc, Nat.mul_right_comm, Nat.mul_mod_left, Nat.mul_mod_left]
theorem shr_nat (a n : Nat) (ha : a < 2 ^ 64) : ((a : Int) / 2 ^ min n 64) = ((a >>> n : Nat) : Int) := by
  rw [Nat.shiftRight_eq_div_pow]
  by_cases hy : n ≤ 64
  · rw [Nat.min_eq_left hy]; simp
  · rw [Nat.min_eq_right (by omega)]
    have : a / 2 ^ n = 0 := Nat.div_eq_of_lt (Nat.lt_of_lt_of_le ha (Nat.pow_le_pow_right (by omega) (by omega)))
    rw [this]
    omega
theorem shr_U (yk : IntKind) (x : BitVec 64) (y : Int) (h : 0 ≤ y) : Op.shift .shr .u64 (U x) yk y = pure (.int .u64 (U (x >>> y.toNat))) := by
  rw [shift_shr_any _ _ _ _ h]
  congr 2
  unfold U
  rw [BitVec.toNat_ushiftRight]
  exact shr_nat _ _ x.isLt
theorem bin_shl_U (t : TypeId) (yk : IntKind) (x y : Int) (h : 0 ≤ y) : binOp .shl t (.int .u64 x) (.int yk y) = pure (.int .u64 (U (BitVec.ofInt 64 x <<< y.toNat))) := by
  rw [binOp_shl, shl_U _ _ _ h]
theorem bin_shr_U (t : TypeId) (yk : IntKind) (x : BitVec 64) (y : Int) (h : 0 ≤ y) : binOp .shr t (.int .u64 (U x)) (.int yk y) = pure (.int .u64 (U (x >>> y.toNat))) := by
  rw [binOp_shr, shr_U _ _ _ h]
/-- A word as a number with a sign. -/
def S (x : BitVec 64) : Int := x.toInt
theorem ofInt_S (x : BitVec 64) : BitVec.ofInt 64 (S x) = x := BitVec.ofInt_toInt
theorem wrap_S (x : BitVec 64) : IntKind.i64.wrap (U x) = S x := by
  unfold U S
  rw [IntKind.wrap_i64, BitVec.toInt_eq_toNat_bmod, Int.bmod_def]
  have := x.isLt
  simp
  split <;> omega
theorem S_le (x : BitVec 64) : -9223372036854775808 ≤ S x ∧ S x ≤ 9223372036854775807 := by
  have h1 := BitVec.le_toInt x
  have h2 := BitVec.toInt_lt (x := x)
  unfold S
  simp at h1 h2
  omega
theorem exists_S (n : Int) (h : -9223372036854775808 ≤ n ∧ n ≤ 9223372036854775807) : ∃ x : BitVec 64, n = S x := by
  refine ⟨BitVec.ofInt 64 n, ?_⟩
  unfold S
  rw [BitVec.toInt_ofInt, Int.bmod_def]
  simp
  split <;> omega
theorem S_inj (x y : BitVec 64) : S x = S y ↔ x = y := by
  unfold S; exact BitVec.toInt_inj
theorem S_beq (x y : BitVec 64) : (S x == S y) = (x == y) := by
  rw [Bool.eq_iff_iff, beq_iff_eq, beq_iff_eq, S_inj]
theorem S_bne (x y : BitVec 64) : (S x != S y) = (x != y) := by
  unfold bne; rw [S_beq]
theorem bin_shr_S (t : TypeId) (yk : IntKind) (x : BitVec 64) (y : Int) (h : 0 ≤ y) : binOp .shr t (.int .i64 (S x)) (.int yk y) = pure (.int .i64 (S (x.sshiftRight y.toNat))) := by
  rw [binOp_shr, shift_shr_any _ _ _ _ h]
  congr 2
  unfold S
  rw [BitVec.toInt_sshiftRight, Int.shiftRight_eq_div_pow]
  have h1 := BitVec.le_toInt x
  have h2 := BitVec.toInt_lt (x := x)
  simp only [IntKind.bits]
  by_cases hy : y.toNat ≤ 64
  · rw [Nat.min_eq_left hy]; norm_cast
  · rw [Nat.min_eq_right (by omega)]
    have hp : (18446744073709551616 : Int) ≤ ((2 ^ y.toNat : Nat) : Int) := by
      have : 2 ^ 64 ≤ 2 ^ y.toNat := Nat.pow_le_pow_right (by omega) (by omega)
      omega
    by_cases h0 : 0 ≤ x.toInt
    · rw [Int.ediv_eq_zero_of_lt h0 (by simp at h2; omega), Int.ediv_eq_zero_of_lt h0 (by simp at h2; omega)]
    · rw [show x.toInt / ((2 ^ y.toNat : Nat) : Int) = -1 from ?_]
      · simp at h1; omega
      · rw [Int.ediv_eq_neg_one_of_neg_of_le] <;> simp at h1 <;> omega

theorem U_beq (x y : BitVec 64) : (U x == U y) = (x == y) := by
  rw [Bool.eq_iff_iff, beq_iff_eq, beq_iff_eq, U_inj]
theorem U_bne (x y : BitVec 64) : (U x != U y) = (x != y) := by
  unfold bne; rw [U_beq]
theorem lit_U (n : Nat) (hn : n < 18446744073709551616) : (n : Int) = U (BitVec.ofNat 64 n) := by
  unfold U
  rw [BitVec.toNat_ofNat, Nat.mod_eq_of_lt (by omega)]
theorem U_beq_zero (x : BitVec 64) : (U x == 0) = (x == 0#64) := U_beq x 0#64
theorem U_bne_zero (x : BitVec 64) : (U x != 0) = (x != 0#64) := U_bne x 0#64
theorem U_beq_one (x : BitVec 64) : (U x == 1) = (x == 1#64) := U_beq x 1#64
theorem U_bne_one (x : BitVec 64) : (U x != 1) = (x != 1#64) := U_bne x 1#64
theorem U_beq_nat (x : BitVec 64) (n : Nat) (hn : n < 18446744073709551616) : (U x == (n : Int)) = (x == BitVec.ofNat 64 n) := by
  rw [lit_U n hn, U_beq]
theorem U_bne_nat (x : BitVec 64) (n : Nat) (hn : n < 18446744073709551616) : (U x != (n : Int)) = (x != BitVec.ofNat 64 n) := by
  unfold bne; rw [U_beq_nat x n hn]
theorem bin_shr_nat (t : TypeId) (yk : IntKind) (n : Nat) (y : Int) (h : 0 ≤ y) (hn : n < 18446744073709551616) : binOp .shr t (.int .u64 (n : Int)) (.int yk y) = pure (.int .u64 (U (BitVec.ofNat 64 n >>> y.toNat))) := by
  rw [lit_U n hn, bin_shr_U _ _ _ _ h]
theorem U_lit (n : Nat) (hn : n < 18446744073709551616) : U (BitVec.ofNat 64 n) = (n : Int) := (lit_U n hn).symm
theorem U_zero : U 0#64 = 0 := rfl
theorem U_one : U 1#64 = 1 := rfl
theorem ret_int {k : IntKind} {a b : Int} (h : a = b) : Ending.returned (.int k a) = .returned (.int k b) := by rw [h]
theorem ret_bool {a b : Bool} (h : a = b) : Ending.returned (.bool a) = .returned (.bool b) := by rw [h]
theorem ret_U {a b : BitVec 64} (h : a = b) : Ending.returned (.int .u64 (U a)) = .returned (.int .u64 (U b)) := by rw [h]
theorem ret_lit {n : Int} {b : BitVec 64} (h : b = BitVec.ofInt 64 n) (hn : 0 ≤ n ∧ n ≤ 18446744073709551615) : Ending.returned (.int .u64 n) = .returned (.int .u64 (U b)) := by
  rw [h, ← wrap_U, IntWalk.u64_in n hn]
theorem below_drewN {B : Nat} {a w : World} (h : Below B a w) (n : Nat) : Below B a (w.drewN n) := ⟨h.os, h.tape, h.output, h.size, h.block⟩

theorem bin_rem_U (t : TypeId) (x : BitVec 64) (y : Int) (h : 0 < y) (h1 : y ≤ 18446744073709551615) : binOp .rem t (.int .u64 (U x)) (.int .u64 y) = pure (.int .u64 (U (x % BitVec.ofInt 64 y))) := by
  rw [binOp_rem]
  unfold Op.intDiv
  rw [if_neg (by omega)]
  show pure _ = _
  congr 2
  unfold U
  rw [BitVec.toNat_umod, BitVec.toNat_ofInt, Int.tmod_eq_emod_of_nonneg (Int.natCast_nonneg _), Int.natCast_emod]
  congr 1
  omega
theorem bin_quo_U (t : TypeId) (x : BitVec 64) (y : Int) (h : 0 < y) (h1 : y ≤ 18446744073709551615) : binOp .quo t (.int .u64 (U x)) (.int .u64 y) = pure (.int .u64 (U (x / BitVec.ofInt 64 y))) := by
  rw [binOp_quo]
  unfold Op.intDiv
  rw [if_neg (by omega)]
  show pure _ = _
  congr 2
  rw [wrap_U]
  congr 1
  apply BitVec.eq_of_toNat_eq
  rw [BitVec.toNat_udiv, BitVec.toNat_ofInt, BitVec.toNat_ofInt]
  unfold U
  rw [Int.tdiv_eq_ediv_of_nonneg (Int.natCast_nonneg _)]
  have e : ((y % ((2 ^ 64 : Nat) : Int)).toNat : Int) = y := by omega
  have e2 : (x.toNat : Int) / y = ((x.toNat / (y % ((2 ^ 64 : Nat) : Int)).toNat : Nat) : Int) := by
    rw [Int.natCast_ediv, e]
  rw [e2]
  have h3 : x.toNat / (y % ((2 ^ 64 : Nat) : Int)).toNat ≤ x.toNat := Nat.div_le_self _ _
  have h4 := x.isLt
  generalize x.toNat / (y % ((2 ^ 64 : Nat) : Int)).toNat = q at *
  clear e2 e
  omega
theorem bin_shr_max (t : TypeId) (yk : IntKind) (y : Int) (h : 0 ≤ y) : binOp .shr t (.int .u64 18446744073709551615) (.int yk y) = pure (.int .u64 (U (18446744073709551615#64 >>> y.toNat))) :=
  bin_shr_nat t yk 18446744073709551615 y h (by omega)
theorem unary_xor_U (x : BitVec 64) : Op.unary .xor (.int .u64 (U x)) = pure (.int .u64 (U (~~~ x))) := by
  rw [unary_xor]
  show pure (Value.int .u64 (bits .xor .u64 18446744073709551615 (U x))) = _
  rw [bits_xor_U, ofInt_U]
  congr 3
attribute [go_sem 2000] bin_shr_max unary_xor_U
attribute [go_sem 2000] bin_rem_U bin_quo_U U_le
theorem quiet_k {P : Program} {f : FuncId} {args : Array Value} {w : World} {n : Nat} {v : Value}
    (h : Calls P f args (w.drewN n) fun e w' => e = .returned v ∧ ∃ m, (w.drewN n).drewN m = w') :
    Calls P f args (w.drewN n) fun e w'' => e = .returned v ∧ ∃ m, w'' = w.drewN m :=
  h.mono fun _ _ ⟨he, m, hm⟩ => ⟨he, n + m, by rw [← hm, World.drewN_drewN]⟩
theorem quiet_1 {P : Program} {f : FuncId} {args : Array Value} {w : World} {n : Nat} {v : Value}
    (h : Calls P f args (w.drewN n) fun e w' => e = .returned v ∧ w.drewN n = w') :
    Calls P f args (w.drewN n) fun e w'' => e = .returned v ∧ ∃ m, w'' = w.drewN m :=
  h.mono fun _ _ ⟨he, hm⟩ => ⟨he, n, hm.symm⟩
theorem quiet_ka {P : Program} {f : FuncId} {args : Array Value} {w : World} {a n : Nat} {v : Value}
    (h : Calls P f args (w.drewN (a + n)) fun e w' => e = .returned v ∧ ∃ m, (w.drewN (a + n)).drewN m = w') :
    Calls P f args (w.drewN (a + n)) fun e w'' => e = .returned v ∧ ∃ m, w'' = w.drewN (a + m) :=
  h.mono fun _ _ ⟨he, m, hm⟩ => ⟨he, n + m, by rw [← hm, World.drewN_drewN, Nat.add_assoc]⟩
theorem quiet_1a {P : Program} {f : FuncId} {args : Array Value} {w : World} {a n : Nat} {v : Value}
    (h : Calls P f args (w.drewN (a + n)) fun e w' => e = .returned v ∧ w.drewN (a + n) = w') :
    Calls P f args (w.drewN (a + n)) fun e w'' => e = .returned v ∧ ∃ m, w'' = w.drewN (a + m) :=
  h.mono fun _ _ ⟨he, hm⟩ => ⟨he, n, hm.symm⟩

theorem belows {w w1 w2 : World} (h : Below w.heap.size w w1) (k : Below w1.heap.size w1 w2) : Below w.heap.size w w2 := h.trans (k.mono h.size)
theorem below_alloc {w w1 : World} (h : Below w.heap.size w w1) (o : Obj) : Below w.heap.size w (w1.alloc o) := h.alloc h.size o

/-- Masks on int: the lowest bits of a number, with a sign or without. -/
theorem and_i64 (n : Int) (k : Nat) (m : Int) (hk : k ≤ 62) (hm : m = ((2 ^ k - 1 : Nat) : Int)) : bits .and .i64 n m = n % ((2 ^ k : Nat) : Int) := by
  subst hm
  show IntKind.i64.wrap ((BitVec.ofInt 64 n &&& BitVec.ofInt 64 ((2 ^ k - 1 : Nat) : Int)).toNat : Int) = _
  have hp : 2 ^ k ≤ 2 ^ 62 := Nat.pow_le_pow_right (by omega) hk
  have hq : 0 < 2 ^ k := Nat.two_pow_pos _
  rw [BitVec.toNat_and, BitVec.ofInt_natCast, BitVec.toNat_ofNat, Nat.mod_eq_of_lt (by omega), Nat.and_two_pow_sub_one_eq_mod, BitVec.toNat_ofInt]
  have e : (((n % ((2 ^ 64 : Nat) : Int)).toNat % 2 ^ k : Nat) : Int) = n % ((2 ^ k : Nat) : Int) := by
    rw [Int.natCast_emod, Int.toNat_of_nonneg (Int.emod_nonneg _ (by decide))]
    exact Int.emod_emod_of_dvd n (Int.natCast_dvd_natCast.2 (Nat.pow_dvd_pow 2 (by omega)))
  rw [e]
  have h1 : 0 ≤ n % ((2 ^ k : Nat) : Int) := Int.emod_nonneg _ (by omega)
  have h2 : n % ((2 ^ k : Nat) : Int) < ((2 ^ k : Nat) : Int) := Int.emod_lt_of_pos _ (by omega)
  exact IntWalk.i64_in _ (by omega)
theorem and_63 (n : Int) : bits .and .i64 n 63 = n % 64 := and_i64 n 6 63 (by omega) rfl
theorem and_255 (n : Int) : bits .and .i64 n 255 = n % 256 := and_i64 n 8 255 (by omega) rfl
theorem and_1 (n : Int) : bits .and .i64 n 1 = n % 2 := and_i64 n 1 1 (by omega) rfl
theorem and_3 (n : Int) : bits .and .i64 n 3 = n % 4 := and_i64 n 2 3 (by omega) rfl
theorem and_7 (n : Int) : bits .and .i64 n 7 = n % 8 := and_i64 n 3 7 (by omega) rfl
theorem and_31 (n : Int) : bits .and .i64 n 31 = n % 32 := and_i64 n 5 31 (by omega) rfl
theorem and_4095 (n : Int) : bits .and .i64 n 4095 = n % 4096 := and_i64 n 12 4095 (by omega) rfl
theorem and_8191 (n : Int) : bits .and .i64 n 8191 = n % 8192 := and_i64 n 13 8191 (by omega) rfl
theorem and_65535 (n : Int) : bits .and .i64 n 65535 = n % 65536 := and_i64 n 16 65535 (by omega) rfl

theorem wrap_small (n : Int) (h0 : 0 ≤ n) (h1 : n < 64) : IntKind.u64.wrap n = n := IntWalk.u64_in _ (by omega)
attribute [go_sem 3000] wrap_small
attribute [go_sem 2000] and_63 and_255 and_1 and_3 and_7 and_31 and_4095 and_8191 and_65535
attribute [go_sem 2000] wrap_U wrap_S bits_and_U bits_or_U bits_xor_U bits_andNot_U bin_shl_U bin_shr_U bin_shr_S ofInt_U ofInt_S ofInt_zero' ofInt_one' ofInt_neg_one' ofInt_sub' BitVec.ofInt_add BitVec.ofInt_mul BitVec.ofInt_neg U_beq U_bne S_beq S_bne U_beq_zero U_bne_zero U_beq_one U_bne_one U_nonneg
end Go.Proofs.Ytpjcijmdoofcbaa
