
/-
  InstFields: another register, or another number that fits, changes just its own bits of a word. Every input.
-/
import Derived.Test.YtokfokgbbpjgdaaInstL
import Derived.Test.YtokfokgbbpjgdaaInstK
namespace Go.Proofs.Ytokfokgbbpjgdaa.Fields
open Go Go.RowKit Go.ChangeShapes Go.WideShapes Go.ChangeAt
set_option linter.unusedVariables false
set_option linter.unusedSimpArgs false

theorem wrap_u32_ (n : Int) : IntKind.u32.wrap n = n % 4294967296 := by simp [IntKind.wrap, IntKind.bits, IntKind.signed]
theorem bits_and_u32_ (a b : Nat) (ha : a < 4294967296) (hb : b < 4294967296) : bits .and .u32 (a : Int) (b : Int) = ((a &&& b : Nat) : Int) := by
  have hx : a &&& b < 2 ^ 32 := Nat.and_lt_two_pow _ (by omega)
  have h1 : (BitVec.ofInt 32 (a : Int)).toNat = a := by
    rw [BitVec.ofInt_natCast, BitVec.toNat_ofNat]; exact Nat.mod_eq_of_lt (by omega)
  have h2 : (BitVec.ofInt 32 (b : Int)).toNat = b := by
    rw [BitVec.ofInt_natCast, BitVec.toNat_ofNat]; exact Nat.mod_eq_of_lt (by omega)
  show IntKind.u32.wrap ((BitVec.ofInt 32 (a : Int) &&& BitVec.ofInt 32 (b : Int)).toNat : Int) = _
  rw [BitVec.toNat_and, h1, h2, wrap_u32_]
  omega
theorem bits_xor_u32_ (a b : Nat) (ha : a < 4294967296) (hb : b < 4294967296) : bits .xor .u32 (a : Int) (b : Int) = ((a ^^^ b : Nat) : Int) := by
  have hx : a ^^^ b < 2 ^ 32 := Nat.xor_lt_two_pow (by omega) (by omega)
  have h1 : (BitVec.ofInt 32 (a : Int)).toNat = a := by
    rw [BitVec.ofInt_natCast, BitVec.toNat_ofNat]; exact Nat.mod_eq_of_lt (by omega)
  have h2 : (BitVec.ofInt 32 (b : Int)).toNat = b := by
    rw [BitVec.ofInt_natCast, BitVec.toNat_ofNat]; exact Nat.mod_eq_of_lt (by omega)
  show IntKind.u32.wrap ((BitVec.ofInt 32 (a : Int) ^^^ BitVec.ofInt 32 (b : Int)).toNat : Int) = _
  rw [BitVec.toNat_xor, h1, h2, wrap_u32_]
  omega
theorem bits_xor_i64_ (a b : BitVec 64) : bits .xor .i64 (S a) (S b) = S (a ^^^ b) := by
  show IntKind.i64.wrap ((BitVec.ofInt 64 (S a) ^^^ BitVec.ofInt 64 (S b)).toNat : Int) = _
  rw [ofInt_S, ofInt_S]
  exact wrap_S _
theorem S_small (v : BitVec 64) (h : v.toNat < 32) : S v = (v.toNat : Int) := by
  unfold S
  rw [BitVec.toInt_eq_toNat_of_lt (by omega)]
theorem and_3968 : ∀ n, n < 32 → n * 128 &&& 3968 = n * 128 := by decide
theorem xor_u32 (x y : BitVec 64) (hx : x.toNat < 2 ^ 32) (hy : y.toNat < 2 ^ 32) : bits .xor .u32 (U x) (U y) = ((x ^^^ y).toNat : Int) := by
  unfold U
  rw [bits_xor_u32_ _ _ (by omega) (by omega), BitVec.toNat_xor]
theorem shl_small (v : BitVec 64) (k : Nat) (h : v.toNat < 32) (hk : k ≤ 20) : (v <<< k).toNat = v.toNat * 2 ^ k := by
  rw [BitVec.toNat_shiftLeft, Nat.shiftLeft_eq]
  apply Nat.mod_eq_of_lt
  have : 2 ^ k ≤ 2 ^ 20 := Nat.pow_le_pow_right (by omega) hk
  calc v.toNat * 2 ^ k ≤ 32 * 2 ^ 20 := Nat.mul_le_mul (by omega) this
    _ < 2 ^ 64 := by decide
theorem f_D (x y a b : BitVec 64) (hx : x.toNat < 2 ^ 32) (hy : y.toNat < 2 ^ 32) (hv : (a ^^^ b).toNat < 32) (h : x ^^^ y = (a ^^^ b) <<< 7) :
    (bits .xor .u32 (U x) (U y) != bits .and .u32 (bits .xor .i64 (S a) (S b) % 4294967296 * 128 % 4294967296) 3968) = false := by
  rw [xor_u32 x y hx hy, h, bits_xor_i64_, S_small _ hv, shl_small _ 7 hv (by omega)]
  generalize (a ^^^ b).toNat = n at hv
  rw [show ((n : Int) % 4294967296 * 128 % 4294967296) = ((n * 128 : Nat) : Int) by omega, show (3968 : Int) = ((3968 : Nat) : Int) from rfl, bits_and_u32_ _ _ (by omega) (by omega), and_3968 n hv]
  simp
theorem f_A (x y a b : BitVec 64) (hx : x.toNat < 2 ^ 32) (hy : y.toNat < 2 ^ 32) (hv : (a ^^^ b).toNat < 32) (h : x ^^^ y = (a ^^^ b) <<< 15) :
    (bits .xor .u32 (U x) (U y) == bits .xor .i64 (S a) (S b) % 4294967296 * 32768 % 4294967296) = true := by
  rw [xor_u32 x y hx hy, h, bits_xor_i64_, S_small _ hv, shl_small _ 15 hv (by omega)]
  generalize (a ^^^ b).toNat = n at hv
  rw [show ((n : Int) % 4294967296 * 32768 % 4294967296) = ((n * 32768 : Nat) : Int) by omega]
  simp
set_option maxHeartbeats 8000000 in
set_option maxRecDepth 100000 in
theorem core_no (o D A B M o2 D2 A2 B2 M2 X Y Z : Int) (bx bY bz : Bool) (h : (bx && bY && bz) = false)
    (c1 : ∀ w : World, Calls Try.prog 7 #[.agg #[.int .i64 o, .int .i64 D, .int .i64 A, .int .i64 B, .int .i64 M]] w fun e w' => e = .returned (.tuple #[.int .u32 X, .bool bx]) ∧ Below w.heap.size w w')
    (c2 : ∀ w : World, Calls Try.prog 7 #[.agg #[.int .i64 o, .int .i64 D2, .int .i64 A, .int .i64 B, .int .i64 M]] w fun e w' => e = .returned (.tuple #[.int .u32 Y, .bool bY]) ∧ Below w.heap.size w w')
    (c3 : ∀ w : World, Calls Try.prog 7 #[.agg #[.int .i64 o, .int .i64 D, .int .i64 A2, .int .i64 B, .int .i64 M]] w fun e w' => e = .returned (.tuple #[.int .u32 Z, .bool bz]) ∧ Below w.heap.size w w') (w : World) :
    Calls Try.prog 4 #[.agg #[.int .i64 o, .int .i64 D, .int .i64 A, .int .i64 B, .int .i64 M], .agg #[.int .i64 o2, .int .i64 D2, .int .i64 A2, .int .i64 B2, .int .i64 M2]] w fun e w' => e = .returned (.bool true) ∧ Below w.heap.size w w' := by
  go_enter Try.func4, Try.ntmps4
  cases bx <;> cases bY <;> cases bz <;> simp at h
  all_goals
    go_wp2_with (first | (go_at_call 7; (with_reducible refine (c1 _).mono ?_); rintro e w' ⟨rfl, hbl⟩; obtain ⟨hcw, hfw, hsw⟩ := below_ifs hbl; (try simp only [World.size_alloc, World.size_setCell, World.size_drew, size_drewN_] at hcw hfw hsw)) | (go_at_call 7; (with_reducible refine (c2 _).mono ?_); rintro e w' ⟨rfl, hbl⟩; obtain ⟨hcw, hfw, hsw⟩ := below_ifs hbl; (try simp only [World.size_alloc, World.size_setCell, World.size_drew, size_drewN_] at hcw hfw hsw)) | (go_at_call 7; (with_reducible refine (c3 _).mono ?_); rintro e w' ⟨rfl, hbl⟩; obtain ⟨hcw, hfw, hsw⟩ := below_ifs hbl; (try simp only [World.size_alloc, World.size_setCell, World.size_drew, size_drewN_] at hcw hfw hsw)) | (go_at_call 11; (with_reducible refine (one_any _).mono ?_); rintro e w' ⟨rfl, hbl⟩; obtain ⟨hcw, hfw, hsw⟩ := below_ifs hbl; (try simp only [World.size_alloc, World.size_setCell, World.size_drew, size_drewN_] at hcw hfw hsw)))
    go_ret
    exact ⟨rfl, by (repeat (first | with_reducible exact Below.refl _ _ | with_reducible assumption | with_reducible refine below_drewN ?_ _ | with_reducible refine Below.drew ?_ | with_reducible refine below_alloc ?_ _ | (with_reducible refine Below.setCell ?_ (by first | (simp; done) | omega | (simp; omega)) _) | with_reducible refine belows ?_ (by assumption)))⟩
set_option maxHeartbeats 8000000 in
set_option maxRecDepth 100000 in
theorem core_R (o D A B M o2 D2 A2 B2 M2 X Y Z : Int) (tD : (bits .xor .u32 X Y != bits .and .u32 (bits .xor .i64 D D2 % 4294967296 * 128 % 4294967296) 3968) = false) (tA : (bits .xor .u32 X Z == bits .xor .i64 A A2 % 4294967296 * 32768 % 4294967296) = true)
    (c1 : ∀ w : World, Calls Try.prog 7 #[.agg #[.int .i64 o, .int .i64 D, .int .i64 A, .int .i64 B, .int .i64 M]] w fun e w' => e = .returned (.tuple #[.int .u32 X, .bool true]) ∧ Below w.heap.size w w')
    (c2 : ∀ w : World, Calls Try.prog 7 #[.agg #[.int .i64 o, .int .i64 D2, .int .i64 A, .int .i64 B, .int .i64 M]] w fun e w' => e = .returned (.tuple #[.int .u32 Y, .bool true]) ∧ Below w.heap.size w w')
    (c3 : ∀ w : World, Calls Try.prog 7 #[.agg #[.int .i64 o, .int .i64 D, .int .i64 A2, .int .i64 B, .int .i64 M]] w fun e w' => e = .returned (.tuple #[.int .u32 Z, .bool true]) ∧ Below w.heap.size w w')
    (c4 : ∀ w : World, Calls Try.prog 12 #[.int .i64 o] w fun e w' => e = .returned (.int .u8 82) ∧ Below w.heap.size w w') (w : World) :
    Calls Try.prog 4 #[.agg #[.int .i64 o, .int .i64 D, .int .i64 A, .int .i64 B, .int .i64 M], .agg #[.int .i64 o2, .int .i64 D2, .int .i64 A2, .int .i64 B2, .int .i64 M2]] w fun e w' => e = .returned (.bool true) ∧ Below w.heap.size w w' := by
  go_enter Try.func4, Try.ntmps4
  go_wp2_with (first | (go_at_call 7; (with_reducible refine (c1 _).mono ?_); rintro e w' ⟨rfl, hbl⟩; obtain ⟨hcw, hfw, hsw⟩ := below_ifs hbl; (try simp only [World.size_alloc, World.size_setCell, World.size_drew, size_drewN_] at hcw hfw hsw)) | (go_at_call 7; (with_reducible refine (c2 _).mono ?_); rintro e w' ⟨rfl, hbl⟩; obtain ⟨hcw, hfw, hsw⟩ := below_ifs hbl; (try simp only [World.size_alloc, World.size_setCell, World.size_drew, size_drewN_] at hcw hfw hsw)) | (go_at_call 7; (with_reducible refine (c3 _).mono ?_); rintro e w' ⟨rfl, hbl⟩; obtain ⟨hcw, hfw, hsw⟩ := below_ifs hbl; (try simp only [World.size_alloc, World.size_setCell, World.size_drew, size_drewN_] at hcw hfw hsw)) | (go_at_call 12; (with_reducible refine (c4 _).mono ?_); rintro e w' ⟨rfl, hbl⟩; obtain ⟨hcw, hfw, hsw⟩ := below_ifs hbl; (try simp only [World.size_alloc, World.size_setCell, World.size_drew, size_drewN_] at hcw hfw hsw)) | (go_at_call 11; (with_reducible refine (one_any _).mono ?_); rintro e w' ⟨rfl, hbl⟩; obtain ⟨hcw, hfw, hsw⟩ := below_ifs hbl; (try simp only [World.size_alloc, World.size_setCell, World.size_drew, size_drewN_] at hcw hfw hsw)))
  go_ret
  exact ⟨rfl, by (repeat (first | with_reducible exact Below.refl _ _ | with_reducible assumption | with_reducible refine below_drewN ?_ _ | with_reducible refine Below.drew ?_ | with_reducible refine below_alloc ?_ _ | (with_reducible refine Below.setCell ?_ (by first | (simp; done) | omega | (simp; omega)) _) | with_reducible refine belows ?_ (by assumption)))⟩
set_option maxHeartbeats 8000000 in
set_option maxRecDepth 100000 in
theorem core_G (o D A B M o2 D2 A2 B2 M2 X Y Z : Int) (tD : (bits .xor .u32 X Y != bits .and .u32 (bits .xor .i64 D D2 % 4294967296 * 128 % 4294967296) 3968) = false) (tA : (bits .xor .u32 X Z == bits .xor .i64 A A2 % 4294967296 * 32768 % 4294967296) = true)
    (c1 : ∀ w : World, Calls Try.prog 7 #[.agg #[.int .i64 o, .int .i64 D, .int .i64 A, .int .i64 B, .int .i64 M]] w fun e w' => e = .returned (.tuple #[.int .u32 X, .bool true]) ∧ Below w.heap.size w w')
    (c2 : ∀ w : World, Calls Try.prog 7 #[.agg #[.int .i64 o, .int .i64 D2, .int .i64 A, .int .i64 B, .int .i64 M]] w fun e w' => e = .returned (.tuple #[.int .u32 Y, .bool true]) ∧ Below w.heap.size w w')
    (c3 : ∀ w : World, Calls Try.prog 7 #[.agg #[.int .i64 o, .int .i64 D, .int .i64 A2, .int .i64 B, .int .i64 M]] w fun e w' => e = .returned (.tuple #[.int .u32 Z, .bool true]) ∧ Below w.heap.size w w')
    (c4 : ∀ w : World, Calls Try.prog 12 #[.int .i64 o] w fun e w' => e = .returned (.int .u8 71) ∧ Below w.heap.size w w') (w : World) :
    Calls Try.prog 4 #[.agg #[.int .i64 o, .int .i64 D, .int .i64 A, .int .i64 B, .int .i64 M], .agg #[.int .i64 o2, .int .i64 D2, .int .i64 A2, .int .i64 B2, .int .i64 M2]] w fun e w' => e = .returned (.bool true) ∧ Below w.heap.size w w' := by
  go_enter Try.func4, Try.ntmps4
  go_wp2_with (first | (go_at_call 7; (with_reducible refine (c1 _).mono ?_); rintro e w' ⟨rfl, hbl⟩; obtain ⟨hcw, hfw, hsw⟩ := below_ifs hbl; (try simp only [World.size_alloc, World.size_setCell, World.size_drew, size_drewN_] at hcw hfw hsw)) | (go_at_call 7; (with_reducible refine (c2 _).mono ?_); rintro e w' ⟨rfl, hbl⟩; obtain ⟨hcw, hfw, hsw⟩ := below_ifs hbl; (try simp only [World.size_alloc, World.size_setCell, World.size_drew, size_drewN_] at hcw hfw hsw)) | (go_at_call 7; (with_reducible refine (c3 _).mono ?_); rintro e w' ⟨rfl, hbl⟩; obtain ⟨hcw, hfw, hsw⟩ := below_ifs hbl; (try simp only [World.size_alloc, World.size_setCell, World.size_drew, size_drewN_] at hcw hfw hsw)) | (go_at_call 12; (with_reducible refine (c4 _).mono ?_); rintro e w' ⟨rfl, hbl⟩; obtain ⟨hcw, hfw, hsw⟩ := below_ifs hbl; (try simp only [World.size_alloc, World.size_setCell, World.size_drew, size_drewN_] at hcw hfw hsw)) | (go_at_call 11; (with_reducible refine (one_any _).mono ?_); rintro e w' ⟨rfl, hbl⟩; obtain ⟨hcw, hfw, hsw⟩ := below_ifs hbl; (try simp only [World.size_alloc, World.size_setCell, World.size_drew, size_drewN_] at hcw hfw hsw)))
  go_ret
  exact ⟨rfl, by (repeat (first | with_reducible exact Below.refl _ _ | with_reducible assumption | with_reducible refine below_drewN ?_ _ | with_reducible refine Below.drew ?_ | with_reducible refine below_alloc ?_ _ | (with_reducible refine Below.setCell ?_ (by first | (simp; done) | omega | (simp; omega)) _) | with_reducible refine belows ?_ (by assumption)))⟩
set_option maxHeartbeats 8000000 in
set_option maxRecDepth 100000 in
theorem core_N (o D A B M o2 D2 A2 B2 M2 X : Int) 
    (c1 : ∀ w : World, Calls Try.prog 7 #[.agg #[.int .i64 o, .int .i64 D, .int .i64 A, .int .i64 B, .int .i64 M]] w fun e w' => e = .returned (.tuple #[.int .u32 X, .bool true]) ∧ Below w.heap.size w w')
    (c2 : ∀ w : World, Calls Try.prog 7 #[.agg #[.int .i64 o, .int .i64 D2, .int .i64 A, .int .i64 B, .int .i64 M]] w fun e w' => e = .returned (.tuple #[.int .u32 X, .bool true]) ∧ Below w.heap.size w w')
    (c3 : ∀ w : World, Calls Try.prog 7 #[.agg #[.int .i64 o, .int .i64 D, .int .i64 A2, .int .i64 B, .int .i64 M]] w fun e w' => e = .returned (.tuple #[.int .u32 X, .bool true]) ∧ Below w.heap.size w w')
    (c4 : ∀ w : World, Calls Try.prog 12 #[.int .i64 o] w fun e w' => e = .returned (.int .u8 78) ∧ Below w.heap.size w w') (w : World) :
    Calls Try.prog 4 #[.agg #[.int .i64 o, .int .i64 D, .int .i64 A, .int .i64 B, .int .i64 M], .agg #[.int .i64 o2, .int .i64 D2, .int .i64 A2, .int .i64 B2, .int .i64 M2]] w fun e w' => e = .returned (.bool true) ∧ Below w.heap.size w w' := by
  go_enter Try.func4, Try.ntmps4
  generalize hb : (bits .xor .u32 X X != bits .and .u32 (bits .xor .i64 D D2 % 4294967296 * 128 % 4294967296) 3968) = bb
  cases bb
  all_goals
    go_wp2_with (first | (go_at_call 7; (with_reducible refine (c1 _).mono ?_); rintro e w' ⟨rfl, hbl⟩; obtain ⟨hcw, hfw, hsw⟩ := below_ifs hbl; (try simp only [World.size_alloc, World.size_setCell, World.size_drew, size_drewN_] at hcw hfw hsw)) | (go_at_call 7; (with_reducible refine (c2 _).mono ?_); rintro e w' ⟨rfl, hbl⟩; obtain ⟨hcw, hfw, hsw⟩ := below_ifs hbl; (try simp only [World.size_alloc, World.size_setCell, World.size_drew, size_drewN_] at hcw hfw hsw)) | (go_at_call 7; (with_reducible refine (c3 _).mono ?_); rintro e w' ⟨rfl, hbl⟩; obtain ⟨hcw, hfw, hsw⟩ := below_ifs hbl; (try simp only [World.size_alloc, World.size_setCell, World.size_drew, size_drewN_] at hcw hfw hsw)) | (go_at_call 12; (with_reducible refine (c4 _).mono ?_); rintro e w' ⟨rfl, hbl⟩; obtain ⟨hcw, hfw, hsw⟩ := below_ifs hbl; (try simp only [World.size_alloc, World.size_setCell, World.size_drew, size_drewN_] at hcw hfw hsw)) | (go_at_call 11; (with_reducible refine (one_any _).mono ?_); rintro e w' ⟨rfl, hbl⟩; obtain ⟨hcw, hfw, hsw⟩ := below_ifs hbl; (try simp only [World.size_alloc, World.size_setCell, World.size_drew, size_drewN_] at hcw hfw hsw)))
    go_ret
    exact ⟨rfl, by (repeat (first | with_reducible exact Below.refl _ _ | with_reducible assumption | with_reducible refine below_drewN ?_ _ | with_reducible refine Below.drew ?_ | with_reducible refine below_alloc ?_ _ | (with_reducible refine Below.setCell ?_ (by first | (simp; done) | omega | (simp; omega)) _) | with_reducible refine belows ?_ (by assumption)))⟩
set_option maxHeartbeats 8000000 in
set_option maxRecDepth 100000 in
theorem core_I (o D A B M o2 D2 A2 B2 M2 X Y Z : Int) (tD : (bits .xor .u32 X Y != bits .and .u32 (bits .xor .i64 D D2 % 4294967296 * 128 % 4294967296) 3968) = false) (tA : (bits .xor .u32 X Z == bits .xor .i64 A A2 % 4294967296 * 32768 % 4294967296) = true)
    (c1 : ∀ w : World, Calls Try.prog 7 #[.agg #[.int .i64 o, .int .i64 D, .int .i64 A, .int .i64 B, .int .i64 M]] w fun e w' => e = .returned (.tuple #[.int .u32 X, .bool true]) ∧ Below w.heap.size w w')
    (c2 : ∀ w : World, Calls Try.prog 7 #[.agg #[.int .i64 o, .int .i64 D2, .int .i64 A, .int .i64 B, .int .i64 M]] w fun e w' => e = .returned (.tuple #[.int .u32 Y, .bool true]) ∧ Below w.heap.size w w')
    (c3 : ∀ w : World, Calls Try.prog 7 #[.agg #[.int .i64 o, .int .i64 D, .int .i64 A2, .int .i64 B, .int .i64 M]] w fun e w' => e = .returned (.tuple #[.int .u32 Z, .bool true]) ∧ Below w.heap.size w w')
    (c4 : ∀ w : World, Calls Try.prog 12 #[.int .i64 o] w fun e w' => e = .returned (.int .u8 73) ∧ Below w.heap.size w w') (w : World) :
    Calls Try.prog 4 #[.agg #[.int .i64 o, .int .i64 D, .int .i64 A, .int .i64 B, .int .i64 M], .agg #[.int .i64 o2, .int .i64 D2, .int .i64 A2, .int .i64 B2, .int .i64 M2]] w fun e w' => e = .returned (.bool true) ∧ Below w.heap.size w w' := by
  go_enter Try.func4, Try.ntmps4
  go_wp2_with (first | (go_at_call 7; (with_reducible refine (c1 _).mono ?_); rintro e w' ⟨rfl, hbl⟩; obtain ⟨hcw, hfw, hsw⟩ := below_ifs hbl; (try simp only [World.size_alloc, World.size_setCell, World.size_drew, size_drewN_] at hcw hfw hsw)) | (go_at_call 7; (with_reducible refine (c2 _).mono ?_); rintro e w' ⟨rfl, hbl⟩; obtain ⟨hcw, hfw, hsw⟩ := below_ifs hbl; (try simp only [World.size_alloc, World.size_setCell, World.size_drew, size_drewN_] at hcw hfw hsw)) | (go_at_call 7; (with_reducible refine (c3 _).mono ?_); rintro e w' ⟨rfl, hbl⟩; obtain ⟨hcw, hfw, hsw⟩ := below_ifs hbl; (try simp only [World.size_alloc, World.size_setCell, World.size_drew, size_drewN_] at hcw hfw hsw)) | (go_at_call 12; (with_reducible refine (c4 _).mono ?_); rintro e w' ⟨rfl, hbl⟩; obtain ⟨hcw, hfw, hsw⟩ := below_ifs hbl; (try simp only [World.size_alloc, World.size_setCell, World.size_drew, size_drewN_] at hcw hfw hsw)) | (go_at_call 11; (with_reducible refine (one_any _).mono ?_); rintro e w' ⟨rfl, hbl⟩; obtain ⟨hcw, hfw, hsw⟩ := below_ifs hbl; (try simp only [World.size_alloc, World.size_setCell, World.size_drew, size_drewN_] at hcw hfw hsw)))
  go_ret
  exact ⟨rfl, by (repeat (first | with_reducible exact Below.refl _ _ | with_reducible assumption | with_reducible refine below_drewN ?_ _ | with_reducible refine Below.drew ?_ | with_reducible refine below_alloc ?_ _ | (with_reducible refine Below.setCell ?_ (by first | (simp; done) | omega | (simp; omega)) _) | with_reducible refine belows ?_ (by assumption)))⟩
set_option maxHeartbeats 8000000 in
set_option maxRecDepth 100000 in
theorem core_C (o D A B M o2 D2 A2 B2 M2 X Y Z : Int) (tD : (bits .xor .u32 X Y != bits .and .u32 (bits .xor .i64 D D2 % 4294967296 * 128 % 4294967296) 3968) = false) (tA : (bits .xor .u32 X Z == bits .xor .i64 A A2 % 4294967296 * 32768 % 4294967296) = true)
    (c1 : ∀ w : World, Calls Try.prog 7 #[.agg #[.int .i64 o, .int .i64 D, .int .i64 A, .int .i64 B, .int .i64 M]] w fun e w' => e = .returned (.tuple #[.int .u32 X, .bool true]) ∧ Below w.heap.size w w')
    (c2 : ∀ w : World, Calls Try.prog 7 #[.agg #[.int .i64 o, .int .i64 D2, .int .i64 A, .int .i64 B, .int .i64 M]] w fun e w' => e = .returned (.tuple #[.int .u32 Y, .bool true]) ∧ Below w.heap.size w w')
    (c3 : ∀ w : World, Calls Try.prog 7 #[.agg #[.int .i64 o, .int .i64 D, .int .i64 A2, .int .i64 B, .int .i64 M]] w fun e w' => e = .returned (.tuple #[.int .u32 Z, .bool true]) ∧ Below w.heap.size w w')
    (c4 : ∀ w : World, Calls Try.prog 12 #[.int .i64 o] w fun e w' => e = .returned (.int .u8 67) ∧ Below w.heap.size w w') (w : World) :
    Calls Try.prog 4 #[.agg #[.int .i64 o, .int .i64 D, .int .i64 A, .int .i64 B, .int .i64 M], .agg #[.int .i64 o2, .int .i64 D2, .int .i64 A2, .int .i64 B2, .int .i64 M2]] w fun e w' => e = .returned (.bool true) ∧ Below w.heap.size w w' := by
  go_enter Try.func4, Try.ntmps4
  go_wp2_with (first | (go_at_call 7; (with_reducible refine (c1 _).mono ?_); rintro e w' ⟨rfl, hbl⟩; obtain ⟨hcw, hfw, hsw⟩ := below_ifs hbl; (try simp only [World.size_alloc, World.size_setCell, World.size_drew, size_drewN_] at hcw hfw hsw)) | (go_at_call 7; (with_reducible refine (c2 _).mono ?_); rintro e w' ⟨rfl, hbl⟩; obtain ⟨hcw, hfw, hsw⟩ := below_ifs hbl; (try simp only [World.size_alloc, World.size_setCell, World.size_drew, size_drewN_] at hcw hfw hsw)) | (go_at_call 7; (with_reducible refine (c3 _).mono ?_); rintro e w' ⟨rfl, hbl⟩; obtain ⟨hcw, hfw, hsw⟩ := below_ifs hbl; (try simp only [World.size_alloc, World.size_setCell, World.size_drew, size_drewN_] at hcw hfw hsw)) | (go_at_call 12; (with_reducible refine (c4 _).mono ?_); rintro e w' ⟨rfl, hbl⟩; obtain ⟨hcw, hfw, hsw⟩ := below_ifs hbl; (try simp only [World.size_alloc, World.size_setCell, World.size_drew, size_drewN_] at hcw hfw hsw)) | (go_at_call 11; (with_reducible refine (one_any _).mono ?_); rintro e w' ⟨rfl, hbl⟩; obtain ⟨hcw, hfw, hsw⟩ := below_ifs hbl; (try simp only [World.size_alloc, World.size_setCell, World.size_drew, size_drewN_] at hcw hfw hsw)))
  go_ret
  exact ⟨rfl, by (repeat (first | with_reducible exact Below.refl _ _ | with_reducible assumption | with_reducible refine below_drewN ?_ _ | with_reducible refine Below.drew ?_ | with_reducible refine below_alloc ?_ _ | (with_reducible refine Below.setCell ?_ (by first | (simp; done) | omega | (simp; omega)) _) | with_reducible refine belows ?_ (by assumption)))⟩
set_option maxHeartbeats 8000000 in
set_option maxRecDepth 100000 in
theorem core_H (o D A B M o2 D2 A2 B2 M2 X Y Z : Int) (tD : (bits .xor .u32 X Y != bits .and .u32 (bits .xor .i64 D D2 % 4294967296 * 128 % 4294967296) 3968) = false) (tA : (bits .xor .u32 X Z == bits .xor .i64 A A2 % 4294967296 * 32768 % 4294967296) = true)
    (c1 : ∀ w : World, Calls Try.prog 7 #[.agg #[.int .i64 o, .int .i64 D, .int .i64 A, .int .i64 B, .int .i64 M]] w fun e w' => e = .returned (.tuple #[.int .u32 X, .bool true]) ∧ Below w.heap.size w w')
    (c2 : ∀ w : World, Calls Try.prog 7 #[.agg #[.int .i64 o, .int .i64 D2, .int .i64 A, .int .i64 B, .int .i64 M]] w fun e w' => e = .returned (.tuple #[.int .u32 Y, .bool true]) ∧ Below w.heap.size w w')
    (c3 : ∀ w : World, Calls Try.prog 7 #[.agg #[.int .i64 o, .int .i64 D, .int .i64 A2, .int .i64 B, .int .i64 M]] w fun e w' => e = .returned (.tuple #[.int .u32 Z, .bool true]) ∧ Below w.heap.size w w')
    (c4 : ∀ w : World, Calls Try.prog 12 #[.int .i64 o] w fun e w' => e = .returned (.int .u8 72) ∧ Below w.heap.size w w') (w : World) :
    Calls Try.prog 4 #[.agg #[.int .i64 o, .int .i64 D, .int .i64 A, .int .i64 B, .int .i64 M], .agg #[.int .i64 o2, .int .i64 D2, .int .i64 A2, .int .i64 B2, .int .i64 M2]] w fun e w' => e = .returned (.bool true) ∧ Below w.heap.size w w' := by
  go_enter Try.func4, Try.ntmps4
  go_wp2_with (first | (go_at_call 7; (with_reducible refine (c1 _).mono ?_); rintro e w' ⟨rfl, hbl⟩; obtain ⟨hcw, hfw, hsw⟩ := below_ifs hbl; (try simp only [World.size_alloc, World.size_setCell, World.size_drew, size_drewN_] at hcw hfw hsw)) | (go_at_call 7; (with_reducible refine (c2 _).mono ?_); rintro e w' ⟨rfl, hbl⟩; obtain ⟨hcw, hfw, hsw⟩ := below_ifs hbl; (try simp only [World.size_alloc, World.size_setCell, World.size_drew, size_drewN_] at hcw hfw hsw)) | (go_at_call 7; (with_reducible refine (c3 _).mono ?_); rintro e w' ⟨rfl, hbl⟩; obtain ⟨hcw, hfw, hsw⟩ := below_ifs hbl; (try simp only [World.size_alloc, World.size_setCell, World.size_drew, size_drewN_] at hcw hfw hsw)) | (go_at_call 12; (with_reducible refine (c4 _).mono ?_); rintro e w' ⟨rfl, hbl⟩; obtain ⟨hcw, hfw, hsw⟩ := below_ifs hbl; (try simp only [World.size_alloc, World.size_setCell, World.size_drew, size_drewN_] at hcw hfw hsw)) | (go_at_call 11; (with_reducible refine (one_any _).mono ?_); rintro e w' ⟨rfl, hbl⟩; obtain ⟨hcw, hfw, hsw⟩ := below_ifs hbl; (try simp only [World.size_alloc, World.size_setCell, World.size_drew, size_drewN_] at hcw hfw hsw)))
  go_ret
  exact ⟨rfl, by (repeat (first | with_reducible exact Below.refl _ _ | with_reducible assumption | with_reducible refine below_drewN ?_ _ | with_reducible refine Below.drew ?_ | with_reducible refine below_alloc ?_ _ | (with_reducible refine Below.setCell ?_ (by first | (simp; done) | omega | (simp; omega)) _) | with_reducible refine belows ?_ (by assumption)))⟩
set_option maxHeartbeats 8000000 in
set_option maxRecDepth 100000 in
theorem core_S (o D A B M o2 D2 A2 B2 M2 X Z : Int) (tA : (bits .xor .u32 X Z == bits .xor .i64 A A2 % 4294967296 * 32768 % 4294967296) = true)
    (c1 : ∀ w : World, Calls Try.prog 7 #[.agg #[.int .i64 o, .int .i64 D, .int .i64 A, .int .i64 B, .int .i64 M]] w fun e w' => e = .returned (.tuple #[.int .u32 X, .bool true]) ∧ Below w.heap.size w w')
    (c2 : ∀ w : World, Calls Try.prog 7 #[.agg #[.int .i64 o, .int .i64 D2, .int .i64 A, .int .i64 B, .int .i64 M]] w fun e w' => e = .returned (.tuple #[.int .u32 X, .bool true]) ∧ Below w.heap.size w w')
    (c3 : ∀ w : World, Calls Try.prog 7 #[.agg #[.int .i64 o, .int .i64 D, .int .i64 A2, .int .i64 B, .int .i64 M]] w fun e w' => e = .returned (.tuple #[.int .u32 Z, .bool true]) ∧ Below w.heap.size w w')
    (c4 : ∀ w : World, Calls Try.prog 12 #[.int .i64 o] w fun e w' => e = .returned (.int .u8 83) ∧ Below w.heap.size w w') (w : World) :
    Calls Try.prog 4 #[.agg #[.int .i64 o, .int .i64 D, .int .i64 A, .int .i64 B, .int .i64 M], .agg #[.int .i64 o2, .int .i64 D2, .int .i64 A2, .int .i64 B2, .int .i64 M2]] w fun e w' => e = .returned (.bool true) ∧ Below w.heap.size w w' := by
  go_enter Try.func4, Try.ntmps4
  go_wp2_with (first | (go_at_call 7; (with_reducible refine (c1 _).mono ?_); rintro e w' ⟨rfl, hbl⟩; obtain ⟨hcw, hfw, hsw⟩ := below_ifs hbl; (try simp only [World.size_alloc, World.size_setCell, World.size_drew, size_drewN_] at hcw hfw hsw)) | (go_at_call 7; (with_reducible refine (c2 _).mono ?_); rintro e w' ⟨rfl, hbl⟩; obtain ⟨hcw, hfw, hsw⟩ := below_ifs hbl; (try simp only [World.size_alloc, World.size_setCell, World.size_drew, size_drewN_] at hcw hfw hsw)) | (go_at_call 7; (with_reducible refine (c3 _).mono ?_); rintro e w' ⟨rfl, hbl⟩; obtain ⟨hcw, hfw, hsw⟩ := below_ifs hbl; (try simp only [World.size_alloc, World.size_setCell, World.size_drew, size_drewN_] at hcw hfw hsw)) | (go_at_call 12; (with_reducible refine (c4 _).mono ?_); rintro e w' ⟨rfl, hbl⟩; obtain ⟨hcw, hfw, hsw⟩ := below_ifs hbl; (try simp only [World.size_alloc, World.size_setCell, World.size_drew, size_drewN_] at hcw hfw hsw)) | (go_at_call 11; (with_reducible refine (one_any _).mono ?_); rintro e w' ⟨rfl, hbl⟩; obtain ⟨hcw, hfw, hsw⟩ := below_ifs hbl; (try simp only [World.size_alloc, World.size_setCell, World.size_drew, size_drewN_] at hcw hfw hsw)))
  go_ret
  exact ⟨rfl, by (repeat (first | with_reducible exact Below.refl _ _ | with_reducible assumption | with_reducible refine below_drewN ?_ _ | with_reducible refine Below.drew ?_ | with_reducible refine below_alloc ?_ _ | (with_reducible refine Below.setCell ?_ (by first | (simp; done) | omega | (simp; omega)) _) | with_reducible refine belows ?_ (by assumption)))⟩
set_option maxHeartbeats 8000000 in
set_option maxRecDepth 100000 in
theorem core_B (o D A B M o2 D2 A2 B2 M2 X Z : Int) (tA : (bits .xor .u32 X Z == bits .xor .i64 A A2 % 4294967296 * 32768 % 4294967296) = true)
    (c1 : ∀ w : World, Calls Try.prog 7 #[.agg #[.int .i64 o, .int .i64 D, .int .i64 A, .int .i64 B, .int .i64 M]] w fun e w' => e = .returned (.tuple #[.int .u32 X, .bool true]) ∧ Below w.heap.size w w')
    (c2 : ∀ w : World, Calls Try.prog 7 #[.agg #[.int .i64 o, .int .i64 D2, .int .i64 A, .int .i64 B, .int .i64 M]] w fun e w' => e = .returned (.tuple #[.int .u32 X, .bool true]) ∧ Below w.heap.size w w')
    (c3 : ∀ w : World, Calls Try.prog 7 #[.agg #[.int .i64 o, .int .i64 D, .int .i64 A2, .int .i64 B, .int .i64 M]] w fun e w' => e = .returned (.tuple #[.int .u32 Z, .bool true]) ∧ Below w.heap.size w w')
    (c4 : ∀ w : World, Calls Try.prog 12 #[.int .i64 o] w fun e w' => e = .returned (.int .u8 66) ∧ Below w.heap.size w w') (w : World) :
    Calls Try.prog 4 #[.agg #[.int .i64 o, .int .i64 D, .int .i64 A, .int .i64 B, .int .i64 M], .agg #[.int .i64 o2, .int .i64 D2, .int .i64 A2, .int .i64 B2, .int .i64 M2]] w fun e w' => e = .returned (.bool true) ∧ Below w.heap.size w w' := by
  go_enter Try.func4, Try.ntmps4
  go_wp2_with (first | (go_at_call 7; (with_reducible refine (c1 _).mono ?_); rintro e w' ⟨rfl, hbl⟩; obtain ⟨hcw, hfw, hsw⟩ := below_ifs hbl; (try simp only [World.size_alloc, World.size_setCell, World.size_drew, size_drewN_] at hcw hfw hsw)) | (go_at_call 7; (with_reducible refine (c2 _).mono ?_); rintro e w' ⟨rfl, hbl⟩; obtain ⟨hcw, hfw, hsw⟩ := below_ifs hbl; (try simp only [World.size_alloc, World.size_setCell, World.size_drew, size_drewN_] at hcw hfw hsw)) | (go_at_call 7; (with_reducible refine (c3 _).mono ?_); rintro e w' ⟨rfl, hbl⟩; obtain ⟨hcw, hfw, hsw⟩ := below_ifs hbl; (try simp only [World.size_alloc, World.size_setCell, World.size_drew, size_drewN_] at hcw hfw hsw)) | (go_at_call 12; (with_reducible refine (c4 _).mono ?_); rintro e w' ⟨rfl, hbl⟩; obtain ⟨hcw, hfw, hsw⟩ := below_ifs hbl; (try simp only [World.size_alloc, World.size_setCell, World.size_drew, size_drewN_] at hcw hfw hsw)) | (go_at_call 11; (with_reducible refine (one_any _).mono ?_); rintro e w' ⟨rfl, hbl⟩; obtain ⟨hcw, hfw, hsw⟩ := below_ifs hbl; (try simp only [World.size_alloc, World.size_setCell, World.size_drew, size_drewN_] at hcw hfw hsw)))
  go_ret
  exact ⟨rfl, by (repeat (first | with_reducible exact Below.refl _ _ | with_reducible assumption | with_reducible refine below_drewN ?_ _ | with_reducible refine Below.drew ?_ | with_reducible refine below_alloc ?_ _ | (with_reducible refine Below.setCell ?_ (by first | (simp; done) | omega | (simp; omega)) _) | with_reducible refine belows ?_ (by assumption)))⟩
set_option maxHeartbeats 8000000 in
set_option maxRecDepth 100000 in
theorem core_U (o D A B M o2 D2 A2 B2 M2 X Y : Int) (tD : (bits .xor .u32 X Y != bits .and .u32 (bits .xor .i64 D D2 % 4294967296 * 128 % 4294967296) 3968) = false)
    (c1 : ∀ w : World, Calls Try.prog 7 #[.agg #[.int .i64 o, .int .i64 D, .int .i64 A, .int .i64 B, .int .i64 M]] w fun e w' => e = .returned (.tuple #[.int .u32 X, .bool true]) ∧ Below w.heap.size w w')
    (c2 : ∀ w : World, Calls Try.prog 7 #[.agg #[.int .i64 o, .int .i64 D2, .int .i64 A, .int .i64 B, .int .i64 M]] w fun e w' => e = .returned (.tuple #[.int .u32 Y, .bool true]) ∧ Below w.heap.size w w')
    (c3 : ∀ w : World, Calls Try.prog 7 #[.agg #[.int .i64 o, .int .i64 D, .int .i64 A2, .int .i64 B, .int .i64 M]] w fun e w' => e = .returned (.tuple #[.int .u32 X, .bool true]) ∧ Below w.heap.size w w')
    (c4 : ∀ w : World, Calls Try.prog 12 #[.int .i64 o] w fun e w' => e = .returned (.int .u8 85) ∧ Below w.heap.size w w') (w : World) :
    Calls Try.prog 4 #[.agg #[.int .i64 o, .int .i64 D, .int .i64 A, .int .i64 B, .int .i64 M], .agg #[.int .i64 o2, .int .i64 D2, .int .i64 A2, .int .i64 B2, .int .i64 M2]] w fun e w' => e = .returned (.bool true) ∧ Below w.heap.size w w' := by
  go_enter Try.func4, Try.ntmps4
  go_wp2_with (first | (go_at_call 7; (with_reducible refine (c1 _).mono ?_); rintro e w' ⟨rfl, hbl⟩; obtain ⟨hcw, hfw, hsw⟩ := below_ifs hbl; (try simp only [World.size_alloc, World.size_setCell, World.size_drew, size_drewN_] at hcw hfw hsw)) | (go_at_call 7; (with_reducible refine (c2 _).mono ?_); rintro e w' ⟨rfl, hbl⟩; obtain ⟨hcw, hfw, hsw⟩ := below_ifs hbl; (try simp only [World.size_alloc, World.size_setCell, World.size_drew, size_drewN_] at hcw hfw hsw)) | (go_at_call 7; (with_reducible refine (c3 _).mono ?_); rintro e w' ⟨rfl, hbl⟩; obtain ⟨hcw, hfw, hsw⟩ := below_ifs hbl; (try simp only [World.size_alloc, World.size_setCell, World.size_drew, size_drewN_] at hcw hfw hsw)) | (go_at_call 12; (with_reducible refine (c4 _).mono ?_); rintro e w' ⟨rfl, hbl⟩; obtain ⟨hcw, hfw, hsw⟩ := below_ifs hbl; (try simp only [World.size_alloc, World.size_setCell, World.size_drew, size_drewN_] at hcw hfw hsw)) | (go_at_call 11; (with_reducible refine (one_any _).mono ?_); rintro e w' ⟨rfl, hbl⟩; obtain ⟨hcw, hfw, hsw⟩ := below_ifs hbl; (try simp only [World.size_alloc, World.size_setCell, World.size_drew, size_drewN_] at hcw hfw hsw)))
  go_ret
  exact ⟨rfl, by (repeat (first | with_reducible exact Below.refl _ _ | with_reducible assumption | with_reducible refine below_drewN ?_ _ | with_reducible refine Below.drew ?_ | with_reducible refine below_alloc ?_ _ | (with_reducible refine Below.setCell ?_ (by first | (simp; done) | omega | (simp; omega)) _) | with_reducible refine belows ?_ (by assumption)))⟩
set_option maxHeartbeats 8000000 in
set_option maxRecDepth 100000 in
theorem core_J (o D A B M o2 D2 A2 B2 M2 X Y : Int) (tD : (bits .xor .u32 X Y != bits .and .u32 (bits .xor .i64 D D2 % 4294967296 * 128 % 4294967296) 3968) = false)
    (c1 : ∀ w : World, Calls Try.prog 7 #[.agg #[.int .i64 o, .int .i64 D, .int .i64 A, .int .i64 B, .int .i64 M]] w fun e w' => e = .returned (.tuple #[.int .u32 X, .bool true]) ∧ Below w.heap.size w w')
    (c2 : ∀ w : World, Calls Try.prog 7 #[.agg #[.int .i64 o, .int .i64 D2, .int .i64 A, .int .i64 B, .int .i64 M]] w fun e w' => e = .returned (.tuple #[.int .u32 Y, .bool true]) ∧ Below w.heap.size w w')
    (c3 : ∀ w : World, Calls Try.prog 7 #[.agg #[.int .i64 o, .int .i64 D, .int .i64 A2, .int .i64 B, .int .i64 M]] w fun e w' => e = .returned (.tuple #[.int .u32 X, .bool true]) ∧ Below w.heap.size w w')
    (c4 : ∀ w : World, Calls Try.prog 12 #[.int .i64 o] w fun e w' => e = .returned (.int .u8 74) ∧ Below w.heap.size w w') (w : World) :
    Calls Try.prog 4 #[.agg #[.int .i64 o, .int .i64 D, .int .i64 A, .int .i64 B, .int .i64 M], .agg #[.int .i64 o2, .int .i64 D2, .int .i64 A2, .int .i64 B2, .int .i64 M2]] w fun e w' => e = .returned (.bool true) ∧ Below w.heap.size w w' := by
  go_enter Try.func4, Try.ntmps4
  go_wp2_with (first | (go_at_call 7; (with_reducible refine (c1 _).mono ?_); rintro e w' ⟨rfl, hbl⟩; obtain ⟨hcw, hfw, hsw⟩ := below_ifs hbl; (try simp only [World.size_alloc, World.size_setCell, World.size_drew, size_drewN_] at hcw hfw hsw)) | (go_at_call 7; (with_reducible refine (c2 _).mono ?_); rintro e w' ⟨rfl, hbl⟩; obtain ⟨hcw, hfw, hsw⟩ := below_ifs hbl; (try simp only [World.size_alloc, World.size_setCell, World.size_drew, size_drewN_] at hcw hfw hsw)) | (go_at_call 7; (with_reducible refine (c3 _).mono ?_); rintro e w' ⟨rfl, hbl⟩; obtain ⟨hcw, hfw, hsw⟩ := below_ifs hbl; (try simp only [World.size_alloc, World.size_setCell, World.size_drew, size_drewN_] at hcw hfw hsw)) | (go_at_call 12; (with_reducible refine (c4 _).mono ?_); rintro e w' ⟨rfl, hbl⟩; obtain ⟨hcw, hfw, hsw⟩ := below_ifs hbl; (try simp only [World.size_alloc, World.size_setCell, World.size_drew, size_drewN_] at hcw hfw hsw)) | (go_at_call 11; (with_reducible refine (one_any _).mono ?_); rintro e w' ⟨rfl, hbl⟩; obtain ⟨hcw, hfw, hsw⟩ := below_ifs hbl; (try simp only [World.size_alloc, World.size_setCell, World.size_drew, size_drewN_] at hcw hfw hsw)))
  go_ret
  exact ⟨rfl, by (repeat (first | with_reducible exact Below.refl _ _ | with_reducible assumption | with_reducible refine below_drewN ?_ _ | with_reducible refine Below.drew ?_ | with_reducible refine below_alloc ?_ _ | (with_reducible refine Below.setCell ?_ (by first | (simp; done) | omega | (simp; omega)) _) | with_reducible refine belows ?_ (by assumption)))⟩

theorem xor_small {a b : BitVec 64} (ha : fitsF a 5 false = true) (hb : fitsF b 5 false = true) : (a ^^^ b).toNat < 32 := by
  rw [BitVec.toNat_xor]
  exact Nat.xor_lt_two_pow (n := 5) (fits5_lt ha) (fits5_lt hb)
set_option maxHeartbeats 8000000 in
set_option maxRecDepth 100000 in
theorem walk (o : Int) (d a b m : BitVec 64) (o2 : Int) (d2 a2 b2 m2 : BitVec 64) (w : World) :
    Calls Try.prog 4 #[.agg #[.int .i64 o, .int .i64 (S d), .int .i64 (S a), .int .i64 (S b), .int .i64 (S m)], .agg #[.int .i64 o2, .int .i64 (S d2), .int .i64 (S a2), .int .i64 (S b2), .int .i64 (S m2)]] w fun e w' => e = .returned (.bool true) ∧ Below w.heap.size w w' := by
  have enc_ex : ∀ d a : BitVec 64, ∃ (X : Int) (b' : Bool), (∀ w : World, Calls Try.prog 7 #[.agg #[.int .i64 o, .int .i64 (S d), .int .i64 (S a), .int .i64 (S b), .int .i64 (S m)]] w fun e w' => e = .returned (.tuple #[.int .u32 X, .bool b']) ∧ Below w.heap.size w w') ∧ b' = (encF ⟨o, d, a, b, m⟩).isSome := fun d a => by
    cases h : encF ⟨o, d, a, b, m⟩ with
    | none => exact ⟨0, false, enc_no h, rfl⟩
    | some y => exact ⟨U y, true, enc_yes h (by obtain ⟨k, hk, e, he⟩ := encF_some h; exact (enc_back hk he).1), rfl⟩
  cases hall : ((encF ⟨o, d, a, b, m⟩).isSome && (encF ⟨o, d2, a, b, m⟩).isSome && (encF ⟨o, d, a2, b, m⟩).isSome)
  · obtain ⟨X, bx, c1, e1⟩ := enc_ex d a
    obtain ⟨Y, bY, c2, e2⟩ := enc_ex d2 a
    obtain ⟨Z, bz, c3, e3⟩ := enc_ex d a2
    exact core_no o _ _ _ _ o2 _ _ _ _ X Y Z bx bY bz (by rw [e1, e2, e3]; exact hall) c1 c2 c3 w
  · simp only [Bool.and_eq_true] at hall
    obtain ⟨⟨hx, hy⟩, hz⟩ := hall
    obtain ⟨x, hx⟩ := Option.isSome_iff_exists.1 hx
    obtain ⟨y, hy⟩ := Option.isSome_iff_exists.1 hy
    obtain ⟨z, hz⟩ := Option.isSome_iff_exists.1 hz
    obtain ⟨k, hk, hop, gx⟩ := encF_some hx
    have hop' : o = (k : Int) + 1 := hop
    have gy : encW (rowAt k) ⟨o, d2, a, b, m⟩ = some y := by rw [← encF_at (i := ⟨o, d2, a, b, m⟩) hk hop']; exact hy
    have gz : encW (rowAt k) ⟨o, d, a2, b, m⟩ = some z := by rw [← encF_at (i := ⟨o, d, a2, b, m⟩) hk hop']; exact hz
    have lx := (enc_back hk gx).1
    have ly := (enc_back hk gy).1
    have lz := (enc_back hk gz).1
    have c1 := enc_yes hx lx
    have c2 := enc_yes hy ly
    have c3 := enc_yes hz lz
    have c4 := fun w => (shape_any o w).mono (R' := fun e w' => e = .returned (.int .u8 ((rowAt k).sh : Int)) ∧ Below w.heap.size w w') fun _ _ x => ⟨by rw [x.1, hop', (name_in hk).2], x.2⟩
    obtain ⟨ox, wx⟩ := enc_some gx
    obtain ⟨oy, wy⟩ := enc_some gy
    obtain ⟨oz, wz⟩ := enc_some gz
    obtain ⟨-, dx, ax, -⟩ := okE_parts ox
    obtain ⟨-, dy, -, -⟩ := okE_parts oy
    obtain ⟨-, -, az, -⟩ := okE_parts oz
    have hs := rowAt_sh k hk
    have tD : hasD (rowAt k).sh = true → (bits .xor .u32 (U x) (U y) != bits .and .u32 (bits .xor .i64 (S d) (S d2) % 4294967296 * 128 % 4294967296) 3968) = false := fun h =>
      f_D x y d d2 lx ly (xor_small (dx h) (dy h)) (by rw [wx, wy]; exact (xor_d (rowAt k) ⟨o, d, a, b, m⟩ d2 hs h).trans (one_shl 7 (d ^^^ d2) (.inl rfl) (xor_small (dx h) (dy h))))
    have tA : has1 (rowAt k).sh = true → (bits .xor .u32 (U x) (U z) == bits .xor .i64 (S a) (S a2) % 4294967296 * 32768 % 4294967296) = true := fun h =>
      f_A x z a a2 lx lz (xor_small (ax h) (az h)) (by rw [wx, wz]; exact (xor_1 (rowAt k) ⟨o, d, a, b, m⟩ a2 hs h).trans (one_shl 15 (a ^^^ a2) (.inr rfl) (xor_small (ax h) (az h))))
    have eY : hasD (rowAt k).sh = false → y = x := fun h => by rw [wx, wy]; exact congrArg (fun l => putsF l 0#64) (flds_d (rowAt k) ⟨o, d, a, b, m⟩ d2 h)
    have eZ : has1 (rowAt k).sh = false → z = x := fun h => by rw [wx, wz]; exact congrArg (fun l => putsF l 0#64) (flds_1 (rowAt k) ⟨o, d, a, b, m⟩ a2 h)
    clear wx wy wz ox oy oz gx gy gz hx hy hz lx ly lz
    generalize (rowAt k).sh = s at hs tD tA eY eZ c4
    simp only [shapes, List.mem_cons, List.not_mem_nil, or_false] at hs
    rcases hs with rfl | rfl | rfl | rfl | rfl | rfl | rfl | rfl | rfl | rfl
    · exact core_R o _ _ _ _ o2 _ _ _ _ _ _ _ (tD rfl) (tA rfl) c1 c2 c3 c4 w
    · exact core_G o _ _ _ _ o2 _ _ _ _ _ _ _ (tD rfl) (tA rfl) c1 c2 c3 c4 w
    · obtain rfl := eY rfl; obtain rfl := eZ rfl; exact core_N o _ _ _ _ o2 _ _ _ _ _ c1 c2 c3 c4 w
    · exact core_I o _ _ _ _ o2 _ _ _ _ _ _ _ (tD rfl) (tA rfl) c1 c2 c3 c4 w
    · exact core_C o _ _ _ _ o2 _ _ _ _ _ _ _ (tD rfl) (tA rfl) c1 c2 c3 c4 w
    · exact core_H o _ _ _ _ o2 _ _ _ _ _ _ _ (tD rfl) (tA rfl) c1 c2 c3 c4 w
    · obtain rfl := eY rfl; exact core_S o _ _ _ _ o2 _ _ _ _ _ _ (tA rfl) c1 c2 c3 c4 w
    · obtain rfl := eY rfl; exact core_B o _ _ _ _ o2 _ _ _ _ _ _ (tA rfl) c1 c2 c3 c4 w
    · obtain rfl := eZ rfl; exact core_U o _ _ _ _ o2 _ _ _ _ _ _ (tD rfl) c1 c2 c3 c4 w
    · obtain rfl := eZ rfl; exact core_J o _ _ _ _ o2 _ _ _ _ _ _ (tD rfl) c1 c2 c3 c4 w

set_option maxRecDepth 100000 in
theorem lifted (os : Os) (started : os.Started) (H : Type) (enc : TypeId × Value → H) :
    ReturnsInHanded {} Try.checked os 4 .any (Rows.instFieldsSpec.pre6 enc Try.prog Try.f4 Rows.instFieldsRow.domain false) (Rows.instFieldsSpec.post enc Try.prog Try.f4 false true false false) := by
  refine law_lift (C := Try.checked) (tb := 4) started (by kernel_rfl) (by kernel_rfl) Try.func4 rfl rfl Try.underlying4 (by kernel_rfl) (by kernel_rfl)
    (fun ds h => by match ds, h with | [_, _], _ => rfl)
    (ChangeSpec.witness6 (enc := enc) (C := Try.checked) false ⟨#[], #[.agg #[.int .i64 0, .int .i64 0, .int .i64 0, .int .i64 0, .int .i64 0], .agg #[.int .i64 0, .int .i64 0, .int .i64 0, .int .i64 0, .int .i64 0]], []⟩ 8 (by kernel_rfl) (by kernel_rfl) (by kernel_rfl) (by kernel_rfl)) ?_
  intro W base args ds ps hval hA hlt hfz hsz
  rw [Try.params4] at hA hval hsz
  obtain ⟨v0, v1, d0, d1, p0, p1, rfl, rfl, rfl, h0, h1⟩ := trodAll_two hA
  obtain ⟨o0, -, n0a, wa0, n0b, wb0, n0c, wc0, n0d, wd0, rfl⟩ := open_leaves (d := 5) (ls := [.int .i64, .int .i64, .int .i64, .int .i64, .int .i64]) (by kernel_rfl) (by kernel_rfl) (hval 0 _ v0 rfl rfl) h0
  obtain ⟨d0', rfl⟩ := exists_S n0a ((wf_i64 _).1 wa0)
  obtain ⟨a0', rfl⟩ := exists_S n0b ((wf_i64 _).1 wb0)
  obtain ⟨b0', rfl⟩ := exists_S n0c ((wf_i64 _).1 wc0)
  obtain ⟨m0', rfl⟩ := exists_S n0d ((wf_i64 _).1 wd0)
  obtain ⟨o1, -, n1a, wa1, n1b, wb1, n1c, wc1, n1d, wd1, rfl⟩ := open_leaves (d := 5) (ls := [.int .i64, .int .i64, .int .i64, .int .i64, .int .i64]) (by kernel_rfl) (by kernel_rfl) (hval 1 _ v1 rfl rfl) h1
  obtain ⟨d1', rfl⟩ := exists_S n1a ((wf_i64 _).1 wa1)
  obtain ⟨a1', rfl⟩ := exists_S n1b ((wf_i64 _).1 wb1)
  obtain ⟨b1', rfl⟩ := exists_S n1c ((wf_i64 _).1 wc1)
  obtain ⟨m1', rfl⟩ := exists_S n1d ((wf_i64 _).1 wd1)
  exact walk o0 d0' a0' b0' m0' o1 d1' a1' b1' m1' W

theorem over : Rows.instFieldsRow.holds Try.pinned (OpenSpec.ofChange Rows.instFieldsSpec) :=
  OpenClaim.holds_of_wide 4 Try.f4 rfl rfl rfl rfl rfl rfl rfl ⟨rfl, rfl, rfl, rfl, rfl⟩ rfl rfl rfl rfl rfl (by kernel_rfl) Try.func4 (by kernel_rfl)
    (of_decide_eq_true (by kernel_rfl)) (by unfold Func.isWrapper; first | (rw [if_pos (by decide +kernel)]; kernel_rfl) | (rw [if_neg (by decide +kernel)]; exact ⟨rfl, rfl⟩))
    (fun os started H enc _ => lifted os started H enc)

theorem proved : Rows.InstFieldsSaid := over
end Go.Proofs.Ytokfokgbbpjgdaa.Fields
