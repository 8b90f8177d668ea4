
/-
  PermNeeds: what loads a capability needs what loads a number, and what stores one what stores a number; and a text of some letters is parsed whatever their order. Every input.
-/
import Derived.Test.YtpadahmchhaifaaLaw
import Derived.Test.YtpadahmchhaifaaPermW
import Derived.Test.YtpadahmchhaifaaPermP
namespace Go.Proofs.Ytpadahmchhaifaa.NeedsL
open Go Go.RowKit Go.ChangeShapes Go.WideShapes Go.ChangeAt
set_option linter.unusedVariables false
set_option linter.unusedSimpArgs false

set_option maxHeartbeats 8000000 in
set_option maxRecDepth 100000 in
theorem core_no (k u : Int) (p n : BitVec 64) (s : ByteArray) (hn : (n == 0#64) = false) (hs : s.toList = []) (hp : (p &&& 511#64 == 0#64) = true) (n1 : ∀ w : World, Calls Try.prog 11 #[.int .i64 1] w fun r w' => r = .returned (.int .u64 1) ∧ w = w') (n3 : ∀ w : World, Calls Try.prog 11 #[.int .i64 3] w fun r w' => r = .returned (.int .u64 9) ∧ w = w') (n2 : ∀ w : World, Calls Try.prog 11 #[.int .i64 2] w fun r w' => r = .returned (.int .u64 2) ∧ w = w') (n4 : ∀ w : World, Calls Try.prog 11 #[.int .i64 4] w fun r w' => r = .returned (.int .u64 18) ∧ w = w') (nk : ∀ w : World, Calls Try.prog 11 #[.int .i64 k] w fun r w' => r = .returned (.int .u64 (U n)) ∧ w = w') (w1 : ∀ w : World, Calls Try.prog 10 #[.int .u64 1, .int .u64 9] w fun r w' => r = .returned (.bool true) ∧ w = w') (w2 : ∀ w : World, Calls Try.prog 10 #[.int .u64 2, .int .u64 18] w fun r w' => r = .returned (.bool true) ∧ w = w') (wk : ∀ w : World, Calls Try.prog 10 #[.int .u64 (U n), .int .u64 511] w fun r w' => r = .returned (.bool true) ∧ w = w') (c1 : ∀ w : World, Calls Try.prog 9 #[.int .u64 (U (p &&& 511#64))] w fun r w' => r = .returned (.string s) ∧ Below w.heap.size w w') (w : World) : Calls Try.prog 6 #[.int .i64 k, .int .u64 (U p), .int .i64 u] w fun r w' => r = .returned (.bool true) ∧ Below w.heap.size w w' := by
  go_enter Try.func6, Try.ntmps6
  go_wp2_with (first | (go_at_call 11; (with_reducible refine (n1 _).mono ?_); rintro e w' ⟨rfl, rfl⟩) | (go_at_call 11; (with_reducible refine (n2 _).mono ?_); rintro e w' ⟨rfl, rfl⟩) | (go_at_call 11; (with_reducible refine (n3 _).mono ?_); rintro e w' ⟨rfl, rfl⟩) | (go_at_call 11; (with_reducible refine (n4 _).mono ?_); rintro e w' ⟨rfl, rfl⟩) | (go_at_call 11; (with_reducible refine (nk _).mono ?_); rintro e w' ⟨rfl, rfl⟩) | (go_at_call 10; (with_reducible refine (w1 _).mono ?_); rintro e w' ⟨rfl, rfl⟩) | (go_at_call 10; (with_reducible refine (w2 _).mono ?_); rintro e w' ⟨rfl, rfl⟩) | (go_at_call 10; (with_reducible refine (wk _).mono ?_); rintro e w' ⟨rfl, rfl⟩) | (go_at_call 9; (with_reducible refine (c1 _).mono ?_); rintro e w' ⟨rfl, hbl⟩; obtain ⟨hcw, hfw, hsw⟩ := below_ifs hbl; (try simp only [World.size_alloc, World.size_setCell, World.size_drew, size_drewN_] at hcw hfw hsw)))
  go_ret
  exact ⟨ret_bool (by simp [hp]), by (repeat (first | with_reducible exact Below.refl _ _ | with_reducible assumption | with_reducible refine below_drewN ?_ _ | with_reducible refine Below.drew ?_ | with_reducible refine below_alloc ?_ _ | (with_reducible refine Below.setCell ?_ (by first | (simp; done) | omega | (simp; omega)) _) | with_reducible refine belows ?_ (by assumption)))⟩
set_option maxHeartbeats 8000000 in
set_option maxRecDepth 100000 in
theorem core_yes (k u : Int) (p n x : BitVec 64) (s a b c d e : ByteArray) (K : Nat) (hn : (n == 0#64) = false) (hs : (s.toList == []) = false) (h0 : 0 < (s.size : Int)) (h9 : (s.size : Int) ≤ 9) (hK : (u.tmod (s.size : Int) + (s.size : Int)) % (s.size : Int) = (K : Int)) (hK9 : (K : Int) < 9) (hu : -9223372036854775808 ≤ u ∧ u ≤ 9223372036854775807) (n1 : ∀ w : World, Calls Try.prog 11 #[.int .i64 1] w fun r w' => r = .returned (.int .u64 1) ∧ w = w') (n3 : ∀ w : World, Calls Try.prog 11 #[.int .i64 3] w fun r w' => r = .returned (.int .u64 9) ∧ w = w') (n2 : ∀ w : World, Calls Try.prog 11 #[.int .i64 2] w fun r w' => r = .returned (.int .u64 2) ∧ w = w') (n4 : ∀ w : World, Calls Try.prog 11 #[.int .i64 4] w fun r w' => r = .returned (.int .u64 18) ∧ w = w') (nk : ∀ w : World, Calls Try.prog 11 #[.int .i64 k] w fun r w' => r = .returned (.int .u64 (U n)) ∧ w = w') (w1 : ∀ w : World, Calls Try.prog 10 #[.int .u64 1, .int .u64 9] w fun r w' => r = .returned (.bool true) ∧ w = w') (w2 : ∀ w : World, Calls Try.prog 10 #[.int .u64 2, .int .u64 18] w fun r w' => r = .returned (.bool true) ∧ w = w') (wk : ∀ w : World, Calls Try.prog 10 #[.int .u64 (U n), .int .u64 511] w fun r w' => r = .returned (.bool true) ∧ w = w') (c1 : ∀ w : World, Calls Try.prog 9 #[.int .u64 (U (p &&& 511#64))] w fun r w' => r = .returned (.string s) ∧ Below w.heap.size w w') (f1 : ∀ w : World, (Instr.slice 9 (.string s) (some (.int .i64 (K : Int))) none none).run Try.prog w = .ok (.string a) w) (f2 : ∀ w : World, (Instr.slice 9 (.string s) none (some (.int .i64 (K : Int))) none).run Try.prog w = .ok (.string b) w) (f3 : ∀ w : World, (Op.stringOp .add a b).run Try.prog w = .ok (.string c) w) (f4 : ∀ w : World, (Instr.slice 9 (.string s) (some (.int .i64 (K : Int))) (some (.int .i64 ((K : Int) + 1))) none).run Try.prog w = .ok (.string d) w) (f5 : ∀ w : World, (Op.stringOp .add s d).run Try.prog w = .ok (.string e) w) (c2 : ∀ w : World, Calls Try.prog 7 #[.string c] w fun r w' => r = .returned (.tuple #[.int .u64 (U (p &&& 511#64)), .bool true]) ∧ Below w.heap.size w w') (c3 : ∀ w : World, Calls Try.prog 7 #[.string e] w fun r w' => r = .returned (.tuple #[.int .u64 (U x), .bool false]) ∧ Below w.heap.size w w') (w : World) : Calls Try.prog 6 #[.int .i64 k, .int .u64 (U p), .int .i64 u] w fun r w' => r = .returned (.bool true) ∧ Below w.heap.size w w' := by
  have hm1 := Int.tmod_lt_of_pos u h0
  have hm2 := Int.lt_tmod_of_pos u h0
  go_enter Try.func6, Try.ntmps6
  go_wp2_with (first | (go_at_call 11; (with_reducible refine (n1 _).mono ?_); rintro e w' ⟨rfl, rfl⟩) | (go_at_call 11; (with_reducible refine (n2 _).mono ?_); rintro e w' ⟨rfl, rfl⟩) | (go_at_call 11; (with_reducible refine (n3 _).mono ?_); rintro e w' ⟨rfl, rfl⟩) | (go_at_call 11; (with_reducible refine (n4 _).mono ?_); rintro e w' ⟨rfl, rfl⟩) | (go_at_call 11; (with_reducible refine (nk _).mono ?_); rintro e w' ⟨rfl, rfl⟩) | (go_at_call 10; (with_reducible refine (w1 _).mono ?_); rintro e w' ⟨rfl, rfl⟩) | (go_at_call 10; (with_reducible refine (w2 _).mono ?_); rintro e w' ⟨rfl, rfl⟩) | (go_at_call 10; (with_reducible refine (wk _).mono ?_); rintro e w' ⟨rfl, rfl⟩) | (go_at_call 9; (with_reducible refine (c1 _).mono ?_); rintro e w' ⟨rfl, hbl⟩; obtain ⟨hcw, hfw, hsw⟩ := below_ifs hbl; (try simp only [World.size_alloc, World.size_setCell, World.size_drew, size_drewN_] at hcw hfw hsw)))
  refine wp_region_below (by kernel_rfl) (by kernel_rfl) (fun hcr hfr => ?_)
  (try simp only [World.size_alloc, World.size_setCell, World.size_drew, size_drewN_] at hcr hfr)
  repeat (go_big_quiet_step ((first | (go_at_call 7; first | with_reducible exact Calls.regrown_of (c2 _) | with_reducible exact regrown_k (c2 _) | with_reducible exact regrown_1 (c2 _) | with_reducible exact regrown_a (c2 _)))))
  refine wpQuiet_nil ?_
  intro w' hbl
  clear hcr hfr
  obtain ⟨hcw, hfw, hsw⟩ := below_ifs hbl; (try simp only [World.size_alloc, World.size_setCell, World.size_drew, size_drewN_] at hcw hfw hsw)
  go_wp2_with (first | (go_at_call 7; (with_reducible refine (c3 _).mono ?_); rintro e w' ⟨rfl, hbl⟩; obtain ⟨hcw, hfw, hsw⟩ := below_ifs hbl; (try simp only [World.size_alloc, World.size_setCell, World.size_drew, size_drewN_] at hcw hfw hsw)))
  go_ret
  exact ⟨ret_bool (by simp), by (repeat (first | with_reducible exact Below.refl _ _ | with_reducible assumption | with_reducible refine below_drewN ?_ _ | with_reducible refine Below.drew ?_ | with_reducible refine below_alloc ?_ _ | (with_reducible refine Below.setCell ?_ (by first | (simp; done) | omega | (simp; omega)) _) | with_reducible refine belows ?_ (by assumption)))⟩
theorem str_extract (l : List UInt8) (a b : Nat) : (strOf l).extract a b = strOf ((l.drop a).take (b - a)) := by
  unfold strOf
  show ByteArray.mk _ = ByteArray.mk _
  congr 1
  apply Array.ext'
  simp
theorem str_size (l : List UInt8) : (strOf l).size = l.length := by unfold strOf; simp [ByteArray.size]
theorem slice_from (s : ByteArray) (K : Nat) (h : K ≤ s.size) (w : World) : (Instr.slice 9 (.string s) (some (.int .i64 (K : Int))) none none).run Try.prog w = .ok (.string (s.extract K s.size)) w := by
  have h1 : (K : Int) ≤ (s.size : Int) := by omega
  simp [Instr.slice, Instr.sliceBounds, Instr.sliceBound, asIntOf, run_underlying Try.underlying9, h1, h]
theorem slice_to (s : ByteArray) (K : Nat) (h : K ≤ s.size) (w : World) : (Instr.slice 9 (.string s) none (some (.int .i64 (K : Int))) none).run Try.prog w = .ok (.string (s.extract 0 K)) w := by
  have h1 : (K : Int) ≤ (s.size : Int) := by omega
  simp [Instr.slice, Instr.sliceBounds, Instr.sliceBound, asIntOf, run_underlying Try.underlying9, h1, h]
theorem slice_one (s : ByteArray) (K : Nat) (h : K < s.size) (w : World) : (Instr.slice 9 (.string s) (some (.int .i64 (K : Int))) (some (.int .i64 ((K : Int) + 1))) none).run Try.prog w = .ok (.string (s.extract K (K + 1))) w := by
  rw [run_slice_string w _ _ .i64 .i64 _ _ Try.underlying9 (by omega) (by omega) (by omega)]
  rw [show ((K : Int) + 1).toNat = K + 1 by omega, show ((K : Int)).toNat = K by omega]
def turned (l : List UInt8) (K : Nat) : List UInt8 := l.drop K ++ l.take K
theorem all_turned : ∀ n : Fin 512, ∀ K : Fin 9, K.val < (lettersOf (BitVec.ofNat 64 n.val) 9).length → parseL (turned (lettersOf (BitVec.ofNat 64 n.val) 9) K.val) 0#64 = (BitVec.ofNat 64 n.val, true) ∧ (parseL (lettersOf (BitVec.ofNat 64 n.val) 9 ++ ((lettersOf (BitVec.ofNat 64 n.val) 9).drop K.val).take 1) 0#64).2 = false := by decide +kernel
theorem none_low : ∀ n : Fin 512, lettersOf (BitVec.ofNat 64 n.val) 9 = [] → (BitVec.ofNat 64 n.val == 0#64) = true := by decide +kernel
theorem turned_low (p : BitVec 64) (K : Nat) (h : K < (lettersOf (p &&& 511#64) 9).length) : parseL (turned (lettersOf (p &&& 511#64) 9) K) 0#64 = (p &&& 511#64, true) ∧ (parseL (lettersOf (p &&& 511#64) 9 ++ ((lettersOf (p &&& 511#64) 9).drop K).take 1) 0#64).2 = false := by
  have hl := lettersOf_len (p &&& 511#64) 9
  exact all_low (fun x => ∀ K : Fin 9, K.val < (lettersOf x 9).length → parseL (turned (lettersOf x 9) K.val) 0#64 = (x, true) ∧ (parseL (lettersOf x 9 ++ ((lettersOf x 9).drop K.val).take 1) 0#64).2 = false) all_turned p ⟨K, by omega⟩ h
theorem need_in (k : Int) : (needF k == 0#64) = false ∧ (needF k &&& ~~~ 511#64 == 0#64) = true := by
  unfold needF
  repeat' split
  all_goals decide
theorem walk (k u : Int) (p : BitVec 64) (hu : -9223372036854775808 ≤ u ∧ u ≤ 9223372036854775807) (w : World) : Calls Try.prog 6 #[.int .i64 k, .int .u64 (U p), .int .i64 u] w fun r w' => r = .returned (.bool true) ∧ Below w.heap.size w w' := by
  have ct := text_any (p &&& 511#64)
  rw [low_text] at ct
  obtain ⟨hn, hw⟩ := need_in k
  have wk := pwithin_any (needF k) 511#64
  rw [hw] at wk
  by_cases hl : lettersOf (p &&& 511#64) 9 = []
  · have hz := all_low (fun x => lettersOf x 9 = [] → (x == 0#64) = true) none_low p hl
    refine core_no k u p (needF k) _ hn ?_ hz (needs_any 1) (needs_any 3) (needs_any 2) (needs_any 4) (needs_any k) (pwithin_any 1#64 9#64) (pwithin_any 2#64 18#64) wk ct w
    rw [hl, ByteArray.toList_eq]; rfl
  · have hL := lettersOf_len (p &&& 511#64) 9
    have hpos : 0 < (lettersOf (p &&& 511#64) 9).length := List.length_pos_iff.2 hl
    generalize hgl : lettersOf (p &&& 511#64) 9 = l at ct hl hL hpos
    obtain ⟨K, hK, hKl⟩ : ∃ K : Nat, (u.tmod (l.length : Int) + (l.length : Int)) % (l.length : Int) = (K : Int) ∧ K < l.length := by
      have h1 := Int.emod_nonneg (u.tmod (l.length : Int) + (l.length : Int)) (show (l.length : Int) ≠ 0 by omega)
      have h2 := Int.emod_lt_of_pos (u.tmod (l.length : Int) + (l.length : Int)) (show 0 < (l.length : Int) by omega)
      exact ⟨((u.tmod (l.length : Int) + (l.length : Int)) % (l.length : Int)).toNat, by omega, by omega⟩
    have hT := turned_low p K (by rw [hgl]; exact hKl)
    rw [hgl] at hT
    have hsz := str_size l
    have f1 := slice_from (strOf l) K (by omega)
    have f2 := slice_to (strOf l) K (by omega)
    have f4 := slice_one (strOf l) K (by omega)
    rw [str_extract] at f1 f2 f4
    have f3 := str_add ((l.drop K).take ((strOf l).size - K)) ((l.drop 0).take (K - 0)) (by simp; omega)
    have f5 := str_add l ((l.drop K).take (K + 1 - K)) (by simp; omega)
    have c2 := parse_any (strOf ((l.drop K).take ((strOf l).size - K) ++ (l.drop 0).take (K - 0)))
    have c3 := parse_any (strOf (l ++ (l.drop K).take (K + 1 - K)))
    rw [parseF_str] at c2 c3
    have e1 : (l.drop K).take ((strOf l).size - K) ++ (l.drop 0).take (K - 0) = turned l K := by
      unfold turned
      rw [hsz, List.take_of_length_le (by simp), List.drop_zero, Nat.sub_zero]
    have e2 : K + 1 - K = 1 := by omega
    rw [e1, hT.1] at c2
    rw [e2, hT.2] at c3
    rw [e1] at f3
    rw [e2] at f4 f5
    refine core_yes k u p (needF k) _ (strOf l) _ _ _ _ _ K hn ?_ (by omega) (by omega) (by rw [hsz]; exact hK) (by omega) hu (needs_any 1) (needs_any 3) (needs_any 2) (needs_any 4) (needs_any k) (pwithin_any 1#64 9#64) (pwithin_any 2#64 18#64) wk ct f1 f2 f3 f4 f5 c2 c3 w
    rw [beq_eq_false_iff_ne, ByteArray.toList_eq]
    exact hl

set_option maxRecDepth 100000 in
theorem lifted (os : Os) (started : os.Started) (H : Type) (enc : TypeId × Value → H) :
    ReturnsInHanded {} Try.checked os 6 .any (Rows.permNeedsSpec.pre6 enc Try.prog Try.f6 Rows.permNeedsRow.domain false) (Rows.permNeedsSpec.post enc Try.prog Try.f6 false true false false) := by
  refine law_lift (C := Try.checked) (tb := 4) started (by kernel_rfl) (by kernel_rfl) Try.func6 rfl rfl Try.underlying4 (by kernel_rfl) (by kernel_rfl)
    (fun ds h => by match ds, h with | [_, _, _], _ => rfl)
    (ChangeSpec.witness6 (enc := enc) (C := Try.checked) false ⟨#[], #[.int .i64 0, .int .u64 0, .int .i64 0], []⟩ 8 (by kernel_rfl) (by kernel_rfl) (by kernel_rfl) (by kernel_rfl)) ?_
  intro W base args ds ps hval hA hlt hfz hsz
  rw [Try.params6] at hA hval hsz
  obtain ⟨v0, v1, v2, d0, d1, d2, p0, p1, p2, rfl, rfl, rfl, h0, h1, h2⟩ := trodAll_three hA
  obtain ⟨k, rfl, rfl, rfl, w0⟩ := open_int Try.underlying3 (hval 0 _ v0 rfl rfl) h0
  obtain ⟨a1, rfl, rfl, rfl, w1⟩ := open_int Try.underlying22 (hval 1 _ v1 rfl rfl) h1
  obtain ⟨u, rfl, rfl, rfl, w2⟩ := open_int Try.underlying3 (hval 2 _ v2 rfl rfl) h2
  obtain ⟨p, rfl⟩ := exists_U a1 w1
  exact walk k u p ((wf_i64 u).1 w2) W

theorem over : Rows.permNeedsRow.holds Try.pinned (OpenSpec.ofChange Rows.permNeedsSpec) :=
  OpenClaim.holds_of_wide 6 Try.f6 rfl rfl rfl rfl rfl rfl rfl ⟨rfl, rfl, rfl, rfl, rfl⟩ rfl rfl rfl rfl rfl (by kernel_rfl) Try.func6 (by kernel_rfl)
    (of_decide_eq_true (by kernel_rfl)) (by unfold Func.isWrapper; first | (rw [if_pos (by decide +kernel)]; kernel_rfl) | (rw [if_neg (by decide +kernel)]; exact ⟨rfl, rfl⟩))
    (fun os started H enc _ => lifted os started H enc)

theorem proved : Rows.PermNeedsSaid := over
end Go.Proofs.Ytpadahmchhaifaa.NeedsL
