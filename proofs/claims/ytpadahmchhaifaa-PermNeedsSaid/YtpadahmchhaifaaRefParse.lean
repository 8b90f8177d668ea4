
/-
  What letters are parsed as, by the document (mintmarkref04.Parse).
-/
import Derived.Test.YtpadahmchhaifaaPerm
namespace Go.Proofs.Ytpadahmchhaifaa
open Go Go.RowKit
set_option linter.unusedVariables false
set_option linter.unusedSimpArgs false

theorem letK_lit : ∀ (j : Nat) (hj : j < ({ data := #[114, 119, 120, 82, 87, 115, 117, 83, 103] } : ByteArray).size), letK (({ data := #[114, 119, 120, 82, 87, 115, 117, 83, 103] } : ByteArray)[j]'hj).toNat = j := by
  have h : ∀ j : Fin 9, letK (({ data := #[114, 119, 120, 82, 87, 115, 117, 83, 103] } : ByteArray)[j.val]'(j.isLt)).toNat = j.val := by decide
  intro j hj
  exact h ⟨j, hj⟩
theorem lit_ne (c j : Nat) (hj : j < ({ data := #[114, 119, 120, 82, 87, 115, 117, 83, 103] } : ByteArray).size) (h : j < letK c) : (((({ data := #[114, 119, 120, 82, 87, 115, 117, 83, 103] } : ByteArray)[j]'hj).toNat : Int) != (c : Int)) = true := by
  rw [bne_iff_ne]
  intro e
  have e' : (({ data := #[114, 119, 120, 82, 87, 115, 117, 83, 103] } : ByteArray)[j]'hj).toNat = c := by omega
  have := letK_lit j hj
  rw [e'] at this
  omega
theorem lit_eq (c k : Nat) (hk : k < ({ data := #[114, 119, 120, 82, 87, 115, 117, 83, 103] } : ByteArray).size) (h : letK c = k) : (((({ data := #[114, 119, 120, 82, 87, 115, 117, 83, 103] } : ByteArray)[k]'hk).toNat : Int) != (c : Int)) = false := by
  have hm := letK_some h hk
  have h0 : ∀ j : Fin 9, ∀ x : Nat, (x, j.val) ∈ [(114, 0), (119, 1), (120, 2), (82, 3), (87, 4), (115, 5), (117, 6), (83, 7), (103, 8)] → (({ data := #[114, 119, 120, 82, 87, 115, 117, 83, 103] } : ByteArray)[j.val]'(j.isLt)).toNat = x := by
    intro j x hx
    simp only [List.mem_cons, Prod.mk.injEq, List.not_mem_nil, or_false] at hx
    rcases hx with ⟨e1, e2⟩ | ⟨e1, e2⟩ | ⟨e1, e2⟩ | ⟨e1, e2⟩ | ⟨e1, e2⟩ | ⟨e1, e2⟩ | ⟨e1, e2⟩ | ⟨e1, e2⟩ | ⟨e1, e2⟩ <;> (obtain ⟨j, hj⟩ := j; subst e1; subst e2; rfl)
  have e := h0 ⟨k, hk⟩ c hm
  rw [bne_eq_false_iff_eq]
  exact congrArg (fun n : Nat => (n : Int)) e
theorem index_at (s : ByteArray) (i : Nat) (h : i < s.size) (w : World) : (Instr.index 9 (.string s) (.int .i64 (i : Int))).run Try.prog w = .ok (.int .u8 ((s[i]'h).toNat : Int)) w := by
  rw [run_index_string w _ s .i64 (i : Int) Try.underlying9, dif_pos (by omega)]
  rfl
theorem add_bit (p : BitVec 64) (k : Nat) (h : p.getLsbD k = false) : p + 1#64 <<< k = p ||| 1#64 <<< k := by
  apply BitVec.add_eq_or_of_and_eq_zero
  apply ext64
  intro j hj
  rw [BitVec.getLsbD_and, BitVec.getLsbD_shiftLeft, BitVec.getLsbD_zero]
  by_cases c : j = k
  · subst c; rw [h]; rfl
  · have e : (1#64).getLsbD (j - k) = false ∨ j < k := by
      by_cases d : j < k
      · right; exact d
      · left; rw [BitVec.getLsbD_one]; simp; omega
    rcases e with e | e
    · rw [e]; simp
    · simp [e]
set_option maxHeartbeats 8000000 in
set_option maxRecDepth 100000 in
theorem rparse_any (s : ByteArray) (hs : s.size ≤ maxLen) (w : World) : Calls Try.prog 8 #[.string s] w fun r w' => r = .returned (.tuple #[.int .u64 (U (parseF s).1), .bool (parseF s).2]) ∧ Below w.heap.size w w' := by
  unfold maxLen at hs
  go_enter Try.func8, Try.ntmps8
  go_wp2_with fail
  go_loopw [4, 5] (fun e x wr => ∃ (i : Nat) (p : BitVec 64), e = .int .u64 (U p) ∧ x = .int .i64 (i : Int) ∧ i ≤ s.size ∧ Below w.heap.size w wr ∧ Hid (parseL (s.data.toList.drop i) p = parseF s)) (fun _ x _ => s.size - (intOf x).toNat)
  case atStart => exact ⟨0, 0#64, rfl, rfl, by omega, Below.refl _ _, Lib.hid rfl⟩
  case round =>
    obtain ⟨i, p, rfl, rfl, hi, hbw, HP⟩ := hrel
    by_cases hp : i < s.size
    · have hq := HP.out
      rw [drop_at s i hp, parseL] at hq
      by_cases h9 : letK (s[i]'hp).toNat = 9
      · rw [if_pos h9] at hq
        go_wp2_with fail
        go_loopw [6] (fun e wz => ∃ j : Nat, e = .int .i64 (j : Int) ∧ j ≤ 9 ∧ Below w.heap.size w wz) (fun e _ => 9 - (intOf e).toNat)
        case atStart => exact ⟨0, rfl, by omega, hbw⟩
        case round =>
          obtain ⟨j, rfl, hj, hbz⟩ := hrel
          by_cases c : j < 9
          · have g := lit_ne (s[i]'hp).toNat j c (by omega)
            have hd : decide ((j : Int) < 9) = true := decide_eq_true (by omega)
            have hx := index_at ({ data := #[114, 119, 120, 82, 87, 115, 117, 83, 103] } : ByteArray) j (show j < 9 by omega)
            have hy := index_at s i hp
            go_wp2_with fail
            refine wp_region_below (by kernel_rfl) (by kernel_rfl) (fun hcr hfr => ?_)
            (try simp only [World.size_alloc, World.size_setCell, World.size_drew, size_drewN_] at hcr hfr)
            repeat (go_big_quiet_step (fail))
            refine wpQuiet_nil ?_
            intro w' hbl
            clear hcr hfr
            obtain ⟨hcw, hfw, hsw⟩ := below_ifs hbl; (try simp only [World.size_alloc, World.size_setCell, World.size_drew, size_drewN_] at hcw hfw hsw)
            go_wp2_with fail
            go_roundw
            case rel => exact ⟨j + 1, by go_num, by omega, by (repeat (first | with_reducible exact Below.refl _ _ | with_reducible assumption | with_reducible refine below_drewN ?_ _ | with_reducible refine Below.drew ?_ | with_reducible refine below_alloc ?_ _ | (with_reducible refine Below.setCell ?_ (by first | (simp; done) | omega | (simp; omega)) _) | with_reducible refine belows ?_ (by assumption)))⟩
            case measure => (simp [intOf]; omega)
          · obtain rfl : j = 9 := by omega
            go_wp2_with fail
            refine wp_region_below (by kernel_rfl) (by kernel_rfl) (fun hcr hfr => ?_)
            (try simp only [World.size_alloc, World.size_setCell, World.size_drew, size_drewN_] at hcr hfr)
            repeat (go_big_quiet_step (fail))
            refine wpQuiet_nil ?_
            intro w' hbl
            clear hcr hfr
            obtain ⟨hcw, hfw, hsw⟩ := below_ifs hbl; (try simp only [World.size_alloc, World.size_setCell, World.size_drew, size_drewN_] at hcw hfw hsw)
            go_wp2_with fail
            go_ret2
            exact ⟨by rw [← hq]; rfl, by (repeat (first | with_reducible exact Below.refl _ _ | with_reducible assumption | with_reducible refine below_drewN ?_ _ | with_reducible refine Below.drew ?_ | with_reducible refine below_alloc ?_ _ | (with_reducible refine Below.setCell ?_ (by first | (simp; done) | omega | (simp; omega)) _) | with_reducible refine belows ?_ (by assumption)))⟩
      · rw [if_neg h9] at hq
        generalize hk : letK (s[i]'hp).toNat = k at hq h9
        have hk9 : k < 9 := by have := letK_lt hk; omega
        have ge := lit_eq (s[i]'hp).toNat k hk9 hk
        have hkk : ((k : Int) == 9) = false := by rw [beq_eq_false_iff_ne]; omega
        have hwr : IntKind.u64.wrap (k : Int) = (k : Int) := wrap_small _ (by omega) (by omega)
        have gb := bit_test p k
        have ga := add_bit p k
        have hk0 : (0 : Int) ≤ (k : Int) := by omega
        go_wp2_with fail
        go_loopw [6] (fun e wz => ∃ j : Nat, e = .int .i64 (j : Int) ∧ j ≤ k ∧ Below w.heap.size w wz) (fun e _ => 9 - (intOf e).toNat)
        case atStart => exact ⟨0, rfl, by omega, hbw⟩
        case round =>
          obtain ⟨j, rfl, hj, hbz⟩ := hrel
          by_cases c : j < k
          · have c9 : j < 9 := by omega
            have g := lit_ne (s[i]'hp).toNat j c9 (by omega)
            have hd : decide ((j : Int) < 9) = true := decide_eq_true (by omega)
            have hx := index_at ({ data := #[114, 119, 120, 82, 87, 115, 117, 83, 103] } : ByteArray) j (show j < 9 by omega)
            have hy := index_at s i hp
            clear ge
            go_wp2_with fail
            refine wp_region_below (by kernel_rfl) (by kernel_rfl) (fun hcr hfr => ?_)
            (try simp only [World.size_alloc, World.size_setCell, World.size_drew, size_drewN_] at hcr hfr)
            repeat (go_big_quiet_step (fail))
            refine wpQuiet_nil ?_
            intro w' hbl
            clear hcr hfr
            obtain ⟨hcw, hfw, hsw⟩ := below_ifs hbl; (try simp only [World.size_alloc, World.size_setCell, World.size_drew, size_drewN_] at hcw hfw hsw)
            go_wp2_with fail
            go_roundw
            case rel => exact ⟨j + 1, by go_num, by omega, by (repeat (first | with_reducible exact Below.refl _ _ | with_reducible assumption | with_reducible refine below_drewN ?_ _ | with_reducible refine Below.drew ?_ | with_reducible refine below_alloc ?_ _ | (with_reducible refine Below.setCell ?_ (by first | (simp; done) | omega | (simp; omega)) _) | with_reducible refine belows ?_ (by assumption)))⟩
            case measure => (simp [intOf]; omega)
          · obtain rfl : j = k := by omega
            have hd : decide ((j : Int) < 9) = true := decide_eq_true (by omega)
            have hx := index_at ({ data := #[114, 119, 120, 82, 87, 115, 117, 83, 103] } : ByteArray) j (show j < 9 by omega)
            have hy := index_at s i hp
            cases hb : p.getLsbD j
            · rw [hb] at hq gb
              have ga' := ga hb
              go_wp2_with fail
              refine wp_region_below (by kernel_rfl) (by kernel_rfl) (fun hcr hfr => ?_)
              (try simp only [World.size_alloc, World.size_setCell, World.size_drew, size_drewN_] at hcr hfr)
              repeat (go_big_quiet_step (fail))
              refine wpQuiet_nil ?_
              intro w' hbl
              clear hcr hfr
              obtain ⟨hcw, hfw, hsw⟩ := below_ifs hbl; (try simp only [World.size_alloc, World.size_setCell, World.size_drew, size_drewN_] at hcw hfw hsw)
              go_wp2_with fail
              go_roundw
              case rel => exact ⟨i + 1, p ||| 1#64 <<< j, by first | rfl | (simp [ga']; done) | (rw [← ga']; rfl), by go_num, by omega, by (repeat (first | with_reducible exact Below.refl _ _ | with_reducible assumption | with_reducible refine below_drewN ?_ _ | with_reducible refine Below.drew ?_ | with_reducible refine below_alloc ?_ _ | (with_reducible refine Below.setCell ?_ (by first | (simp; done) | omega | (simp; omega)) _) | with_reducible refine belows ?_ (by assumption))), Lib.hid (by rw [← hq]; rfl)⟩
              case measure => (simp [intOf]; omega)
            · rw [hb] at hq gb
              rw [if_pos rfl] at hq
              go_wp2_with fail
              refine wp_region_below (by kernel_rfl) (by kernel_rfl) (fun hcr hfr => ?_)
              (try simp only [World.size_alloc, World.size_setCell, World.size_drew, size_drewN_] at hcr hfr)
              repeat (go_big_quiet_step (fail))
              refine wpQuiet_nil ?_
              intro w' hbl
              clear hcr hfr
              obtain ⟨hcw, hfw, hsw⟩ := below_ifs hbl; (try simp only [World.size_alloc, World.size_setCell, World.size_drew, size_drewN_] at hcw hfw hsw)
              go_wp2_with fail
              go_ret2
              exact ⟨by rw [← hq]; rfl, by (repeat (first | with_reducible exact Below.refl _ _ | with_reducible assumption | with_reducible refine below_drewN ?_ _ | with_reducible refine Below.drew ?_ | with_reducible refine below_alloc ?_ _ | (with_reducible refine Below.setCell ?_ (by first | (simp; done) | omega | (simp; omega)) _) | with_reducible refine belows ?_ (by assumption)))⟩
    · have hq := HP.out
      rw [drop_end s i hp, parseL] at hq
      go_wp2_with fail
      go_ret2
      exact ⟨by rw [← hq]; rfl, hbw⟩
end Go.Proofs.Ytpadahmchhaifaa
