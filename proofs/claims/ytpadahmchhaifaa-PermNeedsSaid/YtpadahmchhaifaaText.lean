
/-
  The letters of permissions, by the program and by the document.
-/
import Derived.Test.YtpadahmchhaifaaRefParse
import Derived.WalkKit
import Derived.Laws.BytesString
namespace Go.Proofs.Ytpadahmchhaifaa
open Go Go.RowKit
set_option linter.unusedVariables false
set_option linter.unusedSimpArgs false

/-- The letter of a place. -/
def litB (n : Nat) : UInt8 := ({ data := #[114, 119, 120, 82, 87, 115, 117, 83, 103] } : ByteArray).data.toList.getD n 0
theorem litB_at (n : Nat) (h : n < ({ data := #[114, 119, 120, 82, 87, 115, 117, 83, 103] } : ByteArray).size) : ({ data := #[114, 119, 120, 82, 87, 115, 117, 83, 103] } : ByteArray)[n]'h = litB n := by
  have h0 : ∀ j : Fin 9, ({ data := #[114, 119, 120, 82, 87, 115, 117, 83, 103] } : ByteArray)[j.val]'(j.isLt) = litB j.val := by decide
  exact h0 ⟨n, h⟩
/-- The letters of the places below one. -/
def lettersOf (p : BitVec 64) : Nat → List UInt8
  | 0 => []
  | n + 1 => lettersOf p n ++ (if p.getLsbD n = true then [litB n] else [])
def textL (p : BitVec 64) : List UInt8 := lettersOf p 9 ++ (if 511 < p.toNat then [43] else [])
def strOf (l : List UInt8) : ByteArray := ⟨l.toArray⟩
def textF (p : BitVec 64) : ByteArray := strOf (textL p)
theorem lettersOf_yes {p : BitVec 64} {n : Nat} (h : p.getLsbD n = true) : lettersOf p (n + 1) = lettersOf p n ++ [litB n] := by rw [lettersOf, if_pos h]
theorem lettersOf_no {p : BitVec 64} {n : Nat} (h : p.getLsbD n = false) : lettersOf p (n + 1) = lettersOf p n := by rw [lettersOf, if_neg (by rw [h]; decide), List.append_nil]
theorem lettersOf_len (p : BitVec 64) (n : Nat) : (lettersOf p n).length ≤ n := by
  induction n with
  | zero => exact Nat.le_refl _
  | succ n ih =>
    rw [lettersOf, List.length_append]
    split <;> simp <;> omega
theorem str_add (l m : List UInt8) (h : l.length + m.length ≤ 100) (w : World) : (Op.stringOp .add (strOf l) (strOf m)).run Try.prog w = .ok (.string (strOf (l ++ m))) w := by
  unfold strOf
  rw [run_string_add_sum w _ _ (by simp [ByteArray.size]; omega), ByteArray.mk_append_mk]
theorem slice_lit (n : Nat) (h : n < 9) (w : World) : (Instr.slice 9 (.string ({ data := #[114, 119, 120, 82, 87, 115, 117, 83, 103] } : ByteArray)) (some (.int .i64 (n : Int))) (some (.int .i64 ((n : Int) + 1))) none).run Try.prog w = .ok (.string (strOf [litB n])) w := by
  have h0 : ∀ j : Fin 9, ({ data := #[114, 119, 120, 82, 87, 115, 117, 83, 103] } : ByteArray).extract j.val (j.val + 1) = strOf [litB j.val] := by decide
  rw [run_slice_string w _ _ .i64 .i64 _ _ Try.underlying9 (by omega) (by omega) (by show (n : Int) + 1 ≤ ((9 : Nat) : Int); omega)]
  rw [show ((n : Int) + 1).toNat = n + 1 by omega, show ((n : Int)).toNat = n by omega]
  rw [h0 ⟨n, h⟩]
theorem gtr_511 (p : BitVec 64) : decide (511 < U p) = decide (511 < p.toNat) := by
  unfold U
  exact decide_eq_decide.2 (by omega)
set_option maxHeartbeats 8000000 in
set_option maxRecDepth 100000 in
theorem rtext_any (p : BitVec 64) (w : World) : Calls Try.prog 14 #[.int .u64 (U p)] w fun r w' => r = .returned (.string (textF p)) ∧ Below w.heap.size w w' := by
  go_enter Try.func14, Try.ntmps14
  go_wp2_with fail
  go_loopw [3, 4] (fun e x wr => ∃ k : Nat, e = .string (strOf (lettersOf p k)) ∧ x = .int .i64 (k : Int) ∧ k ≤ 9 ∧ Below w.heap.size w wr) (fun _ x _ => 9 - (intOf x).toNat)
  case atStart => exact ⟨0, rfl, rfl, by omega, Below.refl _ _⟩
  case round =>
    obtain ⟨k, rfl, rfl, hk, hbw⟩ := hrel
    have hl := lettersOf_len p k
    have hwr : IntKind.u64.wrap (k : Int) = (k : Int) := wrap_small _ (by omega) (by omega)
    have hk0 : (0 : Int) ≤ (k : Int) := by omega
    by_cases c : k < 9
    · have gb := bit_test p k
      cases hb : p.getLsbD k
      · rw [hb] at gb
        go_wp2_with fail
        go_roundw
        case rel => exact ⟨k + 1, by rw [lettersOf_no hb], by go_num, by omega, hbw⟩
        case measure => (simp [intOf]; omega)
      · rw [hb] at gb
        have hs := slice_lit k c
        have ha := str_add (lettersOf p k) [litB k] (by simp; omega)
        go_wp2_with fail
        go_roundw
        case rel => exact ⟨k + 1, by rw [lettersOf_yes hb], by go_num, by omega, hbw⟩
        case measure => (simp [intOf]; omega)
    · obtain rfl : k = 9 := by omega
      have g5 := gtr_511 p
      have ha : ∀ w, (Op.stringOp .add (strOf (lettersOf p 9)) { data := #[43] }).run Try.prog w = .ok (.string (strOf (lettersOf p 9 ++ [43]))) w := str_add (lettersOf p 9) [43] (by simp; omega)
      by_cases h5 : 511 < p.toNat
      · rw [decide_eq_true h5] at g5
        have h6 : 511 < U p := of_decide_eq_true g5
        go_wp2_with fail
        go_ret
        exact ⟨by unfold textF textL; rw [if_pos h5]; all_goals rfl, hbw⟩
      · rw [decide_eq_false h5] at g5
        have h6 : ¬ 511 < U p := of_decide_eq_false g5
        go_wp2_with fail
        go_ret
        exact ⟨by unfold textF textL; rw [if_neg h5, List.append_nil]; all_goals rfl, hbw⟩

theorem info_u8 : (Try.prog.info? 5).map (fun i => (i.zero, i.size, i.bytes)) = some (some (.int .u8 0), 1, 1) := by kernel_rfl
def bytesV (l : List UInt8) : List Value := l.map fun c => .int .u8 (c.toNat : Int)
theorem fold_bytes (l : List UInt8) : ∀ m : List UInt8, (l.map fun c => (c.toNat : Int)).foldl (fun r n => r.push (UInt8.ofNat n.toNat)) (strOf m) = strOf (m ++ l) := by
  induction l with
  | nil => intro m; simp
  | cons c l ih =>
    intro m
    rw [List.map_cons, List.foldl_cons]
    have e : (strOf m).push (UInt8.ofNat ((c.toNat : Int)).toNat) = strOf (m ++ [c]) := by
      unfold strOf
      rw [show (((c.toNat : Nat) : Int)).toNat = c.toNat from rfl, UInt8.ofNat_toNat]
      show ByteArray.mk _ = ByteArray.mk _
      congr 1
      simp
    rw [e, ih (m ++ [c])]
    simp
theorem run_str (w : World) (base : Nat) (v : Value) (l : List UInt8) (h : w.ownsRow base 5 1 v l.length (bytesV l)) : (convert 35 9 v).run Try.prog w = .ok (.string (strOf l)) w := by
  have hf := fold_bytes l []
  rw [List.nil_append] at hf
  rcases h.2 with ⟨rfl, h0⟩ | ⟨g, cap, cur, rfl, -, hg, -⟩
  · have hl : l = [] := List.eq_nil_of_length_eq_zero h0
    subst hl
    rw [run_convert_bytes_string w _ _ _ _ _ _ Try.underlying35 Try.underlying5 Try.underlying9]
    rfl
  · rw [run_convert_bytes_string w _ _ _ _ _ _ Try.underlying35 Try.underlying5 Try.underlying9]
    have hc := h.cells (g := g) rfl
    have hq := run_loadCells_list (P := Try.prog) w ⟨g, 0, none⟩ (bytesV l) hc
    have hm : bytesV l = (l.map fun c => (c.toNat : Int)).map (Value.int .u8) := by unfold bytesV; rw [List.map_map]; rfl
    rw [hm] at hq
    rw [List.length_map, List.length_map] at hq
    rw [run_bytesToString w _ _ _ _ hq]
    rw [show ByteArray.empty = strOf [] from rfl, hf]
theorem bytesV_snoc (l : List UInt8) (c : UInt8) : bytesV l ++ [.int .u8 (c.toNat : Int)] = bytesV (l ++ [c]) := by unfold bytesV; rw [List.map_append]; rfl
set_option maxHeartbeats 8000000 in
set_option maxRecDepth 100000 in
theorem text_any (p : BitVec 64) (w : World) : Calls Try.prog 9 #[.int .u64 (U p)] w fun r w' => r = .returned (.string (textF p)) ∧ Below w.heap.size w w' := by
  obtain ⟨i0, hi0, hz0, hz1, hz2⟩ := info_parts info_u8
  go_enter Try.func9, Try.ntmps9
  go_wp2_with fail
  go_loopw [3, 5] (fun v x wr => ∃ k : Nat, x = .int .i64 (k : Int) ∧ k ≤ 9 ∧ wr.ownsRow w.heap.size 5 1 v (lettersOf p k).length (bytesV (lettersOf p k)) ∧ Below w.heap.size w wr) (fun _ x _ => 9 - (intOf x).toNat)
  case atStart => exact ⟨0, rfl, by omega, World.ownsRow_nil _ _ _ _, Below.refl _ _⟩
  case round =>
    obtain ⟨k, rfl, hk, hown, hbw⟩ := hrel
    have hl := lettersOf_len p k
    have hk0 : (0 : Int) ≤ (k : Int) := by omega
    have hsz := hbw.size
    by_cases c : k < 9
    · have gb := bit_bne p k
      cases hb : p.getLsbD k
      · rw [hb] at gb
        go_wp2_with fail
        go_roundw
        case rel => exact ⟨k + 1, by go_num, by omega, by rw [lettersOf_no hb]; exact hown, hbw⟩
        case measure => (simp [intOf]; omega)
      · rw [hb] at gb
        have hx := index_at ({ data := #[114, 119, 120, 82, 87, 115, 117, 83, 103] } : ByteArray) k c
        rw [litB_at k c] at hx
        go_wp2_with (at_builtin; refine wpList_append_own _ rfl _ _ 35 rfl w.heap.size 5 i0 (.int .u8 0) 1 1 Try.underlying35 hi0 hz0 hz1 hz2 rfl (by decide) _ _ _ rfl (hown.alloc _) ⟨wr.heap.size, 0, none⟩ 1 1 [.int .u8 ((litB k).toNat : Int)] rfl rfl ?c1 ?c2 ?c3 ?c4 ?c5 ?_)
        case c1 =>
          intro j u hj
          match j, hj with
          | 0, hj => simp at hj; subst hj; simp [Addr.add]
        case c2 => intro u hu; simp at hu; subst hu; rfl
        case c3 => unfold maxLen; omega
        case c4 => omega
        case c5 => simp; omega
        · intro v' w1 hown' hgrow _
          have hb1 : Below w.heap.size w w1 := (hbw.alloc hsz _).grown hgrow (by simp; omega) (fun k hk => (hown.lt k hk).1)
          go_wp2_with fail
          go_roundw
          case rel => exact ⟨k + 1, by go_num, by omega, by rw [lettersOf_yes hb, List.length_append, ← bytesV_snoc]; exact hown', hb1⟩
          case measure => (simp [intOf]; omega)
    · obtain rfl : k = 9 := by omega
      have g5 := gtr_511 p
      by_cases h5 : 511 < p.toNat
      · rw [decide_eq_true h5] at g5
        have h6 : 511 < U p := of_decide_eq_true g5
        go_wp2_with (at_builtin; refine wpList_append_own _ rfl _ _ 35 rfl w.heap.size 5 i0 (.int .u8 0) 1 1 Try.underlying35 hi0 hz0 hz1 hz2 rfl (by decide) _ _ _ rfl (hown.alloc _) ⟨wr.heap.size, 0, none⟩ 1 1 [.int .u8 43] rfl rfl ?d1 ?d2 ?d3 ?d4 ?d5 ?_)
        case d1 =>
          intro j u hj
          match j, hj with
          | 0, hj => simp at hj; subst hj; simp [Addr.add]
        case d2 => intro u hu; simp at hu; subst hu; rfl
        case d3 => unfold maxLen; omega
        case d4 => omega
        case d5 => simp; omega
        · intro v' w1 hown' hgrow _
          have hb1 : Below w.heap.size w w1 := (hbw.alloc hsz _).grown hgrow (by simp; omega) (fun k hk => (hown.lt k hk).1)
          have ho2 : w1.ownsRow w.heap.size 5 1 v' (textL p).length (bytesV (textL p)) := by
            unfold textL
            rw [if_pos h5, List.length_append, ← bytesV_snoc]
            exact hown'
          have hcv := run_str w1 _ _ _ ho2
          go_wp2_with fail
          go_ret
          exact ⟨rfl, hb1⟩
      · rw [decide_eq_false h5] at g5
        have h6 : ¬ 511 < U p := of_decide_eq_false g5
        have ho2 : wr.ownsRow w.heap.size 5 1 u3 (textL p).length (bytesV (textL p)) := by
          unfold textL
          rw [if_neg h5, List.append_nil]
          exact hown
        have hcv := run_str wr _ _ _ ho2
        go_wp2_with fail
        go_ret
        exact ⟨rfl, hbw⟩
end Go.Proofs.Ytpadahmchhaifaa
