
/-
  Permissions (perm): the place of a letter; what letters are parsed as.
-/
import Derived.Test.YtpadahmchhaifaaProg
import Derived.Test.YtpadahmchhaifaaChecked
import Derived.Test.YtpadahmchhaifaaBits
import Derived.Test.YtpadahmchhaifaaCells
import Derived.Test.YtpadahmchhaifaaWalk
import Derived.Deep.QuietTactic
import Derived.BigQuiet
import Derived.Laws.RangeAny
import Derived.LoopTactic
namespace Go.Proofs.Ytpadahmchhaifaa
open Go Go.RowKit
set_option linter.unusedVariables false
set_option linter.unusedSimpArgs false

/-- A letter's place; 9: it is none. -/
def letK (c : Nat) : Nat := if c = 114 then 0 else if c = 119 then 1 else if c = 120 then 2 else if c = 82 then 3 else if c = 87 then 4 else if c = 115 then 5 else if c = 117 then 6 else if c = 83 then 7 else if c = 103 then 8 else 9
def lits : ByteArray := { data := #[114, 119, 120, 82, 87, 115, 117, 83, 103] }
theorem letK_lt {c k : Nat} (h : letK c = k) : k ≤ 9 := by
  subst h
  unfold letK
  repeat' split
  all_goals omega
theorem letK_none {c : Nat} (h : letK c = 9) : ¬ c = 114 ∧ ¬ c = 119 ∧ ¬ c = 120 ∧ ¬ c = 82 ∧ ¬ c = 87 ∧ ¬ c = 115 ∧ ¬ c = 117 ∧ ¬ c = 83 ∧ ¬ c = 103 := by
  unfold letK at h
  repeat' split at h
  all_goals first | omega | (refine ⟨?_, ?_, ?_, ?_, ?_, ?_, ?_, ?_, ?_⟩ <;> assumption)
theorem letK_some {c k : Nat} (h : letK c = k) (hk : k < 9) : (c, k) ∈ [(114, 0), (119, 1), (120, 2), (82, 3), (87, 4), (115, 5), (117, 6), (83, 7), (103, 8)] := by
  unfold letK at h
  repeat' split at h
  all_goals first | omega | (subst h; subst_vars; simp)
theorem next_lit (w : World) (pos c : Nat) (ty : TypeId) (h : pos < lits.size) (hc : (lits[pos]'h).toNat = c) (ha : c < 128) :
    (Instr.next (.pointer (some ⟨w.heap.size, 0, none⟩)) true ty).run Try.prog (w.iter lits pos) = .ok (.tuple #[.bool true, .int .i64 pos, .int .i32 c]) (w.iter lits (pos + 1)) := by
  have e := run_next_ascii (P := Try.prog) w lits pos ty h (by omega)
  rw [hc] at e
  exact e
theorem next_0 (w : World) (ty : TypeId) : (Instr.next (.pointer (some ⟨w.heap.size, 0, none⟩)) true ty).run Try.prog (w.iter { data := #[114, 119, 120, 82, 87, 115, 117, 83, 103] } 0) = .ok (.tuple #[.bool true, .int .i64 0, .int .i32 114]) (w.iter { data := #[114, 119, 120, 82, 87, 115, 117, 83, 103] } 1) := next_lit w 0 114 ty (by decide) (by decide) (by decide)
theorem next_1 (w : World) (ty : TypeId) : (Instr.next (.pointer (some ⟨w.heap.size, 0, none⟩)) true ty).run Try.prog (w.iter { data := #[114, 119, 120, 82, 87, 115, 117, 83, 103] } 1) = .ok (.tuple #[.bool true, .int .i64 1, .int .i32 119]) (w.iter { data := #[114, 119, 120, 82, 87, 115, 117, 83, 103] } 2) := next_lit w 1 119 ty (by decide) (by decide) (by decide)
theorem next_2 (w : World) (ty : TypeId) : (Instr.next (.pointer (some ⟨w.heap.size, 0, none⟩)) true ty).run Try.prog (w.iter { data := #[114, 119, 120, 82, 87, 115, 117, 83, 103] } 2) = .ok (.tuple #[.bool true, .int .i64 2, .int .i32 120]) (w.iter { data := #[114, 119, 120, 82, 87, 115, 117, 83, 103] } 3) := next_lit w 2 120 ty (by decide) (by decide) (by decide)
theorem next_3 (w : World) (ty : TypeId) : (Instr.next (.pointer (some ⟨w.heap.size, 0, none⟩)) true ty).run Try.prog (w.iter { data := #[114, 119, 120, 82, 87, 115, 117, 83, 103] } 3) = .ok (.tuple #[.bool true, .int .i64 3, .int .i32 82]) (w.iter { data := #[114, 119, 120, 82, 87, 115, 117, 83, 103] } 4) := next_lit w 3 82 ty (by decide) (by decide) (by decide)
theorem next_4 (w : World) (ty : TypeId) : (Instr.next (.pointer (some ⟨w.heap.size, 0, none⟩)) true ty).run Try.prog (w.iter { data := #[114, 119, 120, 82, 87, 115, 117, 83, 103] } 4) = .ok (.tuple #[.bool true, .int .i64 4, .int .i32 87]) (w.iter { data := #[114, 119, 120, 82, 87, 115, 117, 83, 103] } 5) := next_lit w 4 87 ty (by decide) (by decide) (by decide)
theorem next_5 (w : World) (ty : TypeId) : (Instr.next (.pointer (some ⟨w.heap.size, 0, none⟩)) true ty).run Try.prog (w.iter { data := #[114, 119, 120, 82, 87, 115, 117, 83, 103] } 5) = .ok (.tuple #[.bool true, .int .i64 5, .int .i32 115]) (w.iter { data := #[114, 119, 120, 82, 87, 115, 117, 83, 103] } 6) := next_lit w 5 115 ty (by decide) (by decide) (by decide)
theorem next_6 (w : World) (ty : TypeId) : (Instr.next (.pointer (some ⟨w.heap.size, 0, none⟩)) true ty).run Try.prog (w.iter { data := #[114, 119, 120, 82, 87, 115, 117, 83, 103] } 6) = .ok (.tuple #[.bool true, .int .i64 6, .int .i32 117]) (w.iter { data := #[114, 119, 120, 82, 87, 115, 117, 83, 103] } 7) := next_lit w 6 117 ty (by decide) (by decide) (by decide)
theorem next_7 (w : World) (ty : TypeId) : (Instr.next (.pointer (some ⟨w.heap.size, 0, none⟩)) true ty).run Try.prog (w.iter { data := #[114, 119, 120, 82, 87, 115, 117, 83, 103] } 7) = .ok (.tuple #[.bool true, .int .i64 7, .int .i32 83]) (w.iter { data := #[114, 119, 120, 82, 87, 115, 117, 83, 103] } 8) := next_lit w 7 83 ty (by decide) (by decide) (by decide)
theorem next_8 (w : World) (ty : TypeId) : (Instr.next (.pointer (some ⟨w.heap.size, 0, none⟩)) true ty).run Try.prog (w.iter { data := #[114, 119, 120, 82, 87, 115, 117, 83, 103] } 8) = .ok (.tuple #[.bool true, .int .i64 8, .int .i32 103]) (w.iter { data := #[114, 119, 120, 82, 87, 115, 117, 83, 103] } 9) := next_lit w 8 103 ty (by decide) (by decide) (by decide)
theorem next_9 (w : World) (ty : TypeId) : (Instr.next (.pointer (some ⟨w.heap.size, 0, none⟩)) true ty).run Try.prog (w.iter { data := #[114, 119, 120, 82, 87, 115, 117, 83, 103] } 9) = .ok (.tuple #[.bool false]) (w.iter { data := #[114, 119, 120, 82, 87, 115, 117, 83, 103] } 9) := run_next_end w { data := #[114, 119, 120, 82, 87, 115, 117, 83, 103] } 9 ty (by decide)
attribute [local go_sem 3000] next_0 next_1 next_2 next_3 next_4 next_5 next_6 next_7 next_8 next_9
theorem below_iter (w : World) (s : ByteArray) (p : Nat) : Below w.heap.size w (w.iter s p) := Below.alloc (Below.refl _ _) (Nat.le_refl _) _
set_option maxHeartbeats 8000000 in
set_option maxRecDepth 100000 in
theorem place_0 (w : World) : Calls Try.prog 17 #[.int .i32 114] w fun r w' => r = .returned (.tuple #[.int .i64 0, .bool true]) ∧ Below w.heap.size w w' := by
  go_enter Try.func17, Try.ntmps17
  go_wp2_with fail
  refine wp_loop_rounds 10 ?_
  rw [rounds_succ]
  go_wp2_with fail
  go_ret2
  exact ⟨rfl, below_iter _ _ _⟩
set_option maxHeartbeats 8000000 in
set_option maxRecDepth 100000 in
theorem place_1 (w : World) : Calls Try.prog 17 #[.int .i32 119] w fun r w' => r = .returned (.tuple #[.int .i64 1, .bool true]) ∧ Below w.heap.size w w' := by
  go_enter Try.func17, Try.ntmps17
  go_wp2_with fail
  refine wp_loop_rounds 10 ?_
  rw [rounds_succ]
  go_wp2_with fail
  rw [rounds_succ]
  go_wp2_with fail
  go_ret2
  exact ⟨rfl, below_iter _ _ _⟩
set_option maxHeartbeats 8000000 in
set_option maxRecDepth 100000 in
theorem place_2 (w : World) : Calls Try.prog 17 #[.int .i32 120] w fun r w' => r = .returned (.tuple #[.int .i64 2, .bool true]) ∧ Below w.heap.size w w' := by
  go_enter Try.func17, Try.ntmps17
  go_wp2_with fail
  refine wp_loop_rounds 10 ?_
  rw [rounds_succ]
  go_wp2_with fail
  rw [rounds_succ]
  go_wp2_with fail
  rw [rounds_succ]
  go_wp2_with fail
  go_ret2
  exact ⟨rfl, below_iter _ _ _⟩
set_option maxHeartbeats 8000000 in
set_option maxRecDepth 100000 in
theorem place_3 (w : World) : Calls Try.prog 17 #[.int .i32 82] w fun r w' => r = .returned (.tuple #[.int .i64 3, .bool true]) ∧ Below w.heap.size w w' := by
  go_enter Try.func17, Try.ntmps17
  go_wp2_with fail
  refine wp_loop_rounds 10 ?_
  rw [rounds_succ]
  go_wp2_with fail
  rw [rounds_succ]
  go_wp2_with fail
  rw [rounds_succ]
  go_wp2_with fail
  rw [rounds_succ]
  go_wp2_with fail
  go_ret2
  exact ⟨rfl, below_iter _ _ _⟩
set_option maxHeartbeats 8000000 in
set_option maxRecDepth 100000 in
theorem place_4 (w : World) : Calls Try.prog 17 #[.int .i32 87] w fun r w' => r = .returned (.tuple #[.int .i64 4, .bool true]) ∧ Below w.heap.size w w' := by
  go_enter Try.func17, Try.ntmps17
  go_wp2_with fail
  refine wp_loop_rounds 10 ?_
  rw [rounds_succ]
  go_wp2_with fail
  rw [rounds_succ]
  go_wp2_with fail
  rw [rounds_succ]
  go_wp2_with fail
  rw [rounds_succ]
  go_wp2_with fail
  rw [rounds_succ]
  go_wp2_with fail
  go_ret2
  exact ⟨rfl, below_iter _ _ _⟩
set_option maxHeartbeats 8000000 in
set_option maxRecDepth 100000 in
theorem place_5 (w : World) : Calls Try.prog 17 #[.int .i32 115] w fun r w' => r = .returned (.tuple #[.int .i64 5, .bool true]) ∧ Below w.heap.size w w' := by
  go_enter Try.func17, Try.ntmps17
  go_wp2_with fail
  refine wp_loop_rounds 10 ?_
  rw [rounds_succ]
  go_wp2_with fail
  rw [rounds_succ]
  go_wp2_with fail
  rw [rounds_succ]
  go_wp2_with fail
  rw [rounds_succ]
  go_wp2_with fail
  rw [rounds_succ]
  go_wp2_with fail
  rw [rounds_succ]
  go_wp2_with fail
  go_ret2
  exact ⟨rfl, below_iter _ _ _⟩
set_option maxHeartbeats 8000000 in
set_option maxRecDepth 100000 in
theorem place_6 (w : World) : Calls Try.prog 17 #[.int .i32 117] w fun r w' => r = .returned (.tuple #[.int .i64 6, .bool true]) ∧ Below w.heap.size w w' := by
  go_enter Try.func17, Try.ntmps17
  go_wp2_with fail
  refine wp_loop_rounds 10 ?_
  rw [rounds_succ]
  go_wp2_with fail
  rw [rounds_succ]
  go_wp2_with fail
  rw [rounds_succ]
  go_wp2_with fail
  rw [rounds_succ]
  go_wp2_with fail
  rw [rounds_succ]
  go_wp2_with fail
  rw [rounds_succ]
  go_wp2_with fail
  rw [rounds_succ]
  go_wp2_with fail
  go_ret2
  exact ⟨rfl, below_iter _ _ _⟩
set_option maxHeartbeats 8000000 in
set_option maxRecDepth 100000 in
theorem place_7 (w : World) : Calls Try.prog 17 #[.int .i32 83] w fun r w' => r = .returned (.tuple #[.int .i64 7, .bool true]) ∧ Below w.heap.size w w' := by
  go_enter Try.func17, Try.ntmps17
  go_wp2_with fail
  refine wp_loop_rounds 10 ?_
  rw [rounds_succ]
  go_wp2_with fail
  rw [rounds_succ]
  go_wp2_with fail
  rw [rounds_succ]
  go_wp2_with fail
  rw [rounds_succ]
  go_wp2_with fail
  rw [rounds_succ]
  go_wp2_with fail
  rw [rounds_succ]
  go_wp2_with fail
  rw [rounds_succ]
  go_wp2_with fail
  rw [rounds_succ]
  go_wp2_with fail
  go_ret2
  exact ⟨rfl, below_iter _ _ _⟩
set_option maxHeartbeats 8000000 in
set_option maxRecDepth 100000 in
theorem place_8 (w : World) : Calls Try.prog 17 #[.int .i32 103] w fun r w' => r = .returned (.tuple #[.int .i64 8, .bool true]) ∧ Below w.heap.size w w' := by
  go_enter Try.func17, Try.ntmps17
  go_wp2_with fail
  refine wp_loop_rounds 10 ?_
  rw [rounds_succ]
  go_wp2_with fail
  rw [rounds_succ]
  go_wp2_with fail
  rw [rounds_succ]
  go_wp2_with fail
  rw [rounds_succ]
  go_wp2_with fail
  rw [rounds_succ]
  go_wp2_with fail
  rw [rounds_succ]
  go_wp2_with fail
  rw [rounds_succ]
  go_wp2_with fail
  rw [rounds_succ]
  go_wp2_with fail
  rw [rounds_succ]
  go_wp2_with fail
  go_ret2
  exact ⟨rfl, below_iter _ _ _⟩
set_option maxHeartbeats 8000000 in
set_option maxRecDepth 100000 in
theorem place_none (c : Nat) (h0 : ¬ c = 114) (h1 : ¬ c = 119) (h2 : ¬ c = 120) (h3 : ¬ c = 82) (h4 : ¬ c = 87) (h5 : ¬ c = 115) (h6 : ¬ c = 117) (h7 : ¬ c = 83) (h8 : ¬ c = 103) (w : World) : Calls Try.prog 17 #[.int .i32 (c : Int)] w fun r w' => r = .returned (.tuple #[.int .i64 0, .bool false]) ∧ Below w.heap.size w w' := by
  have g0 : ((114 : Int) == (c : Int)) = false := by rw [beq_eq_false_iff_ne]; omega
  have g1 : ((119 : Int) == (c : Int)) = false := by rw [beq_eq_false_iff_ne]; omega
  have g2 : ((120 : Int) == (c : Int)) = false := by rw [beq_eq_false_iff_ne]; omega
  have g3 : ((82 : Int) == (c : Int)) = false := by rw [beq_eq_false_iff_ne]; omega
  have g4 : ((87 : Int) == (c : Int)) = false := by rw [beq_eq_false_iff_ne]; omega
  have g5 : ((115 : Int) == (c : Int)) = false := by rw [beq_eq_false_iff_ne]; omega
  have g6 : ((117 : Int) == (c : Int)) = false := by rw [beq_eq_false_iff_ne]; omega
  have g7 : ((83 : Int) == (c : Int)) = false := by rw [beq_eq_false_iff_ne]; omega
  have g8 : ((103 : Int) == (c : Int)) = false := by rw [beq_eq_false_iff_ne]; omega
  clear h0 h1 h2 h3 h4 h5 h6 h7 h8
  go_enter Try.func17, Try.ntmps17
  go_wp2_with fail
  refine wp_loop_rounds 10 ?_
  rw [rounds_succ]
  go_wp2_with fail
  rw [rounds_succ]
  go_wp2_with fail
  rw [rounds_succ]
  go_wp2_with fail
  rw [rounds_succ]
  go_wp2_with fail
  rw [rounds_succ]
  go_wp2_with fail
  rw [rounds_succ]
  go_wp2_with fail
  rw [rounds_succ]
  go_wp2_with fail
  rw [rounds_succ]
  go_wp2_with fail
  rw [rounds_succ]
  go_wp2_with fail
  rw [rounds_succ]
  go_wp2_with fail
  go_ret2
  exact ⟨rfl, below_iter _ _ _⟩
theorem place_no (c : Nat) (h : letK c = 9) (w : World) : Calls Try.prog 17 #[.int .i32 (c : Int)] w fun r w' => r = .returned (.tuple #[.int .i64 0, .bool false]) ∧ Below w.heap.size w w' := by
  obtain ⟨h0, h1, h2, h3, h4, h5, h6, h7, h8⟩ := letK_none h
  exact place_none c h0 h1 h2 h3 h4 h5 h6 h7 h8 w
theorem place_yes (c k : Nat) (h : letK c = k) (hk : k < 9) (w : World) : Calls Try.prog 17 #[.int .i32 (c : Int)] w fun r w' => r = .returned (.tuple #[.int .i64 (k : Int), .bool true]) ∧ Below w.heap.size w w' := by
  have hm := letK_some h hk
  simp only [List.mem_cons, Prod.mk.injEq, List.not_mem_nil, or_false] at hm
  rcases hm with ⟨rfl, rfl⟩ | ⟨rfl, rfl⟩ | ⟨rfl, rfl⟩ | ⟨rfl, rfl⟩ | ⟨rfl, rfl⟩ | ⟨rfl, rfl⟩ | ⟨rfl, rfl⟩ | ⟨rfl, rfl⟩ | ⟨rfl, rfl⟩
  · exact place_0 w
  · exact place_1 w
  · exact place_2 w
  · exact place_3 w
  · exact place_4 w
  · exact place_5 w
  · exact place_6 w
  · exact place_7 w
  · exact place_8 w

/-- What letters are parsed as, behind some. -/
def parseL : List UInt8 → BitVec 64 → BitVec 64 × Bool
  | [], p => (p, true)
  | c :: l, p => if letK c.toNat = 9 then (0#64, false) else if p.getLsbD (letK c.toNat) = true then (0#64, false) else parseL l (p ||| 1#64 <<< letK c.toNat)
def parseF (s : ByteArray) : BitVec 64 × Bool := parseL s.data.toList 0#64
theorem drop_at (s : ByteArray) (k : Nat) (h : k < s.size) : s.data.toList.drop k = s[k] :: s.data.toList.drop (k + 1) := by
  rw [List.drop_eq_getElem_cons (by simpa using h)]
  rfl
theorem drop_end (s : ByteArray) (k : Nat) (h : ¬ k < s.size) : s.data.toList.drop k = [] := List.drop_eq_nil_of_le (by simp; omega)
/-- An iterator, wherever it is. -/
def iterAt (w : World) (k : Nat) (s : ByteArray) (p : Nat) : World := { w with heap := w.heap.setIfInBounds k (.stringIter s p) }
theorem iterAt_size (w : World) (k : Nat) (s : ByteArray) (p : Nat) : (iterAt w k s p).heap.size = w.heap.size := by
  unfold iterAt
  simp
theorem iterAt_here {w : World} {k : Nat} {s : ByteArray} {p p' : Nat} (h : w.heap[k]? = some (.stringIter s p)) : (iterAt w k s p').heap[k]? = some (.stringIter s p') := by
  have hk : k < w.heap.size := by
    by_cases c : k < w.heap.size
    · exact c
    · rw [Array.getElem?_eq_none (by omega)] at h; cases h
  unfold iterAt
  simp [hk]
theorem below_iterAt {B : Nat} {a w : World} {k : Nat} {s : ByteArray} {p : Nat} (h : Below B a w) (hk : B ≤ k) : Below B a (iterAt w k s p) :=
  ⟨h.os, h.tape, h.output, by rw [iterAt_size]; exact h.size, fun i hi => by
    rw [← h.block i hi]
    unfold iterAt
    simp only [Array.getElem?_setIfInBounds]
    rw [if_neg (by omega)]⟩
theorem run_next_at {P : Program} (w : World) (k : Nat) (s : ByteArray) (pos : Nat) (ty : TypeId) (hk : w.heap[k]? = some (.stringIter s pos)) (h : pos < s.size) :
    (Instr.next (.pointer (some ⟨k, 0, none⟩)) true ty).run P w = .ok (.tuple #[.bool true, .int .i64 pos, .int .i32 (Utf8.decode s pos).1]) (iterAt w k s (pos + (Utf8.decode s pos).2)) := by
  simp only [Instr.next, getObj, setObj, Sem.run_bind, Sem.run, hk, Result.andThen, h, if_true]
  simp [goInt, iterAt]
theorem run_next_done {P : Program} (w : World) (k : Nat) (s : ByteArray) (pos : Nat) (ty : TypeId) (hk : w.heap[k]? = some (.stringIter s pos)) (h : ¬ pos < s.size) :
    (Instr.next (.pointer (some ⟨k, 0, none⟩)) true ty).run P w = .ok (.tuple #[.bool false]) w := by
  simp [Instr.next, getObj, Sem.run, hk, h]
theorem width_pos (s : ByteArray) (pos : Nat) (h : pos < s.size) : 1 ≤ (Utf8.decode s pos).2 := by
  by_cases ha : (s[pos]'h).toNat < 128
  · rw [decode_ascii s pos h ha]; exact Nat.le_refl _
  · exact (decode_high s pos h (by omega)).2
theorem letK_high {c : Nat} (h : 128 ≤ c) : letK c = 9 := by
  unfold letK
  repeat' split
  all_goals omega
/-- A character is a letter just if its first byte is one, and then it's that byte. -/
theorem letK_rune (s : ByteArray) (pos : Nat) (h : pos < s.size) : letK (Utf8.decode s pos).1 = letK (s[pos]'h).toNat ∧ (letK (s[pos]'h).toNat ≠ 9 → (Utf8.decode s pos).2 = 1) := by
  by_cases ha : (s[pos]'h).toNat < 128
  · rw [decode_ascii s pos h ha]; exact ⟨rfl, fun _ => rfl⟩
  · rw [letK_high (decode_high s pos h (by omega)).1, letK_high (by omega)]
    exact ⟨rfl, fun e => absurd rfl e⟩
theorem bit_bne (x : BitVec 64) (k : Nat) : (x >>> k &&& 1#64 != 0#64) = x.getLsbD k := by
  have h : x >>> k &&& 1#64 = if x.getLsbD k = true then 1#64 else 0#64 := by
    apply ext64
    intro j hj
    rw [BitVec.getLsbD_and, BitVec.getLsbD_ushiftRight]
    by_cases c : j = 0
    · subst c
      rw [Nat.add_zero]
      cases x.getLsbD k <;> rfl
    · have e : (1#64).getLsbD j = false := by
        rw [BitVec.getLsbD_one]
        simp [c]
      rw [e, Bool.and_false]
      cases x.getLsbD k
      · simp
      · simp [c]
  rw [h]
  cases x.getLsbD k <;> rfl
set_option maxHeartbeats 8000000 in
set_option maxRecDepth 100000 in
theorem parse_any (s : ByteArray) (w : World) : Calls Try.prog 7 #[.string s] w fun r w' => r = .returned (.tuple #[.int .u64 (U (parseF s).1), .bool (parseF s).2]) ∧ Below w.heap.size w w' := by
  go_enter Try.func7, Try.ntmps7
  go_wp2_with fail
  go_loopw [4] (fun e wr => ∃ (pos : Nat) (p : BitVec 64), e = .int .u64 (U p) ∧ wr.heap[w.heap.size]? = some (.stringIter s pos) ∧ Below w.heap.size w wr ∧ Hid (parseL (s.data.toList.drop pos) p = parseF s)) (fun _ wr => s.size - wr.iterPos w.heap.size)
  case atStart => exact ⟨0, 0#64, rfl, World.iter_heap _ _ _, below_iter _ _ _, Lib.hid rfl⟩
  case round =>
    obtain ⟨pos, p, rfl, hit, hbw, HP⟩ := hrel
    by_cases hp : pos < s.size
    · have hnx : ∀ ty, (Instr.next (.pointer (some ⟨w.heap.size, 0, none⟩)) true ty).run Try.prog wr = _ := fun ty => run_next_at wr w.heap.size s pos ty hit hp
      obtain ⟨hr1, hr2⟩ := letK_rune s pos hp
      have hq := HP.out
      rw [drop_at s pos hp, parseL] at hq
      by_cases h9 : letK (s[pos]'hp).toNat = 9
      · rw [if_pos h9] at hq
        have cp : ∀ w : World, Calls Try.prog 17 #[.int .i32 ((Utf8.decode s pos).1 : Int)] w fun r w' => r = .returned (.tuple #[.int .i64 0, .bool false]) ∧ Below w.heap.size w w' := fun w => place_no _ (hr1.trans h9) w
        go_wp2_with (first | (go_at_call 17; (with_reducible refine (cp _).mono ?_); rintro e w' ⟨rfl, hbl⟩; obtain ⟨hcw, hfw, hsw⟩ := below_ifs hbl; (try simp only [World.size_alloc, World.size_setCell, World.size_drew, size_drewN_] at hcw hfw hsw)))
        go_ret2
        exact ⟨by rw [← hq]; rfl, (below_iterAt hbw (Nat.le_refl _)).trans (hbl.mono (by rw [iterAt_size]; exact hbw.size))⟩
      · rw [if_neg h9] at hq
        have hw1 := hr2 h9
        generalize hk : letK (s[pos]'hp).toNat = k at hq h9 hr1
        have hk9 : k < 9 := by have := letK_lt hk; omega
        have cp : ∀ w : World, Calls Try.prog 17 #[.int .i32 ((Utf8.decode s pos).1 : Int)] w fun r w' => r = .returned (.tuple #[.int .i64 (k : Int), .bool true]) ∧ Below w.heap.size w w' := fun w => place_yes _ k hr1 hk9 w
        have g := bit_bne p k
        have hk0 : (0 : Int) ≤ (k : Int) := by omega
        have hlt : w.heap.size < wr.heap.size := by
          by_cases c : w.heap.size < wr.heap.size
          · exact c
          · rw [Array.getElem?_eq_none (by omega)] at hit; cases hit
        have hpos : wr.iterPos w.heap.size = pos := by unfold World.iterPos; rw [hit]
        cases hb : p.getLsbD k
        · rw [hb] at hq g
          go_wp2_with (first | (go_at_call 17; (with_reducible refine (cp _).mono ?_); rintro e w' ⟨rfl, hbl⟩; obtain ⟨hcw, hfw, hsw⟩ := below_ifs hbl; (try simp only [World.size_alloc, World.size_setCell, World.size_drew, size_drewN_] at hcw hfw hsw)))
          have hit2 := hbl.block w.heap.size (by rw [iterAt_size]; exact hlt)
          rw [iterAt_here hit] at hit2
          go_roundw
          case rel => exact ⟨pos + 1, p ||| 1#64 <<< k, by first | rfl | simp, hit2, (below_iterAt hbw (Nat.le_refl _)).trans (hbl.mono (by rw [iterAt_size]; exact hbw.size)), Lib.hid (by rw [← hq]; rfl)⟩
          case measure =>
            rw [hpos]
            unfold World.iterPos
            rw [hit2]
            show s.size - (pos + 1) < s.size - pos
            omega
        · rw [hb] at hq g
          rw [if_pos rfl] at hq
          go_wp2_with (first | (go_at_call 17; (with_reducible refine (cp _).mono ?_); rintro e w' ⟨rfl, hbl⟩; obtain ⟨hcw, hfw, hsw⟩ := below_ifs hbl; (try simp only [World.size_alloc, World.size_setCell, World.size_drew, size_drewN_] at hcw hfw hsw)))
          go_ret2
          exact ⟨by rw [← hq]; rfl, (below_iterAt hbw (Nat.le_refl _)).trans (hbl.mono (by rw [iterAt_size]; exact hbw.size))⟩
    · have hnx : ∀ ty, (Instr.next (.pointer (some ⟨w.heap.size, 0, none⟩)) true ty).run Try.prog wr = _ := fun ty => run_next_done wr w.heap.size s pos ty hit hp
      go_wp2_with fail
      go_ret2
      have hq := HP.out
      rw [drop_end s pos hp, parseL] at hq
      exact ⟨by rw [← hq]; rfl, hbw⟩
end Go.Proofs.Ytpadahmchhaifaa
