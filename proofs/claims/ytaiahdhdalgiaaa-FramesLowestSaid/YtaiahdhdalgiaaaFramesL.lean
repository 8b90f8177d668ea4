
/-
  frames: a pool that was made, and the document's, as a law meets them.
-/
import Derived.Test.YtaiahdhdalgiaaaRefFrames
namespace Go.Proofs.Ytaiahdhdalgiaaa
open Go Go.RowKit
set_option linter.unusedVariables false
set_option linter.unusedSimpArgs false

/-- A pool of n numbers, of which those of t are taken. -/
def PoolAt (w : World) (c n : Nat) (t : BitVec 64) : Prop :=
  c < w.heap.size ∧ w.cell? ⟨c, 0, none⟩ = some (.int .i64 (n : Int)) ∧ w.cell? ⟨c, 1, none⟩ = some (.int .u64 (U t)) ∧ w.frozen? ⟨c, 1, none⟩ = false
theorem PoolAt.below {w w' : World} {c n : Nat} {t : BitVec 64} (h : PoolAt w c n t) (hb : Below w.heap.size w w') : PoolAt w' c n t :=
  ⟨Nat.lt_of_lt_of_le h.1 hb.size, (hb.cell (p := ⟨c, 0, none⟩) h.1).trans h.2.1, (hb.cell (p := ⟨c, 1, none⟩) h.1).trans h.2.2.1, (hb.frozen (p := ⟨c, 1, none⟩) h.1).trans h.2.2.2⟩
theorem PoolAt.made (w : World) (n : Nat) : PoolAt (w.alloc (.cells #[.int .i64 (n : Int), .int .u64 0] 27)) w.heap.size n 0#64 := by
  refine ⟨by simp, ?_, ?_, ?_⟩ <;> simp [go_sem, U]
theorem PoolAt.turned {w w1 : World} {c n : Nat} {t : BitVec 64} (h : PoolAt w c n t) (hb : Below w.heap.size w w1) (u : BitVec 64) : PoolAt (w1.setCell ⟨c, 1, none⟩ (.int .u64 (U u))) c n u ∧ w.grownBy (w1.setCell ⟨c, 1, none⟩ (.int .u64 (U u))) (some c) := by
  have h1 := h.below hb
  refine ⟨⟨by simpa using h1.1, ?_, World.cell?_setCell_same _ _ _ h1.2.2.1, (World.frozen?_setCell _ _ _ _).trans h1.2.2.2⟩, ?_⟩
  · exact (World.cell?_setCell_other _ _ _ _ (by simp)).trans h1.2.1
  · exact ⟨hb.os, hb.tape, hb.output, by simpa using hb.size, fun k hk hne => (heap_setCell_other w1 ⟨c, 1, none⟩ k _ (fun e => hne (by simp [e]))).trans (hb.block k hk)⟩
theorem PoolAt.grown {w w' : World} {c n : Nat} {t : BitVec 64} {row : Nat} (h : PoolAt w c n t) (hg : w.grownBy w' (some row)) (hne : c ≠ row) : PoolAt w' c n t := by
  have hb := hg.block c h.1 (by intro e; cases e; exact hne rfl)
  exact ⟨Nat.lt_of_lt_of_le h.1 hg.size, (World.cell?_of_block (a := ⟨c, 0, none⟩) hb).trans h.2.1, (World.cell?_of_block (a := ⟨c, 1, none⟩) hb).trans h.2.2.1, (World.frozen?_of_block (a := ⟨c, 1, none⟩) hb).trans h.2.2.2⟩
theorem grown_none {w w' : World} (hb : Below w.heap.size w w') : w.grownBy w' none := ⟨hb.os, hb.tape, hb.output, hb.size, fun k hk _ => hb.block k hk⟩
section
variable {n : Nat} {t : BitVec 64} {c : Nat} {w : World}
theorem pool_take_full (h : PoolAt w c n t) (hn : 0 < n) (hm : n ≤ 64) (hz : zerosF (openW n t) = 64) : Calls Try.prog 6 #[.pointer (some ⟨c, 0, none⟩)] w fun r w' => r = .returned (.tuple #[.int .i64 0, .int .i64 15]) ∧ PoolAt w' c n t ∧ w.grownBy w' (some c) :=
  (take_full n t c w hn hm h.1 h.2.1 h.2.2.1 hz).mono fun _ _ ⟨a, b⟩ => ⟨a, h.below b, ⟨b.os, b.tape, b.output, b.size, fun k hk _ => b.block k hk⟩⟩
theorem pool_take_one (h : PoolAt w c n t) (hn : 0 < n) (hm : n ≤ 64) {z : Nat} (hz : zerosF (openW n t) = z) (hk : z < 64) : Calls Try.prog 6 #[.pointer (some ⟨c, 0, none⟩)] w fun r w' => r = .returned (.tuple #[.int .i64 (z : Int), .int .i64 0]) ∧ PoolAt w' c n (t ||| 1#64 <<< z) ∧ w.grownBy w' (some c) :=
  (take_one n t c z w hn hm h.1 h.2.1 h.2.2.1 h.2.2.2 hz hk).mono fun _ _ ⟨a, w1, b, e⟩ => by rw [e]; exact ⟨a, h.turned b _⟩
theorem pool_give_bad (h : PoolAt w c n t) (hn : 0 < n) (i : Int) (hi : i < 0 ∨ (n : Int) ≤ i) : Calls Try.prog 7 #[.pointer (some ⟨c, 0, none⟩), .int .i64 i] w fun r w' => r = .returned (.int .i64 2) ∧ PoolAt w' c n t ∧ w.grownBy w' (some c) :=
  (give_bad n t c i w hn h.1 h.2.1 h.2.2.1 hi).mono fun _ _ ⟨a, b⟩ => ⟨a, h.below b, ⟨b.os, b.tape, b.output, b.size, fun k hk _ => b.block k hk⟩⟩
theorem pool_give_none (h : PoolAt w c n t) (hn : 0 < n) (hm : n ≤ 64) (k : Nat) (hk : k < n) (ht : t.getLsbD k = false) : Calls Try.prog 7 #[.pointer (some ⟨c, 0, none⟩), .int .i64 (k : Int)] w fun r w' => r = .returned (.int .i64 13) ∧ PoolAt w' c n t ∧ w.grownBy w' (some c) :=
  (give_none n t c k w hn hm h.1 h.2.1 h.2.2.1 hk ht).mono fun _ _ ⟨a, b⟩ => ⟨a, h.below b, ⟨b.os, b.tape, b.output, b.size, fun k hk _ => b.block k hk⟩⟩
theorem pool_give_one (h : PoolAt w c n t) (hn : 0 < n) (hm : n ≤ 64) (k : Nat) (hk : k < n) (ht : t.getLsbD k = true) : Calls Try.prog 7 #[.pointer (some ⟨c, 0, none⟩), .int .i64 (k : Int)] w fun r w' => r = .returned (.int .i64 0) ∧ PoolAt w' c n (t &&& ~~~(1#64 <<< k)) ∧ w.grownBy w' (some c) :=
  (give_one n t c k w hn hm h.1 h.2.1 h.2.2.1 h.2.2.2 hk ht).mono fun _ _ ⟨a, w1, b, e⟩ => by rw [e]; exact ⟨a, h.turned b _⟩
theorem pool_all (h : PoolAt w c n t) (hn : 0 < n) (hm : n ≤ 64) (hs : bset n t) : Calls Try.prog 10 #[.pointer (some ⟨c, 0, none⟩)] w fun r w' => ∃ v, r = .returned v ∧ Below w.heap.size w w' ∧ w'.ownsRow w.heap.size 3 1 v (onesTo t n).length (valsN (onesTo t n)) :=
  (all_made n t c w hn h.1 h.2.1 h.2.2.1).mono fun _ _ ⟨v, a, b, q⟩ => ⟨v, a, b, by rw [← ones_n hs hm]; exact q⟩
theorem pool_free (h : PoolAt w c n t) (hn : 0 < n) (hm : n ≤ 64) (hs : bset n t) : Calls Try.prog 8 #[.pointer (some ⟨c, 0, none⟩)] w fun r w' => r = .returned (.int .i64 ((n : Int) - ((onesTo t n).length : Int))) ∧ Below w.heap.size w w' :=
  (free_made n t c w hn hm h.1 h.2.1 h.2.2.1).mono fun _ _ ⟨a, b⟩ => ⟨by rw [← ones_n hs hm]; exact a, b⟩
theorem pool_taken_no (h : PoolAt w c n t) (hn : 0 < n) (hm : n ≤ 64) (i : Int) (hi : i < 0 ∨ (n : Int) ≤ i) : Calls Try.prog 9 #[.pointer (some ⟨c, 0, none⟩), .int .i64 i] w fun r w' => r = .returned (.bool false) ∧ Below w.heap.size w w' :=
  (taken_made n t c i w hn hm h.1 h.2.1 h.2.2.1).mono fun _ _ ⟨a, b⟩ => ⟨by
    rw [a]
    by_cases q : 0 ≤ i
    · rw [decide_eq_true q, decide_eq_false (by omega)]; rfl
    · rw [decide_eq_false q]; rfl, b⟩
theorem pool_taken_at (h : PoolAt w c n t) (hn : 0 < n) (hm : n ≤ 64) (k : Nat) (hk : k < n) : Calls Try.prog 9 #[.pointer (some ⟨c, 0, none⟩), .int .i64 (k : Int)] w fun r w' => r = .returned (.bool (t.getLsbD k)) ∧ Below w.heap.size w w' :=
  (taken_made n t c (k : Int) w hn hm h.1 h.2.1 h.2.2.1).mono fun _ _ ⟨a, b⟩ => ⟨by
    rw [a, decide_eq_true (by omega), decide_eq_true (by omega)]; rfl, b⟩
end
/-- The document's pool. -/
def RowAt (w : World) (n₀ g cap n : Nat) (t : BitVec 64) : Prop := w.ownsRow n₀ 4 1 (.slice (some ⟨g, 0, none⟩) n cap) n (vb (bitsN n t))
theorem RowAt.below {w w' : World} {n₀ g cap n : Nat} {t : BitVec 64} (h : RowAt w n₀ g cap n t) (hb : Below w.heap.size w w') : RowAt w' n₀ g cap n t := owns_below h hb
theorem RowAt.grown {w w' : World} {n₀ g cap n c : Nat} {t : BitVec 64} (h : RowAt w n₀ g cap n t) (hg : w.grownBy w' (some c)) (hc : c < n₀) : RowAt w' n₀ g cap n t :=
  World.ownsRow.kept h hg (.inr (by intro e; have := (World.ownsRow.lt h c e).1; omega))
theorem RowAt.lower {w : World} {n₀ n₁ g cap n : Nat} {t : BitVec 64} (h : RowAt w n₀ g cap n t) (hn : n₁ ≤ n₀) : RowAt w n₁ g cap n t := by
  refine ⟨h.1, ?_⟩
  rcases h.2 with a | ⟨g', cap', cur, a, b, r⟩
  · exact .inl a
  · exact .inr ⟨g', cap', cur, a, Nat.le_trans hn b, r⟩
theorem RowAt.lt {w : World} {n₀ g cap n : Nat} {t : BitVec 64} (h : RowAt w n₀ g cap n t) : n₀ ≤ g ∧ g < w.heap.size := World.ownsRow.lt h g rfl
theorem RowAt.cell {w : World} {n₀ g cap n : Nat} {t : BitVec 64} (h : RowAt w n₀ g cap n t) (k : Nat) (hk : k < n) : w.cell? ⟨g, k, none⟩ = some (.bool (t.getLsbD k)) := by
  rw [World.ownsRow.cellAt h k (by omega), vb_at _ k (by rw [bitsN_len]; exact hk), bitsN_getD n t k hk]
section
variable {n : Nat} {t : BitVec 64} {n₀ g cap : Nat} {w : World}
theorem row_of {v : Value} {bs : List Bool} {w : World} {n₀ n : Nat} (hn : 0 < n) (h : w.ownsRow n₀ 4 1 v n (vb (bitsN n t))) : ∃ g cap, v = .slice (some ⟨g, 0, none⟩) n cap ∧ RowAt w n₀ g cap n t := by
  obtain ⟨m, rfl⟩ : ∃ m, n = m + 1 := ⟨n - 1, by omega⟩
  obtain ⟨g, cap, rfl⟩ := ownsRow_succ h
  exact ⟨g, cap, rfl, h⟩
theorem row_new (hn : 0 < n) (hm : n ≤ 64) (w : World) : Calls Try.prog 12 #[.int .i64 (n : Int)] w fun r w' => ∃ g cap, r = .returned (.tuple #[.slice (some ⟨g, 0, none⟩) n cap, .int .i64 0]) ∧ Below w.heap.size w w' ∧ RowAt w' w.heap.size g cap n 0#64 :=
  (rnew_good n hn hm w).mono fun _ _ ⟨v, a, b, h⟩ => by
    rw [← bitsN_zero] at h
    obtain ⟨g, cap, rfl, q⟩ := row_of (bs := []) hn h
    exact ⟨g, cap, a, b, q⟩
theorem row_take_full (h : RowAt w n₀ g cap n t) (hm : n ≤ 64) (hl : ∀ i, i < n → t.getLsbD i = true) : Calls Try.prog 13 #[.slice (some ⟨g, 0, none⟩) n cap] w fun r w' => r = .returned (.tuple #[.slice (some ⟨g, 0, none⟩) n cap, .int .i64 0, .int .i64 15]) ∧ Below w.heap.size w w' := by
  have := rtake_any (bitsN n t) n₀ g cap n w (by rw [bitsN_len]; exact h) (by rw [bitsN_len]; exact hm) (by rw [bitsN_len]; omega) (fun i hi => by rw [bitsN_getD n t i hi]; exact hl i hi) (fun q => by rw [bitsN_len] at q; omega)
  rw [bitsN_len] at this
  refine this.mono ?_
  rintro r w' ⟨a, ⟨-, b⟩ | ⟨b, -⟩⟩
  · exact ⟨b, a⟩
  · omega
theorem row_take_one (h : RowAt w n₀ g cap n t) (hm : n ≤ 64) (z : Nat) (hz : z < n) (hf : t.getLsbD z = false) (hl : ∀ i, i < z → t.getLsbD i = true) : Calls Try.prog 13 #[.slice (some ⟨g, 0, none⟩) n cap] w fun r w' => ∃ g' cap', r = .returned (.tuple #[.slice (some ⟨g', 0, none⟩) n cap', .int .i64 (z : Int), .int .i64 0]) ∧ Below w.heap.size w w' ∧ RowAt w' w.heap.size g' cap' n (t ||| 1#64 <<< z) := by
  have := rtake_any (bitsN n t) n₀ g cap z w (by rw [bitsN_len]; exact h) (by rw [bitsN_len]; exact hm) (by rw [bitsN_len]; omega) (fun i hi => by rw [bitsN_getD n t i (by omega)]; exact hl i hi) (fun q => by rw [bitsN_getD n t z hz]; exact hf)
  rw [bitsN_len] at this
  refine this.mono ?_
  rintro r w' ⟨a, ⟨b, -⟩ | ⟨b, v, rfl, q⟩⟩
  · omega
  · rw [bitsN_put n t z (by omega)] at q
    obtain ⟨g', cap', rfl, q'⟩ := row_of (bs := []) (by omega) q
    exact ⟨g', cap', rfl, a, q'⟩
theorem row_give_bad (hm : n ≤ 64) (i : Int) (hi : i < 0 ∨ (n : Int) ≤ i) : Calls Try.prog 14 #[.slice (some ⟨g, 0, none⟩) n cap, .int .i64 i] w fun r w' => r = .returned (.tuple #[.slice (some ⟨g, 0, none⟩) n cap, .int .i64 2]) ∧ Below w.heap.size w w' :=
  rgive_bad _ n cap _ i w rfl hm hi
theorem row_give_none (h : RowAt w n₀ g cap n t) (hm : n ≤ 64) (k : Nat) (hk : k < n) (hf : t.getLsbD k = false) : Calls Try.prog 14 #[.slice (some ⟨g, 0, none⟩) n cap, .int .i64 (k : Int)] w fun r w' => r = .returned (.tuple #[.slice (some ⟨g, 0, none⟩) n cap, .int .i64 13]) ∧ Below w.heap.size w w' := by
  have := rgive_none (bitsN n t) n₀ g cap k w (by rw [bitsN_len]; exact h) (by rw [bitsN_len]; exact hm) (by rw [bitsN_len]; exact hk) (by rw [bitsN_getD n t k hk]; exact hf)
  rw [bitsN_len] at this
  exact this
theorem row_give_one (h : RowAt w n₀ g cap n t) (hm : n ≤ 64) (k : Nat) (hk : k < n) (hf : t.getLsbD k = true) : Calls Try.prog 14 #[.slice (some ⟨g, 0, none⟩) n cap, .int .i64 (k : Int)] w fun r w' => ∃ g' cap', r = .returned (.tuple #[.slice (some ⟨g', 0, none⟩) n cap', .int .i64 0]) ∧ Below w.heap.size w w' ∧ RowAt w' w.heap.size g' cap' n (t &&& ~~~(1#64 <<< k)) := by
  have := rgive_one (bitsN n t) n₀ g cap k w (by rw [bitsN_len]; exact h) (by rw [bitsN_len]; exact hm) (by rw [bitsN_len]; exact hk) (by rw [bitsN_getD n t k hk]; exact hf)
  rw [bitsN_len] at this
  refine this.mono ?_
  rintro r w' ⟨v, rfl, a, q⟩
  rw [bitsN_drop n t k (by omega)] at q
  obtain ⟨g', cap', rfl, q'⟩ := row_of (bs := []) (by omega) q
  exact ⟨g', cap', rfl, a, q'⟩
theorem row_all (h : RowAt w n₀ g cap n t) (hm : n ≤ 64) : Calls Try.prog 15 #[.slice (some ⟨g, 0, none⟩) n cap] w fun r w' => ∃ v, r = .returned v ∧ Below w.heap.size w w' ∧ w'.ownsRow w.heap.size 3 1 v (onesTo t n).length (valsN (onesTo t n)) :=
  rall_any t n n₀ g cap w h hm
end
end Go.Proofs.Ytaiahdhdalgiaaa
