
/-
  A device and the document's, side by side: each call by what it answers.
-/
import Derived.Test.YtiajkhlcmblfpaaRefBlock
namespace Go.Proofs.Ytiajkhlcmblfpaa
open Go Go.RowKit
set_option linter.unusedVariables false
set_option linter.unusedSimpArgs false

/-- A device of n blocks that have the bytes of f, whose rows lie behind r; lf calls are to fail. -/
def DevR (w : World) (r c bm n q : Nat) (lf : Int) (f : Nat → ByteArray) : Prop :=
  DevC w c bm n lf ∧ bm < c ∧ c < r ∧ r < w.heap.size ∧ lf ≤ 9223372036854775807 ∧ ∃ v, MapV w bm n q v ∧ ∀ k, k < n → (v k = .slice none 0 0 ∧ f k = zeroS) ∨ RowS w (r + 1) (v k) (f k)
section
variable {w : World} {r c bm n q : Nat} {lf : Int} {f : Nat → ByteArray}
theorem DevR.below {w' : World} (h : DevR w r c bm n q lf f) (hb : Below w.heap.size w w') : DevR w' r c bm n q lf f := by
  obtain ⟨h1, h2, h3, h4, h5, v, h6, h7⟩ := h
  exact ⟨h1.below hb, h2, h3, Nat.lt_of_lt_of_le h4 hb.size, h5, v, h6.below hb, fun k hk => (h7 k hk).imp id fun x => x.below hb⟩
theorem DevR.setRef (h : DevR w r c bm n q lf f) (o : Nat) (u : Value) : DevR (w.setCell ⟨r, o, none⟩ u) r c bm n q lf f := by
  obtain ⟨h1, h2, h3, h4, h5, v, h6, h7⟩ := h
  have hg : w.grownBy (w.setCell ⟨r, o, none⟩ u) (some r) := ⟨rfl, rfl, rfl, by simp, fun k _ hk => heap_setCell_other w ⟨r, o, none⟩ k _ (fun e => hk (by simp [e]))⟩
  exact ⟨h1.grown hg (by omega), h2, h3, by simpa using h4, h5, v, h6.setCell (by show bm ≠ r; omega) _, fun k hk => (h7 k hk).imp id fun x => x.grown hg (by omega)⟩
theorem DevR.turned (h : DevR w r c bm n q lf f) (x : Int) (hx : x ≤ 9223372036854775807) : DevR (w.setCell ⟨c, 2, none⟩ (.int .i64 x)) r c bm n q x f ∧ w.grownBy (w.setCell ⟨c, 2, none⟩ (.int .i64 x)) (some c) := by
  obtain ⟨h1, h2, h3, h4, h5, v, h6, h7⟩ := h
  have hg : w.grownBy (w.setCell ⟨c, 2, none⟩ (.int .i64 x)) (some c) := ⟨rfl, rfl, rfl, by simp, fun k _ hk => heap_setCell_other w ⟨c, 2, none⟩ k _ (fun e => hk (by simp [e]))⟩
  exact ⟨⟨h1.turned x, h2, h3, by simpa using h4, hx, v, h6.setCell (by show bm ≠ c; omega) _, fun k hk => (h7 k hk).imp id fun x => x.grown hg (by omega)⟩, hg⟩
theorem DevR.made (n : Nat) (w : World) {w' : World} {r : Nat} (hb : Below (w.heap.size + 2) ((w.alloc (.map #[] 0)).alloc (.cells #[.int .i64 (n : Int), .map (some w.heap.size), .int .i64 0] 48)) w') (hr : w.heap.size + 2 ≤ r) (hr2 : r < w'.heap.size) : DevR w' r (w.heap.size + 1) w.heap.size n 0 0 (fun _ => zeroS) := by
  have hb2 : Below ((w.alloc (.map #[] 0)).alloc (.cells #[.int .i64 (n : Int), .map (some w.heap.size), .int .i64 0] 48)).heap.size ((w.alloc (.map #[] 0)).alloc (.cells #[.int .i64 (n : Int), .map (some w.heap.size), .int .i64 0] 48)) w' := by simpa using hb
  obtain ⟨h1, h2, -⟩ := dev_made n w
  exact ⟨h1.below hb2, h2, by omega, hr2, by omega, _, ((MapV.made w n).alloc _).below hb2, fun k hk => .inl ⟨rfl, rfl⟩⟩
/-- What a call turned: a block of the device's own, or nothing that was there. -/
def Kept (w w' : World) (c bm : Nat) : Prop := w.grownBy w' (some c) ∨ w.grownBy w' (some bm)
theorem Kept.of_below {w' : World} (hb : Below w.heap.size w w') : Kept w w' c bm := .inl ⟨hb.os, hb.tape, hb.output, hb.size, fun k hk _ => hb.block k hk⟩
theorem Kept.size {w' : World} (h : Kept w w' c bm) : w.heap.size ≤ w'.heap.size := by rcases h with h | h <;> exact h.size
theorem Kept.cell {w' : World} (h : Kept w w' c bm) {x : Addr} (hx : x.block < w.heap.size) (h1 : x.block ≠ c) (h2 : x.block ≠ bm) : w'.cell? x = w.cell? x := by
  rcases h with h | h
  · exact h.cell_far x hx (fun e => h1 (Option.some.inj e))
  · exact h.cell_far x hx (fun e => h2 (Option.some.inj e))
theorem Kept.frozen {w' : World} (h : Kept w w' c bm) {x : Addr} (hx : x.block < w.heap.size) (h1 : x.block ≠ c) (h2 : x.block ≠ bm) : w'.frozen? x = w.frozen? x := by
  rcases h with h | h
  · exact h.frozen_far x hx (fun e => h1 (Option.some.inj e))
  · exact h.frozen_far x hx (fun e => h2 (Option.some.inj e))
theorem Kept.row {w' : World} (h : Kept w w' c bm) {n₀ g cap : Nat} (hr : RowB w n₀ g cap n f) (h1 : c < n₀) (h2 : bm < n₀) : RowB w' n₀ g cap n f := by
  rcases h with h | h
  · exact hr.grown h h1
  · exact hr.grown h h2
theorem Kept.bytes {w' : World} (h : Kept w w' c bm) {n₀ : Nat} {v : Value} {s : ByteArray} (hr : RowS w n₀ v s) (h1 : c < n₀) (h2 : bm < n₀) : RowS w' n₀ v s := by
  rcases h with h | h
  · exact hr.grown h h1
  · exact hr.grown h h2
theorem Kept.below {w0 w' : World} (h : Kept w w' c bm) {B : Nat} (hb : Below B w0 w) (hB : B ≤ w.heap.size) (h1 : B ≤ c) (h2 : B ≤ bm) : Below B w0 w' := by
  rcases h with h | h
  · exact hb.grown h hB (fun j e => by cases e; exact h1)
  · exact hb.grown h hB (fun j e => by cases e; exact h2)
/-- What is told as a string. -/
def StrOf (w : World) (v : Value) (s : ByteArray) : Prop := ∃ a cap, v = .slice a s.size cap ∧ ∀ w', Below w.heap.size w w' → (convert 26 9 v).run Try.prog w' = .ok (.string s) w'
theorem StrOf.row {n₀ : Nat} {v : Value} {s : ByteArray} (h : RowS w n₀ v s) : StrOf w v s := by
  obtain ⟨g, cap, rfl, -, -⟩ := h.form
  refine ⟨some ⟨g, 0, none⟩, cap, by rw [h.1], fun w' hb => ?_⟩
  have hb2 := (h.below hb).bytes
  have := Lib.run_convert_whole (P := Try.prog) w' 26 5 9 Try.underlying26 Try.underlying5 Try.underlying9 g 0 s hb2 cap
  rw [h.1] at this
  exact this
theorem StrOf.src {g off cap : Nat} {s : ByteArray} (h : SrcAt w g off s) : StrOf w (.slice (some ⟨g, off, none⟩) s.size cap) s :=
  ⟨_, _, rfl, fun w' hb => Lib.run_convert_whole (P := Try.prog) w' 26 5 9 Try.underlying26 Try.underlying5 Try.underlying9 g off s (fun i hi => (h.below hb).2 i _ (byV_at s i hi)) cap⟩
theorem conv_empty (a : Option Addr) (cap : Nat) (w' : World) : (convert 26 9 (.slice a 0 cap)).run Try.prog w' = .ok (.string ⟨#[]⟩) w' := by
  cases a with
  | none =>
    simp [convert, run_underlying Try.underlying26, run_underlying Try.underlying5, run_underlying Try.underlying9, Conv.bytesToString]
    rfl
  | some x =>
    simp [convert, run_underlying Try.underlying26, run_underlying Try.underlying5, run_underlying Try.underlying9, Conv.bytesToString, go_sem]
    rfl
theorem StrOf.empty (a : Option Addr) (cap : Nat) : StrOf w (.slice a 0 cap) ⟨#[]⟩ := ⟨a, cap, rfl, fun w' _ => conv_empty a cap w'⟩
theorem StrOf.kept {w' : World} {v : Value} {s : ByteArray} (h : StrOf w v s) (hb : Below w.heap.size w w') : StrOf w' v s := by
  obtain ⟨a, cap, e, hc⟩ := h
  exact ⟨a, cap, e, fun w2 hb2 => hc w2 (hb.trans (hb2.mono hb.size))⟩
/-- The bytes that are written: where they are, if they are a block. -/
def InOf (w : World) (v : Value) (s : ByteArray) : Prop := ∃ a cap, v = .slice a s.size cap ∧ (s.size = 4096 → ∃ g off, a = some ⟨g, off, none⟩ ∧ SrcAt w g off s)
theorem InOf.row {n₀ : Nat} {v : Value} {s : ByteArray} (h : RowS w n₀ v s) : InOf w v s := by
  obtain ⟨g, cap, rfl, -, -⟩ := h.form
  exact ⟨_, cap, by rw [h.1], fun _ => ⟨g, 0, rfl, h.src⟩⟩
theorem r_fail (h : DevR w r c bm n q lf f) (x : Int) (hx : x ≤ 9223372036854775807) : Calls Try.prog 9 #[.pointer (some ⟨c, 0, none⟩), .int .i64 x] w fun e w' => e = .returned (.tuple #[]) ∧ DevR w' r c bm n q x f ∧ Kept w w' c bm :=
  (fail_made h.1 x).mono fun _ _ ⟨a, b⟩ => by rw [b]; exact ⟨a, (h.turned x hx).1, .inl (h.turned x hx).2⟩
theorem r_blocks (h : DevR w r c bm n q lf f) : Calls Try.prog 12 #[.pointer (some ⟨c, 0, none⟩)] w fun e w' => e = .returned (.int .i64 (n : Int)) ∧ w = w' := blocks_made h.1
theorem r_write (h : DevR w r c bm n q lf f) (hn : n ≤ 64) (hq : q < 1000) (k : Int) (v : Value) (s : ByteArray) (hv : InOf w v s) : Calls Try.prog 8 #[.pointer (some ⟨c, 0, none⟩), .int .i64 k, v] w fun e w' => e = .returned (.int .i64 (stepW n lf f k s).1) ∧ (∃ q', q' ≤ q + 1 ∧ DevR w' r c bm n q' (stepW n lf f k s).2.1 (stepW n lf f k s).2.2) ∧ Kept w w' c bm := by
  obtain ⟨a, cap, rfl, hs⟩ := hv
  by_cases ca : k < 0 ∨ (n : Int) ≤ k ∨ s.size ≠ 4096
  · refine (write_arg h.1 k a s.size cap ca).mono ?_
    rintro e w' ⟨rfl, hb⟩
    rw [stepW, if_pos ca]
    exact ⟨rfl, ⟨q, by omega, h.below hb⟩, .of_below hb⟩
  · obtain ⟨j, rfl⟩ : ∃ j : Nat, k = (j : Int) := ⟨k.toNat, by omega⟩
    have hsz : s.size = 4096 := by omega
    obtain ⟨g, off, rfl, hsrc⟩ := hs hsz
    rw [hsz]
    by_cases cl : 0 < lf
    · refine (write_fail h.1 j (by omega) cl h.2.2.2.2.1 _ cap).mono ?_
      rintro e w' ⟨rfl, w1, hb, rfl⟩
      rw [stepW, if_neg ca, if_pos cl]
      have ht := (h.below hb).turned (lf - 1) (by have := h.2.2.2.2.1; omega)
      exact ⟨rfl, ⟨q, by omega, ht.1⟩, .inl (grown_trans hb ht.2)⟩
    · obtain ⟨h1, h2, h3, h4, h5, v, h6, h7⟩ := h
      refine (write_ok h1 h6 (by omega) hn hq j (by omega) (by omega) g off cap s hsz hsrc).mono ?_
      rintro e w' ⟨rfl, u, hM, hR, hg⟩
      rw [stepW, if_neg ca, if_neg cl, Int.toNat_natCast]
      refine ⟨rfl, ⟨q + 1, by omega, h1.grown hg (by omega), h2, h3, Nat.lt_of_lt_of_le h4 hg.size, h5, _, hM, fun i hi => ?_⟩, .inr hg⟩
      dsimp only
      by_cases e : i = j
      · rw [if_pos e, if_pos e]
        exact .inr (hR.lower (by omega))
      · rw [if_neg e, if_neg e]
        exact (h7 i hi).imp id fun x => x.grown hg (by omega)
theorem r_read (h : DevR w r c bm n q lf f) (hn : n ≤ 64) (k : Int) : Calls Try.prog 10 #[.pointer (some ⟨c, 0, none⟩), .int .i64 k] w fun e w' => ∃ v, e = .returned (.tuple #[v, .int .i64 (stepR n lf f k).1]) ∧ DevR w' r c bm n q (stepR n lf f k).2.1 f ∧ Kept w w' c bm ∧ StrOf w' v (stepR n lf f k).2.2 ∧ (0 ≤ k → k < n → lf ≤ 0 → (f k.toNat).size = 4096) := by
  by_cases ca : k < 0 ∨ (n : Int) ≤ k
  · refine (read_arg h.1 k ca).mono ?_
    rintro e w' ⟨rfl, hb⟩
    rw [stepR, if_pos ca]
    exact ⟨_, rfl, h.below hb, .of_below hb, .empty _ _, fun a b => by omega⟩
  · obtain ⟨j, rfl⟩ : ∃ j : Nat, k = (j : Int) := ⟨k.toNat, by omega⟩
    by_cases cl : 0 < lf
    · refine (read_fail h.1 j (by omega) cl h.2.2.2.2.1).mono ?_
      rintro e w' ⟨rfl, w1, hb, rfl⟩
      rw [stepR, if_neg ca, if_pos cl]
      have ht := (h.below hb).turned (lf - 1) (by have := h.2.2.2.2.1; omega)
      exact ⟨_, rfl, ht.1, .inl (grown_trans hb ht.2), .empty _ _, fun _ _ => by omega⟩
    · have hh := h
      obtain ⟨h1, h2, h3, h4, h5, v, h6, h7⟩ := h
      rw [stepR, if_neg ca, if_neg cl, Int.toNat_natCast]
      rcases h7 j (by omega) with ⟨a, b⟩ | x
      · refine (read_none h1 h6 hn j (by omega) (by omega) a).mono ?_
        rintro e w' ⟨u, rfl, hb, hR⟩
        rw [b]
        exact ⟨u, rfl, hh.below hb, .of_below hb, .row hR, fun _ _ _ => hR.1⟩
      · obtain ⟨g, cap, e, -, -⟩ := x.form
        rw [e] at x
        refine (read_some h1 h6 hn j (by omega) (by omega) _ g cap (f j) e x).mono ?_
        rintro e w' ⟨u, rfl, hb, hR⟩
        exact ⟨u, rfl, hh.below hb, .of_below hb, .row hR, fun _ _ _ => hR.1⟩
end
section
variable {w : World} {n₀ g cap n : Nat} {f : Nat → ByteArray} {lf : Int}
theorem b_write (hown : RowB w n₀ g cap n f) (h0 : 0 < n) (hn : n ≤ 64) (hl : lf ≤ 9223372036854775807) (hn₀ : n₀ ≤ w.heap.size) {r : Nat} (hr : g ≠ r) (hrw : r < w.heap.size) (k : Int) (s : ByteArray) : Calls Try.prog 13 #[.agg #[.slice (some ⟨g, 0, none⟩) n cap, .int .i64 lf], .int .i64 k, .string s] w fun e w' => ∃ g' cap', e = .returned (.tuple #[.agg #[.slice (some ⟨g', 0, none⟩) n cap', .int .i64 (stepW n lf f k s).2.1], .int .i64 (stepW n lf f k s).1]) ∧ Below w.heap.size w w' ∧ RowB w' n₀ g' cap' n (stepW n lf f k s).2.2 ∧ g' ≠ r := by
  by_cases ca : k < 0 ∨ (n : Int) ≤ k ∨ s.size ≠ 4096
  · refine (rbwrite_arg hn k s ca w).mono ?_
    rintro e w' ⟨rfl, hb⟩
    rw [stepW, if_pos ca]
    exact ⟨g, cap, rfl, hb, hown.below hb, hr⟩
  · obtain ⟨j, rfl⟩ : ∃ j : Nat, k = (j : Int) := ⟨k.toNat, by omega⟩
    have hsz : s.size = 4096 := by omega
    by_cases cl : 0 < lf
    · refine (rbwrite_fail hn j (by omega) s hsz cl hl w).mono ?_
      rintro e w' ⟨rfl, hb⟩
      rw [stepW, if_neg ca, if_pos cl]
      exact ⟨g, cap, rfl, hb, hown.below hb, hr⟩
    · refine (rbwrite_ok hown h0 hn j (by omega) s hsz (by omega)).mono ?_
      rintro e w' ⟨g', cap', rfl, hb, hrow⟩
      rw [stepW, if_neg ca, if_neg cl, Int.toNat_natCast]
      exact ⟨g', cap', rfl, hb, hrow.lower hn₀, fun e => by have := (hrow.lt g' rfl).1; omega⟩
theorem b_read (hown : RowB w n₀ g cap n f) (hn : n ≤ 64) (hl : lf ≤ 9223372036854775807) (k : Int) : Calls Try.prog 14 #[.agg #[.slice (some ⟨g, 0, none⟩) n cap, .int .i64 lf], .int .i64 k] w fun e w' => e = .returned (.tuple #[.agg #[.slice (some ⟨g, 0, none⟩) n cap, .int .i64 (stepR n lf f k).2.1], .string (stepR n lf f k).2.2, .int .i64 (stepR n lf f k).1]) ∧ Below w.heap.size w w' := by
  by_cases ca : k < 0 ∨ (n : Int) ≤ k
  · rw [stepR, if_pos ca]
    exact rbread_arg hn k ca w
  · obtain ⟨j, rfl⟩ : ∃ j : Nat, k = (j : Int) := ⟨k.toNat, by omega⟩
    by_cases cl : 0 < lf
    · rw [stepR, if_neg ca, if_pos cl]
      exact rbread_fail hn j (by omega) cl hl w
    · rw [stepR, if_neg ca, if_neg cl, Int.toNat_natCast]
      exact rbread_ok hown hn j (by omega) (by omega)
theorem stepW_le (k : Int) (s : ByteArray) (hl : lf ≤ 9223372036854775807) : (stepW n lf f k s).2.1 ≤ 9223372036854775807 := by
  unfold stepW
  split
  · exact hl
  · split
    · show lf - 1 ≤ _; omega
    · exact hl
theorem stepR_le (k : Int) (hl : lf ≤ 9223372036854775807) : (stepR n lf f k).2.1 ≤ 9223372036854775807 := by
  unfold stepR
  split
  · exact hl
  · split
    · show lf - 1 ≤ _; omega
    · exact hl
end
end Go.Proofs.Ytiajkhlcmblfpaa
