
/-
  BlockPlays: under any steps a device has the document's blocks, and fails when it says. Every input.
-/
import Derived.Test.YtiajkhlcmblfpaaLaw
import Derived.Test.YtiajkhlcmblfpaaBlockR
import Derived.Deep.CutRange
namespace Go.Proofs.Ytiajkhlcmblfpaa.Plays
open Go Go.RowKit Go.ChangeShapes Go.WideShapes Go.ChangeAt
set_option linter.unusedVariables false
set_option linter.unusedSimpArgs false

/-- Bytes that were handed over: what they are, wherever nothing of them was turned. -/
def RawOk (w : World) (v : Value) : Prop := ∃ s : ByteArray, s.size ≤ maxLen ∧ (∃ a cap, v = .slice a s.size cap) ∧ ∀ w', Below w.heap.size w w' → StrOf w' v s ∧ InOf w' v s
theorem raw_open {H : Type} {enc : TypeId × Value → H} {w : World} {base : Nat} {spare : Nat → Bool} {held : Bool} {v : Value} (h : SliceAt enc Try.prog w base spare held 26 v) : RawOk w v := by
  obtain ⟨fuel, x, hf⟩ := h
  have hempty : ∀ (a : Option Addr) (cap : Nat), RawOk w (.slice a 0 cap) := fun a cap => ⟨⟨#[]⟩, Nat.zero_le _, ⟨a, cap, rfl⟩, fun w' hb => ⟨.empty a cap, a, cap, rfl, fun e => by cases e⟩⟩
  rcases Go.Deep.open_slice Try.underlying26 hf with ⟨h0, _⟩ | ⟨a, len, cap, m, n, D, Pl, hcs, hb, hlc, hm, hmm, hx, hi⟩
  · simp only [List.cons.injEq, and_true] at h0
    rw [h0]
    exact hempty _ _
  · simp only [List.cons.injEq, and_true] at hcs
    rw [hcs]
    by_cases hlen : len = 0
    · subst hlen
      exact hempty _ _
    · have hml : len ≤ m := by rw [hmm]; split <;> omega
      have key : ∀ i, i < len → ∃ u : UInt8, w.cell? (a.add i) = some (.int .u8 (u.toNat : Int)) := by
        intro i hil
        obtain ⟨cs', hcell, htr⟩ := hi i (by omega)
        obtain ⟨z, hz, hcs'⟩ := trod_leaves 3 5 [.int .u8] n cs' _ (by kernel_rfl) htr
        obtain ⟨_, _, hat⟩ := World.cells?_some hcell
        have hc1 : Try.prog.cellsOf 5 = 1 := by kernel_rfl
        rw [hc1, Nat.mul_one] at hat
        have hx : 0 ≤ z ∧ z ≤ 255 := by simpa [Lit.wf, IntKind.min, IntKind.max, IntKind.signed, IntKind.bits] using hz
        refine ⟨UInt8.ofNat z.toNat, ?_⟩
        have := hat 0 (by omega)
        rw [hcs', Go.Deep.add_add, Nat.add_zero] at this
        rw [this, UInt8.toNat_ofNat']
        show some (Value.int .u8 z) = _
        congr 2
        omega
      obtain ⟨b, off, spot⟩ := a
      have hs : spot = none ∧ b < w.heap.size := by
        obtain ⟨u, hu⟩ := key 0 (by omega)
        have h3 : w.cell? ⟨b, off, spot⟩ = some (.int .u8 (u.toNat : Int)) := by simpa [Addr.add] using hu
        exact ⟨World.cell?_spot h3, cell_lt h3⟩
      obtain ⟨rfl, hlt⟩ := hs
      obtain ⟨l, hl, hq⟩ := list_of len key
      have hsz : (⟨l.toArray⟩ : ByteArray).size = len := by simp [ByteArray.size, hl]
      have hsrc : SrcAt w b off ⟨l.toArray⟩ := ⟨hlt, fun j u hj => by
        have hjl : j < l.length := by
          by_cases c : j < l.length
          · exact c
          · rw [List.getElem?_eq_none (by rw [byV_len, hsz]; omega)] at hj; cases hj
        have h4 := hq j hjl
        rw [add_off] at h4
        rw [h4, ← hj, byV_at _ j (by rw [hsz]; omega)]
        simp [ByteArray.getElem_eq_getElem_data]⟩
      refine ⟨⟨l.toArray⟩, by rw [hsz]; omega, ⟨_, cap, by rw [hsz]⟩, fun w' hb' => ?_⟩
      have h5 := StrOf.src (cap := cap) (hsrc.below hb')
      rw [hsz] at h5
      exact ⟨h5, _, cap, by rw [hsz], fun _ => ⟨b, off, rfl, hsrc.below hb'⟩⟩
theorem RowB.setRef {w : World} {n₀ g cap n : Nat} {f : Nat → ByteArray} (h : RowB w n₀ g cap n f) {r : Nat} (hr : g ≠ r) (o : Nat) (u : Value) : RowB (w.setCell ⟨r, o, none⟩ u) n₀ g cap n f :=
  h.kept (row := some r) ⟨rfl, rfl, rfl, by simp, fun k _ hk => heap_setCell_other w ⟨r, o, none⟩ k _ (fun e => hk (by simp [e]))⟩ (.inr (by intro e; simp [Value.ownBlock] at e; exact hr e))
/-- A device, and the document's in a cell of its own. -/
def Inv (w wr : World) (r n q : Nat) (lf' : Int) (f' : Nat → ByteArray) (lf : Int) (f : Nat → ByteArray) (g cp : Nat) : Prop :=
  DevR wr r (w.heap.size + 1) w.heap.size n q lf' f' ∧ wr.cell? ⟨r, 0, none⟩ = some (.slice (some ⟨g, 0, none⟩) n cp) ∧ wr.frozen? ⟨r, 0, none⟩ = false ∧ wr.cell? ⟨r, 1, none⟩ = some (.int .i64 lf) ∧ wr.frozen? ⟨r, 1, none⟩ = false ∧ RowB wr (w.heap.size + 2) g cp n f ∧ g ≠ r ∧ Below w.heap.size w wr
section
variable {w wr : World} {r n q : Nat} {lf lf' : Int} {f f' : Nat → ByteArray} {g cp : Nat}
theorem Inv.dev (h : Inv w wr r n q lf' f' lf f g cp) : DevR wr r (w.heap.size + 1) w.heap.size n q lf' f' := h.1
theorem Inv.row (h : Inv w wr r n q lf' f' lf f g cp) : RowB wr (w.heap.size + 2) g cp n f := h.2.2.2.2.2.1
theorem Inv.ne (h : Inv w wr r n q lf' f' lf f g cp) : g ≠ r := h.2.2.2.2.2.2.1
theorem Inv.bel (h : Inv w wr r n q lf' f' lf f g cp) : Below w.heap.size w wr := h.2.2.2.2.2.2.2
theorem Inv.lt (h : Inv w wr r n q lf' f' lf f g cp) : r < wr.heap.size := h.1.2.2.2.1
theorem Inv.gt (h : Inv w wr r n q lf' f' lf f g cp) : w.heap.size + 1 < r := h.1.2.2.1
theorem Inv.le (h : Inv w wr r n q lf' f' lf f g cp) : lf' ≤ 9223372036854775807 := h.1.2.2.2.2.1
theorem Inv.below {w2 : World} (h : Inv w wr r n q lf' f' lf f g cp) (hb : Below wr.heap.size wr w2) : Inv w w2 r n q lf' f' lf f g cp := by
  have hl := h.lt
  obtain ⟨h1, h2, h3, h4, h5, h6, h7, h8⟩ := h
  exact ⟨h1.below hb, (hb.cell (p := ⟨r, 0, none⟩) hl).trans h2, (hb.frozen (p := ⟨r, 0, none⟩) hl).trans h3, (hb.cell (p := ⟨r, 1, none⟩) hl).trans h4, (hb.frozen (p := ⟨r, 1, none⟩) hl).trans h5, h6.below hb, h7, h8.trans (hb.mono h8.size)⟩
theorem Inv.turn {w3 : World} {q2 : Nat} {lf2 : Int} {f2 : Nat → ByteArray} (h : Inv w wr r n q lf' f' lf f g cp) (hD : DevR w3 r (w.heap.size + 1) w.heap.size n q2 lf2 f2) (hK : Kept wr w3 (w.heap.size + 1) w.heap.size) : Inv w w3 r n q2 lf2 f2 lf f g cp := by
  have hl := h.lt
  have hg := h.gt
  obtain ⟨h1, h2, h3, h4, h5, h6, h7, h8⟩ := h
  exact ⟨hD, (hK.cell (x := ⟨r, 0, none⟩) hl (by show r ≠ _; omega) (by show r ≠ _; omega)).trans h2, (hK.frozen (x := ⟨r, 0, none⟩) hl (by show r ≠ _; omega) (by show r ≠ _; omega)).trans h3, (hK.cell (x := ⟨r, 1, none⟩) hl (by show r ≠ _; omega) (by show r ≠ _; omega)).trans h4, (hK.frozen (x := ⟨r, 1, none⟩) hl (by show r ≠ _; omega) (by show r ≠ _; omega)).trans h5, hK.row h6 (by omega) (by omega), h7, hK.below h8 h8.size (by omega) (by omega)⟩
theorem Inv.put {g2 cp2 : Nat} (h : Inv w wr r n q lf' f' lf f g cp) (hr : RowB wr (w.heap.size + 2) g2 cp2 n f') (hne : g2 ≠ r) : Inv w ((wr.setCell ⟨r, 0, none⟩ (.slice (some ⟨g2, 0, none⟩) n cp2)).setCell ⟨r, 1, none⟩ (.int .i64 lf')) r n q lf' f' lf' f' g2 cp2 := by
  have hl := h.lt
  have hg := h.gt
  obtain ⟨h1, h2, h3, h4, h5, h6, h7, h8⟩ := h
  exact ⟨(h1.setRef 0 _).setRef 1 _, by (first | (go_simp; done) | (go_simp; (simp [↓IntWalk.iteOmega]; done)) | (go_simp; intros; omega) | (go_simp; simp [↓IntWalk.iteOmega]; intros; omega)), by (first | (go_simp; done) | (go_simp; (simp [↓IntWalk.iteOmega]; done)) | (go_simp; intros; omega) | (go_simp; simp [↓IntWalk.iteOmega]; intros; omega)), by (first | (go_simp; done) | (go_simp; (simp [↓IntWalk.iteOmega]; done)) | (go_simp; intros; omega) | (go_simp; simp [↓IntWalk.iteOmega]; intros; omega)), by (first | (go_simp; done) | (go_simp; (simp [↓IntWalk.iteOmega]; done)) | (go_simp; intros; omega) | (go_simp; simp [↓IntWalk.iteOmega]; intros; omega)), RowB.setRef (RowB.setRef hr hne 0 _) hne 1 _, hne, (h8.setCell (by show w.heap.size ≤ r; omega) _).setCell (by show w.heap.size ≤ r; omega) _⟩
theorem Inv.left (h : Inv w wr r n q lf' f' lf f' g cp) : Inv w (wr.setCell ⟨r, 1, none⟩ (.int .i64 lf')) r n q lf' f' lf' f' g cp := by
  have hl := h.lt
  have hg := h.gt
  obtain ⟨h1, h2, h3, h4, h5, h6, h7, h8⟩ := h
  exact ⟨h1.setRef 1 _, by (first | (go_simp; done) | (go_simp; (simp [↓IntWalk.iteOmega]; done)) | (go_simp; intros; omega) | (go_simp; simp [↓IntWalk.iteOmega]; intros; omega)), by (first | (go_simp; done) | (go_simp; (simp [↓IntWalk.iteOmega]; done)) | (go_simp; intros; omega) | (go_simp; simp [↓IntWalk.iteOmega]; intros; omega)), by (first | (go_simp; done) | (go_simp; (simp [↓IntWalk.iteOmega]; done)) | (go_simp; intros; omega) | (go_simp; simp [↓IntWalk.iteOmega]; intros; omega)), by (first | (go_simp; done) | (go_simp; (simp [↓IntWalk.iteOmega]; done)) | (go_simp; intros; omega) | (go_simp; simp [↓IntWalk.iteOmega]; intros; omega)), RowB.setRef h6 h7 1 _, h7, h8.setCell (by show w.heap.size ≤ r; omega) _⟩
end
theorem dnew_dev (n : Nat) (h1 : 0 < n) (h2 : n ≤ 64) (w : World) : Calls Try.prog 6 #[.int .i64 (n : Int)] w fun r w' => ∃ c bm, r = .returned (.tuple #[.pointer (some ⟨c, 0, none⟩), .int .i64 0]) ∧ DevAt w' c bm n 0 0 (fun _ => zeroS) ∧ Below w.heap.size w w' :=
  (dnew_good n h1 h2 w).mono fun r w' h => by
    obtain ⟨rfl, rfl⟩ := h
    exact ⟨_, _, rfl, dev_made n w, ((Below.refl _ w).alloc (Nat.le_refl _) _).alloc (by simp) _⟩
set_option maxHeartbeats 400000 in
set_option maxRecDepth 100000 in
theorem walk_bad (n : Int) (l : Value) (h : n < 1 ∨ 64 < n) (w : World) : Calls Try.prog 4 #[.int .i64 n, l] w fun r w' => r = .returned (.bool true) ∧ Below w.heap.size w w' := by
  go_enter Try.func4, Try.ntmps4
  go_wp2_with fail
  refine (dnew_bad n h _).mono ?_
  rintro e w' ⟨rfl, rfl⟩
  go_wp2_with fail
  refine (rbnew_bad n h _).mono ?_
  rintro e w1 ⟨rfl, hb1⟩
  go_wp2_with fail
  refine (dnew_dev 1 (by decide) (by decide) _).mono ?_
  rintro e w2 ⟨c, bm, rfl, hd, hb2⟩
  go_wp2_with fail
  refine (blocks_made hd.1).mono ?_
  rintro e w' ⟨rfl, rfl⟩
  go_wp2_with fail
  go_ret
  refine ⟨rfl, (hb1.alloc hb1.size _).trans (hb2.mono ?_)⟩
  have := hb1.size
  simp
  omega
theorem exists_byte (x : Int) (h : (Lit.int .u8 x).wf = true) : ∃ b : UInt8, x = (b.toNat : Int) := by
  have hx : 0 ≤ x ∧ x ≤ 255 := by simpa [Lit.wf, IntKind.min, IntKind.max, IntKind.signed, IntKind.bits] using h
  refine ⟨UInt8.ofNat x.toNat, ?_⟩
  rw [UInt8.toNat_ofNat']
  omega
def ActAt (w : World) (b off k : Nat) (kd nn at' : Int) (bt : UInt8) (raw : Value) : Prop :=
  w.cell? ⟨b, off + k * 5, none⟩ = some (.int .i64 kd) ∧ w.cell? ⟨b, off + k * 5 + 1, none⟩ = some (.int .i64 nn) ∧ w.cell? ⟨b, off + k * 5 + 2, none⟩ = some (.int .i64 at') ∧ w.cell? ⟨b, off + k * 5 + 3, none⟩ = some (.int .u8 (bt.toNat : Int)) ∧ w.cell? ⟨b, off + k * 5 + 4, none⟩ = some raw
set_option maxHeartbeats 8000000 in
set_option maxRecDepth 100000 in
theorem walk_empty (n : Nat) (h1 : 0 < n) (h2 : n ≤ 64) (a : Option Addr) (cap : Nat) (w : World) : Calls Try.prog 4 #[.int .i64 (n : Int), .slice a 0 cap] w fun r w' => r = .returned (.bool true) ∧ Below w.heap.size w w' := by
  go_enter Try.func4, Try.ntmps4
  go_wp2_with fail
  refine (dnew_good n h1 h2 _).mono ?_
  rintro e w' ⟨rfl, rfl⟩
  go_wp2_with fail
  refine (rbnew_good n h1 h2 _).mono ?_
  rintro e w1 ⟨g0, cp0, rfl, hb1, hr1⟩
  have hsz1 := hb1.size
  simp only [World.size_alloc] at hb1 hr1 hsz1
  have hlt1 := (hr1.lt g0 rfl).2
  have HI0 : Hid (Inv w (w1.alloc (.cells #[.slice (some ⟨g0, 0, none⟩) n cp0, .int .i64 0] 38)) w1.heap.size n 0 0 (fun _ => zeroS) 0 (fun _ => zeroS) g0 cp0) :=
    Lib.hid ⟨DevR.made n w (hb1.alloc hsz1 _) hsz1 (by simp), by (first | (go_simp; done) | (go_simp; (simp [↓IntWalk.iteOmega]; done)) | (go_simp; intros; omega) | (go_simp; simp [↓IntWalk.iteOmega]; intros; omega)), by (first | (go_simp; done) | (go_simp; (simp [↓IntWalk.iteOmega]; done)) | (go_simp; intros; omega) | (go_simp; simp [↓IntWalk.iteOmega]; intros; omega)), by (first | (go_simp; done) | (go_simp; (simp [↓IntWalk.iteOmega]; done)) | (go_simp; intros; omega) | (go_simp; simp [↓IntWalk.iteOmega]; intros; omega)), by (first | (go_simp; done) | (go_simp; (simp [↓IntWalk.iteOmega]; done)) | (go_simp; intros; omega) | (go_simp; simp [↓IntWalk.iteOmega]; intros; omega)), RowB.below hr1 ((Below.refl _ _).alloc (Nat.le_refl _) _), by omega, ((((Below.refl _ w).alloc (Nat.le_refl _) _).alloc (by simp) _).trans (hb1.mono (by omega))).alloc (by omega) _⟩
  clear hr1
  generalize hr : w1.heap.size = r at HI0 hsz1 hlt1
  go_wp2_with fail
  generalize w1.alloc (.cells #[.slice (some ⟨g0, 0, none⟩) n cp0, .int .i64 0] 38) = w2 at HI0
  clear hr hb1 hsz1 hlt1
  refine wp_loop_rounds 1 ?_
  rw [rounds_succ]
  have hI := HI0.out
  have hst : stepR n 0 (fun _ => zeroS) 0 = (0, 0, zeroS) := by
    unfold stepR
    rw [if_neg (by omega), if_neg (by omega)]
  have cf := r_fail hI.dev 0 (by omega)
  have hbel := hI.bel
  go_wp2_with fail
  refine cf.mono ?_
  rintro e w4 ⟨rfl, hD, hK⟩
  have cr := r_read hD h2 0
  rw [hst] at cr
  go_wp2_with fail
  refine cr.mono ?_
  rintro e w5 ⟨v, rfl, hD5, hK5, ⟨av, cv, rfl, hS⟩, hz⟩
  rw [zeroS_size]
  have cbk := r_blocks hD5
  have hnn : ((n : Int) == (n : Int)) = true := by simp
  go_wp2_with fail
  refine cbk.mono ?_
  rintro e w' ⟨rfl, rfl⟩
  go_wp2_with fail
  go_ret
  exact ⟨rfl, hK5.below (hK.below hbel hbel.size (by omega) (by omega)) (Nat.le_trans hbel.size hK.size) (by omega) (by omega)⟩
set_option maxHeartbeats 8000000 in
set_option maxRecDepth 100000 in
theorem walk_good (n : Nat) (h1 : 0 < n) (h2 : n ≤ 64) (b off len cap : Nat) (w : World) (hcm : cap ≤ maxLen) (hlc : len ≤ cap) (hb : b < w.heap.size) (hl : ∀ k, k < len → ∃ (kd nn at' : Int) (bt : UInt8) (raw : Value), nn ≤ 9223372036854775807 ∧ ActAt w b off k kd nn at' bt raw ∧ RawOk w raw) : Calls Try.prog 4 #[.int .i64 (n : Int), .slice (some ⟨b, off, none⟩) len cap] w fun r w' => r = .returned (.bool true) ∧ Below w.heap.size w w' := by
  unfold maxLen at hcm
  go_enter Try.func4, Try.ntmps4
  go_wp2_with fail
  refine (dnew_good n h1 h2 _).mono ?_
  rintro e w' ⟨rfl, rfl⟩
  go_wp2_with fail
  refine (rbnew_good n h1 h2 _).mono ?_
  rintro e w1 ⟨g0, cp0, rfl, hb1, hr1⟩
  have hsz1 := hb1.size
  simp only [World.size_alloc] at hb1 hr1 hsz1
  have hlt1 := (hr1.lt g0 rfl).2
  have HI0 : Hid (Inv w (w1.alloc (.cells #[.slice (some ⟨g0, 0, none⟩) n cp0, .int .i64 0] 38)) w1.heap.size n 0 0 (fun _ => zeroS) 0 (fun _ => zeroS) g0 cp0) :=
    Lib.hid ⟨DevR.made n w (hb1.alloc hsz1 _) hsz1 (by simp), by (first | (go_simp; done) | (go_simp; (simp [↓IntWalk.iteOmega]; done)) | (go_simp; intros; omega) | (go_simp; simp [↓IntWalk.iteOmega]; intros; omega)), by (first | (go_simp; done) | (go_simp; (simp [↓IntWalk.iteOmega]; done)) | (go_simp; intros; omega) | (go_simp; simp [↓IntWalk.iteOmega]; intros; omega)), by (first | (go_simp; done) | (go_simp; (simp [↓IntWalk.iteOmega]; done)) | (go_simp; intros; omega) | (go_simp; simp [↓IntWalk.iteOmega]; intros; omega)), by (first | (go_simp; done) | (go_simp; (simp [↓IntWalk.iteOmega]; done)) | (go_simp; intros; omega) | (go_simp; simp [↓IntWalk.iteOmega]; intros; omega)), RowB.below hr1 ((Below.refl _ _).alloc (Nat.le_refl _) _), by omega, ((((Below.refl _ w).alloc (Nat.le_refl _) _).alloc (by simp) _).trans (hb1.mono (by omega))).alloc (by omega) _⟩
  clear hr1
  generalize hr : w1.heap.size = r at HI0 hsz1 hlt1
  go_wp2_with fail
  generalize w1.alloc (.cells #[.slice (some ⟨g0, 0, none⟩) n cp0, .int .i64 0] 38) = w2 at HI0
  clear hr hb1 hsz1 hlt1
  go_loopw [11] (fun x wr => ∃ (k q : Nat) (lf : Int) (f : Nat → ByteArray) (g cp : Nat), x = .int .i64 (k : Int) ∧ k ≤ len ∧ k ≤ 40 ∧ Hid (q ≤ k ∧ Inv w wr r n q lf f lf f g cp)) (fun x _ => len - (intOf x).toNat)
  case atStart => exact ⟨0, 0, 0, _, g0, cp0, rfl, by omega, by omega, Lib.hid ⟨by omega, HI0.out⟩⟩
  case round =>
    obtain ⟨k, q, lf, f, g, cp, rfl, hk, hk40, HI⟩ := hrel
    clear HI0
    by_cases c : k < len ∧ k < 40
    · obtain ⟨c, c40⟩ := c
      have d40 : decide ((k : Int) < 40) = true := decide_eq_true (by omega)
      obtain ⟨kd, nn, at', bt, raw, hnn, ⟨e0, e1, e2, e3, e4⟩, hraw⟩ := hl k c
      clear hl
      have hbel := HI.out.2.bel
      replace e0 := (hbel.cell (p := ⟨b, off + k * 5, none⟩) hb).trans e0
      replace e1 := (hbel.cell (p := ⟨b, off + k * 5 + 1, none⟩) hb).trans e1
      replace e2 := (hbel.cell (p := ⟨b, off + k * 5 + 2, none⟩) hb).trans e2
      replace e3 := (hbel.cell (p := ⟨b, off + k * 5 + 3, none⟩) hb).trans e3
      replace e4 := (hbel.cell (p := ⟨b, off + k * 5 + 4, none⟩) hb).trans e4
      obtain ⟨s, hs1, ⟨ra, rc, rfl⟩, hraw⟩ := hraw
      have HX := Lib.hid hraw
      have HN := Lib.hid hnn
      clear hraw hbel hnn
      have i0 : (0 : Int) ≤ (k : Int) := by omega
      have i1 : (k : Int) < (len : Int) := by omega
      have hlt := HI.out.2.lt
      have hgt := HI.out.2.gt
      have hne : wr.heap.size ≠ r := by omega
      have hne1 : wr.heap.size ≠ w.heap.size + 1 := by omega
      have hne2 : wr.heap.size ≠ w.heap.size := by omega
      have hI := HI.out.2
      have hQ : Hid (q ≤ k) := Lib.hid HI.out.1
      clear HI
      have hnew : ∀ (o : Obj) (j : Nat), (wr.alloc o).cell? ⟨wr.heap.size, j, none⟩ = (wr.alloc o).cell? ⟨wr.heap.size, j, none⟩ := fun _ _ => rfl
      clear hnew
      by_cases k0 : kd = 0
      · subst k0
        go_wp2_with fail
        refine (full_any 0 nn at' bt (.slice ra s.size rc) _).mono ?_
        rintro e w3 ⟨X, rfl, hb3, hX⟩
        generalize fullS (at' % 4096).toNat bt = S at hX
        simp only [World.size_alloc] at hb3 hX
        have hs3 := hb3.size
        simp only [World.size_alloc] at hs3
        have hl3 : wr.heap.size < w3.heap.size := by omega
        have hI3 := (hI.below ((Below.refl _ wr).alloc (Nat.le_refl _) (.cells #[.int .i64 0, .int .i64 nn, .int .i64 at', .int .u8 (bt.toNat : Int), .slice ra s.size rc] 29))).below (by simpa using hb3)
        have n1 : w3.cell? ⟨wr.heap.size, 1, none⟩ = some (.int .i64 nn) := (hb3.cell (p := ⟨wr.heap.size, 1, none⟩) (by show wr.heap.size < _; omega)).trans (by (first | (go_simp; done) | (go_simp; (simp [↓IntWalk.iteOmega]; done)) | (go_simp; intros; omega) | (go_simp; simp [↓IntWalk.iteOmega]; intros; omega)))
        have n4 : w3.cell? ⟨wr.heap.size, 4, none⟩ = some (.slice ra s.size rc) := (hb3.cell (p := ⟨wr.heap.size, 4, none⟩) (by show wr.heap.size < _; omega)).trans (by (first | (go_simp; done) | (go_simp; (simp [↓IntWalk.iteOmega]; done)) | (go_simp; intros; omega) | (go_simp; simp [↓IntWalk.iteOmega]; intros; omega)))
        have hin := InOf.row hX
        have hstr : ∀ w4, Kept w3 w4 (w.heap.size + 1) w.heap.size → ∃ a cap, X = .slice a S.size cap ∧ (∀ w', Below w4.heap.size w4 w' → (convert 26 9 X).run Try.prog w' = .ok (.string S) w') := fun w4 hK => StrOf.row (hK.bytes hX (by omega) (by omega))
        have hstr : ∀ w4, Kept w3 w4 (w.heap.size + 1) w.heap.size → True ∧ (∀ w', Below w4.heap.size w4 w' → (convert 26 9 X).run Try.prog w' = .ok (.string S) w') := fun w4 hK => by
          obtain ⟨_, _, _, h⟩ := hstr w4 hK
          exact ⟨trivial, h⟩
        obtain ⟨gx, cx, rfl, -, -⟩ := hX.form
        clear hb3 hX
        have cw := r_write hI3.dev h2 (by have := hQ.out; omega) nn (.slice (some ⟨gx, 0, none⟩) 4096 cx) S hin
        generalize hP : stepW n lf f nn S = P at cw
        obtain ⟨E, lf2, f2⟩ := P
        dsimp only at cw
        go_wp2_with fail
        refine cw.mono ?_
        rintro e w4 ⟨rfl, ⟨q', hq', hD⟩, hK⟩
        have hI4 := hI3.turn hD hK
        have n1' := (hK.cell (x := ⟨wr.heap.size, 1, none⟩) hl3 hne1 hne2).trans n1
        have n4' := (hK.cell (x := ⟨wr.heap.size, 4, none⟩) hl3 hne1 hne2).trans n4
        have hs4 := hK.size
        have cb := b_write hI4.row h1 h2 hI.le (by omega) hI4.ne hI4.lt nn S
        rw [hP] at cb
        dsimp only at cb
        have hcv := (hstr w4 hK).2 w4 (Below.refl _ _)
        have x4 := hI4.2.1
        have y4 := hI4.2.2.2.1
        clear cw n1 n4 hin hP hstr
        go_wp2_with fail
        refine cb.mono ?_
        rintro e w5 ⟨g5, cp5, rfl, hb5, hr5, hne5⟩
        have hI5 := hI4.below hb5
        have HP := Lib.hid (hI5.put hr5 hne5)
        obtain ⟨-, x0, z0, x1, z1, -, -, -⟩ := hI5
        clear x4 y4 cb hcv n1' n4' hr5 hb5 hI4 hD hK
        go_wp2_with fail
        go_roundw
        case rel => exact ⟨k + 1, q', _, _, _, _, by go_num, by omega, by omega, Lib.hid ⟨by have := hQ.out; omega, HP.out⟩⟩
        case measure => (simp [intOf]; omega)
      · by_cases k1 : kd = 1
        · subst k1
          have hI0 := hI.below ((Below.refl _ wr).alloc (Nat.le_refl _) (.cells #[.int .i64 1, .int .i64 nn, .int .i64 at', .int .u8 (bt.toNat : Int), .slice ra s.size rc] 29))
          have n1 : (wr.alloc (.cells #[.int .i64 1, .int .i64 nn, .int .i64 at', .int .u8 (bt.toNat : Int), .slice ra s.size rc] 29)).cell? ⟨wr.heap.size, 1, none⟩ = some (.int .i64 nn) := by (first | (go_simp; done) | (go_simp; (simp [↓IntWalk.iteOmega]; done)) | (go_simp; intros; omega) | (go_simp; simp [↓IntWalk.iteOmega]; intros; omega))
          have n4 : (wr.alloc (.cells #[.int .i64 1, .int .i64 nn, .int .i64 at', .int .u8 (bt.toNat : Int), .slice ra s.size rc] 29)).cell? ⟨wr.heap.size, 4, none⟩ = some (.slice ra s.size rc) := by (first | (go_simp; done) | (go_simp; (simp [↓IntWalk.iteOmega]; done)) | (go_simp; intros; omega) | (go_simp; simp [↓IntWalk.iteOmega]; intros; omega))
          have hl3 : wr.heap.size < (wr.alloc (.cells #[.int .i64 1, .int .i64 nn, .int .i64 at', .int .u8 (bt.toNat : Int), .slice ra s.size rc] 29)).heap.size := by simp
          have hl4 := hl3
          simp only [World.size_alloc] at hl4
          have cr := r_read hI0.dev h2 nn
          generalize hP : stepR n lf f nn = P at cr
          obtain ⟨E, lf2, tx⟩ := P
          dsimp only at cr
          go_wp2_with fail
          refine cr.mono ?_
          rintro e w4 ⟨v, rfl, hD, hK, ⟨av, cv, rfl, hS⟩, -⟩
          have hI4 := hI0.turn hD hK
          have n1' := (hK.cell (x := ⟨wr.heap.size, 1, none⟩) hl3 hne1 hne2).trans n1
          have hs4 := hK.size
          have cb := b_read hI4.row h2 hI.le nn
          rw [hP] at cb
          dsimp only at cb
          have x4 := hI4.2.1
          have y4 := hI4.2.2.2.1
          clear cr n1 n4 hP
          go_wp2_with fail
          refine cb.mono ?_
          rintro e w5 ⟨rfl, hb5⟩
          have hI5 := hI4.below hb5
          have hcv := fun o => hS (w5.alloc o) (hb5.alloc hb5.size o)
          have HP := Lib.hid ((hI5.put hI5.row hI5.ne).below ((Below.refl _ _).alloc (Nat.le_refl _) (.cells #[.slice (some ⟨g, 0, none⟩) n cp, .int .i64 lf2] 38)))
          have hl5 := hI5.lt
          have hne5 : r ≠ w5.heap.size := by omega
          obtain ⟨-, x0, z0, x1, z1, -, -, -⟩ := hI5
          clear x4 y4 cb n1' hI4 hD hK hS hb5
          go_wp2_with fail
          go_roundw
          case rel => exact ⟨k + 1, q, _, _, _, _, by go_num, by omega, by omega, Lib.hid ⟨by have := hQ.out; omega, HP.out⟩⟩
          case measure => (simp [intOf]; omega)
        · by_cases k2 : kd = 2
          · subst k2
            have hI0 := hI.below ((Below.refl _ wr).alloc (Nat.le_refl _) (.cells #[.int .i64 2, .int .i64 nn, .int .i64 at', .int .u8 (bt.toNat : Int), .slice ra s.size rc] 29))
            have n1 : (wr.alloc (.cells #[.int .i64 2, .int .i64 nn, .int .i64 at', .int .u8 (bt.toNat : Int), .slice ra s.size rc] 29)).cell? ⟨wr.heap.size, 1, none⟩ = some (.int .i64 nn) := by (first | (go_simp; done) | (go_simp; (simp [↓IntWalk.iteOmega]; done)) | (go_simp; intros; omega) | (go_simp; simp [↓IntWalk.iteOmega]; intros; omega))
            have n4 : (wr.alloc (.cells #[.int .i64 2, .int .i64 nn, .int .i64 at', .int .u8 (bt.toNat : Int), .slice ra s.size rc] 29)).cell? ⟨wr.heap.size, 4, none⟩ = some (.slice ra s.size rc) := by (first | (go_simp; done) | (go_simp; (simp [↓IntWalk.iteOmega]; done)) | (go_simp; intros; omega) | (go_simp; simp [↓IntWalk.iteOmega]; intros; omega))
            have hl3 : wr.heap.size < (wr.alloc (.cells #[.int .i64 2, .int .i64 nn, .int .i64 at', .int .u8 (bt.toNat : Int), .slice ra s.size rc] 29)).heap.size := by simp
            have hl4 := hl3
            simp only [World.size_alloc] at hl4
            have cr := r_fail hI0.dev nn HN.out
            go_wp2_with fail
            refine cr.mono ?_
            rintro e w4 ⟨rfl, hD, hK⟩
            have hI4 := hI0.turn hD hK
            have n1' := (hK.cell (x := ⟨wr.heap.size, 1, none⟩) hl3 hne1 hne2).trans n1
            have HP := Lib.hid hI4.left
            obtain ⟨-, x0, z0, x1, z1, -, -, -⟩ := hI4
            clear cr n1 n4 hD hK
            go_wp2_with fail
            go_roundw
            case rel => exact ⟨k + 1, q, _, _, _, _, by go_num, by omega, by omega, Lib.hid ⟨by have := hQ.out; omega, HP.out⟩⟩
            case measure => (simp [intOf]; omega)
          · by_cases k3 : kd = 3
            · subst k3
              have hI0 := hI.below ((Below.refl _ wr).alloc (Nat.le_refl _) (.cells #[.int .i64 3, .int .i64 nn, .int .i64 at', .int .u8 (bt.toNat : Int), .slice ra s.size rc] 29))
              have n1 : (wr.alloc (.cells #[.int .i64 3, .int .i64 nn, .int .i64 at', .int .u8 (bt.toNat : Int), .slice ra s.size rc] 29)).cell? ⟨wr.heap.size, 1, none⟩ = some (.int .i64 nn) := by (first | (go_simp; done) | (go_simp; (simp [↓IntWalk.iteOmega]; done)) | (go_simp; intros; omega) | (go_simp; simp [↓IntWalk.iteOmega]; intros; omega))
              have n4 : (wr.alloc (.cells #[.int .i64 3, .int .i64 nn, .int .i64 at', .int .u8 (bt.toNat : Int), .slice ra s.size rc] 29)).cell? ⟨wr.heap.size, 4, none⟩ = some (.slice ra s.size rc) := by (first | (go_simp; done) | (go_simp; (simp [↓IntWalk.iteOmega]; done)) | (go_simp; intros; omega) | (go_simp; simp [↓IntWalk.iteOmega]; intros; omega))
              have hl3 : wr.heap.size < (wr.alloc (.cells #[.int .i64 3, .int .i64 nn, .int .i64 at', .int .u8 (bt.toNat : Int), .slice ra s.size rc] 29)).heap.size := by simp
              have hl4 := hl3
              simp only [World.size_alloc] at hl4
              by_cases d9 : 9000 < s.size
              · have d9' : decide (9000 < (s.size : Int)) = true := decide_eq_true (by omega)
                go_wp2_with fail
                go_ret
                exact ⟨rfl, hI0.bel⟩
              · have d9' : decide (9000 < (s.size : Int)) = false := decide_eq_false (by omega)
                have hI3 := hI0
                have hin := (HX.out _ hI0.bel).2
                have hbw := hI0.bel
                have hstr : ∀ w4, Kept (wr.alloc (.cells #[.int .i64 3, .int .i64 nn, .int .i64 at', .int .u8 (bt.toNat : Int), .slice ra s.size rc] 29)) w4 (w.heap.size + 1) w.heap.size → True ∧ (∀ w', Below w4.heap.size w4 w' → (convert 26 9 (.slice ra s.size rc)).run Try.prog w' = .ok (.string s) w') := fun w4 hK => by
                  obtain ⟨_, _, _, h⟩ := (HX.out w4 (hK.below hbw hbw.size (by omega) (by omega))).1
                  exact ⟨trivial, h⟩
                have cw := r_write hI3.dev h2 (by have := hQ.out; omega) nn (.slice ra s.size rc) s hin
                generalize hP : stepW n lf f nn s = P at cw
                obtain ⟨E, lf2, f2⟩ := P
                dsimp only at cw
                go_wp2_with fail
                refine cw.mono ?_
                rintro e w4 ⟨rfl, ⟨q', hq', hD⟩, hK⟩
                have hI4 := hI3.turn hD hK
                have n1' := (hK.cell (x := ⟨wr.heap.size, 1, none⟩) hl3 hne1 hne2).trans n1
                have n4' := (hK.cell (x := ⟨wr.heap.size, 4, none⟩) hl3 hne1 hne2).trans n4
                have hs4 := hK.size
                have cb := b_write hI4.row h1 h2 hI.le (by have := hI4.gt; have := hI4.lt; omega) hI4.ne hI4.lt nn s
                rw [hP] at cb
                dsimp only at cb
                have hcv := (hstr w4 hK).2 w4 (Below.refl _ _)
                have x4 := hI4.2.1
                have y4 := hI4.2.2.2.1
                clear cw n1 n4 hin hP hstr
                go_wp2_with fail
                refine cb.mono ?_
                rintro e w5 ⟨g5, cp5, rfl, hb5, hr5, hne5⟩
                have hI5 := hI4.below hb5
                have HP := Lib.hid (hI5.put hr5 hne5)
                obtain ⟨-, x0, z0, x1, z1, -, -, -⟩ := hI5
                clear x4 y4 cb hcv n1' n4' hr5 hb5 hI4 hD hK
                go_wp2_with fail
                go_roundw
                case rel => exact ⟨k + 1, q', _, _, _, _, by go_num, by omega, by omega, Lib.hid ⟨by have := hQ.out; omega, HP.out⟩⟩
                case measure => (simp [intOf]; omega)
            · have j0 : (kd == 0) = false := by rw [beq_eq_false_iff_ne]; exact k0
              have j1 : (kd == 1) = false := by rw [beq_eq_false_iff_ne]; exact k1
              have j2 : (kd == 2) = false := by rw [beq_eq_false_iff_ne]; exact k2
              have j3 : (kd == 3) = false := by rw [beq_eq_false_iff_ne]; exact k3
              have HP := Lib.hid (hI.below ((Below.refl _ wr).alloc (Nat.le_refl _) (.cells #[.int .i64 kd, .int .i64 nn, .int .i64 at', .int .u8 (bt.toNat : Int), .slice ra s.size rc] 29)))
              go_wp2_with fail
              go_roundw
              case rel => exact ⟨k + 1, q, _, _, _, _, by go_num, by omega, by omega, Lib.hid ⟨by have := hQ.out; omega, HP.out⟩⟩
              case measure => (simp [intOf]; omega)
    · have dd : decide (k < len) = true → decide ((k : Int) < 40) = false := fun h => decide_eq_false (by have := of_decide_eq_true h; omega)
      have hI := HI.out.2
      have hst : stepR n 0 f 0 = (0, 0, f 0) := by
        unfold stepR
        rw [if_neg (by omega), if_neg (by omega)]
        rfl
      have cf := r_fail hI.dev 0 (by omega)
      have hbel := hI.bel
      clear HI hl
      by_cases dk : k < len
      · have dk1 : decide (k < len) = true := decide_eq_true dk
        have dk2 := dd dk1
        clear dd
        go_wp2_with fail
        refine cf.mono ?_
        rintro e w4 ⟨rfl, hD, hK⟩
        have cr := r_read hD h2 0
        rw [hst] at cr
        go_wp2_with fail
        refine cr.mono ?_
        rintro e w5 ⟨v, rfl, hD5, hK5, ⟨av, cv, rfl, hS⟩, hz⟩
        have hsz := hz (by omega) (by omega) (by omega)
        simp only [Int.toNat_zero] at hsz
        rw [hsz]
        have cbk := r_blocks hD5
        have hnn : ((n : Int) == (n : Int)) = true := by simp
        go_wp2_with fail
        refine cbk.mono ?_
        rintro e w' ⟨rfl, rfl⟩
        go_wp2_with fail
        go_ret
        exact ⟨rfl, hK5.below (hK.below hbel hbel.size (by omega) (by omega)) (Nat.le_trans hbel.size hK.size) (by omega) (by omega)⟩
      · have dk1 : decide (k < len) = false := decide_eq_false dk
        clear dd
        go_wp2_with fail
        refine cf.mono ?_
        rintro e w4 ⟨rfl, hD, hK⟩
        have cr := r_read hD h2 0
        rw [hst] at cr
        go_wp2_with fail
        refine cr.mono ?_
        rintro e w5 ⟨v, rfl, hD5, hK5, ⟨av, cv, rfl, hS⟩, hz⟩
        have hsz := hz (by omega) (by omega) (by omega)
        simp only [Int.toNat_zero] at hsz
        rw [hsz]
        have cbk := r_blocks hD5
        have hnn : ((n : Int) == (n : Int)) = true := by simp
        go_wp2_with fail
        refine cbk.mono ?_
        rintro e w' ⟨rfl, rfl⟩
        go_wp2_with fail
        go_ret
        exact ⟨rfl, hK5.below (hK.below hbel hbel.size (by omega) (by omega)) (Nat.le_trans hbel.size hK.size) (by omega) (by omega)⟩

set_option maxRecDepth 100000 in
theorem lifted (os : Os) (started : os.Started) (H : Type) (enc : TypeId × Value → H) :
    ReturnsInHanded {} Try.checked os 4 .any (Rows.blockPlaysSpec.pre6 enc Try.prog Try.f4 Rows.blockPlaysRow.domain false) (Rows.blockPlaysSpec.post enc Try.prog Try.f4 false true false false) := by
  refine law_lift (C := Try.checked) (tb := 4) started (by kernel_rfl) (by kernel_rfl) Try.func4 rfl rfl Try.underlying4 (by kernel_rfl) (by kernel_rfl)
    (fun ds h => by match ds, h with | [_, _], _ => rfl)
    (ChangeSpec.witness6 (enc := enc) (C := Try.checked) false ⟨#[], #[.int .i64 1, .slice none 0 0], []⟩ 8 (by kernel_rfl) (by kernel_rfl) (by kernel_rfl) (by kernel_rfl)) ?_
  intro W base args ds ps hval hA hlt hfz hsz
  rw [Try.params4] at hA hval hsz
  obtain ⟨v0, v1, d0, d1, p0, p1, rfl, rfl, rfl, h0, h1⟩ := trodAll_two hA
  obtain ⟨n, rfl, rfl, rfl, w0⟩ := open_int Try.underlying3 (hval 0 _ v0 rfl rfl) h0
  by_cases c : n < 1 ∨ 64 < n
  · exact walk_bad n v1 c W
  · obtain ⟨n, rfl⟩ : ∃ k : Nat, n = (k : Int) := ⟨n.toNat, by omega⟩
    rcases open_elems (d := 5) (ls := [.int .i64, .int .i64, .int .i64, .int .u8, .slice 26]) Try.underlying35 (by kernel_rfl) (by kernel_rfl) (by decide) (hval 1 _ v1 rfl rfl) h1 with ⟨a, cap, rfl, hcap⟩ | ⟨b, off, len, cap, rfl, hpos, hlc, hcm, hb, hel⟩
    · exact walk_empty n (by omega) (by omega) a cap W
    · refine walk_good n (by omega) (by omega) b off len cap W hcm hlc hb ?_
      intro i hi
      obtain ⟨kd, q0, nn, q1, at', q2, bt, q3, raw, hraw, hcell⟩ := hel i hi
      obtain ⟨bt, rfl⟩ := exists_byte bt q3
      have hx : -9223372036854775808 ≤ nn ∧ nn ≤ 9223372036854775807 := by simpa [Lit.wf, IntKind.min, IntKind.max, IntKind.signed, IntKind.bits] using q1
      exact ⟨kd, nn, at', bt, raw, hx.2, ⟨by have := hcell 0 (by decide); simpa using this, by have := hcell 1 (by decide); simpa [Nat.add_assoc] using this, by have := hcell 2 (by decide); simpa [Nat.add_assoc] using this, by have := hcell 3 (by decide); simpa [Nat.add_assoc] using this, by have := hcell 4 (by decide); simpa [Nat.add_assoc] using this⟩, raw_open hraw⟩

theorem over : Rows.blockPlaysRow.holds Try.pinned (OpenSpec.ofChange Rows.blockPlaysSpec) :=
  OpenClaim.holds_of_wide 4 Try.f4 rfl rfl rfl rfl rfl rfl rfl ⟨rfl, rfl, rfl, rfl, rfl⟩ rfl rfl rfl rfl rfl (by kernel_rfl) Try.func4 (by kernel_rfl)
    (of_decide_eq_true (by kernel_rfl)) (by unfold Func.isWrapper; first | (rw [if_pos (by decide +kernel)]; kernel_rfl) | (rw [if_neg (by decide +kernel)]; exact ⟨rfl, rfl⟩))
    (fun os started H enc _ => lifted os started H enc)

theorem proved : Rows.BlockPlaysSaid := over
end Go.Proofs.Ytiajkhlcmblfpaa.Plays
