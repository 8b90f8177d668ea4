
/-
  Reservations: ==, slices.ContainsFunc, Index, BinarySearchFunc.
-/
import Derived.Test.YtnillifinnmigaaRgB
import Derived.Laws.StructEq
import Derived.BigRegion
namespace Go.Proofs.Ytnillifinnmigaa
open Go Go.RowKit
set_option linter.unusedVariables false
set_option linter.unusedSimpArgs false

theorem rg_guard : Try.prog.eqGuardType Try.prog.depth 41 = false := by kernel_rfl
theorem rg_stood : Try.prog.stoodInHeld 41 = false := by kernel_rfl
theorem rg_eql (a b a' b' : BitVec 64) (k k' : Int) (w : World) : (binOp .eql 41 (.agg #[.int .u64 (U a), .int .u64 (U b), .int .i64 k]) (.agg #[.int .u64 (U a'), .int .u64 (U b'), .int .i64 k'])).run Try.prog w = .ok (.bool (a == a' && b == b' && k == k')) w := by
  have hs := rg_stood
  have hs2 := span_stood
  rw [run_eql_struct]
  rw [show (10000 : Nat) = 9998 + 1 + 1 from rfl, run_equalIn_struct _ _ _ _ _ Try.underlying41 hs]
  have hsp := run_equalIn_struct (P := Try.prog) w 9998 24 #[.int .u64 (U a), .int .u64 (U b)] #[.int .u64 (U a'), .int .u64 (U b')] Try.underlying24 hs2
  simp [go_sem, Try.underlying41, Try.underlying24, hsp]
  by_cases h1 : a = a' <;> by_cases h2 : b = b' <;> by_cases h3 : k = k' <;> simp [h1, h2, h3]
theorem rg_neq (a b a' b' : BitVec 64) (k k' : Int) (w : World) : (binOp .neq 41 (.agg #[.int .u64 (U a), .int .u64 (U b), .int .i64 k]) (.agg #[.int .u64 (U a'), .int .u64 (U b'), .int .i64 k'])).run Try.prog w = .ok (.bool (!(a == a' && b == b' && k == k'))) w := neq_of_eql (rg_eql a b a' b' k k' w)
attribute [go_sem 3000] rg_guard rg_eql rg_neq
def isR (b t : BitVec 64) (kd : Int) (r : Rg) : Bool := b == r.b && t == r.t && kd == r.kd
set_option maxHeartbeats 4000000 in
set_option maxRecDepth 100000 in
theorem cont_any (B : Nat) (v : Value) (L : List Rg) (w : World) (hs : SlR w B v L) (hbig : L.length ≤ 1099511627776) (b t : BitVec 64) (ca : Nat) (hc : w.cell? ⟨ca, 0, none⟩ = some (.int .u64 (U b))) (hc1 : w.cell? ⟨ca, 1, none⟩ = some (.int .u64 (U t))) (hlt : ca < w.heap.size) : Calls Try.prog 24 #[v, .func (.func 25) #[] #[.pointer (some ⟨ca, 0, none⟩)]] w fun e w' => e = .returned (.bool (L.any fun r => meetF r.b r.t b t)) ∧ Below w.heap.size w w' := by
  have hI := idx_add B v L w hs hbig b t ca hc hc1 hlt
  rw [← idx_pos]
  go_enter Try.func24, Try.ntmps24
  go_wp2_with (first | (go_at_call 31; refine hI.mono ?_; rintro e w' ⟨rfl, hb'⟩))
  go_ret
  exact ⟨rfl, hb'⟩
set_option maxHeartbeats 4000000 in
set_option maxRecDepth 100000 in
theorem index_any (B : Nat) (v : Value) (L : List Rg) (w : World) (hs : SlR w B v L) (hbig : L.length ≤ 1099511627776) (b t : BitVec 64) (kd : Int) : Calls Try.prog 29 #[v, .agg #[.int .u64 (U b), .int .u64 (U t), .int .i64 kd]] w fun e w' => e = .returned (.int .i64 (idxI (isR b t kd) L)) ∧ Below w.heap.size w w' := by
  obtain ⟨a', cap, rfl, hcap, hcap2, hblt, hform⟩ := hs.form
  have hrd : ∀ W : World, Below w.heap.size w W → ∀ j r, L[j]? = some r → ∃ g, a' = some ⟨g, 0, none⟩ ∧ g < W.heap.size ∧ W.cell? ⟨g, j * 3, none⟩ = some (.int .u64 (U r.b)) ∧ W.cell? ⟨g, j * 3 + 1, none⟩ = some (.int .u64 (U r.t)) ∧ W.cell? ⟨g, j * 3 + 2, none⟩ = some (.int .i64 r.kd) := fun W HB j r hj => by
    rcases hform with rfl | ⟨g, rfl, hbg, hg, hx⟩
    · simp at hj
    · obtain ⟨c1, c2, c3⟩ := hx j r hj
      exact ⟨g, rfl, Nat.lt_of_lt_of_le hg HB.size, (HB.cell (p := ⟨g, _, none⟩) hg).trans c1, (HB.cell (p := ⟨g, _, none⟩) hg).trans c2, (HB.cell (p := ⟨g, _, none⟩) hg).trans c3⟩
  generalize hP : isR b t kd = P
  have HR := Lib.hid hrd
  clear hrd hform hs
  have HPe : Hid (∀ r : Rg, P r = (b == r.b && t == r.t && kd == r.kd)) := Lib.hid fun r => by rw [← hP]; rfl
  clear hP
  generalize hn : L.length = n at hcap hbig
  go_enter Try.func29, Try.ntmps29
  go_wp2_with fail
  go_loopw [5, 8] (fun _ x wr => ∃ k : Nat, x = .int .i64 (k : Int) ∧ k ≤ n ∧ Hid (Below w.heap.size w wr) ∧ Hid (∀ j y, j < k → L[j]? = some y → P y = false) ∧ Hid (w.heap.size < wr.heap.size ∧ wr.cell? ⟨w.heap.size, 0, none⟩ = some (.int .u64 (U b)) ∧ wr.cell? ⟨w.heap.size, 1, none⟩ = some (.int .u64 (U t)) ∧ wr.cell? ⟨w.heap.size, 2, none⟩ = some (.int .i64 kd))) (fun _ x _ => n - (intOf x).toNat)
  case atStart => exact ⟨0, rfl, Nat.zero_le _, Lib.hid ((Below.refl _ w).alloc (Nat.le_refl _) _), Lib.hid (fun j _ hj => absurd hj (Nat.not_lt_zero _)), Lib.hid ⟨by simp, by (first | (go_simp; done) | (go_simp; (simp [↓IntWalk.iteOmega]; done)) | (go_simp; intros; omega) | (go_simp; simp [↓IntWalk.iteOmega]; intros; omega)), by (first | (go_simp; done) | (go_simp; (simp [↓IntWalk.iteOmega]; done)) | (go_simp; intros; omega) | (go_simp; simp [↓IntWalk.iteOmega]; intros; omega)), by (first | (go_simp; done) | (go_simp; (simp [↓IntWalk.iteOmega]; done)) | (go_simp; intros; omega) | (go_simp; simp [↓IntWalk.iteOmega]; intros; omega))⟩⟩
  case round =>
    obtain ⟨k, rfl, hk, HB, HK, HV⟩ := hrel
    by_cases c : k < n
    · have d1 : decide ((k : Int) < (n : Int)) = true := decide_eq_true (by omega)
      obtain ⟨r, hr⟩ : ∃ r, L[k]? = some r := ⟨L[k]'(by omega), List.getElem?_eq_getElem (by omega)⟩
      obtain ⟨g, rfl, hg, x0, x1, x2⟩ := HR.out wr HB.out k r hr
      obtain ⟨hbx, y0, y1, y2⟩ := HV.out
      have HRr := Lib.hid hr
      have hPr := HPe.out r
      clear hr
      cases hq : P r
      · have HQ := Lib.hid hq
        rw [hq] at hPr
        have hPr' := hPr.symm
        clear hq hPr
        go_wp2_with fail
        refine wp_region_below (by kernel_rfl) (by kernel_rfl) (fun hcr hfr => ?_)
        (try simp only [World.size_alloc, World.size_setCell, World.size_drew, size_drewN_] at hcr hfr)
        repeat (go_big_quiet_step (fail))
        refine wpQuiet_nil ?_
        intro w' hbl
        clear hcr hfr
        obtain ⟨hcw, hfw, hsw⟩ := below_ifs hbl; (try simp only [World.size_alloc, World.size_setCell, World.size_drew, size_drewN_] at hcw hfw hsw)
        have HB2 : Below w.heap.size w w' := HB.out.trans (hbl.mono HB.out.size)
        have hz0 : w'.cell? ⟨w.heap.size, 0, none⟩ = some (.int .u64 (U b)) := (hbl.cell (p := ⟨_, _, none⟩) hbx).trans y0
        have hz1 : w'.cell? ⟨w.heap.size, 1, none⟩ = some (.int .u64 (U t)) := (hbl.cell (p := ⟨_, _, none⟩) hbx).trans y1
        have hz2 : w'.cell? ⟨w.heap.size, 2, none⟩ = some (.int .i64 kd) := (hbl.cell (p := ⟨_, _, none⟩) hbx).trans y2
        have HZ := Lib.hid (And.intro (Nat.lt_of_lt_of_le hbx hbl.size) (And.intro hz0 (And.intro hz1 hz2)))
        clear hz0 hz1 hz2
        go_wp2_with fail
        go_roundw
        case rel =>
          refine ⟨k + 1, by go_num, by omega, Lib.hid HB2, Lib.hid fun j y hj hy => ?_, HZ⟩
          by_cases e : j = k
          · subst e
            rw [HRr.out] at hy
            rw [← Option.some.inj hy]; exact HQ.out
          · exact HK.out j y (by omega) hy
        case measure => (simp [intOf]; omega)
      · have HQ := Lib.hid hq
        rw [hq] at hPr
        have hPr' := hPr.symm
        clear hq hPr
        go_wp2_with fail
        refine wp_region_below (by kernel_rfl) (by kernel_rfl) (fun hcr hfr => ?_)
        (try simp only [World.size_alloc, World.size_setCell, World.size_drew, size_drewN_] at hcr hfr)
        repeat (go_big_quiet_step (fail))
        refine wpQuiet_nil ?_
        intro w' hbl
        clear hcr hfr
        obtain ⟨hcw, hfw, hsw⟩ := below_ifs hbl; (try simp only [World.size_alloc, World.size_setCell, World.size_drew, size_drewN_] at hcw hfw hsw)
        go_wp2_with fail
        go_ret
        exact ⟨by rw [idx_hit P L k r HRr.out HQ.out HK.out]; rfl, HB.out.trans (hbl.mono HB.out.size)⟩
    · obtain rfl : k = n := by omega
      go_wp2_with fail
      go_ret
      exact ⟨by rw [idx_miss P L (fun j x hx => HK.out j x (by obtain ⟨h, _⟩ := List.getElem?_eq_some_iff.1 hx; omega) hx)]; rfl, HB.out⟩
theorem half_is (i j h : Nat) (hs : i + j < 4611686018427387904) (hh : h = (i + j) / 2) : S ((BitVec.ofNat 64 i + BitVec.ofNat 64 j) >>> 1) = (h : Int) := by
  have e : ((BitVec.ofNat 64 i + BitVec.ofNat 64 j) >>> 1).toNat = h := by
    rw [BitVec.toNat_ushiftRight, Nat.shiftRight_eq_div_pow, BitVec.toNat_add, BitVec.toNat_ofNat, BitVec.toNat_ofNat]
    omega
  rw [S_small _ (by omega), e]
set_option maxHeartbeats 4000000 in
set_option maxRecDepth 100000 in
theorem bs_any (B : Nat) (v : Value) (L : List Rg) (w : World) (hs : SlR w B v L) (hbig : L.length ≤ 1099511627776) (b : BitVec 64) (hsort : ∀ (p q : Nat) (x y : Rg), p ≤ q → L[p]? = some x → L[q]? = some y → U x.b ≤ U y.b) : Calls Try.prog 26 #[v, .int .u64 (U b), .func (.func 27) #[] #[]] w fun e w' => ∃ i : Nat, e = .returned (.tuple #[.int .i64 (i : Int), .bool false]) ∧ i ≤ L.length ∧ (∀ (q : Nat) (x : Rg), q < i → L[q]? = some x → U x.b < U b) ∧ (∀ (q : Nat) (x : Rg), i ≤ q → L[q]? = some x → U b ≤ U x.b) ∧ Below w.heap.size w w' := by
  obtain ⟨a', cap, rfl, hcap, hcap2, hblt, hform⟩ := hs.form
  have hrd : ∀ W : World, Below w.heap.size w W → ∀ j r, L[j]? = some r → ∃ g, a' = some ⟨g, 0, none⟩ ∧ g < W.heap.size ∧ W.cell? ⟨g, j * 3, none⟩ = some (.int .u64 (U r.b)) ∧ W.cell? ⟨g, j * 3 + 1, none⟩ = some (.int .u64 (U r.t)) ∧ W.cell? ⟨g, j * 3 + 2, none⟩ = some (.int .i64 r.kd) := fun W HB j r hj => by
    rcases hform with rfl | ⟨g, rfl, hbg, hg, hx⟩
    · simp at hj
    · obtain ⟨c1, c2, c3⟩ := hx j r hj
      exact ⟨g, rfl, Nat.lt_of_lt_of_le hg HB.size, (HB.cell (p := ⟨g, _, none⟩) hg).trans c1, (HB.cell (p := ⟨g, _, none⟩) hg).trans c2, (HB.cell (p := ⟨g, _, none⟩) hg).trans c3⟩
  have HR := Lib.hid hrd
  have HS := Lib.hid hsort
  clear hrd hform hs hsort
  generalize hn : L.length = n at hcap hbig ⊢
  go_enter Try.func26, Try.ntmps26
  go_wp2_with fail
  go_loopw [9, 10, 11] (fun x y _ wr => ∃ i j : Nat, x = .int .i64 (i : Int) ∧ y = .int .i64 (j : Int) ∧ i ≤ j ∧ j ≤ n ∧ Hid (Below w.heap.size w wr) ∧ Hid (∀ (q : Nat) (x : Rg), q < i → L[q]? = some x → U x.b < U b) ∧ Hid (∀ (q : Nat) (x : Rg), j ≤ q → L[q]? = some x → U b ≤ U x.b)) (fun x y _ _ => (intOf y).toNat - (intOf x).toNat)
  case atStart => exact ⟨0, n, rfl, rfl, Nat.zero_le _, Nat.le_refl _, Lib.hid (Below.refl _ _), Lib.hid (fun q _ hq => absurd hq (Nat.not_lt_zero _)), Lib.hid (fun q x hq hx => by obtain ⟨h, _⟩ := List.getElem?_eq_some_iff.1 hx; omega)⟩
  case round =>
    obtain ⟨i, j, rfl, rfl, hij, hjn, HB, HL, HH⟩ := hrel
    by_cases c : i < j
    · have d1 : decide ((i : Int) < (j : Int)) = true := decide_eq_true (by omega)
      obtain ⟨h, hh⟩ : ∃ h : Nat, h = (i + j) / 2 := ⟨_, rfl⟩
      have e3 := half_is i j h (by omega) hh
      have hlt : h < n := by omega
      have hih : i ≤ h := by omega
      have hhj : h < j := by omega
      clear hh
      obtain ⟨r, hr⟩ : ∃ r, L[h]? = some r := ⟨L[h]'(by omega), List.getElem?_eq_getElem (by omega)⟩
      obtain ⟨g, rfl, hg, x0, x1, x2⟩ := HR.out wr HB.out h r hr
      have HRr := Lib.hid hr
      clear hr
      by_cases hc : U r.b < U b
      · have cP := add2_any r b wr
        rw [if_pos hc] at cP
        go_wp2_with (first | (go_at_call 27; refine cP.mono ?_; rintro e w' ⟨rfl, hb'⟩))
        go_roundw
        case rel =>
          refine ⟨h + 1, j, by go_num, rfl, by omega, hjn, Lib.hid (HB.out.trans (hb'.mono HB.out.size)), Lib.hid fun q x hq hx => ?_, HH⟩
          exact Int.lt_of_le_of_lt (HS.out q h x r (by omega) hx HRr.out) hc
        case measure => (simp [intOf]; omega)
      · have cP := add2_any r b wr
        rw [if_neg hc] at cP
        go_wp2_with (first | (go_at_call 27; refine cP.mono ?_; rintro e w' ⟨rfl, hb'⟩))
        go_roundw
        case rel =>
          refine ⟨i, h, rfl, by go_num, by omega, by omega, Lib.hid (HB.out.trans (hb'.mono HB.out.size)), HL, Lib.hid fun q x hq hx => ?_⟩
          exact Int.le_trans hc (HS.out h q r x hq HRr.out hx)
        case measure => (simp [intOf]; omega)
    · obtain rfl : i = j := by omega
      by_cases hin : i < n
      · have d2 : decide ((i : Int) < (n : Int)) = true := decide_eq_true (by omega)
        obtain ⟨r, hr⟩ : ∃ r, L[i]? = some r := ⟨L[i]'(by omega), List.getElem?_eq_getElem (by omega)⟩
        obtain ⟨g, rfl, hg, x0, x1, x2⟩ := HR.out wr HB.out i r hr
        have hge := HH.out i r (Nat.le_refl _) hr
        have cP := add2_any r b wr
        rw [if_neg (by omega)] at cP
        clear hr hge
        go_wp2_with (first | (go_at_call 27; refine cP.mono ?_; rintro e w' ⟨rfl, hb'⟩))
        go_returns
        exact ⟨i, rfl, by omega, HL.out, HH.out, HB.out.trans (hb'.mono HB.out.size)⟩
      · have d2 : decide ((i : Int) < (n : Int)) = false := decide_eq_false (by omega)
        go_wp2_with fail
        go_returns
        exact ⟨i, rfl, by omega, HL.out, HH.out, HB.out⟩
end Go.Proofs.Ytnillifinnmigaa
