
/-
  Blocks: the closures; slices.IndexFunc; Again.
-/
import Derived.Test.YtlhhahafmmfhhaaHpA
namespace Go.Proofs.Ytlhhahafmmfhhaa
open Go Go.RowKit
set_option linter.unusedVariables false
set_option linter.unusedSimpArgs false

def giveF (a : BitVec 64) (r : Hb) : Bool := (r.b == a) && !r.fr
def againF (x : Int) : Int := if x % 2 = 0 then x + 2 else x + 3
def settleF (now : Int) (r : Hb) : Bool := r.fr && decide (againF r.tm ≤ now)
def idxI (p : Hb → Bool) (L : List Hb) : Int := match L.findIdx? p with | some k => (k : Int) | none => -1
theorem idx_hit (p : Hb → Bool) : ∀ (L : List Hb) (k : Nat) (r : Hb), L[k]? = some r → p r = true → (∀ j x, j < k → L[j]? = some x → p x = false) → idxI p L = (k : Int) := fun L k r hk hp hb => by
  unfold idxI
  have : L.findIdx? p = some k := by
    obtain ⟨hlt, he⟩ := List.getElem?_eq_some_iff.1 hk
    rw [List.findIdx?_eq_some_iff_getElem]
    refine ⟨hlt, by rw [he]; exact hp, fun j hj => ?_⟩
    rw [hb j _ hj (List.getElem?_eq_getElem (by omega))]
    decide
  rw [this]
theorem idx_miss (p : Hb → Bool) (L : List Hb) (h : ∀ (j : Nat) (x : Hb), L[j]? = some x → p x = false) : idxI p L = -1 := by
  unfold idxI
  have : L.findIdx? p = none := by
    rw [List.findIdx?_eq_none_iff]
    intro x hx
    obtain ⟨j, hj⟩ := List.mem_iff_getElem?.1 hx
    exact h j x hj
  rw [this]
set_option maxHeartbeats 4000000 in
set_option maxRecDepth 100000 in
theorem again_any (n : Nat) (hn : n ≤ 1099511627776) (w : World) : Calls Try.prog 10 #[.int .i64 (n : Int)] w fun e w' => e = .returned (.int .i64 (againF (n : Int))) ∧ Below w.heap.size w w' := by
  go_enter Try.func10, Try.ntmps10
  unfold againF
  by_cases h : (n : Int) % 2 = 0
  · rw [if_pos h]
    have h1 : ((n : Int) % 2 != 0) = false := by simp [h]
    have h2 : ((n : Int).tmod 2 != 0) = false := by rw [Int.tmod_eq_emod_of_nonneg (by omega)]; exact h1
    go_wp2_with fail
    go_ret
    exact ⟨rfl, by (repeat (first | with_reducible exact Below.refl _ _ | with_reducible assumption | with_reducible refine below_drewN ?_ _ | with_reducible refine Below.drew ?_ | with_reducible refine below_alloc ?_ _ | (with_reducible refine Below.setCell ?_ (by first | (simp; done) | omega | (simp; omega)) _) | with_reducible refine belows ?_ (by assumption)))⟩
  · rw [if_neg h]
    have h1 : ((n : Int) % 2 != 0) = true := by simp [h]
    have h2 : ((n : Int).tmod 2 != 0) = true := by rw [Int.tmod_eq_emod_of_nonneg (by omega)]; exact h1
    go_wp2_with fail
    go_ret
    exact ⟨rfl, by (repeat (first | with_reducible exact Below.refl _ _ | with_reducible assumption | with_reducible refine below_drewN ?_ _ | with_reducible refine Below.drew ?_ | with_reducible refine below_alloc ?_ _ | (with_reducible refine Below.setCell ?_ (by first | (simp; done) | omega | (simp; omega)) _) | with_reducible refine belows ?_ (by assumption)))⟩
set_option maxHeartbeats 4000000 in
set_option maxRecDepth 100000 in
theorem give1_any (r : Hb) (a : BitVec 64) (ca : Nat) (w : World) (hc : w.cell? ⟨ca, 0, none⟩ = some (.int .u64 (U a))) (hlt : ca < w.heap.size) : Calls Try.prog 18 #[.agg #[.int .u64 (U r.b), .int .u64 (U r.t), .bool r.fr, .int .i64 r.tm], .pointer (some ⟨ca, 0, none⟩)] w fun e w' => e = .returned (.bool (giveF a r)) ∧ Below w.heap.size w w' := by
  obtain ⟨b, t, fr, tm⟩ := r
  go_enter Try.func18, Try.ntmps18
  have e0 : (b == a) = (U b == U a) := by
    rw [Bool.eq_iff_iff, beq_iff_eq, beq_iff_eq]
    exact (U_inj b a).symm
  unfold giveF
  dsimp only
  rw [e0]
  clear e0
  cases h1 : (U b == U a) <;> cases fr
  all_goals
    go_wp2_with fail
    go_ret
    exact ⟨rfl, by (repeat (first | with_reducible exact Below.refl _ _ | with_reducible assumption | with_reducible refine below_drewN ?_ _ | with_reducible refine Below.drew ?_ | with_reducible refine below_alloc ?_ _ | (with_reducible refine Below.setCell ?_ (by first | (simp; done) | omega | (simp; omega)) _) | with_reducible refine belows ?_ (by assumption)))⟩
set_option maxHeartbeats 4000000 in
set_option maxRecDepth 100000 in
theorem settle1_any (b t : BitVec 64) (fr : Bool) (tm : Nat) (htm : tm ≤ 1099511627776) (now : Int) (ca : Nat) (w : World) (hc : w.cell? ⟨ca, 0, none⟩ = some (.int .i64 now)) (hlt : ca < w.heap.size) : Calls Try.prog 21 #[.agg #[.int .u64 (U b), .int .u64 (U t), .bool fr, .int .i64 (tm : Int)], .pointer (some ⟨ca, 0, none⟩)] w fun e w' => e = .returned (.bool (settleF now ⟨b, t, fr, tm⟩)) ∧ Below w.heap.size w w' := by
  have ca1 := fun w => again_any tm htm w
  unfold settleF
  dsimp only
  generalize againF (tm : Int) = z at ca1
  go_enter Try.func21, Try.ntmps21
  cases fr
  · go_wp2_with fail
    refine wp_region_below (by kernel_rfl) (by kernel_rfl) (fun hcr hfr => ?_)
    (try simp only [World.size_alloc, World.size_setCell, World.size_drew, size_drewN_] at hcr hfr)
    repeat (go_big_quiet_step (fail))
    refine wpQuiet_nil ?_
    intro w' hbl
    clear hcr hfr
    obtain ⟨hcw, hfw, hsw⟩ := below_ifs hbl; (try simp only [World.size_alloc, World.size_setCell, World.size_drew, size_drewN_] at hcw hfw hsw)
    go_wp2_with fail
    go_ret
    exact ⟨rfl, by (repeat (first | with_reducible exact Below.refl _ _ | with_reducible assumption | with_reducible refine below_drewN ?_ _ | with_reducible refine Below.drew ?_ | with_reducible refine below_alloc ?_ _ | (with_reducible refine Below.setCell ?_ (by first | (simp; done) | omega | (simp; omega)) _) | with_reducible refine belows ?_ (by assumption)))⟩
  · cases h1 : decide (z ≤ now)
    all_goals
      go_wp2_with fail
      refine wp_region_below (by kernel_rfl) (by kernel_rfl) (fun hcr hfr => ?_)
      (try simp only [World.size_alloc, World.size_setCell, World.size_drew, size_drewN_] at hcr hfr)
      repeat (go_big_quiet_step ((first | (go_at_call 10; first | with_reducible exact Calls.regrown_of (ca1 _) | with_reducible exact regrown_k (ca1 _) | with_reducible exact regrown_1 (ca1 _) | with_reducible exact regrown_a (ca1 _)))))
      refine wpQuiet_nil ?_
      intro w' hbl
      clear hcr hfr
      obtain ⟨hcw, hfw, hsw⟩ := below_ifs hbl; (try simp only [World.size_alloc, World.size_setCell, World.size_drew, size_drewN_] at hcw hfw hsw)
      go_wp2_with fail
      go_ret
      exact ⟨rfl, by (repeat (first | with_reducible exact Below.refl _ _ | with_reducible assumption | with_reducible refine below_drewN ?_ _ | with_reducible refine Below.drew ?_ | with_reducible refine below_alloc ?_ _ | (with_reducible refine Below.setCell ?_ (by first | (simp; done) | omega | (simp; omega)) _) | with_reducible refine belows ?_ (by assumption)))⟩
set_option maxHeartbeats 4000000 in
set_option maxRecDepth 100000 in
theorem idx_give (B : Nat) (v : Value) (L : List Hb) (w : World) (hs : SlH w B v L) (hbig : L.length ≤ 1099511627776) (a : BitVec 64) (ca : Nat) (hc : w.cell? ⟨ca, 0, none⟩ = some (.int .u64 (U a))) (hlt : ca < w.heap.size) : Calls Try.prog 17 #[v, .func (.func 18) #[] #[.pointer (some ⟨ca, 0, none⟩)]] w fun e w' => e = .returned (.int .i64 (idxI (giveF a) L)) ∧ Below w.heap.size w w' := by
  obtain ⟨a', cap, rfl, hcap, hcap2, hblt, hform⟩ := hs.form
  have hp : ∀ W : World, Below w.heap.size w W → ∀ (j : Nat) (r : Hb), L[j]? = some r → Calls Try.prog 18 #[.agg #[.int .u64 (U r.b), .int .u64 (U r.t), .bool r.fr, .int .i64 r.tm], .pointer (some ⟨ca, 0, none⟩)] W fun e w' => e = .returned (.bool ((giveF a) r)) ∧ Below W.heap.size W w' := fun W HB j r hj => give1_any _ a ca _ ((HB.cell (p := ⟨ca, 0, none⟩) hlt).trans hc) (Nat.lt_of_lt_of_le hlt HB.size)
  have hrd : ∀ W : World, Below w.heap.size w W → ∀ j r, L[j]? = some r → ∃ g, a' = some ⟨g, 0, none⟩ ∧ g < W.heap.size ∧ W.cell? ⟨g, j * 4, none⟩ = some (.int .u64 (U r.b)) ∧ W.cell? ⟨g, j * 4 + 1, none⟩ = some (.int .u64 (U r.t)) ∧ W.cell? ⟨g, j * 4 + 2, none⟩ = some (.bool r.fr) ∧ W.cell? ⟨g, j * 4 + 3, none⟩ = some (.int .i64 r.tm) := fun W HB j r hj => by
    rcases hform with rfl | ⟨g, rfl, hbg, hg, hx⟩
    · simp at hj
    · obtain ⟨c1, c2, c3, c4⟩ := hx j r hj
      exact ⟨g, rfl, Nat.lt_of_lt_of_le hg HB.size, (HB.cell (p := ⟨g, _, none⟩) hg).trans c1, (HB.cell (p := ⟨g, _, none⟩) hg).trans c2, (HB.cell (p := ⟨g, _, none⟩) hg).trans c3, (HB.cell (p := ⟨g, _, none⟩) hg).trans c4⟩
  generalize hP : (giveF a) = P at hp
  have HP := Lib.hid hp
  have HR := Lib.hid hrd
  clear hp hrd hform hP
  generalize hn : L.length = n at hcap hbig
  go_enter Try.func17, Try.ntmps17
  go_wp2_with fail
  go_loopw [5, 8] (fun _ x wr => ∃ k : Nat, x = .int .i64 (k : Int) ∧ k ≤ n ∧ Hid (Below w.heap.size w wr) ∧ Hid (∀ j y, j < k → L[j]? = some y → P y = false)) (fun _ x _ => n - (intOf x).toNat)
  case atStart => exact ⟨0, rfl, Nat.zero_le _, Lib.hid (Below.refl _ _), Lib.hid (fun j _ hj => absurd hj (Nat.not_lt_zero _))⟩
  case round =>
    obtain ⟨k, rfl, hk, HB, HK⟩ := hrel
    by_cases c : k < n
    · have d1 : decide ((k : Int) < (n : Int)) = true := decide_eq_true (by omega)
      obtain ⟨r, hr⟩ : ∃ r, L[k]? = some r := ⟨L[k]'(by omega), List.getElem?_eq_getElem (by omega)⟩
      obtain ⟨g, rfl, hg, x0, x1, x2, x3⟩ := HR.out wr HB.out k r hr
      have cP := HP.out wr HB.out k r hr
      have HRr := Lib.hid hr
      clear hr
      cases hq : P r
      · rw [hq] at cP
        have HQ := Lib.hid hq
        clear hq
        go_wp2_with (first | (go_at_call 18; refine cP.mono ?_; rintro e w' ⟨rfl, hb'⟩))
        go_roundw
        case rel =>
          refine ⟨k + 1, by go_num, by omega, Lib.hid (HB.out.trans (hb'.mono HB.out.size)), Lib.hid fun j y hj hy => ?_⟩
          by_cases e : j = k
          · subst e
            rw [HRr.out] at hy
            rw [← Option.some.inj hy]; exact HQ.out
          · exact HK.out j y (by omega) hy
        case measure => (simp [intOf]; omega)
      · rw [hq] at cP
        have HQ := Lib.hid hq
        clear hq
        go_wp2_with (first | (go_at_call 18; refine cP.mono ?_; rintro e w' ⟨rfl, hb'⟩))
        go_ret
        exact ⟨by rw [idx_hit P L k r HRr.out HQ.out HK.out]; rfl, HB.out.trans (hb'.mono HB.out.size)⟩
    · obtain rfl : k = n := by omega
      go_wp2_with fail
      go_ret
      exact ⟨by rw [idx_miss P L (fun j x hx => HK.out j x (by obtain ⟨h, _⟩ := List.getElem?_eq_some_iff.1 hx; omega) hx)]; rfl, HB.out⟩
set_option maxHeartbeats 4000000 in
set_option maxRecDepth 100000 in
theorem idx_settle (B : Nat) (v : Value) (L : List Hb) (w : World) (hs : SlH w B v L) (hbig : L.length ≤ 1099511627776) (now : Int) (ca : Nat) (hc : w.cell? ⟨ca, 0, none⟩ = some (.int .i64 now)) (htm : ∀ (j : Nat) (r : Hb), L[j]? = some r → ∃ n : Nat, r.tm = (n : Int) ∧ n ≤ 1099511627776) (hlt : ca < w.heap.size) : Calls Try.prog 17 #[v, .func (.func 21) #[] #[.pointer (some ⟨ca, 0, none⟩)]] w fun e w' => e = .returned (.int .i64 (idxI (settleF now) L)) ∧ Below w.heap.size w w' := by
  obtain ⟨a', cap, rfl, hcap, hcap2, hblt, hform⟩ := hs.form
  have hp : ∀ W : World, Below w.heap.size w W → ∀ (j : Nat) (r : Hb), L[j]? = some r → Calls Try.prog 21 #[.agg #[.int .u64 (U r.b), .int .u64 (U r.t), .bool r.fr, .int .i64 r.tm], .pointer (some ⟨ca, 0, none⟩)] W fun e w' => e = .returned (.bool ((settleF now) r)) ∧ Below W.heap.size W w' := fun W HB j r hj => by
    obtain ⟨n, hn, hle⟩ := htm j r hj
    obtain ⟨rb, rt, fr, tm⟩ := r
    obtain rfl : tm = (n : Int) := hn
    exact settle1_any rb rt fr n hle now ca _ ((HB.cell (p := ⟨ca, 0, none⟩) hlt).trans hc) (Nat.lt_of_lt_of_le hlt HB.size)
  have hrd : ∀ W : World, Below w.heap.size w W → ∀ j r, L[j]? = some r → ∃ g, a' = some ⟨g, 0, none⟩ ∧ g < W.heap.size ∧ W.cell? ⟨g, j * 4, none⟩ = some (.int .u64 (U r.b)) ∧ W.cell? ⟨g, j * 4 + 1, none⟩ = some (.int .u64 (U r.t)) ∧ W.cell? ⟨g, j * 4 + 2, none⟩ = some (.bool r.fr) ∧ W.cell? ⟨g, j * 4 + 3, none⟩ = some (.int .i64 r.tm) := fun W HB j r hj => by
    rcases hform with rfl | ⟨g, rfl, hbg, hg, hx⟩
    · simp at hj
    · obtain ⟨c1, c2, c3, c4⟩ := hx j r hj
      exact ⟨g, rfl, Nat.lt_of_lt_of_le hg HB.size, (HB.cell (p := ⟨g, _, none⟩) hg).trans c1, (HB.cell (p := ⟨g, _, none⟩) hg).trans c2, (HB.cell (p := ⟨g, _, none⟩) hg).trans c3, (HB.cell (p := ⟨g, _, none⟩) hg).trans c4⟩
  generalize hP : (settleF now) = P at hp
  have HP := Lib.hid hp
  have HR := Lib.hid hrd
  clear hp hrd hform hP
  generalize hn : L.length = n at hcap hbig
  go_enter Try.func17, Try.ntmps17
  go_wp2_with fail
  go_loopw [5, 8] (fun _ x wr => ∃ k : Nat, x = .int .i64 (k : Int) ∧ k ≤ n ∧ Hid (Below w.heap.size w wr) ∧ Hid (∀ j y, j < k → L[j]? = some y → P y = false)) (fun _ x _ => n - (intOf x).toNat)
  case atStart => exact ⟨0, rfl, Nat.zero_le _, Lib.hid (Below.refl _ _), Lib.hid (fun j _ hj => absurd hj (Nat.not_lt_zero _))⟩
  case round =>
    obtain ⟨k, rfl, hk, HB, HK⟩ := hrel
    by_cases c : k < n
    · have d1 : decide ((k : Int) < (n : Int)) = true := decide_eq_true (by omega)
      obtain ⟨r, hr⟩ : ∃ r, L[k]? = some r := ⟨L[k]'(by omega), List.getElem?_eq_getElem (by omega)⟩
      obtain ⟨g, rfl, hg, x0, x1, x2, x3⟩ := HR.out wr HB.out k r hr
      have cP := HP.out wr HB.out k r hr
      have HRr := Lib.hid hr
      clear hr
      cases hq : P r
      · rw [hq] at cP
        have HQ := Lib.hid hq
        clear hq
        go_wp2_with (first | (go_at_call 21; refine cP.mono ?_; rintro e w' ⟨rfl, hb'⟩))
        go_roundw
        case rel =>
          refine ⟨k + 1, by go_num, by omega, Lib.hid (HB.out.trans (hb'.mono HB.out.size)), Lib.hid fun j y hj hy => ?_⟩
          by_cases e : j = k
          · subst e
            rw [HRr.out] at hy
            rw [← Option.some.inj hy]; exact HQ.out
          · exact HK.out j y (by omega) hy
        case measure => (simp [intOf]; omega)
      · rw [hq] at cP
        have HQ := Lib.hid hq
        clear hq
        go_wp2_with (first | (go_at_call 21; refine cP.mono ?_; rintro e w' ⟨rfl, hb'⟩))
        go_ret
        exact ⟨by rw [idx_hit P L k r HRr.out HQ.out HK.out]; rfl, HB.out.trans (hb'.mono HB.out.size)⟩
    · obtain rfl : k = n := by omega
      go_wp2_with fail
      go_ret
      exact ⟨by rw [idx_miss P L (fun j x hx => HK.out j x (by obtain ⟨h, _⟩ := List.getElem?_eq_some_iff.1 hx; omega) hx)]; rfl, HB.out⟩
end Go.Proofs.Ytlhhahafmmfhhaa
