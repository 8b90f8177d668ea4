
/-
  Reservations found: the closures; slices.IndexFunc, ContainsFunc, Index.
-/
import Derived.Test.YtnillifinnmigaaRgA
namespace Go.Proofs.Ytnillifinnmigaa
open Go Go.RowKit
set_option linter.unusedVariables false
set_option linter.unusedSimpArgs false

def atF (a : BitVec 64) (r : Rg) : Bool := decide (U r.b ≤ U a) && decide (U a < U r.t)
def idxI (p : Rg → Bool) (L : List Rg) : Int := match L.findIdx? p with | some k => (k : Int) | none => -1
theorem idx_hit (p : Rg → Bool) : ∀ (L : List Rg) (k : Nat) (r : Rg), L[k]? = some r → p r = true → (∀ j x, j < k → L[j]? = some x → p x = false) → idxI p L = (k : Int) := fun L k r hk hp hb => by
  unfold idxI
  have : L.findIdx? p = some k := by
    obtain ⟨hlt, he⟩ := List.getElem?_eq_some_iff.1 hk
    rw [List.findIdx?_eq_some_iff_getElem]
    refine ⟨hlt, by rw [he]; exact hp, fun j hj => ?_⟩
    rw [hb j _ hj (List.getElem?_eq_getElem (by omega))]
    decide
  rw [this]
theorem idx_miss (p : Rg → Bool) (L : List Rg) (h : ∀ (j : Nat) (x : Rg), L[j]? = some x → p x = false) : idxI p L = -1 := by
  unfold idxI
  have : L.findIdx? p = none := by
    rw [List.findIdx?_eq_none_iff]
    intro x hx
    obtain ⟨j, hj⟩ := List.mem_iff_getElem?.1 hx
    exact h j x hj
  rw [this]
theorem idx_pos (p : Rg → Bool) (L : List Rg) : decide (0 ≤ idxI p L) = L.any p := by
  unfold idxI
  cases h : L.findIdx? p with
  | none =>
    rw [List.findIdx?_eq_none_iff] at h
    show decide ((0 : Int) ≤ -1) = _
    rw [decide_eq_false (by omega)]
    symm
    rw [List.any_eq_false]
    intro x hx
    rw [h x hx]; decide
  | some k =>
    rw [List.findIdx?_eq_some_iff_getElem] at h
    obtain ⟨hlt, hp, _⟩ := h
    show decide ((0 : Int) ≤ (k : Int)) = _
    rw [decide_eq_true (by omega)]
    symm
    rw [List.any_eq_true]
    exact ⟨_, List.getElem_mem hlt, hp⟩
set_option maxHeartbeats 4000000 in
set_option maxRecDepth 100000 in
theorem at1_any (r : Rg) (a : BitVec 64) (ca : Nat) (w : World) (hc : w.cell? ⟨ca, 0, none⟩ = some (.int .u64 (U a))) (hlt : ca < w.heap.size) : Calls Try.prog 32 #[.agg #[.int .u64 (U r.b), .int .u64 (U r.t), .int .i64 r.kd], .pointer (some ⟨ca, 0, none⟩)] w fun e w' => e = .returned (.bool (atF a r)) ∧ Below w.heap.size w w' := by
  obtain ⟨b, t, kd⟩ := r
  go_enter Try.func32, Try.ntmps32
  unfold atF
  dsimp only
  cases h1 : decide (U b ≤ U a) <;> cases h2 : decide (U a < U t)
  all_goals
    go_wp2_with fail
    go_ret
    exact ⟨rfl, by (repeat (first | with_reducible exact Below.refl _ _ | with_reducible assumption | with_reducible refine below_drewN ?_ _ | with_reducible refine Below.drew ?_ | with_reducible refine below_alloc ?_ _ | (with_reducible refine Below.setCell ?_ (by first | (simp; done) | omega | (simp; omega)) _) | with_reducible refine belows ?_ (by assumption)))⟩
set_option maxHeartbeats 4000000 in
set_option maxRecDepth 100000 in
theorem add1_any (r : Rg) (b t : BitVec 64) (ca : Nat) (w : World) (hc : w.cell? ⟨ca, 0, none⟩ = some (.int .u64 (U b))) (hc1 : w.cell? ⟨ca, 1, none⟩ = some (.int .u64 (U t))) (hlt : ca < w.heap.size) : Calls Try.prog 25 #[.agg #[.int .u64 (U r.b), .int .u64 (U r.t), .int .i64 r.kd], .pointer (some ⟨ca, 0, none⟩)] w fun e w' => e = .returned (.bool (meetF r.b r.t b t)) ∧ Below w.heap.size w w' := by
  obtain ⟨rb, rt, kd⟩ := r
  go_enter Try.func25, Try.ntmps25
  go_wp2_with (first | (go_at_call 19; (with_reducible refine (meet_any _ _ _ _ _).mono ?_); rintro e w' ⟨rfl, hbl⟩; obtain ⟨hcw, hfw, hsw⟩ := below_ifs hbl; (try simp only [World.size_alloc, World.size_setCell, World.size_drew, size_drewN_] at hcw hfw hsw)))
  go_ret
  exact ⟨rfl, by (repeat (first | with_reducible exact Below.refl _ _ | with_reducible assumption | with_reducible refine below_drewN ?_ _ | with_reducible refine Below.drew ?_ | with_reducible refine below_alloc ?_ _ | (with_reducible refine Below.setCell ?_ (by first | (simp; done) | omega | (simp; omega)) _) | with_reducible refine belows ?_ (by assumption)))⟩
set_option maxHeartbeats 4000000 in
set_option maxRecDepth 100000 in
theorem add2_any (r : Rg) (b : BitVec 64) (w : World) : Calls Try.prog 27 #[.agg #[.int .u64 (U r.b), .int .u64 (U r.t), .int .i64 r.kd], .int .u64 (U b)] w fun e w' => e = .returned (.int .i64 (if U r.b < U b then -1 else 1)) ∧ Below w.heap.size w w' := by
  obtain ⟨rb, rt, kd⟩ := r
  dsimp only
  go_enter Try.func27, Try.ntmps27
  by_cases h1 : U rb < U b
  · rw [if_pos h1]
    go_wp2_with fail
    go_ret
    exact ⟨rfl, by (repeat (first | with_reducible exact Below.refl _ _ | with_reducible assumption | with_reducible refine below_drewN ?_ _ | with_reducible refine Below.drew ?_ | with_reducible refine below_alloc ?_ _ | (with_reducible refine Below.setCell ?_ (by first | (simp; done) | omega | (simp; omega)) _) | with_reducible refine belows ?_ (by assumption)))⟩
  · rw [if_neg h1]
    go_wp2_with fail
    go_ret
    exact ⟨rfl, by (repeat (first | with_reducible exact Below.refl _ _ | with_reducible assumption | with_reducible refine below_drewN ?_ _ | with_reducible refine Below.drew ?_ | with_reducible refine below_alloc ?_ _ | (with_reducible refine Below.setCell ?_ (by first | (simp; done) | omega | (simp; omega)) _) | with_reducible refine belows ?_ (by assumption)))⟩
set_option maxHeartbeats 4000000 in
set_option maxRecDepth 100000 in
theorem idx_at (B : Nat) (v : Value) (L : List Rg) (w : World) (hs : SlR w B v L) (hbig : L.length ≤ 1099511627776) (a : BitVec 64) (ca : Nat) (hc : w.cell? ⟨ca, 0, none⟩ = some (.int .u64 (U a))) (hlt : ca < w.heap.size) : Calls Try.prog 31 #[v, .func (.func 32) #[] #[.pointer (some ⟨ca, 0, none⟩)]] w fun e w' => e = .returned (.int .i64 (idxI (atF a) L)) ∧ Below w.heap.size w w' := by
  obtain ⟨a', cap, rfl, hcap, hcap2, hblt, hform⟩ := hs.form
  have hp : ∀ W : World, Below w.heap.size w W → ∀ r : Rg, Calls Try.prog 32 #[.agg #[.int .u64 (U r.b), .int .u64 (U r.t), .int .i64 r.kd], .pointer (some ⟨ca, 0, none⟩)] W fun e w' => e = .returned (.bool ((atF a) r)) ∧ Below W.heap.size W w' := fun W HB r => at1_any _ a ca _ ((HB.cell (p := ⟨ca, 0, none⟩) hlt).trans hc) (Nat.lt_of_lt_of_le hlt HB.size)
  have hrd : ∀ W : World, Below w.heap.size w W → ∀ j r, L[j]? = some r → ∃ g, a' = some ⟨g, 0, none⟩ ∧ g < W.heap.size ∧ W.cell? ⟨g, j * 3, none⟩ = some (.int .u64 (U r.b)) ∧ W.cell? ⟨g, j * 3 + 1, none⟩ = some (.int .u64 (U r.t)) ∧ W.cell? ⟨g, j * 3 + 2, none⟩ = some (.int .i64 r.kd) := fun W HB j r hj => by
    rcases hform with rfl | ⟨g, rfl, hbg, hg, hx⟩
    · simp at hj
    · obtain ⟨c1, c2, c3⟩ := hx j r hj
      exact ⟨g, rfl, Nat.lt_of_lt_of_le hg HB.size, (HB.cell (p := ⟨g, _, none⟩) hg).trans c1, (HB.cell (p := ⟨g, _, none⟩) hg).trans c2, (HB.cell (p := ⟨g, _, none⟩) hg).trans c3⟩
  generalize hP : (atF a) = P at hp
  have HP := Lib.hid hp
  have HR := Lib.hid hrd
  clear hp hrd hform hP
  generalize hn : L.length = n at hcap hbig
  go_enter Try.func31, Try.ntmps31
  go_wp2_with fail
  go_loopw [5, 8] (fun _ x wr => ∃ k : Nat, x = .int .i64 (k : Int) ∧ k ≤ n ∧ Hid (Below w.heap.size w wr) ∧ Hid (∀ j y, j < k → L[j]? = some y → P y = false)) (fun _ x _ => n - (intOf x).toNat)
  case atStart => exact ⟨0, rfl, Nat.zero_le _, Lib.hid (Below.refl _ _), Lib.hid (fun j _ hj => absurd hj (Nat.not_lt_zero _))⟩
  case round =>
    obtain ⟨k, rfl, hk, HB, HK⟩ := hrel
    by_cases c : k < n
    · have d1 : decide ((k : Int) < (n : Int)) = true := decide_eq_true (by omega)
      obtain ⟨r, hr⟩ : ∃ r, L[k]? = some r := ⟨L[k]'(by omega), List.getElem?_eq_getElem (by omega)⟩
      obtain ⟨g, rfl, hg, x0, x1, x2⟩ := HR.out wr HB.out k r hr
      have cP := HP.out wr HB.out r
      have HRr := Lib.hid hr
      clear hr
      cases hq : P r
      · rw [hq] at cP
        have HQ := Lib.hid hq
        clear hq
        go_wp2_with (first | (go_at_call 32; refine cP.mono ?_; rintro e w' ⟨rfl, hb'⟩))
        go_roundw
        case rel =>
          refine ⟨k + 1, by go_num, by omega, Lib.hid (HB.out.trans (hb'.mono HB.out.size)), Lib.hid fun j y hj hy => ?_⟩
          by_cases e : j = k
          · subst e
            rw [HRr.out] at hy
            rw [← Option.some.inj hy]; exact HQ.out
          · exact HK.out j y (by omega) hy
        case measure => (simp [intOf]; omega)
      · rw [hq] at cP
        have HQ := Lib.hid hq
        clear hq
        go_wp2_with (first | (go_at_call 32; refine cP.mono ?_; rintro e w' ⟨rfl, hb'⟩))
        go_ret
        exact ⟨by rw [idx_hit P L k r HRr.out HQ.out HK.out]; rfl, HB.out.trans (hb'.mono HB.out.size)⟩
    · obtain rfl : k = n := by omega
      go_wp2_with fail
      go_ret
      exact ⟨by rw [idx_miss P L (fun j x hx => HK.out j x (by obtain ⟨h, _⟩ := List.getElem?_eq_some_iff.1 hx; omega) hx)]; rfl, HB.out⟩
set_option maxHeartbeats 4000000 in
set_option maxRecDepth 100000 in
theorem idx_add (B : Nat) (v : Value) (L : List Rg) (w : World) (hs : SlR w B v L) (hbig : L.length ≤ 1099511627776) (b t : BitVec 64) (ca : Nat) (hc : w.cell? ⟨ca, 0, none⟩ = some (.int .u64 (U b))) (hc1 : w.cell? ⟨ca, 1, none⟩ = some (.int .u64 (U t))) (hlt : ca < w.heap.size) : Calls Try.prog 31 #[v, .func (.func 25) #[] #[.pointer (some ⟨ca, 0, none⟩)]] w fun e w' => e = .returned (.int .i64 (idxI ((fun r : Rg => meetF r.b r.t b t)) L)) ∧ Below w.heap.size w w' := by
  obtain ⟨a', cap, rfl, hcap, hcap2, hblt, hform⟩ := hs.form
  have hp : ∀ W : World, Below w.heap.size w W → ∀ r : Rg, Calls Try.prog 25 #[.agg #[.int .u64 (U r.b), .int .u64 (U r.t), .int .i64 r.kd], .pointer (some ⟨ca, 0, none⟩)] W fun e w' => e = .returned (.bool (((fun r : Rg => meetF r.b r.t b t)) r)) ∧ Below W.heap.size W w' := fun W HB r => add1_any _ b t ca _ ((HB.cell (p := ⟨ca, 0, none⟩) hlt).trans hc) ((HB.cell (p := ⟨ca, 1, none⟩) hlt).trans hc1) (Nat.lt_of_lt_of_le hlt HB.size)
  have hrd : ∀ W : World, Below w.heap.size w W → ∀ j r, L[j]? = some r → ∃ g, a' = some ⟨g, 0, none⟩ ∧ g < W.heap.size ∧ W.cell? ⟨g, j * 3, none⟩ = some (.int .u64 (U r.b)) ∧ W.cell? ⟨g, j * 3 + 1, none⟩ = some (.int .u64 (U r.t)) ∧ W.cell? ⟨g, j * 3 + 2, none⟩ = some (.int .i64 r.kd) := fun W HB j r hj => by
    rcases hform with rfl | ⟨g, rfl, hbg, hg, hx⟩
    · simp at hj
    · obtain ⟨c1, c2, c3⟩ := hx j r hj
      exact ⟨g, rfl, Nat.lt_of_lt_of_le hg HB.size, (HB.cell (p := ⟨g, _, none⟩) hg).trans c1, (HB.cell (p := ⟨g, _, none⟩) hg).trans c2, (HB.cell (p := ⟨g, _, none⟩) hg).trans c3⟩
  generalize hP : ((fun r : Rg => meetF r.b r.t b t)) = P at hp
  have HP := Lib.hid hp
  have HR := Lib.hid hrd
  clear hp hrd hform hP
  generalize hn : L.length = n at hcap hbig
  go_enter Try.func31, Try.ntmps31
  go_wp2_with fail
  go_loopw [5, 8] (fun _ x wr => ∃ k : Nat, x = .int .i64 (k : Int) ∧ k ≤ n ∧ Hid (Below w.heap.size w wr) ∧ Hid (∀ j y, j < k → L[j]? = some y → P y = false)) (fun _ x _ => n - (intOf x).toNat)
  case atStart => exact ⟨0, rfl, Nat.zero_le _, Lib.hid (Below.refl _ _), Lib.hid (fun j _ hj => absurd hj (Nat.not_lt_zero _))⟩
  case round =>
    obtain ⟨k, rfl, hk, HB, HK⟩ := hrel
    by_cases c : k < n
    · have d1 : decide ((k : Int) < (n : Int)) = true := decide_eq_true (by omega)
      obtain ⟨r, hr⟩ : ∃ r, L[k]? = some r := ⟨L[k]'(by omega), List.getElem?_eq_getElem (by omega)⟩
      obtain ⟨g, rfl, hg, x0, x1, x2⟩ := HR.out wr HB.out k r hr
      have cP := HP.out wr HB.out r
      have HRr := Lib.hid hr
      clear hr
      cases hq : P r
      · rw [hq] at cP
        have HQ := Lib.hid hq
        clear hq
        go_wp2_with (first | (go_at_call 25; refine cP.mono ?_; rintro e w' ⟨rfl, hb'⟩))
        go_roundw
        case rel =>
          refine ⟨k + 1, by go_num, by omega, Lib.hid (HB.out.trans (hb'.mono HB.out.size)), Lib.hid fun j y hj hy => ?_⟩
          by_cases e : j = k
          · subst e
            rw [HRr.out] at hy
            rw [← Option.some.inj hy]; exact HQ.out
          · exact HK.out j y (by omega) hy
        case measure => (simp [intOf]; omega)
      · rw [hq] at cP
        have HQ := Lib.hid hq
        clear hq
        go_wp2_with (first | (go_at_call 25; refine cP.mono ?_; rintro e w' ⟨rfl, hb'⟩))
        go_ret
        exact ⟨by rw [idx_hit P L k r HRr.out HQ.out HK.out]; rfl, HB.out.trans (hb'.mono HB.out.size)⟩
    · obtain rfl : k = n := by omega
      go_wp2_with fail
      go_ret
      exact ⟨by rw [idx_miss P L (fun j x hx => HK.out j x (by obtain ⟨h, _⟩ := List.getElem?_eq_some_iff.1 hx; omega) hx)]; rfl, HB.out⟩
end Go.Proofs.Ytnillifinnmigaa
