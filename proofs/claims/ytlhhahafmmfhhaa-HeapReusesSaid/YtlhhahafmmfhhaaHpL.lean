
/-
  Heaps: plain facts of what is asked, of the lowest place; no program.
-/
import Derived.Test.YtlhhahafmmfhhaaHpE
import Derived.Test.YtlhhahafmmfhhaaHpG
import Derived.Test.YtlhhahafmmfhhaaHpH
namespace Go.Proofs.Ytlhhahafmmfhhaa
open Go Go.RowKit
set_option linter.unusedVariables false
set_option linter.unusedSimpArgs false

theorem exp_4096 : expN 0 4096 = 0 := by decide +kernel
theorem ask_small (n : BitVec 64) (h0 : 0 < n.toNat) (h1 : n.toNat ≤ 4096) : (askN n).toNat % 16 = 0 ∧ n.toNat ≤ (askN n).toNat ∧ (askN n).toNat ≤ 4096 ∧ askX n = 4 := by
  have a1 := (up_N n 4 (by omega) (by omega)).1
  have a2 := le_hi_mul n.toNat 4
  have a3 := hi_mul_lt n.toNat 4
  obtain ⟨c1, hc1⟩ : ∃ c1, c1 = hiN n.toNat 4 := ⟨_, rfl⟩
  rw [← hc1] at a1 a2 a3
  obtain ⟨u1, hu1⟩ : ∃ u1, u1 = (upF n 4).toNat := ⟨_, rfl⟩
  have e4 : (2 : Nat) ^ 4 = 16 := rfl
  have hu : u1 = c1 * 2 ^ 4 := by rw [hu1]; exact a1
  rw [e4] at a2 a3
  have b1 : u1 ≤ 4096 := by rw [hu, e4]; omega
  have b2 : n.toNat ≤ u1 := by rw [hu, e4]; exact a2
  have r1 : (rndT 0#64 (upF n 4)).toNat = ktN 0 u1 := by rw [rndT_0 _ (by rw [← hu1]; omega), ← hu1]
  have ee : expN 0 u1 = 0 := by
    have := (length_mono b1).2
    rw [exp_4096] at this
    omega
  have kk : ktN 0 u1 = u1 := by
    unfold ktN
    rw [ee]
    unfold hiN
    simp
  rw [kk] at r1
  have r2 := (up_N (rndT 0#64 (upF n 4)) 4 (by omega) (by rw [r1]; omega)).1
  have r3 : (askN n).toNat = u1 := by
    rw [r1, hu, hi_of_mul] at r2
    rw [hu]
    exact r2
  refine ⟨by rw [r3, hu, e4]; omega, by rw [r3]; exact b2, by rw [r3]; exact b1, ?_⟩
  unfold askX
  rw [encE_0 _ (by rw [r3]; omega), r3, ee]
  rfl
theorem up_same (t : BitVec 64) (h : t.toNat % 16 = 0) (h1 : t.toNat ≤ 1048576) : upF t 4 = t := by
  have a1 := (up_N t 4 (by omega) (by omega)).1
  apply BitVec.eq_of_toNat_eq
  have e : t.toNat = (t.toNat / 16) * 2 ^ 4 := by omega
  have a2 : (upF t 4).toNat = hiN t.toNat 4 * 2 ^ 4 := a1
  rw [a2]
  conv => lhs; rw [e]
  rw [hi_of_mul]
  exact e.symm
theorem hup_of {L : List Hb} (h : ∀ (j : Nat) (r : Hb), L[j]? = some r → upF r.t 4 = r.t) : ∀ (j : Nat) (r : Hb) (base top : BitVec 64), L[j]? = some r → meetF r.b r.t base top = true → U base < U (upF r.t 4) := fun j r base top hj hm => by
  rw [h j r hj]
  unfold meetF at hm
  simp only [Bool.and_eq_true, decide_eq_true_eq] at hm
  exact hm.2
theorem lr_hit {top n base : BitVec 64} {L : List Hb} (h1 : U base ≤ U top) (h2 : U (base + n) ≤ U top) (h3 : ∀ (j : Nat) (r : Hb), L[j]? = some r → meetF r.b r.t base (base + n) = false) : LR top n 4 L base base (base + n) true := by
  have h := LR.hit (x := 4) (decide_eq_true h1) h3
  rw [decide_eq_true h2] at h
  exact h
/-- Three places in a row. -/
structure Row3 (n a b c d : BitVec 64) : Prop where
  ask : askX n = 4
  na : a = 65536#64
  ab : a + askN n = b
  bc : b + askN n = c
  cd : c + askN n = d
  la : U a = 65536
  lb : U a < U b
  lc : U b < U c
  ld : U c < U d
  le : U d ≤ 131072
  ua : upF a 4 = a
  ub : upF b 4 = b
  uc : upF c 4 = c
  ud : upF d 4 = d
theorem row3 (n : BitVec 64) (h0 : 0 < n.toNat) (h1 : n.toNat ≤ 4096) : Row3 n 65536#64 (65536#64 + askN n) (65536#64 + askN n + askN n) (65536#64 + askN n + askN n + askN n) := by
  obtain ⟨a1, a2, a3, a4⟩ := ask_small n h0 h1
  generalize hm : askN n = m at a1 a2 a3
  have e0 : (65536#64).toNat = 65536 := rfl
  have e1 : (65536#64 + m).toNat = 65536 + m.toNat := by rw [BitVec.toNat_add, e0]; omega
  have e2 : (65536#64 + m + m).toNat = 65536 + m.toNat + m.toNat := by rw [BitVec.toNat_add, e1]; omega
  have e3 : (65536#64 + m + m + m).toNat = 65536 + m.toNat + m.toNat + m.toNat := by rw [BitVec.toNat_add, e2]; omega
  refine ⟨a4, rfl, ?_, ?_, ?_, rfl, ?_, ?_, ?_, ?_, up_same _ (by rw [e0]) (by rw [e0]; omega), up_same _ (by rw [e1]; omega) (by rw [e1]; omega), up_same _ (by rw [e2]; omega) (by rw [e2]; omega), up_same _ (by rw [e3]; omega) (by rw [e3]; omega)⟩
  · rw [hm]
  · rw [hm]
  · rw [hm]
  · unfold U; rw [e0, e1]; omega
  · unfold U; rw [e1, e2]; omega
  · unfold U; rw [e2, e3]; omega
  · unfold U; rw [e3]; omega
theorem U_top : U 131072#64 = 131072 := rfl
theorem not_meet_ge {b t x y : BitVec 64} (h : U t ≤ U x) : meetF b t x y = false := by
  unfold meetF
  rw [decide_eq_false (by omega : ¬ U x < U t), Bool.and_false]
theorem not_meet_le {b t x y : BitVec 64} (h : U y ≤ U b) : meetF b t x y = false := by
  unfold meetF
  rw [decide_eq_false (by omega : ¬ U b < U y), Bool.false_and]
theorem is_meet {b t x y : BitVec 64} (h1 : U b < U y) (h2 : U x < U t) : meetF b t x y = true := by
  unfold meetF
  rw [decide_eq_true h1, decide_eq_true h2]; rfl
theorem one_get {x r : Hb} {j : Nat} (h : [x][j]? = some r) : j = 0 ∧ x = r := by
  match j, h with
  | 0, h => exact ⟨rfl, by simpa using h⟩
  | j + 1, h => simp at h
theorem two_get {x y r : Hb} {j : Nat} (h : [x, y][j]? = some r) : (j = 0 ∧ x = r) ∨ (j = 1 ∧ y = r) := by
  match j, h with
  | 0, h => exact .inl ⟨rfl, by simpa using h⟩
  | 1, h => exact .inr ⟨rfl, by simpa using h⟩
  | j + 2, h => simp at h
theorem hup0 {n a b c d : BitVec 64} (_ : Row3 n a b c d) : ∀ (j : Nat) (r : Hb) (base top : BitVec 64), ([] : List Hb)[j]? = some r → meetF r.b r.t base top = true → U base < U (upF r.t (askX n)) := fun j r _ _ h => by simp at h
section
variable {n a b c d : BitVec 64} (R : Row3 n a b c d)
include R
theorem lr0 : LR 131072#64 (askN n) (askX n) [] (upF a (askX n)) a b true := by
  have h1 := R.lb; have h2 := R.lc; have h3 := R.ld; have h4 := R.le; have h5 := U_top
  rw [R.ask, R.ua, ← R.ab]
  exact lr_hit (by omega) (by rw [R.ab]; omega) (fun j r h => by simp at h)
theorem lr1 (f : Bool) (x : Int) : LR 131072#64 (askN n) (askX n) [⟨a, b, f, x⟩] (upF a (askX n)) b c true := by
  have h1 := R.lb; have h2 := R.lc; have h3 := R.ld; have h4 := R.le; have h5 := U_top
  rw [R.ask, R.ua]
  refine LR.next (k := 0) (r := ⟨a, b, f, x⟩) (decide_eq_true (by omega)) rfl (is_meet (by rw [R.ab]; exact h1) h1) (fun j y hj => absurd hj (Nat.not_lt_zero _)) ?_
  show LR _ _ _ _ (upF b 4) _ _ _
  rw [R.ub, ← R.bc]
  refine lr_hit (by omega) (by rw [R.bc]; omega) (fun j r h => ?_)
  obtain ⟨-, rfl⟩ := one_get h
  exact not_meet_ge (by show U b ≤ U b; omega)
theorem lr2 (f : Bool) (x : Int) (g : Bool) (y : Int) : LR 131072#64 (askN n) (askX n) [⟨a, b, f, x⟩, ⟨b, c, g, y⟩] (upF a (askX n)) c d true := by
  have h1 := R.lb; have h2 := R.lc; have h3 := R.ld; have h4 := R.le; have h5 := U_top
  rw [R.ask, R.ua]
  refine LR.next (k := 0) (r := ⟨a, b, f, x⟩) (decide_eq_true (by omega)) rfl (is_meet (by rw [R.ab]; exact h1) h1) (fun j y hj => absurd hj (Nat.not_lt_zero _)) ?_
  show LR _ _ _ _ (upF b 4) _ _ _
  rw [R.ub]
  refine LR.next (k := 1) (r := ⟨b, c, g, y⟩) (decide_eq_true (by omega)) rfl (is_meet (by rw [R.bc]; exact h2) h2) (fun j z hj hz => ?_) ?_
  · obtain rfl : j = 0 := by omega
    rcases two_get hz with ⟨-, rfl⟩ | ⟨h, -⟩
    · exact not_meet_ge (by show U b ≤ U b; omega)
    · cases h
  show LR _ _ _ _ (upF c 4) _ _ _
  rw [R.uc, ← R.cd]
  refine lr_hit (by omega) (by rw [R.cd]; omega) (fun j r h => ?_)
  rcases two_get h with ⟨-, rfl⟩ | ⟨-, rfl⟩
  · exact not_meet_ge (by show U b ≤ U c; omega)
  · exact not_meet_ge (by show U c ≤ U c; omega)
theorem lr3 (f : Bool) (x : Int) : LR 131072#64 (askN n) (askX n) [⟨b, c, f, x⟩] (upF a (askX n)) a b true := by
  have h1 := R.lb; have h2 := R.lc; have h3 := R.ld; have h4 := R.le; have h5 := U_top
  rw [R.ask, R.ua, ← R.ab]
  refine lr_hit (by omega) (by rw [R.ab]; omega) (fun j r h => ?_)
  obtain ⟨-, rfl⟩ := one_get h
  exact not_meet_le (by rw [R.ab]; show U b ≤ U b; omega)
theorem hup1 (f : Bool) (x : Int) : ∀ (j : Nat) (r : Hb) (base top : BitVec 64), [(⟨a, b, f, x⟩ : Hb)][j]? = some r → meetF r.b r.t base top = true → U base < U (upF r.t (askX n)) := by
  rw [R.ask]
  refine hup_of fun j r h => ?_
  obtain ⟨-, rfl⟩ := one_get h
  exact R.ub
theorem hup2 (f : Bool) (x : Int) (g : Bool) (y : Int) : ∀ (j : Nat) (r : Hb) (base top : BitVec 64), [(⟨a, b, f, x⟩ : Hb), ⟨b, c, g, y⟩][j]? = some r → meetF r.b r.t base top = true → U base < U (upF r.t (askX n)) := by
  rw [R.ask]
  refine hup_of fun j r h => ?_
  rcases two_get h with ⟨-, rfl⟩ | ⟨-, rfl⟩
  · exact R.ub
  · exact R.uc
theorem hup3 (f : Bool) (x : Int) : ∀ (j : Nat) (r : Hb) (base top : BitVec 64), [(⟨b, c, f, x⟩ : Hb)][j]? = some r → meetF r.b r.t base top = true → U base < U (upF r.t (askX n)) := by
  rw [R.ask]
  refine hup_of fun j r h => ?_
  obtain ⟨-, rfl⟩ := one_get h
  exact R.uc
end
theorem take0 {n a b c d : BitVec 64} (R : Row3 n a b c d) (hn0 : n ≠ 0#64) (hn1 : U n ≤ 274877906944)  (B : Nat) (v : Value) (w : World) (hs : SlH w B v []) : Calls Try.prog 5 #[.agg #[.int .u64 (U a), .int .u64 131072, v], .int .u64 (U n)] w fun e w' => ∃ v', e = .returned (.tuple #[.agg #[.int .u64 (U a), .int .u64 131072, v'], .agg #[.int .u64 (U a), .int .u64 (U b)], .int .i64 0]) ∧ SlH w' w.heap.size v' [⟨a, b, false, 0⟩] ∧ Below w.heap.size w w' := by
  have hx := take_yes B a 131072#64 n a b v [] w hs (by simp) hn0 hn1 (hup0 R) (lr0 R)
  refine hx.mono fun e w' hq => ?_
  obtain ⟨i, v', he, hi, h1, h2, hsl, hb⟩ := hq
  refine ⟨v', he, ?_, hb⟩
  have l1 := R.lb; have l2 := R.lc; have l3 := R.ld
  obtain rfl : i = 0 := by simpa using hi
  exact hsl
theorem take1 {n a b c d : BitVec 64} (R : Row3 n a b c d) (hn0 : n ≠ 0#64) (hn1 : U n ≤ 274877906944) (f : Bool) (x : Int) (B : Nat) (v : Value) (w : World) (hs : SlH w B v [⟨a, b, f, x⟩]) : Calls Try.prog 5 #[.agg #[.int .u64 (U a), .int .u64 131072, v], .int .u64 (U n)] w fun e w' => ∃ v', e = .returned (.tuple #[.agg #[.int .u64 (U a), .int .u64 131072, v'], .agg #[.int .u64 (U b), .int .u64 (U c)], .int .i64 0]) ∧ SlH w' w.heap.size v' [⟨a, b, f, x⟩, ⟨b, c, false, 0⟩] ∧ Below w.heap.size w w' := by
  have hx := take_yes B a 131072#64 n b c v [⟨a, b, f, x⟩] w hs (by simp) hn0 hn1 (hup1 R f x) (lr1 R f x)
  refine hx.mono fun e w' hq => ?_
  obtain ⟨i, v', he, hi, h1, h2, hsl, hb⟩ := hq
  refine ⟨v', he, ?_, hb⟩
  have l1 := R.lb; have l2 := R.lc; have l3 := R.ld
  have hi' : i = 0 ∨ i = 1 := by simp at hi; omega
  rcases hi' with rfl | rfl
  · have := h2 _ rfl
    have : U b ≤ U a := this
    omega
  · exact hsl
theorem take2 {n a b c d : BitVec 64} (R : Row3 n a b c d) (hn0 : n ≠ 0#64) (hn1 : U n ≤ 274877906944) (f : Bool) (x : Int) (g : Bool) (y : Int) (B : Nat) (v : Value) (w : World) (hs : SlH w B v [⟨a, b, f, x⟩, ⟨b, c, g, y⟩]) : Calls Try.prog 5 #[.agg #[.int .u64 (U a), .int .u64 131072, v], .int .u64 (U n)] w fun e w' => ∃ v', e = .returned (.tuple #[.agg #[.int .u64 (U a), .int .u64 131072, v'], .agg #[.int .u64 (U c), .int .u64 (U d)], .int .i64 0]) ∧ SlH w' w.heap.size v' [⟨a, b, f, x⟩, ⟨b, c, g, y⟩, ⟨c, d, false, 0⟩] ∧ Below w.heap.size w w' := by
  have hx := take_yes B a 131072#64 n c d v [⟨a, b, f, x⟩, ⟨b, c, g, y⟩] w hs (by simp) hn0 hn1 (hup2 R f x g y) (lr2 R f x g y)
  refine hx.mono fun e w' hq => ?_
  obtain ⟨i, v', he, hi, h1, h2, hsl, hb⟩ := hq
  refine ⟨v', he, ?_, hb⟩
  have l1 := R.lb; have l2 := R.lc; have l3 := R.ld
  have hi' : i = 0 ∨ i = 1 ∨ i = 2 := by simp at hi; omega
  rcases hi' with rfl | rfl | rfl
  · have := h2 _ rfl
    have : U c ≤ U a := this
    omega
  · have := h2 _ rfl
    have : U c ≤ U b := this
    omega
  · exact hsl
theorem take3 {n a b c d : BitVec 64} (R : Row3 n a b c d) (hn0 : n ≠ 0#64) (hn1 : U n ≤ 274877906944) (f : Bool) (x : Int) (B : Nat) (v : Value) (w : World) (hs : SlH w B v [⟨b, c, f, x⟩]) : Calls Try.prog 5 #[.agg #[.int .u64 (U a), .int .u64 131072, v], .int .u64 (U n)] w fun e w' => ∃ v', e = .returned (.tuple #[.agg #[.int .u64 (U a), .int .u64 131072, v'], .agg #[.int .u64 (U a), .int .u64 (U b)], .int .i64 0]) ∧ SlH w' w.heap.size v' [⟨a, b, false, 0⟩, ⟨b, c, f, x⟩] ∧ Below w.heap.size w w' := by
  have hx := take_yes B a 131072#64 n a b v [⟨b, c, f, x⟩] w hs (by simp) hn0 hn1 (hup3 R f x) (lr3 R f x)
  refine hx.mono fun e w' hq => ?_
  obtain ⟨i, v', he, hi, h1, h2, hsl, hb⟩ := hq
  refine ⟨v', he, ?_, hb⟩
  have l1 := R.lb; have l2 := R.lc; have l3 := R.ld
  have hi' : i = 0 ∨ i = 1 := by simp at hi; omega
  rcases hi' with rfl | rfl
  · exact hsl
  · have := h1 0 _ (by omega) rfl
    have : U b < U a := this
    omega
end Go.Proofs.Ytlhhahafmmfhhaa
