
/-
  Maps of reservations: Find.
-/
import Derived.Test.YtnillifinnmigaaRgI
import Derived.Deep.LoopGhost
import Derived.WalkMore
namespace Go.Proofs.Ytnillifinnmigaa
open Go Go.RowKit
set_option linter.unusedVariables false
set_option linter.unusedSimpArgs false

/-- The lowest place that is free, from a place on. -/
inductive FR (rb rt n : BitVec 64) (x : Int) (L : List Rg) : BitVec 64 → Option (BitVec 64) → Prop
  | out {base : BitVec 64} : inRF base (base + n) rb rt = false → FR rb rt n x L base none
  | hit {base : BitVec 64} : inRF base (base + n) rb rt = true → (∀ (j : Nat) (r : Rg), L[j]? = some r → meetF r.b r.t base (base + n) = false) → FR rb rt n x L base (some base)
  | next {base : BitVec 64} {k : Nat} {r : Rg} {res : Option (BitVec 64)} : inRF base (base + n) rb rt = true → L[k]? = some r → meetF r.b r.t base (base + n) = true → (∀ (j : Nat) (y : Rg), j < k → L[j]? = some y → meetF y.b y.t base (base + n) = false) → FR rb rt n x L (upF r.t x) res → FR rb rt n x L base res
theorem FR.one {rb rt n : BitVec 64} {x : Int} {L : List Rg} {base : BitVec 64} {a : Option (BitVec 64)} (h : FR rb rt n x L base a) : ∀ {b : Option (BitVec 64)}, FR rb rt n x L base b → a = b := by
  induction h with
  | out h1 =>
    intro b hb
    cases hb with
    | out _ => rfl
    | hit h2 _ => rw [h1] at h2; cases h2
    | next h2 _ _ _ _ => rw [h1] at h2; cases h2
  | hit h1 h2 =>
    intro b hb
    cases hb with
    | out h3 => rw [h1] at h3; cases h3
    | hit _ _ => rfl
    | next _ h3 h4 _ _ => rw [h2 _ _ h3] at h4; cases h4
  | @next base k1 r1 res1 h1 hk hm hb _ ih =>
    intro b hb'
    cases hb' with
    | out h3 => rw [h1] at h3; cases h3
    | hit _ h3 => rw [h3 _ _ hk] at hm; cases hm
    | @next _ k2 r2 _ h3 hk' hm' hb'' hr =>
      have e : k1 = k2 := by
        rcases Nat.lt_trichotomy k1 k2 with h | h | h
        · rw [hb'' _ _ h hk] at hm; cases hm
        · exact h
        · rw [hb _ _ h hk'] at hm'; cases hm'
      subst e
      rw [hk] at hk'
      obtain rfl := Option.some.inj hk'
      exact ih hr
def findV (n : BitVec 64) : Option (BitVec 64) → Value
  | some b => .tuple #[.agg #[.int .u64 (U b), .int .u64 (U (b + n))], .int .i64 0]
  | none => .tuple #[.agg #[.int .u64 0, .int .u64 0], .int .i64 15]
def FSt (W : World) (p q : Nat) (rb rt : BitVec 64) (v A C : Value) : Prop := (p + 2 ≤ q ∧ q < W.heap.size) ∧ (W.cell? ⟨p, 0, none⟩ = some (.int .u64 (U rb)) ∧ W.cell? ⟨p, 1, none⟩ = some (.int .u64 (U rt)) ∧ W.cell? ⟨p, 2, none⟩ = some v) ∧ (W.cell? ⟨p + 1, 0, none⟩ = some (.int .u64 0) ∧ W.cell? ⟨p + 1, 1, none⟩ = some (.int .u64 0)) ∧ (W.cell? ⟨q, 0, none⟩ = some A ∧ W.cell? ⟨q, 1, none⟩ = some C) ∧ (W.frozen? ⟨p + 1, 0, none⟩ = false ∧ W.frozen? ⟨p + 1, 1, none⟩ = false ∧ W.frozen? ⟨q, 0, none⟩ = false ∧ W.frozen? ⟨q, 1, none⟩ = false)
theorem FSt.below {W W' : World} {p q D : Nat} {rb rt : BitVec 64} {v A C : Value} (h : FSt W p q rb rt v A C) (hb : Below D W W') (hD : q < D) : FSt W' p q rb rt v A C := by
  obtain ⟨⟨h0, h1⟩, ⟨c0, c1, c2⟩, ⟨d0, d1⟩, ⟨e0, e1⟩, f0, f1, f2, f3⟩ := h
  have q0 : p < D := by omega
  have q1 : p + 1 < D := by omega
  exact ⟨⟨h0, Nat.lt_of_lt_of_le h1 hb.size⟩, ⟨(hb.cell (p := ⟨p, _, none⟩) q0).trans c0, (hb.cell (p := ⟨p, _, none⟩) q0).trans c1, (hb.cell (p := ⟨p, _, none⟩) q0).trans c2⟩, ⟨(hb.cell (p := ⟨p + 1, _, none⟩) q1).trans d0, (hb.cell (p := ⟨p + 1, _, none⟩) q1).trans d1⟩, ⟨(hb.cell (p := ⟨q, _, none⟩) hD).trans e0, (hb.cell (p := ⟨q, _, none⟩) hD).trans e1⟩, (hb.frozen (p := ⟨p + 1, _, none⟩) q1).trans f0, (hb.frozen (p := ⟨p + 1, _, none⟩) q1).trans f1, (hb.frozen (p := ⟨q, _, none⟩) hD).trans f2, (hb.frozen (p := ⟨q, _, none⟩) hD).trans f3⟩
set_option maxHeartbeats 4000000 in
set_option maxRecDepth 100000 in
theorem find_arg (rb rt n : BitVec 64) (v : Value) (w : World) (h : n = 0#64 ∨ 274877906944 < U n) : Calls Try.prog 7 #[.agg #[.int .u64 (U rb), .int .u64 (U rt), v], .int .u64 (U n)] w fun e w' => e = .returned (.tuple #[.agg #[.int .u64 0, .int .u64 0], .int .i64 2]) ∧ Below w.heap.size w w' := by
  by_cases h0 : n = 0#64
  · have d1 : (U n == 0) = true := by rw [h0]; rfl
    go_enter Try.func7, Try.ntmps7
    go_wp2_with fail
    go_step3
    go_wp2_with fail
    (try rw [Exit.noGoto_ret])
    refine bodyPost_ret (results_ct [.int .u64 0, .int .u64 0] (.int .i64 2) Try.results7 rfl rfl ?_ Try.underlying24 rfl (by kernel_rfl)) rfl ?_
    · (first | (go_simp; done) | (go_simp; (simp [↓IntWalk.iteOmega]; done)) | (go_simp; intros; omega) | (go_simp; simp [↓IntWalk.iteOmega]; intros; omega))
    · exact ⟨rfl, by (repeat (first | with_reducible exact Below.refl _ _ | with_reducible assumption | with_reducible refine below_drewN ?_ _ | with_reducible refine Below.drew ?_ | with_reducible refine below_alloc ?_ _ | (with_reducible refine Below.setCell ?_ (by first | (simp; done) | omega | (simp; omega)) _) | with_reducible refine belows ?_ (by assumption)))⟩
  · have hd : decide (274877906944 < U n) = true := decide_eq_true (h.resolve_left h0)
    have d1 : (U n == 0) = false := by
      rw [beq_eq_false_iff_ne]
      intro e
      exact h0 ((U_inj _ _).1 (e.trans rfl))
    go_enter Try.func7, Try.ntmps7
    go_wp2_with fail
    go_step3
    go_wp2_with fail
    (try rw [Exit.noGoto_ret])
    refine bodyPost_ret (results_ct [.int .u64 0, .int .u64 0] (.int .i64 2) Try.results7 rfl rfl ?_ Try.underlying24 rfl (by kernel_rfl)) rfl ?_
    · (first | (go_simp; done) | (go_simp; (simp [↓IntWalk.iteOmega]; done)) | (go_simp; intros; omega) | (go_simp; simp [↓IntWalk.iteOmega]; intros; omega))
    · exact ⟨rfl, by (repeat (first | with_reducible exact Below.refl _ _ | with_reducible assumption | with_reducible refine below_drewN ?_ _ | with_reducible refine Below.drew ?_ | with_reducible refine below_alloc ?_ _ | (with_reducible refine Below.setCell ?_ (by first | (simp; done) | omega | (simp; omega)) _) | with_reducible refine belows ?_ (by assumption)))⟩
set_option maxHeartbeats 4000000 in
set_option maxRecDepth 100000 in
theorem find_any (B : Nat) (rb rt n : BitVec 64) (v : Value) (L : List Rg) (w : World) (hs : SlR w B v L) (hbig : L.length ≤ 1099511627776) (h0 : n ≠ 0#64) (h1 : U n ≤ 274877906944)
    (hup : ∀ (j : Nat) (r : Rg) (base top : BitVec 64), L[j]? = some r → meetF r.b r.t base top = true → U base < U (upF r.t (askX n))) : Calls Try.prog 7 #[.agg #[.int .u64 (U rb), .int .u64 (U rt), v], .int .u64 (U n)] w fun e w' => ∃ res, FR rb rt (askN n) (askX n) L (upF rb (askX n)) res ∧ e = .returned (findV (askN n) res) ∧ Below w.heap.size w w' := by
  have hrow : ∀ W : World, Below w.heap.size w W → 0 < L.length → _ := fun W h hn => (hs.below h).row hn
  have HROW := Lib.hid hrow
  have HUP := Lib.hid hup
  obtain ⟨a', cap, rfl, hcap, hcap2, hblt, hform⟩ := hs.form
  clear hrow hup hform hs hblt
  have d1 : (U n == 0) = false := by
    rw [beq_eq_false_iff_ne]
    intro e
    exact h0 ((U_inj _ _).1 (e.trans rfl))
  have d2 : decide (274877906944 < U n) = false := decide_eq_false (by omega)
  have cq := fun w => asked_any n w
  generalize askN n = m at cq HUP ⊢
  generalize askX n = x at cq HUP ⊢
  clear h0 h1
  have F0 : Hid (∀ res, FR rb rt m x L (upF rb x) res → FR rb rt m x L (upF rb x) res) := Lib.hid fun _ h => h
  obtain ⟨b0, hb0⟩ : ∃ b0, b0 = upF rb x := ⟨_, rfl⟩
  rw [← hb0] at F0 ⊢
  generalize hn : L.length = N at hcap hbig HROW
  go_enter Try.func7, Try.ntmps7
  go_wp2_with fail
  go_step3
  go_wp2_with (first | (go_at_call 16; (with_reducible refine (cq _).mono ?_); rintro e w' ⟨rfl, hbl⟩; obtain ⟨hcw, hfw, hsw⟩ := below_ifs hbl; (try simp only [World.size_alloc, World.size_setCell, World.size_drew, size_drewN_] at hcw hfw hsw)) | (go_at_call 17; (with_reducible refine (up_any _ _ _).mono ?_); rintro e w' ⟨rfl, rfl⟩))
  go_step3
  go_wp2_with fail
  have hsw3 : w.heap.size + 1 + 1 ≤ w'.heap.size := by omega
  generalize hq : w'.heap.size = q
  have HQ := Lib.hid hq
  go_loopg [7] 18446744073709551616 (fun gg x7 wx => ∃ (base : BitVec 64) (A C : Value), x7 = .int .u64 (U base) ∧ 18446744073709551616 - base.toNat ≤ gg ∧ Hid (Below w.heap.size w wx) ∧ Hid (FSt wx w.heap.size q rb rt (.slice a' N cap) A C) ∧ Hid (∀ res, FR rb rt m x L base res → FR rb rt m x L b0 res))
  case atStart =>
    subst hq
    clear HQ
    refine ⟨b0, .int .u64 0, .int .u64 0, by rw [hb0], by omega, Lib.hid (by (repeat (first | with_reducible exact Below.refl _ _ | with_reducible assumption | with_reducible refine below_drewN ?_ _ | with_reducible refine Below.drew ?_ | with_reducible refine below_alloc ?_ _ | (with_reducible refine Below.setCell ?_ (by first | (simp; done) | omega | (simp; omega)) _) | with_reducible refine belows ?_ (by assumption)))), Lib.hid ⟨⟨by omega, by first | omega | (simp; done) | (simp; omega)⟩, ⟨?_, ?_, ?_⟩, ⟨?_, ?_⟩, ⟨?_, ?_⟩, ?_, ?_, ?_, ?_⟩, Lib.hid fun _ h => h⟩
    all_goals (first | (go_simp; done) | (go_simp; (simp [↓IntWalk.iteOmega]; done)) | (go_simp; intros; omega) | (go_simp; simp [↓IntWalk.iteOmega]; intros; omega))
  case round =>
    obtain ⟨base, A, C, rfl, hg, HBr, HS, HF⟩ := hrel
    have hF := HS.out
    obtain ⟨⟨s0, s1⟩, ⟨c0, c1, c2⟩, ⟨e0, e1⟩, ⟨g0, g1⟩, f0, f1, f2, f3⟩ := hF
    have ci := fun w => inr_any base (base + m) rb rt w
    clear hcw hfw hsw3 hq
    cases hin : inRF base (base + m) rb rt
    · rw [hin] at ci
      go_wp2_with (first | (go_at_call 18; (with_reducible refine (ci _).mono ?_); rintro e w' ⟨rfl, hbl⟩; obtain ⟨hcw, hfw, hsw⟩ := below_ifs hbl; (try simp only [World.size_alloc, World.size_setCell, World.size_drew, size_drewN_] at hcw hfw hsw)))
      (try rw [Exit.noGoto_ret])
      refine bodyPost_ret (results_ct [.int .u64 0, .int .u64 0] (.int .i64 15) Try.results7 rfl rfl ?_ Try.underlying24 rfl (by kernel_rfl)) rfl ?_
      · (first | (go_simp; done) | (go_simp; (simp [↓IntWalk.iteOmega]; done)) | (go_simp; intros; omega) | (go_simp; simp [↓IntWalk.iteOmega]; intros; omega))
      · exact ⟨none, HF.out _ (FR.out hin), rfl, by have hbr := HBr.out; (repeat (first | with_reducible exact Below.refl _ _ | with_reducible assumption | with_reducible refine below_drewN ?_ _ | with_reducible refine Below.drew ?_ | with_reducible refine below_alloc ?_ _ | (with_reducible refine Below.setCell ?_ (by first | (simp; done) | omega | (simp; omega)) _) | with_reducible refine belows ?_ (by assumption)))⟩
    · rw [hin] at ci
      have hbr := HBr.out
      go_wp2_with (first | (go_at_call 18; (with_reducible refine (ci _).mono ?_); rintro e w' ⟨rfl, hbl⟩; obtain ⟨hcw, hfw, hsw⟩ := below_ifs hbl; (try simp only [World.size_alloc, World.size_setCell, World.size_drew, size_drewN_] at hcw hfw hsw)))
      have HS2 : Hid (FSt w' w.heap.size q rb rt (.slice a' N cap) (.int .u64 (U base)) (.int .u64 (U (base + m)))) := by
        refine Lib.hid ⟨⟨by omega, by omega⟩, ⟨?_, ?_, ?_⟩, ⟨?_, ?_⟩, ⟨?_, ?_⟩, ?_, ?_, ?_, ?_⟩
        all_goals (first | (go_simp; done) | (go_simp; (simp [↓IntWalk.iteOmega]; done)) | (go_simp; intros; omega) | (go_simp; simp [↓IntWalk.iteOmega]; intros; omega))
      have HB2 : Hid (Below w.heap.size w w') := Lib.hid (by (repeat (first | with_reducible exact Below.refl _ _ | with_reducible assumption | with_reducible refine below_drewN ?_ _ | with_reducible refine Below.drew ?_ | with_reducible refine below_alloc ?_ _ | (with_reducible refine Below.setCell ?_ (by first | (simp; done) | omega | (simp; omega)) _) | with_reducible refine belows ?_ (by assumption))))
      have HIN := Lib.hid hin
      clear hbr hbl hcw hfw hsw c0 c1 c2 e0 e1 g0 g1 f0 f1 f2 f3 hin HS HBr
      rename_i wold1 wold2
      go_loopg [47] N (fun gg x47 wy => ∃ k : Nat, x47 = .int .i64 (k : Int) ∧ k ≤ N ∧ N - k ≤ gg ∧ Hid (Below w.heap.size w wy) ∧ Hid (FSt wy w.heap.size q rb rt (.slice a' N cap) (.int .u64 (U base)) (.int .u64 (U (base + m)))) ∧ Hid (∀ (j : Nat) (y : Rg), j < k → L[j]? = some y → meetF y.b y.t base (base + m) = false))
      case atStart => exact ⟨0, rfl, Nat.zero_le _, by omega, HB2, HS2, Lib.hid fun j _ hj => absurd hj (Nat.not_lt_zero _)⟩
      case round =>
        obtain ⟨k, rfl, hk, hgk, HBy, HSy, HK⟩ := hrel
        obtain ⟨⟨s2, s3⟩, ⟨c0, c1, c2⟩, ⟨e0, e1⟩, ⟨g0, g1⟩, f0, f1, f2, f3⟩ := HSy.out
        by_cases c : k < N
        · have d3 : decide ((k : Int) < (N : Int)) = true := decide_eq_true (by omega)
          obtain ⟨g, cap', hva, -, hg', -, -, hx⟩ := HROW.out wr HBy.out (by omega)
          obtain ⟨rfl, rfl⟩ : a' = some ⟨g, 0, none⟩ ∧ cap = cap' := by simpa using hva
          obtain ⟨r, hr⟩ : ∃ r, L[k]? = some r := ⟨L[k]'(by omega), List.getElem?_eq_getElem (by omega)⟩
          obtain ⟨⟨x0, x1, x2⟩, -⟩ := hx k r hr
          have HRr := Lib.hid hr
          have cm := fun w => meet_any r.b r.t base (base + m) w
          clear hx hva hr
          cases hm : meetF r.b r.t base (base + m)
          · rw [hm] at cm
            have HM := Lib.hid hm
            clear hm
            go_wp2_with (first | (go_at_call 19; (with_reducible refine (cm _).mono ?_); rintro e w' ⟨rfl, hbl⟩; obtain ⟨hcw, hfw, hsw⟩ := below_ifs hbl; (try simp only [World.size_alloc, World.size_setCell, World.size_drew, size_drewN_] at hcw hfw hsw)))
            have hw2 : Below wr.heap.size wr w' := by (repeat (first | with_reducible exact Below.refl _ _ | with_reducible assumption | with_reducible refine below_drewN ?_ _ | with_reducible refine Below.drew ?_ | with_reducible refine below_alloc ?_ _ | (with_reducible refine Below.setCell ?_ (by first | (simp; done) | omega | (simp; omega)) _) | with_reducible refine belows ?_ (by assumption)))
            go_roundg (N - (k + 1))
            case rel =>
              refine ⟨k + 1, by go_num, by omega, by omega, Lib.hid (HBy.out.trans (hw2.mono HBy.out.size)), Lib.hid (HSy.out.below hw2 s3), Lib.hid fun j y hj hy => ?_⟩
              by_cases e : j = k
              · subst e
                rw [HRr.out] at hy
                rw [← Option.some.inj hy]; exact HM.out
              · exact HK.out j y (by omega) hy
            case measure => omega
          · rw [hm] at cm
            have HM := Lib.hid hm
            have hlt := HUP.out k r base (base + m) HRr.out hm
            have hlt2 : base.toNat < (upF r.t x).toNat := by unfold U at hlt; omega
            have hlt3 := (upF r.t x).isLt
            clear hm hlt
            go_wp2_with (first | (go_at_call 19; (with_reducible refine (cm _).mono ?_); rintro e w' ⟨rfl, hbl⟩; obtain ⟨hcw, hfw, hsw⟩ := below_ifs hbl; (try simp only [World.size_alloc, World.size_setCell, World.size_drew, size_drewN_] at hcw hfw hsw)) | (go_at_call 17; (with_reducible refine (up_any _ _ _).mono ?_); rintro e w' ⟨rfl, rfl⟩))
            have hw2 : Below wr.heap.size wr w' := by (repeat (first | with_reducible exact Below.refl _ _ | with_reducible assumption | with_reducible refine below_drewN ?_ _ | with_reducible refine Below.drew ?_ | with_reducible refine below_alloc ?_ _ | (with_reducible refine Below.setCell ?_ (by first | (simp; done) | omega | (simp; omega)) _) | with_reducible refine belows ?_ (by assumption)))
            go_roundg (18446744073709551616 - (upF r.t x).toNat)
            case rel => exact ⟨upF r.t x, _, _, rfl, Nat.le_refl _, Lib.hid (HBy.out.trans (hw2.mono HBy.out.size)), Lib.hid (HSy.out.below hw2 s3), Lib.hid fun res h => HF.out res (FR.next HIN.out HRr.out HM.out HK.out h)⟩
            case measure => omega
        · obtain rfl : k = N := by omega
          have hby := HBy.out
          go_wp2_with fail
          (try rw [Exit.noGoto_ret])
          refine bodyPost_ret (results_ct [.int .u64 (U base), .int .u64 (U (base + m))] (.int .i64 0) Try.results7 rfl rfl ?_ Try.underlying24 rfl (by kernel_rfl)) rfl ?_
          · (first | (go_simp; done) | (go_simp; (simp [↓IntWalk.iteOmega]; done)) | (go_simp; intros; omega) | (go_simp; simp [↓IntWalk.iteOmega]; intros; omega))
          · exact ⟨some base, HF.out _ (FR.hit HIN.out fun j y hy => HK.out j y (by obtain ⟨h, _⟩ := List.getElem?_eq_some_iff.1 hy; omega) hy), rfl, by (repeat (first | with_reducible exact Below.refl _ _ | with_reducible assumption | with_reducible refine below_drewN ?_ _ | with_reducible refine Below.drew ?_ | with_reducible refine below_alloc ?_ _ | (with_reducible refine Below.setCell ?_ (by first | (simp; done) | omega | (simp; omega)) _) | with_reducible refine belows ?_ (by assumption)))⟩
end Go.Proofs.Ytnillifinnmigaa
