
/-
  What is asked; the lowest place that is free.
-/
import Derived.Test.YtlhhahafmmfhhaaHpC
import Derived.Deep.LoopGhost
import Derived.WalkMore
namespace Go.Proofs.Ytlhhahafmmfhhaa
open Go Go.RowKit
set_option linter.unusedVariables false
set_option linter.unusedSimpArgs false

def meetF (b t b' t' : BitVec 64) : Bool := decide (U b < U t') && decide (U b' < U t)
def askN (n : BitVec 64) : BitVec 64 := upF (rndT 0#64 (upF n 4)) 4
def askX (n : BitVec 64) : Int := max (((encE 0#64 (askN n)).toNat - 1 : Nat) : Int) 4
set_option maxHeartbeats 4000000 in
set_option maxRecDepth 100000 in
theorem asked_any (n : BitVec 64) (w : World) : Calls Try.prog 14 #[.int .u64 (U n)] w fun e w' => e = .returned (.tuple #[.int .u64 (U (askN n)), .int .i64 (askX n)]) ∧ Below w.heap.size w w' := by
  have ha : ∀ w : World, Calls Try.prog 25 #[.int .u64 (U (upF (rndT 0#64 (upF n 4)) 4))] w fun r w' => r = .returned (.tuple #[.int .i64 (((encE 0#64 (askN n)).toNat - 1 : Nat) : Int), .bool (mayS 0#64 (askN n))]) ∧ Below w.heap.size w w' := fun w => align_any _ w
  generalize hq : (((encE 0#64 (askN n)).toNat - 1 : Nat) : Int) = q at ha
  have hx : askX n = max q 4 := by unfold askX; rw [hq]
  rw [hx]
  go_enter Try.func14, Try.ntmps14
  go_wp2_with (first | (go_at_call 23; (with_reducible refine (up_any _ _ _).mono ?_); rintro e w' ⟨rfl, rfl⟩) | (go_at_call 24; (with_reducible refine (length_any _ _).mono ?_); rintro e w' ⟨rfl, hbl⟩; obtain ⟨hcw, hfw, hsw⟩ := below_ifs hbl; (try simp only [World.size_alloc, World.size_setCell, World.size_drew, size_drewN_] at hcw hfw hsw)) | (go_at_call 25; (with_reducible refine (ha _).mono ?_); rintro e w' ⟨rfl, hbl⟩; obtain ⟨hcw, hfw, hsw⟩ := below_ifs hbl; (try simp only [World.size_alloc, World.size_setCell, World.size_drew, size_drewN_] at hcw hfw hsw)))
  all_goals go_returns
  all_goals exact ⟨rfl, by (repeat (first | with_reducible exact Below.refl _ _ | with_reducible assumption | with_reducible refine below_drewN ?_ _ | with_reducible refine Below.drew ?_ | with_reducible refine below_alloc ?_ _ | (with_reducible refine Below.setCell ?_ (by first | (simp; done) | omega | (simp; omega)) _) | with_reducible refine belows ?_ (by assumption)))⟩
/-- The lowest place that is free, from a place on. -/
inductive LR (top n : BitVec 64) (x : Int) (L : List Hb) : BitVec 64 → BitVec 64 → BitVec 64 → Bool → Prop
  | out {base : BitVec 64} : decide (U base ≤ U top) = false → LR top n x L base 0#64 0#64 false
  | hit {base : BitVec 64} : decide (U base ≤ U top) = true → (∀ (j : Nat) (r : Hb), L[j]? = some r → meetF r.b r.t base (base + n) = false) → LR top n x L base base (base + n) (decide (U (base + n) ≤ U top))
  | next {base : BitVec 64} {k : Nat} {r : Hb} {b t : BitVec 64} {ok : Bool} : decide (U base ≤ U top) = true → L[k]? = some r → meetF r.b r.t base (base + n) = true → (∀ (j : Nat) (y : Hb), j < k → L[j]? = some y → meetF y.b y.t base (base + n) = false) → LR top n x L (upF r.t x) b t ok → LR top n x L base b t ok
theorem LR.one {top n : BitVec 64} {x : Int} {L : List Hb} {base b t : BitVec 64} {ok : Bool} (h : LR top n x L base b t ok) : ∀ {b' t' : BitVec 64} {ok' : Bool}, LR top n x L base b' t' ok' → b = b' ∧ t = t' ∧ ok = ok' := by
  induction h with
  | out h1 =>
    intro b t ok hb
    cases hb with
    | out _ => exact ⟨rfl, rfl, rfl⟩
    | hit h2 _ => rw [h1] at h2; cases h2
    | next h2 _ _ _ _ => rw [h1] at h2; cases h2
  | hit h1 h2 =>
    intro b t ok hb
    cases hb with
    | out h3 => rw [h1] at h3; cases h3
    | hit _ _ => exact ⟨rfl, rfl, rfl⟩
    | next _ h3 h4 _ _ => rw [h2 _ _ h3] at h4; cases h4
  | @next base k1 r1 b1 t1 ok1 h1 hk hm hb _ ih =>
    intro b t ok hb'
    cases hb' with
    | out h3 => rw [h1] at h3; cases h3
    | hit _ h3 => rw [h3 _ _ hk] at hm; cases hm
    | @next _ k2 r2 _ _ _ h3 hk' hm' hb'' hr =>
      have e : k1 = k2 := by
        rcases Nat.lt_trichotomy k1 k2 with h | h | h
        · rw [hb'' _ _ h hk] at hm; cases hm
        · exact h
        · rw [hb _ _ h hk'] at hm'; cases hm'
      subst e
      rw [hk] at hk'
      obtain rfl := Option.some.inj hk'
      exact ih hr
def LSt (W : World) (p : Nat) (rb rt : BitVec 64) (v : Value) : Prop := p + 1 < W.heap.size ∧ (W.cell? ⟨p, 0, none⟩ = some (.int .u64 (U rb)) ∧ W.cell? ⟨p, 1, none⟩ = some (.int .u64 (U rt)) ∧ W.cell? ⟨p, 2, none⟩ = some v) ∧ (W.cell? ⟨p + 1, 0, none⟩ = some (.int .u64 0) ∧ W.cell? ⟨p + 1, 1, none⟩ = some (.int .u64 0)) ∧ (W.frozen? ⟨p + 1, 0, none⟩ = false ∧ W.frozen? ⟨p + 1, 1, none⟩ = false)
theorem LSt.below {W W' : World} {p D : Nat} {rb rt : BitVec 64} {v : Value} (h : LSt W p rb rt v) (hb : Below D W W') (hD : p + 1 < D) : LSt W' p rb rt v := by
  obtain ⟨h1, ⟨c0, c1, c2⟩, ⟨d0, d1⟩, f0, f1⟩ := h
  have q0 : p < D := by omega
  exact ⟨Nat.lt_of_lt_of_le h1 hb.size, ⟨(hb.cell (p := ⟨p, _, none⟩) q0).trans c0, (hb.cell (p := ⟨p, _, none⟩) q0).trans c1, (hb.cell (p := ⟨p, _, none⟩) q0).trans c2⟩, ⟨(hb.cell (p := ⟨p + 1, _, none⟩) hD).trans d0, (hb.cell (p := ⟨p + 1, _, none⟩) hD).trans d1⟩, (hb.frozen (p := ⟨p + 1, _, none⟩) hD).trans f0, (hb.frozen (p := ⟨p + 1, _, none⟩) hD).trans f1⟩
def SpAt (W : World) (p : Nat) (b t : BitVec 64) : Prop := p < W.heap.size ∧ W.cell? ⟨p, 0, none⟩ = some (.int .u64 (U b)) ∧ W.cell? ⟨p, 1, none⟩ = some (.int .u64 (U t))
theorem SpAt.below {W W' : World} {p D : Nat} {b t : BitVec 64} (h : SpAt W p b t) (hb : Below D W W') (hD : p < D) : SpAt W' p b t :=
  ⟨Nat.lt_of_lt_of_le h.1 hb.size, (hb.cell (p := ⟨p, _, none⟩) hD).trans h.2.1, (hb.cell (p := ⟨p, _, none⟩) hD).trans h.2.2⟩
set_option maxHeartbeats 4000000 in
set_option maxRecDepth 100000 in
theorem lowest_any (B : Nat) (rb rt m : BitVec 64) (x : Int) (v : Value) (L : List Hb) (w : World) (hs : SlH w B v L) (hbig : L.length ≤ 1099511627776)
    (hup : ∀ (j : Nat) (r : Hb) (base top : BitVec 64), L[j]? = some r → meetF r.b r.t base top = true → U base < U (upF r.t x)) : Calls Try.prog 13 #[.agg #[.int .u64 (U rb), .int .u64 (U rt), v], .int .u64 (U m), .int .i64 x] w fun e w' => ∃ b t ok, LR rt m x L (upF rb x) b t ok ∧ e = .returned (.tuple #[.agg #[.int .u64 (U b), .int .u64 (U t)], .bool ok]) ∧ Below w.heap.size w w' := by
  have hrow : ∀ W : World, Below w.heap.size w W → 0 < L.length → _ := fun W h hn => (hs.below h).row hn
  have HROW := Lib.hid hrow
  have HUP := Lib.hid hup
  obtain ⟨a', cap, rfl, hcap, hcap2, hblt, hform⟩ := hs.form
  clear hrow hup hform hs hblt
  obtain ⟨b0, hb0⟩ : ∃ b0, b0 = upF rb x := ⟨_, rfl⟩
  rw [← hb0]
  generalize hn : L.length = N at hcap hbig HROW
  go_enter Try.func13, Try.ntmps13
  go_wp2_with fail
  go_step3
  go_wp2_with (first | (go_at_call 23; (with_reducible refine (up_any _ _ _).mono ?_); rintro e w' ⟨rfl, rfl⟩))
  go_step3
  go_wp2_with fail
  go_loopg [8] 18446744073709551616 (fun gg x8 wx => ∃ (base : BitVec 64), x8 = .int .u64 (U base) ∧ 18446744073709551616 - base.toNat ≤ gg ∧ Hid (Below w.heap.size w wx) ∧ Hid (LSt wx w.heap.size rb rt (.slice a' N cap)) ∧ Hid (∀ b t ok, LR rt m x L base b t ok → LR rt m x L b0 b t ok))
  case atStart =>
    refine ⟨b0, by rw [hb0], by omega, Lib.hid (by (repeat (first | with_reducible exact Below.refl _ _ | with_reducible assumption | with_reducible refine below_drewN ?_ _ | with_reducible refine Below.drew ?_ | with_reducible refine below_alloc ?_ _ | (with_reducible refine Below.setCell ?_ (by first | (simp; done) | omega | (simp; omega)) _) | with_reducible refine belows ?_ (by assumption)))), Lib.hid ⟨by first | omega | (simp; done) | (simp; omega), ⟨?_, ?_, ?_⟩, ⟨?_, ?_⟩, ?_, ?_⟩, Lib.hid fun _ _ _ h => h⟩
    all_goals (first | (go_simp; done) | (go_simp; (simp [↓IntWalk.iteOmega]; done)) | (go_simp; intros; omega) | (go_simp; simp [↓IntWalk.iteOmega]; intros; omega))
  case round =>
    obtain ⟨base, rfl, hg, HBr, HS, HF⟩ := hrel
    obtain ⟨s1, ⟨c0, c1, c2⟩, ⟨e0, e1⟩, f0, f1⟩ := HS.out
    have hbr := HBr.out
    cases hin : decide (U base ≤ U rt)
    · go_wp2_with fail
      (try rw [Exit.noGoto_ret])
      refine bodyPost_ret (results_ct [.int .u64 0, .int .u64 0] (.bool false) Try.results13 rfl rfl ?_ Try.underlying24 rfl (by kernel_rfl)) rfl ?_
      · (first | (go_simp; done) | (go_simp; (simp [↓IntWalk.iteOmega]; done)) | (go_simp; intros; omega) | (go_simp; simp [↓IntWalk.iteOmega]; intros; omega))
      · exact ⟨_, _, _, HF.out _ _ _ (LR.out hin), rfl, by (repeat (first | with_reducible exact Below.refl _ _ | with_reducible assumption | with_reducible refine below_drewN ?_ _ | with_reducible refine Below.drew ?_ | with_reducible refine below_alloc ?_ _ | (with_reducible refine Below.setCell ?_ (by first | (simp; done) | omega | (simp; omega)) _) | with_reducible refine belows ?_ (by assumption)))⟩
    · have HIN := Lib.hid hin
      go_wp2_with fail
      clear hin c0 c1 c2 e0 e1 f0 f1 hbr
      go_loopg [34] N (fun gg x34 wy => ∃ k : Nat, x34 = .int .i64 (k : Int) ∧ k ≤ N ∧ N - k ≤ gg ∧ Hid (Below wr.heap.size wr wy) ∧ Hid (SpAt wy wr.heap.size base (base + m)) ∧ Hid (∀ (j : Nat) (y : Hb), j < k → L[j]? = some y → meetF y.b y.t base (base + m) = false))
      case atStart => exact ⟨0, rfl, Nat.zero_le _, by omega, Lib.hid (by (repeat (first | with_reducible exact Below.refl _ _ | with_reducible assumption | with_reducible refine below_drewN ?_ _ | with_reducible refine Below.drew ?_ | with_reducible refine below_alloc ?_ _ | (with_reducible refine Below.setCell ?_ (by first | (simp; done) | omega | (simp; omega)) _) | with_reducible refine belows ?_ (by assumption)))), Lib.hid ⟨by first | omega | (simp; done) | (simp; omega), by (first | (go_simp; done) | (go_simp; (simp [↓IntWalk.iteOmega]; done)) | (go_simp; intros; omega) | (go_simp; simp [↓IntWalk.iteOmega]; intros; omega)), by (first | (go_simp; done) | (go_simp; (simp [↓IntWalk.iteOmega]; done)) | (go_simp; intros; omega) | (go_simp; simp [↓IntWalk.iteOmega]; intros; omega))⟩, Lib.hid fun j _ hj => absurd hj (Nat.not_lt_zero _)⟩
      case round =>
        obtain ⟨k, rfl, hk, hgk, HBy, HSP, HK⟩ := hrel
        have HSy := Lib.hid (HS.out.below HBy.out s1)
        have HBz := Lib.hid (HBr.out.trans (HBy.out.mono HBr.out.size))
        obtain ⟨s2, ⟨c0, c1, c2⟩, ⟨e0, e1⟩, f0, f1⟩ := HSy.out
        obtain ⟨p0, p1, p2⟩ := HSP.out
        by_cases c : k < N
        · have d3 : decide ((k : Int) < (N : Int)) = true := decide_eq_true (by omega)
          obtain ⟨g, cap', hva, -, hg', -, -, hx⟩ := HROW.out wr HBz.out (by omega)
          obtain ⟨rfl, rfl⟩ : a' = some ⟨g, 0, none⟩ ∧ cap = cap' := by simpa using hva
          obtain ⟨r, hr⟩ : ∃ r, L[k]? = some r := ⟨L[k]'(by omega), List.getElem?_eq_getElem (by omega)⟩
          obtain ⟨⟨x0, x1, x2, x3⟩, -⟩ := hx k r hr
          have HRr := Lib.hid hr
          clear hx hva hr
          cases h1 : decide (U r.b < U (base + m))
          · have hm : meetF r.b r.t base (base + m) = false := by unfold meetF; rw [h1]; rfl
            have HM := Lib.hid hm
            clear hm
            go_wp2_with fail
            have hw2 : Below wr.heap.size wr (wr.alloc (.cells #[.int .u64 (U r.b), .int .u64 (U r.t), .bool r.fr, .int .i64 r.tm] 47)) := (Below.refl _ _).alloc (Nat.le_refl _) _
            go_roundg (N - (k + 1))
            case rel =>
              refine ⟨k + 1, by go_num, by omega, by omega, Lib.hid (HBy.out.trans (hw2.mono HBy.out.size)), Lib.hid (HSP.out.below hw2 p0), Lib.hid fun j y hj hy => ?_⟩
              by_cases e : j = k
              · subst e
                rw [HRr.out] at hy
                rw [← Option.some.inj hy]; exact HM.out
              · exact HK.out j y (by omega) hy
            case measure => omega
          · cases h2 : decide (U base < U r.t)
            · have hm : meetF r.b r.t base (base + m) = false := by unfold meetF; rw [h1, h2]; rfl
              have HM := Lib.hid hm
              clear hm
              go_wp2_with fail
              have hw2 : Below wr.heap.size wr (wr.alloc (.cells #[.int .u64 (U r.b), .int .u64 (U r.t), .bool r.fr, .int .i64 r.tm] 47)) := (Below.refl _ _).alloc (Nat.le_refl _) _
              go_roundg (N - (k + 1))
              case rel =>
                refine ⟨k + 1, by go_num, by omega, by omega, Lib.hid (HBy.out.trans (hw2.mono HBy.out.size)), Lib.hid (HSP.out.below hw2 p0), Lib.hid fun j y hj hy => ?_⟩
                by_cases e : j = k
                · subst e
                  rw [HRr.out] at hy
                  rw [← Option.some.inj hy]; exact HM.out
                · exact HK.out j y (by omega) hy
              case measure => omega
            · have hm : meetF r.b r.t base (base + m) = true := by unfold meetF; rw [h1, h2]; rfl
              have HM := Lib.hid hm
              have hlt := HUP.out k r base (base + m) HRr.out hm
              have hlt2 : base.toNat < (upF r.t x).toNat := by unfold U at hlt; omega
              have hlt3 := (upF r.t x).isLt
              clear hm hlt
              go_wp2_with (first | (go_at_call 23; (with_reducible refine (up_any _ _ _).mono ?_); rintro e w' ⟨rfl, rfl⟩))
              have hw2 : Below wr.heap.size wr (wr.alloc (.cells #[.int .u64 (U r.b), .int .u64 (U r.t), .bool r.fr, .int .i64 r.tm] 47)) := (Below.refl _ _).alloc (Nat.le_refl _) _
              go_roundg (18446744073709551616 - (upF r.t x).toNat)
              case rel => exact ⟨upF r.t x, rfl, Nat.le_refl _, Lib.hid (HBz.out.trans (hw2.mono HBz.out.size)), Lib.hid (HSy.out.below hw2 s2), Lib.hid fun b t ok h => HF.out b t ok (LR.next HIN.out HRr.out HM.out HK.out h)⟩
              case measure => omega
        · obtain rfl : k = N := by omega
          have hby := HBy.out
          have hbz := HBz.out
          go_wp2_with fail
          go_region_law fail
          all_goals go_wp2_with fail
          all_goals (try rw [Exit.noGoto_ret])
          all_goals refine bodyPost_ret (results_ct [.int .u64 (U base), .int .u64 (U (base + m))] (.bool (decide (U (base + m) ≤ U rt))) Try.results13 rfl rfl ?_ Try.underlying24 rfl (by kernel_rfl)) rfl ?_
          all_goals first | ((first | (go_simp; done) | (go_simp; (simp [↓IntWalk.iteOmega]; done)) | (go_simp; intros; omega) | (go_simp; simp [↓IntWalk.iteOmega]; intros; omega)); done) | skip
          all_goals exact ⟨_, _, _, HF.out _ _ _ (LR.hit HIN.out fun j y hy => HK.out j y (by obtain ⟨h, _⟩ := List.getElem?_eq_some_iff.1 hy; omega) hy), rfl, by (repeat (first | with_reducible exact Below.refl _ _ | with_reducible assumption | with_reducible refine below_drewN ?_ _ | with_reducible refine Below.drew ?_ | with_reducible refine below_alloc ?_ _ | (with_reducible refine Below.setCell ?_ (by first | (simp; done) | omega | (simp; omega)) _) | with_reducible refine belows ?_ (by assumption)))⟩
end Go.Proofs.Ytlhhahafmmfhhaa
