
/-
  Heaps: Take.
-/
import Derived.Test.YtlhhahafmmfhhaaHpD
import Derived.Outline
import Derived.Deep.DeepCutAuto
import Derived.Deep.CutRange
namespace Go.Proofs.Ytlhhahafmmfhhaa
open Go Go.RowKit
set_option linter.unusedVariables false
set_option linter.unusedSimpArgs false

theorem cell_after {W w2 : World} {A C : Value} {T : TypeId} (hb : Below (W.alloc (.cells #[A, C] T)).drew.heap.size (W.alloc (.cells #[A, C] T)).drew w2) : (w2.cell? ⟨W.heap.size, 0, none⟩ = some A ∧ w2.cell? ⟨W.heap.size, 1, none⟩ = some C) ∧ (w2.frozen? ⟨W.heap.size, 0, none⟩ = false ∧ w2.frozen? ⟨W.heap.size, 1, none⟩ = false) ∧ W.heap.size < w2.heap.size := by
  have hlt : W.heap.size < (W.alloc (.cells #[A, C] T)).drew.heap.size := by simp
  have h := heap_alloc_new W (.cells #[A, C] T)
  have h2 : w2.heap[W.heap.size]? = some (.cells #[A, C] T (0, 0)) := (hb.block _ hlt).trans h
  refine ⟨⟨?_, ?_⟩, ⟨frozen_of_row _ _ _ _ _ h2, frozen_of_row _ _ _ _ _ h2⟩, Nat.lt_of_lt_of_le hlt hb.size⟩
  · rw [cell_of_row _ _ _ _ _ _ h2]; rfl
  · rw [cell_of_row _ _ _ _ _ _ h2]; rfl
theorem cell_after0 {W w2 : World} {A C : Value} {T : TypeId} (hb : Below (W.alloc (.cells #[A, C] T)).heap.size (W.alloc (.cells #[A, C] T)) w2) : (w2.cell? ⟨W.heap.size, 0, none⟩ = some A ∧ w2.cell? ⟨W.heap.size, 1, none⟩ = some C) ∧ (w2.frozen? ⟨W.heap.size, 0, none⟩ = false ∧ w2.frozen? ⟨W.heap.size, 1, none⟩ = false) ∧ W.heap.size < w2.heap.size := by
  have hlt : W.heap.size < (W.alloc (.cells #[A, C] T)).heap.size := by simp
  have h := heap_alloc_new W (.cells #[A, C] T)
  have h2 : w2.heap[W.heap.size]? = some (.cells #[A, C] T (0, 0)) := (hb.block _ hlt).trans h
  refine ⟨⟨?_, ?_⟩, ⟨frozen_of_row _ _ _ _ _ h2, frozen_of_row _ _ _ _ _ h2⟩, Nat.lt_of_lt_of_le hlt hb.size⟩
  · rw [cell_of_row _ _ _ _ _ _ h2]; rfl
  · rw [cell_of_row _ _ _ _ _ _ h2]; rfl
theorem kept2 {W W' : World} {q : Nat} {A C : Value} (h : (W.cell? ⟨q, 0, none⟩ = some A ∧ W.cell? ⟨q, 1, none⟩ = some C) ∧ (W.frozen? ⟨q, 0, none⟩ = false ∧ W.frozen? ⟨q, 1, none⟩ = false) ∧ q < W.heap.size) (hb : Below W.heap.size W W') : (W'.cell? ⟨q, 0, none⟩ = some A ∧ W'.cell? ⟨q, 1, none⟩ = some C) ∧ (W'.frozen? ⟨q, 0, none⟩ = false ∧ W'.frozen? ⟨q, 1, none⟩ = false) ∧ q < W'.heap.size :=
  ⟨⟨(hb.cell (p := ⟨q, _, none⟩) h.2.2).trans h.1.1, (hb.cell (p := ⟨q, _, none⟩) h.2.2).trans h.1.2⟩, ⟨(hb.frozen (p := ⟨q, _, none⟩) h.2.2).trans h.2.1.1, (hb.frozen (p := ⟨q, _, none⟩) h.2.2).trans h.2.1.2⟩, Nat.lt_of_lt_of_le h.2.2 hb.size⟩
def PSt (W : World) (p : Nat) (rb rt : BitVec 64) (v : Value) : Prop := p + 3 ≤ W.heap.size ∧ (W.cell? ⟨p, 0, none⟩ = some (.int .u64 (U rb)) ∧ W.cell? ⟨p, 1, none⟩ = some (.int .u64 (U rt)) ∧ W.cell? ⟨p, 2, none⟩ = some v) ∧ (W.cell? ⟨p + 1, 0, none⟩ = some (.int .u64 0) ∧ W.cell? ⟨p + 1, 1, none⟩ = some (.int .u64 0) ∧ W.cell? ⟨p + 1, 2, none⟩ = some (.slice none 0 0)) ∧ (W.cell? ⟨p + 1 + 1, 0, none⟩ = some (.int .u64 0) ∧ W.cell? ⟨p + 1 + 1, 1, none⟩ = some (.int .u64 0)) ∧ (W.frozen? ⟨p, 2, none⟩ = false ∧ W.frozen? ⟨p + 1, 0, none⟩ = false ∧ W.frozen? ⟨p + 1, 1, none⟩ = false ∧ W.frozen? ⟨p + 1, 2, none⟩ = false ∧ W.frozen? ⟨p + 1 + 1, 0, none⟩ = false ∧ W.frozen? ⟨p + 1 + 1, 1, none⟩ = false)
theorem PSt.below {W W' : World} {p D : Nat} {rb rt : BitVec 64} {v : Value} (h : PSt W p rb rt v) (hb : Below D W W') (hD : p + 3 ≤ D) : PSt W' p rb rt v := by
  obtain ⟨h0, ⟨c0, c1, c2⟩, ⟨d0, d1, d2⟩, ⟨e0, e1⟩, f0, f1, f2, f3, f4, f5⟩ := h
  have q0 : p < D := by omega
  have q1 : p + 1 < D := by omega
  have q2 : p + 1 + 1 < D := by omega
  exact ⟨Nat.le_trans h0 hb.size, ⟨(hb.cell (p := ⟨p, _, none⟩) q0).trans c0, (hb.cell (p := ⟨p, _, none⟩) q0).trans c1, (hb.cell (p := ⟨p, _, none⟩) q0).trans c2⟩, ⟨(hb.cell (p := ⟨p + 1, _, none⟩) q1).trans d0, (hb.cell (p := ⟨p + 1, _, none⟩) q1).trans d1, (hb.cell (p := ⟨p + 1, _, none⟩) q1).trans d2⟩, ⟨(hb.cell (p := ⟨p + 1 + 1, _, none⟩) q2).trans e0, (hb.cell (p := ⟨p + 1 + 1, _, none⟩) q2).trans e1⟩, (hb.frozen (p := ⟨p, _, none⟩) q0).trans f0, (hb.frozen (p := ⟨p + 1, _, none⟩) q1).trans f1, (hb.frozen (p := ⟨p + 1, _, none⟩) q1).trans f2, (hb.frozen (p := ⟨p + 1, _, none⟩) q1).trans f3, (hb.frozen (p := ⟨p + 1 + 1, _, none⟩) q2).trans f4, (hb.frozen (p := ⟨p + 1 + 1, _, none⟩) q2).trans f5⟩
theorem results_cct {P : Program} {fn : Func} {p q : Tmp} {ty ty2 : TypeId} {d d2 : TypeDesc} {w : World} {tmps : Array Value} {g g2 : Nat} {t : Tmp} (vs us : List Value) (v : Value) (h : fn.results = #[.cell p ty, .cell q ty2, .tmp t]) (hp : tmps.getD p undef = .pointer (some ⟨g, 0, none⟩)) (hq : tmps.getD q undef = .pointer (some ⟨g2, 0, none⟩)) (ht : tmps.getD t undef = v) (hc : cellsAre w g 0 vs) (hc2 : cellsAre w g2 0 us)
    (hu : P.underlying ty = some d) (hd : (match d with | .struct _ | .array _ _ => true | _ => false) = true) (hi : (P.info? ty).map (·.size) = some vs.length)
    (hu2 : P.underlying ty2 = some d2) (hd2 : (match d2 with | .struct _ | .array _ _ => true | _ => false) = true) (hi2 : (P.info? ty2).map (·.size) = some us.length) :
    (results fn tmps).run P w = .ok (.tuple #[.agg vs.toArray, .agg us.toArray, v]) w := by
  have hp' : tmps[p]?.getD undef = .pointer (some ⟨g, 0, none⟩) := by simpa using hp
  have hq' : tmps[q]?.getD undef = .pointer (some ⟨g2, 0, none⟩) := by simpa using hq
  have ht' : tmps[t]?.getD undef = v := by simpa using ht
  simp [results, h, hp', hq', ht', asAddr, loadVar_are hc hu hd hi, loadVar_are hc2 hu2 hd2 hi2]
theorem PSt.drew {W : World} {p : Nat} {rb rt : BitVec 64} {v : Value} (h : PSt W p rb rt v) : PSt W.drew p rb rt v := h
theorem PSt.alloc {W : World} {p : Nat} {rb rt : BitVec 64} {v : Value} (h : PSt W p rb rt v) (o : Obj) : PSt (W.alloc o) p rb rt v :=
  h.below (D := W.heap.size) ((Below.refl _ W).alloc (Nat.le_refl _) o) h.1
theorem PSt.next {W W' : World} {p : Nat} {rb rt : BitVec 64} {v : Value} (h : PSt W p rb rt v) (hb : Below W.heap.size W W') : PSt W' p rb rt v := h.below hb h.1
def TkSt (W : World) (p q : Nat) (rb rt b t : BitVec 64) (v : Value) : Prop := p + 3 ≤ q ∧ PSt W p rb rt v ∧ SpAt W q b t
theorem TkSt.below {W W' : World} {p q D : Nat} {rb rt b t : BitVec 64} {v : Value} (h : TkSt W p q rb rt b t v) (hb : Below D W W') (hD : q < D) : TkSt W' p q rb rt b t v := ⟨h.1, h.2.1.below hb (by have := h.1; omega), h.2.2.below hb hD⟩
theorem TkSt.put {W : World} {p q : Nat} {rb rt b t : BitVec 64} {v : Value} (h : TkSt W p q rb rt b t v) (u : Value) : TkSt (W.setCell ⟨p, 2, none⟩ u) p q rb rt b t u := by
  obtain ⟨s0, ⟨s1, ⟨c0, c1, c2⟩, ⟨c5, c6, c7⟩, ⟨c8, c9⟩, f0, f1, f2, f3, f4, f5⟩, s2, c3, c4⟩ := h
  have hqp : q ≠ p := by omega
  refine ⟨s0, ⟨by simpa using s1, ⟨?_, ?_, ?_⟩, ⟨?_, ?_, ?_⟩, ⟨?_, ?_⟩, ?_, ?_, ?_, ?_, ?_, ?_⟩, by simpa using s2, ?_, ?_⟩
  all_goals (first | (go_simp; done) | (go_simp; (simp [↓IntWalk.iteOmega]; done)) | (go_simp; intros; omega) | (go_simp; simp [↓IntWalk.iteOmega]; intros; omega))
theorem TkSt.next {W W' : World} {p q : Nat} {rb rt b t : BitVec 64} {v : Value} (h : TkSt W p q rb rt b t v) (hb : Below W.heap.size W W') : TkSt W' p q rb rt b t v := h.below hb h.2.2.1
theorem TkSt.drew {W : World} {p q : Nat} {rb rt b t : BitVec 64} {v : Value} (h : TkSt W p q rb rt b t v) : TkSt W.drew p q rb rt b t v := h
theorem TkSt.alloc {W : World} {p q : Nat} {rb rt b t : BitVec 64} {v : Value} (h : TkSt W p q rb rt b t v) (o : Obj) : TkSt (W.alloc o) p q rb rt b t v :=
  h.below (D := W.heap.size) ((Below.refl _ W).alloc (Nat.le_refl _) o) h.2.2.1
set_option maxHeartbeats 16000000 in
set_option maxRecDepth 100000 in
theorem take_yes (B : Nat) (rb rt n b t : BitVec 64) (v : Value) (L : List Hb) (w : World) (hs : SlH w B v L) (hbig : L.length < 32) (h0 : n ≠ 0#64) (h1 : U n ≤ 274877906944)
    (hup : ∀ (j : Nat) (r : Hb) (base top : BitVec 64), L[j]? = some r → meetF r.b r.t base top = true → U base < U (upF r.t (askX n))) (hf : LR rt (askN n) (askX n) L (upF rb (askX n)) b t true) :
    Calls Try.prog 5 #[.agg #[.int .u64 (U rb), .int .u64 (U rt), v], .int .u64 (U n)] w fun e w' => ∃ (i : Nat) (v' : Value), e = .returned (.tuple #[.agg #[.int .u64 (U rb), .int .u64 (U rt), v'], .agg #[.int .u64 (U b), .int .u64 (U t)], .int .i64 0]) ∧ i ≤ L.length ∧ (∀ (j : Nat) (y : Hb), j < i → L[j]? = some y → U y.b < U b) ∧ (∀ y : Hb, L[i]? = some y → U b ≤ U y.b) ∧ SlH w' w.heap.size v' (L.take i ++ [⟨b, t, false, 0⟩] ++ L.drop i) ∧ Below w.heap.size w w' := by
  have hs3 : ∀ W, Below w.heap.size w W → SlH W B v L := fun W h => hs.below h
  have HSW := Lib.hid hs3
  have hrow : ∀ W : World, Below w.heap.size w W → 0 < L.length → _ := fun W h hn => (hs.below h).row hn
  have HROW := Lib.hid hrow
  obtain ⟨a', cap, rfl, hcap, hcap2, hblt, hform⟩ := hs.form
  have d1 : (U n == 0) = false := by
    rw [beq_eq_false_iff_ne]
    intro e
    exact h0 ((U_inj _ _).1 (e.trans rfl))
  have d2 : decide (274877906944 < U n) = false := decide_eq_false (by omega)
  have cq := fun w => asked_any n w
  have cl : ∀ W, Below w.heap.size w W → Calls Try.prog 13 #[.agg #[.int .u64 (U rb), .int .u64 (U rt), .slice a' L.length cap], .int .u64 (U (askN n)), .int .i64 (askX n)] W fun e w' => e = .returned (.tuple #[.agg #[.int .u64 (U b), .int .u64 (U t)], .bool true]) ∧ Below W.heap.size W w' := fun W hW => by
    refine (lowest_any B rb rt (askN n) (askX n) _ L W (hs3 W hW) (by omega) hup).mono fun e w' hx => ?_
    obtain ⟨b', t', ok', hr, he, hb⟩ := hx
    obtain ⟨rfl, rfl, rfl⟩ := hf.one hr
    exact ⟨he, hb⟩
  have CL := Lib.hid cl
  generalize askN n = m at cq CL
  generalize askX n = x at cq CL
  clear hs3 hrow hform hs hblt cl h0 h1
  generalize hn : L.length = N at hcap hbig HROW HSW CL
  have d3 : decide ((32 : Int) ≤ (N : Int)) = false := decide_eq_false (by omega)
  have HP : Hid (PSt (((w.alloc (.cells #[.int .u64 (U rb), .int .u64 (U rt), .slice a' N cap] 27)).alloc (.cells #[.int .u64 0, .int .u64 0, .slice none 0 0] 27)).alloc (.cells #[.int .u64 0, .int .u64 0] 24)) w.heap.size rb rt (.slice a' N cap)) := by
    refine Lib.hid ⟨by first | omega | (simp; done) | (simp; omega), ⟨?_, ?_, ?_⟩, ⟨?_, ?_, ?_⟩, ⟨?_, ?_⟩, ?_, ?_, ?_, ?_, ?_, ?_⟩
    all_goals (first | (go_simp; done) | (go_simp; (simp [↓IntWalk.iteOmega]; done)) | (go_simp; intros; omega) | (go_simp; simp [↓IntWalk.iteOmega]; intros; omega))
  go_enter Try.func5, Try.ntmps5
  go_wp2_with fail
  go_cut [7, 8] from 26 to 34 (fun s7 s8 wx => ∃ q : Nat, s7 = .pointer (some ⟨q, 0, none⟩) ∧ s8 = .bool true ∧ Hid (Below w.heap.size w wx) ∧ Hid (TkSt wx w.heap.size q rb rt b t (.slice a' N cap)))
  case first =>
    go_region_law (first | (go_simp; go_at_call 14; refine (cq _).mono ?_; rintro e w1 ⟨rfl, hb1⟩; have c0 := hb1.cell (p := ⟨w.heap.size, 0, none⟩) (by first | (simp; done) | (simp; omega)); have c1 := hb1.cell (p := ⟨w.heap.size, 1, none⟩) (by first | (simp; done) | (simp; omega)); have c2 := hb1.cell (p := ⟨w.heap.size, 2, none⟩) (by first | (simp; done) | (simp; omega)); have hs1 := hb1.size; (try simp only [World.size_alloc, World.size_setCell, World.size_drew, size_drewN_] at hs1); (first | have HP1 := Lib.hid (HP.out.next hb1) | have HP1 := Lib.hid (HP.out.drew.next hb1) | have HP1 := Lib.hid ((HP.out.alloc _).next hb1) | have HP1 := Lib.hid ((HP.out.alloc _).drew.next hb1) | have HP1 := Lib.hid ((HP.out.drew.alloc _).next hb1)); have hp1 : w.heap.size < w1.heap.size := (Nat.lt_of_lt_of_le (Nat.lt_add_of_pos_right (Nat.succ_pos 2)) HP1.out.1); (first | (have hz8 := cell_after hb1) | (have hz8 := cell_after0 hb1) | skip)) | (go_simp; go_at_call 13; refine (CL.out _ (by (repeat (first | with_reducible exact Below.refl _ _ | with_reducible assumption | with_reducible refine below_drewN ?_ _ | with_reducible refine Below.drew ?_ | with_reducible refine below_alloc ?_ _ | (with_reducible refine Below.setCell ?_ (by first | (simp; done) | omega | (simp; omega)) _) | with_reducible refine belows ?_ (by assumption))))).mono ?_; rintro e w2 ⟨rfl, hb2⟩; have e0 := hb2.cell (p := ⟨w.heap.size, 0, none⟩) (by first | omega | (simp; done) | (simp; omega)); have e1 := hb2.cell (p := ⟨w.heap.size, 1, none⟩) (by first | omega | (simp; done) | (simp; omega)); have e2 := hb2.cell (p := ⟨w.heap.size, 2, none⟩) (by first | omega | (simp; done) | (simp; omega)); have hs2 := hb2.size; (try simp only [World.size_alloc, World.size_setCell, World.size_drew, size_drewN_] at hs2); (first | have HP2 := Lib.hid (HP1.out.next hb2) | have HP2 := Lib.hid (HP1.out.drew.next hb2) | have HP2 := Lib.hid ((HP1.out.alloc _).next hb2) | have HP2 := Lib.hid ((HP1.out.alloc _).drew.next hb2) | have HP2 := Lib.hid ((HP1.out.drew.alloc _).next hb2)); have hp2 : w.heap.size < w2.heap.size := (Nat.lt_of_lt_of_le (Nat.lt_add_of_pos_right (Nat.succ_pos 2)) HP2.out.1); have hp3 : w.heap.size + 3 ≤ w2.heap.size := HP2.out.1; (first | (have hz9 := kept2 hz8 hb2; obtain ⟨⟨z0, z1⟩, ⟨g0, g1⟩, hz⟩ := hz9) | (have hz9 := cell_after hb2; obtain ⟨⟨z0, z1⟩, ⟨g0, g1⟩, hz⟩ := hz9) | (have hz9 := cell_after0 hb2; obtain ⟨⟨z0, z1⟩, ⟨g0, g1⟩, hz⟩ := hz9) | skip); (try simp only [World.size_alloc, World.size_setCell, World.size_drew, size_drewN_] at z0 z1 g0 g1 hz)))
    all_goals go_wp2_with fail
    all_goals go_meet
    all_goals refine ⟨_, rfl, rfl, Lib.hid (by (repeat (first | with_reducible exact Below.refl _ _ | with_reducible assumption | with_reducible refine below_drewN ?_ _ | with_reducible refine Below.drew ?_ | with_reducible refine below_alloc ?_ _ | (with_reducible refine Below.setCell ?_ (by first | (simp; done) | omega | (simp; omega)) _) | with_reducible refine belows ?_ (by assumption)))), Lib.hid ⟨by first | omega | (simp; done) | (simp; omega), HP2.out.below (D := w.heap.size + 3) (by first | exact (Below.refl _ _).alloc hp3 _ | ((repeat (first | with_reducible exact Below.refl _ _ | with_reducible assumption | with_reducible refine below_drewN ?_ _ | with_reducible refine Below.drew ?_ | with_reducible refine below_alloc ?_ _ | (with_reducible refine Below.setCell ?_ (by first | (simp; done) | omega | (simp; omega)) _) | with_reducible refine belows ?_ (by assumption))))) (Nat.le_refl _), by first | omega | (simp; done) | (simp; omega), by (first | (go_simp; done) | (go_simp; (simp [↓IntWalk.iteOmega]; done)) | (go_simp; intros; omega) | (go_simp; simp [↓IntWalk.iteOmega]; intros; omega)), by (first | (go_simp; done) | (go_simp; (simp [↓IntWalk.iteOmega]; done)) | (go_simp; intros; omega) | (go_simp; simp [↓IntWalk.iteOmega]; intros; omega))⟩⟩
  case rest =>
    obtain ⟨q, rfl, rfl, HBW, HY⟩ := hcut
    clear CL cq
    go_wp2_with fail
    go_loopw [9] (fun x9 wr => ∃ k : Nat, x9 = .int .i64 (k : Int) ∧ k ≤ N ∧ Hid (Below w.heap.size w wr) ∧ Hid (TkSt wr w.heap.size q rb rt b t (.slice a' N cap)) ∧ Hid (∀ (j : Nat) (y : Hb), j < k → L[j]? = some y → U y.b < U b)) (fun x9 _ => N - (intOf x9).toNat)
    case atStart => exact ⟨0, rfl, Nat.zero_le _, HBW, HY, Lib.hid fun j _ hj => absurd hj (Nat.not_lt_zero _)⟩
    case round =>
      obtain ⟨k, rfl, hk, HBr, HYr, HK⟩ := hrel
      obtain ⟨s0, ⟨s1, ⟨c0, c1, c2⟩, -, -, -⟩, s2, c3, c4⟩ := HYr.out
      by_cases ck : k < N
      · have d4 : decide ((k : Int) < (N : Int)) = true := decide_eq_true (by omega)
        obtain ⟨g, cap', hva, -, hg', -, -, hx⟩ := HROW.out wr HBr.out (by omega)
        obtain ⟨rfl, rfl⟩ : a' = some ⟨g, 0, none⟩ ∧ cap = cap' := by simpa using hva
        obtain ⟨r, hr⟩ : ∃ r, L[k]? = some r := ⟨L[k]'(by omega), List.getElem?_eq_getElem (by omega)⟩
        obtain ⟨⟨x0, x1, x2, x3⟩, -⟩ := hx k r hr
        have HRr := Lib.hid hr
        clear hx hva hr
        cases h5 : decide (U r.b < U b)
        · go_wp2_with fail
          refine wp_region_below (by kernel_rfl) (by kernel_rfl) (fun hcr hfr => ?_)
          (try simp only [World.size_alloc, World.size_setCell, World.size_drew, size_drewN_] at hcr hfr)
          repeat (go_big_quiet_step (fail))
          refine wpQuiet_nil ?_
          intro w' hbl
          clear hcr hfr
          obtain ⟨hcw, hfw, hsw⟩ := below_ifs hbl; (try simp only [World.size_alloc, World.size_setCell, World.size_drew, size_drewN_] at hcw hfw hsw)
          go_wp2_with fail
          have HI : Hid (k ≤ N ∧ (∀ (j : Nat) (y : Hb), j < k → L[j]? = some y → U y.b < U b) ∧ (∀ y : Hb, L[k]? = some y → U b ≤ U y.b)) := Lib.hid ⟨hk, HK.out, fun y hy => by rw [HRr.out] at hy; obtain rfl := Option.some.inj hy; have := of_decide_eq_false h5; omega⟩
          have HBt : Hid (Below w.heap.size w w') := Lib.hid (HBr.out.trans ((by (repeat (first | with_reducible exact Below.refl _ _ | with_reducible assumption | with_reducible refine below_drewN ?_ _ | with_reducible refine Below.drew ?_ | with_reducible refine below_alloc ?_ _ | (with_reducible refine Below.setCell ?_ (by first | (simp; done) | omega | (simp; omega)) _) | with_reducible refine belows ?_ (by assumption))) : Below wr.heap.size wr w').mono HBr.out.size))
          have HYt : Hid (TkSt w' w.heap.size q rb rt b t (.slice (some ⟨g, 0, none⟩) N cap)) := Lib.hid (HYr.out.next (by (repeat (first | with_reducible exact Below.refl _ _ | with_reducible assumption | with_reducible refine below_drewN ?_ _ | with_reducible refine Below.drew ?_ | with_reducible refine below_alloc ?_ _ | (with_reducible refine Below.setCell ?_ (by first | (simp; done) | omega | (simp; omega)) _) | with_reducible refine belows ?_ (by assumption)))))
          have hbt := HBt.out
          have hsq : q < w'.heap.size := HYt.out.2.2.1
          clear HBr HYr c0 c1 c2 c3 c4 s0 s1 s2
          obtain ⟨s0, ⟨s1, ⟨c0, c1, c2⟩, ⟨c5, c6, c7⟩, ⟨c8, c9⟩, f0, f1, f2, f3, f4, f5⟩, s2, c3, c4⟩ := HYt.out
          have hq0 : w.heap.size < w'.heap.size := by omega
          have hq1 : w.heap.size + 1 < w'.heap.size := by omega
          have hq2 : w.heap.size + 1 + 1 < w'.heap.size := by omega
          (try clear hcw); (try clear hfw); (try clear hbl); (try clear hcr); (try clear hfr)
          go_cut [9] from 58 to 66 (fun s9 wx => ∃ v3 : Value, s9 = .int .i64 (k : Int) ∧ Hid (Below w.heap.size w wx) ∧ Hid (TkSt wx w.heap.size q rb rt b t v3) ∧ Hid (SlH wx (w.heap.size + 3) v3 (L.take k ++ [⟨b, t, false, 0⟩] ++ L.drop k)))
          case first =>
            go_region_law (first | (go_simp; go_at_call 16; refine (clone_H B _ L _ (HSW.out _ (by (repeat (first | with_reducible exact Below.refl _ _ | with_reducible assumption | with_reducible refine below_drewN ?_ _ | with_reducible refine Below.drew ?_ | with_reducible refine below_alloc ?_ _ | (with_reducible refine Below.setCell ?_ (by first | (simp; done) | omega | (simp; omega)) _) | with_reducible refine belows ?_ (by assumption))))) (by omega)).mono ?_; rintro e w2 ⟨v', rfl, hs', hb'⟩; have HS2 := Lib.hid hs'; clear hs'; (first | have HY2 := Lib.hid (HYt.out.next hb') | have HY2 := Lib.hid (HYt.out.drew.next hb') | have HY2 := Lib.hid ((HYt.out.alloc _).next hb') | have HY2 := Lib.hid ((HYt.out.alloc _).drew.next hb') | have HY2 := Lib.hid ((HYt.out.drew.alloc _).next hb')); have hb2 : Below w.heap.size w w2 := Below.trans (by (repeat (first | with_reducible exact Below.refl _ _ | with_reducible assumption | with_reducible refine below_drewN ?_ _ | with_reducible refine Below.drew ?_ | with_reducible refine below_alloc ?_ _ | (with_reducible refine Below.setCell ?_ (by first | (simp; done) | omega | (simp; omega)) _) | with_reducible refine belows ?_ (by assumption)))) (hb'.mono (by first | omega | (simp; done) | (simp; omega))); obtain ⟨a2, n2, cc2, rfl⟩ := HS2.out.form0; obtain ⟨z0, ⟨z1, ⟨y0, y1, y2⟩, ⟨y5, y6, y7⟩, ⟨y8, y9⟩, g0, g1, g2, g3, g4, g5⟩, z2, y3, y4⟩ := HY2.out; have hr0 : w.heap.size < w2.heap.size := (Nat.lt_of_lt_of_le (Nat.lt_succ_of_le (Nat.le_add_right _ 2)) z1); have hr1 : w.heap.size + 1 < w2.heap.size := (Nat.lt_of_lt_of_le (Nat.lt_succ_of_le (Nat.le_add_right _ 1)) z1); have hsw2 := hb'.size; (try simp only [World.size_alloc, World.size_setCell, World.size_drew, size_drewN_] at hsw2)) | (go_simp; go_at_call 15; refine (ins_H w'.heap.size k _ _ L ⟨b, t, false, 0⟩ _ ?_ ?_ (by omega) (by omega) ?_ ?_).mono ?_; (focus (refine SlH.mono (SlH.below HS2.out ?_) ?_; (focus (repeat (first | with_reducible exact Below.refl _ _ | with_reducible assumption | with_reducible refine below_drewN ?_ _ | with_reducible refine Below.drew ?_ | with_reducible refine below_alloc ?_ _ | (with_reducible refine Below.setCell ?_ (by first | (simp; done) | omega | (simp; omega)) _) | with_reducible refine belows ?_ (by assumption)))); first | omega | (simp; done) | (simp; omega))); (focus (first | omega | (simp; done) | (simp; omega))); (focus (first | exact heap_alloc_new _ _ | exact (hb'.block _ (by simp)).trans (heap_alloc_new _ _))); (focus (intro g hg; first | (have := HS2.out.lt g hg; omega) | (have := HS2.out.ge g hg; simp at this; omega))); rintro e w3 ⟨v3, rfl, hs3', hb3⟩; have HS3 := Lib.hid hs3'; clear hs3'; have hge3 : ∀ g, v3.ownBlock = some g → w'.heap.size ≤ g := (fun g hg => HS3.out.ge g hg); (first | have HY3 := Lib.hid (HY2.out.below hb3 hsq) | have HY3 := Lib.hid (HY2.out.drew.below hb3 hsq) | have HY3 := Lib.hid ((HY2.out.alloc _).below hb3 hsq) | have HY3 := Lib.hid ((HY2.out.alloc _).drew.below hb3 hsq) | have HY3 := Lib.hid ((HY2.out.drew.alloc _).below hb3 hsq)); have hW3 : Below w.heap.size w w3 := Below.trans (by (repeat (first | with_reducible exact Below.refl _ _ | with_reducible assumption | with_reducible refine below_drewN ?_ _ | with_reducible refine Below.drew ?_ | with_reducible refine below_alloc ?_ _ | (with_reducible refine Below.setCell ?_ (by first | (simp; done) | omega | (simp; omega)) _) | with_reducible refine belows ?_ (by assumption)))) (hb3.mono (by omega)); obtain ⟨a3, l3, cc3, rfl⟩ := HS3.out.form0; obtain ⟨u0, ⟨u1, ⟨x0, x1, x2⟩, ⟨x5, x6, x7⟩, ⟨x8, x9⟩, k0, k1, k2, k3, k4, k5⟩, u2, x3, x4⟩ := HY3.out; have hv0 : w.heap.size < w3.heap.size := (Nat.lt_of_lt_of_le (Nat.lt_succ_of_le (Nat.le_add_right _ 2)) u1); have hqp : q ≠ w.heap.size := (by omega); have hqp1 : q ≠ w.heap.size + 1 := (by omega); have hqp2 : q ≠ w.heap.size + 1 + 1 := (by omega)))
            all_goals go_wp2_with fail
            all_goals go_meet
            all_goals refine ⟨_, rfl, Lib.hid (by (repeat (first | with_reducible exact Below.refl _ _ | with_reducible assumption | with_reducible refine below_drewN ?_ _ | with_reducible refine Below.drew ?_ | with_reducible refine below_alloc ?_ _ | (with_reducible refine Below.setCell ?_ (by first | (simp; done) | omega | (simp; omega)) _) | with_reducible refine belows ?_ (by assumption)))), Lib.hid (HY3.out.put _), Lib.hid (SlH.mono (HS3.out.other _ _ (fun g hg => by have := hge3 g hg; show g ≠ w.heap.size; omega)) (Nat.le_trans s0 (Nat.le_of_lt hsq)))⟩
          case rest =>
            obtain ⟨v3, rfl, HB5, HY5, HS5⟩ := hcut
            obtain ⟨a3, l3, cc3, rfl⟩ := HS5.out.form0
            clear hbt hsq c0 c1 c2 c3 c4 c5 c6 c7 c8 c9 s0 s1 s2 f0 f1 f2 f3 f4 f5 hq0 hq1 hq2
            obtain ⟨s0, ⟨s1, ⟨c0, c1, c2⟩, ⟨c5, c6, c7⟩, ⟨c8, c9⟩, f0, f1, f2, f3, f4, f5⟩, s2, c3, c4⟩ := HY5.out
            have hb5 := HB5.out
            have hge5 := HS5.out.ge
            have hqp1 : q ≠ w.heap.size + 1 := by omega
            have hqp2 : q ≠ w.heap.size + 1 + 1 := by omega
            have hq1 : w.heap.size + 1 < wc.heap.size := by omega
            have hq2 : w.heap.size + 1 + 1 < wc.heap.size := by omega
            go_wp2_with fail
            go_region_law fail
            all_goals go_wp2_with fail
            all_goals refine bodyPost_ret (results_cct [.int .u64 (U rb), .int .u64 (U rt), .slice a3 l3 cc3] [.int .u64 (U b), .int .u64 (U t)] (.int .i64 0) Try.results5 rfl rfl rfl ?_ ?_ Try.underlying27 rfl (by kernel_rfl) Try.underlying24 rfl (by kernel_rfl)) rfl ?_
            all_goals first | ((first | (go_simp; done) | (go_simp; (simp [↓IntWalk.iteOmega]; done)) | (go_simp; intros; omega) | (go_simp; simp [↓IntWalk.iteOmega]; intros; omega)); done) | skip
            all_goals
              refine ⟨k, _, rfl, HI.out.1, HI.out.2.1, HI.out.2.2, ?_, by (repeat (first | with_reducible exact Below.refl _ _ | with_reducible assumption | with_reducible refine below_drewN ?_ _ | with_reducible refine Below.drew ?_ | with_reducible refine below_alloc ?_ _ | (with_reducible refine Below.setCell ?_ (by first | (simp; done) | omega | (simp; omega)) _) | with_reducible refine belows ?_ (by assumption)))⟩
              have hne1 : ∀ g, (Value.slice a3 l3 cc3).ownBlock = some g → g ≠ w.heap.size + 1 := fun g hg => by have := hge5 g hg; omega
              have hne2 : ∀ g, (Value.slice a3 l3 cc3).ownBlock = some g → g ≠ w.heap.size + 1 + 1 := fun g hg => by have := hge5 g hg; omega
              have h2 := ((((HS5.out.other ⟨w.heap.size + 1, 0, none⟩ (.int .u64 (U rb)) hne1).other ⟨w.heap.size + 1, 1, none⟩ (.int .u64 (U rt)) hne1).other ⟨w.heap.size + 1, 2, none⟩ (.slice a3 l3 cc3) hne1).other ⟨w.heap.size + 1 + 1, 0, none⟩ (.int .u64 (U b)) hne2).other ⟨w.heap.size + 1 + 1, 1, none⟩ (.int .u64 (U t)) hne2
              have h3 : w.heap.size ≤ w.heap.size + 3 := by omega
              with_reducible exact (h2.mono h3).drew
        · go_wp2_with fail
          refine wp_region_below (by kernel_rfl) (by kernel_rfl) (fun hcr hfr => ?_)
          (try simp only [World.size_alloc, World.size_setCell, World.size_drew, size_drewN_] at hcr hfr)
          repeat (go_big_quiet_step (fail))
          refine wpQuiet_nil ?_
          intro w' hbl
          clear hcr hfr
          obtain ⟨hcw, hfw, hsw⟩ := below_ifs hbl; (try simp only [World.size_alloc, World.size_setCell, World.size_drew, size_drewN_] at hcw hfw hsw)
          have hw2 : Below wr.heap.size wr w' := by (repeat (first | with_reducible exact Below.refl _ _ | with_reducible assumption | with_reducible refine below_drewN ?_ _ | with_reducible refine Below.drew ?_ | with_reducible refine below_alloc ?_ _ | (with_reducible refine Below.setCell ?_ (by first | (simp; done) | omega | (simp; omega)) _) | with_reducible refine belows ?_ (by assumption)))
          go_wp2_with fail
          go_roundw
          case rel =>
            refine ⟨k + 1, by go_num, by omega, Lib.hid (HBr.out.trans (hw2.mono HBr.out.size)), Lib.hid (HYr.out.below hw2 s2), Lib.hid fun j y hj hy => ?_⟩
            by_cases e : j = k
            · subst e
              rw [HRr.out] at hy
              rw [← Option.some.inj hy]; exact of_decide_eq_true h5
            · exact HK.out j y (by omega) hy
          case measure => (simp [intOf]; omega)
      · obtain rfl : k = N := by omega
        go_wp2_with fail
        refine wp_region_below (by kernel_rfl) (by kernel_rfl) (fun hcr hfr => ?_)
        (try simp only [World.size_alloc, World.size_setCell, World.size_drew, size_drewN_] at hcr hfr)
        repeat (go_big_quiet_step (fail))
        refine wpQuiet_nil ?_
        intro w' hbl
        clear hcr hfr
        obtain ⟨hcw, hfw, hsw⟩ := below_ifs hbl; (try simp only [World.size_alloc, World.size_setCell, World.size_drew, size_drewN_] at hcw hfw hsw)
        go_wp2_with fail
        have HI : Hid (k ≤ k ∧ (∀ (j : Nat) (y : Hb), j < k → L[j]? = some y → U y.b < U b) ∧ (∀ y : Hb, L[k]? = some y → U b ≤ U y.b)) := Lib.hid ⟨hk, HK.out, fun y hy => by obtain ⟨h, _⟩ := List.getElem?_eq_some_iff.1 hy; omega⟩
        have HBt : Hid (Below w.heap.size w w') := Lib.hid (HBr.out.trans ((by (repeat (first | with_reducible exact Below.refl _ _ | with_reducible assumption | with_reducible refine below_drewN ?_ _ | with_reducible refine Below.drew ?_ | with_reducible refine below_alloc ?_ _ | (with_reducible refine Below.setCell ?_ (by first | (simp; done) | omega | (simp; omega)) _) | with_reducible refine belows ?_ (by assumption))) : Below wr.heap.size wr w').mono HBr.out.size))
        have HYt : Hid (TkSt w' w.heap.size q rb rt b t (.slice a' k cap)) := Lib.hid (HYr.out.next (by (repeat (first | with_reducible exact Below.refl _ _ | with_reducible assumption | with_reducible refine below_drewN ?_ _ | with_reducible refine Below.drew ?_ | with_reducible refine below_alloc ?_ _ | (with_reducible refine Below.setCell ?_ (by first | (simp; done) | omega | (simp; omega)) _) | with_reducible refine belows ?_ (by assumption)))))
        have hbt := HBt.out
        have hsq : q < w'.heap.size := HYt.out.2.2.1
        clear HBr HYr c0 c1 c2 c3 c4 s0 s1 s2
        obtain ⟨s0, ⟨s1, ⟨c0, c1, c2⟩, ⟨c5, c6, c7⟩, ⟨c8, c9⟩, f0, f1, f2, f3, f4, f5⟩, s2, c3, c4⟩ := HYt.out
        have hq0 : w.heap.size < w'.heap.size := by omega
        have hq1 : w.heap.size + 1 < w'.heap.size := by omega
        have hq2 : w.heap.size + 1 + 1 < w'.heap.size := by omega
        (try clear hcw); (try clear hfw); (try clear hbl); (try clear hcr); (try clear hfr)
        go_cut [9] from 58 to 66 (fun s9 wx => ∃ v3 : Value, s9 = .int .i64 (k : Int) ∧ Hid (Below w.heap.size w wx) ∧ Hid (TkSt wx w.heap.size q rb rt b t v3) ∧ Hid (SlH wx (w.heap.size + 3) v3 (L.take k ++ [⟨b, t, false, 0⟩] ++ L.drop k)))
        case first =>
          go_region_law (first | (go_simp; go_at_call 16; refine (clone_H B _ L _ (HSW.out _ (by (repeat (first | with_reducible exact Below.refl _ _ | with_reducible assumption | with_reducible refine below_drewN ?_ _ | with_reducible refine Below.drew ?_ | with_reducible refine below_alloc ?_ _ | (with_reducible refine Below.setCell ?_ (by first | (simp; done) | omega | (simp; omega)) _) | with_reducible refine belows ?_ (by assumption))))) (by omega)).mono ?_; rintro e w2 ⟨v', rfl, hs', hb'⟩; have HS2 := Lib.hid hs'; clear hs'; (first | have HY2 := Lib.hid (HYt.out.next hb') | have HY2 := Lib.hid (HYt.out.drew.next hb') | have HY2 := Lib.hid ((HYt.out.alloc _).next hb') | have HY2 := Lib.hid ((HYt.out.alloc _).drew.next hb') | have HY2 := Lib.hid ((HYt.out.drew.alloc _).next hb')); have hb2 : Below w.heap.size w w2 := Below.trans (by (repeat (first | with_reducible exact Below.refl _ _ | with_reducible assumption | with_reducible refine below_drewN ?_ _ | with_reducible refine Below.drew ?_ | with_reducible refine below_alloc ?_ _ | (with_reducible refine Below.setCell ?_ (by first | (simp; done) | omega | (simp; omega)) _) | with_reducible refine belows ?_ (by assumption)))) (hb'.mono (by first | omega | (simp; done) | (simp; omega))); obtain ⟨a2, n2, cc2, rfl⟩ := HS2.out.form0; obtain ⟨z0, ⟨z1, ⟨y0, y1, y2⟩, ⟨y5, y6, y7⟩, ⟨y8, y9⟩, g0, g1, g2, g3, g4, g5⟩, z2, y3, y4⟩ := HY2.out; have hr0 : w.heap.size < w2.heap.size := (Nat.lt_of_lt_of_le (Nat.lt_succ_of_le (Nat.le_add_right _ 2)) z1); have hr1 : w.heap.size + 1 < w2.heap.size := (Nat.lt_of_lt_of_le (Nat.lt_succ_of_le (Nat.le_add_right _ 1)) z1); have hsw2 := hb'.size; (try simp only [World.size_alloc, World.size_setCell, World.size_drew, size_drewN_] at hsw2)) | (go_simp; go_at_call 15; refine (ins_H w'.heap.size k _ _ L ⟨b, t, false, 0⟩ _ ?_ ?_ (by omega) (by omega) ?_ ?_).mono ?_; (focus (refine SlH.mono (SlH.below HS2.out ?_) ?_; (focus (repeat (first | with_reducible exact Below.refl _ _ | with_reducible assumption | with_reducible refine below_drewN ?_ _ | with_reducible refine Below.drew ?_ | with_reducible refine below_alloc ?_ _ | (with_reducible refine Below.setCell ?_ (by first | (simp; done) | omega | (simp; omega)) _) | with_reducible refine belows ?_ (by assumption)))); first | omega | (simp; done) | (simp; omega))); (focus (first | omega | (simp; done) | (simp; omega))); (focus (first | exact heap_alloc_new _ _ | exact (hb'.block _ (by simp)).trans (heap_alloc_new _ _))); (focus (intro g hg; first | (have := HS2.out.lt g hg; omega) | (have := HS2.out.ge g hg; simp at this; omega))); rintro e w3 ⟨v3, rfl, hs3', hb3⟩; have HS3 := Lib.hid hs3'; clear hs3'; have hge3 : ∀ g, v3.ownBlock = some g → w'.heap.size ≤ g := (fun g hg => HS3.out.ge g hg); (first | have HY3 := Lib.hid (HY2.out.below hb3 hsq) | have HY3 := Lib.hid (HY2.out.drew.below hb3 hsq) | have HY3 := Lib.hid ((HY2.out.alloc _).below hb3 hsq) | have HY3 := Lib.hid ((HY2.out.alloc _).drew.below hb3 hsq) | have HY3 := Lib.hid ((HY2.out.drew.alloc _).below hb3 hsq)); have hW3 : Below w.heap.size w w3 := Below.trans (by (repeat (first | with_reducible exact Below.refl _ _ | with_reducible assumption | with_reducible refine below_drewN ?_ _ | with_reducible refine Below.drew ?_ | with_reducible refine below_alloc ?_ _ | (with_reducible refine Below.setCell ?_ (by first | (simp; done) | omega | (simp; omega)) _) | with_reducible refine belows ?_ (by assumption)))) (hb3.mono (by omega)); obtain ⟨a3, l3, cc3, rfl⟩ := HS3.out.form0; obtain ⟨u0, ⟨u1, ⟨x0, x1, x2⟩, ⟨x5, x6, x7⟩, ⟨x8, x9⟩, k0, k1, k2, k3, k4, k5⟩, u2, x3, x4⟩ := HY3.out; have hv0 : w.heap.size < w3.heap.size := (Nat.lt_of_lt_of_le (Nat.lt_succ_of_le (Nat.le_add_right _ 2)) u1); have hqp : q ≠ w.heap.size := (by omega); have hqp1 : q ≠ w.heap.size + 1 := (by omega); have hqp2 : q ≠ w.heap.size + 1 + 1 := (by omega)))
          all_goals go_wp2_with fail
          all_goals go_meet
          all_goals refine ⟨_, rfl, Lib.hid (by (repeat (first | with_reducible exact Below.refl _ _ | with_reducible assumption | with_reducible refine below_drewN ?_ _ | with_reducible refine Below.drew ?_ | with_reducible refine below_alloc ?_ _ | (with_reducible refine Below.setCell ?_ (by first | (simp; done) | omega | (simp; omega)) _) | with_reducible refine belows ?_ (by assumption)))), Lib.hid (HY3.out.put _), Lib.hid (SlH.mono (HS3.out.other _ _ (fun g hg => by have := hge3 g hg; show g ≠ w.heap.size; omega)) (Nat.le_trans s0 (Nat.le_of_lt hsq)))⟩
        case rest =>
          obtain ⟨v3, rfl, HB5, HY5, HS5⟩ := hcut
          obtain ⟨a3, l3, cc3, rfl⟩ := HS5.out.form0
          clear hbt hsq c0 c1 c2 c3 c4 c5 c6 c7 c8 c9 s0 s1 s2 f0 f1 f2 f3 f4 f5 hq0 hq1 hq2
          obtain ⟨s0, ⟨s1, ⟨c0, c1, c2⟩, ⟨c5, c6, c7⟩, ⟨c8, c9⟩, f0, f1, f2, f3, f4, f5⟩, s2, c3, c4⟩ := HY5.out
          have hb5 := HB5.out
          have hge5 := HS5.out.ge
          have hqp1 : q ≠ w.heap.size + 1 := by omega
          have hqp2 : q ≠ w.heap.size + 1 + 1 := by omega
          have hq1 : w.heap.size + 1 < wc.heap.size := by omega
          have hq2 : w.heap.size + 1 + 1 < wc.heap.size := by omega
          go_wp2_with fail
          go_region_law fail
          all_goals go_wp2_with fail
          all_goals refine bodyPost_ret (results_cct [.int .u64 (U rb), .int .u64 (U rt), .slice a3 l3 cc3] [.int .u64 (U b), .int .u64 (U t)] (.int .i64 0) Try.results5 rfl rfl rfl ?_ ?_ Try.underlying27 rfl (by kernel_rfl) Try.underlying24 rfl (by kernel_rfl)) rfl ?_
          all_goals first | ((first | (go_simp; done) | (go_simp; (simp [↓IntWalk.iteOmega]; done)) | (go_simp; intros; omega) | (go_simp; simp [↓IntWalk.iteOmega]; intros; omega)); done) | skip
          all_goals
            refine ⟨k, _, rfl, HI.out.1, HI.out.2.1, HI.out.2.2, ?_, by (repeat (first | with_reducible exact Below.refl _ _ | with_reducible assumption | with_reducible refine below_drewN ?_ _ | with_reducible refine Below.drew ?_ | with_reducible refine below_alloc ?_ _ | (with_reducible refine Below.setCell ?_ (by first | (simp; done) | omega | (simp; omega)) _) | with_reducible refine belows ?_ (by assumption)))⟩
            have hne1 : ∀ g, (Value.slice a3 l3 cc3).ownBlock = some g → g ≠ w.heap.size + 1 := fun g hg => by have := hge5 g hg; omega
            have hne2 : ∀ g, (Value.slice a3 l3 cc3).ownBlock = some g → g ≠ w.heap.size + 1 + 1 := fun g hg => by have := hge5 g hg; omega
            have h2 := ((((HS5.out.other ⟨w.heap.size + 1, 0, none⟩ (.int .u64 (U rb)) hne1).other ⟨w.heap.size + 1, 1, none⟩ (.int .u64 (U rt)) hne1).other ⟨w.heap.size + 1, 2, none⟩ (.slice a3 l3 cc3) hne1).other ⟨w.heap.size + 1 + 1, 0, none⟩ (.int .u64 (U b)) hne2).other ⟨w.heap.size + 1 + 1, 1, none⟩ (.int .u64 (U t)) hne2
            have h3 : w.heap.size ≤ w.heap.size + 3 := by omega
            with_reducible exact (h2.mono h3).drew
end Go.Proofs.Ytlhhahafmmfhhaa
