
/-
  At most one reservation holds an address; a map in its block.
-/
import Derived.Test.YtnillifinnmigaaRgN
namespace Go.Proofs.Ytnillifinnmigaa
open Go Go.RowKit
set_option linter.unusedVariables false
set_option linter.unusedSimpArgs false

theorem Inv.uniq {rb rt : BitVec 64} {L : List Rg} (h : Inv rb rt L) (a : BitVec 64) (i j : Nat) (x y : Rg) (hx : L[i]? = some x) (hy : L[j]? = some y) (h1 : atF a x = true) (h2 : atF a y = true) : i = j := by
  unfold atF at h1 h2
  simp only [Bool.and_eq_true, decide_eq_true_eq] at h1 h2
  rcases Nat.lt_trichotomy i j with g | g | g
  · have := h.sorted i j x y g hx hy
    unfold U at h1 h2
    omega
  · exact g
  · have := h.sorted j i y x g hy hx
    unfold U at h1 h2
    omega
theorem at_spec {rb rt : BitVec 64} {L : List Rg} (h : Inv rb rt L) (a : BitVec 64) :
    (L.find? (atF a) = none ∧ ∀ (j : Nat) (r : Rg), L[j]? = some r → atF a r = false) ∨
    ∃ (j : Nat) (r : Rg), L[j]? = some r ∧ L.find? (atF a) = some r ∧ atF a r = true ∧ ∀ (i : Nat) (y : Rg), L[i]? = some y → i ≠ j → atF a y = false := by
  rcases idx_cases (atF a) L with ⟨-, hf⟩ | ⟨k, r, -, hk, hp, hf, -⟩
  · refine .inl ⟨hf, fun j r hj => ?_⟩
    rw [List.find?_eq_none] at hf
    have := hf r (List.mem_iff_getElem?.2 ⟨j, hj⟩)
    simpa using this
  · refine .inr ⟨k, r, hk, hf, hp, fun i y hi hne => ?_⟩
    cases hq : atF a y
    · rfl
    · exact absurd (h.uniq a i k y r hi hk hq hp) hne
theorem below3 {B c : Nat} {w W : World} (h : Below B w W) (hc : B ≤ c) (x y z : Value) : Below B w (((W.setCell ⟨c, 0, none⟩ x).setCell ⟨c, 1, none⟩ y).setCell ⟨c, 2, none⟩ z) :=
  ((h.setCell (show B ≤ (⟨c, 0, none⟩ : Addr).block from hc) _).setCell (show B ≤ (⟨c, 1, none⟩ : Addr).block from hc) _).setCell (show B ≤ (⟨c, 2, none⟩ : Addr).block from hc) _
set_option maxHeartbeats 4000000 in
set_option maxRecDepth 100000 in
theorem fin_t {w W : World} {q : Nat} {rb rt : BitVec 64} {v v0 : Value} {L : List Rg} (hpw : w.heap.size ≤ q) (hb : Below w.heap.size w W) (hm : MapAt W q rb rt v0) (hl : SlR W (q + 1) v L) : ∀ W', W' = (((W.setCell ⟨q, 0, none⟩ (.int .u64 (U rb))).setCell ⟨q, 1, none⟩ (.int .u64 (U rt))).setCell ⟨q, 2, none⟩ v) → q < W'.heap.size ∧ Hid (Below w.heap.size w W') ∧ Hid (MapAt W' q rb rt v) ∧ Hid (SlR W' (q + 1) v L) := by
  rintro W' rfl
  have hge := hl.ge
  refine ⟨by simpa using hm.1, Lib.hid (below3 hb hpw _ _ _), Lib.hid ?_, Lib.hid ?_⟩
  · obtain ⟨h0, ⟨c0, c1, c2⟩, f0, f1, f2⟩ := hm
    exact ⟨by simpa using h0, ⟨by (first | (go_simp; done) | (go_simp; (simp [↓IntWalk.iteOmega]; done)) | (go_simp; intros; omega) | (go_simp; simp [↓IntWalk.iteOmega]; intros; omega)), by (first | (go_simp; done) | (go_simp; (simp [↓IntWalk.iteOmega]; done)) | (go_simp; intros; omega) | (go_simp; simp [↓IntWalk.iteOmega]; intros; omega)), by (first | (go_simp; done) | (go_simp; (simp [↓IntWalk.iteOmega]; done)) | (go_simp; intros; omega) | (go_simp; simp [↓IntWalk.iteOmega]; intros; omega))⟩, by (first | (go_simp; done) | (go_simp; (simp [↓IntWalk.iteOmega]; done)) | (go_simp; intros; omega) | (go_simp; simp [↓IntWalk.iteOmega]; intros; omega)), by (first | (go_simp; done) | (go_simp; (simp [↓IntWalk.iteOmega]; done)) | (go_simp; intros; omega) | (go_simp; simp [↓IntWalk.iteOmega]; intros; omega)), by (first | (go_simp; done) | (go_simp; (simp [↓IntWalk.iteOmega]; done)) | (go_simp; intros; omega) | (go_simp; simp [↓IntWalk.iteOmega]; intros; omega))⟩
  · exact ((hl.other _ _ fun g hg e => by have := hge g hg; simp at e; omega).other _ _ fun g hg e => by have := hge g hg; simp at e; omega).other _ _ fun g hg e => by have := hge g hg; simp at e; omega
def cntI (is : Bool) (j0 i : Nat) : Int := if (is && decide (j0 < i)) = true then 1 else 0
theorem cnt_0 (is : Bool) (j0 : Nat) : cntI is j0 0 = 0 := by unfold cntI; simp
theorem cnt_no {is : Bool} {j0 i : Nat} (h : (is && decide (i = j0)) = false) : cntI is j0 (i + 1) = cntI is j0 i := by
  unfold cntI
  cases is
  · rfl
  · simp at h
    have : (j0 < i + 1) ↔ (j0 < i) := by omega
    simp [this]
theorem cnt_yes {is : Bool} {j0 i : Nat} (h : (is && decide (i = j0)) = true) : cntI is j0 i = 0 ∧ cntI is j0 (i + 1) = 1 ∧ is = true ∧ i = j0 := by
  simp at h
  obtain ⟨rfl, rfl⟩ := h
  unfold cntI
  exact ⟨by simp, by simp, rfl, rfl⟩
theorem cnt_end {is : Bool} {j0 m : Nat} (h : is = true → j0 < m) : cntI is j0 m = if is = true then 1 else 0 := by
  unfold cntI
  cases is
  · rfl
  · have := h rfl
    simp [this]
def RgAt (W : World) (q : Nat) (b t : BitVec 64) (kd : Int) : Prop := q < W.heap.size ∧ W.cell? ⟨q, 0, none⟩ = some (.int .u64 (U b)) ∧ W.cell? ⟨q, 1, none⟩ = some (.int .u64 (U t)) ∧ W.cell? ⟨q, 2, none⟩ = some (.int .i64 kd)
theorem RgAt.below {W W' : World} {q D : Nat} {b t : BitVec 64} {kd : Int} (h : RgAt W q b t kd) (hb : Below D W W') (hD : q < D) : RgAt W' q b t kd :=
  ⟨Nat.lt_of_lt_of_le h.1 hb.size, (hb.cell (p := ⟨q, _, none⟩) hD).trans h.2.1, (hb.cell (p := ⟨q, _, none⟩) hD).trans h.2.2.1, (hb.cell (p := ⟨q, _, none⟩) hD).trans h.2.2.2⟩
theorem at_all {rb rt : BitVec 64} {L : List Rg} (h : Inv rb rt L) (a : BitVec 64) : ∃ (is : Bool) (j0 : Nat) (b t : BitVec 64) (kd : Int), atV a L = .tuple #[.agg #[.int .u64 (U b), .int .u64 (U t), .int .i64 kd], .bool is] ∧ (∀ (i : Nat) (y : Rg), L[i]? = some y → atF a y = (is && decide (i = j0))) ∧ (is = true → L[j0]? = some ⟨b, t, kd⟩) ∧ (is = false → b = 0#64 ∧ t = 0#64 ∧ kd = 0) := by
  rcases at_spec h a with ⟨hf, hn⟩ | ⟨j, r, hj, hf, hp, ho⟩
  · refine ⟨false, 0, 0#64, 0#64, 0, by unfold atV; rw [hf]; rfl, fun i y hi => by rw [hn i y hi]; rfl, by simp, fun _ => ⟨rfl, rfl, rfl⟩⟩
  · refine ⟨true, j, r.b, r.t, r.kd, by unfold atV; rw [hf]; rfl, fun i y hi => ?_, fun _ => hj, by simp⟩
    by_cases e : i = j
    · subst e
      rw [hj] at hi
      obtain rfl := Option.some.inj hi
      rw [hp]; simp
    · rw [ho i y hi e]; simp [e]
theorem fin_n {w wr W : World} {q : Nat} {rb rt : BitVec 64} {v : Value} {L : List Rg} (hpl : q < wr.heap.size) (HB : Hid (Below w.heap.size w wr)) (HM : Hid (MapAt wr q rb rt v)) (HL : Hid (SlR wr (q + 1) v L)) (HI : Hid (Inv rb rt L)) (hb : Below wr.heap.size wr W) : q < W.heap.size ∧ Hid (Below w.heap.size w W) ∧ Hid (MapAt W q rb rt v) ∧ Hid (SlR W (q + 1) v L) ∧ Hid (Inv rb rt L) :=
  ⟨Nat.lt_of_lt_of_le hpl hb.size, Lib.hid (HB.out.trans (hb.mono HB.out.size)), Lib.hid (HM.out.below hb hpl), Lib.hid (HL.out.below hb), HI⟩
end Go.Proofs.Ytnillifinnmigaa
