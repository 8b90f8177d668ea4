
/-
  Maps of reservations: At, Hold, Drop.
-/
import Derived.Test.YtnillifinnmigaaRgF
namespace Go.Proofs.Ytnillifinnmigaa
open Go Go.RowKit
set_option linter.unusedVariables false
set_option linter.unusedSimpArgs false

theorem idx_cases (p : Rg → Bool) (L : List Rg) : (idxI p L = -1 ∧ L.find? p = none) ∨ ∃ (k : Nat) (r : Rg), idxI p L = (k : Int) ∧ L[k]? = some r ∧ p r = true ∧ L.find? p = some r ∧ ∀ (j : Nat) (x : Rg), j < k → L[j]? = some x → p x = false := by
  cases h : L.findIdx? p with
  | none =>
    left
    refine ⟨by unfold idxI; rw [h], ?_⟩
    rw [List.findIdx?_eq_none_iff] at h
    rw [List.find?_eq_none]
    intro x hx
    rw [h x hx]; decide
  | some k =>
    right
    have h' := h
    rw [List.findIdx?_eq_some_iff_getElem] at h
    obtain ⟨hlt, hp, hb⟩ := h
    refine ⟨k, L[k], by unfold idxI; rw [h'], List.getElem?_eq_getElem hlt, hp, ?_, fun j x hj hx => ?_⟩
    · rw [List.find?_eq_some_iff_getElem]
      exact ⟨hp, k, hlt, rfl, fun j hj => by have := hb j hj; simpa using this⟩
    · have := hb j hj
      obtain ⟨hjl, he⟩ := List.getElem?_eq_some_iff.1 hx
      rw [he] at this
      simpa using this
def rgV (r : Rg) : Value := .agg #[.int .u64 (U r.b), .int .u64 (U r.t), .int .i64 r.kd]
def atV (a : BitVec 64) (L : List Rg) : Value := match L.find? (atF a) with | some r => .tuple #[rgV r, .bool true] | none => .tuple #[.agg #[.int .u64 0, .int .u64 0, .int .i64 0], .bool false]
set_option maxHeartbeats 4000000 in
set_option maxRecDepth 100000 in
theorem at_any (B : Nat) (rb rt a : BitVec 64) (v : Value) (L : List Rg) (w : World) (hs : SlR w B v L) (hbig : L.length ≤ 1099511627776) : Calls Try.prog 14 #[.agg #[.int .u64 (U rb), .int .u64 (U rt), v], .int .u64 (U a)] w fun e w' => e = .returned (atV a L) ∧ Below w.heap.size w w' := by
  have hs3 : ∀ o1 o2 o3, SlR (((w.alloc o1).alloc o2).alloc o3) B v L := fun o1 o2 o3 => hs.below ((((Below.refl _ w).alloc (Nat.le_refl _) o1).alloc (by simp) o2).alloc (by simp; omega) o3)
  have HS := Lib.hid hs3
  have hrow := fun (W : World) (h : Below w.heap.size w W) (hn : 0 < L.length) => (hs.below h).row hn
  have HROW := Lib.hid hrow
  obtain ⟨a', cap, rfl, hcap, hcap2, hblt, hform⟩ := hs.form
  clear hrow hform hs hs3 hblt
  rcases idx_cases (atF a) L with ⟨hi, hf⟩ | ⟨k, r, hi, hk, hp, hf, -⟩
  · have hv : atV a L = .tuple #[.agg #[.int .u64 0, .int .u64 0, .int .i64 0], .bool false] := by unfold atV; rw [hf]
    rw [hv]
    clear hv hf
    generalize hn : L.length = n at hcap hbig HS HROW
    go_enter Try.func14, Try.ntmps14
    go_wp2_with (first | (go_at_call 31; refine (idx_at B _ L _ (HS.out _ _ _) (by omega) a (w.heap.size + 1) (by (first | (go_simp; done) | (go_simp; (simp [↓IntWalk.iteOmega]; done)) | (go_simp; intros; omega) | (go_simp; simp [↓IntWalk.iteOmega]; intros; omega))) (by simp)).mono ?_; rw [hi]; rintro e w' ⟨rfl, hbl⟩; obtain ⟨hcw, hfw, hsw⟩ := below_ifs hbl; (try simp only [World.size_alloc, World.size_setCell, World.size_drew, size_drewN_] at hcw hfw hsw)))
    refine bodyPost_ret (results_ct [.int .u64 0, .int .u64 0, .int .i64 0] (.bool false) Try.results14 rfl rfl ?_ Try.underlying41 rfl (by kernel_rfl)) rfl ?_
    · (first | (go_simp; done) | (go_simp; (simp [↓IntWalk.iteOmega]; done)) | (go_simp; intros; omega) | (go_simp; simp [↓IntWalk.iteOmega]; intros; omega))
    · exact ⟨rfl, by (repeat (first | with_reducible exact Below.refl _ _ | with_reducible assumption | with_reducible refine below_drewN ?_ _ | with_reducible refine Below.drew ?_ | with_reducible refine below_alloc ?_ _ | (with_reducible refine Below.setCell ?_ (by first | (simp; done) | omega | (simp; omega)) _) | with_reducible refine belows ?_ (by assumption)))⟩
  · have hv : atV a L = .tuple #[.agg #[.int .u64 (U r.b), .int .u64 (U r.t), .int .i64 r.kd], .bool true] := by unfold atV; rw [hf]; rfl
    rw [hv]
    clear hv hf
    have hlt : k < L.length := (List.getElem?_eq_some_iff.1 hk).1
    have HK := Lib.hid hk
    clear hk
    generalize hn : L.length = n at hcap hbig HS HROW hlt
    obtain ⟨g, cap', hva, -, hg, -, -, -⟩ := HROW.out w (Below.refl _ _) (by omega)
    have hga : a' = some ⟨g, 0, none⟩ := by simp at hva; exact hva.1
    subst hga
    clear hva
    go_enter Try.func14, Try.ntmps14
    go_wp2_with (first | (go_at_call 31; refine (idx_at B _ L _ (HS.out _ _ _) (by omega) a (w.heap.size + 1) (by (first | (go_simp; done) | (go_simp; (simp [↓IntWalk.iteOmega]; done)) | (go_simp; intros; omega) | (go_simp; simp [↓IntWalk.iteOmega]; intros; omega))) (by simp)).mono ?_; rw [hi]; rintro e w' ⟨rfl, hbl⟩; obtain ⟨g2, cap2, hv2, -, hg2, -, -, hx2⟩ := HROW.out w' (by (repeat (first | with_reducible exact Below.refl _ _ | with_reducible assumption | with_reducible refine below_drewN ?_ _ | with_reducible refine Below.drew ?_ | with_reducible refine below_alloc ?_ _ | (with_reducible refine Below.setCell ?_ (by first | (simp; done) | omega | (simp; omega)) _) | with_reducible refine belows ?_ (by assumption)))) (by omega); obtain ⟨rfl, rfl⟩ : g = g2 ∧ cap = cap2 := (by simpa using hv2); obtain ⟨⟨x0, x1, x2⟩, -⟩ := hx2 k r HK.out; clear hx2 hv2; obtain ⟨hcw, hfw, hsw⟩ := below_ifs hbl; (try simp only [World.size_alloc, World.size_setCell, World.size_drew, size_drewN_] at hcw hfw hsw)))
    refine bodyPost_ret (results_ct [.int .u64 (U r.b), .int .u64 (U r.t), .int .i64 r.kd] (.bool true) Try.results14 rfl rfl ?_ Try.underlying41 rfl (by kernel_rfl)) rfl ?_
    · (first | (go_simp; done) | (go_simp; (simp [↓IntWalk.iteOmega]; done)) | (go_simp; intros; omega) | (go_simp; simp [↓IntWalk.iteOmega]; intros; omega))
    · exact ⟨rfl, by (repeat (first | with_reducible exact Below.refl _ _ | with_reducible assumption | with_reducible refine below_drewN ?_ _ | with_reducible refine Below.drew ?_ | with_reducible refine below_alloc ?_ _ | (with_reducible refine Below.setCell ?_ (by first | (simp; done) | omega | (simp; omega)) _) | with_reducible refine belows ?_ (by assumption)))⟩
end Go.Proofs.Ytnillifinnmigaa
