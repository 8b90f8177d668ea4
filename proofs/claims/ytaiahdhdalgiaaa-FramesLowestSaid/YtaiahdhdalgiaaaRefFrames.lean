
/-
  The document's pool, function by function.
-/
import Derived.Test.YtaiahdhdalgiaaaFramesP
import Derived.WalkKit
import Derived.Deep.AppendLies
namespace Go.Proofs.Ytaiahdhdalgiaaa
open Go Go.RowKit
set_option linter.unusedVariables false
set_option linter.unusedSimpArgs false

theorem info_bool : (Try.prog.info? 4).map (fun i => (i.zero, i.size, i.bytes)) = some (some (.bool false), 1, 1) := by kernel_rfl
theorem owns_below {w w' : World} {base : Nat} {e : TypeId} {size : Nat} {v : Value} {n : Nat} {xs : List Value} (h : w.ownsRow base e size v n xs) (hb : Below w.heap.size w w') : w'.ownsRow base e size v n xs :=
  h.kept (row := none) ⟨hb.os, hb.tape, hb.output, hb.size, fun k hk _ => hb.block k hk⟩ (by cases v.ownBlock <;> simp)
theorem vb_snoc (bs : List Bool) (b : Bool) : vb bs ++ [.bool b] = vb (bs ++ [b]) := by unfold vb; rw [List.map_append]; rfl
theorem vb_set (bs : List Bool) (k : Nat) (b : Bool) : (vb bs).set k (.bool b) = vb (bs.set k b) := by unfold vb; rw [List.map_set]
set_option maxHeartbeats 4000000 in
theorem rnew_bad (n : Int) (h : n < 1 ∨ 64 < n) (w : World) : Calls Try.prog 12 #[.int .i64 n] w fun r w' => r = .returned (.tuple #[.slice none 0 0, .int .i64 2]) ∧ w = w' := by
  by_cases c : n < 1
  · have d1 : decide (n < 1) = true := decide_eq_true c
    go_enter Try.func12, Try.ntmps12
    go_wp2_with fail
    go_ret2
    exact ⟨rfl, rfl⟩
  · have d1 : decide (n < 1) = false := decide_eq_false c
    have d2 : decide (64 < n) = true := decide_eq_true (by omega)
    go_enter Try.func12, Try.ntmps12
    go_wp2_with fail
    go_ret2
    exact ⟨rfl, rfl⟩
set_option maxHeartbeats 4000000 in
theorem rnew_good (n : Nat) (h1 : 0 < n) (h2 : n ≤ 64) (w : World) : Calls Try.prog 12 #[.int .i64 (n : Int)] w fun r w' => ∃ v, r = .returned (.tuple #[v, .int .i64 0]) ∧ Below w.heap.size w w' ∧ w'.ownsRow w.heap.size 4 1 v n (vb (List.replicate n false)) := by
  obtain ⟨i0, hi0, hz0, hz1, hz2⟩ := info_parts info_bool
  have d1 : decide ((n : Int) < 1) = false := decide_eq_false (by omega)
  have d2 : decide (64 < (n : Int)) = false := decide_eq_false (by omega)
  go_enter Try.func12, Try.ntmps12
  go_wp2_with fail
  go_loopw [4, 5] (fun v x wr => ∃ k : Nat, x = .int .i64 (k : Int) ∧ k ≤ n ∧ Below w.heap.size w wr ∧ Hid (wr.ownsRow w.heap.size 4 1 v k (vb (List.replicate k false)))) (fun _ x _ => n - (intOf x).toNat)
  case atStart => exact ⟨0, rfl, by omega, by (repeat (first | with_reducible exact Below.refl _ _ | with_reducible assumption | with_reducible refine below_drewN ?_ _ | with_reducible refine Below.drew ?_ | with_reducible refine below_alloc ?_ _ | (with_reducible refine Below.setCell ?_ (by first | (simp; done) | omega | (simp; omega)) _) | with_reducible refine belows ?_ (by assumption))), Lib.hid (World.ownsRow_nil _ _ _ _)⟩
  case round =>
    obtain ⟨k, rfl, hk, hbw, HO⟩ := hrel
    have hown := HO.out
    have hsz := hbw.size
    by_cases c : k < n
    · clear HO
      go_wp2_with (at_builtin; refine wpList_append_own _ rfl _ _ 40 rfl w.heap.size 4 i0 (.bool false) 1 1 Try.underlying40 hi0 hz0 hz1 hz2 rfl (by decide) _ k _ rfl (hown.alloc _) ⟨wr.heap.size, 0, none⟩ 1 1 [.bool false] rfl rfl (cell_one_new _ _ _) (by simp [Value.oneCell']) (by unfold maxLen; omega) (by omega) (by simp; omega) ?_; intro v' w1 hown' hgrow _)
      have hb1 : Below w.heap.size w w1 := (hbw.alloc (by omega) _).grown hgrow (by simp; omega) (fun j h => (hown.lt j h).1)
      have HO1 := Lib.hid hown'
      clear hown hown' hgrow
      go_wp2_with fail
      go_roundw
      case rel => exact ⟨k + 1, by go_num, by omega, hb1, Lib.hid (by have h := HO1.out; rw [vb_snoc, ← List.replicate_succ'] at h; exact h)⟩
      case measure => (simp [intOf]; omega)
    · obtain rfl : k = n := by omega
      clear hown
      go_wp2_with fail
      go_ret2
      exact ⟨_, rfl, hbw, HO.out⟩
theorem old_cell (w : World) (o : Obj) {x : Addr} (hl : x.block < w.heap.size) : (w.alloc o).cell? x = w.cell? x := World.cell?_of_block (heap_alloc_old w o hl)
set_option maxHeartbeats 8000000 in
theorem rwith_any (bs : List Bool) (n₀ g cap k : Nat) (b : Bool) (w : World) (hown : w.ownsRow n₀ 4 1 (.slice (some ⟨g, 0, none⟩) bs.length cap) bs.length (vb bs)) (hk : k < bs.length) (hn : bs.length ≤ 64) : Calls Try.prog 21 #[.slice (some ⟨g, 0, none⟩) bs.length cap, .int .i64 (k : Int), .bool b] w fun r w' => ∃ v, r = .returned v ∧ Below w.heap.size w w' ∧ w'.ownsRow w.heap.size 4 1 v bs.length (vb (bs.set k b)) := by
  obtain ⟨i0, hi0, hz0, hz1, hz2⟩ := info_parts info_bool
  have hg := (hown.lt g rfl).2
  go_enter Try.func21, Try.ntmps21
  go_wp2_with (at_builtin; refine wpList_append_own _ rfl _ _ 40 rfl w.heap.size 4 i0 (.bool false) 1 1 Try.underlying40 hi0 hz0 hz1 hz2 rfl (by decide) _ 0 _ rfl (World.ownsRow_lit w #[] 0 (Nat.le_refl _) (by unfold maxLen; omega) rfl) ⟨g, 0, none⟩ bs.length cap (vb bs) rfl (by simp [vb]) ?c1 ?c2 (by unfold maxLen; omega) (by omega) (by simp) ?_)
  case c1 =>
    intro j u hj
    have hj2 : j < bs.length := by
      by_cases c : j < bs.length
      · exact c
      · rw [List.getElem?_eq_none (by rw [vb_len]; omega)] at hj; cases hj
    have := hown.cellAt j (by omega)
    rw [hj] at this
    refine Eq.trans ?_ this
    have ha : (⟨g, 0, none⟩ : Addr).add j = ⟨g, j, none⟩ := by
      unfold Addr.add
      by_cases c : j = 0 <;> simp [c]
    rw [ha]
    exact old_cell w _ (x := ⟨g, j, none⟩) hg
  case c2 =>
    intro u hu
    obtain ⟨x, -, rfl⟩ := List.mem_map.1 hu
    rfl
  · intro v' w1 hown' hgrow _
    have hb1 : Below w.heap.size w w1 := ((Below.refl _ w).alloc (Nat.le_refl _) _).grown hgrow (by simp) (fun j h => by cases h; exact Nat.le_refl _)
    have hown2 : w1.ownsRow w.heap.size 4 1 v' bs.length (vb bs) := by simpa using hown'
    obtain ⟨m, hm⟩ : ∃ m, bs.length = m + 1 := ⟨bs.length - 1, by omega⟩
    rw [hm] at hown2
    obtain ⟨g', cap', rfl⟩ := ownsRow_succ hown2
    have hx := hown2.cellAt k (by omega)
    rw [vb_at bs k hk] at hx
    have hf := hown2.frozenAt k
    have hg1 := hown2.lt g' rfl
    have HS := Lib.hid (hown2.stored k (.bool b)).1
    have hk2 : k < m + 1 := by omega
    have hk3 : (k : Int) < (m : Int) + 1 := by omega
    have HM := Lib.hid hm
    clear hm hown hown' hown2 hgrow hk
    go_wp2_with fail
    go_ret
    exact ⟨_, rfl, hb1.setCell (by simpa using hg1.1) _, by rw [HM.out, ← vb_set]; exact HS.out⟩
theorem not_true : (!true) = false := rfl
theorem not_false' : (!false) = true := rfl
set_option maxHeartbeats 8000000 in
theorem rtake_any (bs : List Bool) (n₀ g cap z : Nat) (w : World) (hown : w.ownsRow n₀ 4 1 (.slice (some ⟨g, 0, none⟩) bs.length cap) bs.length (vb bs)) (hn : bs.length ≤ 64) (hz : z ≤ bs.length) (hl : ∀ i, i < z → bs.getD i false = true) (hb : z < bs.length → bs.getD z false = false) : Calls Try.prog 13 #[.slice (some ⟨g, 0, none⟩) bs.length cap] w fun r w' => Below w.heap.size w w' ∧ ((z = bs.length ∧ r = .returned (.tuple #[.slice (some ⟨g, 0, none⟩) bs.length cap, .int .i64 0, .int .i64 15])) ∨ (z < bs.length ∧ ∃ v, r = .returned (.tuple #[v, .int .i64 (z : Int), .int .i64 0]) ∧ w'.ownsRow w.heap.size 4 1 v bs.length (vb (bs.set z true)))) := by
  have cw := fun (i : Nat) (w' : World) h hi => rwith_any bs n₀ g cap i true w' h hi hn
  obtain ⟨L, hL⟩ : ∃ L, L = bs.length := ⟨_, rfl⟩
  have HL := Lib.hid hL
  rw [← hL] at hown hn hz hb cw ⊢
  have hg := (hown.lt g rfl).2
  clear hL
  go_enter Try.func13, Try.ntmps13
  go_wp2_with fail
  go_loop [5] (fun x => ∃ k : Nat, x = .int .i64 (k : Int) ∧ k ≤ z) (fun x => L - (intOf x).toNat)
  case atStart => exact ⟨0, rfl, by omega⟩
  case round =>
    obtain ⟨k, rfl, hk⟩ := hrel
    by_cases c : k < L
    · have hx := hown.cellAt k (by omega)
      rw [vb_at bs k (by rw [← HL.out]; exact c)] at hx
      by_cases d : k < z
      · rw [hl k d] at hx
        go_wp2_with fail
        go_round
        case rel => exact ⟨k + 1, by go_num, by omega⟩
        case measure => (simp [intOf]; omega)
      · obtain rfl : k = z := by omega
        rw [hb c] at hx
        have ck := fun w' q => cw k w' q c
        clear cw hl
        go_wp2_with (first | (go_at_call 21; refine (ck _ hown).mono ?_; rintro e w' ⟨u, rfl, hbl, hou⟩))
        go_ret3
        exact ⟨hbl, .inr ⟨c, u, rfl, hou⟩⟩
    · obtain rfl : k = L := by omega
      obtain rfl : k = z := by omega
      clear cw hl
      go_wp2_with fail
      go_ret3
      exact ⟨Below.refl _ _, rfl⟩
theorem rgive_bad (v : Value) (L c : Nat) (a : Option Addr) (i : Int) (w : World) (hv : v = .slice a L c) (hL : L ≤ 64) (h : i < 0 ∨ (L : Int) ≤ i) : Calls Try.prog 14 #[v, .int .i64 i] w fun r w' => r = .returned (.tuple #[v, .int .i64 2]) ∧ Below w.heap.size w w' := by
  subst hv
  by_cases d : i < 0
  · have d0 : decide (i < 0) = true := decide_eq_true d
    clear h
    go_enter Try.func14, Try.ntmps14
    go_wp2_with fail
    go_ret2
    exact ⟨rfl, by (repeat (first | with_reducible exact Below.refl _ _ | with_reducible assumption | with_reducible refine below_drewN ?_ _ | with_reducible refine Below.drew ?_ | with_reducible refine below_alloc ?_ _ | (with_reducible refine Below.setCell ?_ (by first | (simp; done) | omega | (simp; omega)) _) | with_reducible refine belows ?_ (by assumption)))⟩
  · have d0 : decide (i < 0) = false := decide_eq_false d
    have d1 : decide ((L : Int) ≤ i) = true := decide_eq_true (by omega)
    clear h
    go_enter Try.func14, Try.ntmps14
    go_wp2_with fail
    go_ret2
    exact ⟨rfl, by (repeat (first | with_reducible exact Below.refl _ _ | with_reducible assumption | with_reducible refine below_drewN ?_ _ | with_reducible refine Below.drew ?_ | with_reducible refine below_alloc ?_ _ | (with_reducible refine Below.setCell ?_ (by first | (simp; done) | omega | (simp; omega)) _) | with_reducible refine belows ?_ (by assumption)))⟩
set_option maxHeartbeats 4000000 in
theorem rgive_none (bs : List Bool) (n₀ g cap k : Nat) (w : World) (hown : w.ownsRow n₀ 4 1 (.slice (some ⟨g, 0, none⟩) bs.length cap) bs.length (vb bs)) (hn : bs.length ≤ 64) (hk : k < bs.length) (hb : bs.getD k false = false) : Calls Try.prog 14 #[.slice (some ⟨g, 0, none⟩) bs.length cap, .int .i64 (k : Int)] w fun r w' => r = .returned (.tuple #[.slice (some ⟨g, 0, none⟩) bs.length cap, .int .i64 13]) ∧ Below w.heap.size w w' := by
  have hx := hown.cellAt k (by omega)
  rw [vb_at bs k hk, hb] at hx
  obtain ⟨L, hL⟩ : ∃ L, L = bs.length := ⟨_, rfl⟩
  rw [← hL] at hn hk ⊢
  clear hL hown hb
  have d0 : decide ((k : Int) < 0) = false := decide_eq_false (by omega)
  have d1 : decide (L ≤ k) = false := decide_eq_false (by omega)
  go_enter Try.func14, Try.ntmps14
  go_wp2_with fail
  go_ret2
  exact ⟨rfl, by (repeat (first | with_reducible exact Below.refl _ _ | with_reducible assumption | with_reducible refine below_drewN ?_ _ | with_reducible refine Below.drew ?_ | with_reducible refine below_alloc ?_ _ | (with_reducible refine Below.setCell ?_ (by first | (simp; done) | omega | (simp; omega)) _) | with_reducible refine belows ?_ (by assumption)))⟩
set_option maxHeartbeats 4000000 in
theorem rgive_one (bs : List Bool) (n₀ g cap k : Nat) (w : World) (hown : w.ownsRow n₀ 4 1 (.slice (some ⟨g, 0, none⟩) bs.length cap) bs.length (vb bs)) (hn : bs.length ≤ 64) (hk : k < bs.length) (hb : bs.getD k false = true) : Calls Try.prog 14 #[.slice (some ⟨g, 0, none⟩) bs.length cap, .int .i64 (k : Int)] w fun r w' => ∃ v, r = .returned (.tuple #[v, .int .i64 0]) ∧ Below w.heap.size w w' ∧ w'.ownsRow w.heap.size 4 1 v bs.length (vb (bs.set k false)) := by
  have cw := fun (w' : World) h => rwith_any bs n₀ g cap k false w' h hk hn
  have hx := hown.cellAt k (by omega)
  rw [vb_at bs k hk, hb] at hx
  obtain ⟨L, hL⟩ : ∃ L, L = bs.length := ⟨_, rfl⟩
  rw [← hL] at hn hk cw hown ⊢
  clear hL hb
  have d0 : decide ((k : Int) < 0) = false := decide_eq_false (by omega)
  have d1 : decide (L ≤ k) = false := decide_eq_false (by omega)
  go_enter Try.func14, Try.ntmps14
  go_wp2_with (first | (go_at_call 21; refine (cw _ hown).mono ?_; rintro e w' ⟨u, rfl, hbl, hou⟩))
  go_ret2
  exact ⟨u, rfl, hbl, hou⟩
set_option maxHeartbeats 8000000 in
set_option maxRecDepth 100000 in
theorem rall_any (t : BitVec 64) (n n₀ g cap : Nat) (w : World) (hown : w.ownsRow n₀ 4 1 (.slice (some ⟨g, 0, none⟩) n cap) n (vb (bitsN n t))) (hn : n ≤ 64) : Calls Try.prog 15 #[.slice (some ⟨g, 0, none⟩) n cap] w fun r w' => ∃ v, r = .returned v ∧ Below w.heap.size w w' ∧ w'.ownsRow w.heap.size 3 1 v (onesTo t n).length (valsN (onesTo t n)) := by
  obtain ⟨i0, hi0, hz0, hz1, hz2⟩ := info_parts info_int
  have hg := (hown.lt g rfl).2
  have HX : ∀ k, k < n → Hid (w.cell? ⟨g, k, none⟩ = some (.bool (t.getLsbD k))) := fun k hk => Lib.hid (by
    rw [hown.cellAt k (by omega), vb_at _ k (by rw [bitsN_len]; exact hk), bitsN_getD n t k hk])
  clear hown
  go_enter Try.func15, Try.ntmps15
  go_wp2_with fail
  go_loopw [3, 4] (fun v x wr => ∃ k : Nat, x = .int .i64 (k : Int) ∧ k ≤ n ∧ Below w.heap.size w wr ∧ Hid (wr.ownsRow w.heap.size 3 1 v (onesTo t k).length (valsN (onesTo t k)))) (fun _ x _ => n - (intOf x).toNat)
  case atStart => exact ⟨0, rfl, by omega, by (repeat (first | with_reducible exact Below.refl _ _ | with_reducible assumption | with_reducible refine below_drewN ?_ _ | with_reducible refine Below.drew ?_ | with_reducible refine below_alloc ?_ _ | (with_reducible refine Below.setCell ?_ (by first | (simp; done) | omega | (simp; omega)) _) | with_reducible refine belows ?_ (by assumption))), Lib.hid (World.ownsRow_nil _ _ _ _)⟩
  case round =>
    obtain ⟨k, rfl, hk, hbw, HO⟩ := hrel
    have hsz := hbw.size
    have hl := onesTo_len t k
    by_cases c : k < n
    · have hx := (hbw.cell (p := ⟨g, k, none⟩) hg).trans (HX k c).out
      clear HX
      cases hbit : t.getLsbD k
      · have HBT := Lib.hid hbit
        rw [hbit] at hx
        clear hbit
        go_wp2_with fail
        go_roundw
        case rel => exact ⟨k + 1, by go_num, by omega, hbw, Lib.hid (by rw [onesTo_no t k HBT.out]; exact HO.out)⟩
        case measure => (simp [intOf]; omega)
      · have HBT := Lib.hid hbit
        rw [hbit] at hx
        clear hbit
        have hown := HO.out
        clear HO
        go_wp2_with (at_builtin; refine wpList_append_own _ rfl _ _ 35 rfl w.heap.size 3 i0 (.int .i64 0) 1 8 Try.underlying35 hi0 hz0 hz1 hz2 rfl (by decide) _ _ _ rfl (hown.alloc _) ⟨wr.heap.size, 0, none⟩ 1 1 [.int .i64 (k : Int)] rfl rfl (cell_one_new _ _ _) (by simp [Value.oneCell']) (by unfold maxLen; omega) (by omega) (by simp; omega) ?_; intro v' w1 hown' hgrow _)
        have hb1 : Below w.heap.size w w1 := (hbw.alloc (by omega) _).grown hgrow (by simp; omega) (fun j h => (hown.lt j h).1)
        have HO1 := Lib.hid hown'
        clear hown hown' hgrow
        go_wp2_with fail
        go_roundw
        case rel => exact ⟨k + 1, by go_num, by omega, hb1, Lib.hid (by rw [onesTo_yes t k HBT.out, List.length_append, ← valsN_snoc]; exact HO1.out)⟩
        case measure => (simp [intOf]; omega)
    · obtain rfl : k = n := by omega
      go_wp2_with fail
      go_ret
      exact ⟨_, rfl, hbw, HO.out⟩
end Go.Proofs.Ytaiahdhdalgiaaa
