
/-
  Heaps: DeleteFunc of the first of one or two; Settle.
-/
import Derived.Test.YtlhhahafmmfhhaaHpC
import Derived.Deep.RegionLaw
import Derived.Test.YtlhhahafmmfhhaaSlD
namespace Go.Proofs.Ytlhhahafmmfhhaa
open Go Go.RowKit
set_option linter.unusedVariables false
set_option linter.unusedSimpArgs false

theorem zc_one (m : Nat) : ∀ u ∈ (Builtin.zeroCells (.agg #[.int .u64 0, .int .u64 0, .bool false, .int .i64 0] : Value).cells m).toList, u.oneCell' = true := fun u hu => by
  simp [Builtin.zeroCells] at hu
  obtain ⟨i, _, rfl⟩ := hu
  have : i % 4 = 0 ∨ i % 4 = 1 ∨ i % 4 = 2 ∨ i % 4 = 3 := by omega
  rcases this with h | h | h | h <;> simp [Value.cells, h, Value.oneCell']
set_option maxHeartbeats 4000000 in
set_option maxRecDepth 100000 in
theorem del_none (B : Nat) (v : Value) (L : List Hb) (w : World) (hs : SlH w B v L) (hbig : L.length ≤ 1099511627776) (now : Int) (ca : Nat) (hc : w.cell? ⟨ca, 0, none⟩ = some (.int .i64 now)) (htm : ∀ (j : Nat) (r : Hb), L[j]? = some r → ∃ n : Nat, r.tm = (n : Int) ∧ n ≤ 1099511627776) (hlt : ca < w.heap.size) (hi : idxI (settleF now) L = -1) : Calls Try.prog 20 #[v, .func (.func 21) #[] #[.pointer (some ⟨ca, 0, none⟩)]] w fun e w' => e = .returned v ∧ SlH w' B v L ∧ Below w.heap.size w w' := by
  have HS := Lib.hid hs
  obtain ⟨a', cap, rfl, hcap, hcap2, hblt, hform⟩ := hs.form
  clear hform hs hblt
  generalize hn : L.length = n at hcap hbig HS
  go_enter Try.func20, Try.ntmps20
  go_wp2_with (first | (go_at_call 17; refine (idx_settle B _ L _ HS.out (by omega) now ca hc htm hlt).mono ?_; rw [hi]; rintro e w' ⟨rfl, hbl⟩; obtain ⟨hcw, hfw, hsw⟩ := below_ifs hbl; (try simp only [World.size_alloc, World.size_setCell, World.size_drew, size_drewN_] at hcw hfw hsw)))
  go_ret
  exact ⟨rfl, HS.out.below hbl, hbl⟩
theorem clear_last (B q g cap : Nat) (L : List Hb) (W : World) (hs : SlH W B (.slice (some ⟨g, 0, none⟩) L.length cap) L) (hq : L.length = q + 1) : ∃ W2, (∀ ty c, (Builtin.clear_ #[25] ty #[.slice (some ⟨g, q * 4, none⟩) 1 c]).run Try.prog W = .ok (.tuple #[]) W2) ∧ SlH W2 B (.slice (some ⟨g, 0, none⟩) q cap) (L.take q) ∧ Below B W W2 := by
  obtain ⟨g', cap', cur, e, hbg, hglt, hg, hnc, hcm, hcl, htk⟩ := own_row hs (by omega)
  simp at e
  obtain ⟨rfl, rfl⟩ := e
  obtain ⟨cur2, hc2⟩ : ∃ cur2, cur2 = splice cur (q * 4) (Builtin.zeroCells (.agg #[.int .u64 0, .int .u64 0, .bool false, .int .i64 0] : Value).cells 1).toList := ⟨_, rfl⟩
  have hrun2 : ∀ ty c, (Builtin.clear_ #[25] ty #[.slice (some ⟨g, q * 4, none⟩) 1 c]).run Try.prog W = .ok (.tuple #[]) (W.setRow g cur2.toArray) := fun ty c => by
    rw [hc2]
    exact run_clear_in (P := Try.prog) W 25 ty 47 (.agg #[.int .u64 0, .int .u64 0, .bool false, .int .i64 0]) 4 Try.underlying25 (by kernel_rfl) rfl g (q * 4) 1 c (by omega) cur hg (zc_one 1) (by omega)
  have hl2 : cur2.length = cap * 4 := by rw [hc2, length_splice _ _ _ (by simp [Builtin.zeroCells, Value.cells]; omega), hcl]
  refine ⟨_, hrun2, ?_, below_setRow (Below.refl B W) hbg _⟩
  have htl : (L.take q).length = q := by rw [List.length_take]; omega
  unfold SlH
  rw [htl]
  refine own_of hbg (setRow_heap W g _ _ _ _ hg) (by omega) hcm hl2 ?_
  rw [hc2]
  unfold splice
  rw [List.take_append_of_le_length (by rw [List.length_take, hcl]; omega), List.take_take, Nat.min_self, ← cellsH_take, ← htk, List.take_take, Nat.min_eq_left (by omega)]
set_option maxHeartbeats 4000000 in
set_option maxRecDepth 100000 in
theorem del_one (B : Nat) (v : Value) (x : Hb) (w : World) (hs : SlH w B v [x]) (hB : B ≤ w.heap.size) (now : Int) (ca : Nat) (hc : w.cell? ⟨ca, 0, none⟩ = some (.int .i64 now)) (n : Nat) (hn : x.tm = (n : Int)) (hle : n ≤ 1099511627776) (hlt : ca < w.heap.size) (hp : settleF now x = true) : Calls Try.prog 20 #[v, .func (.func 21) #[] #[.pointer (some ⟨ca, 0, none⟩)]] w fun e w' => ∃ v', e = .returned v' ∧ SlH w' B v' [] ∧ Below B w w' := by
  have htm : ∀ (j : Nat) (r : Hb), [x][j]? = some r → ∃ n : Nat, r.tm = (n : Int) ∧ n ≤ 1099511627776 := fun j r hj => by
    match j, hj with
    | 0, hj => obtain rfl : x = r := by simpa using hj
               exact ⟨n, hn, hle⟩
    | j + 1, hj => simp at hj
  have hi : idxI (settleF now) [x] = ((0 : Nat) : Int) := idx_hit _ _ 0 x rfl hp (fun j _ hj => absurd hj (Nat.not_lt_zero _))
  have ci := idx_settle B v [x] w hs (by simp) now ca hc htm hlt
  rw [hi] at ci
  obtain ⟨g, cap, rfl, hbg, hg, hnc, hcm, -⟩ := hs.row (by simp)
  have HS := Lib.hid hs
  have CI := Lib.hid ci
  clear hs ci htm hi
  go_enter Try.func20, Try.ntmps20
  go_wp2_with (first | (go_at_call 17; refine CI.out.mono ?_; rintro e w' ⟨rfl, hbl⟩))
  obtain ⟨W2, hr2, hs2, hb2⟩ := clear_last B 0 g cap [x] w' (HS.out.below hbl) rfl
  have hbw : Below B w W2 := (hbl.mono hB).trans hb2
  go_loopw [5, 6] (fun x5 x6 wr => x5 = .int .i64 0 ∧ x6 = .int .i64 1 ∧ wr = w') (fun _ _ _ => 0)
  case atStart => exact ⟨rfl, rfl, rfl⟩
  case round =>
    obtain ⟨rfl, rfl, rfl⟩ := hrel
    go_wp2_with (first | (refine wpList_clear_run rfl _ 25 rfl _ rfl (hr2 _ _) ?_))
    go_ret
    exact ⟨_, rfl, hs2, hbw⟩
set_option maxHeartbeats 4000000 in
set_option maxRecDepth 100000 in
theorem del_two (B : Nat) (v : Value) (x y : Hb) (w : World) (hs : SlH w B v [x, y]) (hB : B ≤ w.heap.size) (now : Int) (ca : Nat) (hc : w.cell? ⟨ca, 0, none⟩ = some (.int .i64 now)) (n m : Nat) (hn : x.tm = (n : Int)) (hle : n ≤ 1099511627776) (hm : y.tm = (m : Int)) (hle2 : m ≤ 1099511627776) (hlt : ca < w.heap.size) (hp : settleF now x = true) (hq : settleF now y = false) (hca : ∀ g, v.ownBlock = some g → g ≠ ca) : Calls Try.prog 20 #[v, .func (.func 21) #[] #[.pointer (some ⟨ca, 0, none⟩)]] w fun e w' => ∃ v', e = .returned v' ∧ SlH w' B v' [y] ∧ Below B w w' := by
  have htm : ∀ (j : Nat) (r : Hb), [x, y][j]? = some r → ∃ n : Nat, r.tm = (n : Int) ∧ n ≤ 1099511627776 := fun j r hj => by
    match j, hj with
    | 0, hj => obtain rfl : x = r := by simpa using hj
               exact ⟨n, hn, hle⟩
    | 1, hj => obtain rfl : y = r := by simpa using hj
               exact ⟨m, hm, hle2⟩
    | j + 2, hj => simp at hj
  have hi : idxI (settleF now) [x, y] = ((0 : Nat) : Int) := idx_hit _ _ 0 x rfl hp (fun j _ hj => absurd hj (Nat.not_lt_zero _))
  have ci := idx_settle B v [x, y] w hs (by simp) now ca hc htm hlt
  rw [hi] at ci
  have hrow : ∀ W : World, SlH W B v [x, y] → _ := fun W h => h.row (by simp)
  obtain ⟨g, cap, rfl, hbg, hg, hnc, hcm, -⟩ := hrow w hs
  have hne : g ≠ ca := hca g rfl
  obtain ⟨yb, yt, yf, ytm⟩ := y
  obtain rfl : ytm = (m : Int) := hm
  have cs : ∀ W : World, Below w.heap.size w W → Calls Try.prog 21 #[.agg #[.int .u64 (U yb), .int .u64 (U yt), .bool yf, .int .i64 (m : Int)], .pointer (some ⟨ca, 0, none⟩)] W fun e w' => e = .returned (.bool false) ∧ Below W.heap.size W w' := fun W HB => by
    have h := settle1_any yb yt yf m hle2 now ca W ((HB.cell (p := ⟨ca, 0, none⟩) hlt).trans hc) (Nat.lt_of_lt_of_le hlt HB.size)
    rw [hq] at h
    exact h
  have CS := Lib.hid cs
  have HS := Lib.hid hs
  have CI := Lib.hid ci
  have HROW := Lib.hid hrow
  clear hs ci htm hi hrow cs hc hca
  go_enter Try.func20, Try.ntmps20
  go_wp2_with (first | (go_at_call 17; refine CI.out.mono ?_; rintro e w' ⟨rfl, hbl⟩))
  have HBW := Lib.hid hbl
  have HSw := Lib.hid (HS.out.below hbl)
  obtain ⟨g2, cap2, hv2, -, hg2, -, -, hx2⟩ := HROW.out w' (HS.out.below hbl)
  obtain ⟨rfl, rfl⟩ : g = g2 ∧ cap = cap2 := by simpa using hv2
  obtain ⟨⟨x0, x1, x2, x3⟩, hfz⟩ := hx2 1 _ rfl
  obtain ⟨⟨u0, u1, u2, u3⟩, -⟩ := hx2 0 _ rfl
  go_loopw [5, 6] (fun x5 x6 wr => (x5 = .int .i64 0 ∧ x6 = .int .i64 1 ∧ wr = w') ∨ (x5 = .int .i64 1 ∧ x6 = .int .i64 2 ∧ Hid (Below B w wr) ∧ Hid (SlH wr B (.slice (some ⟨g, 0, none⟩) 2 cap) [⟨yb, yt, yf, m⟩, ⟨yb, yt, yf, m⟩]))) (fun _ x6 _ => 2 - (intOf x6).toNat)
  case atStart => exact .inl ⟨rfl, rfl, rfl⟩
  case round =>
    rcases hrel with ⟨rfl, rfl, rfl⟩ | ⟨rfl, rfl, HB2, HS2⟩
    · go_wp2_with (first | (go_at_call 21; refine (CS.out _ (by (repeat (first | with_reducible exact Below.refl _ _ | with_reducible assumption | with_reducible refine below_drewN ?_ _ | with_reducible refine Below.drew ?_ | with_reducible refine below_alloc ?_ _ | (with_reducible refine Below.setCell ?_ (by first | (simp; done) | omega | (simp; omega)) _) | with_reducible refine belows ?_ (by assumption))))).mono ?_; rintro e w3 ⟨rfl, hb3⟩; obtain ⟨hcw3, hfw3, hsw3⟩ := below_ifs hb3; (try simp only [World.size_alloc, World.size_setCell, World.size_drew, size_drewN_] at hcw3 hfw3 hsw3)))
      have e0 := (HSw.out.below ((Below.refl _ wr).alloc (Nat.le_refl _) (.cells #[.int .u64 (U yb), .int .u64 (U yt), .bool yf, .int .i64 m] 47))).below hb3
      have e1 := SlH.upd (o := 0) (x := .int .u64 (U yb)) (L' := [⟨yb, x.t, x.fr, x.tm⟩, ⟨yb, yt, yf, m⟩]) e0 (by simp) rfl rfl
      have e2 := SlH.upd (L := [⟨yb, x.t, x.fr, x.tm⟩, ⟨yb, yt, yf, m⟩]) (o := 1) (x := .int .u64 (U yt)) (L' := [⟨yb, yt, x.fr, x.tm⟩, ⟨yb, yt, yf, m⟩]) e1 (by simp) rfl rfl
      have e3 := SlH.upd (L := [⟨yb, yt, x.fr, x.tm⟩, ⟨yb, yt, yf, m⟩]) (o := 2) (x := .bool yf) (L' := [⟨yb, yt, yf, x.tm⟩, ⟨yb, yt, yf, m⟩]) e2 (by simp) rfl rfl
      have e4 := SlH.upd (L := [⟨yb, yt, yf, x.tm⟩, ⟨yb, yt, yf, m⟩]) (o := 3) (x := .int .i64 (m : Int)) (L' := [⟨yb, yt, yf, m⟩, ⟨yb, yt, yf, m⟩]) e3 (by simp) rfl rfl
      have hb4 : Below B w w3 := (HBW.out.mono hB).trans (((Below.refl B wr).alloc (Nat.le_trans hB HBW.out.size) _).trans (hb3.mono (by have := HBW.out.size; simp; omega)))
      have hb5 := (((hb4.setCell (show B ≤ (⟨g, 0, none⟩ : Addr).block from hbg) (.int .u64 (U yb))).setCell (show B ≤ (⟨g, 1, none⟩ : Addr).block from hbg) (.int .u64 (U yt))).setCell (show B ≤ (⟨g, 2, none⟩ : Addr).block from hbg) (.bool yf)).setCell (show B ≤ (⟨g, 3, none⟩ : Addr).block from hbg) (.int .i64 (m : Int))
      exact ⟨.inr ⟨rfl, rfl, Lib.hid hb5, Lib.hid e4⟩, by simp [intOf]⟩
    · obtain ⟨W2, hr2, hs2, hb2⟩ := clear_last B 1 g cap _ _ HS2.out rfl
      have hbw : Below B w W2 := HB2.out.trans hb2
      have hz1 : ¬ (cap = 1) := by simp at hnc; omega
      have hz2 : 2 ≤ cap := by simpa using hnc
      have hz3 : (2 : Int) ≤ (cap : Int) := by omega
      have hz4 : 1 ≤ cap := by omega
      have hz5 : ¬ (cap = 0) := by omega
      go_wp2_with (first | (refine wpList_clear_run rfl _ 25 rfl _ rfl (hr2 _ _) ?_))
      go_ret
      exact ⟨_, rfl, hs2, hbw⟩
end Go.Proofs.Ytlhhahafmmfhhaa
