
/-
  What is fixed; a number laid into a word and read of it: each function.
-/
import Derived.Test.YtokfokgbbpjgdaaInstW
namespace Go.Proofs.Ytokfokgbbpjgdaa
open Go Go.RowKit
set_option linter.unusedVariables false
set_option linter.unusedSimpArgs false

theorem results_uu {P : Program} {fn : Func} {p q : Tmp} {ty : TypeId} {k : IntKind} {w : World} {tmps : Array Value} {g h : Nat} (v v2 : Value) (hr : fn.results = #[.cell p ty, .cell q ty]) (hp : tmps.getD p undef = .pointer (some ⟨g, 0, none⟩)) (hq : tmps.getD q undef = .pointer (some ⟨h, 0, none⟩)) (h0 : w.cell? ⟨g, 0, none⟩ = some v) (h1 : w.cell? ⟨h, 0, none⟩ = some v2)
    (hu : P.underlying ty = some (.int k)) (hi : (P.info? ty).map (·.size) = some 1) : (results fn tmps).run P w = .ok (.tuple #[v, v2]) w := by
  have hp' : tmps[p]?.getD undef = .pointer (some ⟨g, 0, none⟩) := by simpa using hp
  have hq' : tmps[q]?.getD undef = .pointer (some ⟨h, 0, none⟩) := by simpa using hq
  simp [results, hr, hp', hq', asAddr, loadVar, isAgg, run_underlying hu, go_sem, h0, h1]
set_option maxHeartbeats 4000000 in
set_option maxRecDepth 100000 in
theorem fix1_any (p q : Nat) (a n : Int) (v x m : BitVec 64) (w : World) (hp : p < w.heap.size) (hq : q < w.heap.size) (hne : p ≠ q) (h0 : w.cell? ⟨p, 0, none⟩ = some (.int .u64 (U x))) (h1 : w.frozen? ⟨p, 0, none⟩ = false) (h2 : w.cell? ⟨q, 0, none⟩ = some (.int .u64 (U m))) (h3 : w.frozen? ⟨q, 0, none⟩ = false) : Calls Try.prog 33 #[.int .i64 a, .int .i64 n, .int .u64 (U v), .pointer (some ⟨p, 0, none⟩), .pointer (some ⟨q, 0, none⟩)] w fun r w' => r = .returned (.tuple #[]) ∧ ∃ w1, Below w.heap.size w w1 ∧ w' = (w1.setCell ⟨p, 0, none⟩ (.int .u64 (U (putF x a n v)))).setCell ⟨q, 0, none⟩ (.int .u64 (U (putF m a n ones64))) := by
  have hu : U ones64 = 18446744073709551615 := rfl
  have cp := fun w => put_any m ones64 a n w
  rw [hu] at cp
  go_enter Try.func33, Try.ntmps33
  refine wp_region_below_tail 9 (by kernel_rfl) (by kernel_rfl) (fun hcr hfr => ?_)
  (try simp only [World.size_alloc, World.size_setCell, World.size_drew, size_drewN_] at hcr hfr)
  simp only [List.take_succ_cons, List.take_zero, List.drop_succ_cons, List.drop_zero]
  repeat (go_big_quiet_step ((first | (go_at_call 22; first | with_reducible exact Calls.regrown_of (cp _) | with_reducible exact regrown_k (cp _) | with_reducible exact regrown_1 (cp _) | with_reducible exact regrown_a (cp _)) | (go_at_call 22; first | with_reducible exact Calls.regrown_of (put_any _ _ _ _ _) | with_reducible exact regrown_k (put_any _ _ _ _ _) | with_reducible exact regrown_1 (put_any _ _ _ _ _) | with_reducible exact regrown_a (put_any _ _ _ _ _)))))
  refine wpQuiet_nil ?_
  intro w' hbl
  clear hcr hfr
  obtain ⟨hcw, hfw, hsw⟩ := below_ifs hbl; (try simp only [World.size_alloc, World.size_setCell, World.size_drew, size_drewN_] at hcw hfw hsw)
  go_wp2_with fail
  refine bodyPost_end (results_none rfl _ _ _) rfl ?_
  exact ⟨rfl, w', by (repeat (first | with_reducible exact Below.refl _ _ | with_reducible assumption | with_reducible refine below_drewN ?_ _ | with_reducible refine Below.drew ?_ | with_reducible refine below_alloc ?_ _ | (with_reducible refine Below.setCell ?_ (by first | (simp; done) | omega | (simp; omega)) _) | with_reducible refine belows ?_ (by assumption))), rfl⟩
set_option maxHeartbeats 4000000 in
set_option maxRecDepth 100000 in
theorem fits_lay (a : Option Addr) (n cap : Nat) (b : Int) (sg : Bool) (z : Int) (x : BitVec 64) (w : World) : Calls Try.prog 17 #[.agg #[.slice a n cap, .int .i64 b, .bool sg, .int .i64 z], .int .i64 (S x)] w fun r w' => r = .returned (.bool (n == 0 || (fitsF x b sg && (x &&& maskF z == 0#64)))) ∧ Below w.heap.size w w' := by
  by_cases c : n = 0
  · subst c
    go_enter Try.func17, Try.ntmps17
    go_wp2_with fail
    go_ret
    exact ⟨ret_bool (by simp), by (repeat (first | with_reducible exact Below.refl _ _ | with_reducible assumption | with_reducible refine below_drewN ?_ _ | with_reducible refine Below.drew ?_ | with_reducible refine below_alloc ?_ _ | (with_reducible refine Below.setCell ?_ (by first | (simp; done) | omega | (simp; omega)) _) | with_reducible refine belows ?_ (by assumption)))⟩
  · have d : ((n : Int) == 0) = false := by rw [beq_eq_false_iff_ne]; omega
    have d2 : (n == 0) = false := by rw [beq_eq_false_iff_ne]; omega
    rw [d2]
    have cf := fun w => fits_any x b sg w
    have cm := fun w => mask_any z w
    generalize fitsF x b sg = ff at cf ⊢
    cases ff
    · go_enter Try.func17, Try.ntmps17
      go_wp2_with (first | (go_at_call 21; (with_reducible refine (cf _).mono ?_); rintro e w' ⟨rfl, rfl⟩) | (go_at_call 32; (with_reducible refine (cm _).mono ?_); rintro e w' ⟨rfl, rfl⟩))
      go_ret
      exact ⟨ret_bool (by simp), by (repeat (first | with_reducible exact Below.refl _ _ | with_reducible assumption | with_reducible refine below_drewN ?_ _ | with_reducible refine Below.drew ?_ | with_reducible refine below_alloc ?_ _ | (with_reducible refine Below.setCell ?_ (by first | (simp; done) | omega | (simp; omega)) _) | with_reducible refine belows ?_ (by assumption)))⟩
    · go_enter Try.func17, Try.ntmps17
      go_wp2_with (first | (go_at_call 21; (with_reducible refine (cf _).mono ?_); rintro e w' ⟨rfl, rfl⟩) | (go_at_call 32; (with_reducible refine (cm _).mono ?_); rintro e w' ⟨rfl, rfl⟩))
      go_ret
      exact ⟨ret_bool (by simp), by (repeat (first | with_reducible exact Below.refl _ _ | with_reducible assumption | with_reducible refine below_drewN ?_ _ | with_reducible refine Below.drew ?_ | with_reducible refine below_alloc ?_ _ | (with_reducible refine Below.setCell ?_ (by first | (simp; done) | omega | (simp; omega)) _) | with_reducible refine belows ?_ (by assumption)))⟩
theorem layF_succ (L : List Pc) (k : Nat) (p : Pc) (h : L[k]? = some p) (x v : BitVec 64) : layF (L.take (k + 1)) x v = putF (layF (L.take k) x v) p.2.2 p.2.1 (getF x p.1 p.2.1) := by
  unfold layF
  rw [List.take_add_one, h, List.foldl_append]
  rfl
theorem readF_succ (L : List Pc) (k : Nat) (p : Pc) (h : L[k]? = some p) (v : BitVec 64) : readF (L.take (k + 1)) v = putF (readF (L.take k) v) p.1 p.2.1 (getF v p.2.2 p.2.1) := by
  unfold readF
  rw [List.take_add_one, h, List.foldl_append]
  rfl
theorem PcAt.cells {w w' : World} {a : Option Addr} {L : List Pc} (h : PcAt w a L) (hb : Below w.heap.size w w') (k : Nat) (hk : k < L.length) : ∃ (b : Nat) (f n t : Int), a = some ⟨b, 0, none⟩ ∧ L[k]? = some (f, n, t) ∧ w'.cell? ⟨b, k * 3, none⟩ = some (.int .i64 f) ∧ w'.cell? ⟨b, k * 3 + 1, none⟩ = some (.int .i64 n) ∧ w'.cell? ⟨b, k * 3 + 2, none⟩ = some (.int .i64 t) := by
  rcases h with h | ⟨b, h1, h2, h3⟩
  · subst h; simp at hk
  · obtain ⟨⟨f, n, t⟩, hp⟩ : ∃ p, L[k]? = some p := ⟨L[k], List.getElem?_eq_getElem hk⟩
    exact ⟨b, f, n, t, h1, hp, (hb.cell (p := ⟨b, _, none⟩) h2).trans (h3 k _ hp).1, (hb.cell (p := ⟨b, _, none⟩) h2).trans (h3 k _ hp).2.1, (hb.cell (p := ⟨b, _, none⟩) h2).trans (h3 k _ hp).2.2⟩
set_option maxHeartbeats 4000000 in
set_option maxRecDepth 100000 in
theorem lay_any (a : Option Addr) (L : List Pc) (cap : Nat) (b : Int) (sg : Bool) (z : Int) (x v : BitVec 64) (w : World) (hL : L.length < 100) (hp : PcAt w a L) : Calls Try.prog 20 #[.agg #[.slice a L.length cap, .int .i64 b, .bool sg, .int .i64 z], .int .u64 (U v), .int .i64 (S x)] w fun r w' => r = .returned (.int .u64 (U (layF L x v))) ∧ Below w.heap.size w w' := by
  go_enter Try.func20, Try.ntmps20
  go_wp2_with fail
  go_loopw [1, 12] (fun y i wr => ∃ k : Nat, i = .int .i64 (k : Int) ∧ k ≤ L.length ∧ y = .int .u64 (U (layF (L.take k) x v)) ∧ Below w.heap.size w wr) (fun _ i _ => L.length - (intOf i).toNat)
  case atStart => exact ⟨0, rfl, by omega, rfl, by (repeat (first | with_reducible exact Below.refl _ _ | with_reducible assumption | with_reducible refine below_drewN ?_ _ | with_reducible refine Below.drew ?_ | with_reducible refine below_alloc ?_ _ | (with_reducible refine Below.setCell ?_ (by first | (simp; done) | omega | (simp; omega)) _) | with_reducible refine belows ?_ (by assumption)))⟩
  case round =>
    obtain ⟨k, rfl, hk, rfl, hbw⟩ := hrel
    by_cases c : k < L.length
    · obtain ⟨g, f, n, t, rfl, hp1, x0, x1, x2⟩ := hp.cells hbw k c
      have hs := layF_succ L k _ hp1 x v
      have HS := Lib.hid hs
      have i0 : (0 : Int) ≤ (k : Int) := by omega
      have i1 : (k : Int) < (L.length : Int) := by omega
      generalize layF (L.take k) x v = y at HS
      clear hp hs hp1
      go_wp2_with fail
      refine wp_region_below (by kernel_rfl) (by kernel_rfl) (fun hcr hfr => ?_)
      (try simp only [World.size_alloc, World.size_setCell, World.size_drew, size_drewN_] at hcr hfr)
      repeat (go_big_quiet_step ((first | (go_at_call 29; first | with_reducible exact Calls.regrown_of (get_any _ _ _ _) | with_reducible exact regrown_k (get_any _ _ _ _) | with_reducible exact regrown_1 (get_any _ _ _ _) | with_reducible exact regrown_a (get_any _ _ _ _)) | (go_at_call 22; first | with_reducible exact Calls.regrown_of (put_any _ _ _ _ _) | with_reducible exact regrown_k (put_any _ _ _ _ _) | with_reducible exact regrown_1 (put_any _ _ _ _ _) | with_reducible exact regrown_a (put_any _ _ _ _ _)))))
      refine wpQuiet_nil ?_
      intro w' hbl
      clear hcr hfr
      obtain ⟨hcw, hfw, hsw⟩ := below_ifs hbl; (try simp only [World.size_alloc, World.size_setCell, World.size_drew, size_drewN_] at hcw hfw hsw)
      go_wp2_with fail
      go_roundw
      case rel => exact ⟨k + 1, by go_num, by omega, by rw [HS.out], by (repeat (first | with_reducible exact Below.refl _ _ | with_reducible assumption | with_reducible refine below_drewN ?_ _ | with_reducible refine Below.drew ?_ | with_reducible refine below_alloc ?_ _ | (with_reducible refine Below.setCell ?_ (by first | (simp; done) | omega | (simp; omega)) _) | with_reducible refine belows ?_ (by assumption)))⟩
      case measure => (simp [intOf]; omega)
    · obtain rfl : k = L.length := by omega
      rw [List.take_length]
      go_wp2_with fail
      go_ret
      exact ⟨rfl, hbw⟩
set_option maxHeartbeats 4000000 in
set_option maxRecDepth 100000 in
theorem read_any (a : Option Addr) (L : List Pc) (cap : Nat) (b : Int) (sg : Bool) (z : Int) (v : BitVec 64) (w : World) (hL : L.length < 100) (hp : PcAt w a L) : Calls Try.prog 28 #[.agg #[.slice a L.length cap, .int .i64 b, .bool sg, .int .i64 z], .int .u64 (U v)] w fun r w' => r = .returned (.int .i64 (S (if sg = true then sgnF (readF L v) b else readF L v))) ∧ Below w.heap.size w w' := by
  go_enter Try.func28, Try.ntmps28
  go_wp2_with fail
  go_loopw [5, 11] (fun y i wr => ∃ k : Nat, i = .int .i64 (k : Int) ∧ k ≤ L.length ∧ y = .int .u64 (U (readF (L.take k) v)) ∧ Below w.heap.size w wr ∧ wr.cell? ⟨w.heap.size, 1, none⟩ = some (.int .i64 b) ∧ wr.cell? ⟨w.heap.size, 2, none⟩ = some (.bool sg) ∧ w.heap.size < wr.heap.size) (fun _ i _ => L.length - (intOf i).toNat)
  case atStart => exact ⟨0, rfl, by omega, rfl, by (repeat (first | with_reducible exact Below.refl _ _ | with_reducible assumption | with_reducible refine below_drewN ?_ _ | with_reducible refine Below.drew ?_ | with_reducible refine below_alloc ?_ _ | (with_reducible refine Below.setCell ?_ (by first | (simp; done) | omega | (simp; omega)) _) | with_reducible refine belows ?_ (by assumption))), by (first | (go_simp; done) | (go_simp; (simp [↓IntWalk.iteOmega]; done)) | (go_simp; intros; omega) | (go_simp; simp [↓IntWalk.iteOmega]; intros; omega)), by (first | (go_simp; done) | (go_simp; (simp [↓IntWalk.iteOmega]; done)) | (go_simp; intros; omega) | (go_simp; simp [↓IntWalk.iteOmega]; intros; omega)), by simp⟩
  case round =>
    obtain ⟨k, rfl, hk, rfl, hbw, c1, c2, hlw⟩ := hrel
    by_cases c : k < L.length
    · obtain ⟨g, f, n, t, rfl, hp1, x0, x1, x2⟩ := hp.cells hbw k c
      have hs := readF_succ L k _ hp1 v
      have HS := Lib.hid hs
      have i0 : (0 : Int) ≤ (k : Int) := by omega
      have i1 : (k : Int) < (L.length : Int) := by omega
      generalize readF (L.take k) v = y at HS
      clear hp hs hp1
      go_wp2_with fail
      refine wp_region_below (by kernel_rfl) (by kernel_rfl) (fun hcr hfr => ?_)
      (try simp only [World.size_alloc, World.size_setCell, World.size_drew, size_drewN_] at hcr hfr)
      repeat (go_big_quiet_step ((first | (go_at_call 29; first | with_reducible exact Calls.regrown_of (get_any _ _ _ _) | with_reducible exact regrown_k (get_any _ _ _ _) | with_reducible exact regrown_1 (get_any _ _ _ _) | with_reducible exact regrown_a (get_any _ _ _ _)) | (go_at_call 22; first | with_reducible exact Calls.regrown_of (put_any _ _ _ _ _) | with_reducible exact regrown_k (put_any _ _ _ _ _) | with_reducible exact regrown_1 (put_any _ _ _ _ _) | with_reducible exact regrown_a (put_any _ _ _ _ _)))))
      refine wpQuiet_nil ?_
      intro w' hbl
      clear hcr hfr
      obtain ⟨hcw, hfw, hsw⟩ := below_ifs hbl; (try simp only [World.size_alloc, World.size_setCell, World.size_drew, size_drewN_] at hcw hfw hsw)
      go_wp2_with fail
      go_roundw
      case rel => exact ⟨k + 1, by go_num, by omega, by rw [HS.out], by (repeat (first | with_reducible exact Below.refl _ _ | with_reducible assumption | with_reducible refine below_drewN ?_ _ | with_reducible refine Below.drew ?_ | with_reducible refine below_alloc ?_ _ | (with_reducible refine Below.setCell ?_ (by first | (simp; done) | omega | (simp; omega)) _) | with_reducible refine belows ?_ (by assumption))), by (first | (go_simp; done) | (go_simp; (simp [↓IntWalk.iteOmega]; done)) | (go_simp; intros; omega) | (go_simp; simp [↓IntWalk.iteOmega]; intros; omega)), by (first | (go_simp; done) | (go_simp; (simp [↓IntWalk.iteOmega]; done)) | (go_simp; intros; omega) | (go_simp; simp [↓IntWalk.iteOmega]; intros; omega)), by omega⟩
      case measure => (simp [intOf]; omega)
    · obtain rfl : k = L.length := by omega
      rw [List.take_length]
      cases sg
      · go_wp2_with fail
        go_ret
        exact ⟨rfl, hbw⟩
      · go_wp2_with (first | (go_at_call 34; (with_reducible refine (sign_any _ _ _).mono ?_); rintro e w' ⟨rfl, rfl⟩))
        go_ret
        exact ⟨rfl, hbw⟩
set_option maxHeartbeats 4000000 in
set_option maxRecDepth 100000 in
theorem fixed_82 (nm : ByteArray) (cd f ot : BitVec 64) (w : World) : Calls Try.prog 18 #[.agg #[.string nm, .int .u8 82, .int .u64 (U cd), .int .u64 (U f), .int .u64 (U ot)]] w fun r w' => r = .returned (.tuple #[.int .u64 (U (fixW ⟨nm, 82, cd, f, ot⟩)), .int .u64 (U (fixM ⟨nm, 82, cd, f, ot⟩))]) ∧ Below w.heap.size w w' := by
  go_enter Try.func18, Try.ntmps18
  go_wp2_with fail
  refine (fix1_any (w.heap.size + 1) (w.heap.size + 2) 0 7 cd (0#64) (0#64) _ ?hp0 ?hq0 (by omega) (by rw [U_zero]; (first | (go_simp; done) | (go_simp; (simp [↓IntWalk.iteOmega]; done)) | (go_simp; intros; omega) | (go_simp; simp [↓IntWalk.iteOmega]; intros; omega))) (by (first | (go_simp; done) | (go_simp; (simp [↓IntWalk.iteOmega]; done)) | (go_simp; intros; omega) | (go_simp; simp [↓IntWalk.iteOmega]; intros; omega))) (by rw [U_zero]; (first | (go_simp; done) | (go_simp; (simp [↓IntWalk.iteOmega]; done)) | (go_simp; intros; omega) | (go_simp; simp [↓IntWalk.iteOmega]; intros; omega))) (by (first | (go_simp; done) | (go_simp; (simp [↓IntWalk.iteOmega]; done)) | (go_simp; intros; omega) | (go_simp; simp [↓IntWalk.iteOmega]; intros; omega)))).mono ?_
  case hp0 => first | omega | (simp only [World.size_alloc, World.size_setCell]; omega)
  case hq0 => first | omega | (simp only [World.size_alloc, World.size_setCell]; omega)
  rintro e w' ⟨rfl, v0, hb0, rfl⟩
  obtain ⟨hc0, hf0, hs0⟩ := below_ifs hb0
  simp only [World.size_alloc, World.size_setCell, World.size_drew, size_drewN_] at hc0 hf0 hs0
  go_wp2_with fail
  refine (fix1_any (w.heap.size + 1) (w.heap.size + 2) 12 3 f (putF (0#64) 0 7 cd) (putF (0#64) 0 7 ones64) _ ?hp1 ?hq1 (by omega) (by (first | (go_simp; done) | (go_simp; (simp [↓IntWalk.iteOmega]; done)) | (go_simp; intros; omega) | (go_simp; simp [↓IntWalk.iteOmega]; intros; omega))) (by (first | (go_simp; done) | (go_simp; (simp [↓IntWalk.iteOmega]; done)) | (go_simp; intros; omega) | (go_simp; simp [↓IntWalk.iteOmega]; intros; omega))) (by (first | (go_simp; done) | (go_simp; (simp [↓IntWalk.iteOmega]; done)) | (go_simp; intros; omega) | (go_simp; simp [↓IntWalk.iteOmega]; intros; omega))) (by (first | (go_simp; done) | (go_simp; (simp [↓IntWalk.iteOmega]; done)) | (go_simp; intros; omega) | (go_simp; simp [↓IntWalk.iteOmega]; intros; omega)))).mono ?_
  case hp1 => first | omega | (simp only [World.size_alloc, World.size_setCell]; omega)
  case hq1 => first | omega | (simp only [World.size_alloc, World.size_setCell]; omega)
  rintro e w' ⟨rfl, v1, hb1, rfl⟩
  obtain ⟨hc1, hf1, hs1⟩ := below_ifs hb1
  simp only [World.size_alloc, World.size_setCell, World.size_drew, size_drewN_] at hc1 hf1 hs1
  go_wp2_with fail
  refine (fix1_any (w.heap.size + 1) (w.heap.size + 2) 25 7 ot (putF (putF (0#64) 0 7 cd) 12 3 f) (putF (putF (0#64) 0 7 ones64) 12 3 ones64) _ ?hp2 ?hq2 (by omega) (by (first | (go_simp; done) | (go_simp; (simp [↓IntWalk.iteOmega]; done)) | (go_simp; intros; omega) | (go_simp; simp [↓IntWalk.iteOmega]; intros; omega))) (by (first | (go_simp; done) | (go_simp; (simp [↓IntWalk.iteOmega]; done)) | (go_simp; intros; omega) | (go_simp; simp [↓IntWalk.iteOmega]; intros; omega))) (by (first | (go_simp; done) | (go_simp; (simp [↓IntWalk.iteOmega]; done)) | (go_simp; intros; omega) | (go_simp; simp [↓IntWalk.iteOmega]; intros; omega))) (by (first | (go_simp; done) | (go_simp; (simp [↓IntWalk.iteOmega]; done)) | (go_simp; intros; omega) | (go_simp; simp [↓IntWalk.iteOmega]; intros; omega)))).mono ?_
  case hp2 => first | omega | (simp only [World.size_alloc, World.size_setCell]; omega)
  case hq2 => first | omega | (simp only [World.size_alloc, World.size_setCell]; omega)
  rintro e w' ⟨rfl, v2, hb2, rfl⟩
  obtain ⟨hc2, hf2, hs2⟩ := below_ifs hb2
  simp only [World.size_alloc, World.size_setCell, World.size_drew, size_drewN_] at hc2 hf2 hs2
  go_wp2_with fail
  go_region
  go_wp2_with fail
  refine bodyPost_ret (results_uu (.int .u64 (U (putF (putF (putF (0#64) 0 7 cd) 12 3 f) 25 7 ot))) (.int .u64 (U (putF (putF (putF (0#64) 0 7 ones64) 12 3 ones64) 25 7 ones64))) Try.results18 rfl rfl ?_ ?_ Try.underlying41 (by kernel_rfl)) rfl ⟨rfl, by (repeat (first | with_reducible exact Below.refl _ _ | with_reducible assumption | with_reducible refine below_drewN ?_ _ | with_reducible refine Below.drew ?_ | with_reducible refine below_alloc ?_ _ | (with_reducible refine Below.setCell ?_ (by first | (simp; done) | omega | (simp; omega)) _) | with_reducible refine belows ?_ (by assumption)))⟩
  · (first | (go_simp; done) | (go_simp; (simp [↓IntWalk.iteOmega]; done)) | (go_simp; intros; omega) | (go_simp; simp [↓IntWalk.iteOmega]; intros; omega))
  · (first | (go_simp; done) | (go_simp; (simp [↓IntWalk.iteOmega]; done)) | (go_simp; intros; omega) | (go_simp; simp [↓IntWalk.iteOmega]; intros; omega))
set_option maxHeartbeats 4000000 in
set_option maxRecDepth 100000 in
theorem fixed_71 (nm : ByteArray) (cd f ot : BitVec 64) (w : World) : Calls Try.prog 18 #[.agg #[.string nm, .int .u8 71, .int .u64 (U cd), .int .u64 (U f), .int .u64 (U ot)]] w fun r w' => r = .returned (.tuple #[.int .u64 (U (fixW ⟨nm, 71, cd, f, ot⟩)), .int .u64 (U (fixM ⟨nm, 71, cd, f, ot⟩))]) ∧ Below w.heap.size w w' := by
  go_enter Try.func18, Try.ntmps18
  go_wp2_with fail
  refine (fix1_any (w.heap.size + 1) (w.heap.size + 2) 0 7 cd (0#64) (0#64) _ ?hp0 ?hq0 (by omega) (by rw [U_zero]; (first | (go_simp; done) | (go_simp; (simp [↓IntWalk.iteOmega]; done)) | (go_simp; intros; omega) | (go_simp; simp [↓IntWalk.iteOmega]; intros; omega))) (by (first | (go_simp; done) | (go_simp; (simp [↓IntWalk.iteOmega]; done)) | (go_simp; intros; omega) | (go_simp; simp [↓IntWalk.iteOmega]; intros; omega))) (by rw [U_zero]; (first | (go_simp; done) | (go_simp; (simp [↓IntWalk.iteOmega]; done)) | (go_simp; intros; omega) | (go_simp; simp [↓IntWalk.iteOmega]; intros; omega))) (by (first | (go_simp; done) | (go_simp; (simp [↓IntWalk.iteOmega]; done)) | (go_simp; intros; omega) | (go_simp; simp [↓IntWalk.iteOmega]; intros; omega)))).mono ?_
  case hp0 => first | omega | (simp only [World.size_alloc, World.size_setCell]; omega)
  case hq0 => first | omega | (simp only [World.size_alloc, World.size_setCell]; omega)
  rintro e w' ⟨rfl, v0, hb0, rfl⟩
  obtain ⟨hc0, hf0, hs0⟩ := below_ifs hb0
  simp only [World.size_alloc, World.size_setCell, World.size_drew, size_drewN_] at hc0 hf0 hs0
  go_wp2_with fail
  refine (fix1_any (w.heap.size + 1) (w.heap.size + 2) 12 3 f (putF (0#64) 0 7 cd) (putF (0#64) 0 7 ones64) _ ?hp1 ?hq1 (by omega) (by (first | (go_simp; done) | (go_simp; (simp [↓IntWalk.iteOmega]; done)) | (go_simp; intros; omega) | (go_simp; simp [↓IntWalk.iteOmega]; intros; omega))) (by (first | (go_simp; done) | (go_simp; (simp [↓IntWalk.iteOmega]; done)) | (go_simp; intros; omega) | (go_simp; simp [↓IntWalk.iteOmega]; intros; omega))) (by (first | (go_simp; done) | (go_simp; (simp [↓IntWalk.iteOmega]; done)) | (go_simp; intros; omega) | (go_simp; simp [↓IntWalk.iteOmega]; intros; omega))) (by (first | (go_simp; done) | (go_simp; (simp [↓IntWalk.iteOmega]; done)) | (go_simp; intros; omega) | (go_simp; simp [↓IntWalk.iteOmega]; intros; omega)))).mono ?_
  case hp1 => first | omega | (simp only [World.size_alloc, World.size_setCell]; omega)
  case hq1 => first | omega | (simp only [World.size_alloc, World.size_setCell]; omega)
  rintro e w' ⟨rfl, v1, hb1, rfl⟩
  obtain ⟨hc1, hf1, hs1⟩ := below_ifs hb1
  simp only [World.size_alloc, World.size_setCell, World.size_drew, size_drewN_] at hc1 hf1 hs1
  go_wp2_with fail
  refine (fix1_any (w.heap.size + 1) (w.heap.size + 2) 20 5 ot (putF (putF (0#64) 0 7 cd) 12 3 f) (putF (putF (0#64) 0 7 ones64) 12 3 ones64) _ ?hp2 ?hq2 (by omega) (by (first | (go_simp; done) | (go_simp; (simp [↓IntWalk.iteOmega]; done)) | (go_simp; intros; omega) | (go_simp; simp [↓IntWalk.iteOmega]; intros; omega))) (by (first | (go_simp; done) | (go_simp; (simp [↓IntWalk.iteOmega]; done)) | (go_simp; intros; omega) | (go_simp; simp [↓IntWalk.iteOmega]; intros; omega))) (by (first | (go_simp; done) | (go_simp; (simp [↓IntWalk.iteOmega]; done)) | (go_simp; intros; omega) | (go_simp; simp [↓IntWalk.iteOmega]; intros; omega))) (by (first | (go_simp; done) | (go_simp; (simp [↓IntWalk.iteOmega]; done)) | (go_simp; intros; omega) | (go_simp; simp [↓IntWalk.iteOmega]; intros; omega)))).mono ?_
  case hp2 => first | omega | (simp only [World.size_alloc, World.size_setCell]; omega)
  case hq2 => first | omega | (simp only [World.size_alloc, World.size_setCell]; omega)
  rintro e w' ⟨rfl, v2, hb2, rfl⟩
  obtain ⟨hc2, hf2, hs2⟩ := below_ifs hb2
  simp only [World.size_alloc, World.size_setCell, World.size_drew, size_drewN_] at hc2 hf2 hs2
  go_wp2_with fail
  refine (fix1_any (w.heap.size + 1) (w.heap.size + 2) 25 7 127#64 (putF (putF (putF (0#64) 0 7 cd) 12 3 f) 20 5 ot) (putF (putF (putF (0#64) 0 7 ones64) 12 3 ones64) 20 5 ones64) _ ?hp3 ?hq3 (by omega) (by (first | (go_simp; done) | (go_simp; (simp [↓IntWalk.iteOmega]; done)) | (go_simp; intros; omega) | (go_simp; simp [↓IntWalk.iteOmega]; intros; omega))) (by (first | (go_simp; done) | (go_simp; (simp [↓IntWalk.iteOmega]; done)) | (go_simp; intros; omega) | (go_simp; simp [↓IntWalk.iteOmega]; intros; omega))) (by (first | (go_simp; done) | (go_simp; (simp [↓IntWalk.iteOmega]; done)) | (go_simp; intros; omega) | (go_simp; simp [↓IntWalk.iteOmega]; intros; omega))) (by (first | (go_simp; done) | (go_simp; (simp [↓IntWalk.iteOmega]; done)) | (go_simp; intros; omega) | (go_simp; simp [↓IntWalk.iteOmega]; intros; omega)))).mono ?_
  case hp3 => first | omega | (simp only [World.size_alloc, World.size_setCell]; omega)
  case hq3 => first | omega | (simp only [World.size_alloc, World.size_setCell]; omega)
  rintro e w' ⟨rfl, v3, hb3, rfl⟩
  obtain ⟨hc3, hf3, hs3⟩ := below_ifs hb3
  simp only [World.size_alloc, World.size_setCell, World.size_drew, size_drewN_] at hc3 hf3 hs3
  go_wp2_with fail
  go_region
  go_wp2_with fail
  refine bodyPost_ret (results_uu (.int .u64 (U (putF (putF (putF (putF (0#64) 0 7 cd) 12 3 f) 20 5 ot) 25 7 127#64))) (.int .u64 (U (putF (putF (putF (putF (0#64) 0 7 ones64) 12 3 ones64) 20 5 ones64) 25 7 ones64))) Try.results18 rfl rfl ?_ ?_ Try.underlying41 (by kernel_rfl)) rfl ⟨rfl, by (repeat (first | with_reducible exact Below.refl _ _ | with_reducible assumption | with_reducible refine below_drewN ?_ _ | with_reducible refine Below.drew ?_ | with_reducible refine below_alloc ?_ _ | (with_reducible refine Below.setCell ?_ (by first | (simp; done) | omega | (simp; omega)) _) | with_reducible refine belows ?_ (by assumption)))⟩
  · (first | (go_simp; done) | (go_simp; (simp [↓IntWalk.iteOmega]; done)) | (go_simp; intros; omega) | (go_simp; simp [↓IntWalk.iteOmega]; intros; omega))
  · (first | (go_simp; done) | (go_simp; (simp [↓IntWalk.iteOmega]; done)) | (go_simp; intros; omega) | (go_simp; simp [↓IntWalk.iteOmega]; intros; omega))
set_option maxHeartbeats 4000000 in
set_option maxRecDepth 100000 in
theorem fixed_78 (nm : ByteArray) (cd f ot : BitVec 64) (w : World) : Calls Try.prog 18 #[.agg #[.string nm, .int .u8 78, .int .u64 (U cd), .int .u64 (U f), .int .u64 (U ot)]] w fun r w' => r = .returned (.tuple #[.int .u64 (U (fixW ⟨nm, 78, cd, f, ot⟩)), .int .u64 (U (fixM ⟨nm, 78, cd, f, ot⟩))]) ∧ Below w.heap.size w w' := by
  go_enter Try.func18, Try.ntmps18
  go_wp2_with fail
  refine (fix1_any (w.heap.size + 1) (w.heap.size + 2) 0 7 cd (0#64) (0#64) _ ?hp0 ?hq0 (by omega) (by rw [U_zero]; (first | (go_simp; done) | (go_simp; (simp [↓IntWalk.iteOmega]; done)) | (go_simp; intros; omega) | (go_simp; simp [↓IntWalk.iteOmega]; intros; omega))) (by (first | (go_simp; done) | (go_simp; (simp [↓IntWalk.iteOmega]; done)) | (go_simp; intros; omega) | (go_simp; simp [↓IntWalk.iteOmega]; intros; omega))) (by rw [U_zero]; (first | (go_simp; done) | (go_simp; (simp [↓IntWalk.iteOmega]; done)) | (go_simp; intros; omega) | (go_simp; simp [↓IntWalk.iteOmega]; intros; omega))) (by (first | (go_simp; done) | (go_simp; (simp [↓IntWalk.iteOmega]; done)) | (go_simp; intros; omega) | (go_simp; simp [↓IntWalk.iteOmega]; intros; omega)))).mono ?_
  case hp0 => first | omega | (simp only [World.size_alloc, World.size_setCell]; omega)
  case hq0 => first | omega | (simp only [World.size_alloc, World.size_setCell]; omega)
  rintro e w' ⟨rfl, v0, hb0, rfl⟩
  obtain ⟨hc0, hf0, hs0⟩ := below_ifs hb0
  simp only [World.size_alloc, World.size_setCell, World.size_drew, size_drewN_] at hc0 hf0 hs0
  go_wp2_with fail
  refine (fix1_any (w.heap.size + 1) (w.heap.size + 2) 7 13 0#64 (putF (0#64) 0 7 cd) (putF (0#64) 0 7 ones64) _ ?hp1 ?hq1 (by omega) (by (first | (go_simp; done) | (go_simp; (simp [↓IntWalk.iteOmega]; done)) | (go_simp; intros; omega) | (go_simp; simp [↓IntWalk.iteOmega]; intros; omega))) (by (first | (go_simp; done) | (go_simp; (simp [↓IntWalk.iteOmega]; done)) | (go_simp; intros; omega) | (go_simp; simp [↓IntWalk.iteOmega]; intros; omega))) (by (first | (go_simp; done) | (go_simp; (simp [↓IntWalk.iteOmega]; done)) | (go_simp; intros; omega) | (go_simp; simp [↓IntWalk.iteOmega]; intros; omega))) (by (first | (go_simp; done) | (go_simp; (simp [↓IntWalk.iteOmega]; done)) | (go_simp; intros; omega) | (go_simp; simp [↓IntWalk.iteOmega]; intros; omega)))).mono ?_
  case hp1 => first | omega | (simp only [World.size_alloc, World.size_setCell]; omega)
  case hq1 => first | omega | (simp only [World.size_alloc, World.size_setCell]; omega)
  rintro e w' ⟨rfl, v1, hb1, rfl⟩
  obtain ⟨hc1, hf1, hs1⟩ := below_ifs hb1
  simp only [World.size_alloc, World.size_setCell, World.size_drew, size_drewN_] at hc1 hf1 hs1
  go_wp2_with fail
  refine (fix1_any (w.heap.size + 1) (w.heap.size + 2) 20 12 ot (putF (putF (0#64) 0 7 cd) 7 13 0#64) (putF (putF (0#64) 0 7 ones64) 7 13 ones64) _ ?hp2 ?hq2 (by omega) (by (first | (go_simp; done) | (go_simp; (simp [↓IntWalk.iteOmega]; done)) | (go_simp; intros; omega) | (go_simp; simp [↓IntWalk.iteOmega]; intros; omega))) (by (first | (go_simp; done) | (go_simp; (simp [↓IntWalk.iteOmega]; done)) | (go_simp; intros; omega) | (go_simp; simp [↓IntWalk.iteOmega]; intros; omega))) (by (first | (go_simp; done) | (go_simp; (simp [↓IntWalk.iteOmega]; done)) | (go_simp; intros; omega) | (go_simp; simp [↓IntWalk.iteOmega]; intros; omega))) (by (first | (go_simp; done) | (go_simp; (simp [↓IntWalk.iteOmega]; done)) | (go_simp; intros; omega) | (go_simp; simp [↓IntWalk.iteOmega]; intros; omega)))).mono ?_
  case hp2 => first | omega | (simp only [World.size_alloc, World.size_setCell]; omega)
  case hq2 => first | omega | (simp only [World.size_alloc, World.size_setCell]; omega)
  rintro e w' ⟨rfl, v2, hb2, rfl⟩
  obtain ⟨hc2, hf2, hs2⟩ := below_ifs hb2
  simp only [World.size_alloc, World.size_setCell, World.size_drew, size_drewN_] at hc2 hf2 hs2
  go_wp2_with fail
  go_region
  go_wp2_with fail
  refine bodyPost_ret (results_uu (.int .u64 (U (putF (putF (putF (0#64) 0 7 cd) 7 13 0#64) 20 12 ot))) (.int .u64 (U (putF (putF (putF (0#64) 0 7 ones64) 7 13 ones64) 20 12 ones64))) Try.results18 rfl rfl ?_ ?_ Try.underlying41 (by kernel_rfl)) rfl ⟨rfl, by (repeat (first | with_reducible exact Below.refl _ _ | with_reducible assumption | with_reducible refine below_drewN ?_ _ | with_reducible refine Below.drew ?_ | with_reducible refine below_alloc ?_ _ | (with_reducible refine Below.setCell ?_ (by first | (simp; done) | omega | (simp; omega)) _) | with_reducible refine belows ?_ (by assumption)))⟩
  · (first | (go_simp; done) | (go_simp; (simp [↓IntWalk.iteOmega]; done)) | (go_simp; intros; omega) | (go_simp; simp [↓IntWalk.iteOmega]; intros; omega))
  · (first | (go_simp; done) | (go_simp; (simp [↓IntWalk.iteOmega]; done)) | (go_simp; intros; omega) | (go_simp; simp [↓IntWalk.iteOmega]; intros; omega))
set_option maxHeartbeats 4000000 in
set_option maxRecDepth 100000 in
theorem fixed_73 (nm : ByteArray) (cd f ot : BitVec 64) (w : World) : Calls Try.prog 18 #[.agg #[.string nm, .int .u8 73, .int .u64 (U cd), .int .u64 (U f), .int .u64 (U ot)]] w fun r w' => r = .returned (.tuple #[.int .u64 (U (fixW ⟨nm, 73, cd, f, ot⟩)), .int .u64 (U (fixM ⟨nm, 73, cd, f, ot⟩))]) ∧ Below w.heap.size w w' := by
  go_enter Try.func18, Try.ntmps18
  go_wp2_with fail
  refine (fix1_any (w.heap.size + 1) (w.heap.size + 2) 0 7 cd (0#64) (0#64) _ ?hp0 ?hq0 (by omega) (by rw [U_zero]; (first | (go_simp; done) | (go_simp; (simp [↓IntWalk.iteOmega]; done)) | (go_simp; intros; omega) | (go_simp; simp [↓IntWalk.iteOmega]; intros; omega))) (by (first | (go_simp; done) | (go_simp; (simp [↓IntWalk.iteOmega]; done)) | (go_simp; intros; omega) | (go_simp; simp [↓IntWalk.iteOmega]; intros; omega))) (by rw [U_zero]; (first | (go_simp; done) | (go_simp; (simp [↓IntWalk.iteOmega]; done)) | (go_simp; intros; omega) | (go_simp; simp [↓IntWalk.iteOmega]; intros; omega))) (by (first | (go_simp; done) | (go_simp; (simp [↓IntWalk.iteOmega]; done)) | (go_simp; intros; omega) | (go_simp; simp [↓IntWalk.iteOmega]; intros; omega)))).mono ?_
  case hp0 => first | omega | (simp only [World.size_alloc, World.size_setCell]; omega)
  case hq0 => first | omega | (simp only [World.size_alloc, World.size_setCell]; omega)
  rintro e w' ⟨rfl, v0, hb0, rfl⟩
  obtain ⟨hc0, hf0, hs0⟩ := below_ifs hb0
  simp only [World.size_alloc, World.size_setCell, World.size_drew, size_drewN_] at hc0 hf0 hs0
  go_wp2_with fail
  refine (fix1_any (w.heap.size + 1) (w.heap.size + 2) 12 3 f (putF (0#64) 0 7 cd) (putF (0#64) 0 7 ones64) _ ?hp1 ?hq1 (by omega) (by (first | (go_simp; done) | (go_simp; (simp [↓IntWalk.iteOmega]; done)) | (go_simp; intros; omega) | (go_simp; simp [↓IntWalk.iteOmega]; intros; omega))) (by (first | (go_simp; done) | (go_simp; (simp [↓IntWalk.iteOmega]; done)) | (go_simp; intros; omega) | (go_simp; simp [↓IntWalk.iteOmega]; intros; omega))) (by (first | (go_simp; done) | (go_simp; (simp [↓IntWalk.iteOmega]; done)) | (go_simp; intros; omega) | (go_simp; simp [↓IntWalk.iteOmega]; intros; omega))) (by (first | (go_simp; done) | (go_simp; (simp [↓IntWalk.iteOmega]; done)) | (go_simp; intros; omega) | (go_simp; simp [↓IntWalk.iteOmega]; intros; omega)))).mono ?_
  case hp1 => first | omega | (simp only [World.size_alloc, World.size_setCell]; omega)
  case hq1 => first | omega | (simp only [World.size_alloc, World.size_setCell]; omega)
  rintro e w' ⟨rfl, v1, hb1, rfl⟩
  obtain ⟨hc1, hf1, hs1⟩ := below_ifs hb1
  simp only [World.size_alloc, World.size_setCell, World.size_drew, size_drewN_] at hc1 hf1 hs1
  go_wp2_with fail
  go_region
  go_wp2_with fail
  refine bodyPost_ret (results_uu (.int .u64 (U (putF (putF (0#64) 0 7 cd) 12 3 f))) (.int .u64 (U (putF (putF (0#64) 0 7 ones64) 12 3 ones64))) Try.results18 rfl rfl ?_ ?_ Try.underlying41 (by kernel_rfl)) rfl ⟨rfl, by (repeat (first | with_reducible exact Below.refl _ _ | with_reducible assumption | with_reducible refine below_drewN ?_ _ | with_reducible refine Below.drew ?_ | with_reducible refine below_alloc ?_ _ | (with_reducible refine Below.setCell ?_ (by first | (simp; done) | omega | (simp; omega)) _) | with_reducible refine belows ?_ (by assumption)))⟩
  · (first | (go_simp; done) | (go_simp; (simp [↓IntWalk.iteOmega]; done)) | (go_simp; intros; omega) | (go_simp; simp [↓IntWalk.iteOmega]; intros; omega))
  · (first | (go_simp; done) | (go_simp; (simp [↓IntWalk.iteOmega]; done)) | (go_simp; intros; omega) | (go_simp; simp [↓IntWalk.iteOmega]; intros; omega))
set_option maxHeartbeats 4000000 in
set_option maxRecDepth 100000 in
theorem fixed_67 (nm : ByteArray) (cd f ot : BitVec 64) (w : World) : Calls Try.prog 18 #[.agg #[.string nm, .int .u8 67, .int .u64 (U cd), .int .u64 (U f), .int .u64 (U ot)]] w fun r w' => r = .returned (.tuple #[.int .u64 (U (fixW ⟨nm, 67, cd, f, ot⟩)), .int .u64 (U (fixM ⟨nm, 67, cd, f, ot⟩))]) ∧ Below w.heap.size w w' := by
  go_enter Try.func18, Try.ntmps18
  go_wp2_with fail
  refine (fix1_any (w.heap.size + 1) (w.heap.size + 2) 0 7 cd (0#64) (0#64) _ ?hp0 ?hq0 (by omega) (by rw [U_zero]; (first | (go_simp; done) | (go_simp; (simp [↓IntWalk.iteOmega]; done)) | (go_simp; intros; omega) | (go_simp; simp [↓IntWalk.iteOmega]; intros; omega))) (by (first | (go_simp; done) | (go_simp; (simp [↓IntWalk.iteOmega]; done)) | (go_simp; intros; omega) | (go_simp; simp [↓IntWalk.iteOmega]; intros; omega))) (by rw [U_zero]; (first | (go_simp; done) | (go_simp; (simp [↓IntWalk.iteOmega]; done)) | (go_simp; intros; omega) | (go_simp; simp [↓IntWalk.iteOmega]; intros; omega))) (by (first | (go_simp; done) | (go_simp; (simp [↓IntWalk.iteOmega]; done)) | (go_simp; intros; omega) | (go_simp; simp [↓IntWalk.iteOmega]; intros; omega)))).mono ?_
  case hp0 => first | omega | (simp only [World.size_alloc, World.size_setCell]; omega)
  case hq0 => first | omega | (simp only [World.size_alloc, World.size_setCell]; omega)
  rintro e w' ⟨rfl, v0, hb0, rfl⟩
  obtain ⟨hc0, hf0, hs0⟩ := below_ifs hb0
  simp only [World.size_alloc, World.size_setCell, World.size_drew, size_drewN_] at hc0 hf0 hs0
  go_wp2_with fail
  refine (fix1_any (w.heap.size + 1) (w.heap.size + 2) 12 3 f (putF (0#64) 0 7 cd) (putF (0#64) 0 7 ones64) _ ?hp1 ?hq1 (by omega) (by (first | (go_simp; done) | (go_simp; (simp [↓IntWalk.iteOmega]; done)) | (go_simp; intros; omega) | (go_simp; simp [↓IntWalk.iteOmega]; intros; omega))) (by (first | (go_simp; done) | (go_simp; (simp [↓IntWalk.iteOmega]; done)) | (go_simp; intros; omega) | (go_simp; simp [↓IntWalk.iteOmega]; intros; omega))) (by (first | (go_simp; done) | (go_simp; (simp [↓IntWalk.iteOmega]; done)) | (go_simp; intros; omega) | (go_simp; simp [↓IntWalk.iteOmega]; intros; omega))) (by (first | (go_simp; done) | (go_simp; (simp [↓IntWalk.iteOmega]; done)) | (go_simp; intros; omega) | (go_simp; simp [↓IntWalk.iteOmega]; intros; omega)))).mono ?_
  case hp1 => first | omega | (simp only [World.size_alloc, World.size_setCell]; omega)
  case hq1 => first | omega | (simp only [World.size_alloc, World.size_setCell]; omega)
  rintro e w' ⟨rfl, v1, hb1, rfl⟩
  obtain ⟨hc1, hf1, hs1⟩ := below_ifs hb1
  simp only [World.size_alloc, World.size_setCell, World.size_drew, size_drewN_] at hc1 hf1 hs1
  go_wp2_with fail
  go_region
  go_wp2_with fail
  refine bodyPost_ret (results_uu (.int .u64 (U (putF (putF (0#64) 0 7 cd) 12 3 f))) (.int .u64 (U (putF (putF (0#64) 0 7 ones64) 12 3 ones64))) Try.results18 rfl rfl ?_ ?_ Try.underlying41 (by kernel_rfl)) rfl ⟨rfl, by (repeat (first | with_reducible exact Below.refl _ _ | with_reducible assumption | with_reducible refine below_drewN ?_ _ | with_reducible refine Below.drew ?_ | with_reducible refine below_alloc ?_ _ | (with_reducible refine Below.setCell ?_ (by first | (simp; done) | omega | (simp; omega)) _) | with_reducible refine belows ?_ (by assumption)))⟩
  · (first | (go_simp; done) | (go_simp; (simp [↓IntWalk.iteOmega]; done)) | (go_simp; intros; omega) | (go_simp; simp [↓IntWalk.iteOmega]; intros; omega))
  · (first | (go_simp; done) | (go_simp; (simp [↓IntWalk.iteOmega]; done)) | (go_simp; intros; omega) | (go_simp; simp [↓IntWalk.iteOmega]; intros; omega))
set_option maxHeartbeats 4000000 in
set_option maxRecDepth 100000 in
theorem fixed_72 (nm : ByteArray) (cd f ot : BitVec 64) (w : World) : Calls Try.prog 18 #[.agg #[.string nm, .int .u8 72, .int .u64 (U cd), .int .u64 (U f), .int .u64 (U ot)]] w fun r w' => r = .returned (.tuple #[.int .u64 (U (fixW ⟨nm, 72, cd, f, ot⟩)), .int .u64 (U (fixM ⟨nm, 72, cd, f, ot⟩))]) ∧ Below w.heap.size w w' := by
  go_enter Try.func18, Try.ntmps18
  go_wp2_with fail
  refine (fix1_any (w.heap.size + 1) (w.heap.size + 2) 0 7 cd (0#64) (0#64) _ ?hp0 ?hq0 (by omega) (by rw [U_zero]; (first | (go_simp; done) | (go_simp; (simp [↓IntWalk.iteOmega]; done)) | (go_simp; intros; omega) | (go_simp; simp [↓IntWalk.iteOmega]; intros; omega))) (by (first | (go_simp; done) | (go_simp; (simp [↓IntWalk.iteOmega]; done)) | (go_simp; intros; omega) | (go_simp; simp [↓IntWalk.iteOmega]; intros; omega))) (by rw [U_zero]; (first | (go_simp; done) | (go_simp; (simp [↓IntWalk.iteOmega]; done)) | (go_simp; intros; omega) | (go_simp; simp [↓IntWalk.iteOmega]; intros; omega))) (by (first | (go_simp; done) | (go_simp; (simp [↓IntWalk.iteOmega]; done)) | (go_simp; intros; omega) | (go_simp; simp [↓IntWalk.iteOmega]; intros; omega)))).mono ?_
  case hp0 => first | omega | (simp only [World.size_alloc, World.size_setCell]; omega)
  case hq0 => first | omega | (simp only [World.size_alloc, World.size_setCell]; omega)
  rintro e w' ⟨rfl, v0, hb0, rfl⟩
  obtain ⟨hc0, hf0, hs0⟩ := below_ifs hb0
  simp only [World.size_alloc, World.size_setCell, World.size_drew, size_drewN_] at hc0 hf0 hs0
  go_wp2_with fail
  refine (fix1_any (w.heap.size + 1) (w.heap.size + 2) 12 3 f (putF (0#64) 0 7 cd) (putF (0#64) 0 7 ones64) _ ?hp1 ?hq1 (by omega) (by (first | (go_simp; done) | (go_simp; (simp [↓IntWalk.iteOmega]; done)) | (go_simp; intros; omega) | (go_simp; simp [↓IntWalk.iteOmega]; intros; omega))) (by (first | (go_simp; done) | (go_simp; (simp [↓IntWalk.iteOmega]; done)) | (go_simp; intros; omega) | (go_simp; simp [↓IntWalk.iteOmega]; intros; omega))) (by (first | (go_simp; done) | (go_simp; (simp [↓IntWalk.iteOmega]; done)) | (go_simp; intros; omega) | (go_simp; simp [↓IntWalk.iteOmega]; intros; omega))) (by (first | (go_simp; done) | (go_simp; (simp [↓IntWalk.iteOmega]; done)) | (go_simp; intros; omega) | (go_simp; simp [↓IntWalk.iteOmega]; intros; omega)))).mono ?_
  case hp1 => first | omega | (simp only [World.size_alloc, World.size_setCell]; omega)
  case hq1 => first | omega | (simp only [World.size_alloc, World.size_setCell]; omega)
  rintro e w' ⟨rfl, v1, hb1, rfl⟩
  obtain ⟨hc1, hf1, hs1⟩ := below_ifs hb1
  simp only [World.size_alloc, World.size_setCell, World.size_drew, size_drewN_] at hc1 hf1 hs1
  go_wp2_with fail
  refine (fix1_any (w.heap.size + 1) (w.heap.size + 2) 26 6 ot (putF (putF (0#64) 0 7 cd) 12 3 f) (putF (putF (0#64) 0 7 ones64) 12 3 ones64) _ ?hp2 ?hq2 (by omega) (by (first | (go_simp; done) | (go_simp; (simp [↓IntWalk.iteOmega]; done)) | (go_simp; intros; omega) | (go_simp; simp [↓IntWalk.iteOmega]; intros; omega))) (by (first | (go_simp; done) | (go_simp; (simp [↓IntWalk.iteOmega]; done)) | (go_simp; intros; omega) | (go_simp; simp [↓IntWalk.iteOmega]; intros; omega))) (by (first | (go_simp; done) | (go_simp; (simp [↓IntWalk.iteOmega]; done)) | (go_simp; intros; omega) | (go_simp; simp [↓IntWalk.iteOmega]; intros; omega))) (by (first | (go_simp; done) | (go_simp; (simp [↓IntWalk.iteOmega]; done)) | (go_simp; intros; omega) | (go_simp; simp [↓IntWalk.iteOmega]; intros; omega)))).mono ?_
  case hp2 => first | omega | (simp only [World.size_alloc, World.size_setCell]; omega)
  case hq2 => first | omega | (simp only [World.size_alloc, World.size_setCell]; omega)
  rintro e w' ⟨rfl, v2, hb2, rfl⟩
  obtain ⟨hc2, hf2, hs2⟩ := below_ifs hb2
  simp only [World.size_alloc, World.size_setCell, World.size_drew, size_drewN_] at hc2 hf2 hs2
  go_wp2_with fail
  go_region
  go_wp2_with fail
  refine bodyPost_ret (results_uu (.int .u64 (U (putF (putF (putF (0#64) 0 7 cd) 12 3 f) 26 6 ot))) (.int .u64 (U (putF (putF (putF (0#64) 0 7 ones64) 12 3 ones64) 26 6 ones64))) Try.results18 rfl rfl ?_ ?_ Try.underlying41 (by kernel_rfl)) rfl ⟨rfl, by (repeat (first | with_reducible exact Below.refl _ _ | with_reducible assumption | with_reducible refine below_drewN ?_ _ | with_reducible refine Below.drew ?_ | with_reducible refine below_alloc ?_ _ | (with_reducible refine Below.setCell ?_ (by first | (simp; done) | omega | (simp; omega)) _) | with_reducible refine belows ?_ (by assumption)))⟩
  · (first | (go_simp; done) | (go_simp; (simp [↓IntWalk.iteOmega]; done)) | (go_simp; intros; omega) | (go_simp; simp [↓IntWalk.iteOmega]; intros; omega))
  · (first | (go_simp; done) | (go_simp; (simp [↓IntWalk.iteOmega]; done)) | (go_simp; intros; omega) | (go_simp; simp [↓IntWalk.iteOmega]; intros; omega))
set_option maxHeartbeats 4000000 in
set_option maxRecDepth 100000 in
theorem fixed_83 (nm : ByteArray) (cd f ot : BitVec 64) (w : World) : Calls Try.prog 18 #[.agg #[.string nm, .int .u8 83, .int .u64 (U cd), .int .u64 (U f), .int .u64 (U ot)]] w fun r w' => r = .returned (.tuple #[.int .u64 (U (fixW ⟨nm, 83, cd, f, ot⟩)), .int .u64 (U (fixM ⟨nm, 83, cd, f, ot⟩))]) ∧ Below w.heap.size w w' := by
  go_enter Try.func18, Try.ntmps18
  go_wp2_with fail
  refine (fix1_any (w.heap.size + 1) (w.heap.size + 2) 0 7 cd (0#64) (0#64) _ ?hp0 ?hq0 (by omega) (by rw [U_zero]; (first | (go_simp; done) | (go_simp; (simp [↓IntWalk.iteOmega]; done)) | (go_simp; intros; omega) | (go_simp; simp [↓IntWalk.iteOmega]; intros; omega))) (by (first | (go_simp; done) | (go_simp; (simp [↓IntWalk.iteOmega]; done)) | (go_simp; intros; omega) | (go_simp; simp [↓IntWalk.iteOmega]; intros; omega))) (by rw [U_zero]; (first | (go_simp; done) | (go_simp; (simp [↓IntWalk.iteOmega]; done)) | (go_simp; intros; omega) | (go_simp; simp [↓IntWalk.iteOmega]; intros; omega))) (by (first | (go_simp; done) | (go_simp; (simp [↓IntWalk.iteOmega]; done)) | (go_simp; intros; omega) | (go_simp; simp [↓IntWalk.iteOmega]; intros; omega)))).mono ?_
  case hp0 => first | omega | (simp only [World.size_alloc, World.size_setCell]; omega)
  case hq0 => first | omega | (simp only [World.size_alloc, World.size_setCell]; omega)
  rintro e w' ⟨rfl, v0, hb0, rfl⟩
  obtain ⟨hc0, hf0, hs0⟩ := below_ifs hb0
  simp only [World.size_alloc, World.size_setCell, World.size_drew, size_drewN_] at hc0 hf0 hs0
  go_wp2_with fail
  refine (fix1_any (w.heap.size + 1) (w.heap.size + 2) 12 3 f (putF (0#64) 0 7 cd) (putF (0#64) 0 7 ones64) _ ?hp1 ?hq1 (by omega) (by (first | (go_simp; done) | (go_simp; (simp [↓IntWalk.iteOmega]; done)) | (go_simp; intros; omega) | (go_simp; simp [↓IntWalk.iteOmega]; intros; omega))) (by (first | (go_simp; done) | (go_simp; (simp [↓IntWalk.iteOmega]; done)) | (go_simp; intros; omega) | (go_simp; simp [↓IntWalk.iteOmega]; intros; omega))) (by (first | (go_simp; done) | (go_simp; (simp [↓IntWalk.iteOmega]; done)) | (go_simp; intros; omega) | (go_simp; simp [↓IntWalk.iteOmega]; intros; omega))) (by (first | (go_simp; done) | (go_simp; (simp [↓IntWalk.iteOmega]; done)) | (go_simp; intros; omega) | (go_simp; simp [↓IntWalk.iteOmega]; intros; omega)))).mono ?_
  case hp1 => first | omega | (simp only [World.size_alloc, World.size_setCell]; omega)
  case hq1 => first | omega | (simp only [World.size_alloc, World.size_setCell]; omega)
  rintro e w' ⟨rfl, v1, hb1, rfl⟩
  obtain ⟨hc1, hf1, hs1⟩ := below_ifs hb1
  simp only [World.size_alloc, World.size_setCell, World.size_drew, size_drewN_] at hc1 hf1 hs1
  go_wp2_with fail
  go_region
  go_wp2_with fail
  refine bodyPost_ret (results_uu (.int .u64 (U (putF (putF (0#64) 0 7 cd) 12 3 f))) (.int .u64 (U (putF (putF (0#64) 0 7 ones64) 12 3 ones64))) Try.results18 rfl rfl ?_ ?_ Try.underlying41 (by kernel_rfl)) rfl ⟨rfl, by (repeat (first | with_reducible exact Below.refl _ _ | with_reducible assumption | with_reducible refine below_drewN ?_ _ | with_reducible refine Below.drew ?_ | with_reducible refine below_alloc ?_ _ | (with_reducible refine Below.setCell ?_ (by first | (simp; done) | omega | (simp; omega)) _) | with_reducible refine belows ?_ (by assumption)))⟩
  · (first | (go_simp; done) | (go_simp; (simp [↓IntWalk.iteOmega]; done)) | (go_simp; intros; omega) | (go_simp; simp [↓IntWalk.iteOmega]; intros; omega))
  · (first | (go_simp; done) | (go_simp; (simp [↓IntWalk.iteOmega]; done)) | (go_simp; intros; omega) | (go_simp; simp [↓IntWalk.iteOmega]; intros; omega))
set_option maxHeartbeats 4000000 in
set_option maxRecDepth 100000 in
theorem fixed_66 (nm : ByteArray) (cd f ot : BitVec 64) (w : World) : Calls Try.prog 18 #[.agg #[.string nm, .int .u8 66, .int .u64 (U cd), .int .u64 (U f), .int .u64 (U ot)]] w fun r w' => r = .returned (.tuple #[.int .u64 (U (fixW ⟨nm, 66, cd, f, ot⟩)), .int .u64 (U (fixM ⟨nm, 66, cd, f, ot⟩))]) ∧ Below w.heap.size w w' := by
  go_enter Try.func18, Try.ntmps18
  go_wp2_with fail
  refine (fix1_any (w.heap.size + 1) (w.heap.size + 2) 0 7 cd (0#64) (0#64) _ ?hp0 ?hq0 (by omega) (by rw [U_zero]; (first | (go_simp; done) | (go_simp; (simp [↓IntWalk.iteOmega]; done)) | (go_simp; intros; omega) | (go_simp; simp [↓IntWalk.iteOmega]; intros; omega))) (by (first | (go_simp; done) | (go_simp; (simp [↓IntWalk.iteOmega]; done)) | (go_simp; intros; omega) | (go_simp; simp [↓IntWalk.iteOmega]; intros; omega))) (by rw [U_zero]; (first | (go_simp; done) | (go_simp; (simp [↓IntWalk.iteOmega]; done)) | (go_simp; intros; omega) | (go_simp; simp [↓IntWalk.iteOmega]; intros; omega))) (by (first | (go_simp; done) | (go_simp; (simp [↓IntWalk.iteOmega]; done)) | (go_simp; intros; omega) | (go_simp; simp [↓IntWalk.iteOmega]; intros; omega)))).mono ?_
  case hp0 => first | omega | (simp only [World.size_alloc, World.size_setCell]; omega)
  case hq0 => first | omega | (simp only [World.size_alloc, World.size_setCell]; omega)
  rintro e w' ⟨rfl, v0, hb0, rfl⟩
  obtain ⟨hc0, hf0, hs0⟩ := below_ifs hb0
  simp only [World.size_alloc, World.size_setCell, World.size_drew, size_drewN_] at hc0 hf0 hs0
  go_wp2_with fail
  refine (fix1_any (w.heap.size + 1) (w.heap.size + 2) 12 3 f (putF (0#64) 0 7 cd) (putF (0#64) 0 7 ones64) _ ?hp1 ?hq1 (by omega) (by (first | (go_simp; done) | (go_simp; (simp [↓IntWalk.iteOmega]; done)) | (go_simp; intros; omega) | (go_simp; simp [↓IntWalk.iteOmega]; intros; omega))) (by (first | (go_simp; done) | (go_simp; (simp [↓IntWalk.iteOmega]; done)) | (go_simp; intros; omega) | (go_simp; simp [↓IntWalk.iteOmega]; intros; omega))) (by (first | (go_simp; done) | (go_simp; (simp [↓IntWalk.iteOmega]; done)) | (go_simp; intros; omega) | (go_simp; simp [↓IntWalk.iteOmega]; intros; omega))) (by (first | (go_simp; done) | (go_simp; (simp [↓IntWalk.iteOmega]; done)) | (go_simp; intros; omega) | (go_simp; simp [↓IntWalk.iteOmega]; intros; omega)))).mono ?_
  case hp1 => first | omega | (simp only [World.size_alloc, World.size_setCell]; omega)
  case hq1 => first | omega | (simp only [World.size_alloc, World.size_setCell]; omega)
  rintro e w' ⟨rfl, v1, hb1, rfl⟩
  obtain ⟨hc1, hf1, hs1⟩ := below_ifs hb1
  simp only [World.size_alloc, World.size_setCell, World.size_drew, size_drewN_] at hc1 hf1 hs1
  go_wp2_with fail
  go_region
  go_wp2_with fail
  refine bodyPost_ret (results_uu (.int .u64 (U (putF (putF (0#64) 0 7 cd) 12 3 f))) (.int .u64 (U (putF (putF (0#64) 0 7 ones64) 12 3 ones64))) Try.results18 rfl rfl ?_ ?_ Try.underlying41 (by kernel_rfl)) rfl ⟨rfl, by (repeat (first | with_reducible exact Below.refl _ _ | with_reducible assumption | with_reducible refine below_drewN ?_ _ | with_reducible refine Below.drew ?_ | with_reducible refine below_alloc ?_ _ | (with_reducible refine Below.setCell ?_ (by first | (simp; done) | omega | (simp; omega)) _) | with_reducible refine belows ?_ (by assumption)))⟩
  · (first | (go_simp; done) | (go_simp; (simp [↓IntWalk.iteOmega]; done)) | (go_simp; intros; omega) | (go_simp; simp [↓IntWalk.iteOmega]; intros; omega))
  · (first | (go_simp; done) | (go_simp; (simp [↓IntWalk.iteOmega]; done)) | (go_simp; intros; omega) | (go_simp; simp [↓IntWalk.iteOmega]; intros; omega))
set_option maxHeartbeats 4000000 in
set_option maxRecDepth 100000 in
theorem fixed_85 (nm : ByteArray) (cd f ot : BitVec 64) (w : World) : Calls Try.prog 18 #[.agg #[.string nm, .int .u8 85, .int .u64 (U cd), .int .u64 (U f), .int .u64 (U ot)]] w fun r w' => r = .returned (.tuple #[.int .u64 (U (fixW ⟨nm, 85, cd, f, ot⟩)), .int .u64 (U (fixM ⟨nm, 85, cd, f, ot⟩))]) ∧ Below w.heap.size w w' := by
  go_enter Try.func18, Try.ntmps18
  go_wp2_with fail
  refine (fix1_any (w.heap.size + 1) (w.heap.size + 2) 0 7 cd (0#64) (0#64) _ ?hp0 ?hq0 (by omega) (by rw [U_zero]; (first | (go_simp; done) | (go_simp; (simp [↓IntWalk.iteOmega]; done)) | (go_simp; intros; omega) | (go_simp; simp [↓IntWalk.iteOmega]; intros; omega))) (by (first | (go_simp; done) | (go_simp; (simp [↓IntWalk.iteOmega]; done)) | (go_simp; intros; omega) | (go_simp; simp [↓IntWalk.iteOmega]; intros; omega))) (by rw [U_zero]; (first | (go_simp; done) | (go_simp; (simp [↓IntWalk.iteOmega]; done)) | (go_simp; intros; omega) | (go_simp; simp [↓IntWalk.iteOmega]; intros; omega))) (by (first | (go_simp; done) | (go_simp; (simp [↓IntWalk.iteOmega]; done)) | (go_simp; intros; omega) | (go_simp; simp [↓IntWalk.iteOmega]; intros; omega)))).mono ?_
  case hp0 => first | omega | (simp only [World.size_alloc, World.size_setCell]; omega)
  case hq0 => first | omega | (simp only [World.size_alloc, World.size_setCell]; omega)
  rintro e w' ⟨rfl, v0, hb0, rfl⟩
  obtain ⟨hc0, hf0, hs0⟩ := below_ifs hb0
  simp only [World.size_alloc, World.size_setCell, World.size_drew, size_drewN_] at hc0 hf0 hs0
  go_wp2_with fail
  go_region
  go_wp2_with fail
  refine bodyPost_ret (results_uu (.int .u64 (U (putF (0#64) 0 7 cd))) (.int .u64 (U (putF (0#64) 0 7 ones64))) Try.results18 rfl rfl ?_ ?_ Try.underlying41 (by kernel_rfl)) rfl ⟨rfl, by (repeat (first | with_reducible exact Below.refl _ _ | with_reducible assumption | with_reducible refine below_drewN ?_ _ | with_reducible refine Below.drew ?_ | with_reducible refine below_alloc ?_ _ | (with_reducible refine Below.setCell ?_ (by first | (simp; done) | omega | (simp; omega)) _) | with_reducible refine belows ?_ (by assumption)))⟩
  · (first | (go_simp; done) | (go_simp; (simp [↓IntWalk.iteOmega]; done)) | (go_simp; intros; omega) | (go_simp; simp [↓IntWalk.iteOmega]; intros; omega))
  · (first | (go_simp; done) | (go_simp; (simp [↓IntWalk.iteOmega]; done)) | (go_simp; intros; omega) | (go_simp; simp [↓IntWalk.iteOmega]; intros; omega))
set_option maxHeartbeats 4000000 in
set_option maxRecDepth 100000 in
theorem fixed_74 (nm : ByteArray) (cd f ot : BitVec 64) (w : World) : Calls Try.prog 18 #[.agg #[.string nm, .int .u8 74, .int .u64 (U cd), .int .u64 (U f), .int .u64 (U ot)]] w fun r w' => r = .returned (.tuple #[.int .u64 (U (fixW ⟨nm, 74, cd, f, ot⟩)), .int .u64 (U (fixM ⟨nm, 74, cd, f, ot⟩))]) ∧ Below w.heap.size w w' := by
  go_enter Try.func18, Try.ntmps18
  go_wp2_with fail
  refine (fix1_any (w.heap.size + 1) (w.heap.size + 2) 0 7 cd (0#64) (0#64) _ ?hp0 ?hq0 (by omega) (by rw [U_zero]; (first | (go_simp; done) | (go_simp; (simp [↓IntWalk.iteOmega]; done)) | (go_simp; intros; omega) | (go_simp; simp [↓IntWalk.iteOmega]; intros; omega))) (by (first | (go_simp; done) | (go_simp; (simp [↓IntWalk.iteOmega]; done)) | (go_simp; intros; omega) | (go_simp; simp [↓IntWalk.iteOmega]; intros; omega))) (by rw [U_zero]; (first | (go_simp; done) | (go_simp; (simp [↓IntWalk.iteOmega]; done)) | (go_simp; intros; omega) | (go_simp; simp [↓IntWalk.iteOmega]; intros; omega))) (by (first | (go_simp; done) | (go_simp; (simp [↓IntWalk.iteOmega]; done)) | (go_simp; intros; omega) | (go_simp; simp [↓IntWalk.iteOmega]; intros; omega)))).mono ?_
  case hp0 => first | omega | (simp only [World.size_alloc, World.size_setCell]; omega)
  case hq0 => first | omega | (simp only [World.size_alloc, World.size_setCell]; omega)
  rintro e w' ⟨rfl, v0, hb0, rfl⟩
  obtain ⟨hc0, hf0, hs0⟩ := below_ifs hb0
  simp only [World.size_alloc, World.size_setCell, World.size_drew, size_drewN_] at hc0 hf0 hs0
  go_wp2_with fail
  go_region
  go_wp2_with fail
  refine bodyPost_ret (results_uu (.int .u64 (U (putF (0#64) 0 7 cd))) (.int .u64 (U (putF (0#64) 0 7 ones64))) Try.results18 rfl rfl ?_ ?_ Try.underlying41 (by kernel_rfl)) rfl ⟨rfl, by (repeat (first | with_reducible exact Below.refl _ _ | with_reducible assumption | with_reducible refine below_drewN ?_ _ | with_reducible refine Below.drew ?_ | with_reducible refine below_alloc ?_ _ | (with_reducible refine Below.setCell ?_ (by first | (simp; done) | omega | (simp; omega)) _) | with_reducible refine belows ?_ (by assumption)))⟩
  · (first | (go_simp; done) | (go_simp; (simp [↓IntWalk.iteOmega]; done)) | (go_simp; intros; omega) | (go_simp; simp [↓IntWalk.iteOmega]; intros; omega))
  · (first | (go_simp; done) | (go_simp; (simp [↓IntWalk.iteOmega]; done)) | (go_simp; intros; omega) | (go_simp; simp [↓IntWalk.iteOmega]; intros; omega))
theorem fixed_any (r : RowT) (h : r.sh ∈ shapes) (w : World) : Calls Try.prog 18 #[.agg #[.string r.nm, .int .u8 (r.sh : Int), .int .u64 (U r.cd), .int .u64 (U r.f), .int .u64 (U r.ot)]] w fun e w' => e = .returned (.tuple #[.int .u64 (U (fixW r)), .int .u64 (U (fixM r))]) ∧ Below w.heap.size w w' := by
  obtain ⟨nm, sh, cd, f, ot⟩ := r
  simp only [shapes, List.mem_cons, List.not_mem_nil, or_false] at h
  rcases h with rfl | rfl | rfl | rfl | rfl | rfl | rfl | rfl | rfl | rfl
  · exact fixed_82 nm cd f ot w
  · exact fixed_71 nm cd f ot w
  · exact fixed_78 nm cd f ot w
  · exact fixed_73 nm cd f ot w
  · exact fixed_67 nm cd f ot w
  · exact fixed_72 nm cd f ot w
  · exact fixed_83 nm cd f ot w
  · exact fixed_66 nm cd f ot w
  · exact fixed_85 nm cd f ot w
  · exact fixed_74 nm cd f ot w
end Go.Proofs.Ytokfokgbbpjgdaa
