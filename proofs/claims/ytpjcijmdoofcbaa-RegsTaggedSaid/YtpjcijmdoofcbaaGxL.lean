
/-
  RegsTagged: its closures.
-/
import Derived.Test.YtpjcijmdoofcbaaGxK
namespace Go.Proofs.Ytpjcijmdoofcbaa
open Go Go.RowKit
set_option linter.unusedVariables false
set_option linter.unusedSimpArgs false

attribute [local irreducible] zeroL cellsC oneL
set_option maxHeartbeats 4000000 in
set_option maxRecDepth 100000 in
theorem tg2_any (p : Int) (c : Cp) (x y : Int) (fb mb : Nat) (w : World) (h0 : Boxed w fb 3 (.int .i64 x)) (h1 : Boxed w mb 3 (.int .i64 y)) (hx0 : 0 ≤ x) (hx : x ≤ 40) (hne : fb ≠ mb) :
    Calls Try.prog 9 #[.int .i64 p, .agg #[.bool c.g, .int .u64 (U c.m), .int .u64 (U c.a)], .pointer (some ⟨fb, 0, none⟩), .pointer (some ⟨mb, 0, none⟩)] w fun e w' => e = .returned (.bool (decide (x + 1 ≤ y % 32))) ∧ w' = (w.setCell ⟨fb, 0, none⟩ (.int .i64 (x + 1))).alloc (.cells #[.bool c.g, .int .u64 (U c.m), .int .u64 (U c.a)] 24) := by
  have c0 := h0.cell
  have f0 := h0.frozen
  have l0 := h0.lt
  have c1 := h1.cell
  have l1 := h1.lt
  go_enter Try.func9, Try.ntmps9
  go_wp2_with fail
  go_ret
  exact ⟨rfl, rfl⟩
set_option maxHeartbeats 4000000 in
set_option maxRecDepth 100000 in
theorem tg4_any (p : Int) (c : Cp) (x : Int) (fb : Nat) (w : World) (h0 : Boxed w fb 3 (.int .i64 x)) (hx0 : 0 ≤ x) (hx : x ≤ 40) :
    Calls Try.prog 12 #[.int .i64 p, .agg #[.bool c.g, .int .u64 (U c.m), .int .u64 (U c.a)], .pointer (some ⟨fb, 0, none⟩)] w fun e w' => e = .returned (.bool true) ∧ w' = (w.setCell ⟨fb, 0, none⟩ (.int .i64 (x + 1))).alloc (.cells #[.bool c.g, .int .u64 (U c.m), .int .u64 (U c.a)] 24) := by
  have c0 := h0.cell
  have f0 := h0.frozen
  have l0 := h0.lt
  go_enter Try.func12, Try.ntmps12
  go_wp2_with fail
  go_ret
  exact ⟨rfl, rfl⟩
set_option maxHeartbeats 4000000 in
set_option maxRecDepth 100000 in
theorem tg3_any (b : BitVec 64) (w : World) : Calls Try.prog 11 #[.int .u64 (U b)] w fun e w' => e = .returned (.bool true) ∧ Below w.heap.size w w' := by
  go_enter Try.func11, Try.ntmps11
  go_wp2_with fail
  go_ret
  exact ⟨rfl, by (repeat (first | with_reducible exact Below.refl _ _ | with_reducible assumption | with_reducible refine below_drewN ?_ _ | with_reducible refine Below.drew ?_ | with_reducible refine below_alloc ?_ _ | (with_reducible refine Below.setCell ?_ (by first | (simp; done) | omega | (simp; omega)) _) | with_reducible refine belows ?_ (by assumption)))⟩
set_option maxHeartbeats 4000000 in
set_option maxRecDepth 100000 in
theorem tg1_any (L : List Cp) (hL : L.length = 33) (p : Nat) (hp1 : 1 ≤ p) (hp : p ≤ 32) (hg : (capAt L p).g = true) (n l : Int) (hn0 : 0 ≤ n) (hn1 : n ≤ 40) (hl : l < (p : Int)) (cb fb lb nb : Nat) (w : World) (hc : CtxAt w cb L) (h1 : Boxed w fb 4 (.bool true)) (h2 : Boxed w lb 3 (.int .i64 l)) (h3 : Boxed w nb 3 (.int .i64 n))
    (e1 : fb ≠ lb) (e2 : fb ≠ nb) (e3 : lb ≠ nb) (e4 : cb ≠ fb) (e5 : cb ≠ lb) (e6 : cb ≠ nb) :
    Calls Try.prog 7 #[.int .i64 (p : Int), .agg #[.bool true, .int .u64 (U (capAt L p).m), .int .u64 (U (capAt L p).a)], .pointer (some ⟨cb, 0, none⟩), .pointer (some ⟨fb, 0, none⟩), .pointer (some ⟨lb, 0, none⟩), .pointer (some ⟨nb, 0, none⟩)] w fun e w' => e = .returned (.bool true) ∧ ∃ W3, Below w.heap.size w W3 ∧ w' = ((W3.setCell ⟨fb, 0, none⟩ (.bool true)).setCell ⟨lb, 0, none⟩ (.int .i64 (p : Int))).setCell ⟨nb, 0, none⟩ (.int .i64 (n + 1)) := by
  have c1 := h1.cell
  have c2 := h2.cell
  have c3 := h3.cell
  have f1 := h1.frozen
  have f2 := h2.frozen
  have f3 := h3.frozen
  have l1 := h1.lt
  have l2 := h2.lt
  have l3 := h3.lt
  have l4 := hc.lt
  obtain ⟨x0, x1, x2⟩ := hc.cells 32 _ (capAt_get L 32 (by omega))
  have HC := Lib.hid hc
  clear hc h1 h2 h3
  have cg := cap_guard
  have hee : ∀ w : World, (binOp .eql 24 (.agg #[.bool true, .int .u64 (U (capAt L p).m), .int .u64 (U (capAt L p).a)]) (.agg #[.bool true, .int .u64 (U (capAt L p).m), .int .u64 (U (capAt L p).a)])).run Try.prog w = .ok (.bool true) w := fun w => by
    have := cap_eql true true (capAt L p).m (capAt L p).a (capAt L p).m (capAt L p).a w
    simpa using this
  by_cases h32 : p < 32
  · have hlt : (p : Int) < 32 := by omega
    have cG : ∀ W : World, Calls Try.prog 8 #[.agg (cellsC L).toArray, .int .i64 (p : Int)] W fun e w' => e = .returned (.agg #[.bool true, .int .u64 (U (capAt L p).m), .int .u64 (U (capAt L p).a)]) ∧ Below W.heap.size W w' := fun W => by
      have := get_yes L p hL hp1 h32 W
      unfold capV at this
      rw [hg] at this
      exact this
    go_enter Try.func7, Try.ntmps7
    go_wp2_with (first | (go_at_call 8; (with_reducible refine (cG _).mono ?_); rintro e w' ⟨rfl, hbl⟩; obtain ⟨hcw, hfw, hsw⟩ := below_ifs hbl; (try simp only [World.size_alloc, World.size_setCell, World.size_drew, size_drewN_] at hcw hfw hsw)) | (refine wpList_load_ctx rfl _ rfl _ rfl L ?_ hL ?_; (focus (with_reducible exact CtxAt.alloc (CtxAt.alloc HC.out _) _))))
    go_ret
    exact ⟨rfl, _, by (repeat (first | with_reducible exact Below.refl _ _ | with_reducible assumption | with_reducible refine below_drewN ?_ _ | with_reducible refine Below.drew ?_ | with_reducible refine below_alloc ?_ _ | (with_reducible refine Below.setCell ?_ (by first | (simp; done) | omega | (simp; omega)) _) | with_reducible refine belows ?_ (by assumption))), rfl⟩
  · obtain rfl : p = 32 := by omega
    have hl' : l < 32 := by omega
    go_enter Try.func7, Try.ntmps7
    go_wp2_with fail
    go_ret
    refine ⟨rfl, (w.alloc (.cells #[.bool true, .int .u64 (U (capAt L 32).m), .int .u64 (U (capAt L 32).a)] 24)).alloc (.cells #[.bool true, .int .u64 (U (capAt L 32).m), .int .u64 (U (capAt L 32).a)] 24), by (repeat (first | with_reducible exact Below.refl _ _ | with_reducible assumption | with_reducible refine below_drewN ?_ _ | with_reducible refine Below.drew ?_ | with_reducible refine below_alloc ?_ _ | (with_reducible refine Below.setCell ?_ (by first | (simp; done) | omega | (simp; omega)) _) | with_reducible refine belows ?_ (by assumption))), ?_⟩
    go_simp
end Go.Proofs.Ytpjcijmdoofcbaa
