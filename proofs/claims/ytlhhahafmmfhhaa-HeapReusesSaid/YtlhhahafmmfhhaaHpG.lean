
/-
  Heaps: Settle.
-/
import Derived.Test.YtlhhahafmmfhhaaHpF
namespace Go.Proofs.Ytlhhahafmmfhhaa
open Go Go.RowKit
set_option linter.unusedVariables false
set_option linter.unusedSimpArgs false

set_option maxHeartbeats 4000000 in
set_option maxRecDepth 100000 in
theorem settle_by (B : Nat) (rb rt : BitVec 64) (now : Int) (v : Value) (L L' : List Hb) (w : World) (hs : SlH w B v L) (hbig : L.length ≤ 1099511627775)
    (hdel : ∀ (W : World) (B : Nat) (v : Value) (ca : Nat), SlH W B v L → B ≤ W.heap.size → W.cell? ⟨ca, 0, none⟩ = some (.int .i64 now) → ca < W.heap.size → (∀ g, v.ownBlock = some g → g ≠ ca) → Calls Try.prog 20 #[v, .func (.func 21) #[] #[.pointer (some ⟨ca, 0, none⟩)]] W fun e w' => ∃ v', e = .returned v' ∧ SlH w' B v' L' ∧ Below B W w') :
    Calls Try.prog 9 #[.agg #[.int .u64 (U rb), .int .u64 (U rt), v], .int .i64 now] w fun e w' => ∃ v', e = .returned (.agg #[.int .u64 (U rb), .int .u64 (U rt), v']) ∧ SlH w' w.heap.size v' L' ∧ Below w.heap.size w w' := by
  have hsw_ := fun (W : World) (h : Below w.heap.size w W) => hs.below h
  have HSW := Lib.hid hsw_
  obtain ⟨a', cap, rfl, hcap, hcap2, hblt, hform⟩ := hs.form
  clear hsw_ hform hs hblt
  generalize hn : L.length = n at hcap hbig HSW
  go_enter Try.func9, Try.ntmps9
  go_wp2_with (first | (go_at_call 16; refine (clone_H B _ L _ (HSW.out _ (by (repeat (first | with_reducible exact Below.refl _ _ | with_reducible assumption | with_reducible refine below_drewN ?_ _ | with_reducible refine Below.drew ?_ | with_reducible refine below_alloc ?_ _ | (with_reducible refine Below.setCell ?_ (by first | (simp; done) | omega | (simp; omega)) _) | with_reducible refine belows ?_ (by assumption))))) (by omega)).mono ?_; rintro e w2 ⟨v', rfl, hs', hb'⟩; have HS2 := Lib.hid hs'; clear hs'; obtain ⟨hcw2, hfw2, hsw2⟩ := below_ifs hb'; (try simp only [World.size_alloc, World.size_setCell, World.size_drew, size_drewN_] at hcw2 hfw2 hsw2)) | (go_at_call 20; refine (hdel w2 _ _ (w.heap.size + 1) HS2.out hb'.size (by (first | (go_simp; done) | (go_simp; (simp [↓IntWalk.iteOmega]; done)) | (go_simp; intros; omega) | (go_simp; simp [↓IntWalk.iteOmega]; intros; omega))) (by omega) (fun g hg => by have := HS2.out.ge g hg; (try simp only [World.size_alloc, World.size_setCell, World.size_drew, size_drewN_] at this); omega)).mono ?_; rintro e w3 ⟨v3, rfl, hs3', hb3'⟩; have HS3 := Lib.hid hs3'; clear hs3'; have hge3 : ∀ g, v3.ownBlock = some g → w.heap.size + 1 + 1 + 1 ≤ g := (fun g hg => by have := HS3.out.ge g hg; (try simp only [World.size_alloc, World.size_setCell, World.size_drew, size_drewN_] at this); omega); obtain ⟨hcw3, hfw3, hsw3⟩ := below_ifs hb3'; (try simp only [World.size_alloc, World.size_setCell, World.size_drew, size_drewN_] at hcw3 hfw3 hsw3); obtain ⟨a3, l3, c3, rfl⟩ := HS3.out.form0; have hW3 : Below w.heap.size w w3 := Below.trans (b := w2) (by (repeat (first | with_reducible exact Below.refl _ _ | with_reducible assumption | with_reducible refine below_drewN ?_ _ | with_reducible refine Below.drew ?_ | with_reducible refine below_alloc ?_ _ | (with_reducible refine Below.setCell ?_ (by first | (simp; done) | omega | (simp; omega)) _) | with_reducible refine belows ?_ (by assumption)))) (hb3'.mono (by first | omega | (simp; done) | (simp; omega)))))
  refine bodyPost_ret (results_c [.int .u64 (U rb), .int .u64 (U rt), .slice a3 l3 c3] Try.results9 rfl ?_ Try.underlying27 rfl (by kernel_rfl)) rfl ?_
  · (first | (go_simp; done) | (go_simp; (simp [↓IntWalk.iteOmega]; done)) | (go_simp; intros; omega) | (go_simp; simp [↓IntWalk.iteOmega]; intros; omega))
  · refine ⟨_, rfl, ?_, by (repeat (first | with_reducible exact Below.refl _ _ | with_reducible assumption | with_reducible refine below_drewN ?_ _ | with_reducible refine Below.drew ?_ | with_reducible refine below_alloc ?_ _ | (with_reducible refine Below.setCell ?_ (by first | (simp; done) | omega | (simp; omega)) _) | with_reducible refine belows ?_ (by assumption)))⟩
    have hne0 : ∀ g, (Value.slice a3 l3 c3).ownBlock = some g → g ≠ w.heap.size := fun g hg => by have := hge3 g hg; omega
    have hne : ∀ g, (Value.slice a3 l3 c3).ownBlock = some g → g ≠ w.heap.size + 1 + 1 := fun g hg => by have := hge3 g hg; omega
    have h2 := ((((HS3.out.other ⟨w.heap.size, 2, none⟩ (.slice a3 l3 c3) hne0).other ⟨w.heap.size + 1 + 1, 0, none⟩ (.int .u64 (U rb)) hne).other ⟨w.heap.size + 1 + 1, 1, none⟩ (.int .u64 (U rt)) hne).other ⟨w.heap.size + 1 + 1, 2, none⟩ (.slice a3 l3 c3) hne)
    with_reducible exact h2.mono (by (try simp only [World.size_alloc]); omega)
theorem settle_one (B : Nat) (rb rt : BitVec 64) (now : Int) (v : Value) (x : Hb) (w : World) (hs : SlH w B v [x]) (n : Nat) (hn : x.tm = (n : Int)) (hle : n ≤ 1099511627776) (hp : settleF now x = true) : Calls Try.prog 9 #[.agg #[.int .u64 (U rb), .int .u64 (U rt), v], .int .i64 now] w fun e w' => ∃ v', e = .returned (.agg #[.int .u64 (U rb), .int .u64 (U rt), v']) ∧ SlH w' w.heap.size v' [] ∧ Below w.heap.size w w' :=
  settle_by B rb rt now v [x] [] w hs (by simp) fun W B v ca h hB hc hlt _ => del_one B v x W h hB now ca hc n hn hle hlt hp
theorem settle_two (B : Nat) (rb rt : BitVec 64) (now : Int) (v : Value) (x y : Hb) (w : World) (hs : SlH w B v [x, y]) (n m : Nat) (hn : x.tm = (n : Int)) (hle : n ≤ 1099511627776) (hm : y.tm = (m : Int)) (hle2 : m ≤ 1099511627776) (hp : settleF now x = true) (hq : settleF now y = false) : Calls Try.prog 9 #[.agg #[.int .u64 (U rb), .int .u64 (U rt), v], .int .i64 now] w fun e w' => ∃ v', e = .returned (.agg #[.int .u64 (U rb), .int .u64 (U rt), v']) ∧ SlH w' w.heap.size v' [y] ∧ Below w.heap.size w w' :=
  settle_by B rb rt now v [x, y] [y] w hs (by simp) fun W B v ca h hB hc hlt hca => del_two B v x y W h hB now ca hc n m hn hle hm hle2 hlt hp hq hca
theorem settle_none (B : Nat) (rb rt : BitVec 64) (now : Int) (v : Value) (L : List Hb) (w : World) (hs : SlH w B v L) (hbig : L.length ≤ 1099511627775) (htm : ∀ (j : Nat) (r : Hb), L[j]? = some r → ∃ n : Nat, r.tm = (n : Int) ∧ n ≤ 1099511627776) (hi : ∀ (j : Nat) (r : Hb), L[j]? = some r → settleF now r = false) : Calls Try.prog 9 #[.agg #[.int .u64 (U rb), .int .u64 (U rt), v], .int .i64 now] w fun e w' => ∃ v', e = .returned (.agg #[.int .u64 (U rb), .int .u64 (U rt), v']) ∧ SlH w' w.heap.size v' L ∧ Below w.heap.size w w' :=
  settle_by B rb rt now v L L w hs hbig fun W B v ca h hB hc hlt _ => (del_none B v L W h (by omega) now ca hc htm hlt (idx_miss _ _ hi)).mono fun e w' hx => ⟨v, hx.1, hx.2.1, hx.2.2.mono hB⟩
end Go.Proofs.Ytlhhahafmmfhhaa
