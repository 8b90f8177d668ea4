
/-
  A step of a map, by what it keeps.
-/
import Derived.Test.YtnillifinnmigaaRgM
namespace Go.Proofs.Ytnillifinnmigaa
open Go Go.RowKit
set_option linter.unusedVariables false
set_option linter.unusedSimpArgs false

theorem find_all (rb rt n : BitVec 64) (L : List Rg) (hI : Inv rb rt L) (hbig : L.length ≤ 1099511627776) :
    (∃ e : Int, e ≠ 0 ∧ ∀ (v : Value) (W : World) (B : Nat), SlR W B v L → Calls Try.prog 7 #[.agg #[.int .u64 (U rb), .int .u64 (U rt), v], .int .u64 (U n)] W fun r w' => r = .returned (.tuple #[.agg #[.int .u64 0, .int .u64 0], .int .i64 e]) ∧ Below W.heap.size W w') ∨
    (∃ b, Found rb rt n b L ∧ ∀ (v : Value) (W : World) (B : Nat), SlR W B v L → Calls Try.prog 7 #[.agg #[.int .u64 (U rb), .int .u64 (U rt), v], .int .u64 (U n)] W fun r w' => r = .returned (.tuple #[.agg #[.int .u64 (U b), .int .u64 (U (b + askN n))], .int .i64 0]) ∧ Below W.heap.size W w') := by
  by_cases ha : n = 0#64 ∨ 274877906944 < U n
  · exact .inl ⟨2, by decide, fun v W B hs => find_arg rb rt n v W ha⟩
  · have h0 : n ≠ 0#64 := fun e => ha (.inl e)
    have h1 : U n ≤ 274877906944 := Int.not_lt.1 fun e => ha (.inr e)
    have h1' : n.toNat ≤ 274877906944 := by unfold U at h1; omega
    by_cases hF : ∃ b, FR rb rt (askN n) (askX n) L (upF rb (askX n)) (some b)
    · obtain ⟨b, hb⟩ := hF
      refine .inr ⟨b, found_of h0 h1' hI.room.1 (fun j r hj => hI.top j r hj) hb, fun v W B hs => ?_⟩
      refine (find_any B rb rt n v L W hs hbig h0 h1 (fun j r base top hj hm => hI.up h1' j r base top hj hm)).mono fun e w' hx => ?_
      obtain ⟨res, hr, he, hbl⟩ := hx
      have := hb.one hr
      subst this
      exact ⟨he, hbl⟩
    · refine .inl ⟨15, by decide, fun v W B hs => ?_⟩
      refine (find_any B rb rt n v L W hs hbig h0 h1 (fun j r base top hj hm => hI.up h1' j r base top hj hm)).mono fun e w' hx => ?_
      obtain ⟨res, hr, he, hbl⟩ := hx
      cases res with
      | none => exact ⟨he, hbl⟩
      | some b => exact absurd ⟨b, hr⟩ hF
/-- What a step leaves: a slice that holds a list that keeps the rule. -/
def StepR (rb rt : BitVec 64) (B m : Nat) (W w' : World) (e : Ending) : Prop := ∃ (v' : Value) (L' : List Rg) (x : Int), e = .returned (.tuple #[Value.agg #[.int .u64 (U rb), .int .u64 (U rt), v'], .int .i64 x]) ∧ L'.length ≤ m ∧ Inv rb rt L' ∧ SlR w' B v' L' ∧ Below W.heap.size W w'
theorem hold_step (B : Nat) (rb rt b t : BitVec 64) (v : Value) (L : List Rg) (W : World) (hs : SlR W B v L) (hB : B ≤ W.heap.size) (hbig : L.length ≤ 1099511627775) (hI : Inv rb rt L) : Calls Try.prog 11 #[.agg #[.int .u64 (U rb), .int .u64 (U rt), v], .agg #[.int .u64 (U b), .int .u64 (U t)]] W fun e w' => StepR rb rt B L.length W w' e := by
  rcases idx_cases (isR b t 1) L with ⟨hi, -⟩ | ⟨k, r, hi, hk, -, -, -⟩
  · refine (hold_no B rb rt b t v L W hs hbig hi).mono fun e w' hx => ?_
    exact ⟨v, L, 13, hx.1, Nat.le_refl _, hI, hs.below hx.2, hx.2⟩
  · refine (hold_yes B rb rt b t v L W hs hbig k r hi hk).mono fun e w' hx => ?_
    obtain ⟨v', he, hsl, hb⟩ := hx
    exact ⟨v', _, 0, he, by rw [List.length_set]; exact Nat.le_refl _, hI.set k r 2 hk, hsl.mono hB, hb⟩
theorem drop_step (B : Nat) (rb rt b t : BitVec 64) (v : Value) (L : List Rg) (W : World) (hs : SlR W B v L) (hB : B ≤ W.heap.size) (hbig : L.length ≤ 1099511627775) (hI : Inv rb rt L) : Calls Try.prog 12 #[.agg #[.int .u64 (U rb), .int .u64 (U rt), v], .agg #[.int .u64 (U b), .int .u64 (U t)]] W fun e w' => StepR rb rt B L.length W w' e := by
  rcases idx_cases (isR b t 2) L with ⟨hi, -⟩ | ⟨k, r, hi, hk, -, -, -⟩
  · refine (drop_no B rb rt b t v L W hs hbig hi).mono fun e w' hx => ?_
    exact ⟨v, L, 13, hx.1, Nat.le_refl _, hI, hs.below hx.2, hx.2⟩
  · refine (drop_yes B rb rt b t v L W hs hbig k r hi hk).mono fun e w' hx => ?_
    obtain ⟨v', he, hsl, hb⟩ := hx
    have hlt : k < L.length := (List.getElem?_eq_some_iff.1 hk).1
    exact ⟨v', _, 0, he, by rw [List.length_append, List.length_take, List.length_drop]; omega, hI.del k hlt, hsl.mono hB, hb⟩
theorem add_found (B : Nat) (rb rt n b : BitVec 64) (v : Value) (L : List Rg) (W : World) (hs : SlR W B v L) (hB : B ≤ W.heap.size) (hbig : L.length ≤ 1099511627774) (hI : Inv rb rt L) (hF : Found rb rt n b L) : Calls Try.prog 10 #[.agg #[.int .u64 (U rb), .int .u64 (U rt), v], .agg #[.int .u64 (U b), .int .u64 (U (b + askN n))]] W fun e w' => ∃ (i : Nat) (v' : Value), e = .returned (.tuple #[Value.agg #[.int .u64 (U rb), .int .u64 (U rt), v'], .int .i64 0]) ∧ i ≤ L.length ∧ (∀ (q : Nat) (x : Rg), q < i → L[q]? = some x → U x.b < U b) ∧ Inv rb rt (L.take i ++ [⟨b, b + askN n, 1⟩] ++ L.drop i) ∧ SlR w' B v' (L.take i ++ [⟨b, b + askN n, 1⟩] ++ L.drop i) ∧ Below W.heap.size W w' := by
  have hany : (L.any fun r => meetF r.b r.t b (b + askN n)) = false := by
    rw [List.any_eq_false]
    intro r hr
    obtain ⟨jj, hjj⟩ := List.mem_iff_getElem?.1 hr
    have := hF.free jj r hjj
    rw [this]; decide
  refine (add_yes B rb rt b (b + askN n) v L W hs hbig hI.mono hF.pages hF.inr hany).mono fun e w' hx => ?_
  obtain ⟨i, v', he, hi1, hi2, hi3, hsl, hb⟩ := hx
  exact ⟨i, v', he, hi1, hi2, hI.add i 1 hi1 hF.lt hF.ge hF.le hF.free hi2 hi3, hsl.mono hB, hb⟩
theorem add_step (B : Nat) (rb rt n b : BitVec 64) (v : Value) (L : List Rg) (W : World) (hs : SlR W B v L) (hB : B ≤ W.heap.size) (hbig : L.length ≤ 1099511627774) (hI : Inv rb rt L) (hF : Found rb rt n b L) : Calls Try.prog 10 #[.agg #[.int .u64 (U rb), .int .u64 (U rt), v], .agg #[.int .u64 (U b), .int .u64 (U (b + askN n))]] W fun e w' => StepR rb rt B (L.length + 1) W w' e := by
  refine (add_found B rb rt n b v L W hs hB hbig hI hF).mono fun e w' hx => ?_
  obtain ⟨i, v', he, hi1, hi2, hi3, hsl, hb⟩ := hx
  exact ⟨v', _, 0, he, by rw [ins_len hi1]; exact Nat.le_refl _, hi3, hsl, hb⟩
set_option maxHeartbeats 4000000 in
set_option maxRecDepth 100000 in
theorem picked_any (B : Nat) (rb rt sb st N : BitVec 64) (kd pk : Int) (v : Value) (L : List Rg) (w : World) (hs : SlR w B v L) (hbig : L.length ≤ 1099511627775) : Calls Try.prog 13 #[.agg #[.int .u64 (U rb), .int .u64 (U rt), v], .agg #[.int .i64 kd, .int .i64 pk, .int .u64 (U N), .int .u64 (U sb), .int .u64 (U st)]] w fun e w' => ∃ b t, e = .returned (.agg #[.int .u64 (U b), .int .u64 (U t)]) ∧ Below w.heap.size w w' := by
  have hsw_ := fun (W : World) (h : Below w.heap.size w W) => hs.below h
  have HSW := Lib.hid hsw_
  obtain ⟨a', cap, rfl, hcap, hcap2, hblt, hform⟩ := hs.form
  clear hsw_ hform hs hblt
  have hr : ∀ w2 c2 a2, SlR w2 (((w.alloc (.cells #[.int .u64 (U rb), .int .u64 (U rt), .slice a' L.length cap] 28)).alloc (.cells #[.int .i64 kd, .int .i64 pk, .int .u64 (U N), .int .u64 (U sb), .int .u64 (U st)] 45)).alloc (.cells #[.int .u64 0, .int .u64 0] 24)).heap.size (.slice a2 L.length c2) L → True := fun _ _ _ _ => trivial
  clear hr
  generalize hn : L.length = n at hcap hbig HSW
  go_enter Try.func13, Try.ntmps13
  by_cases hpk : pk < 0
  · have d1 : decide (pk < 0) = true := decide_eq_true hpk
    go_wp2_with (first | (go_at_call 9; refine (all_any B rb rt _ L _ (HSW.out _ (by (repeat (first | with_reducible exact Below.refl _ _ | with_reducible assumption | with_reducible refine below_drewN ?_ _ | with_reducible refine Below.drew ?_ | with_reducible refine below_alloc ?_ _ | (with_reducible refine Below.setCell ?_ (by first | (simp; done) | omega | (simp; omega)) _) | with_reducible refine belows ?_ (by assumption))))) (by omega)).mono ?_; rintro e w2 ⟨v2, rfl, hs2, hb2⟩; have HS2 := Lib.hid hs2; obtain ⟨a2, c2, rfl, -, -, -, -⟩ := HS2.out.form; clear hs2; obtain ⟨hcw2, hfw2, hsw2⟩ := below_ifs hb2; (try simp only [World.size_alloc, World.size_setCell, World.size_drew, size_drewN_] at hcw2 hfw2 hsw2)))
    all_goals first | (exfalso; omega; done) | skip
    refine bodyPost_ret (results_c [.int .u64 (U sb), .int .u64 (U st)] Try.results13 rfl ?_ Try.underlying24 rfl (by kernel_rfl)) rfl ?_
    · (first | (go_simp; done) | (go_simp; (simp [↓IntWalk.iteOmega]; done)) | (go_simp; intros; omega) | (go_simp; simp [↓IntWalk.iteOmega]; intros; omega))
    · exact ⟨sb, st, rfl, by (repeat (first | with_reducible exact Below.refl _ _ | with_reducible assumption | with_reducible refine below_drewN ?_ _ | with_reducible refine Below.drew ?_ | with_reducible refine below_alloc ?_ _ | (with_reducible refine Below.setCell ?_ (by first | (simp; done) | omega | (simp; omega)) _) | with_reducible refine belows ?_ (by assumption)))⟩
  · by_cases hz : n = 0
    · subst hz
      go_wp2_with (first | (go_at_call 9; refine (all_any B rb rt _ L _ (HSW.out _ (by (repeat (first | with_reducible exact Below.refl _ _ | with_reducible assumption | with_reducible refine below_drewN ?_ _ | with_reducible refine Below.drew ?_ | with_reducible refine below_alloc ?_ _ | (with_reducible refine Below.setCell ?_ (by first | (simp; done) | omega | (simp; omega)) _) | with_reducible refine belows ?_ (by assumption))))) (by omega)).mono ?_; rintro e w2 ⟨v2, rfl, hs2, hb2⟩; have HS2 := Lib.hid hs2; obtain ⟨a2, c2, rfl, -, -, -, -⟩ := HS2.out.form; clear hs2; obtain ⟨hcw2, hfw2, hsw2⟩ := below_ifs hb2; (try simp only [World.size_alloc, World.size_setCell, World.size_drew, size_drewN_] at hcw2 hfw2 hsw2)))
      all_goals first | (exfalso; omega; done) | skip
      refine bodyPost_ret (results_c [.int .u64 (U sb), .int .u64 (U st)] Try.results13 rfl ?_ Try.underlying24 rfl (by kernel_rfl)) rfl ?_
      · (first | (go_simp; done) | (go_simp; (simp [↓IntWalk.iteOmega]; done)) | (go_simp; intros; omega) | (go_simp; simp [↓IntWalk.iteOmega]; intros; omega))
      · exact ⟨sb, st, rfl, by (repeat (first | with_reducible exact Below.refl _ _ | with_reducible assumption | with_reducible refine below_drewN ?_ _ | with_reducible refine Below.drew ?_ | with_reducible refine below_alloc ?_ _ | (with_reducible refine Below.setCell ?_ (by first | (simp; done) | omega | (simp; omega)) _) | with_reducible refine belows ?_ (by assumption)))⟩
    · have d2 : ((n : Int) == 0) = false := by rw [beq_eq_false_iff_ne]; omega
      obtain ⟨j, hj⟩ : ∃ j : Nat, pk % (n : Int) = (j : Int) := ⟨(pk % (n : Int)).toNat, (Int.toNat_of_nonneg (Int.emod_nonneg _ (by omega))).symm⟩
      have hjn : j < n := by have := Int.emod_lt_of_pos pk (show (0 : Int) < (n : Int) by omega); omega
      have hj2 : pk.tmod (n : Int) = (j : Int) := by rw [Int.tmod_eq_emod_of_nonneg (by omega)]; exact hj
      obtain ⟨r, hr⟩ : ∃ r, L[j]? = some r := ⟨L[j]'(by omega), List.getElem?_eq_getElem (by omega)⟩
      have HJ := Lib.hid hr
      clear hr
      go_wp2_with (first | (go_at_call 9; refine (all_any B rb rt _ L _ (HSW.out _ (by (repeat (first | with_reducible exact Below.refl _ _ | with_reducible assumption | with_reducible refine below_drewN ?_ _ | with_reducible refine Below.drew ?_ | with_reducible refine below_alloc ?_ _ | (with_reducible refine Below.setCell ?_ (by first | (simp; done) | omega | (simp; omega)) _) | with_reducible refine belows ?_ (by assumption))))) (by omega)).mono ?_; rintro e w2 ⟨v2, rfl, hs2, hb2⟩; have HS2 := Lib.hid hs2; obtain ⟨g2, c2, rfl, -, hg2, -, -, hx2⟩ := HS2.out.row (by omega); obtain ⟨⟨x0, x1, x2⟩, -⟩ := hx2 j r HJ.out; clear hx2; clear hs2; obtain ⟨hcw2, hfw2, hsw2⟩ := below_ifs hb2; (try simp only [World.size_alloc, World.size_setCell, World.size_drew, size_drewN_] at hcw2 hfw2 hsw2)))
      all_goals first | (exfalso; omega; done) | skip
      refine bodyPost_ret (results_c [.int .u64 (U r.b), .int .u64 (U r.t)] Try.results13 rfl ?_ Try.underlying24 rfl (by kernel_rfl)) rfl ?_
      · (first | (go_simp; done) | (go_simp; (simp [↓IntWalk.iteOmega]; done)) | (go_simp; intros; omega) | (go_simp; simp [↓IntWalk.iteOmega]; intros; omega))
      · exact ⟨r.b, r.t, rfl, by (repeat (first | with_reducible exact Below.refl _ _ | with_reducible assumption | with_reducible refine below_drewN ?_ _ | with_reducible refine Below.drew ?_ | with_reducible refine below_alloc ?_ _ | (with_reducible refine Below.setCell ?_ (by first | (simp; done) | omega | (simp; omega)) _) | with_reducible refine belows ?_ (by assumption)))⟩
end Go.Proofs.Ytnillifinnmigaa
