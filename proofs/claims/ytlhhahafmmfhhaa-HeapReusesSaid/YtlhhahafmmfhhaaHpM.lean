
/-
  Heaps: the law at one heap.
-/
import Derived.Test.YtlhhahafmmfhhaaHpL
namespace Go.Proofs.Ytlhhahafmmfhhaa
open Go Go.RowKit
set_option linter.unusedVariables false
set_option linter.unusedSimpArgs false

theorem lr_one : LR 8192#64 (askN 20#64) (askX 20#64) [] (upF 4096#64 (askX 20#64)) 4096#64 4128#64 true := by
  have e1 : askN 20#64 = 32#64 := by decide +kernel
  have e2 : askX 20#64 = 4 := by decide +kernel
  have e3 : upF 4096#64 4 = 4096#64 := by decide +kernel
  rw [e1, e2, e3]
  exact lr_hit (by decide +kernel) (by decide +kernel) (fun j r h => by simp at h)
theorem held_is {k : Nat} (B : Nat) (rb rt : BitVec 64) (v : Value) (L : List Hb) (w : World) (hs : SlH w B v L) (hbig : L.length ≤ 100) (hk : cntH L = k) : Calls Try.prog 7 #[.agg #[.int .u64 (U rb), .int .u64 (U rt), v]] w fun e w' => ∃ a c, e = .returned (.slice a k c) ∧ Below w.heap.size w w' := by
  subst hk
  exact held_any B rb rt v L w hs hbig
theorem blocks_is {k : Nat} (B : Nat) (rb rt : BitVec 64) (v : Value) (L : List Hb) (w : World) (hs : SlH w B v L) (hbig : L.length ≤ 100) (hk : L.length = k) : Calls Try.prog 8 #[.agg #[.int .u64 (U rb), .int .u64 (U rt), v]] w fun e w' => ∃ a c, e = .returned (.slice a k c) ∧ Below w.heap.size w w' := by
  subst hk
  refine (blocks_any B rb rt v L w hs (by omega)).mono fun e w' h => ?_
  obtain ⟨v', he, ho, hb⟩ := h
  obtain ⟨a, c, hv, -⟩ := ho.form
  exact ⟨a, c, by rw [he, hv], hb⟩
set_option maxHeartbeats 16000000 in
set_option maxRecDepth 100000 in
theorem one_any (w : World) : Calls Try.prog 11 #[] w fun e w' => e = .returned (.bool true) ∧ Below w.heap.size w w' := by
  have cn : ∀ w : World, Calls Try.prog 4 #[.agg #[.int .u64 4096, .int .u64 8192]] w fun e w' => e = .returned (.tuple #[.agg #[.int .u64 4096, .int .u64 8192, .slice none 0 0], .int .i64 0]) ∧ Below w.heap.size w w' := fun w => new_yes 4096#64 8192#64 (by decide) (by decide +kernel) (by decide) w
  have ct : ∀ w : World, Calls Try.prog 5 #[.agg #[.int .u64 4096, .int .u64 8192, .slice none 0 0], .int .u64 20] w fun e w' => ∃ v', e = .returned (.tuple #[.agg #[.int .u64 4096, .int .u64 8192, v'], .agg #[.int .u64 4096, .int .u64 4128], .int .i64 0]) ∧ SlH w' w.heap.size v' [⟨4096#64, 4128#64, false, 0⟩] ∧ Below w.heap.size w w' := fun w => by
    have hx := take_yes 0 4096#64 8192#64 20#64 4096#64 4128#64 (.slice none 0 0) [] w (SlH.nil w 0) (by simp) (by decide) (by decide) (fun j r _ _ h => by simp at h) lr_one
    refine hx.mono fun e w' hq => ?_
    obtain ⟨i, v', he, hi, h1, h2, hsl, hb⟩ := hq
    obtain rfl : i = 0 := by simpa using hi
    exact ⟨v', he, hsl, hb⟩
  go_enter Try.func11, Try.ntmps11
  go_wp2_with (first | (go_at_call 4; (with_reducible refine (cn _).mono ?_); rintro e w' ⟨rfl, hbl⟩; obtain ⟨hcw, hfw, hsw⟩ := below_ifs hbl; (try simp only [World.size_alloc, World.size_setCell, World.size_drew, size_drewN_] at hcw hfw hsw)))
  refine (ct _).mono ?_
  rintro e w1 ⟨v1, rfl, hs1, hb1⟩
  obtain ⟨a1, n1, c1, rfl⟩ := hs1.form0
  have HS1 := Lib.hid hs1
  clear hs1
  obtain ⟨hcw1, hfw1, hsw1⟩ := below_ifs hb1
  (try simp only [World.size_alloc, World.size_setCell, World.size_drew, size_drewN_] at hcw1 hfw1 hsw1)
  go_wp2_with fail
  refine (give_yes 0 4096#64 8192#64 4096#64 4 _ [⟨4096#64, 4128#64, false, 0⟩] _ (by (repeat (first | with_reducible exact HS1.out.mono (Nat.zero_le _) | with_reducible refine SlH.alloc ?_ _ | with_reducible refine SlH.other ?_ _ _ ?_ | with_reducible refine SlH.below ?_ (by assumption))); all_goals (intro g hg; have q1 := HS1.out.ge g hg; have q2 := HS1.out.lt g hg; (try simp only [World.size_alloc, World.size_setCell, World.size_drew, size_drewN_] at q1 q2); (try simp only [World.size_alloc, World.size_setCell, World.size_drew, size_drewN_]); omega)) (by simp) 0 _ (idx_hit _ _ 0 _ rfl rfl (fun j _ hj => absurd hj (Nat.not_lt_zero _))) rfl).mono ?_
  rintro e w2 ⟨v2, rfl, hs2, hb2⟩
  obtain ⟨a2, n2, c2, rfl⟩ := hs2.form0
  have HS2 := Lib.hid hs2
  clear hs2
  obtain ⟨hcw2, hfw2, hsw2⟩ := below_ifs hb2
  (try simp only [World.size_alloc, World.size_setCell, World.size_drew, size_drewN_] at hcw2 hfw2 hsw2)
  go_wp2_with fail
  have HS2 := Lib.hid (show SlH w2 _ (.slice a2 n2 c2) [⟨4096#64, 4128#64, true, 4⟩] from HS2.out)
  refine (settle_none 0 4096#64 8192#64 5 _ [⟨4096#64, 4128#64, true, 4⟩] _ (by (repeat (first | with_reducible exact HS2.out.mono (Nat.zero_le _) | with_reducible refine SlH.alloc ?_ _ | with_reducible refine SlH.other ?_ _ _ ?_ | with_reducible refine SlH.below ?_ (by assumption))); all_goals (intro g hg; have q1 := HS2.out.ge g hg; have q2 := HS2.out.lt g hg; (try simp only [World.size_alloc, World.size_setCell, World.size_drew, size_drewN_] at q1 q2); (try simp only [World.size_alloc, World.size_setCell, World.size_drew, size_drewN_]); omega)) (by simp) (fun j r h => by obtain ⟨-, rfl⟩ := one_get h; exact ⟨4, rfl, by omega⟩) (fun j r h => by obtain ⟨-, rfl⟩ := one_get h; decide)).mono ?_
  rintro e w3 ⟨v3, rfl, hs3, hb3⟩
  obtain ⟨a3, n3, c3, rfl⟩ := hs3.form0
  have HS3 := Lib.hid hs3
  clear hs3
  obtain ⟨hcw3, hfw3, hsw3⟩ := below_ifs hb3
  (try simp only [World.size_alloc, World.size_setCell, World.size_drew, size_drewN_] at hcw3 hfw3 hsw3)
  go_wp2_with fail
  refine (held_is (k := 1) 0 4096#64 8192#64 _ [⟨4096#64, 4128#64, true, 4⟩] _ (by (repeat (first | with_reducible exact HS3.out.mono (Nat.zero_le _) | with_reducible refine SlH.alloc ?_ _ | with_reducible refine SlH.other ?_ _ _ ?_ | with_reducible refine SlH.below ?_ (by assumption))); all_goals (intro g hg; have q1 := HS3.out.ge g hg; have q2 := HS3.out.lt g hg; (try simp only [World.size_alloc, World.size_setCell, World.size_drew, size_drewN_] at q1 q2); (try simp only [World.size_alloc, World.size_setCell, World.size_drew, size_drewN_]); omega)) (by simp) rfl).mono ?_
  rintro e w4 ⟨a4, c4, rfl, hb4⟩
  obtain ⟨hcw4, hfw4, hsw4⟩ := below_ifs hb4
  (try simp only [World.size_alloc, World.size_setCell, World.size_drew, size_drewN_] at hcw4 hfw4 hsw4)
  go_wp2_with fail
  refine (settle_one 0 4096#64 8192#64 6 _ ⟨4096#64, 4128#64, true, 4⟩ _ (by (repeat (first | with_reducible exact HS2.out.mono (Nat.zero_le _) | with_reducible refine SlH.alloc ?_ _ | with_reducible refine SlH.other ?_ _ _ ?_ | with_reducible refine SlH.below ?_ (by assumption))); all_goals (intro g hg; have q1 := HS2.out.ge g hg; have q2 := HS2.out.lt g hg; (try simp only [World.size_alloc, World.size_setCell, World.size_drew, size_drewN_] at q1 q2); (try simp only [World.size_alloc, World.size_setCell, World.size_drew, size_drewN_]); omega)) 4 rfl (by omega) (by decide)).mono ?_
  rintro e w5 ⟨v5, rfl, hs5, hb5⟩
  obtain ⟨a5, n5, c5, rfl⟩ := hs5.form0
  have HS5 := Lib.hid hs5
  clear hs5
  obtain ⟨hcw5, hfw5, hsw5⟩ := below_ifs hb5
  (try simp only [World.size_alloc, World.size_setCell, World.size_drew, size_drewN_] at hcw5 hfw5 hsw5)
  go_wp2_with fail
  refine (blocks_is (k := 0) 0 4096#64 8192#64 _ [] _ (by (repeat (first | with_reducible exact HS5.out.mono (Nat.zero_le _) | with_reducible refine SlH.alloc ?_ _ | with_reducible refine SlH.other ?_ _ _ ?_ | with_reducible refine SlH.below ?_ (by assumption))); all_goals (intro g hg; have q1 := HS5.out.ge g hg; have q2 := HS5.out.lt g hg; (try simp only [World.size_alloc, World.size_setCell, World.size_drew, size_drewN_] at q1 q2); (try simp only [World.size_alloc, World.size_setCell, World.size_drew, size_drewN_]); omega)) (by simp) rfl).mono ?_
  rintro e w6 ⟨a6, c6, rfl, hb6⟩
  obtain ⟨hcw6, hfw6, hsw6⟩ := below_ifs hb6
  (try simp only [World.size_alloc, World.size_setCell, World.size_drew, size_drewN_] at hcw6 hfw6 hsw6)
  go_wp2_with fail
  go_ret
  exact ⟨rfl, by (repeat (first | with_reducible exact Below.refl _ _ | with_reducible assumption | with_reducible refine below_drewN ?_ _ | with_reducible refine Below.drew ?_ | with_reducible refine below_alloc ?_ _ | (with_reducible refine Below.setCell ?_ (by first | (simp; done) | omega | (simp; omega)) _) | with_reducible refine belows ?_ (by assumption)))⟩
end Go.Proofs.Ytlhhahafmmfhhaa
