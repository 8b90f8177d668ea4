
/-
  PteTells: any entry has the document's number, and any number its entry; any entry is of a page, and right, or not. Every input.
-/
import Derived.Test.YtnfaalknhcenpaaRows
import Derived.Test.YtnfaalknhcenpaaLaw
import Derived.Test.YtnfaalknhcenpaaPteWords
import Derived.Deep.RegionHeld3
namespace Go.Proofs.Ytnfaalknhcenpaa.Tells
open Go Go.RowKit Go.ChangeShapes Go.WideShapes Go.ChangeAt
set_option linter.unusedVariables false

theorem word_lit (w : World) : Calls Try.prog 14 #[.agg #[.bool true, .bool true, .bool false, .bool false, .bool false, .bool false, .bool false, .bool false, .bool false, .bool false, .bool false, .bool false, .int .u64 5]] w fun x w' => x = .returned (.int .u64 5123) ∧ Below w.heap.size w w' :=
  (word_any ⟨true, true, false, false, false, false, false, false, false, false, false, false, 5#64⟩ w).mono fun _ _ h => ⟨by rw [h.1, word_or]; rfl, h.2⟩
theorem word_here (e : Ent) (w : World) : Calls Try.prog 14 #[.agg #[.bool e.b0, .bool e.b1, .bool e.b2, .bool e.b3, .bool e.b4, .bool e.b5, .bool e.b6, .bool e.b7, .bool e.b8, .bool e.b9, .bool e.b10, .bool e.b11, .int .u64 (U e.f)]] w fun x w' => x = .returned (.int .u64 (U (orE e))) ∧ Below w.heap.size w w' :=
  (word_any e w).mono fun _ _ h => ⟨by rw [h.1, word_or], h.2⟩
theorem rword_here (e : Ent) (w : World) : Calls Try.prog 15 #[.agg #[.bool e.b0, .bool e.b1, .bool e.b2, .bool e.b3, .bool e.b4, .bool e.b5, .bool e.b6, .bool e.b7, .bool e.b8, .bool e.b9, .bool e.b10, .bool e.b11, .int .u64 (U e.f)]] w fun x w' => x = .returned (.int .u64 (U (orE e))) ∧ Below w.heap.size w w' :=
  (rword_any e w).mono fun _ _ h => ⟨by rw [h.1, rword_or], h.2⟩
theorem leaf_here (e : Ent) (w : World) : Calls Try.prog 17 #[.agg #[.bool e.b0, .bool e.b1, .bool e.b2, .bool e.b3, .bool e.b4, .bool e.b5, .bool e.b6, .bool e.b7, .bool e.b8, .bool e.b9, .bool e.b10, .bool e.b11, .int .u64 (U e.f)]] w fun x w' => x = .returned (.bool (leafF e)) ∧ Below w.heap.size w w' :=
  (leaf_any e w).mono fun _ _ h => ⟨h.1, by rw [← h.2]; exact (Below.refl _ _).alloc (Nat.le_refl _) _⟩
theorem rleaf_here (e : Ent) (w : World) : Calls Try.prog 18 #[.agg #[.bool e.b0, .bool e.b1, .bool e.b2, .bool e.b3, .bool e.b4, .bool e.b5, .bool e.b6, .bool e.b7, .bool e.b8, .bool e.b9, .bool e.b10, .bool e.b11, .int .u64 (U e.f)]] w fun x w' => x = .returned (.bool (leafF e)) ∧ Below w.heap.size w w' :=
  (rleaf_any e w).mono fun _ _ h => ⟨h.1, by rw [← h.2]; exact (Below.refl _ _).alloc (Nat.le_refl _) _⟩

set_option maxHeartbeats 1000000 in
set_option maxRecDepth 100000 in
theorem walk (e : Ent) (x : BitVec 64) (w : World) :
    Calls Try.prog 5 #[.agg #[.bool e.b0, .bool e.b1, .bool e.b2, .bool e.b3, .bool e.b4, .bool e.b5, .bool e.b6, .bool e.b7, .bool e.b8, .bool e.b9, .bool e.b10, .bool e.b11, .int .u64 (U e.f)], .int .u64 (U x)] w fun r w' => r = .returned (.bool true) ∧ Below w.heap.size w w' := by
  go_enter Try.func5, Try.ntmps5
  go_wp2_with fail
  go_region_held3 (fun w' => Below w.heap.size w w' ∧ w.heap.size < w'.heap.size ∧ w'.cell? ⟨w.heap.size, 0, none⟩ = some (.bool e.b0) ∧ w'.cell? ⟨w.heap.size, 1, none⟩ = some (.bool e.b1) ∧ w'.cell? ⟨w.heap.size, 2, none⟩ = some (.bool e.b2) ∧ w'.cell? ⟨w.heap.size, 3, none⟩ = some (.bool e.b3) ∧ w'.cell? ⟨w.heap.size, 4, none⟩ = some (.bool e.b4) ∧ w'.cell? ⟨w.heap.size, 5, none⟩ = some (.bool e.b5) ∧ w'.cell? ⟨w.heap.size, 6, none⟩ = some (.bool e.b6) ∧ w'.cell? ⟨w.heap.size, 7, none⟩ = some (.bool e.b7) ∧ w'.cell? ⟨w.heap.size, 8, none⟩ = some (.bool e.b8) ∧ w'.cell? ⟨w.heap.size, 9, none⟩ = some (.bool e.b9) ∧ w'.cell? ⟨w.heap.size, 10, none⟩ = some (.bool e.b10) ∧ w'.cell? ⟨w.heap.size, 11, none⟩ = some (.bool e.b11) ∧ w'.cell? ⟨w.heap.size, 12, none⟩ = some (.int .u64 (U e.f)))
    (first
      | (refine ⟨Below.drew (Below.alloc (Below.refl _ _) (Nat.le_refl _) _), ?_⟩; go_keep; done)
      | (go_keep; done)
      | (go_split_ands
         (repeat' apply And.intro)
         all_goals first | (exact belows (by assumption) hbl) | omega | (rw [hcw _ (by first | omega | (simp; done) | (simp; omega))]; assumption)))
    ((first | (go_at_call 14; (with_reducible refine (word_lit _).mono ?_); rintro e w' ⟨rfl, hbl⟩; obtain ⟨hcw, hfw, hsw⟩ := below_facts hbl) | (go_at_call 14; (with_reducible refine (word_here _ _).mono ?_); rintro e w' ⟨rfl, hbl⟩; obtain ⟨hcw, hfw, hsw⟩ := below_facts hbl) | (go_at_call 15; (with_reducible refine (rword_here _ _).mono ?_); rintro e w' ⟨rfl, hbl⟩; obtain ⟨hcw, hfw, hsw⟩ := below_facts hbl) | (go_at_call 13; (with_reducible refine (of_any _ _).mono ?_); rintro e w' ⟨rfl, hbl⟩; obtain ⟨hcw, hfw, hsw⟩ := below_facts hbl) | (go_at_call 16; (with_reducible refine (rof_any _ _).mono ?_); rintro e w' ⟨rfl, hbl⟩; obtain ⟨hcw, hfw, hsw⟩ := below_facts hbl) | (go_at_call 17; (with_reducible refine (leaf_here _ _).mono ?_); rintro e w' ⟨rfl, hbl⟩; obtain ⟨hcw, hfw, hsw⟩ := below_facts hbl) | (go_at_call 18; (with_reducible refine (rleaf_here _ _).mono ?_); rintro e w' ⟨rfl, hbl⟩; obtain ⟨hcw, hfw, hsw⟩ := below_facts hbl) | (go_at_call 19; (with_reducible refine (right_any _ _).mono ?_); rintro e w' ⟨rfl, hbl⟩; obtain ⟨hcw, hfw, hsw⟩ := below_facts hbl) | (go_at_call 20; (with_reducible refine (rright_any _ _).mono ?_); rintro e w' ⟨rfl, hbl⟩; obtain ⟨hcw, hfw, hsw⟩ := below_facts hbl)))
  go_wp2_with fail
  go_ret
  go_split_ands
  exact ⟨rfl, by first | assumption | exact belows (by assumption) (by assumption)⟩

set_option maxRecDepth 100000 in
theorem lifted (os : Os) (started : os.Started) (H : Type) (enc : TypeId × Value → H) :
    ReturnsInHanded {} Try.checked os 5 .any (Rows.pteTellsSpec.pre6 enc Try.prog Try.f5 Rows.pteTellsRow.domain false) (Rows.pteTellsSpec.post enc Try.prog Try.f5 false true false false) := by
  refine law_lift (C := Try.checked) (tb := 4) started (by kernel_rfl) (by kernel_rfl) Try.func5 rfl rfl Try.underlying4 (by kernel_rfl) (by kernel_rfl)
    (fun ds h => by match ds, h with | [_, _], _ => rfl)
    (ChangeSpec.witness6 (enc := enc) (C := Try.checked) false ⟨#[], #[.agg #[.bool false, .bool false, .bool false, .bool false, .bool false, .bool false, .bool false, .bool false, .bool false, .bool false, .bool false, .bool false, .int .u64 0], .int .u64 0], []⟩ 8 (by kernel_rfl) (by kernel_rfl) (by kernel_rfl) (by kernel_rfl)) ?_
  intro W base args ds ps hval hA hlt hfz hsz
  rw [Try.params5] at hA hval hsz
  obtain ⟨v0, v1, d0, d1, p0, p1, rfl, rfl, rfl, h0, h1⟩ := trodAll_two hA
  obtain ⟨e0, e1, e2, e3, e4, e5, e6, e7, e8, e9, e10, e11, nf, wf, rfl⟩ := open_leaves (d := 5) (ls := [.bool, .bool, .bool, .bool, .bool, .bool, .bool, .bool, .bool, .bool, .bool, .bool, .int .u64]) (by kernel_rfl) (by kernel_rfl) (hval 0 _ v0 rfl rfl) h0
  obtain ⟨a1, rfl, rfl, rfl, w1⟩ := open_int Try.underlying22 (hval 1 _ v1 rfl rfl) h1
  obtain ⟨f, rfl⟩ := exists_U nf wf
  obtain ⟨x, rfl⟩ := exists_U a1 w1
  exact walk ⟨e0, e1, e2, e3, e4, e5, e6, e7, e8, e9, e10, e11, f⟩ x W

theorem over : Rows.pteTellsRow.holds Try.pinned (OpenSpec.ofChange Rows.pteTellsSpec) :=
  OpenClaim.holds_of_wide 5 Try.f5 rfl rfl rfl rfl rfl rfl rfl ⟨rfl, rfl, rfl, rfl, rfl⟩ rfl rfl rfl rfl rfl (by kernel_rfl) Try.func5 (by kernel_rfl)
    (of_decide_eq_true (by kernel_rfl)) (by unfold Func.isWrapper; first | (rw [if_pos (by decide +kernel)]; kernel_rfl) | (rw [if_neg (by decide +kernel)]; exact ⟨rfl, rfl⟩))
    (fun os started H enc _ => lifted os started H enc)

theorem proved : Rows.PteTellsSaid := over
end Go.Proofs.Ytnfaalknhcenpaa.Tells
