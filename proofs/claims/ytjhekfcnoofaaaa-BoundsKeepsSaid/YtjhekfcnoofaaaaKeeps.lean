
/-
  BoundsKeeps: any span is kept as the document's, by its fields, or not at all; and so is any length. Every input.
-/
import Derived.Test.YtjhekfcnoofaaaaRows
import Derived.Test.YtjhekfcnoofaaaaLaw
import Derived.Test.YtjhekfcnoofaaaaRefBoundsE
import Derived.Outline
namespace Go.Proofs.Ytjhekfcnoofaaaa.Keeps
open Go Go.RowKit Go.ChangeShapes Go.WideShapes Go.ChangeAt
set_option linter.unusedVariables false
set_option linter.unusedSimpArgs false

theorem length_lit (w : World) : Calls Try.prog 18 #[.int .u64 10001] w fun r w' => r = .returned (.tuple #[.int .u64 10002, .bool true]) ∧ Below w.heap.size w w' := by
  have h := length_any 10001#64 w
  rw [show rndT 0#64 10001#64 = 10002#64 by decide, show mayS 0#64 10001#64 = true by decide] at h
  exact h
set_option maxHeartbeats 8000000 in
set_option maxRecDepth 100000 in
theorem walk (b t : BitVec 64) (w : World) :
    Calls Try.prog 6 #[.agg #[.int .u64 (U b), .int .u64 (U t)]] w fun r w' => r = .returned (.bool true) ∧ Below w.heap.size w w' := by
  have he := encE_small 0#64 t
  have hS := S_small (encE 0#64 t) (by omega)
  by_cases h0 : (encE 0#64 t).toNat = 0
  · have h1 : U (encE 0#64 t) ≤ 0 := by unfold U; omega
    have ca : ∀ w : World, Calls Try.prog 21 #[.int .u64 (U t)] w fun r w' => r = .returned (.tuple #[.int .i64 0, .bool (mayS 0#64 t)]) ∧ Below w.heap.size w w' := fun w => (align_any t w).mono fun _ _ g => ⟨by rw [g.1, h0]; rfl, g.2⟩
    clear he hS h0
    go_enter Try.func6, Try.ntmps6
    go_wp2_with (first | (go_at_call 18; (with_reducible refine (length_lit _).mono ?_); rintro e w' ⟨rfl, hbl⟩; obtain ⟨hcw, hfw, hsw⟩ := below_ifs hbl; (try simp only [World.size_alloc, World.size_setCell, size_drewN_] at hcw hfw hsw)) | (go_at_call 17; (with_reducible refine (encode_any _ _ _).mono ?_); rintro e w' ⟨rfl, hbl⟩; obtain ⟨hcw, hfw, hsw⟩ := below_ifs hbl; (try simp only [World.size_alloc, World.size_setCell, size_drewN_] at hcw hfw hsw)) | (go_at_call 19; (with_reducible refine (rencode_any _ _ _).mono ?_); rintro e w' ⟨rfl, hbl⟩; obtain ⟨hcw, hfw, hsw⟩ := below_ifs hbl; (try simp only [World.size_alloc, World.size_setCell, size_drewN_] at hcw hfw hsw)) | (go_at_call 19; (with_reducible refine (rencode_0 _ _).mono ?_); rintro e w' ⟨rfl, hbl⟩; obtain ⟨hcw, hfw, hsw⟩ := below_ifs hbl; (try simp only [World.size_alloc, World.size_setCell, size_drewN_] at hcw hfw hsw)) | (go_at_call 16; (with_reducible refine (rounded_any _ _ _).mono ?_); rintro e w' ⟨rfl, hbl⟩; obtain ⟨hcw, hfw, hsw⟩ := below_ifs hbl; (try simp only [World.size_alloc, World.size_setCell, size_drewN_] at hcw hfw hsw)) | (go_at_call 20; (with_reducible refine (rrounded_any _ _ _).mono ?_); rintro e w' ⟨rfl, hbl⟩; obtain ⟨hcw, hfw, hsw⟩ := below_ifs hbl; (try simp only [World.size_alloc, World.size_setCell, size_drewN_] at hcw hfw hsw)) | (go_at_call 20; (with_reducible refine (rrounded_0 _ _).mono ?_); rintro e w' ⟨rfl, hbl⟩; obtain ⟨hcw, hfw, hsw⟩ := below_ifs hbl; (try simp only [World.size_alloc, World.size_setCell, size_drewN_] at hcw hfw hsw)) | (go_at_call 18; (with_reducible refine (length_any _ _).mono ?_); rintro e w' ⟨rfl, hbl⟩; obtain ⟨hcw, hfw, hsw⟩ := below_ifs hbl; (try simp only [World.size_alloc, World.size_setCell, size_drewN_] at hcw hfw hsw)) | (go_at_call 21; (with_reducible refine (ca _).mono ?_); rintro e w' ⟨rfl, hbl⟩; obtain ⟨hcw, hfw, hsw⟩ := below_ifs hbl; (try simp only [World.size_alloc, World.size_setCell, size_drewN_] at hcw hfw hsw)))
    go_ret
    exact ⟨rfl, by (repeat (first | with_reducible exact Below.refl _ _ | with_reducible assumption | with_reducible refine below_drewN ?_ _ | with_reducible refine Below.drew ?_ | with_reducible refine below_alloc ?_ _ | (with_reducible refine Below.setCell ?_ (by first | (simp; done) | omega | (simp; omega)) _) | with_reducible refine belows ?_ (by assumption)))⟩
  · have h1 : 0 < U (encE 0#64 t) := by unfold U; omega
    have ca : ∀ w : World, Calls Try.prog 21 #[.int .u64 (U t)] w fun r w' => r = .returned (.tuple #[.int .i64 (S (encE 0#64 t) - 1), .bool (mayS 0#64 t)]) ∧ Below w.heap.size w w' := fun w => (align_any t w).mono fun _ _ g => ⟨by rw [g.1, hS, show (((encE 0#64 t).toNat - 1 : Nat) : Int) = ((encE 0#64 t).toNat : Int) - 1 by omega], g.2⟩
    have h2 : 0 ≤ S (encE 0#64 t) - 1 := by omega
    have h3 : S (encE 0#64 t) ≤ 40 := by omega
    clear he hS h0
    go_enter Try.func6, Try.ntmps6
    go_wp2_with (first | (go_at_call 18; (with_reducible refine (length_lit _).mono ?_); rintro e w' ⟨rfl, hbl⟩; obtain ⟨hcw, hfw, hsw⟩ := below_ifs hbl; (try simp only [World.size_alloc, World.size_setCell, size_drewN_] at hcw hfw hsw)) | (go_at_call 17; (with_reducible refine (encode_any _ _ _).mono ?_); rintro e w' ⟨rfl, hbl⟩; obtain ⟨hcw, hfw, hsw⟩ := below_ifs hbl; (try simp only [World.size_alloc, World.size_setCell, size_drewN_] at hcw hfw hsw)) | (go_at_call 19; (with_reducible refine (rencode_any _ _ _).mono ?_); rintro e w' ⟨rfl, hbl⟩; obtain ⟨hcw, hfw, hsw⟩ := below_ifs hbl; (try simp only [World.size_alloc, World.size_setCell, size_drewN_] at hcw hfw hsw)) | (go_at_call 19; (with_reducible refine (rencode_0 _ _).mono ?_); rintro e w' ⟨rfl, hbl⟩; obtain ⟨hcw, hfw, hsw⟩ := below_ifs hbl; (try simp only [World.size_alloc, World.size_setCell, size_drewN_] at hcw hfw hsw)) | (go_at_call 16; (with_reducible refine (rounded_any _ _ _).mono ?_); rintro e w' ⟨rfl, hbl⟩; obtain ⟨hcw, hfw, hsw⟩ := below_ifs hbl; (try simp only [World.size_alloc, World.size_setCell, size_drewN_] at hcw hfw hsw)) | (go_at_call 20; (with_reducible refine (rrounded_any _ _ _).mono ?_); rintro e w' ⟨rfl, hbl⟩; obtain ⟨hcw, hfw, hsw⟩ := below_ifs hbl; (try simp only [World.size_alloc, World.size_setCell, size_drewN_] at hcw hfw hsw)) | (go_at_call 20; (with_reducible refine (rrounded_0 _ _).mono ?_); rintro e w' ⟨rfl, hbl⟩; obtain ⟨hcw, hfw, hsw⟩ := below_ifs hbl; (try simp only [World.size_alloc, World.size_setCell, size_drewN_] at hcw hfw hsw)) | (go_at_call 18; (with_reducible refine (length_any _ _).mono ?_); rintro e w' ⟨rfl, hbl⟩; obtain ⟨hcw, hfw, hsw⟩ := below_ifs hbl; (try simp only [World.size_alloc, World.size_setCell, size_drewN_] at hcw hfw hsw)) | (go_at_call 21; (with_reducible refine (ca _).mono ?_); rintro e w' ⟨rfl, hbl⟩; obtain ⟨hcw, hfw, hsw⟩ := below_ifs hbl; (try simp only [World.size_alloc, World.size_setCell, size_drewN_] at hcw hfw hsw)))
    go_ret
    exact ⟨rfl, by (repeat (first | with_reducible exact Below.refl _ _ | with_reducible assumption | with_reducible refine below_drewN ?_ _ | with_reducible refine Below.drew ?_ | with_reducible refine below_alloc ?_ _ | (with_reducible refine Below.setCell ?_ (by first | (simp; done) | omega | (simp; omega)) _) | with_reducible refine belows ?_ (by assumption)))⟩

set_option maxRecDepth 100000 in
theorem lifted (os : Os) (started : os.Started) (H : Type) (enc : TypeId × Value → H) :
    ReturnsInHanded {} Try.checked os 6 .any (Rows.boundsKeepsSpec.pre6 enc Try.prog Try.f6 Rows.boundsKeepsRow.domain false) (Rows.boundsKeepsSpec.post enc Try.prog Try.f6 false true false false) := by
  refine law_lift (C := Try.checked) (tb := 4) started (by kernel_rfl) (by kernel_rfl) Try.func6 rfl rfl Try.underlying4 (by kernel_rfl) (by kernel_rfl)
    (fun ds h => by match ds, h with | [_], _ => rfl)
    (ChangeSpec.witness6 (enc := enc) (C := Try.checked) false ⟨#[], #[.agg #[.int .u64 0, .int .u64 0]], []⟩ 8 (by kernel_rfl) (by kernel_rfl) (by kernel_rfl) (by kernel_rfl)) ?_
  intro W base args ds ps hval hA hlt hfz hsz
  rw [Try.params6] at hA hval hsz
  obtain ⟨v0, d0, rfl, rfl, h0⟩ := trodAll_one hA
  obtain ⟨na, wa, nb, wb, rfl⟩ := open_leaves (d := 5) (ls := [.int .u64, .int .u64]) (by kernel_rfl) (by kernel_rfl) (hval 0 _ v0 rfl rfl) h0
  obtain ⟨a, rfl⟩ := exists_U na wa
  obtain ⟨b, rfl⟩ := exists_U nb wb
  exact walk a b W

theorem over : Rows.boundsKeepsRow.holds Try.pinned (OpenSpec.ofChange Rows.boundsKeepsSpec) :=
  OpenClaim.holds_of_wide 6 Try.f6 rfl rfl rfl rfl rfl rfl rfl ⟨rfl, rfl, rfl, rfl, rfl⟩ rfl rfl rfl rfl rfl (by kernel_rfl) Try.func6 (by kernel_rfl)
    (of_decide_eq_true (by kernel_rfl)) (by unfold Func.isWrapper; first | (rw [if_pos (by decide +kernel)]; kernel_rfl) | (rw [if_neg (by decide +kernel)]; exact ⟨rfl, rfl⟩))
    (fun os started H enc _ => lifted os started H enc)

theorem proved : Rows.BoundsKeepsSaid := over
end Go.Proofs.Ytjhekfcnoofaaaa.Keeps
