
/-
  PermParses: any text is the document's permissions, or none. Every input.
-/
import Derived.Test.YtpadahmchhaifaaLaw
import Derived.ChangeMaps5
import Derived.Test.YtpadahmchhaifaaRefParse
namespace Go.Proofs.Ytpadahmchhaifaa.Parses
open Go Go.RowKit Go.ChangeShapes Go.WideShapes Go.ChangeAt
set_option linter.unusedVariables false
set_option linter.unusedSimpArgs false

theorem slice_300 (s : ByteArray) (h : 300 < s.size) (w : World) : (Instr.slice 9 (.string s) none (some (.int .i64 300)) none).run Try.prog w = .ok (.string (s.extract 0 300)) w := by
  have h1 : (300 : Int) ≤ (s.size : Int) := by omega
  simp [Instr.slice, Instr.sliceBounds, Instr.sliceBound, asIntOf, run_underlying Try.underlying9, h1]
theorem parse_xr : parseF { data := #[120, 114] } = (5#64, true) := by decide +kernel
set_option maxHeartbeats 8000000 in
set_option maxRecDepth 100000 in
theorem core (s t : ByteArray) (a : BitVec 64) (b : Bool) (ht : t = s ∧ ¬ 300 < (s.size : Int) ∨ t = s.extract 0 300 ∧ 300 < (s.size : Int)) (c1 : ∀ w : World, Calls Try.prog 7 #[.string t] w fun r w' => r = .returned (.tuple #[.int .u64 (U a), .bool b]) ∧ Below w.heap.size w w') (c2 : ∀ w : World, Calls Try.prog 8 #[.string t] w fun r w' => r = .returned (.tuple #[.int .u64 (U a), .bool b]) ∧ Below w.heap.size w w') (c3 : ∀ w : World, Calls Try.prog 7 #[.string { data := #[120, 114] }] w fun r w' => r = .returned (.tuple #[.int .u64 (U 5#64), .bool true]) ∧ Below w.heap.size w w') (w : World) : Calls Try.prog 3 #[.string s] w fun r w' => r = .returned (.bool true) ∧ Below w.heap.size w w' := by
  rcases ht with ⟨rfl, h3⟩ | ⟨rfl, h3⟩
  · go_enter Try.func3, Try.ntmps3
    go_wp2_with (first | (go_at_call 7; (with_reducible refine (c1 _).mono ?_); rintro e w' ⟨rfl, hbl⟩; obtain ⟨hcw, hfw, hsw⟩ := below_ifs hbl; (try simp only [World.size_alloc, World.size_setCell, World.size_drew, size_drewN_] at hcw hfw hsw)) | (go_at_call 8; (with_reducible refine (c2 _).mono ?_); rintro e w' ⟨rfl, hbl⟩; obtain ⟨hcw, hfw, hsw⟩ := below_ifs hbl; (try simp only [World.size_alloc, World.size_setCell, World.size_drew, size_drewN_] at hcw hfw hsw)) | (go_at_call 7; (with_reducible refine (c3 _).mono ?_); rintro e w' ⟨rfl, hbl⟩; obtain ⟨hcw, hfw, hsw⟩ := below_ifs hbl; (try simp only [World.size_alloc, World.size_setCell, World.size_drew, size_drewN_] at hcw hfw hsw)))
    go_ret
    exact ⟨ret_bool (by simp), by (repeat (first | with_reducible exact Below.refl _ _ | with_reducible assumption | with_reducible refine below_drewN ?_ _ | with_reducible refine Below.drew ?_ | with_reducible refine below_alloc ?_ _ | (with_reducible refine Below.setCell ?_ (by first | (simp; done) | omega | (simp; omega)) _) | with_reducible refine belows ?_ (by assumption)))⟩
  · have hsl := slice_300 s (by omega)
    go_enter Try.func3, Try.ntmps3
    go_wp2_with (first | (go_at_call 7; (with_reducible refine (c1 _).mono ?_); rintro e w' ⟨rfl, hbl⟩; obtain ⟨hcw, hfw, hsw⟩ := below_ifs hbl; (try simp only [World.size_alloc, World.size_setCell, World.size_drew, size_drewN_] at hcw hfw hsw)) | (go_at_call 8; (with_reducible refine (c2 _).mono ?_); rintro e w' ⟨rfl, hbl⟩; obtain ⟨hcw, hfw, hsw⟩ := below_ifs hbl; (try simp only [World.size_alloc, World.size_setCell, World.size_drew, size_drewN_] at hcw hfw hsw)) | (go_at_call 7; (with_reducible refine (c3 _).mono ?_); rintro e w' ⟨rfl, hbl⟩; obtain ⟨hcw, hfw, hsw⟩ := below_ifs hbl; (try simp only [World.size_alloc, World.size_setCell, World.size_drew, size_drewN_] at hcw hfw hsw)))
    go_ret
    exact ⟨ret_bool (by simp), by (repeat (first | with_reducible exact Below.refl _ _ | with_reducible assumption | with_reducible refine below_drewN ?_ _ | with_reducible refine Below.drew ?_ | with_reducible refine below_alloc ?_ _ | (with_reducible refine Below.setCell ?_ (by first | (simp; done) | omega | (simp; omega)) _) | with_reducible refine belows ?_ (by assumption)))⟩
theorem walk (s : ByteArray) (hs : s.size ≤ maxLen) (w : World) : Calls Try.prog 3 #[.string s] w fun r w' => r = .returned (.bool true) ∧ Below w.heap.size w w' := by
  have c3 := parse_any { data := #[120, 114] }
  rw [parse_xr] at c3
  by_cases h : 300 < (s.size : Int)
  · have hz : (s.extract 0 300).size ≤ maxLen := by
      rw [ByteArray.size_extract]
      unfold maxLen at hs ⊢
      omega
    exact core s _ _ _ (Or.inr ⟨rfl, h⟩) (parse_any _) (rparse_any _ hz) c3 w
  · exact core s _ _ _ (Or.inl ⟨rfl, h⟩) (parse_any _) (rparse_any _ hs) c3 w

set_option maxRecDepth 100000 in
theorem lifted (os : Os) (started : os.Started) (H : Type) (enc : TypeId × Value → H) :
    ReturnsInHanded {} Try.checked os 3 .any (Rows.permParsesSpec.pre6 enc Try.prog Try.f3 Rows.permParsesRow.domain false) (Rows.permParsesSpec.post enc Try.prog Try.f3 false true false false) := by
  refine law_lift (C := Try.checked) (tb := 4) started (by kernel_rfl) (by kernel_rfl) Try.func3 rfl rfl Try.underlying4 (by kernel_rfl) (by kernel_rfl)
    (fun ds h => by match ds, h with | [_], _ => rfl)
    (ChangeSpec.witness6 (enc := enc) (C := Try.checked) false ⟨#[], #[.string ⟨#[]⟩], []⟩ 8 (by kernel_rfl) (by kernel_rfl) (by kernel_rfl) (by kernel_rfl)) ?_
  intro W base args ds ps hval hA hlt hfz hsz
  rw [Try.params3] at hA hval hsz
  obtain ⟨v0, d0, rfl, rfl, h0⟩ := trodAll_one hA
  obtain ⟨s, rfl, rfl, rfl, hs⟩ := Go.ChangeMaps.open_string Try.underlying9 (hval 0 _ v0 rfl rfl) h0
  exact walk s hs W

theorem over : Rows.permParsesRow.holds Try.pinned (OpenSpec.ofChange Rows.permParsesSpec) :=
  OpenClaim.holds_of_wide 3 Try.f3 rfl rfl rfl rfl rfl rfl rfl ⟨rfl, rfl, rfl, rfl, rfl⟩ rfl rfl rfl rfl rfl (by kernel_rfl) Try.func3 (by kernel_rfl)
    (of_decide_eq_true (by kernel_rfl)) (by unfold Func.isWrapper; first | (rw [if_pos (by decide +kernel)]; kernel_rfl) | (rw [if_neg (by decide +kernel)]; exact ⟨rfl, rfl⟩))
    (fun os started H enc _ => lifted os started H enc)

theorem proved : Rows.PermParsesSaid := over
end Go.Proofs.Ytpadahmchhaifaa.Parses
