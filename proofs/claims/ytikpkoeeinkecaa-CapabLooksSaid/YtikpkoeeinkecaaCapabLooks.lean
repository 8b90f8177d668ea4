
/-
  CapabLooks: any capability tells what the document says, is right, and within any other one, or not, and has its bytes. Every input.
-/
import Derived.Test.YtikpkoeeinkecaaRows
import Derived.Test.YtikpkoeeinkecaaLaw
import Derived.Test.YtikpkoeeinkecaaCapabLaw
import Derived.Test.YtikpkoeeinkecaaCapabP
import Derived.Test.YtikpkoeeinkecaaOf
import Derived.Test.YtikpkoeeinkecaaArr
import Derived.Test.YtikpkoeeinkecaaRefBytes
namespace Go.Proofs.Ytikpkoeeinkecaa.Looks
open Go Go.RowKit Go.ChangeShapes Go.WideShapes Go.ChangeAt
set_option linter.unusedVariables false
set_option linter.unusedSimpArgs false

set_option maxRecDepth 100000
theorem rview_guard : Try.prog.eqGuardType Try.prog.depth 36 = false := by kernel_rfl
theorem rview_stood : Try.prog.stoodInHeld 36 = false := by kernel_rfl
theorem rview_eql (a b c d a' b' c' d' : BitVec 64) (w : World) : (binOp .eql 36 (.agg #[.int .u64 (U a), .int .u64 (U b), .int .u64 (U c), .int .u64 (U d)]) (.agg #[.int .u64 (U a'), .int .u64 (U b'), .int .u64 (U c'), .int .u64 (U d')])).run Try.prog w = .ok (.bool (a == a' && b == b' && (c == c' && d == d'))) w := by
  have hs := rview_stood
  have hs2 := rspan_stood
  rw [run_eql_struct]
  rw [show (10000 : Nat) = 9998 + 1 + 1 from rfl, run_equalIn_struct _ _ _ _ _ Try.underlying36 hs]
  have hsp := run_equalIn_struct (P := Try.prog) w 9998 34 #[.int .u64 (U a), .int .u64 (U b)] #[.int .u64 (U a'), .int .u64 (U b')] Try.underlying34 hs2
  simp [go_sem, Try.underlying36, Try.underlying34, hsp]
  by_cases h1 : a = a' <;> by_cases h2 : b = b' <;> by_cases h3 : c = c' <;> by_cases h4 : d = d' <;> simp [h1, h2, h3, h4]
theorem cap_eql1 (g h : Bool) (a b a' b' : BitVec 64) (w : World) : (binOp .eql 28 (.agg #[.bool g, .int .u64 (U a), .int .u64 (U b)]) (.agg #[.bool h, .int .u64 (U a'), .int .u64 (U b')])).run Try.prog w = .ok (.bool (g == h && (a == a' && b == b'))) w := cap_eql g h a b a' b' w
set_option maxRecDepth 100000 in
theorem cap_eql2 (a b : BitVec 64) (w : World) : (binOp .eql 28 (.agg #[.bool false, .int .u64 0, .int .u64 (U a)]) (.agg #[.bool false, .int .u64 0, .int .u64 (U b)])).run Try.prog w = .ok (.bool (a == b)) w := by
  have h := cap_eql false false 0#64 a 0#64 b w
  rw [show (false == false && (0#64 == 0#64 && a == b)) = (a == b) by simp] at h
  exact h
attribute [local go_sem 3000] cap_guard cap_eql1 cap_eql2 rview_guard rview_eql
set_option maxHeartbeats 8000000 in
set_option maxRecDepth 100000 in
theorem core (g h vo rt wn : Bool) (m a k b v1 v2 p y : BitVec 64) (c1 : ∀ w : World, Calls Try.prog 15 #[.agg #[.bool g, .int .u64 (U m), .int .u64 (U a)]] w fun r w' => r = .returned (.tuple #[.agg #[.int .u64 (U v1), .int .u64 (U v2), .int .u64 (U p), .int .u64 (U y)], .bool vo]) ∧ Below w.heap.size w w') (c2 : ∀ w : World, Calls Try.prog 22 #[.agg #[.bool g, .int .u64 (U m), .int .u64 (U a)]] w fun r w' => r = .returned (.tuple #[.agg #[.int .u64 (U v1), .int .u64 (U v2), .int .u64 (U p), .int .u64 (U y)], .bool vo]) ∧ Below w.heap.size w w') (c3 : ∀ w : World, Calls Try.prog 20 #[.agg #[.bool g, .int .u64 (U m), .int .u64 (U a)]] w fun r w' => r = .returned (.agg #[.int .u8 (byteI a 0), .int .u8 (byteI a 1), .int .u8 (byteI a 2), .int .u8 (byteI a 3), .int .u8 (byteI a 4), .int .u8 (byteI a 5), .int .u8 (byteI a 6), .int .u8 (byteI a 7), .int .u8 (byteI m 0), .int .u8 (byteI m 1), .int .u8 (byteI m 2), .int .u8 (byteI m 3), .int .u8 (byteI m 4), .int .u8 (byteI m 5), .int .u8 (byteI m 6), .int .u8 (byteI m 7)]) ∧ Below w.heap.size w w') (c4 : ∀ w : World, Calls Try.prog 25 #[.agg #[.bool g, .int .u64 (U m), .int .u64 (U a)]] w fun r w' => r = .returned (.agg #[.int .u8 (byteI a 0), .int .u8 (byteI a 1), .int .u8 (byteI a 2), .int .u8 (byteI a 3), .int .u8 (byteI a 4), .int .u8 (byteI a 5), .int .u8 (byteI a 6), .int .u8 (byteI a 7), .int .u8 (byteI m 0), .int .u8 (byteI m 1), .int .u8 (byteI m 2), .int .u8 (byteI m 3), .int .u8 (byteI m 4), .int .u8 (byteI m 5), .int .u8 (byteI m 6), .int .u8 (byteI m 7)]) ∧ Below w.heap.size w w') (c5 : ∀ w : World, Calls Try.prog 21 #[.agg #[.int .u8 (byteI a 0), .int .u8 (byteI a 1), .int .u8 (byteI a 2), .int .u8 (byteI a 3), .int .u8 (byteI a 4), .int .u8 (byteI a 5), .int .u8 (byteI a 6), .int .u8 (byteI a 7), .int .u8 (byteI m 0), .int .u8 (byteI m 1), .int .u8 (byteI m 2), .int .u8 (byteI m 3), .int .u8 (byteI m 4), .int .u8 (byteI m 5), .int .u8 (byteI m 6), .int .u8 (byteI m 7)], .bool h] w fun r w' => r = .returned (.agg #[.bool h, .int .u64 (U m), .int .u64 (U a)]) ∧ Below w.heap.size w w') (c6 : ∀ w : World, Calls Try.prog 16 #[.agg #[.bool g, .int .u64 (U m), .int .u64 (U a)]] w fun r w' => r = .returned (.bool rt) ∧ Below w.heap.size w w') (c7 : ∀ w : World, Calls Try.prog 23 #[.agg #[.bool g, .int .u64 (U m), .int .u64 (U a)]] w fun r w' => r = .returned (.bool rt) ∧ Below w.heap.size w w') (c8 : ∀ w : World, Calls Try.prog 17 #[.agg #[.bool g, .int .u64 (U m), .int .u64 (U a)], .agg #[.bool h, .int .u64 (U k), .int .u64 (U b)]] w fun r w' => r = .returned (.bool wn) ∧ Below w.heap.size w w') (c9 : ∀ w : World, Calls Try.prog 24 #[.agg #[.bool g, .int .u64 (U m), .int .u64 (U a)], .agg #[.bool h, .int .u64 (U k), .int .u64 (U b)]] w fun r w' => r = .returned (.bool wn) ∧ Below w.heap.size w w') (c10 : ∀ w : World, Calls Try.prog 19 #[.int .u64 (U a)] w fun r w' => r = .returned (.agg #[.bool false, .int .u64 0, .int .u64 (U a)]) ∧ Below w.heap.size w w') (w : World) : Calls Try.prog 8 #[.agg #[.bool g, .int .u64 (U m), .int .u64 (U a)], .agg #[.bool h, .int .u64 (U k), .int .u64 (U b)]] w fun r w' => r = .returned (.bool true) ∧ Below w.heap.size w w' := by
  go_enter Try.func8, Try.ntmps8
  go_wp2_with (first | (go_at_call 15; (with_reducible refine (c1 _).mono ?_); rintro e w' ⟨rfl, hbl⟩; obtain ⟨hcw, hfw, hsw⟩ := below_ifs hbl; (try simp only [World.size_alloc, World.size_setCell, World.size_drew, size_drewN_] at hcw hfw hsw)) | (go_at_call 22; (with_reducible refine (c2 _).mono ?_); rintro e w' ⟨rfl, hbl⟩; obtain ⟨hcw, hfw, hsw⟩ := below_ifs hbl; (try simp only [World.size_alloc, World.size_setCell, World.size_drew, size_drewN_] at hcw hfw hsw)) | (go_at_call 20; (with_reducible refine (c3 _).mono ?_); rintro e w' ⟨rfl, hbl⟩; obtain ⟨hcw, hfw, hsw⟩ := below_ifs hbl; (try simp only [World.size_alloc, World.size_setCell, World.size_drew, size_drewN_] at hcw hfw hsw)))
  refine wp_region_below (by kernel_rfl) (by kernel_rfl) (fun hcr hfr => ?_)
  (try simp only [World.size_alloc, World.size_setCell, World.size_drew, size_drewN_] at hcr hfr)
  repeat (go_big_quiet_step ((first | (go_at_call 11; first | with_reducible exact Calls.regrown_of (view_any _ _ _ _ _) | with_reducible exact regrown_k (view_any _ _ _ _ _) | with_reducible exact regrown_1 (view_any _ _ _ _ _) | with_reducible exact regrown_a (view_any _ _ _ _ _)) | (go_at_call 15; first | with_reducible exact Calls.regrown_of (c1 _) | with_reducible exact regrown_k (c1 _) | with_reducible exact regrown_1 (c1 _) | with_reducible exact regrown_a (c1 _)) | (go_at_call 22; first | with_reducible exact Calls.regrown_of (c2 _) | with_reducible exact regrown_k (c2 _) | with_reducible exact regrown_1 (c2 _) | with_reducible exact regrown_a (c2 _)) | (go_at_call 20; first | with_reducible exact Calls.regrown_of (c3 _) | with_reducible exact regrown_k (c3 _) | with_reducible exact regrown_1 (c3 _) | with_reducible exact regrown_a (c3 _)) | (go_at_call 25; first | with_reducible exact Calls.regrown_of (c4 _) | with_reducible exact regrown_k (c4 _) | with_reducible exact regrown_1 (c4 _) | with_reducible exact regrown_a (c4 _)) | (go_at_call 21; first | with_reducible exact Calls.regrown_of (c5 _) | with_reducible exact regrown_k (c5 _) | with_reducible exact regrown_1 (c5 _) | with_reducible exact regrown_a (c5 _)) | (go_at_call 16; first | with_reducible exact Calls.regrown_of (c6 _) | with_reducible exact regrown_k (c6 _) | with_reducible exact regrown_1 (c6 _) | with_reducible exact regrown_a (c6 _)) | (go_at_call 23; first | with_reducible exact Calls.regrown_of (c7 _) | with_reducible exact regrown_k (c7 _) | with_reducible exact regrown_1 (c7 _) | with_reducible exact regrown_a (c7 _)) | (go_at_call 17; first | with_reducible exact Calls.regrown_of (c8 _) | with_reducible exact regrown_k (c8 _) | with_reducible exact regrown_1 (c8 _) | with_reducible exact regrown_a (c8 _)) | (go_at_call 24; first | with_reducible exact Calls.regrown_of (c9 _) | with_reducible exact regrown_k (c9 _) | with_reducible exact regrown_1 (c9 _) | with_reducible exact regrown_a (c9 _)) | (go_at_call 19; first | with_reducible exact Calls.regrown_of (c10 _) | with_reducible exact regrown_k (c10 _) | with_reducible exact regrown_1 (c10 _) | with_reducible exact regrown_a (c10 _)) | (go_at_call 14; first | with_reducible exact Calls.regrown_of (one_any _) | with_reducible exact regrown_k (one_any _) | with_reducible exact regrown_1 (one_any _) | with_reducible exact regrown_a (one_any _)))))
  refine wpQuiet_nil ?_
  intro w' hbl
  clear hcr hfr
  obtain ⟨hcw, hfw, hsw⟩ := below_ifs hbl; (try simp only [World.size_alloc, World.size_setCell, World.size_drew, size_drewN_] at hcw hfw hsw)
  go_wp2_with fail
  go_ret
  exact ⟨ret_bool (by simp), by (repeat (first | with_reducible exact Below.refl _ _ | with_reducible assumption | with_reducible refine below_drewN ?_ _ | with_reducible refine Below.drew ?_ | with_reducible refine below_alloc ?_ _ | (with_reducible refine Below.setCell ?_ (by first | (simp; done) | omega | (simp; omega)) _) | with_reducible refine belows ?_ (by assumption)))⟩
theorem walk (g h : Bool) (m a k b : BitVec 64) (w : World) : Calls Try.prog 8 #[.agg #[.bool g, .int .u64 (U m), .int .u64 (U a)], .agg #[.bool h, .int .u64 (U k), .int .u64 (U b)]] w fun r w' => r = .returned (.bool true) ∧ Below w.heap.size w w' :=
  core g h _ _ _ m a k b _ _ _ _ (look_any g m a) (rlook_any g m a) (bytes_any g m a) (rbytes_any g m a) (ofb_any h m a) (right_any g m a) (rright_any g m a) (within_any g h m a k b) (rwithin_any g h m a k b) (null_any a) w

set_option maxRecDepth 100000 in
theorem lifted (os : Os) (started : os.Started) (H : Type) (enc : TypeId × Value → H) :
    ReturnsInHanded {} Try.checked os 8 .any (Rows.capabLooksSpec.pre6 enc Try.prog Try.f8 Rows.capabLooksRow.domain false) (Rows.capabLooksSpec.post enc Try.prog Try.f8 false true false false) := by
  refine law_lift (C := Try.checked) (tb := 4) started (by kernel_rfl) (by kernel_rfl) Try.func8 rfl rfl Try.underlying4 (by kernel_rfl) (by kernel_rfl)
    (fun ds h => by match ds, h with | [_, _], _ => rfl)
    (ChangeSpec.witness6 (enc := enc) (C := Try.checked) false ⟨#[], #[.agg #[.bool false, .int .u64 0, .int .u64 0], .agg #[.bool false, .int .u64 0, .int .u64 0]], []⟩ 8 (by kernel_rfl) (by kernel_rfl) (by kernel_rfl) (by kernel_rfl)) ?_
  intro W base args ds ps hval hA hlt hfz hsz
  rw [Try.params8] at hA hval hsz
  obtain ⟨v0, v1, d0, d1, p0, p1, rfl, rfl, rfl, h0, h1⟩ := trodAll_two hA
  obtain ⟨g, nx0, wx0, nx1, wx1, rfl⟩ := open_leaves (d := 5) (ls := [.bool, .int .u64, .int .u64]) (by kernel_rfl) (by kernel_rfl) (hval 0 _ v0 rfl rfl) h0
  obtain ⟨h, ny0, wy0, ny1, wy1, rfl⟩ := open_leaves (d := 5) (ls := [.bool, .int .u64, .int .u64]) (by kernel_rfl) (by kernel_rfl) (hval 1 _ v1 rfl rfl) h1
  obtain ⟨m, rfl⟩ := exists_U nx0 wx0
  obtain ⟨a, rfl⟩ := exists_U nx1 wx1
  obtain ⟨k, rfl⟩ := exists_U ny0 wy0
  obtain ⟨b, rfl⟩ := exists_U ny1 wy1
  exact walk g h m a k b W

theorem over : Rows.capabLooksRow.holds Try.pinned (OpenSpec.ofChange Rows.capabLooksSpec) :=
  OpenClaim.holds_of_wide 8 Try.f8 rfl rfl rfl rfl rfl rfl rfl ⟨rfl, rfl, rfl, rfl, rfl⟩ rfl rfl rfl rfl rfl (by kernel_rfl) Try.func8 (by kernel_rfl)
    (of_decide_eq_true (by kernel_rfl)) (by unfold Func.isWrapper; first | (rw [if_pos (by decide +kernel)]; kernel_rfl) | (rw [if_neg (by decide +kernel)]; exact ⟨rfl, rfl⟩))
    (fun os started H enc _ => lifted os started H enc)

theorem proved : Rows.CapabLooksSaid := over
end Go.Proofs.Ytikpkoeeinkecaa.Looks
