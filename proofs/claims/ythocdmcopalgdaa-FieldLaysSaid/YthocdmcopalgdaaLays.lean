/-
  FieldLays: any fields are laid into a word one behind the other. Every input.
-/
import Derived.Test.YthocdmcopalgdaaRows
import Derived.Test.YthocdmcopalgdaaLaw
import Derived.Test.YthocdmcopalgdaaRefField
import Derived.Test.YthocdmcopalgdaaLay
import Derived.Deep.DeepCutAuto
namespace Go.Proofs.Ythocdmcopalgdaa.Lays
open Go Go.RowKit Go.ChangeShapes Go.WideShapes Go.ChangeAt

theorem lay_new (a n : Int) (v : BitVec 64) (c : Nat) (t : TypeId) (w : World) (hc : c = w.heap.size) :
    Calls Try.prog 12 #[.slice (some ⟨c, 0, none⟩) 1 1] (w.alloc (.cells #[.int .i64 a, .int .i64 n, .int .u64 (U v)] t)) fun e w' => e = .returned (.int .u64 (U (putF 0#64 a n v))) ∧ Below c (w.alloc (.cells #[.int .i64 a, .int .i64 n, .int .u64 (U v)] t)) w' := by
  subst hc
  exact (lay_any [(a, n, v)] w.heap.size 0 1 _ (by show 1 ≤ _; omega) (by simp) (by
    intro k hk
    match k, hk with
    | 0, _ => exact ⟨by simp, by simp, by simp⟩)).mono fun _ _ h => ⟨h.1, h.2.mono (by simp)⟩
theorem lay_lit (c : Nat) (t : TypeId) (w : World) (hc : c = w.heap.size) :
    Calls Try.prog 12 #[.slice (some ⟨c, 0, none⟩) 1 1] (w.alloc (.cells #[.int .i64 4, .int .i64 4, .int .u64 10] t)) fun e w' => e = .returned (.int .u64 160) ∧ Below c (w.alloc (.cells #[.int .i64 4, .int .i64 4, .int .u64 10] t)) w' :=
  (lay_new 4 4 10#64 c t w hc).mono fun _ _ h => ⟨by rw [h.1]; rfl, h.2⟩
theorem lay_empty (p : Option Addr) (cap : Nat) (w : World) : Calls Try.prog 12 #[.slice p 0 cap] w fun e w' => e = .returned (.int .u64 0) ∧ Below w.heap.size w w' := by
  go_enter Try.func12, Try.ntmps12
  go_wp2_with fail
  refine wp_loop_rounds 1 ?_
  rw [rounds_succ]
  go_wp2
  go_ret
  exact ⟨rfl, (Below.refl _ _).alloc (Nat.le_refl _) _⟩

theorem walk_empty (p : Option Addr) (cap : Nat) (w : World) :
    Calls Try.prog 4 #[.slice p 0 cap] w fun e w' => e = .returned (.bool true) ∧ Below w.heap.size w w' := by
  go_enter Try.func4, Try.ntmps4
  go_wp2_with fail
  refine wp_loop_rounds 1 ?_
  rw [rounds_succ]
  go_wp2_with (first | (go_at_call 12; (with_reducible refine (lay_empty _ _ _).mono ?_); rintro e w' ⟨rfl, hb1⟩) | (go_at_call 12; refine (lay_lit _ _ _ rfl).mono ?_; rintro e w' ⟨rfl, hb2⟩))
  go_ret
  exact ⟨rfl, hb1.trans (((Below.refl _ _).alloc hb1.size _).trans (hb2.mono hb1.size))⟩

set_option maxHeartbeats 1000000 in
theorem walk (l : List PartV) (b off cap : Nat) (w : World) (hm : l.length ≤ 9223372036854775807) (hc : l.length ≤ cap) (hb : b < w.heap.size) (hp : PartsAt w b off l) :
    Calls Try.prog 4 #[.slice (some ⟨b, off, none⟩) l.length cap] w fun e w' => e = .returned (.bool true) ∧ Below w.heap.size w w' := by
  go_enter Try.func4, Try.ntmps4
  go_upto_if 7 with fail
  go_cut [0] (fun s0 wx => ∃ m : List PartV, m.length ≤ 40 ∧ s0 = .slice (some ⟨b, off, none⟩) m.length cap ∧ PartsAt w b off m ∧ wx = w)
  case first =>
    by_cases h : 40 < l.length
    · have Hp := Lib.hid hp
      clear hp
      go_wp2
      go_meet
      refine ⟨l.take 40, by simp; omega, ?_, ?_, rfl⟩
      · rw [List.length_take, Nat.min_eq_left (by omega)]
      · intro k hk
        have h1 : k < l.length := by simp at hk; omega
        have h2 := Hp.out k h1
        rw [List.getElem_take]
        exact h2
    · have Hp := Lib.hid hp
      clear hp
      go_wp2
      go_meet
      exact ⟨l, by omega, rfl, Hp.out, rfl⟩
  case rest =>
    obtain ⟨m, h40, rfl, hp, rfl⟩ := hcut
    clear hc hm
    have Hp := Lib.hid hp
    clear hp
    go_wp2_with fail
    go_loopw [3, 4] (fun s i wr => ∃ k : Nat, k ≤ m.length ∧ i = .int .i64 k ∧ s = .int .u64 (U (layF (m.take k))) ∧ Hid (PartsAt wr b off m) ∧ Hid (Below wc.heap.size wc wr)) (fun _ i _ => m.length - (intOf i).toNat)
    case atStart => exact ⟨0, Nat.zero_le _, rfl, rfl, Hp, Lib.hid (Below.refl _ _)⟩
    case round =>
      obtain ⟨k, hk, rfl, rfl, Hpr, Hbr⟩ := hrel
      have hbr : b < wr.heap.size := Nat.lt_of_lt_of_le hb Hbr.out.size
      by_cases hlt : k < m.length
      · obtain ⟨q0, q1, q2⟩ := Hpr.out k hlt
        have i0 : (k : Int) < (m.length : Int) := by omega
        have i1 : 0 ≤ (k : Int) := by omega
        have Hs := Lib.hid (layF_snoc m k hlt)
        go_wp2_with fail
        go_quiet ((go_at_call 11; exact Calls.quiet_of_same ((rput_any _ _ _ _ _).mono fun _ _ h => ⟨h.1, h.2.symm⟩)))
        go_wp2
        go_roundw
        case rel => exact ⟨k + 1, by omega, by go_num, congrArg (fun y => Value.int IntKind.u64 (U y)) Hs.out.symm, Hpr, Lib.hid (below_drewN Hbr.out _)⟩
        case measure => simp [intOf]; omega
      · have hk' : k = m.length := by omega
        have et : Hid (m.take k = m) := Lib.hid (by rw [hk', List.take_length])
        clear hk'
        go_wp2_with fail
        refine (lay_any m b off cap _ (by omega) hbr Hpr.out).mono ?_
        rintro e w1 ⟨rfl, hb1⟩
        rw [et.out]
        go_wp2_with fail
        refine (lay_lit _ _ _ rfl).mono ?_
        rintro e w2 ⟨rfl, hb2⟩
        go_wp2
        go_ret
        exact ⟨rfl, Hbr.out.trans ((hb1.mono Hbr.out.size).trans ((((Below.refl _ _).alloc (Nat.le_refl _) _).mono (Nat.le_trans Hbr.out.size hb1.size)).trans (hb2.mono (Nat.le_trans Hbr.out.size hb1.size))))⟩

set_option maxRecDepth 100000 in
theorem lifted (os : Os) (started : os.Started) (H : Type) (enc : TypeId × Value → H) :
    ReturnsInHanded {} Try.checked os 4 .any (Rows.fieldLaysSpec.pre6 enc Try.prog Try.f4 Rows.fieldLaysRow.domain false) (Rows.fieldLaysSpec.post enc Try.prog Try.f4 false true false false) := by
  refine law_lift (C := Try.checked) (tb := 4) started (by kernel_rfl) (by kernel_rfl) Try.func4 rfl rfl Try.underlying4 (by kernel_rfl) (by kernel_rfl)
    (fun ds h => by match ds, h with | [_], _ => rfl)
    (ChangeSpec.witness6 (enc := enc) (C := Try.checked) false ⟨#[], #[.slice none 0 0], []⟩ 8 (by kernel_rfl) (by kernel_rfl) (by kernel_rfl) (by kernel_rfl)) ?_
  intro W base args ds ps hval hA hlt hfz hsz
  rw [Try.params4] at hA hval hsz
  obtain ⟨v0, d0, rfl, rfl, h0⟩ := trodAll_one hA
  rcases open_elems (d := 5) (ls := [.int .i64, .int .i64, .int .u64]) Try.underlying28 (by kernel_rfl) (by kernel_rfl) (by decide) (hval 0 _ v0 rfl rfl) h0 with ⟨a, cap, rfl, hcap⟩ | ⟨b, off, len, cap, rfl, hpos, hlc, hcm, hb, hel⟩
  · exact walk_empty a cap W
  · obtain ⟨l, rfl, hl⟩ := list_of (Q := fun i (q : PartV) => W.cell? ⟨b, off + i * 3, none⟩ = some (.int .i64 q.1) ∧ W.cell? ⟨b, off + i * 3 + 1, none⟩ = some (.int .i64 q.2.1) ∧ W.cell? ⟨b, off + i * 3 + 2, none⟩ = some (.int .u64 (U q.2.2))) len (fun i hi => by
      obtain ⟨n0, _, n1, _, n2, w2, hc⟩ := hel i hi
      obtain ⟨x, rfl⟩ := exists_U n2 w2
      exact ⟨(n0, n1, x), hc 0 (by decide), hc 1 (by decide), hc 2 (by decide)⟩)
    exact walk l b off cap W (Nat.le_trans hlc hcm) hlc hb hl

theorem over : Rows.fieldLaysRow.holds Try.pinned (OpenSpec.ofChange Rows.fieldLaysSpec) :=
  OpenClaim.holds_of_wide 4 Try.f4 rfl rfl rfl rfl rfl rfl rfl ⟨rfl, rfl, rfl, rfl, rfl⟩ rfl rfl rfl rfl rfl (by kernel_rfl) Try.func4 (by kernel_rfl)
    (of_decide_eq_true (by kernel_rfl)) (by unfold Func.isWrapper; first | (rw [if_pos (by decide +kernel)]; kernel_rfl) | (rw [if_neg (by decide +kernel)]; exact ⟨rfl, rfl⟩))
    (fun os started H enc _ => lifted os started H enc)

theorem proved : Rows.FieldLaysSaid := over
end Go.Proofs.Ythocdmcopalgdaa.Lays
