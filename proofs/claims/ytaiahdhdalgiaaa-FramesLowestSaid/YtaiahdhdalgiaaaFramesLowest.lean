
/-
  FramesLowest: the numbers that are taken are the lowest ones that are free; as many can be taken as are; and what was given back is taken again, the lowest first. Every input.
-/
import Derived.Test.YtaiahdhdalgiaaaLaw
import Derived.Test.YtaiahdhdalgiaaaFramesMap
import Derived.Deep.RegionHeld3
namespace Go.Proofs.Ytaiahdhdalgiaaa.Lowest
open Go Go.RowKit Go.ChangeShapes Go.WideShapes Go.ChangeAt
set_option linter.unusedVariables false
set_option linter.unusedSimpArgs false

def ListAt (w : World) (a : Option Addr) (len : Nat) (f : Nat → Int) : Prop := ∀ k, k < len → ∃ b off, a = some ⟨b, off, none⟩ ∧ b < w.heap.size ∧ w.cell? ⟨b, off + k, none⟩ = some (.int .i64 (f k))
def lowT (i : Nat) (t : BitVec 64) : Prop := ∀ j, t.getLsbD j = decide (j < i)
theorem low_zero : lowT 0 0#64 := fun j => by simp
theorem low_next {n i : Nat} {t : BitVec 64} (h : lowT i t) (hi : i < n) (hn : n ≤ 64) : zerosF (openW n t) = i ∧ lowT (i + 1) (t ||| 1#64 <<< i) := by
  refine ⟨?_, fun j => ?_⟩
  · rcases next_cases n t (by omega) hn with ⟨_, b⟩ | ⟨z, a, b, c, d⟩
    · have := b i hi
      rw [h i] at this
      simp at this
    · rw [h z] at c
      simp only [decide_eq_false_iff_not] at c
      by_cases e : i < z
      · have := d i e
        rw [h i] at this
        simp at this
      · omega
  · rw [setb_bit t i j (by omega), h j]
    by_cases c : j < i
    · rw [decide_eq_true c, show decide (j < i + 1) = true from decide_eq_true (by omega)]; rfl
    · by_cases e : j = i
      · rw [decide_eq_true e, show decide (j < i + 1) = true from decide_eq_true (by omega), Bool.or_true]
      · rw [decide_eq_false c, decide_eq_false e, show decide (j < i + 1) = false from decide_eq_false (by omega)]; rfl
theorem clr_same {t : BitVec 64} {j : Nat} (hj : j < 64) (h : t.getLsbD j = false) : t &&& ~~~(1#64 <<< j) = t := by
  apply ext64
  intro i hi
  rw [clrb_bit t j i hj]
  by_cases c : i = j
  · subst c; rw [h]; rfl
  · rw [decide_eq_false c]; simp
theorem give_no {n : Nat} {t : BitVec 64} {c : Nat} {w : World} (h : PoolAt w c n t) (hn : 0 < n) (hm : n ≤ 64) (k : Nat) (hk : k < n) (ht : t.getLsbD k = false) : Calls Try.prog 7 #[.pointer (some ⟨c, 0, none⟩), .int .i64 (k : Int)] w fun r w' => r = .returned (.int .i64 13) ∧ PoolAt w' c n (t &&& ~~~(1#64 <<< k)) ∧ w.grownBy w' (some c) := by
  rw [clr_same (by omega) ht]
  exact pool_give_none h hn hm k hk ht
theorem low_bset {n : Nat} {t : BitVec 64} (h : lowT n t) : bset n t := fun j hj => by rw [h j]; exact decide_eq_false (by omega)
theorem low_full {n : Nat} {t : BitVec 64} (h : lowT n t) (h1 : 0 < n) (hn : n ≤ 64) : zerosF (openW n t) = 64 := by
  rcases next_cases n t h1 hn with ⟨a, _⟩ | ⟨z, a, b, c, d⟩
  · exact a
  · rw [h z] at c
    simp only [decide_eq_false_iff_not] at c
    omega
def HJ (wq w : World) (bm n : Nat) (t t' : BitVec 64) (ls : Int) : Prop := bset n t' ∧ PoolAt wq w.heap.size n t' ∧ MapAt wq bm n t ∧ Below w.heap.size w wq ∧ (∀ j, j < n → t'.getLsbD j = false → t.getLsbD j = false ∧ ls < (j : Int))
theorem mod_bounds (x : Int) (n : Nat) (hn : 0 < n) : -(n : Int) < x.tmod n ∧ x.tmod n < n := by
  have h1 := Int.tmod_lt_of_pos x (show (0 : Int) < n by omega)
  have h2 : -(n : Int) < x.tmod n := by
    have := Int.lt_tmod_of_pos x (show (0 : Int) < n by omega)
    omega
  exact ⟨h2, h1⟩
theorem mod_at (x : Int) (n : Nat) (hn : 0 < n) : ∃ k : Nat, k < n ∧ (x.tmod n + n) % n = (k : Int) := by
  have h4 := Int.emod_nonneg (x.tmod n + n) (show (n : Int) ≠ 0 by omega)
  have h5 := Int.emod_lt_of_pos (x.tmod n + n) (show (0 : Int) < n by omega)
  exact ⟨((x.tmod n + n) % n).toNat, by omega, by omega⟩
set_option maxHeartbeats 8000000 in
set_option maxRecDepth 100000 in
theorem walk (n0 : Int) (a : Option Addr) (len cap : Nat) (f : Nat → Int) (w : World) (hcm : cap ≤ maxLen) (hlc : len ≤ cap) (hl : ListAt w a len f) : Calls Try.prog 5 #[.int .i64 n0, .slice a len cap] w fun r w' => r = .returned (.bool true) ∧ Below w.heap.size w w' := by
  unfold maxLen at hcm
  have hmm := @run_makeMap Try.prog
  go_enter Try.func5, Try.ntmps5
  go_wp2_with fail
  obtain ⟨m, hm⟩ : ∃ m, m = 1 + n0 % 64 := ⟨_, rfl⟩
  rw [← hm]
  obtain ⟨n, hn⟩ : ∃ n : Nat, m = (n : Int) := ⟨m.toNat, by omega⟩
  have h1 : 0 < n := by omega
  have h2 : n ≤ 64 := by omega
  clear hm
  subst hn
  refine (new_good n h1 h2 _).mono ?_
  rintro e w' ⟨rfl, rfl⟩
  have hp := PoolAt.made w n
  have HR := Lib.hid (And.intro low_zero (And.intro hp ((Below.refl _ w).alloc (Nat.le_refl _) (.cells #[.int .i64 (n : Int), .int .u64 0] 27))))
  clear hp
  go_wp2_with fail
  go_loopw [7] (fun x wr => ∃ (i : Nat) (t : BitVec 64), x = .int .i64 (i : Int) ∧ i ≤ n ∧ Hid (lowT i t ∧ PoolAt wr w.heap.size n t ∧ Below w.heap.size w wr)) (fun x _ => n - (intOf x).toNat)
  case atStart => exact ⟨0, 0#64, rfl, by omega, HR⟩
  case round =>
    obtain ⟨i, t, rfl, hi, HI⟩ := hrel
    clear HR
    by_cases c : i < n
    · have hx := low_next HI.out.1 c h2
      have ct := pool_take_one HI.out.2.1 h1 h2 hx.1 (by omega)
      have HX := Lib.hid hx.2
      clear hx
      have hii : ((i : Int) != (i : Int)) = false := by simp
      go_wp2_with fail
      refine ct.mono ?_
      rintro e w2 ⟨rfl, hp2, hg2⟩
      have HY := Lib.hid (And.intro HX.out (And.intro hp2 (HI.out.2.2.grown hg2 HI.out.2.2.size (fun j h => by cases h; exact Nat.le_refl _))))
      clear hp2 hg2 HX HI
      go_wp2_with fail
      go_roundw
      case rel => exact ⟨i + 1, _, by go_num, by omega, HY⟩
      case measure => (simp [intOf]; omega)
    · have hin : n = i := by omega
      subst hin
      have hlow := HI.out.1
      have hbw := HI.out.2.2
      have hsz := hbw.size
      have ct := pool_take_full HI.out.2.1 h1 h2 (low_full hlow h1 h2)
      clear HI
      have HL := Lib.hid hlow
      clear hlow
      go_wp2_with fail
      refine ct.mono ?_
      rintro e w2 ⟨rfl, hp2, hg2⟩
      have hs2 := hg2.size
      have hp2l := hp2.1
      have HM := Lib.hid (And.intro (low_bset HL.out) (And.intro (hp2.below ((Below.refl _ w2).alloc (Nat.le_refl _) (.map #[] 0))) (And.intro (MapAt.made w2 n t (fun j hj => by rw [HL.out j]; exact decide_eq_true hj)) ((hbw.grown hg2 hsz (fun j h => by cases h; exact Nat.le_refl _)).alloc (by omega) (.map #[] 0)))))
      have hcb : w.heap.size < w2.heap.size := hp2l
      clear hp2 hg2 HL hbw
      go_wp2_with fail
      go_loopw [13] (fun x wr => ∃ (k : Nat) (t : BitVec 64), x = .int .i64 (k : Int) ∧ k ≤ len ∧ Hid (bset n t ∧ PoolAt wr w.heap.size n t ∧ MapAt wr w2.heap.size n t ∧ Below w.heap.size w wr)) (fun x _ => len - (intOf x).toNat)
      case atStart => exact ⟨0, _, rfl, by omega, HM⟩
      case round =>
        obtain ⟨k, t, rfl, hk, HI⟩ := hrel
        clear HM
        by_cases c : k < len
        · by_cases c2 : k < 100
          · have e100 : decide ((k : Int) < 100) = true := decide_eq_true (by omega)
            obtain ⟨b, off, rfl, hb, hx⟩ := hl k c
            have hx2 := (HI.out.2.2.2.cell (p := ⟨b, off + k, none⟩) hb).trans hx
            clear hx
            obtain ⟨v, hv⟩ : ∃ v, f k = v := ⟨_, rfl⟩
            rw [hv] at hx2
            clear hl hv
            obtain ⟨m1, m2⟩ := mod_bounds v n h1
            obtain ⟨j, hj, he⟩ := mod_at v n h1
            have HE := Lib.hid he
            clear he
            have hn0 : ((n : Int) == 0) = false := by rw [beq_eq_false_iff_ne]; omega
            go_upto_region 19 with (fail)
            rw [HE.out]
            clear m1 m2 hx2
            have hsb := HI.out.1
            have hp := HI.out.2.1
            have hM := HI.out.2.2.1
            have hbw := HI.out.2.2.2
            have hsz := hbw.size
            have hlk := hM.look h2 j hj
            have HSB := Lib.hid (bset_drop hsb (z := j) (by omega))
            cases hbit : t.getLsbD j
            · have HBT := Lib.hid hbit
              have ct := give_no (w := wr.drew) hp h1 h2 j hj hbit
              rw [hbit] at hlk
              have HM : Hid (MapAt wr.drew w2.heap.size n t) := Lib.hid hM
              have HB : Hid (Below w.heap.size w wr.drew) := Lib.hid hbw.drew
              clear hsb hp hM HI hbit hbw
              go_region_held3 (fun w'' => (Instr.lookup 46 (.map (some w2.heap.size)) (.int .i64 (j : Int)) false).run Try.prog w'' = .ok (.bool true) w'')
                (first | (go_keep; done) | (refine (MapAt.look HM.out h2 j hj).trans ?_; rw [HBT.out]; rfl) | (refine (MapAt.look (HM.out.kept hg5 (by simp only [ne_eq, Option.some.injEq]; omega)) h2 j hj).trans ?_; rw [HBT.out]; rfl))
                (first | (go_at_call 7; (with_reducible refine ct.mono ?_); rintro e w5 ⟨rfl, hp5, hg5⟩))
              all_goals
                have hM5 := HM.out.kept (w' := w5) hg5 (by simp only [ne_eq, Option.some.injEq]; omega)
                have hb5 := HB.out.grown (w' := w5) hg5 (show w.heap.size ≤ wr.drew.heap.size from hsz) (fun j h => by cases h; exact Nat.le_refl _)
                have hs5 := hb5.size
                obtain ⟨w6, hrun, hm6, hg6⟩ := hM5.put h2 j hj
                have HN := Lib.hid (And.intro HSB.out (And.intro (PoolAt.grown hp5 hg6 (by omega)) (And.intro hm6 (hb5.grown hg6 hs5 (fun j h => by cases h; omega)))))
                clear hM5 hb5 hp5 hg5 hm6 hg6 ct hlk
                go_wp2_with fail
                go_roundw
                case rel => exact ⟨k + 1, _, by go_num, by omega, HN⟩
                case measure => (simp [intOf]; omega)
            · have HBT := Lib.hid hbit
              have ct := pool_give_one (w := wr.drew) hp h1 h2 j hj hbit
              rw [hbit] at hlk
              have HM : Hid (MapAt wr.drew w2.heap.size n t) := Lib.hid hM
              have HB : Hid (Below w.heap.size w wr.drew) := Lib.hid hbw.drew
              clear hsb hp hM HI hbit hbw
              go_region_held3 (fun w'' => (Instr.lookup 46 (.map (some w2.heap.size)) (.int .i64 (j : Int)) false).run Try.prog w'' = .ok (.bool false) w'')
                (first | (go_keep; done) | (refine (MapAt.look HM.out h2 j hj).trans ?_; rw [HBT.out]; rfl) | (refine (MapAt.look (HM.out.kept hg5 (by simp only [ne_eq, Option.some.injEq]; omega)) h2 j hj).trans ?_; rw [HBT.out]; rfl))
                (first | (go_at_call 7; (with_reducible refine ct.mono ?_); rintro e w5 ⟨rfl, hp5, hg5⟩))
              all_goals
                have hM5 := HM.out.kept (w' := w5) hg5 (by simp only [ne_eq, Option.some.injEq]; omega)
                have hb5 := HB.out.grown (w' := w5) hg5 (show w.heap.size ≤ wr.drew.heap.size from hsz) (fun j h => by cases h; exact Nat.le_refl _)
                have hs5 := hb5.size
                obtain ⟨w6, hrun, hm6, hg6⟩ := hM5.put h2 j hj
                have HN := Lib.hid (And.intro HSB.out (And.intro (PoolAt.grown hp5 hg6 (by omega)) (And.intro hm6 (hb5.grown hg6 hs5 (fun j h => by cases h; omega)))))
                clear hM5 hb5 hp5 hg5 hm6 hg6 ct hlk
                go_wp2_with fail
                go_roundw
                case rel => exact ⟨k + 1, _, by go_num, by omega, HN⟩
                case measure => (simp [intOf]; omega)
          · have e100 : decide ((k : Int) < 100) = false := decide_eq_false (by omega)
            have hfr := HI.out.2.2.1.len
            have hle := free_le n t
            have hsz := HI.out.2.2.2.size
            have HI2 : Hid (HJ wr w w2.heap.size n t t (-1)) := Lib.hid ⟨HI.out.1, HI.out.2.1, HI.out.2.2.1, HI.out.2.2.2, fun j hj h => ⟨h, by omega⟩⟩
            clear HI hl
            go_wp2_with fail
            go_loopw [15, 16] (fun s15 s16 wq => ∃ (m : Nat) (t' : BitVec 64) (ls : Int), s15 = .int .i64 ls ∧ s16 = .int .i64 (m : Int) ∧ m ≤ 64 ∧ -1 ≤ ls ∧ ls ≤ 64 ∧ Hid (m = freeN n t') ∧ Hid (HJ wq w w2.heap.size n t t' ls)) (fun _ s16 _ => (intOf s16).toNat)
            case atStart => exact ⟨_, t, -1, rfl, rfl, by omega, by omega, by omega, Lib.hid rfl, HI2⟩
            case round =>
              obtain ⟨m, t', ls, rfl, rfl, hm64, hls0, hls1, HM, HQ⟩ := hrel
              clear HI2 hfr
              by_cases cm : 0 < m
              · obtain ⟨q, rfl⟩ : ∃ q, m = q + 1 := ⟨m - 1, by omega⟩
                rcases next_cases n t' h1 h2 with ⟨z1, z2⟩ | ⟨z, hz, z1, z2, z3⟩
                · exact absurd HM.out (by rw [(free_all n z2).1]; omega)
                · have hzt := HQ.out.2.2.2.2 z hz z2
                  have hlz := hzt.2
                  have HZT := Lib.hid hzt.1
                  have ct := pool_take_one HQ.out.2.1 h1 h2 z1 (by omega)
                  have d : decide ((z : Int) ≤ ls) = false := decide_eq_false (by omega)
                  have HF : Hid (q = freeN n (t' ||| 1#64 <<< z)) := Lib.hid (by have := HM.out; rw [free_put (by omega) z2 n hz] at this; omega)
                  have HR : Hid (∀ j, j < n → (t' ||| 1#64 <<< z).getLsbD j = false → t.getLsbD j = false ∧ (z : Int) < (j : Int)) := Lib.hid (fun j hj h => by
                    rw [setb_bit t' z j (by omega)] at h
                    simp only [Bool.or_eq_false_iff, decide_eq_false_iff_not] at h
                    refine ⟨(HQ.out.2.2.2.2 j hj h.1).1, ?_⟩
                    by_cases e : j < z
                    · rw [z3 j e] at h; cases h.1
                    · omega)
                  clear z1 z2 z3 hzt
                  go_wp2_with fail
                  refine ct.mono ?_
                  rintro e w7 ⟨rfl, hp7, hg7⟩
                  have hM7 := HQ.out.2.2.1.kept hg7 (by simp only [ne_eq, Option.some.injEq]; omega)
                  have hlk := hM7.look h2 z hz
                  rw [HZT.out] at hlk
                  have hb7 := HQ.out.2.2.2.1.grown hg7 HQ.out.2.2.2.1.size (fun j h => by cases h; exact Nat.le_refl _)
                  have HN : Hid (HJ w7 w w2.heap.size n t (t' ||| 1#64 <<< z) z) := Lib.hid ⟨bset_put HQ.out.1 hz h2, hp7, hM7, hb7, HR.out⟩
                  clear hp7 hg7 hM7 hb7 ct
                  go_wp2_with fail
                  go_roundw
                  case rel => exact ⟨q, _, _, rfl, by go_num, by omega, by omega, by omega, HF, HN⟩
                  case measure => first | (simp [intOf]; done) | (simp [intOf]; omega)
              · have hm0 : m = 0 := by omega
                have hall := free_none n (HM.out.symm.trans hm0)
                have cf := pool_free HQ.out.2.1 h1 h2 HQ.out.1
                rw [(free_all n hall).2] at cf
                have hbw := HQ.out.2.2.2.1
                have hsz2 := hbw.size
                have hnn : ((n : Int) - (n : Int) == 0) = true := by simp
                subst hm0
                clear HM HQ hall
                go_wp2_with fail
                refine cf.mono ?_
                rintro e w7 ⟨rfl, hb7⟩
                go_wp2_with fail
                go_ret
                exact ⟨rfl, hbw.trans (hb7.mono hsz2)⟩
        · obtain rfl : k = len := by omega
          have hfr := HI.out.2.2.1.len
          have hle := free_le n t
          have hsz := HI.out.2.2.2.size
          have HI2 : Hid (HJ wr w w2.heap.size n t t (-1)) := Lib.hid ⟨HI.out.1, HI.out.2.1, HI.out.2.2.1, HI.out.2.2.2, fun j hj h => ⟨h, by omega⟩⟩
          clear HI hl
          go_wp2_with fail
          go_loopw [15, 16] (fun s15 s16 wq => ∃ (m : Nat) (t' : BitVec 64) (ls : Int), s15 = .int .i64 ls ∧ s16 = .int .i64 (m : Int) ∧ m ≤ 64 ∧ -1 ≤ ls ∧ ls ≤ 64 ∧ Hid (m = freeN n t') ∧ Hid (HJ wq w w2.heap.size n t t' ls)) (fun _ s16 _ => (intOf s16).toNat)
          case atStart => exact ⟨_, t, -1, rfl, rfl, by omega, by omega, by omega, Lib.hid rfl, HI2⟩
          case round =>
            obtain ⟨m, t', ls, rfl, rfl, hm64, hls0, hls1, HM, HQ⟩ := hrel
            clear HI2 hfr
            by_cases cm : 0 < m
            · obtain ⟨q, rfl⟩ : ∃ q, m = q + 1 := ⟨m - 1, by omega⟩
              rcases next_cases n t' h1 h2 with ⟨z1, z2⟩ | ⟨z, hz, z1, z2, z3⟩
              · exact absurd HM.out (by rw [(free_all n z2).1]; omega)
              · have hzt := HQ.out.2.2.2.2 z hz z2
                have hlz := hzt.2
                have HZT := Lib.hid hzt.1
                have ct := pool_take_one HQ.out.2.1 h1 h2 z1 (by omega)
                have d : decide ((z : Int) ≤ ls) = false := decide_eq_false (by omega)
                have HF : Hid (q = freeN n (t' ||| 1#64 <<< z)) := Lib.hid (by have := HM.out; rw [free_put (by omega) z2 n hz] at this; omega)
                have HR : Hid (∀ j, j < n → (t' ||| 1#64 <<< z).getLsbD j = false → t.getLsbD j = false ∧ (z : Int) < (j : Int)) := Lib.hid (fun j hj h => by
                  rw [setb_bit t' z j (by omega)] at h
                  simp only [Bool.or_eq_false_iff, decide_eq_false_iff_not] at h
                  refine ⟨(HQ.out.2.2.2.2 j hj h.1).1, ?_⟩
                  by_cases e : j < z
                  · rw [z3 j e] at h; cases h.1
                  · omega)
                clear z1 z2 z3 hzt
                go_wp2_with fail
                refine ct.mono ?_
                rintro e w7 ⟨rfl, hp7, hg7⟩
                have hM7 := HQ.out.2.2.1.kept hg7 (by simp only [ne_eq, Option.some.injEq]; omega)
                have hlk := hM7.look h2 z hz
                rw [HZT.out] at hlk
                have hb7 := HQ.out.2.2.2.1.grown hg7 HQ.out.2.2.2.1.size (fun j h => by cases h; exact Nat.le_refl _)
                have HN : Hid (HJ w7 w w2.heap.size n t (t' ||| 1#64 <<< z) z) := Lib.hid ⟨bset_put HQ.out.1 hz h2, hp7, hM7, hb7, HR.out⟩
                clear hp7 hg7 hM7 hb7 ct
                go_wp2_with fail
                go_roundw
                case rel => exact ⟨q, _, _, rfl, by go_num, by omega, by omega, by omega, HF, HN⟩
                case measure => first | (simp [intOf]; done) | (simp [intOf]; omega)
            · have hm0 : m = 0 := by omega
              have hall := free_none n (HM.out.symm.trans hm0)
              have cf := pool_free HQ.out.2.1 h1 h2 HQ.out.1
              rw [(free_all n hall).2] at cf
              have hbw := HQ.out.2.2.2.1
              have hsz2 := hbw.size
              have hnn : ((n : Int) - (n : Int) == 0) = true := by simp
              subst hm0
              clear HM HQ hall
              go_wp2_with fail
              refine cf.mono ?_
              rintro e w7 ⟨rfl, hb7⟩
              go_wp2_with fail
              go_ret
              exact ⟨rfl, hbw.trans (hb7.mono hsz2)⟩

set_option maxRecDepth 100000 in
theorem lifted (os : Os) (started : os.Started) (H : Type) (enc : TypeId × Value → H) :
    ReturnsInHanded {} Try.checked os 5 .any (Rows.framesLowestSpec.pre6 enc Try.prog Try.f5 Rows.framesLowestRow.domain false) (Rows.framesLowestSpec.post enc Try.prog Try.f5 false true false false) := by
  refine law_lift (C := Try.checked) (tb := 4) started (by kernel_rfl) (by kernel_rfl) Try.func5 rfl rfl Try.underlying4 (by kernel_rfl) (by kernel_rfl)
    (fun ds h => by match ds, h with | [_, _], _ => rfl)
    (ChangeSpec.witness6 (enc := enc) (C := Try.checked) false ⟨#[], #[.int .i64 1, .slice none 0 0], []⟩ 8 (by kernel_rfl) (by kernel_rfl) (by kernel_rfl) (by kernel_rfl)) ?_
  intro W base args ds ps hval hA hlt hfz hsz
  rw [Try.params5] at hA hval hsz
  obtain ⟨v0, v1, d0, d1, p0, p1, rfl, rfl, rfl, h0, h1⟩ := trodAll_two hA
  obtain ⟨n, rfl, rfl, rfl, w0⟩ := open_int Try.underlying3 (hval 0 _ v0 rfl rfl) h0
  rcases open_elems (d := 5) (ls := [.int .i64]) Try.underlying35 (by kernel_rfl) (by kernel_rfl) (by decide) (hval 1 _ v1 rfl rfl) h1 with ⟨a, cap, rfl, hcap⟩ | ⟨b, off, len, cap, rfl, hpos, hlc, hcm, hb, hel⟩
  · exact walk n a 0 cap (fun _ => 0) W hcap (Nat.zero_le _) (fun k hk => absurd hk (Nat.not_lt_zero _))
  · have hx : ∀ i : Nat, ∃ z : Int, i < len → W.cell? ⟨b, off + i, none⟩ = some (.int .i64 z) := fun i => by
      by_cases ci : i < len
      · obtain ⟨z, _, hc⟩ := hel i ci
        exact ⟨z, fun _ => by have := hc 0 (by decide); simpa using this⟩
      · exact ⟨0, fun h => absurd h ci⟩
    exact walk n _ len cap (fun i => (hx i).choose) W hcm hlc (fun k hk => ⟨b, off, rfl, hb, (hx k).choose_spec hk⟩)

theorem over : Rows.framesLowestRow.holds Try.pinned (OpenSpec.ofChange Rows.framesLowestSpec) :=
  OpenClaim.holds_of_wide 5 Try.f5 rfl rfl rfl rfl rfl rfl rfl ⟨rfl, rfl, rfl, rfl, rfl⟩ rfl rfl rfl rfl rfl (by kernel_rfl) Try.func5 (by kernel_rfl)
    (of_decide_eq_true (by kernel_rfl)) (by unfold Func.isWrapper; first | (rw [if_pos (by decide +kernel)]; kernel_rfl) | (rw [if_neg (by decide +kernel)]; exact ⟨rfl, rfl⟩))
    (fun os started H enc _ => lifted os started H enc)

theorem proved : Rows.FramesLowestSaid := over
end Go.Proofs.Ytaiahdhdalgiaaa.Lowest
