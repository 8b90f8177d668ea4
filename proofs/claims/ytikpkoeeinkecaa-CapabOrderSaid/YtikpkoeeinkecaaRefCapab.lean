
/-
  Capabilities: the document's answer; plain facts on their words.
-/
import Derived.Test.YtikpkoeeinkecaaCapabM
import Derived.Test.YtikpkoeeinkecaaRefBoundsD
namespace Go.Proofs.Ytikpkoeeinkecaa
open Go Go.RowKit
set_option linter.unusedVariables false
set_option linter.unusedSimpArgs false

theorem add_apart (x y : BitVec 64) (h : ∀ j, j < 64 → (x.getLsbD j && y.getLsbD j) = false) : x + y = x ||| y := by
  apply BitVec.add_eq_or_of_and_eq_zero
  apply ext64
  intro j hj
  rw [BitVec.getLsbD_and, h j hj]
  simp
theorem part_lsb (x : BitVec 64) (n at' j : Nat) (hn : n ≤ 64) (hj : j < 64) : ((x &&& maskF n) <<< at').getLsbD j = (decide (at' ≤ j) && decide (j < at' + n) && x.getLsbD (j - at')) := by
  rw [BitVec.getLsbD_shiftLeft, BitVec.getLsbD_and, mask_lsb _ (by omega)]
  simp only [show ((n : Nat) : Int).toNat = n by omega]
  by_cases c : at' ≤ j
  · by_cases c2 : j - at' < n
    · simp [hj, c, c2, show j < at' + n by omega]
    · simp [hj, c, c2, show ¬ j < at' + n by omega]
  · simp [hj, c, show j < at' by omega]
theorem get_rem (m : BitVec 64) (a n : Nat) (k : BitVec 64) (h : a + n ≤ 64) (hn : n < 64) (hk : k.toNat = 2 ^ n) : (m >>> a) % k = getF m a n := by
  rw [rem_mask _ n _ hn hk]
  unfold getF
  rw [if_pos ((mayF_iff _ _).2 (by omega))]
  rfl
theorem rem_B (m : BitVec 64) : m % 16384#64 = mB m := by
  have := get_rem m 0 14 16384#64 (by omega) (by omega) rfl
  unfold mB
  simpa using this
theorem rem_T (m : BitVec 64) : (m >>> 14) % 4096#64 = mT m := get_rem m 14 12 _ (by omega) (by omega) rfl
theorem rem_E (m : BitVec 64) : (m >>> 26) % 64#64 = mE m := get_rem m 26 6 _ (by omega) (by omega) rfl
theorem rem_P (m : BitVec 64) : (m >>> 32) % 512#64 = mP m := get_rem m 32 9 _ (by omega) (by omega) rfl
theorem rem_Y (m : BitVec 64) : (m >>> 48) % 4096#64 = mY m := get_rem m 48 12 _ (by omega) (by omega) rfl
theorem word_lsb (b t e : BitVec 64) (j : Nat) (hj : j < 64) : (wordF b t e).getLsbD j = if 26 ≤ j ∧ j < 32 then e.getLsbD (j - 26) else if 14 ≤ j ∧ j < 26 then t.getLsbD (j - 14) else if j < 14 then b.getLsbD j else false := by
  unfold wordF
  rw [put_lsb _ _ _ _ (by decide) _ hj, put_lsb _ _ _ _ (by decide) _ hj, put_lsb _ _ _ _ (by decide) _ hj]
  simp only [show (26 : Int).toNat = 26 from rfl, show (6 : Int).toNat = 6 from rfl, show (14 : Int).toNat = 14 from rfl, show (12 : Int).toNat = 12 from rfl, show (0 : Int).toNat = 0 from rfl]
  simp
theorem meta_lsb (b t e p y : BitVec 64) (j : Nat) (hj : j < 64) : (metaF b t e p y).getLsbD j = if 48 ≤ j ∧ j < 60 then y.getLsbD (j - 48) else if 32 ≤ j ∧ j < 41 then p.getLsbD (j - 32) else if j < 32 then (wordF b t e).getLsbD j else false := by
  unfold metaF layF
  simp only [List.foldl_cons, List.foldl_nil]
  rw [put_lsb _ _ _ _ (by decide) _ hj, put_lsb _ _ _ _ (by decide) _ hj, put_lsb _ _ _ _ (by decide) _ hj]
  simp only [show (32 : Int).toNat = 32 from rfl, show (9 : Int).toNat = 9 from rfl, show (48 : Int).toNat = 48 from rfl, show (12 : Int).toNat = 12 from rfl, show (0 : Int).toNat = 0 from rfl]
  simp
theorem high_lsb (z : BitVec 64) (n j : Nat) (hz : z.toNat < 2 ^ n) (h : n ≤ j) : z.getLsbD j = false := by
  rw [BitVec.getLsbD]
  exact Nat.testBit_lt_two_pow (Nat.lt_of_lt_of_le hz (Nat.pow_le_pow_right (by omega) h))
theorem sh_lsb (z : BitVec 64) (n a j : Nat) (hz : z.toNat < 2 ^ n) (hj : j < 64) : (z <<< a).getLsbD j = (decide (a ≤ j) && decide (j < a + n) && z.getLsbD (j - a)) := by
  rw [BitVec.getLsbD_shiftLeft]
  by_cases c : a ≤ j
  · by_cases c2 : j < a + n
    · simp [hj, c, c2]
    · rw [high_lsb z n (j - a) hz (by omega)]; simp
  · simp [c]
theorem meta_sum (b t e p y : BitVec 64) (hb : b.toNat < 16384) (ht : t.toNat < 4096) (he : e.toNat < 64) (hp : p.toNat < 512) (hy : y.toNat < 4096) :
    metaF b t e p y = b + t <<< 14 + e <<< 26 + p <<< 32 + y <<< 48 := by
  have lb : ∀ j, 14 ≤ j → b.getLsbD j = false := fun j h => high_lsb b 14 j hb h
  have l1 : ∀ j, j < 64 → (b + t <<< 14).getLsbD j = (b.getLsbD j || (decide (14 ≤ j) && decide (j < 14 + 12) && t.getLsbD (j - 14))) := fun j hj => by
    rw [add_apart b (t <<< 14) (by
      intro j hj
      rw [sh_lsb t 12 14 j ht hj]
      by_cases c : 14 ≤ j
      · rw [lb j c]; simp
      · simp [c]), BitVec.getLsbD_or, sh_lsb t 12 14 j ht hj]
  have l2 : ∀ j, j < 64 → (b + t <<< 14 + e <<< 26).getLsbD j = ((b + t <<< 14).getLsbD j || (decide (26 ≤ j) && decide (j < 26 + 6) && e.getLsbD (j - 26))) := fun j hj => by
    rw [add_apart _ (e <<< 26) (by
      intro j hj
      rw [sh_lsb e 6 26 j he hj, l1 j hj]
      by_cases c : 26 ≤ j
      · rw [lb j (by omega), decide_eq_false (show ¬ j < 14 + 12 by omega)]; simp
      · simp [c]), BitVec.getLsbD_or, sh_lsb e 6 26 j he hj]
  have l3 : ∀ j, j < 64 → (b + t <<< 14 + e <<< 26 + p <<< 32).getLsbD j = ((b + t <<< 14 + e <<< 26).getLsbD j || (decide (32 ≤ j) && decide (j < 32 + 9) && p.getLsbD (j - 32))) := fun j hj => by
    rw [add_apart _ (p <<< 32) (by
      intro j hj
      rw [sh_lsb p 9 32 j hp hj, l2 j hj, l1 j hj]
      by_cases c : 32 ≤ j
      · rw [lb j (by omega), decide_eq_false (show ¬ j < 14 + 12 by omega), decide_eq_false (show ¬ j < 26 + 6 by omega)]; simp
      · simp [c]), BitVec.getLsbD_or, sh_lsb p 9 32 j hp hj]
  apply ext64
  intro j hj
  rw [add_apart _ (y <<< 48) (by
      intro j hj
      rw [sh_lsb y 12 48 j hy hj, l3 j hj, l2 j hj, l1 j hj]
      by_cases c : 48 ≤ j
      · rw [lb j (by omega), decide_eq_false (show ¬ j < 14 + 12 by omega), decide_eq_false (show ¬ j < 26 + 6 by omega), decide_eq_false (show ¬ j < 32 + 9 by omega)]; simp
      · simp [c]), BitVec.getLsbD_or, sh_lsb y 12 48 j hy hj, l3 j hj, l2 j hj, l1 j hj, meta_lsb _ _ _ _ _ j hj, word_lsb _ _ _ j hj]
  by_cases c1 : j < 14
  · simp [c1, show ¬ 48 ≤ j by omega, show ¬ 32 ≤ j by omega, show ¬ 26 ≤ j by omega, show ¬ 14 ≤ j by omega, show j < 32 by omega]
  · rw [lb j (by omega)]
    by_cases c2 : j < 26
    · simp [c1, c2, show ¬ 48 ≤ j by omega, show ¬ 32 ≤ j by omega, show ¬ 26 ≤ j by omega, show 14 ≤ j by omega, show j < 32 by omega]
    · by_cases c3 : j < 32
      · simp [c1, c2, c3, show ¬ 48 ≤ j by omega, show ¬ 32 ≤ j by omega, show 26 ≤ j by omega]
      · by_cases c4 : j < 41
        · simp [c1, c2, c3, c4, show ¬ 48 ≤ j by omega, show 32 ≤ j by omega]
        · by_cases c5 : 48 ≤ j
          · by_cases c6 : j < 60
            · simp [c1, c2, c3, c4, c5, c6]
            · simp [c1, c2, c3, c4, c5, c6]
          · simp [c1, c2, c3, c4, c5]
/-- A word that is made of what it tells has nothing else. -/
theorem meta_own (m : BitVec 64) : (metaF (mB m) (mT m) (mE m) (mP m) (mY m) == m) = ((m >>> 41) % 128#64 == 0#64 && m >>> 60 == 0#64) := by
  have g : ∀ (a n : Nat), a + n ≤ 64 → ∀ j, j < n → (getF m a n).getLsbD j = m.getLsbD (a + j) := by
    intro a n h j hj
    rw [get_lsb _ _ _ ((mayF_iff _ _).2 (by omega))]
    simp [hj]
  have key : ∀ j, j < 64 → (metaF (mB m) (mT m) (mE m) (mP m) (mY m)).getLsbD j = (m.getLsbD j && (decide (j < 41) || (decide (48 ≤ j) && decide (j < 60)))) := by
    intro j hj
    rw [meta_lsb _ _ _ _ _ j hj, word_lsb _ _ _ j hj]
    by_cases c5 : 48 ≤ j ∧ j < 60
    · rw [if_pos c5, show (mY m).getLsbD (j - 48) = m.getLsbD (48 + (j - 48)) from g 48 12 (by omega) _ (by omega), show 48 + (j - 48) = j by omega]
      simp [c5.1, c5.2]
    · rw [if_neg c5]
      by_cases c4 : 32 ≤ j ∧ j < 41
      · rw [if_pos c4, show (mP m).getLsbD (j - 32) = m.getLsbD (32 + (j - 32)) from g 32 9 (by omega) _ (by omega), show 32 + (j - 32) = j by omega]
        simp [c4.2]
      · rw [if_neg c4]
        by_cases c3 : j < 32
        · rw [if_pos c3]
          by_cases c2 : 26 ≤ j ∧ j < 32
          · rw [if_pos c2, show (mE m).getLsbD (j - 26) = m.getLsbD (26 + (j - 26)) from g 26 6 (by omega) _ (by omega), show 26 + (j - 26) = j by omega]
            simp [show j < 41 by omega]
          · rw [if_neg c2]
            by_cases c1 : 14 ≤ j ∧ j < 26
            · rw [if_pos c1, show (mT m).getLsbD (j - 14) = m.getLsbD (14 + (j - 14)) from g 14 12 (by omega) _ (by omega), show 14 + (j - 14) = j by omega]
              simp [show j < 41 by omega]
            · rw [if_neg c1, if_pos (show j < 14 by omega), show (mB m).getLsbD j = m.getLsbD (0 + j) from g 0 14 (by omega) _ (by omega), show 0 + j = j by omega]
              simp [show j < 41 by omega]
        · rw [if_neg c3, decide_eq_false (show ¬ j < 41 by omega)]
          by_cases c : 48 ≤ j
          · rw [decide_eq_false (show ¬ j < 60 by omega)]; simp
          · simp [c]
  have e1 : (m >>> 41) % 128#64 = getF m 41 7 := get_rem m 41 7 _ (by omega) (by omega) rfl
  rw [e1, Bool.eq_iff_iff, Bool.and_eq_true, beq_iff_eq, beq_iff_eq, beq_iff_eq]
  constructor
  · intro h
    refine ⟨?_, ?_⟩
    · apply ext64
      intro j hj
      rw [get_lsb _ _ _ (by decide)]
      by_cases c : j < 7
      · have := key (41 + j) (by omega)
        rw [h, decide_eq_false (show ¬ 41 + j < 41 by omega), decide_eq_false (show ¬ 48 ≤ 41 + j by omega)] at this
        simp at this
        simp [this]
      · simp [c]
    · apply ext64
      intro j hj
      rw [BitVec.getLsbD_ushiftRight]
      by_cases c : 60 + j < 64
      · have := key (60 + j) c
        rw [h, decide_eq_false (show ¬ 60 + j < 41 by omega), decide_eq_false (show ¬ 60 + j < 60 by omega)] at this
        simp at this
        simp [this]
      · rw [lsb_ge m (60 + j) (by omega)]; simp
  · rintro ⟨h1, h2⟩
    apply ext64
    intro j hj
    rw [key j hj]
    by_cases c1 : j < 41
    · simp [c1]
    · by_cases c2 : j < 48
      · have := congrArg (fun z : BitVec 64 => z.getLsbD (j - 41)) h1
        simp only [get_lsb m 41 7 (by decide)] at this
        simp only [show (41 : Int).toNat = 41 from rfl, show (7 : Int).toNat = 7 from rfl, show 41 + (j - 41) = j by omega, decide_eq_true (show j - 41 < 7 by omega)] at this
        simp at this
        simp [this]
      · by_cases c3 : j < 60
        · simp [c3, show 48 ≤ j by omega]
        · have := congrArg (fun z : BitVec 64 => z.getLsbD (j - 60)) h2
          simp only [BitVec.getLsbD_ushiftRight, show 60 + (j - 60) = j by omega] at this
          simp at this
          simp [this]
set_option maxRecDepth 100000 in
theorem rfieldsM_any (m : BitVec 64) (w : World) : Calls Try.prog 37 #[.int .u64 (U m)] w fun r w' => r = .returned (.agg #[.int .u64 (U (mB m)), .int .u64 (U (mT m)), .int .u64 (U (mE m))]) ∧ Below w.heap.size w w' := by
  have h0 := rem_B m
  have h1 := rem_T m
  have h2 := rem_E m
  go_enter Try.func37, Try.ntmps37
  go_wp2_with fail
  refine bodyPost_ret (results_c [.int .u64 (U (mB m)), .int .u64 (U (mT m)), .int .u64 (U (mE m))] Try.results37 rfl ?_ Try.underlying68 rfl (by kernel_rfl)) rfl ?_
  · (first | (go_simp; done) | (go_simp; (simp [↓IntWalk.iteOmega]; done)) | (go_simp; intros; omega) | (go_simp; simp [↓IntWalk.iteOmega]; intros; omega))
  · exact ⟨rfl, by (repeat (first | with_reducible exact Below.refl _ _ | with_reducible assumption | with_reducible refine below_drewN ?_ _ | with_reducible refine Below.drew ?_ | with_reducible refine below_alloc ?_ _ | (with_reducible refine Below.setCell ?_ (by first | (simp; done) | omega | (simp; omega)) _) | with_reducible refine belows ?_ (by assumption)))⟩
theorem rdecM_any (m a : BitVec 64) (w : World) : Calls Try.prog 29 #[.agg #[.int .u64 (U (mB m)), .int .u64 (U (mT m)), .int .u64 (U (mE m))], .int .u64 (U a)] w fun r w' => r = .returned (.tuple #[.agg #[.int .u64 (U (lkB m a)), .int .u64 (U (lkT m a))], .bool (lkOk m a)]) ∧ Below w.heap.size w w' := rdecode_any _ _ _ a w
set_option maxHeartbeats 2000000 in
set_option maxRecDepth 100000 in
theorem rlook_any (g : Bool) (m a : BitVec 64) (w : World) : Calls Try.prog 22 #[.agg #[.bool g, .int .u64 (U m), .int .u64 (U a)]] w fun r w' => r = .returned (.tuple #[.agg #[.int .u64 (U (lkB m a)), .int .u64 (U (lkT m a)), .int .u64 (U (mP m)), .int .u64 (U (mY m))], .bool (lkOk m a)]) ∧ Below w.heap.size w w' := by
  have h1 := rem_P m
  have h2 := rem_Y m
  go_enter Try.func22, Try.ntmps22
  go_wp2_with fail
  go_region_held3 (fun w'' => Below w.heap.size w w'' ∧ w.heap.size + 2 ≤ w''.heap.size ∧ w''.cell? ⟨w.heap.size, 1, none⟩ = some (.int .u64 (U m)) ∧ w''.cell? ⟨w.heap.size, 2, none⟩ = some (.int .u64 (U a)))
    (first
      | (go_keep; done)
      | (refine ⟨?_, ?_, ?_, ?_⟩; (· (repeat (first | with_reducible exact Below.refl _ _ | with_reducible assumption | with_reducible refine below_drewN ?_ _ | with_reducible refine Below.drew ?_ | with_reducible refine below_alloc ?_ _ | (with_reducible refine Below.setCell ?_ (by first | (simp; done) | omega | (simp; omega)) _) | with_reducible refine belows ?_ (by assumption)))); (· first | omega | (simp; done) | (simp; omega)); (· (first | (go_simp; done) | (go_simp; (simp [↓IntWalk.iteOmega]; done)) | (go_simp; intros; omega) | (go_simp; simp [↓IntWalk.iteOmega]; intros; omega))); (· (first | (go_simp; done) | (go_simp; (simp [↓IntWalk.iteOmega]; done)) | (go_simp; intros; omega) | (go_simp; simp [↓IntWalk.iteOmega]; intros; omega)))))
    (first | (go_at_call 37; (with_reducible refine (rfieldsM_any _ _).mono ?_); rintro e w' ⟨rfl, hbl⟩; obtain ⟨hcw, hfw, hsw⟩ := below_ifs hbl; (try simp only [World.size_alloc, World.size_setCell, World.size_drew, size_drewN_] at hcw hfw hsw)) | (go_at_call 29; (with_reducible refine (rdecM_any _ _ _).mono ?_); rintro e w' ⟨rfl, hbl⟩; obtain ⟨hcw, hfw, hsw⟩ := below_ifs hbl; (try simp only [World.size_alloc, World.size_setCell, World.size_drew, size_drewN_] at hcw hfw hsw)))
  all_goals go_wp2_with fail
  all_goals refine bodyPost_ret (results_ct [.int .u64 (U (lkB m a)), .int .u64 (U (lkT m a)), .int .u64 (U (mP m)), .int .u64 (U (mY m))] (.bool (lkOk m a)) Try.results22 rfl rfl ?_ Try.underlying36 rfl (by kernel_rfl)) rfl ?_
  all_goals first | (first | (go_simp; done) | (go_simp; (simp [↓IntWalk.iteOmega]; done)) | (go_simp; intros; omega) | (go_simp; simp [↓IntWalk.iteOmega]; intros; omega)) | exact ⟨rfl, by (repeat (first | with_reducible exact Below.refl _ _ | with_reducible assumption | with_reducible refine below_drewN ?_ _ | with_reducible refine Below.drew ?_ | with_reducible refine below_alloc ?_ _ | (with_reducible refine Below.setCell ?_ (by first | (simp; done) | omega | (simp; omega)) _) | with_reducible refine belows ?_ (by assumption)))⟩
theorem rright_any (g : Bool) (m a : BitVec 64) (w : World) : Calls Try.prog 23 #[.agg #[.bool g, .int .u64 (U m), .int .u64 (U a)]] w fun r w' => r = .returned (.bool (rtF m a)) ∧ Below w.heap.size w w' := by
  unfold rtF
  rw [meta_own]
  cases h : lkOk m a
  all_goals cases h2 : ((m >>> 41) % 128#64 == 0#64)
  all_goals
    have cl : ∀ w : World, Calls Try.prog 22 #[.agg #[.bool g, .int .u64 (U m), .int .u64 (U a)]] w fun r w' => r = .returned (.tuple #[.agg #[.int .u64 (U (lkB m a)), .int .u64 (U (lkT m a)), .int .u64 (U (mP m)), .int .u64 (U (mY m))], .bool (lkOk m a)]) ∧ Below w.heap.size w w' := fun w => rlook_any g m a w
    rw [h] at cl
    go_enter Try.func23, Try.ntmps23
    go_wp2_with (first | (go_at_call 22; (with_reducible refine (cl _).mono ?_); rintro e w' ⟨rfl, hbl⟩; obtain ⟨hcw, hfw, hsw⟩ := below_ifs hbl; (try simp only [World.size_alloc, World.size_setCell, World.size_drew, size_drewN_] at hcw hfw hsw)))
    go_ret
    exact ⟨ret_bool (by simp), by (repeat (first | with_reducible exact Below.refl _ _ | with_reducible assumption | with_reducible refine below_drewN ?_ _ | with_reducible refine Below.drew ?_ | with_reducible refine below_alloc ?_ _ | (with_reducible refine Below.setCell ?_ (by first | (simp; done) | omega | (simp; omega)) _) | with_reducible refine belows ?_ (by assumption)))⟩
end Go.Proofs.Ytikpkoeeinkecaa
