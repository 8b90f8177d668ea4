
/-
  What an instruction's word is with another register: plain Lean, no program.
-/
import Derived.Test.YtokfokgbbpjgdaaInstB
namespace Go.Proofs.Ytokfokgbbpjgdaa
open Go Go.RowKit
set_option linter.unusedVariables false
set_option linter.unusedSimpArgs false

theorem flds_d (r : RowT) (i : Ins) (d : BitVec 64) (h : hasD r.sh = false) : flds r { i with rd := d } = flds r i := by
  unfold flds regsL; simp [h]
theorem flds_1 (r : RowT) (i : Ins) (d : BitVec 64) (h : has1 r.sh = false) : flds r { i with r1 := d } = flds r i := by
  unfold flds regsL; simp [h]
theorem xor_lt32 {x y : BitVec 64} (hx : x.toNat < 2 ^ 32) (hy : y.toNat < 2 ^ 32) : (x ^^^ y).toNat < 2 ^ 32 := by
  rw [BitVec.toNat_xor]; exact Nat.xor_lt_two_pow hx hy
/-- Where registers are, nothing else is. -/
def okD (s : Nat) : Bool := (fixS s ++ (pcs s).map (fun p => (p.2.2, p.2.1))).all fun p => (!hasD s || apartP p.1 p.2 7 5) && (!has1 s || apartP p.1 p.2 15 5)
theorem okD_all : ∀ s, s ∈ shapes → okD s = true := by decide +kernel
theorem okD_d {r : RowT} {i : Ins} (h : r.sh ∈ shapes) {q : Int × Int × BitVec 64} (hq : q ∈ fix r ++ pcsL r.sh i.imm) : (hasD r.sh = true → apartP q.1 q.2.1 7 5 = true) ∧ (has1 r.sh = true → apartP q.1 q.2.1 15 5 = true) := by
  have := okD_all _ h
  unfold okD at this
  have hm : (q.1, q.2.1) ∈ fixS r.sh ++ (pcs r.sh).map (fun p => (p.2.2, p.2.1)) := by
    rw [← rg_fix]
    rcases List.mem_append.1 hq with g | g
    · exact List.mem_append_left _ (List.mem_map.2 ⟨q, g, rfl⟩)
    · refine List.mem_append_right _ ?_
      unfold pcsL at g
      obtain ⟨p, hp, rfl⟩ := List.mem_map.1 g
      exact List.mem_map.2 ⟨p, hp, rfl⟩
  have h2 := List.all_eq_true.1 this _ hm
  simp only [Bool.and_eq_true, Bool.or_eq_true, Bool.not_eq_true'] at h2
  exact ⟨fun g => by rcases h2.1 with e | e; · rw [g] at e; cases e
                     · exact e, fun g => by rcases h2.2 with e | e; · rw [g] at e; cases e
                                            · exact e⟩
theorem one_lt32 (a : Int) (v : BitVec 64) (h : a = 7 ∨ a = 15) : (putsF [(a, 5, v)] 0#64).toNat < 2 ^ 32 := by
  rcases h with rfl | rfl
  · exact puts_lt (l := [((7 : Int), (5 : Int), v)]) (by rfl) (by rfl)
  · exact puts_lt (l := [((15 : Int), (5 : Int), v)]) (by rfl) (by rfl)
theorem get_zero (a n : Int) : getF 0#64 a n = 0#64 := by
  unfold getF; split <;> simp
theorem one_apart (a b n : Int) (v : BitVec 64) (h : a = 7 ∨ a = 15) (hm : mayF b n = true) (hp : apartP b n a 5 = true) : getF (putsF [(a, 5, v)] 0#64) b n = 0#64 := by
  rw [puts_apart [(a, 5, v)] 0#64 b n (by rcases h with rfl | rfl <;> rfl) hm (by simp [rg, hp]), get_zero]
theorem one_get (a : Int) (v : BitVec 64) (h : a = 7 ∨ a = 15) : getF (putsF [(a, 5, v)] 0#64) a 5 = v &&& maskF 5 :=
  puts_get [(a, 5, v)] 0#64 (a, 5, v) (by rcases h with rfl | rfl <;> rfl) (by simp)
theorem xor_and_ (a b m : BitVec 64) : (a &&& m) ^^^ (b &&& m) = (a ^^^ b) &&& m := by
  apply ext64
  intro j hj
  simp only [BitVec.getLsbD_xor, BitVec.getLsbD_and]
  cases a.getLsbD j <;> cases b.getLsbD j <;> cases m.getLsbD j <;> rfl
theorem xor_d (r : RowT) (i : Ins) (d : BitVec 64) (h : r.sh ∈ shapes) (hd : hasD r.sh = true) : putsF (flds r i) 0#64 ^^^ putsF (flds r { i with rd := d }) 0#64 = putsF [(7, 5, i.rd ^^^ d)] 0#64 := by
  obtain ⟨hg, hc, hu, -⟩ := okS_1 h
  refine cover_eq hg hc (xor_lt32 (word_lt r i h) (word_lt r _ h)) (one_lt32 7 _ (.inl rfl)) ?_
  intro p hp
  have hmay := good_may _ p hg hp
  rw [get_xor]
  rw [← rg_flds r i] at hp
  obtain ⟨q, hq, rfl⟩ := List.mem_map.1 hp
  have both : ∀ q : Int × Int × BitVec 64, mayF q.1 q.2.1 = true → q ∈ flds r i → q ∈ flds r { i with rd := d } → apartP q.1 q.2.1 7 5 = true → getF (putsF (flds r i) 0#64) q.1 q.2.1 ^^^ getF (putsF (flds r { i with rd := d }) 0#64) q.1 q.2.1 = getF (putsF [(7, 5, i.rd ^^^ d)] 0#64) q.1 q.2.1 := fun q hm h1 h2 ha => by
    rw [word_get r i h q h1, word_get r _ h q h2, BitVec.xor_self, one_apart 7 _ _ _ (.inl rfl) hm ha]
  have hq' := hq
  unfold flds at hq'
  rcases List.mem_append.1 hq' with g | g
  · exact both q hmay hq (List.mem_append_left _ g) ((okD_d (i := i) h (List.mem_append_left _ g)).1 hd)
  · rcases List.mem_append.1 g with g | g
    · exact both q hmay hq (List.mem_append_right _ (List.mem_append_left _ g)) ((okD_d (i := i) h (List.mem_append_right _ g)).1 hd)
    · rcases mem_regs g with ⟨rfl, hh⟩ | ⟨rfl, hh⟩ | ⟨rfl, hh⟩
      · have e1 := word_get r i h (7, 5, i.rd) hq
        have e2 := word_get r { i with rd := d } h (7, 5, d) (List.mem_append_right _ (List.mem_append_right _ (mem_d hh)))
        dsimp only at e1 e2 ⊢
        rw [e1, e2, one_get 7 _ (.inl rfl), xor_and_]
      · exact both _ hmay hq (List.mem_append_right _ (List.mem_append_right _ (mem_1 hh))) rfl
      · exact both _ hmay hq (List.mem_append_right _ (List.mem_append_right _ (mem_2 hh))) rfl
theorem xor_1 (r : RowT) (i : Ins) (d : BitVec 64) (h : r.sh ∈ shapes) (hd : has1 r.sh = true) : putsF (flds r i) 0#64 ^^^ putsF (flds r { i with r1 := d }) 0#64 = putsF [(15, 5, i.r1 ^^^ d)] 0#64 := by
  obtain ⟨hg, hc, hu, -⟩ := okS_1 h
  refine cover_eq hg hc (xor_lt32 (word_lt r i h) (word_lt r _ h)) (one_lt32 15 _ (.inr rfl)) ?_
  intro p hp
  have hmay := good_may _ p hg hp
  rw [get_xor]
  rw [← rg_flds r i] at hp
  obtain ⟨q, hq, rfl⟩ := List.mem_map.1 hp
  have both : ∀ q : Int × Int × BitVec 64, mayF q.1 q.2.1 = true → q ∈ flds r i → q ∈ flds r { i with r1 := d } → apartP q.1 q.2.1 15 5 = true → getF (putsF (flds r i) 0#64) q.1 q.2.1 ^^^ getF (putsF (flds r { i with r1 := d }) 0#64) q.1 q.2.1 = getF (putsF [(15, 5, i.r1 ^^^ d)] 0#64) q.1 q.2.1 := fun q hm h1 h2 ha => by
    rw [word_get r i h q h1, word_get r _ h q h2, BitVec.xor_self, one_apart 15 _ _ _ (.inr rfl) hm ha]
  have hq' := hq
  unfold flds at hq'
  rcases List.mem_append.1 hq' with g | g
  · exact both q hmay hq (List.mem_append_left _ g) ((okD_d (i := i) h (List.mem_append_left _ g)).2 hd)
  · rcases List.mem_append.1 g with g | g
    · exact both q hmay hq (List.mem_append_right _ (List.mem_append_left _ g)) ((okD_d (i := i) h (List.mem_append_right _ g)).2 hd)
    · rcases mem_regs g with ⟨rfl, hh⟩ | ⟨rfl, hh⟩ | ⟨rfl, hh⟩
      · exact both _ hmay hq (List.mem_append_right _ (List.mem_append_right _ (mem_d hh))) rfl
      · have e1 := word_get r i h (15, 5, i.r1) hq
        have e2 := word_get r { i with r1 := d } h (15, 5, d) (List.mem_append_right _ (List.mem_append_right _ (mem_1 hh)))
        dsimp only at e1 e2 ⊢
        rw [e1, e2, one_get 15 _ (.inr rfl), xor_and_]
      · exact both _ hmay hq (List.mem_append_right _ (List.mem_append_right _ (mem_2 hh))) rfl
/-- One register in a word, as a shift. -/
theorem one_shl (a : Int) (v : BitVec 64) (ha : a = 7 ∨ a = 15) (hv : v.toNat < 32) : putsF [(a, 5, v)] 0#64 = v <<< a.toNat := by
  have hm : mayF a 5 = true := by rcases ha with rfl | rfl <;> rfl
  have hk : v &&& maskF 5 = v := by
    apply BitVec.eq_of_toNat_eq
    rw [BitVec.toNat_and, mask_toNat 5 (by decide), show (2 ^ (5 : Int).toNat - 1) = 2 ^ 5 - 1 from rfl, Nat.and_two_pow_sub_one_eq_mod]
    exact Nat.mod_eq_of_lt hv
  show putF 0#64 a 5 v = _
  unfold putF
  rw [if_pos hm, hk]
  simp
end Go.Proofs.Ytokfokgbbpjgdaa
