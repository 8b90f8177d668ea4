
/-
  Maps that are right: plain facts; the span that a law asks first.
-/
import Derived.Test.YtnillifinnmigaaRgK
namespace Go.Proofs.Ytnillifinnmigaa
open Go Go.RowKit
set_option linter.unusedVariables false
set_option linter.unusedSimpArgs false

/-- Reservations in a room, rising, apart. -/
structure Inv (rb rt : BitVec 64) (L : List Rg) : Prop where
  room : rb.toNat ≤ 274877906944 ∧ rt.toNat ≤ 274877906944
  each : ∀ (j : Nat) (r : Rg), L[j]? = some r → rb.toNat ≤ r.b.toNat ∧ r.b.toNat < r.t.toNat ∧ r.t.toNat ≤ rt.toNat
  sorted : ∀ (i j : Nat) (x y : Rg), i < j → L[i]? = some x → L[j]? = some y → x.t.toNat ≤ y.b.toNat
theorem Inv.none {rb rt : BitVec 64} (h : rb.toNat ≤ 274877906944 ∧ rt.toNat ≤ 274877906944) : Inv rb rt [] := ⟨h, fun j r h => by simp at h, fun i j x y _ h => by simp at h⟩
theorem Inv.top {rb rt : BitVec 64} {L : List Rg} (h : Inv rb rt L) (j : Nat) (r : Rg) (hj : L[j]? = some r) : r.t.toNat ≤ 274877906944 := Nat.le_trans (h.each j r hj).2.2 h.room.2
theorem Inv.mono {rb rt : BitVec 64} {L : List Rg} (h : Inv rb rt L) (p q : Nat) (x y : Rg) (hpq : p ≤ q) (hx : L[p]? = some x) (hy : L[q]? = some y) : U x.b ≤ U y.b := by
  by_cases e : p = q
  · subst e
    rw [hx] at hy
    rw [Option.some.inj hy]
    exact Int.le_refl _
  · have h1 := h.sorted p q x y (by omega) hx hy
    have h2 := (h.each p x hx).2.1
    unfold U; omega
theorem Inv.up {rb rt n : BitVec 64} {L : List Rg} (h : Inv rb rt L) (hn : n.toNat ≤ 274877906944) (j : Nat) (r : Rg) (base top : BitVec 64) (hj : L[j]? = some r) (hm : meetF r.b r.t base top = true) : U base < U (upF r.t (askX n)) := by
  obtain ⟨x1, x2, x3, x4⟩ := askX_nat n hn
  obtain ⟨-, u2, -⟩ := up_facts r.t (askXn n) x3 (h.top j r hj)
  rw [x1]
  unfold meetF at hm
  simp only [Bool.and_eq_true, decide_eq_true_eq] at hm
  unfold U at hm ⊢
  omega
theorem ins_get (L : List Rg) (i : Nat) (s : Rg) (hi : i ≤ L.length) (j : Nat) : (L.take i ++ [s] ++ L.drop i)[j]? = if j < i then L[j]? else if j = i then some s else L[j - 1]? := by
  have hl : (L.take i).length = i := by rw [List.length_take]; omega
  by_cases h1 : j < i
  · rw [if_pos h1, List.append_assoc, List.getElem?_append_left (by omega), List.getElem?_take, if_pos h1]
  · rw [if_neg h1, List.append_assoc, List.getElem?_append_right (by omega), hl]
    by_cases h2 : j = i
    · subst h2
      rw [if_pos rfl, Nat.sub_self]; rfl
    · rw [if_neg h2, show j - i = (j - 1 - i) + 1 by omega]
      show (L.drop i)[j - 1 - i]? = _
      rw [List.getElem?_drop]
      congr 1; omega
theorem del_get (L : List Rg) (k : Nat) (hk : k < L.length) (j : Nat) : (L.take k ++ L.drop (k + 1))[j]? = if j < k then L[j]? else L[j + 1]? := by
  have hl : (L.take k).length = k := by rw [List.length_take]; omega
  by_cases h1 : j < k
  · rw [if_pos h1, List.getElem?_append_left (by omega), List.getElem?_take, if_pos h1]
  · rw [if_neg h1, List.getElem?_append_right (by omega), hl, List.getElem?_drop]
    congr 1; omega
theorem apart_of {a b c d : BitVec 64} (h : meetF a b c d = false) : d.toNat ≤ a.toNat ∨ b.toNat ≤ c.toNat := by
  unfold meetF at h
  rw [Bool.and_eq_false_iff, decide_eq_false_iff_not, decide_eq_false_iff_not] at h
  unfold U at h
  omega
theorem Inv.add {rb rt b t : BitVec 64} {L : List Rg} (h : Inv rb rt L) (i : Nat) (kd : Int) (hi : i ≤ L.length) (hlt : b.toNat < t.toNat) (hge : rb.toNat ≤ b.toNat) (hle : t.toNat ≤ rt.toNat) (hfree : ∀ (j : Nat) (r : Rg), L[j]? = some r → meetF r.b r.t b t = false) (h1 : ∀ (q : Nat) (x : Rg), q < i → L[q]? = some x → U x.b < U b) (h2 : ∀ (q : Nat) (x : Rg), i ≤ q → L[q]? = some x → U b ≤ U x.b) : Inv rb rt (L.take i ++ [⟨b, t, kd⟩] ++ L.drop i) := by
  have lo : ∀ (q : Nat) (x : Rg), q < i → L[q]? = some x → x.t.toNat ≤ b.toNat := fun q x hq hx => by
    have e1 := h1 q x hq hx
    rcases apart_of (hfree q x hx) with g | g
    · unfold U at e1; omega
    · exact g
  have hi2 : ∀ (q : Nat) (x : Rg), i ≤ q → L[q]? = some x → t.toNat ≤ x.b.toNat := fun q x hq hx => by
    have e1 := h2 q x hq hx
    have e2 := (h.each q x hx).2.1
    rcases apart_of (hfree q x hx) with g | g
    · exact g
    · unfold U at e1; omega
  refine ⟨h.room, fun j r hj => ?_, fun p q x y hpq hx hy => ?_⟩
  · rw [ins_get L i _ hi] at hj
    split at hj
    · exact h.each j r hj
    · split at hj
      · obtain rfl := Option.some.inj hj
        exact ⟨hge, hlt, hle⟩
      · exact h.each _ r hj
  · rw [ins_get L i _ hi] at hx hy
    split at hx
    · split at hy
      · exact h.sorted p q x y hpq hx hy
      · split at hy
        · obtain rfl := Option.some.inj hy
          exact lo p x (by assumption) hx
        · exact h.sorted p (q - 1) x y (by omega) hx hy
    · split at hx
      · obtain rfl := Option.some.inj hx
        rw [if_neg (by omega), if_neg (by omega)] at hy
        exact hi2 (q - 1) y (by omega) hy
      · rw [if_neg (by omega), if_neg (by omega)] at hy
        exact h.sorted (p - 1) (q - 1) x y (by omega) hx hy
theorem set_get (L : List Rg) (k j : Nat) (s : Rg) (hk : k < L.length) : (L.set k s)[j]? = if k = j then some s else L[j]? := by
  rw [List.getElem?_set]
  split
  · subst_vars; simp [hk]
  · rfl
theorem Inv.set {rb rt : BitVec 64} {L : List Rg} (h : Inv rb rt L) (k : Nat) (r : Rg) (kd : Int) (hk : L[k]? = some r) : Inv rb rt (L.set k ⟨r.b, r.t, kd⟩) := by
  have hlt : k < L.length := (List.getElem?_eq_some_iff.1 hk).1
  have key : ∀ (j : Nat) (x : Rg), (L.set k ⟨r.b, r.t, kd⟩)[j]? = some x → ∃ y, L[j]? = some y ∧ y.b = x.b ∧ y.t = x.t := fun j x hx => by
    rw [set_get L k j _ hlt] at hx
    split at hx
    · subst_vars
      obtain rfl := Option.some.inj hx
      exact ⟨r, hk, rfl, rfl⟩
    · exact ⟨x, hx, rfl, rfl⟩
  refine ⟨h.room, fun j x hx => ?_, fun p q x y hpq hx hy => ?_⟩
  · obtain ⟨y, hy, e1, e2⟩ := key j x hx
    rw [← e1, ← e2]
    exact h.each j y hy
  · obtain ⟨x', hx', e1, e2⟩ := key p x hx
    obtain ⟨y', hy', e3, e4⟩ := key q y hy
    rw [← e2, ← e3]
    exact h.sorted p q x' y' hpq hx' hy'
theorem Inv.del {rb rt : BitVec 64} {L : List Rg} (h : Inv rb rt L) (k : Nat) (hk : k < L.length) : Inv rb rt (L.take k ++ L.drop (k + 1)) := by
  refine ⟨h.room, fun j x hx => ?_, fun p q x y hpq hx hy => ?_⟩
  · rw [del_get L k hk] at hx
    split at hx
    · exact h.each j x hx
    · exact h.each _ x hx
  · rw [del_get L k hk] at hx hy
    split at hx <;> split at hy
    · exact h.sorted p q x y hpq hx hy
    · exact h.sorted p (q + 1) x y (by omega) hx hy
    · omega
    · exact h.sorted (p + 1) (q + 1) x y (by omega) hx hy
theorem idx_ins {L : List Rg} {i : Nat} {b t : BitVec 64} {kd : Int} (hi : i ≤ L.length) (h1 : ∀ (q : Nat) (x : Rg), q < i → L[q]? = some x → U x.b < U b) : idxI (isR b t kd) (L.take i ++ [⟨b, t, kd⟩] ++ L.drop i) = (i : Int) ∧ (L.take i ++ [⟨b, t, kd⟩] ++ L.drop i)[i]? = some ⟨b, t, kd⟩ := by
  have e : (L.take i ++ [(⟨b, t, kd⟩ : Rg)] ++ L.drop i)[i]? = some ⟨b, t, kd⟩ := by rw [ins_get L i _ hi, if_neg (by omega), if_pos rfl]
  refine ⟨idx_hit _ _ i _ e (by unfold isR; simp) fun j x hj hx => ?_, e⟩
  rw [ins_get L i _ hi, if_pos hj] at hx
  have := h1 j x hj hx
  unfold isR
  have hne : (b == x.b) = false := by
    rw [beq_eq_false_iff_ne]
    rintro rfl
    omega
  rw [hne]; rfl
theorem ins_set {L : List Rg} {i : Nat} {s s' : Rg} (hi : i ≤ L.length) : (L.take i ++ [s] ++ L.drop i).set i s' = L.take i ++ [s'] ++ L.drop i := by
  have hl : (L.take i).length = i := by rw [List.length_take]; omega
  rw [List.append_assoc, List.set_append_right _ _ (by omega), hl, Nat.sub_self]
  simp
theorem ins_del {L : List Rg} {i : Nat} {s : Rg} (hi : i ≤ L.length) : (L.take i ++ [s] ++ L.drop i).take i ++ (L.take i ++ [s] ++ L.drop i).drop (i + 1) = L := by
  have hl : (L.take i).length = i := by rw [List.length_take]; omega
  have e1 : (L.take i ++ [s] ++ L.drop i).take i = L.take i := by
    rw [List.append_assoc, List.take_append_of_le_length (by omega), List.take_of_length_le (by omega)]
  have e2 : (L.take i ++ [s] ++ L.drop i).drop (i + 1) = L.drop i := by
    rw [List.drop_append, List.drop_of_length_le (by simp; omega), List.nil_append]
    simp [hl, show i + 1 - (i + 1) = 0 by omega]
  rw [e1, e2, List.take_append_drop]
theorem ins_len {L : List Rg} {i : Nat} {s : Rg} (hi : i ≤ L.length) : (L.take i ++ [s] ++ L.drop i).length = L.length + 1 := by
  simp; omega
theorem new_one : newV 4096#64 65536#64 = .tuple #[.agg #[.int .u64 (U 4096#64), .int .u64 (U 65536#64), .slice none 0 0], .int .i64 0] := by
  unfold newV
  rw [if_pos (by decide +kernel)]
theorem find_one : FR 4096#64 65536#64 (askN 5000#64) (askX 5000#64) [] (upF 4096#64 (askX 5000#64)) (some 4096#64) := by
  have e1 : askN 5000#64 = 8192#64 := by decide +kernel
  have e2 : askX 5000#64 = 12 := by decide +kernel
  rw [e1, e2]
  have e3 : upF 4096#64 12 = 4096#64 := by decide +kernel
  rw [e3]
  exact FR.hit (by decide +kernel) (fun j r h => by simp at h)
set_option maxHeartbeats 4000000 in
set_option maxRecDepth 100000 in
theorem one_any (w : World) : Calls Try.prog 6 #[] w fun e w' => e = .returned (.bool true) ∧ Below w.heap.size w w' := by
  have cn : ∀ w : World, Calls Try.prog 5 #[.agg #[.int .u64 4096, .int .u64 65536]] w fun e w' => e = .returned (.tuple #[.agg #[.int .u64 4096, .int .u64 65536, .slice none 0 0], .int .i64 0]) ∧ Below w.heap.size w w' := fun w => by
    have h := new_any 4096#64 65536#64 w
    rw [new_one] at h
    exact h
  have cf : ∀ w : World, Calls Try.prog 7 #[.agg #[.int .u64 4096, .int .u64 65536, .slice none 0 0], .int .u64 5000] w fun e w' => e = .returned (.tuple #[.agg #[.int .u64 4096, .int .u64 12288], .int .i64 0]) ∧ Below w.heap.size w w' := fun w => by
    have h := find_any 0 4096#64 65536#64 5000#64 (.slice none 0 0) [] w (SlR.nil w 0) (by simp) (by decide) (by decide) (fun j r base top h _ => by simp at h)
    refine h.mono fun e w' hx => ?_
    obtain ⟨res, hr, he, hb⟩ := hx
    have := find_one.one hr
    subst this
    have e1 : askN 5000#64 = 8192#64 := by decide +kernel
    rw [e1] at he
    exact ⟨he, hb⟩
  go_enter Try.func6, Try.ntmps6
  go_wp2_with (first | (go_at_call 5; (with_reducible refine (cn _).mono ?_); rintro e w' ⟨rfl, hbl⟩; obtain ⟨hcw, hfw, hsw⟩ := below_ifs hbl; (try simp only [World.size_alloc, World.size_setCell, World.size_drew, size_drewN_] at hcw hfw hsw)) | (go_at_call 7; (with_reducible refine (cf _).mono ?_); rintro e w' ⟨rfl, hbl⟩; obtain ⟨hcw, hfw, hsw⟩ := below_ifs hbl; (try simp only [World.size_alloc, World.size_setCell, World.size_drew, size_drewN_] at hcw hfw hsw)))
  go_ret
  exact ⟨ret_bool (by simp), by (repeat (first | with_reducible exact Below.refl _ _ | with_reducible assumption | with_reducible refine below_drewN ?_ _ | with_reducible refine Below.drew ?_ | with_reducible refine below_alloc ?_ _ | (with_reducible refine Below.setCell ?_ (by first | (simp; done) | omega | (simp; omega)) _) | with_reducible refine belows ?_ (by assumption)))⟩
end Go.Proofs.Ytnillifinnmigaa
