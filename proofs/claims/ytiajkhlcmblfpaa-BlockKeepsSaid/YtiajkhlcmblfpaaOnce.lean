
/-
  A region that draws its order and holds ONE operation that makes memory; the others only read; some come behind it in every order: walked once, in the order of the text.
-/
import Derived.Test.YtiajkhlcmblfpaaWalk
namespace Go.Proofs.Ytiajkhlcmblfpaa
open Go Go.RowKit Go.Sort
set_option linter.unusedVariables false
set_option linter.unusedSimpArgs false

section
variable {P : Program} {ops : Array Oper} {md : Region.Mode}

/-- What is known of an operation that has been set going. -/
abbrev KnownO := Oper → Sem Next → Value → Prop
def YO (A : KnownO) (B : Oper → Prop) (ops : Array Oper) (o : Oper) (v : Value) (a : Act) : Prop :=
  (Region.wanted o (yielded ops a.tmps) = true ∧ A o (execOp a.eval o) v) ∨ (Region.wanted o (yielded ops a.tmps) = false ∧ v = undef ∧ B o)
def opO (A : KnownO) (B : Oper → Prop) (ops : Array Oper) (o : Oper) (K : Act → Prop) (a : Act) : Prop := ∃ v, YO A B ops o v a ∧ K (a.put o.dst v)
def walkO (A : KnownO) (B : Oper → Prop) (ops : Array Oper) (Q : Act → Prop) : List Oper → Act → Prop
  | [], a => Q a
  | o :: rest, a => opO A B ops o (walkO A B ops Q rest) a
def anyO (A : KnownO) (B : Oper → Prop) (md : Region.Mode) (ops : Array Oper) (Q : Act → Prop) : Nat → Array Bool → Act → Prop
  | 0, listed, a => Region.ready md ops listed = [] ∧ Q a
  | fuel + 1, listed, a => (Region.ready md ops listed = [] → Q a) ∧ ∀ i ∈ Region.ready md ops listed, ∀ o, ops[i]? = some o → opO A B ops o (anyO A B md ops Q fuel (listed.setIfInBounds i true)) a

theorem YO.same {A : KnownO} {B : Oper → Prop} {o : Oper} {v : Value} {a a' : Act} (h : YO A B ops o v a) (he : execOp a'.eval o = execOp a.eval o) (hw : Region.wanted o (yielded ops a'.tmps) = Region.wanted o (yielded ops a.tmps)) : YO A B ops o v a' := by
  unfold YO at *
  rw [he, hw]
  exact h
theorem anyO_first {A : KnownO} {B : Oper → Prop} {Q : Act → Prop} {i : Nat} {oi : Oper} {v : Value} (hi : ops[i]? = some oi) (hsel : ∀ (j : Nat) (o : Oper) cs b, ops[j]? = some o → o.op ≠ .select cs b) :
    ∀ (fuel : Nat) (listed : Array Bool) (a : Act),
      (∀ j oj, ops[j]? = some oj → j ≠ i → listed.getD j true = false → (∀ e ∈ oj.after, Region.binds md e = true → e.on ≠ i) → oi.apart ops oj = true) →
      i ∈ Region.ready md ops listed → YO A B ops oi v a →
      anyO A B md ops Q fuel (listed.setIfInBounds i true) (a.put oi.dst v) → anyO A B md ops Q (fuel + 1) listed a := by
  intro fuel
  induction fuel with
  | zero =>
    intro listed a hfree hr hy H
    refine ⟨fun h => (by rw [h] at hr; cases hr), fun j hj oj hoj => ?_⟩
    by_cases hji : j = i
    · subst hji
      rw [hi] at hoj
      cases hoj
      exact ⟨v, hy, H⟩
    · have := ready_mono hj hji
      rw [H.1] at this
      cases this
  | succ fuel ih =>
    intro listed a hfree hr hy H
    refine ⟨fun h => (by rw [h] at hr; cases hr), fun j hj oj hoj => ?_⟩
    by_cases hji : j = i
    · subst hji
      rw [hi] at hoj
      cases hoj
      exact ⟨v, hy, H⟩
    · obtain ⟨u, hu, hK⟩ := H.2 j (ready_mono hj hji) oj hoj
      obtain ⟨hjun, oj', hoj', hall⟩ := mem_ready.1 hj
      rw [hoj] at hoj'
      cases hoj'
      have hnot : ∀ e ∈ oj.after, Region.binds md e = true → e.on ≠ i := fun e he hb heq => by
        have h1 := hall e he hb
        have h0 := (mem_ready.1 hr).1
        rw [heq] at h1
        rcases Nat.lt_or_ge i listed.size with h' | h'
        · simp [h'] at h0 h1; rw [h0] at h1; cases h1
        · simp [Array.getElem?_eq_none h'] at h1
      obtain ⟨h1, h2, h3⟩ := Oper.apart_spec (hfree j oj hoj hji hjun hnot)
      have hsi := fun cs b => hsel i oi cs b hi
      have hsj := fun cs b => hsel j oj cs b hoj
      refine ⟨u, hu.same (execOp_put oj hsj a oi.dst v h1).symm (wanted_put oj a oi.dst v h1).symm, ?_⟩
      refine ih (listed.setIfInBounds j true) (a.put oj.dst u) ?_ (ready_mono hr (Ne.symm hji)) (hy.same (execOp_put oi hsi a oj.dst u h3) (wanted_put oi a oj.dst u h3)) ?_
      · intro k ok hk hki hun hno
        refine hfree k ok hk hki ?_ hno
        by_cases hjk : j = k
        · subst hjk; exact hjun
        · rw [getD_set_ne true hjk] at hun; exact hun
      · rw [Array.setIfInBounds_comm _ _ hji, ← Act.put_comm a v u h2]
        exact hK
theorem anyO_lex {A : KnownO} {B : Oper → Prop} {Q : Act → Prop} (hs : Region.noSelect ops = true) : ∀ (l : List Oper) (k : Nat) (listed : Array Bool) (a : Act), (∀ j, l[j]? = ops[k + j]?) →
    Region.lexFrom md ops l.length k listed = true → walkO A B ops Q l a → anyO A B md ops Q l.length listed a
  | [], _, _, _, _, hB, h => ⟨by simpa [Region.lexFrom] using hB, h⟩
  | o :: l, k, listed, a, hl, hB, h => by
    have h0 : ops[k]? = some o := by simpa using (hl 0).symm
    simp only [List.length_cons, Region.lexFrom, Bool.and_eq_true] at hB
    obtain ⟨⟨hr, hf⟩, hB'⟩ := hB
    obtain ⟨v, hy, hK⟩ := h
    exact anyO_first h0 (Region.noSelect_spec hs) l.length listed a (Region.free_spec h0 hf) (by simpa using hr) hy
      (anyO_lex hs l (k + 1) _ _ (fun j => by have := hl (j + 1); simpa [Nat.add_assoc, Nat.add_comm 1 j] using this) hB' hK)

/-! ### One operation makes memory -/

def plainOp : Op → Bool
  | .move _ | .assign _ | .pick _ _ _ | .load _ _ | .binOp _ _ _ _ _ | .unOp _ _ _ | .convert _ _ _ | .slice _ _ _ _ _ | .fieldAddr _ _ _ | .field _ _ _ | .indexAddr _ _ _ | .index _ _ _ | .extract _ _ => true
  | _ => false
theorem value_no_enter (s : Sem Value) (w : World) (f : FuncId) (args : Array Value) (w' : World) : (do pure (Next.value (← s)) : Sem Next).run P w ≠ .ok (.enter f args) w' := by
  simp only [Sem.run_bind]
  cases s.run P w <;> simp [go_sem]
theorem plain_no_enter {o : Oper} (h : plainOp o.op = true) (ρ : Operand → Value) (w : World) (f : FuncId) (args : Array Value) (w' : World) : (execOp ρ o).run P w ≠ .ok (.enter f args) w' := by
  unfold execOp
  cases ho : o.op <;> rw [ho] at h <;> first | (exfalso; simp [plainOp] at h; done) | (exact value_no_enter _ _ _ _ _) | (simp [go_sem]; done) | skip
  all_goals (simp only [Sem.run_bind]; generalize Sem.run P _ w = r; cases r <;> simp [go_sem])
def knownM (P : Program) (d : Tmp) (v0 : Value) (w0 w1 : World) (dep : Oper → Bool) : KnownO := fun o x v =>
  (o.dst = some d ∧ v = v0 ∧ x.run P w0 = .ok (.value v0) w1) ∨ (o.dst ≠ some d ∧ ∀ w, (w = w1 ∨ (w = w0 ∧ dep o = false)) → (x.run P w = .ok (.value v) w ∨ (x.run P w = .ok .skip w ∧ v = undef)))
theorem any_of_once {d : Tmp} {v0 : Value} {w0 w1 : World} {dep : Oper → Bool} {Q : Act → Prop} {Q' : Exit → Act → World → Prop} (i : Nat) {oM : Oper} (hi : ops[i]? = some oM) (hd : oM.dst = some d)
    (hone : ∀ (j : Nat) (o : Oper), ops[j]? = some o → o.dst = some d → j = i) (hdep : ∀ o : Oper, dep o = true → ∃ e ∈ o.after, Region.binds md e = true ∧ e.on = i)
    (hQ : ∀ a w, (w = w0 ∨ w = w1) → Q a → Q' .normal a w) :
    ∀ (fuel : Nat) (listed : Array Bool) (a : Act) (w : World), ((listed.getD i true = false ∧ w = w0) ∨ (listed.getD i true = true ∧ w = w1)) → anyO (knownM P d v0 w0 w1 dep) (fun o => o.dst ≠ some d) md ops Q fuel listed a → wpAny P md ops Q' fuel listed a w
  | 0, _, _, _, hw, h => ⟨h.1, hQ _ _ (hw.imp (fun x => x.2) (fun x => x.2)) h.2⟩
  | fuel + 1, listed, a, w, hw, h => by
    refine ⟨fun h0 => hQ _ _ (hw.imp (fun x => x.2) (fun x => x.2)) (h.1 h0), fun j hj => ?_⟩
    obtain ⟨hun, o, ho, hall⟩ := mem_ready.1 hj
    obtain ⟨v, hy, hK⟩ := h.2 j hj o ho
    have ih := fun a' w' hw' h' => any_of_once (v0 := v0) i hi hd hone hdep hQ fuel (listed.setIfInBounds j true) a' w' hw' h'
    have hout : o.dst ≠ some d → ((listed.setIfInBounds j true).getD i true = false ∧ w = w0) ∨ ((listed.setIfInBounds j true).getD i true = true ∧ w = w1) := fun hne => by
      have hji : j ≠ i := fun e => by subst e; rw [hi] at ho; cases ho; exact hne hd
      rw [getD_set_ne true hji]
      exact hw
    unfold wpOp
    simp only [ho]
    rcases hy with ⟨hy1, hy2⟩ | ⟨hy1, rfl, hB⟩
    · rw [if_pos hy1]
      refine .inl ?_
      unfold Oper.wp
      rcases hy2 with ⟨hdo, rfl, hx⟩ | ⟨hdo, hq⟩
      · obtain rfl := hone j o ho hdo
        have hw0 : w = w0 := by
          rcases hw with ⟨_, e⟩ | ⟨e, _⟩
          · exact e
          · rw [hun] at e; cases e
        subst hw0
        rw [hx]
        simp only [Oper.upon]
        refine ih _ _ (.inr ⟨?_, rfl⟩) hK
        have hlt : j < listed.size := by
          rcases Nat.lt_or_ge j listed.size with h' | h'
          · exact h'
          · rw [Array.getD_eq_getD_getElem?, Array.getElem?_eq_none h'] at hun; cases hun
        rw [Array.getD_eq_getD_getElem?, Array.getElem?_setIfInBounds_self_of_lt hlt]
        rfl
      · have hcl : w = w1 ∨ (w = w0 ∧ dep o = false) := by
          rcases hw with ⟨e, rfl⟩ | ⟨_, rfl⟩
          · cases hdp : dep o with
            | false => exact .inr ⟨rfl, rfl⟩
            | true =>
              exfalso
              obtain ⟨ed, he, hb, hon⟩ := hdep o hdp
              have hl := hall ed he hb
              rw [hon] at hl
              rw [Array.getD_eq_getD_getElem?] at hl e
              cases hc : listed[i]? with
              | none => rw [hc] at hl; cases hl
              | some b => rw [hc] at hl e; simp only [Option.getD_some] at hl e; rw [hl] at e; cases e
          · exact .inl rfl
        rcases hq w hcl with hx | ⟨hx, rfl⟩
        · rw [hx]
          simp only [Oper.upon]
          exact ih _ _ (hout hdo) hK
        · rw [hx]
          simp only [Oper.upon]
          exact ih _ _ (hout hdo) hK
    · rw [if_neg (by rw [hy1]; exact Bool.false_ne_true)]
      exact ih _ _ (hout hB) hK
/-- A stretch that only reads, in the worlds that it may meet. -/
theorem walk_of_reads {d : Tmp} {v0 : Value} {w0 w1 : World} {dep : Oper → Bool} {C : World → Prop} {Q : Act → Prop} : ∀ (l rest : List Oper) (Q1 : Act → Prop) (a : Act), (∀ o ∈ l, o.dst ≠ some d ∧ plainOp o.op = true ∧ ∀ w, (w = w1 ∨ (w = w0 ∧ dep o = false)) → C w) → (∀ a, Q1 a → walkO (knownM P d v0 w0 w1 dep) (fun o => o.dst ≠ some d) ops Q rest a) →
    wpQuiet P ops C Q1 l a → walkO (knownM P d v0 w0 w1 dep) (fun o => o.dst ≠ some d) ops Q (l ++ rest) a
  | [], _, _, _, _, hQ, h => hQ _ h
  | o :: l, rest, Q1, a, hd, hQ, h => by
    unfold wpQuiet at h
    obtain ⟨h1, h2, h3⟩ := hd o (List.mem_cons_self ..)
    by_cases c : Region.wanted o (yielded ops a.tmps) = true
    · rw [if_pos c] at h
      obtain ⟨v, hv, hn⟩ := h
      refine ⟨v, .inl ⟨c, .inr ⟨h1, fun w hw => ?_⟩⟩, walk_of_reads l rest Q1 _ (fun o ho => hd o (List.mem_cons_of_mem _ ho)) hQ hn⟩
      have hq := hv w (h3 w hw)
      unfold Oper.quietAt at hq
      have hne := plain_no_enter (P := P) h2 a.eval w
      generalize (execOp a.eval o).run P w = r at hq hne
      cases r with
      | ok n w' =>
        cases n <;> simp only [Oper.quietUpon] at hq
        case value u => obtain ⟨rfl, rfl⟩ := hq; exact .inl rfl
        case skip => obtain ⟨rfl, rfl⟩ := hq; exact .inr ⟨rfl, rfl⟩
        case enter f args => exact absurd rfl (hne f args w')
      | halt x w' => simp only [Oper.quietUpon] at hq
    · rw [if_neg c] at h
      exact ⟨undef, .inr ⟨by simpa using c, rfl, h1⟩, walk_of_reads l rest Q1 _ (fun o ho => hd o (List.mem_cons_of_mem _ ho)) hQ h⟩
/-- The region: what stands ahead of the i-th operation, which makes memory; m that come behind it in every order; the rest. -/
theorem wp_region_once {id : Nat} {Q : Exit → Act → World → Prop} {a : Act} {w : World} {l : List Oper} {oM : Oper} {d : Tmp} (i m : Nat) (v0 : Value) (w1 : World)
    (hm : P.follows .mixedOrders = true) (hB : Region.lexB .any l.toArray = true) (hl : l[i]? = some oM) (hdL : oM.dst = some d)
    (hpre : ((l.take i).all fun o => o.dst != some d && plainOp o.op) = true) (hmid : (((l.drop (i + 1)).take m).all fun o => o.dst != some d && plainOp o.op && o.after.any fun e => Region.binds .any e && e.on == i) = true) (hpost : (((l.drop (i + 1)).drop m).all fun o => o.dst != some d && plainOp o.op) = true) (hb1 : Below w.heap.size w w1)
    (h : wpQuiet P l.toArray (fun w' => w' = w.drew ∨ w' = w1) (fun a1 => Region.wanted oM (yielded l.toArray a1.tmps) = true ∧ (execOp a1.eval oM).run P w.drew = .ok (.value v0) w1 ∧
      wpQuiet P l.toArray (fun w' => w' = w1) (fun a2 => wpQuiet P l.toArray (fun w' => w' = w.drew ∨ w' = w1) (fun g => ∀ w', Below w.heap.size w w' → Q .normal g w') ((l.drop (i + 1)).drop m) a2) ((l.drop (i + 1)).take m) (a1.put (some d) v0)) (l.take i) a) :
    (Code.region id l.toArray true).wp P Q a w := by
  let dep : Oper → Bool := fun o => o.after.any fun e => Region.binds .any e && e.on == i
  obtain ⟨hil, hie⟩ := List.getElem?_eq_some_iff.1 hl
  have hsplit : l = l.take i ++ oM :: (((l.drop (i + 1)).take m) ++ ((l.drop (i + 1)).drop m)) := by
    rw [List.take_append_drop, ← hie, List.getElem_cons_drop, List.take_append_drop]
  simp only [Region.lexB, Bool.and_eq_true] at hB
  have hone : ∀ (j : Nat) (o : Oper), l.toArray[j]? = some o → o.dst = some d → j = i := fun j o ho hdo => by
    rw [List.getElem?_toArray] at ho
    rcases Nat.lt_trichotomy j i with c | c | c
    · exfalso
      have hmem : o ∈ l.take i := List.mem_iff_getElem?.2 ⟨j, by rw [List.getElem?_take_of_lt c]; exact ho⟩
      have := List.all_eq_true.1 hpre o hmem
      simp [hdo] at this
    · exact c
    · exfalso
      have hmem : o ∈ l.drop (i + 1) := List.mem_iff_getElem?.2 ⟨j - (i + 1), by rw [List.getElem?_drop, show i + 1 + (j - (i + 1)) = j by omega]; exact ho⟩
      rw [← List.take_append_drop m (l.drop (i + 1))] at hmem
      rcases List.mem_append.1 hmem with hmem | hmem
      · have := List.all_eq_true.1 hmid o hmem
        simp [hdo] at this
      · have := List.all_eq_true.1 hpost o hmem
        simp [hdo] at this
  refine wp_region_any hm (any_of_once (d := d) (v0 := v0) (w0 := w.drew) (w1 := w1) (dep := dep) (Q := fun g => ∀ w', Below w.heap.size w w' → Q .normal g w') i (by rw [List.getElem?_toArray]; exact hl) hdL hone ?_ ?_ _ _ a _ (.inl ⟨?_, rfl⟩) ?_)
  · intro o ho
    obtain ⟨e, he, hp⟩ := Array.any_eq_true'.1 ho
    simp only [Bool.and_eq_true, beq_iff_eq] at hp
    exact ⟨e, he, hp⟩
  · rintro a w' (rfl | rfl) hQ
    · exact hQ _ (Below.drew (Below.refl _ _))
    · exact hQ _ hb1
  · rw [Array.getD_eq_getD_getElem?]
    simp [hil]
  · have hwalk : walkO (knownM P d v0 w.drew w1 dep) (fun o => o.dst ≠ some d) l.toArray (fun g => ∀ w', Below w.heap.size w w' → Q .normal g w') l a := by
      conv => arg 5; rw [hsplit]
      refine walk_of_reads (l.take i) _ _ a (fun o ho => ?_) ?_ h
      · have := List.all_eq_true.1 hpre o ho
        simp only [Bool.and_eq_true, bne_iff_ne] at this
        exact ⟨this.1, this.2, fun w hw => hw.symm.imp (fun x => x.1) (fun x => x)⟩
      intro a1 ⟨h1, h2, h3⟩
      refine ⟨v0, .inl ⟨h1, .inl ⟨hdL, rfl, h2⟩⟩, ?_⟩
      rw [hdL]
      refine walk_of_reads ((l.drop (i + 1)).take m) _ _ _ (fun o ho => ?_) ?_ h3
      · have := List.all_eq_true.1 hmid o ho
        simp only [Bool.and_eq_true, bne_iff_ne] at this
        exact ⟨this.1.1, this.1.2, fun w hw => by
          rcases hw with rfl | ⟨_, hw⟩
          · rfl
          · rw [show dep o = true from this.2] at hw; cases hw⟩
      intro a2 h4
      have := walk_of_reads (P := P) (ops := l.toArray) (d := d) (v0 := v0) (w0 := w.drew) (w1 := w1) (dep := dep) ((l.drop (i + 1)).drop m) [] _ a2 (fun o ho => ?_) (fun a hQ => hQ) h4
      · rw [List.append_nil] at this
        exact this
      · have := List.all_eq_true.1 hpost o ho
        simp only [Bool.and_eq_true, bne_iff_ne] at this
        exact ⟨this.1, this.2, fun w hw => hw.symm.imp (fun x => x.1) (fun x => x)⟩
    have := anyO_lex (md := .any) hB.1 l 0 (Array.replicate l.length false) a (by simp) (by simpa using hB.2) hwalk
    simpa using this
end
end Go.Proofs.Ytiajkhlcmblfpaa
