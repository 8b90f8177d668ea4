
/-
  A region that draws its order and holds ONE call whose value hangs on the world (a slice's place), of which the others read only what is the same whatever it is: walked once, in the order of the text.
-/
import Derived.Test.YtaiahdhdalgiaaaWalk
namespace Go.Proofs.Ytaiahdhdalgiaaa
open Go Go.RowKit Go.Sort
set_option linter.unusedVariables false
set_option linter.unusedSimpArgs false

section
variable {P : Program} {ops : Array Oper} {md : Region.Mode}

/-- What is known of an operation that has been set going. -/
abbrev Known := Oper → Sem Next → Value → Prop
def YK (A : Known) (ops : Array Oper) (o : Oper) (v : Value) (a : Act) : Prop :=
  (Region.wanted o (yielded ops a.tmps) = true ∧ A o (execOp a.eval o) v) ∨ (Region.wanted o (yielded ops a.tmps) = false ∧ v = undef)
def opK (A : Known) (ops : Array Oper) (o : Oper) (K : Act → Prop) (a : Act) : Prop := ∃ v, YK A ops o v a ∧ K (a.put o.dst v)
def walkK (A : Known) (ops : Array Oper) (Q : Act → Prop) : List Oper → Act → Prop
  | [], a => Q a
  | o :: rest, a => opK A ops o (walkK A ops Q rest) a
def anyK (A : Known) (md : Region.Mode) (ops : Array Oper) (Q : Act → Prop) : Nat → Array Bool → Act → Prop
  | 0, listed, a => Region.ready md ops listed = [] ∧ Q a
  | fuel + 1, listed, a => (Region.ready md ops listed = [] → Q a) ∧ ∀ i ∈ Region.ready md ops listed, ∀ o, ops[i]? = some o → opK A ops o (anyK A md ops Q fuel (listed.setIfInBounds i true)) a

theorem YK.same {A : Known} {o : Oper} {v : Value} {a a' : Act} (h : YK A ops o v a) (he : execOp a'.eval o = execOp a.eval o) (hw : Region.wanted o (yielded ops a'.tmps) = Region.wanted o (yielded ops a.tmps)) : YK A ops o v a' := by
  unfold YK at *
  rw [he, hw]
  exact h
theorem anyK_first {A : Known} {Q : Act → Prop} {i : Nat} {oi : Oper} {v : Value} (hi : ops[i]? = some oi) (hsel : ∀ (j : Nat) (o : Oper) cs b, ops[j]? = some o → o.op ≠ .select cs b) :
    ∀ (fuel : Nat) (listed : Array Bool) (a : Act),
      (∀ j oj, ops[j]? = some oj → j ≠ i → listed.getD j true = false → (∀ e ∈ oj.after, Region.binds md e = true → e.on ≠ i) → oi.apart ops oj = true) →
      i ∈ Region.ready md ops listed → YK A ops oi v a →
      anyK A md ops Q fuel (listed.setIfInBounds i true) (a.put oi.dst v) → anyK A md ops Q (fuel + 1) listed a := by
  intro fuel
  induction fuel with
  | zero =>
    intro listed a hfree hr hy H
    refine ⟨fun h => (by rw [h] at hr; cases hr), fun j hj oj hoj => ?_⟩
    by_cases hji : j = i
    · subst hji
      rw [hi] at hoj
      cases hoj
      exact ⟨v, hy, H⟩
    · have := ready_mono hj hji
      rw [H.1] at this
      cases this
  | succ fuel ih =>
    intro listed a hfree hr hy H
    refine ⟨fun h => (by rw [h] at hr; cases hr), fun j hj oj hoj => ?_⟩
    by_cases hji : j = i
    · subst hji
      rw [hi] at hoj
      cases hoj
      exact ⟨v, hy, H⟩
    · obtain ⟨u, hu, hK⟩ := H.2 j (ready_mono hj hji) oj hoj
      obtain ⟨hjun, oj', hoj', hall⟩ := mem_ready.1 hj
      rw [hoj] at hoj'
      cases hoj'
      have hnot : ∀ e ∈ oj.after, Region.binds md e = true → e.on ≠ i := fun e he hb heq => by
        have h1 := hall e he hb
        have h0 := (mem_ready.1 hr).1
        rw [heq] at h1
        rcases Nat.lt_or_ge i listed.size with h' | h'
        · simp [h'] at h0 h1; rw [h0] at h1; cases h1
        · simp [Array.getElem?_eq_none h'] at h1
      obtain ⟨h1, h2, h3⟩ := Oper.apart_spec (hfree j oj hoj hji hjun hnot)
      have hsi := fun cs b => hsel i oi cs b hi
      have hsj := fun cs b => hsel j oj cs b hoj
      refine ⟨u, hu.same (execOp_put oj hsj a oi.dst v h1).symm (wanted_put oj a oi.dst v h1).symm, ?_⟩
      refine ih (listed.setIfInBounds j true) (a.put oj.dst u) ?_ (ready_mono hr (Ne.symm hji)) (hy.same (execOp_put oi hsi a oj.dst u h3) (wanted_put oi a oj.dst u h3)) ?_
      · intro k ok hk hki hun hno
        refine hfree k ok hk hki ?_ hno
        by_cases hjk : j = k
        · subst hjk; exact hjun
        · rw [getD_set_ne true hjk] at hun; exact hun
      · rw [Array.setIfInBounds_comm _ _ hji, ← Act.put_comm a v u h2]
        exact hK
theorem anyK_lex {A : Known} {Q : Act → Prop} (hs : Region.noSelect ops = true) : ∀ (l : List Oper) (k : Nat) (listed : Array Bool) (a : Act), (∀ j, l[j]? = ops[k + j]?) →
    Region.lexFrom md ops l.length k listed = true → walkK A ops Q l a → anyK A md ops Q l.length listed a
  | [], _, _, _, _, hB, h => ⟨by simpa [Region.lexFrom] using hB, h⟩
  | o :: l, k, listed, a, hl, hB, h => by
    have h0 : ops[k]? = some o := by simpa using (hl 0).symm
    simp only [List.length_cons, Region.lexFrom, Bool.and_eq_true] at hB
    obtain ⟨⟨hr, hf⟩, hB'⟩ := hB
    obtain ⟨v, hy, hK⟩ := h
    exact anyK_first h0 (Region.noSelect_spec hs) l.length listed a (Region.free_spec h0 hf) (by simpa using hr) hy
      (anyK_lex hs l (k + 1) _ _ (fun j => by have := hl (j + 1); simpa [Nat.add_assoc, Nat.add_comm 1 j] using this) hB' hK)

/-! ### One call's value is one of a kind -/

/-- A call that hands back one of a kind, and leaves a world of the class. -/
def looseAt (P : Program) (C : World → Prop) (V : Value → Prop) (x : Sem Next) : Prop :=
  ∀ w, C w → ∃ f args, x.run P w = .ok (.enter f args) w ∧ Calls P f args w fun e w' => ∃ u, e = .returned u ∧ V u ∧ C w'
def knownL (P : Program) (C : World → Prop) (d : Tmp) (v0 : Value) (V : Value → Prop) : Known := fun o x v =>
  (o.dst = some d ∧ v = v0 ∧ looseAt P C V x) ∨ (o.dst ≠ some d ∧ ∀ w, C w → Oper.quietUpon P C w v (x.run P w))
/-- What is at hand, and what the walk has in its place. -/
def relL (d : Tmp) (v0 : Value) (V : Value → Prop) (a g : Act) : Prop := a = g ∨ ∃ v, V v ∧ g.eval (.tmp d) = v0 ∧ a = g.put (some d) v
/-- An operation makes no difference between them. -/
def blindL (P : Program) (ops : Array Oper) (d : Tmp) (v0 : Value) (V : Value → Prop) (o : Oper) : Prop :=
  ∀ (g : Act) (v : Value), V v → g.eval (.tmp d) = v0 → Region.wanted o (yielded ops (g.put (some d) v).tmps) = Region.wanted o (yielded ops g.tmps) ∧ ∀ w, (execOp (g.put (some d) v).eval o).run P w = (execOp g.eval o).run P w

theorem act_put_put (g : Act) (d : Option Tmp) (u v : Value) : (g.put d u).put d v = g.put d v := by
  cases d with
  | none => rfl
  | some d => simp [Act.put, Array.setIfInBounds_setIfInBounds]
theorem eval_put_at (g : Act) (d : Tmp) (u : Value) (h : d < g.tmps.size) : (g.put (some d) u).eval (.tmp d) = u := by
  simp [Act.put, Act.eval, h]
theorem act_put_out (g : Act) (d : Tmp) (u : Value) (h : ¬ d < g.tmps.size) : g.put (some d) u = g := by
  obtain ⟨t, ds⟩ := g
  simp only [Act.put]
  congr 1
  exact Array.setIfInBounds_eq_of_size_le (by simpa using h)
theorem eval_put_in {g : Act} {d : Tmp} {v0 u : Value} (h : g.eval (.tmp d) = v0) (h0 : v0 ≠ undef) : (g.put (some d) u).eval (.tmp d) = u := by
  by_cases c : d < g.tmps.size
  · exact eval_put_at g d u c
  · exfalso
    apply h0
    rw [← h]
    simp [Act.eval, Array.getElem?_eq_none (Nat.le_of_not_lt c)]
theorem relL_put {d : Tmp} {v0 : Value} {V : Value → Prop} {a g : Act} (h : relL d v0 V a g) {x : Option Tmp} (hx : x ≠ some d) (u : Value) : relL d v0 V (a.put x u) (g.put x u) := by
  rcases h with rfl | ⟨v, hv, h0, rfl⟩
  · exact .inl rfl
  · exact .inr ⟨v, hv, by rw [Act.eval_put (fun e he hc => hx (by cases hc; exact he))]; exact h0, by rw [Act.put_comm _ _ _ (fun e he hc => hx (by cases he; exact hc))]⟩
theorem relL_same {d : Tmp} {v0 : Value} {V : Value → Prop} {a g : Act} (h : relL d v0 V a g) (u : Value) : a.put (some d) u = g.put (some d) u := by
  rcases h with rfl | ⟨v, _, _, rfl⟩
  · rfl
  · exact act_put_put _ _ _ _
theorem relL_at {d : Tmp} {v0 : Value} {V : Value → Prop} {a g : Act} (h : relL d v0 V a g) {u : Value} (hu : V u) : relL d v0 V (a.put (some d) u) (g.put (some d) v0) := by
  rw [relL_same h]
  by_cases c : d < g.tmps.size
  · exact .inr ⟨u, hu, eval_put_at g d v0 c, (act_put_put _ _ _ _).symm⟩
  · rw [act_put_out _ _ _ c, act_put_out _ _ _ c]
    exact .inl rfl
theorem any_of_loose {C : World → Prop} {d : Tmp} {v0 : Value} {V : Value → Prop} {Q : Act → Prop} {Q' : Exit → Act → World → Prop}
    (hb : ∀ (i : Nat) (o : Oper), ops[i]? = some o → blindL P ops d v0 V o) (hQ : ∀ a g w, C w → relL d v0 V a g → Q g → Q' .normal a w) :
    ∀ (fuel : Nat) (listed : Array Bool) (a g : Act) (w : World), C w → relL d v0 V a g → anyK (knownL P C d v0 V) md ops Q fuel listed g → wpAny P md ops Q' fuel listed a w
  | 0, _, _, _, _, hw, hr, h => ⟨h.1, hQ _ _ _ hw hr h.2⟩
  | fuel + 1, listed, a, g, w, hw, hr, h => by
    refine ⟨fun h0 => hQ _ _ _ hw hr (h.1 h0), fun i hi => ?_⟩
    obtain ⟨-, o, ho, -⟩ := mem_ready.1 hi
    obtain ⟨v, hy, hK⟩ := h.2 i hi o ho
    have ih := fun a' g' w' hw' hr' h' => any_of_loose hb hQ fuel (listed.setIfInBounds i true) a' g' w' hw' hr' h'
    have hwt : Region.wanted o (yielded ops a.tmps) = Region.wanted o (yielded ops g.tmps) ∧ (execOp a.eval o).run P w = (execOp g.eval o).run P w := by
      rcases hr with rfl | ⟨v', hv', h0, rfl⟩
      · exact ⟨rfl, rfl⟩
      · exact ⟨(hb i o ho g v' hv' h0).1, (hb i o ho g v' hv' h0).2 w⟩
    unfold wpOp
    simp only [ho]
    rcases hy with ⟨hy1, hy2⟩ | ⟨hy1, rfl⟩
    · rw [if_pos (by rw [hwt.1]; exact hy1)]
      refine .inl ?_
      unfold Oper.wp
      rw [hwt.2]
      rcases hy2 with ⟨hd, rfl, hl⟩ | ⟨hd, hq⟩
      · obtain ⟨f, args, hx, hc⟩ := hl w hw
        rw [hx, Oper.upon_enter]
        refine hc.mono fun e w' ⟨u, he, hu, hw'⟩ => ?_
        subst he
        rw [hd] at hK ⊢
        exact ih _ _ _ hw' (relL_at hr hu) hK
      · have hq := hq w hw
        generalize (execOp g.eval o).run P w = r at hq
        cases r with
        | ok n w' =>
          cases n <;> simp only [Oper.quietUpon] at hq <;> simp only [Oper.upon]
          case value u =>
            obtain ⟨rfl, rfl⟩ := hq
            exact ih _ _ _ hw (relL_put hr hd _) hK
          case skip =>
            obtain ⟨rfl, rfl⟩ := hq
            exact ih _ _ _ hw (relL_put hr hd _) hK
          case enter f args =>
            obtain ⟨rfl, hc⟩ := hq
            refine hc.mono fun e w'' ⟨he, hw''⟩ => ?_
            subst he
            exact ih _ _ _ hw'' (relL_put hr hd _) hK
        | halt x w' => simp only [Oper.quietUpon] at hq
    · rw [if_neg (by rw [hwt.1, hy1]; exact Bool.false_ne_true)]
      by_cases hd : o.dst = some d
      · rw [hd] at hK ⊢
        rw [relL_same hr]
        exact ih _ _ _ hw (.inl rfl) hK
      · exact ih _ _ _ hw (relL_put hr hd _) hK
theorem walk_of_quiet {C : World → Prop} {d : Tmp} {v0 : Value} {V : Value → Prop} {Q : Act → Prop} : ∀ (l rest : List Oper) (Q1 : Act → Prop) (a : Act), (∀ o ∈ l, o.dst ≠ some d) → (∀ a, Q1 a → walkK (knownL P C d v0 V) ops Q rest a) →
    wpQuiet P ops C Q1 l a → walkK (knownL P C d v0 V) ops Q (l ++ rest) a
  | [], _, _, _, _, hQ, h => hQ _ h
  | o :: l, rest, Q1, a, hd, hQ, h => by
    unfold wpQuiet at h
    by_cases c : Region.wanted o (yielded ops a.tmps) = true
    · rw [if_pos c] at h
      obtain ⟨v, hv, hn⟩ := h
      exact ⟨v, .inl ⟨c, .inr ⟨hd o (List.mem_cons_self ..), hv⟩⟩, walk_of_quiet l rest Q1 _ (fun o ho => hd o (List.mem_cons_of_mem _ ho)) hQ hn⟩
    · rw [if_neg c] at h
      exact ⟨undef, .inr ⟨by simpa using c, rfl⟩, walk_of_quiet l rest Q1 _ (fun o ho => hd o (List.mem_cons_of_mem _ ho)) hQ h⟩
theorem blind_of {d : Tmp} {v0 : Value} {V : Value → Prop} {o : Oper} (hs : ∀ cs b, o.op ≠ .select cs b) (h : (o.looksAt ops).contains d = false) : blindL P ops d v0 V o := by
  intro g v _ _
  have h' : ∀ e, (some d : Option Tmp) = some e → e ∉ o.looksAt ops := fun e he hm => by
    cases he
    rw [List.contains_iff_mem.2 hm] at h
    cases h
  exact ⟨wanted_put o g (some d) v h', fun w => by rw [execOp_put o hs g (some d) v h']⟩
theorem wanted_at {d : Tmp} {o : Oper} (h : (match o.guard with | some (g, _) => ((ops[g]?).bind (·.dst)) == some d | none => false) = false) (g : Act) (v : Value) : Region.wanted o (yielded ops (g.put (some d) v).tmps) = Region.wanted o (yielded ops g.tmps) := by
  unfold Region.wanted
  cases hg : o.guard with
  | none => rfl
  | some gw =>
    obtain ⟨k, want⟩ := gw
    rw [hg] at h
    simp only at h
    have hy : yielded ops (g.put (some d) v).tmps k = yielded ops g.tmps k := by
      unfold yielded
      cases ht : (ops[k]?).bind (·.dst) with
      | none => rfl
      | some t =>
        rw [ht] at h
        have hne : d ≠ t := fun e => by subst e; simp at h
        simp [Act.put, Array.getElem?_setIfInBounds_ne hne]
    simp only [hy]

/-- The region: 'pre', the call 'oL' into the slot 'd', 'post'; the one operation that reads it stands at 'k'. -/
theorem wp_region_loose {id : Nat} {Q : Exit → Act → World → Prop} {a : Act} {w : World} {l pre post : List Oper} {oL oR : Oper} {d : Tmp} (k : Nat) (v0 : Value) (V : Value → Prop)
    (hm : P.follows .mixedOrders = true) (hB : Region.lexB .any l.toArray = true) (hl : l = pre ++ oL :: post) (hdL : oL.dst = some d) (hpre : (pre.all fun o => o.dst != some d) = true) (hpost : (post.all fun o => o.dst != some d) = true)
    (hk : l.toArray[k]? = some oR) (hblind : blindL P l.toArray d v0 V oR) (hrest : ((List.range l.length).all fun i => i == k || !(((l.toArray[i]?).map (·.looksAt l.toArray)).getD []).contains d) = true)
    (h : (∀ (d : Nat) (os : Array Obj) (b o : Nat) (s : Option Nat), (grow (redrawn w d) os).cell? ⟨b, o, s⟩ = if b < w.heap.size then w.cell? ⟨b, o, s⟩ else cellX (grow (redrawn w d) os) b o s) →
      (∀ (d : Nat) (os : Array Obj) (b o : Nat) (s : Option Nat), (grow (redrawn w d) os).frozen? ⟨b, o, s⟩ = if b < w.heap.size then w.frozen? ⟨b, o, s⟩ else frozenX (grow (redrawn w d) os) b o s) →
      wpQuiet P l.toArray (fun w' => ∃ p : Regrown, w' = grow (redrawn w p.d) p.os) (fun a1 => Region.wanted oL (yielded l.toArray a1.tmps) = true ∧ (∀ p : Regrown, ∃ f args, (execOp a1.eval oL).run P (grow (redrawn w p.d) p.os) = .ok (.enter f args) (grow (redrawn w p.d) p.os) ∧ Calls P f args (grow (redrawn w p.d) p.os) fun e w' => ∃ u, e = .returned u ∧ V u ∧ Below (grow (redrawn w p.d) p.os).heap.size (grow (redrawn w p.d) p.os) w') ∧
        wpQuiet P l.toArray (fun w' => ∃ p : Regrown, w' = grow (redrawn w p.d) p.os) (fun g => (∀ w', Below w.heap.size w w' → Q .normal g w') ∧ ∀ v, V v → ∀ w', Below w.heap.size w w' → Q .normal (g.put (some d) v) w') post (a1.put (some d) v0)) pre a) :
    (Code.region id l.toArray true).wp P Q a w := by
  have hcl : ∀ w', (∃ p : Regrown, w' = grow (redrawn w p.d) p.os) → Below w.heap.size w w' := fun w' ⟨p, hp⟩ => by subst hp; exact below_regrown w p.d p.os
  have h := h (fun d os => (below_ifs (below_regrown w d os)).1) (fun d os => (below_ifs (below_regrown w d os)).2.1)
  simp only [Region.lexB, Bool.and_eq_true] at hB
  have hb : ∀ (i : Nat) (o : Oper), l.toArray[i]? = some o → blindL P l.toArray d v0 V o := fun i o ho => by
    by_cases c : i = k
    · subst c
      rw [hk] at ho
      cases ho
      exact hblind
    · have := List.all_eq_true.1 hrest i (List.mem_range.2 (by have := (Array.getElem?_eq_some_iff.1 ho).1; simpa using this))
      rw [ho] at this
      simp only [Option.map_some, Option.getD_some, Bool.or_eq_true, beq_iff_eq, c, false_or, Bool.not_eq_true'] at this
      exact blind_of (fun cs b => Region.noSelect_spec hB.1 i o cs b ho) this
  refine wp_region_any hm (any_of_loose (C := fun w' => ∃ p : Regrown, w' = grow (redrawn w p.d) p.os) (d := d) (v0 := v0) (V := V)
    (Q := fun g => (∀ w', Below w.heap.size w w' → Q .normal g w') ∧ ∀ v, V v → ∀ w', Below w.heap.size w w' → Q .normal (g.put (some d) v) w') hb ?_ _ _ a a _ ⟨⟨w.drawn + 1, #[]⟩, by rw [grow_empty]; rfl⟩ (.inl rfl) ?_)
  · intro a g w' hw' hr hQ
    rcases hr with rfl | ⟨v, hv, -, rfl⟩
    · exact hQ.1 _ (hcl _ hw')
    · exact hQ.2 v hv _ (hcl _ hw')
  · have hwalk : walkK (knownL P (fun w' => ∃ p : Regrown, w' = grow (redrawn w p.d) p.os) d v0 V) l.toArray (fun g => (∀ w', Below w.heap.size w w' → Q .normal g w') ∧ ∀ v, V v → ∀ w', Below w.heap.size w w' → Q .normal (g.put (some d) v) w') l a := by
      conv => arg 4; rw [hl]
      refine walk_of_quiet pre (oL :: post) _ a (fun o ho => by have := List.all_eq_true.1 hpre o ho; simpa using this) ?_ h
      intro a1 ⟨h1, h2, h3⟩
      refine ⟨v0, .inl ⟨h1, .inl ⟨hdL, rfl, ?_⟩⟩, ?_⟩
      · rintro w' ⟨p, rfl⟩
        obtain ⟨f, args, hx, hc⟩ := h2 p
        refine ⟨f, args, hx, hc.mono fun e w'' ⟨u, he, hu, hbl⟩ => ⟨u, he, hu, ?_⟩⟩
        exact regrown_of_below ((below_regrown w p.d p.os).trans ⟨hbl.os, hbl.tape, hbl.output, hbl.size, fun k hk => hbl.block k (Nat.lt_of_lt_of_le hk (below_regrown w p.d p.os).size)⟩)
      · rw [hdL]
        have := walk_of_quiet (P := P) (ops := l.toArray) (d := d) (v0 := v0) (V := V) post [] _ (a1.put (some d) v0) (fun o ho => by have := List.all_eq_true.1 hpost o ho; simpa using this) (fun a hQ => hQ) h3
        rw [List.append_nil] at this
        exact this
    have := anyK_lex (md := .any) hB.1 l 0 (Array.replicate l.length false) a (by simp) (by simpa using hB.2) hwalk
    simpa using this
theorem wp_region_loose_at {id : Nat} {Q : Exit → Act → World → Prop} {a : Act} {w : World} {l : List Oper} {oL oR : Oper} {d : Tmp} (i k : Nat) (v0 : Value) (V : Value → Prop)
    (hm : P.follows .mixedOrders = true) (hB : Region.lexB .any l.toArray = true) (hl : l[i]? = some oL) (hdL : oL.dst = some d) (hpre : ((l.take i).all fun o => o.dst != some d) = true) (hpost : ((l.drop (i + 1)).all fun o => o.dst != some d) = true)
    (hk : l[k]? = some oR) (hblind : blindL P l.toArray d v0 V oR) (hrest : ((List.range l.length).all fun i => i == k || !(((l.toArray[i]?).map (·.looksAt l.toArray)).getD []).contains d) = true)
    (h : (∀ (d : Nat) (os : Array Obj) (b o : Nat) (s : Option Nat), (grow (redrawn w d) os).cell? ⟨b, o, s⟩ = if b < w.heap.size then w.cell? ⟨b, o, s⟩ else cellX (grow (redrawn w d) os) b o s) →
      (∀ (d : Nat) (os : Array Obj) (b o : Nat) (s : Option Nat), (grow (redrawn w d) os).frozen? ⟨b, o, s⟩ = if b < w.heap.size then w.frozen? ⟨b, o, s⟩ else frozenX (grow (redrawn w d) os) b o s) →
      wpQuiet P l.toArray (fun w' => ∃ p : Regrown, w' = grow (redrawn w p.d) p.os) (fun a1 => Region.wanted oL (yielded l.toArray a1.tmps) = true ∧ (∀ p : Regrown, ∃ f args, (execOp a1.eval oL).run P (grow (redrawn w p.d) p.os) = .ok (.enter f args) (grow (redrawn w p.d) p.os) ∧ Calls P f args (grow (redrawn w p.d) p.os) fun e w' => ∃ u, e = .returned u ∧ V u ∧ Below (grow (redrawn w p.d) p.os).heap.size (grow (redrawn w p.d) p.os) w') ∧
        wpQuiet P l.toArray (fun w' => ∃ p : Regrown, w' = grow (redrawn w p.d) p.os) (fun g => (∀ w', Below w.heap.size w w' → Q .normal g w') ∧ ∀ v, V v → ∀ w', Below w.heap.size w w' → Q .normal (g.put (some d) v) w') (l.drop (i + 1)) (a1.put (some d) v0)) (l.take i) a) :
    (Code.region id l.toArray true).wp P Q a w :=
  wp_region_loose (pre := l.take i) (post := l.drop (i + 1)) (oL := oL) (oR := oR) k v0 V hm hB (by
    obtain ⟨hi, e⟩ := List.getElem?_eq_some_iff.1 hl
    rw [← e, List.getElem_cons_drop, List.take_append_drop]) hdL hpre hpost (by simpa using hk) hblind hrest h
end
end Go.Proofs.Ytaiahdhdalgiaaa
