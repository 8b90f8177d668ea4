
/-
  A law's frame, for any law of this seat: if the walk of a law ends in 'true' with nothing turned that was there, the given statement holds; and what an argument's reading says of its cells.
-/
import Derived.Test.YtpjcijmdoofcbaaRows
import Derived.WalkKit
import Derived.ProofKit
import Derived.OpenShut
import Derived.SizedLaws
import Derived.Deep.Slices
namespace Go.Proofs.Ytpjcijmdoofcbaa
open Go Go.RowKit Go.ChangeShapes Go.WideShapes Go.ChangeAt
set_option linter.unusedVariables false
set_option linter.unusedSimpArgs false

/-! ### What a reading says of an argument's cells -/
inductive Leaf where
  | int (k : IntKind) | bool | string | slice (t : TypeId)

def leavesAll (g : TypeId → Option (List Leaf)) : List (Nat × TypeId × Nat) → Nat → Option (List Leaf)
  | [], _ => some []
  | (o, t, n) :: r, p => match decide (o = p), g t with
    | true, some l => match decide (l.length = n), leavesAll g r (p + n) with
      | true, some ls => some (l ++ ls)
      | _, _ => none
    | _, _ => none

def leaves (P : Program) : Nat → TypeId → Option (List Leaf)
  | 0, _ => none
  | d + 1, t => match P.underlying t with
    | some .bool => some [.bool]
    | some (.int k) => some [.int k]
    | some .string => some [.string]
    | some (.slice _) => some [.slice t]
    | some (.struct fs) => match leavesAll (leaves P d) (fs.toList.map fun f => (f.offset, f.type, P.cellsOf f.type)) 0 with
      | some ls => if ls.length = P.cellsOf t then some ls else none
      | none => none
    | some (.array n e) => match leavesAll (leaves P d) ((List.range n).map fun i => (i * P.cellsOf e, e, P.cellsOf e)) 0 with
      | some ls => if ls.length = P.cellsOf t then some ls else none
      | none => none
    | _ => none

/-- The cells of some leaves, each with a name, handed on. -/
def LeafEx (S : TypeId → Value → Prop) : List Leaf → (List Value → Prop) → Prop
  | [], K => K []
  | .int k :: ls, K => ∃ n, (Lit.int k n).wf = true ∧ LeafEx S ls fun vs => K (.int k n :: vs)
  | .bool :: ls, K => ∃ b, LeafEx S ls fun vs => K (.bool b :: vs)
  | .string :: ls, K => ∃ s : ByteArray, s.size ≤ maxLen ∧ LeafEx S ls fun vs => K (.string s :: vs)
  | .slice t :: ls, K => ∃ v, S t v ∧ LeafEx S ls fun vs => K (v :: vs)

theorem LeafEx.mono {S : TypeId → Value → Prop} (ls : List Leaf) : ∀ {K K' : List Value → Prop}, (∀ vs, K vs → K' vs) → LeafEx S ls K → LeafEx S ls K' := by
  induction ls with
  | nil => intro K K' h; exact h _
  | cons l ls ih =>
    intro K K' h
    cases l with
    | int k => rintro ⟨n, hn, hk⟩; exact ⟨n, hn, ih (fun vs => h _) hk⟩
    | bool => rintro ⟨b, hk⟩; exact ⟨b, ih (fun vs => h _) hk⟩
    | string => rintro ⟨s, hs, hk⟩; exact ⟨s, hs, ih (fun vs => h _) hk⟩
    | slice t => rintro ⟨v, hv, hk⟩; exact ⟨v, hv, ih (fun vs => h _) hk⟩

theorem LeafEx.append {S : TypeId → Value → Prop} (ls ms : List Leaf) : ∀ {K : List Value → Prop}, (LeafEx S ls fun xs => LeafEx S ms fun ys => K (xs ++ ys)) → LeafEx S (ls ++ ms) K := by
  induction ls with
  | nil => intro K h; simpa [LeafEx] using h
  | cons l ls ih =>
    intro K h
    cases l with
    | int k => obtain ⟨n, hn, hk⟩ := h; exact ⟨n, hn, ih (by simpa using hk)⟩
    | bool => obtain ⟨b, hk⟩ := h; exact ⟨b, ih (by simpa using hk)⟩
    | string => obtain ⟨s, hs, hk⟩ := h; exact ⟨s, hs, ih (by simpa using hk)⟩
    | slice t => obtain ⟨v, hv, hk⟩ := h; exact ⟨v, hv, ih (by simpa using hk)⟩

section
variable {H : Type} {enc : TypeId × Value → H} {P : Program} {w : World} {base : Nat} {spare : Nat → Bool} {held : Bool}

/-- A slice's cell, as it reads. -/
def SliceAt (enc : TypeId × Value → H) (P : Program) (w : World) (base : Nat) (spare : Nat → Bool) (held : Bool) (t : TypeId) (v : Value) : Prop :=
  ∃ (fuel : Nat) (x : DataW H × List MemPlace), DataW.trod enc P w base spare held fuel t [v] = some x

theorem leavesAll_ok {g : TypeId → Option (List Leaf)} {S : TypeId → Value → Prop} {m : Nat} {cs : List Value}
    (hg : ∀ t ls cs' x, g t = some ls → DataW.trod enc P w base spare held m t cs' = some x → LeafEx S ls (fun vs => cs' = vs))
    : ∀ (items : List (Nat × TypeId × Nat)) (p : Nat) (ls : List Leaf), leavesAll g items p = some ls → p + ls.length = cs.length →
      (∀ i ∈ items, ∃ x, DataW.trod enc P w base spare held m i.2.1 ((cs.drop i.1).take i.2.2) = some x) → LeafEx S ls (fun vs => cs.drop p = vs) := by
  intro items
  induction items with
  | nil =>
    intro p ls h hl _
    simp [leavesAll] at h
    subst h
    simp only [LeafEx]
    exact List.drop_eq_nil_of_le (by simp at hl; omega)
  | cons i r ih =>
    obtain ⟨o, t, n⟩ := i
    intro p ls h hl hi
    simp only [leavesAll] at h
    split at h
    · rename_i l ho hl1
      split at h
      · rename_i ls' hn hr
        simp only [decide_eq_true_eq] at ho hn
        subst ho hn
        simp only [Option.some.injEq] at h
        subst h
        obtain ⟨x, hx⟩ := hi (o, t, l.length) (by simp)
        have h1 := hg t l _ x hl1 hx
        have h2 := ih (o + l.length) ls' hr (by simp at hl; omega) (fun j hj => hi j (by simp [hj]))
        apply LeafEx.append
        refine LeafEx.mono l ?_ h1
        intro xs hxs
        refine LeafEx.mono ls' ?_ h2
        intro ys hys
        simp only at hxs
        rw [← hxs, ← hys, ← List.drop_drop, List.take_append_drop]
      · cases h
    · cases h

theorem trod_leaves : ∀ (d : Nat) (t : TypeId) (ls : List Leaf) (fuel : Nat) (cs : List Value) (x : DataW H × List MemPlace), leaves P d t = some ls →
    DataW.trod enc P w base spare held fuel t cs = some x → LeafEx (SliceAt enc P w base spare held) ls (fun vs => cs = vs) := by
  intro d
  induction d with
  | zero => intro t ls fuel cs x h; simp [leaves] at h
  | succ d ih =>
    intro t ls fuel cs x h ht
    unfold leaves at h
    split at h
    · rename_i hu
      simp only [Option.some.injEq] at h; subst h
      have ht0 := ht
      cases fuel with
      | zero => simp [DataW.trod] at ht
      | succ m =>
        unfold DataW.trod at ht
        rw [hu] at ht
        split at ht <;> simp_all
        all_goals exact ⟨_, rfl⟩
    · rename_i k hu
      simp only [Option.some.injEq] at h; subst h
      obtain ⟨n, rfl, hn⟩ : ∃ n, cs = [.int k n] ∧ (Lit.int k n).wf = true := by
        cases fuel with
        | zero => simp [DataW.trod] at ht
        | succ m =>
          unfold DataW.trod at ht
          rw [hu] at ht
          split at ht <;> simp_all
      exact ⟨n, hn, rfl⟩
    · rename_i hu
      simp only [Option.some.injEq] at h; subst h
      obtain ⟨s, rfl, hs⟩ : ∃ s : ByteArray, cs = [.string s] ∧ s.size ≤ maxLen := by
        cases fuel with
        | zero => simp [DataW.trod] at ht
        | succ m =>
          unfold DataW.trod at ht
          rw [hu] at ht
          split at ht <;> simp_all
      exact ⟨s, hs, rfl⟩
    · rename_i e hu
      simp only [Option.some.injEq] at h; subst h
      obtain ⟨v, rfl⟩ : ∃ v, cs = [v] := by
        rcases DataW.trod_slice hu ht with h0 | ⟨a, len, cap, elems, rest, n, _, rfl, _⟩
        · exact ⟨_, h0.1⟩
        · exact ⟨_, rfl⟩
      exact ⟨v, ⟨fuel, x, ht⟩, rfl⟩
    · rename_i fs hu
      split at h
      · rename_i ls' hl
        split at h
        · rename_i hlen
          simp only [Option.some.injEq] at h; subst h
          obtain ⟨xs, m, rfl, _, hcl, hxl, hf⟩ := DataW.trod_struct hu ht
          have := leavesAll_ok (cs := cs) (m := m) (fun t' l' cs' x' h1 h2 => ih t' l' m cs' x' h1 h2) _ 0 ls' hl (by omega) (by
            intro i hi
            simp only [List.mem_map] at hi
            obtain ⟨f, hfm, rfl⟩ := hi
            obtain ⟨j, hj, rfl⟩ := List.getElem_of_mem hfm
            have hj' : j < fs.size := by simpa using hj
            refine ⟨xs[j]'(by omega), ?_⟩
            rw [show ((fs.toList[j]).offset, (fs.toList[j]).type, P.cellsOf (fs.toList[j]).type).2.1 = (fs[j]).type by simp]
            have := hf j (fs[j]) (by simp [hj'])
            rw [List.getElem?_eq_getElem (by omega)] at this
            simpa using this)
          simpa using this
        · cases h
      · cases h
    · rename_i n e hu
      split at h
      · rename_i ls' hl
        split at h
        · rename_i hlen
          simp only [Option.some.injEq] at h; subst h
          obtain ⟨xs, m, rfl, _, hcl, hxl, hf⟩ := DataW.trod_array hu ht
          have := leavesAll_ok (cs := cs) (m := m) (fun t' l' cs' x' h1 h2 => ih t' l' m cs' x' h1 h2) _ 0 ls' hl (by omega) (by
            intro i hi
            simp only [List.mem_map, List.mem_range] at hi
            obtain ⟨j, hj, rfl⟩ := hi
            refine ⟨xs[j]'(by omega), ?_⟩
            have := hf j hj
            rw [List.getElem?_eq_getElem (by omega)] at this
            simpa using this)
          simpa using this
        · cases h
      · cases h
    · cases h

/-- An argument that is a struct or an array by value: its cells. -/
theorem open_leaves {d : Nat} {t : TypeId} {ls : List Leaf} {r : Reach} {b0 : Nat} {v : Value} {dt : DataW H} {p : List MemPlace} (hl : leaves P d t = some ls)
    (hu : (match P.underlying t with | some (.struct _) | some (.array _ _) => true | _ => false) = true)
    (hv : Value.okWide P w r b0 t v) (h : DataW.Trod enc P w base spare held t v dt p) : LeafEx (SliceAt enc P w base spare held) ls (fun vs => v = .agg vs.toArray) := by
  obtain ⟨fuel, hf⟩ := h
  have h1 := trod_leaves d t ls fuel _ _ hl hf
  obtain ⟨cs, rfl⟩ : ∃ cs, v = .agg cs := by
    split at hu
    · rename_i fs hs
      obtain ⟨cs, rfl, _⟩ := okWide_struct hs hv
      exact ⟨cs, rfl⟩
    · rename_i n e hs
      simp only [Value.okWide, hs] at hv
      obtain ⟨cs, h1, _⟩ := hv
      exact ⟨cs, h1⟩
    · cases hu
  refine LeafEx.mono ls ?_ h1
  intro vs hvs
  simp only [Value.cells] at hvs
  rw [← hvs]
end

/-- A list of what each place has. -/
theorem list_of {α : Type} {Q : Nat → α → Prop} : ∀ n : Nat, (∀ i, i < n → ∃ q, Q i q) → ∃ l : List α, l.length = n ∧ ∀ i (h : i < l.length), Q i l[i] := by
  intro n
  induction n with
  | zero => intro _; exact ⟨[], rfl, fun i h => by simp at h⟩
  | succ n ih =>
    intro h
    obtain ⟨l, hl, hq⟩ := ih (fun i hi => h i (by omega))
    obtain ⟨q, hq'⟩ := h n (by omega)
    refine ⟨l ++ [q], by simp [hl], fun i hi => ?_⟩
    by_cases c : i < l.length
    · rw [List.getElem_append_left c]; exact hq i c
    · have e : i = l.length := by simp at hi; omega
      subst e
      rw [List.getElem_append_right (Nat.le_refl _)]
      simp
      rw [hl]; exact hq'

section
variable {H : Type} {enc : TypeId × Value → H} {P : Program} {w : World} {base : Nat} {spare : Nat → Bool} {held : Bool}

theorem cell_lt {x : Addr} {v : Value} (h : w.cell? x = some v) : x.block < w.heap.size := by
  by_cases c : x.block < w.heap.size
  · exact c
  · have : w.heap[x.block]? = none := by simp; omega
    simp [World.cell?, this] at h

/-- An argument that is a slice of plain elements: nil; of no element; or its elements, cell by cell. -/
theorem open_elems {d : Nat} {t e : TypeId} {ls : List Leaf} {r : Reach} {b0 : Nat} {v : Value} {dt : DataW H} {p : List MemPlace} (ht : P.underlying t = some (.slice e)) (hl : leaves P d e = some ls) (hc : ls.length = P.cellsOf e) (hpos : 0 < ls.length)
    (hv : Value.okWide P w r b0 t v) (h : DataW.Trod enc P w base spare held t v dt p) :
    (∃ (a : Option Addr) (cap : Nat), v = .slice a 0 cap ∧ cap ≤ maxLen) ∨
    ∃ (b off len cap : Nat), v = .slice (some ⟨b, off, none⟩) len cap ∧ 0 < len ∧ len ≤ cap ∧ cap ≤ maxLen ∧ b < w.heap.size ∧
      ∀ i, i < len → LeafEx (SliceAt enc P w base spare held) ls (fun vs => ∀ j, j < ls.length → w.cell? ⟨b, off + (i * ls.length + j), none⟩ = vs[j]?) := by
  obtain ⟨a0, l0, c0, rfl⟩ := okWide_slice ht hv
  obtain ⟨fuel, hf⟩ := h
  rcases Go.Deep.open_slice ht hf with ⟨h0, _⟩ | ⟨a, len, cap, m, n, D, Pl, hcs, hb, hlc, hm, hmm, hx, hi⟩
  · simp only [Value.cells, List.cons.injEq, and_true] at h0
    rw [h0]
    exact .inl ⟨none, 0, rfl, Nat.zero_le _⟩
  · simp only [Value.cells, List.cons.injEq, and_true] at hcs
    rw [hcs]
    by_cases hlen : len = 0
    · subst hlen
      exact .inl ⟨some a, cap, rfl, hm⟩
    · have hml : len ≤ m := by rw [hmm]; split <;> omega
      have key : ∀ i, i < len → LeafEx (SliceAt enc P w base spare held) ls (fun vs => ∀ j, j < ls.length → w.cell? (a.add (i * ls.length + j)) = vs[j]?) := by
        intro i hil
        obtain ⟨cs', hcell, htr⟩ := hi i (by omega)
        have h1 := trod_leaves d e ls n cs' _ hl htr
        refine LeafEx.mono ls ?_ h1
        intro vs hvs j hj
        obtain ⟨_, _, hat⟩ := World.cells?_some hcell
        rw [← hvs, ← hat j (by omega), Go.Deep.add_add, hc]
      have h0 := key 0 (by omega)
      obtain ⟨b, off, spot⟩ := a
      have hs : spot = none ∧ b < w.heap.size := by
        obtain ⟨cs', hcell, htr⟩ := hi 0 (by omega)
        obtain ⟨_, hlen', hat⟩ := World.cells?_some hcell
        have h2 := hat 0 (by omega)
        rw [List.getElem?_eq_getElem (show 0 < cs'.length by omega)] at h2
        have h3 : w.cell? ⟨b, off, spot⟩ = some (cs'[0]'(by omega)) := by simpa [Addr.add] using h2
        have h4 := World.cell?_spot h3
        exact ⟨h4, cell_lt h3⟩
      obtain ⟨rfl, hlt⟩ := hs
      refine .inr ⟨b, off, len, cap, rfl, by omega, hlc, hm, hlt, fun i hil => LeafEx.mono ls ?_ (key i hil)⟩
      intro vs hvs j hj
      rw [← hvs j hj, Go.WideShapes.add_plain]
end

/-! ### The frame -/
section
variable {H : Type} {enc : TypeId × Value → H} {P : Program}

theorem trodAll_below (hl : laidOutB P = true) {W W' : World} (hb : Below W.heap.size W W') : ∀ (ts : List TypeId) (vs : List Value) (ds : List (DataW H)) (ps : List MemPlace) (sp : Nat → Bool),
    (∀ t ∈ ts, P.readableRec t = true ∧ t < P.types.size) → DataW.TrodAll enc P W 0 (fun _ => true) true ts vs ds ps → (∀ x ∈ ps, x.block < W.heap.size) → (∀ x ∈ ps, sp x.block = true) →
    DataW.TrodAll enc P W' 0 sp true ts vs ds ps := by
  intro ts
  induction ts with
  | nil =>
    intro vs ds ps sp _ h _ _
    cases vs <;> cases ds <;> simp_all [DataW.TrodAll]
  | cons t ts ih =>
    intro vs ds ps sp ht h hlt hsp
    obtain ⟨v, vs', d, ds', p, q, rfl, rfl, rfl, h1, h2⟩ := trodAll_cons h
    have ht1 := ht t (by simp)
    exact trodAll_cons_mk (WideElems.Trod_stays hl ht1.1 ht1.2 h1 (fun x hx => hb.same (hlt x (by simp [hx]))) (fun x hx => hsp x (by simp [hx])))
      (ih vs' ds' q sp (fun t ht' => ht t (by simp [ht'])) h2 (fun x hx => hlt x (by simp [hx])) (fun x hx => hsp x (by simp [hx])))

theorem trodAll_length : ∀ (ts : List TypeId) (vs : List Value) (ds : List (DataW H)) (ps : List MemPlace) {w : World} {b : Nat} {sp : Nat → Bool} {hd : Bool}, DataW.TrodAll enc P w b sp hd ts vs ds ps → ds.length = ts.length := by
  intro ts
  induction ts with
  | nil => intro vs ds ps w b sp hd h; cases vs <;> cases ds <;> simp_all [DataW.TrodAll]
  | cons t ts ih =>
    intro vs ds ps w b sp hd h
    obtain ⟨v, vs', d, ds', p, q, rfl, rfl, rfl, h1, h2⟩ := trodAll_cons h
    simp [ih _ _ _ h2]

theorem post_of_below {f : Func} {s : ChangeSpec} {apart fresh handsOn again : Bool} {W W' : World} {args : Array Value} {v : Value} {ds gs : List (DataW H)} {before pa pv : List MemPlace}
    (hW : DataW.Whole enc P f.params.toList s.vars apart W args.toList ds gs before)
    (hres : ∀ (b : Nat) (sp : Nat → Bool) (hd : Bool), DataW.TrodAll enc P W' b sp hd f.resultTypes.toList (v.resultList f.resultTypes.size) (s.fn H (ds ++ gs)).results [])
    (hargs : ∀ sp : Nat → Bool, (∀ p ∈ before, sp p.block = true) → DataW.TrodAll enc P W' 0 sp true f.params.toList args.toList (s.fn H (ds ++ gs)).args pa)
    (hvars : ∀ sp : Nat → Bool, (∀ p ∈ before, sp p.block = true) → DataW.TrodVars enc P W' sp s.vars (s.fn H (ds ++ gs)).vars pv)
    (hps : before = pa ++ pv) (hb : Below W.heap.size W W')
    (hok : ∀ (j : Nat) (t : TypeId) (r : Value), f.resultTypes[j]? = some t → (v.resultList f.resultTypes.size)[j]? = some r → Value.okWide P W' .any 0 t r) :
    s.post enc P f apart fresh handsOn again W args v W' := by
  have hlt : ∀ p ∈ before, p.block < W.heap.size := fun p hp => hW.lt p hp
  have hold : ∀ p ∈ before, (fun b => decide (b < W.heap.size)) p.block = true := fun p hp => by simpa using hlt p hp
  refine ⟨ds, gs, before, [], pa, pv, hW, hres _ _ _, hargs _ hold, hvars _ hold, World.keptBut_mono (fun p hp => ⟨hp, ?_⟩) (hb.frame (· ∈ before)), fun _ => ?_⟩
  · rw [hps, List.mem_append] at hp
    exact Or.inr hp
  · obtain ⟨_, _, _, _, _, hz, hn⟩ := hW
    refine ⟨hok, _, _, ([] ++ pa) ++ pv, ⟨[] ++ pa, pv, trodAll_append (hargs _ (fun _ _ => rfl)) (hres _ _ _), hvars _ (fun _ _ => rfl), rfl, ?_, ?_⟩, ?_⟩
    · intro b off hp
      have hin : MemPlace.cell b off ∈ before := by rw [hps]; simpa using hp
      rw [hb.frozen (hlt _ hin)]
      exact hz b off hin
    · intro ha
      have := hn ha
      rw [hps] at this
      simpa using this
    · intro p hp _
      rw [hps]
      simpa using hp

/-- What the law's walk owes: at each argument as it reads, 'true', and nothing turned that was there. -/
def LawWalk (enc : TypeId × Value → H) (P : Program) (f : FuncId) (ts : List TypeId) : Prop :=
  ∀ (W : World) (base : Nat) (args : Array Value) (ds : List (DataW H)) (ps : List MemPlace),
    (∀ (j : Nat) t v, ts[j]? = some t → args[j]? = some v → Value.okWide P W .any base t v) → DataW.TrodAll enc P W 0 (fun _ => true) true ts args.toList ds ps →
    (∀ x ∈ ps, x.block < W.heap.size) → W.noneFrozen ps → (DataW.weightsEach P ts ds).all (· ≤ reachBytes) = true →
    Calls P f args W fun e W' => e = .returned (.bool true) ∧ Below W.heap.size W W'

theorem law_lift {C : Checked} {os : Os} {f : FuncId} {fn : Func} {s : ChangeSpec} {conds : List PathCond} {tb : TypeId} (started : os.Started) (own : ownKnob C.prog.godebug = none)
    (noInit : C.prog.inits.idxOf? f = none) (hfn : C.prog.funcs[f]? = some fn) (hvars : s.vars = []) (hres : fn.resultTypes = #[tb]) (hb : C.prog.underlying tb = some .bool) (hlaid : laidOutB C.prog = true)
    (hread : fn.params.toList.all (fun t => C.prog.readableRec t && decide (t < C.prog.types.size)) = true)
    (hspec : ∀ ds : List (DataW H), ds.length = fn.params.toList.length → s.fn H (ds ++ []) = { results := [.lit (.bool true)], args := ds })
    (witness : ∃ (w : World) (tape : Tape) (i : Input), w.os = os ∧ (w.forCall tape i).Shaped C.prog ∧ i.vars = [] ∧ Input.okWide C.prog (w.forCall tape i) .any w.heap.size f i ∧
      s.pre6 enc C.prog fn conds false (w.forCall tape i).memory i.args ∧ ({} : Assume).holds C.prog (lone (Frame.enter C.prog f i.args .normal) [] (w.forCall tape i)))
    (walk : LawWalk enc C.prog f fn.params.toList) :
    ReturnsInHanded {} C os f .any (s.pre6 enc C.prog fn conds false) (s.post enc C.prog fn false true false false) := by
  refine returnsInHanded_of_change_sized (C := C) own started noInit hfn witness ?_
  intro W base args ds gs before hval hW _ hsz _
  have hW' := hW
  obtain ⟨p, q, hA, hV, rfl, hfz, hnd⟩ := hW
  rw [hvars] at hV
  obtain ⟨rfl, rfl⟩ := trodVars_none hV
  have hlt : ∀ x ∈ p, x.block < W.heap.size := fun x hx => by
    have := hW'.lt x (by simp [hx]); simpa using this
  have hpar : ∀ t ∈ fn.params.toList, C.prog.readableRec t = true ∧ t < C.prog.types.size := fun t ht => by
    have := (List.all_eq_true.1 hread) t ht
    simpa using this
  have hlen := trodAll_length _ _ _ _ hA
  refine (walk W base args ds p (fun j t v ht hv => hval j t v (by simpa using ht) hv) hA hlt (by simpa using hfz) (by simpa [hvars, ChangeSpec.plain, DataSpec.varTypes] using hsz)).mono fun e W' ⟨he, hbel⟩ => ?_
  subst he
  refine ⟨_, rfl, post_of_below (pa := p) (pv := []) (by simpa using hW') ?_ ?_ ?_ (by simp) hbel ?_⟩
  · intro b sp hd
    rw [hspec ds hlen, hres]
    exact trodAll_cons_mk (shut_bool hb _) trodAll_mk0
  · intro sp hsp
    rw [hspec ds hlen]
    exact trodAll_below hlaid hbel _ _ _ _ sp hpar hA hlt (fun x hx => hsp x (by simp [hx]))
  · intro sp _
    rw [hspec ds hlen, hvars]
    rfl
  · exact ok_one hres rfl (okWide_bool_mk hb _)
end
end Go.Proofs.Ytpjcijmdoofcbaa
