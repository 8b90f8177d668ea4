
/-
  append into a row that has room, and clear, as steps of a walk. No program.
-/
import Derived.Test.YtnillifinnmigaaSlW
namespace Go.Proofs.Ytnillifinnmigaa
open Go Go.RowKit
set_option linter.unusedVariables false
set_option linter.unusedSimpArgs false

theorem step_append_run {P : Program} {ops : Array Oper} {o : Oper} {a : Act} {w : World} {K : Act → World → Prop} {Q : Exit → Act → World → Prop} {E : Prop}
    (hg : o.guard = none) (d x : Operand) (dT sT : TypeId) (hop : o.op = Op.call { callee := Callee.builtin Builtin.append, args := #[d, x], argTypes := #[dT, sT] })
    (v u : Value) (hd : a.eval d = v) (hx : a.eval x = u) {v' : Value} {w' : World} (hr : (Builtin.append_ #[dT, sT] o.type #[v, u]).run P w = .ok v' w') (hK : K (a.put o.dst v') w') :
    if Region.wanted o (yielded ops a.tmps) = true then Oper.wp P o a w K Q else E := by
  have hw : Region.wanted o (yielded ops a.tmps) = true := by simp [Region.wanted, hg]
  rw [if_pos hw]
  unfold Oper.wp
  simp [execOp, hop, resolve, invoke, builtin, hd, hx, hr, Result.andThen]
  exact hK
theorem wpList_clear_run {P : Program} {w : World} {ops : Array Oper} {rest : List Oper} {o : Oper} {a : Act} {Q : Exit → Act → World → Prop} (hgd : o.guard = none) (x : Operand) (t : TypeId)
    (ho : o.op = .call { callee := .builtin .clear, args := #[x], argTypes := #[t] }) (vx : Value) (hx : a.eval x = vx) {v' : Value} {w' : World}
    (hr : (Builtin.clear_ #[t] o.type #[vx]).run P w = .ok v' w') (h : wpList P ops Q rest (a.put o.dst v') w') : wpList P ops Q (o :: rest) a w := by
  refine wpList_plain hgd fun K hK => ?_
  unfold Oper.wp
  simp [execOp, ho, resolve, invoke, builtin, hx, hr, Result.andThen]
  exact hK _ _ h
theorem run_append_in {P : Program} (w : World) (t ty e : TypeId) (k : Nat) (ht : P.underlying t = some (.slice e)) (hs : (P.info? e).map (·.size) = some k)
    (g n cap : Nat) (cur : List Value) (hg : w.heap[g]? = some (.cells cur.toArray e (0, 0))) (sp : Option Addr) (m c : Nat) (news : List Value) (hl : news.length = m * k)
    (hpos : 0 < m → ∃ a, sp = some a ∧ ∀ j u, news[j]? = some u → w.cell? (a.add j) = some u) (hne : sp ≠ none) (h1 : ∀ u ∈ news, u.oneCell' = true) (hroom : n + m ≤ cap) (hfit : n * k + news.length ≤ cur.length) :
    (Builtin.append_ #[t, t] ty #[.slice (some ⟨g, 0, none⟩) n cap, .slice sp m c]).run P w = .ok (.slice (some ⟨g, 0, none⟩) (n + m) cap) (w.setRow g (splice cur (n * k) news).toArray) := by
  cases hi : P.info? e with
  | none => simp [hi] at hs
  | some i =>
    have hk : i.size = k := by simpa [hi] using hs
    subst hk
    obtain ⟨a, rfl⟩ : ∃ a, sp = some a := by
      cases sp with
      | none => exact absurd rfl hne
      | some a => exact ⟨a, rfl⟩
    have hnews : ∀ j u, news[j]? = some u → w.cell? (a.add j) = some u := by
      intro j u hj
      by_cases hm : 0 < m
      · obtain ⟨a', ha, h⟩ := hpos hm
        obtain rfl := Option.some.inj ha
        exact h j u hj
      · have : news = [] := List.eq_nil_of_length_eq_zero (by rw [hl, show m = 0 by omega, Nat.zero_mul])
        rw [this] at hj; simp at hj
    have := run_append_room (P := P) w t ty e i ht hi g n cap cur.toArray hg a m c news hl hnews h1 hroom (by simpa using hfit)
    rw [this]
    simp [splice]
theorem run_clear_in {P : Program} (w : World) (t ty e : TypeId) (z : Value) (k : Nat) (ht : P.underlying t = some (.slice e)) (hi : (P.info? e).map (fun i => (i.zero, i.size)) = some (some z, k)) (hz : z.cells.size = k)
    (g off m c : Nat) (hm : 0 < m) (cur : List Value) (hg : w.heap[g]? = some (.cells cur.toArray e (0, 0))) (h1 : ∀ u ∈ (Builtin.zeroCells z.cells m).toList, u.oneCell' = true) (hfit : off + m * k ≤ cur.length) :
    (Builtin.clear_ #[t] ty #[.slice (some ⟨g, off, none⟩) m c]).run P w = .ok (.tuple #[]) (w.setRow g (splice cur off (Builtin.zeroCells z.cells m).toList).toArray) := by
  cases hq : P.info? e with
  | none => simp [hq] at hi
  | some i =>
    have hk : i.zero = some z ∧ i.size = k := by simpa [hq] using hi
    have hst := run_storeCells_at P g off e (Builtin.zeroCells z.cells m).toList 0 cur.toArray w hg (by simp [size_zeroCells, hz]; omega) h1
    simp only [Nat.add_zero] at hst
    cases m with
    | zero => omega
    | succ m => simp [Builtin.clear_, run_underlying ht, zeroValue, typeInfo, hq, hk.1, hst, splice]
end Go.Proofs.Ytnillifinnmigaa
