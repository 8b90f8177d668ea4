
/-
  == of contexts: one is itself.
-/
import Derived.Test.YtpjcijmdoofcbaaGxD
import Derived.DeepKeys
namespace Go.Proofs.Ytpjcijmdoofcbaa
open Go Go.RowKit
set_option linter.unusedVariables false
set_option linter.unusedSimpArgs false

theorem mapM_some {α β : Type} (f : α → Option β) : ∀ l : List α, (∀ x ∈ l, ∃ y, f x = some y) → ∃ ys, l.mapM f = some ys
  | [], _ => ⟨[], rfl⟩
  | x :: l, h => by
    obtain ⟨y, hy⟩ := h x List.mem_cons_self
    obtain ⟨ys, hys⟩ := mapM_some f l (fun z hz => h z (List.mem_cons_of_mem _ hz))
    refine ⟨y :: ys, ?_⟩
    rw [List.mapM_cons, hy, hys]
    rfl
theorem cellsC_drop (L : List Cp) (i : Nat) : (cellsC L).drop (i * 3) = cellsC (L.drop i) := by
  induction L generalizing i with
  | nil => simp [cellsC]
  | cons x L ih =>
    cases i with
    | zero => simp [cellsC]
    | succ i =>
      have e : cellsC (x :: L) = encC x ++ cellsC L := rfl
      rw [e, List.drop_append, show (i + 1) * 3 - (encC x).length = i * 3 by show (i + 1) * 3 - 3 = _; omega, ih, List.drop_of_length_le (by show 3 ≤ _; omega)]
      rfl
theorem cells_part (L : List Cp) (i : Nat) (hi : i < L.length) : ((cellsC L).drop (i * 3)).take 3 = encC (capAt L i) := by
  rw [cellsC_drop, List.drop_eq_getElem_cons hi, show L[i] = capAt L i from Option.some.inj ((List.getElem?_eq_getElem hi).symm.trans (capAt_get L i hi))]
  rfl
theorem cap_size : Try.prog.cellsOf 24 = 3 := by kernel_rfl
theorem key_cap (d : Nat) (c : Cp) : ∃ l, Try.prog.keyLits (d + 1 + 1) 24 (encC c) = some l := by
  have w1 := wf_U c.m
  have w2 := wf_U c.a
  have s1 : Try.prog.cellsOf 4 = 1 := by kernel_rfl
  have s2 : Try.prog.cellsOf 22 = 1 := by kernel_rfl
  refine ⟨[.bool c.g, .int .u64 (U c.m), .int .u64 (U c.a)], ?_⟩
  simp [Program.keyLits, Try.underlying24, Try.underlying4, Try.underlying22, cap_size, encC, s1, s2, w1, w2]
theorem key_arr (d : Nat) (L : List Cp) (hL : L.length = 33) : ∃ l, Try.prog.keyLits (d + 1 + 1 + 1) 25 ((cellsC L).take 96) = some l := by
  have s1 : Try.prog.cellsOf 25 = 96 := by kernel_rfl
  have hlen : ((cellsC L).take 96).length = 96 := by rw [List.length_take, cellsC_len, hL]; rfl
  obtain ⟨ys, hys⟩ := mapM_some (fun i => Try.prog.keyLits (d + 1 + 1) 24 ((((cellsC L).take 96).drop (i * 3)).take 3)) (List.range 32) (fun i hi => by
    have hi' : i < 32 := by simpa using hi
    have e : (((cellsC L).take 96).drop (i * 3)).take 3 = encC (capAt L i) := by
      rw [List.drop_take, List.take_take, Nat.min_eq_left (by omega), cells_part L i (by omega)]
    show ∃ y, Try.prog.keyLits (d + 1 + 1) 24 ((((cellsC L).take 96).drop (i * 3)).take 3) = some y
    rw [e]
    exact key_cap d (capAt L i))
  refine ⟨ys.flatten, ?_⟩
  unfold Program.keyLits
  rw [Try.underlying25]
  dsimp only
  rw [if_pos (by rw [s1, hlen]), cap_size, hys]
  rfl
theorem key_ctx (d : Nat) (L : List Cp) (hL : L.length = 33) : ∃ l, Try.prog.keyLits (d + 1 + 1 + 1 + 1) 27 (cellsC L) = some l := by
  have s1 : Try.prog.cellsOf 25 = 96 := by kernel_rfl
  have s2 : Try.prog.cellsOf 27 = 99 := by kernel_rfl
  obtain ⟨l1, h1⟩ := key_arr d L hL
  obtain ⟨l2, h2⟩ := key_cap (d + 1) (capAt L 32)
  have e2 : ((cellsC L).drop 96).take 3 = encC (capAt L 32) := cells_part L 32 (by omega)
  have hlen : (cellsC L).length = 99 := cellsC_99 hL
  refine ⟨l1 ++ l2, ?_⟩
  unfold Program.keyLits
  rw [Try.underlying27]
  dsimp only
  rw [if_pos ⟨by rw [s2, hlen], by decide +kernel⟩]
  simp [s1, s2, cap_size, h1, e2, h2]
theorem ctx_eql (L : List Cp) (hL : L.length = 33) (w : World) : (binOp .eql 27 (.agg (cellsC L).toArray) (.agg (cellsC L).toArray)).run Try.prog w = .ok (.bool true) w := by
  obtain ⟨la, hla⟩ := key_ctx 0 L hL
  have s2 : Try.prog.cellsOf 27 = 99 := by kernel_rfl
  have hf : (Value.agg (cellsC L).toArray).formed Try.prog 27 = true := by
    simp [Value.formed, Try.underlying27, s2, cellsC_99 hL]
  obtain ⟨r, hr, hiff⟩ := run_equalIn_deep (P := Try.prog) 9996 4 27 (by decide +kernel) w 4 4 (.agg (cellsC L).toArray) (.agg (cellsC L).toArray) la la hf hf (by simpa [Value.cells] using hla) (by simpa [Value.cells] using hla)
  have hrt : r = true := hiff.2 rfl
  rw [hrt] at hr
  rw [run_eql_struct, show (10000 : Nat) = 9996 + 4 from rfl, hr]
  rfl
end Go.Proofs.Ytpjcijmdoofcbaa
