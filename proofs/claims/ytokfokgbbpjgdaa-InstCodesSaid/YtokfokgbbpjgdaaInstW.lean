
/-
  A row of the table; what a shape has; what is fixed: each function.
-/
import Derived.Test.YtokfokgbbpjgdaaInst
import Derived.Test.YtokfokgbbpjgdaaInstN
import Derived.Test.YtokfokgbbpjgdaaTail
import Derived.BigRegion
import Derived.WalkKit
namespace Go.Proofs.Ytokfokgbbpjgdaa
open Go Go.RowKit
set_option linter.unusedVariables false
set_option linter.unusedSimpArgs false

theorem rows_0 (w : World) : (Instr.index 66 (.agg rowsV.toArray) (.int .i64 0)).run Try.prog w = .ok (.agg (rowC (rowAt 0))) w := by kernel_rfl
theorem rows_1 (w : World) : (Instr.index 66 (.agg rowsV.toArray) (.int .i64 1)).run Try.prog w = .ok (.agg (rowC (rowAt 1))) w := by kernel_rfl
theorem rows_2 (w : World) : (Instr.index 66 (.agg rowsV.toArray) (.int .i64 2)).run Try.prog w = .ok (.agg (rowC (rowAt 2))) w := by kernel_rfl
theorem rows_3 (w : World) : (Instr.index 66 (.agg rowsV.toArray) (.int .i64 3)).run Try.prog w = .ok (.agg (rowC (rowAt 3))) w := by kernel_rfl
theorem rows_4 (w : World) : (Instr.index 66 (.agg rowsV.toArray) (.int .i64 4)).run Try.prog w = .ok (.agg (rowC (rowAt 4))) w := by kernel_rfl
theorem rows_5 (w : World) : (Instr.index 66 (.agg rowsV.toArray) (.int .i64 5)).run Try.prog w = .ok (.agg (rowC (rowAt 5))) w := by kernel_rfl
theorem rows_6 (w : World) : (Instr.index 66 (.agg rowsV.toArray) (.int .i64 6)).run Try.prog w = .ok (.agg (rowC (rowAt 6))) w := by kernel_rfl
theorem rows_7 (w : World) : (Instr.index 66 (.agg rowsV.toArray) (.int .i64 7)).run Try.prog w = .ok (.agg (rowC (rowAt 7))) w := by kernel_rfl
theorem rows_8 (w : World) : (Instr.index 66 (.agg rowsV.toArray) (.int .i64 8)).run Try.prog w = .ok (.agg (rowC (rowAt 8))) w := by kernel_rfl
theorem rows_9 (w : World) : (Instr.index 66 (.agg rowsV.toArray) (.int .i64 9)).run Try.prog w = .ok (.agg (rowC (rowAt 9))) w := by kernel_rfl
theorem rows_10 (w : World) : (Instr.index 66 (.agg rowsV.toArray) (.int .i64 10)).run Try.prog w = .ok (.agg (rowC (rowAt 10))) w := by kernel_rfl
theorem rows_11 (w : World) : (Instr.index 66 (.agg rowsV.toArray) (.int .i64 11)).run Try.prog w = .ok (.agg (rowC (rowAt 11))) w := by kernel_rfl
theorem rows_12 (w : World) : (Instr.index 66 (.agg rowsV.toArray) (.int .i64 12)).run Try.prog w = .ok (.agg (rowC (rowAt 12))) w := by kernel_rfl
theorem rows_13 (w : World) : (Instr.index 66 (.agg rowsV.toArray) (.int .i64 13)).run Try.prog w = .ok (.agg (rowC (rowAt 13))) w := by kernel_rfl
theorem rows_14 (w : World) : (Instr.index 66 (.agg rowsV.toArray) (.int .i64 14)).run Try.prog w = .ok (.agg (rowC (rowAt 14))) w := by kernel_rfl
theorem rows_15 (w : World) : (Instr.index 66 (.agg rowsV.toArray) (.int .i64 15)).run Try.prog w = .ok (.agg (rowC (rowAt 15))) w := by kernel_rfl
theorem rows_16 (w : World) : (Instr.index 66 (.agg rowsV.toArray) (.int .i64 16)).run Try.prog w = .ok (.agg (rowC (rowAt 16))) w := by kernel_rfl
theorem rows_17 (w : World) : (Instr.index 66 (.agg rowsV.toArray) (.int .i64 17)).run Try.prog w = .ok (.agg (rowC (rowAt 17))) w := by kernel_rfl
theorem rows_18 (w : World) : (Instr.index 66 (.agg rowsV.toArray) (.int .i64 18)).run Try.prog w = .ok (.agg (rowC (rowAt 18))) w := by kernel_rfl
theorem rows_19 (w : World) : (Instr.index 66 (.agg rowsV.toArray) (.int .i64 19)).run Try.prog w = .ok (.agg (rowC (rowAt 19))) w := by kernel_rfl
theorem rows_20 (w : World) : (Instr.index 66 (.agg rowsV.toArray) (.int .i64 20)).run Try.prog w = .ok (.agg (rowC (rowAt 20))) w := by kernel_rfl
theorem rows_21 (w : World) : (Instr.index 66 (.agg rowsV.toArray) (.int .i64 21)).run Try.prog w = .ok (.agg (rowC (rowAt 21))) w := by kernel_rfl
theorem rows_22 (w : World) : (Instr.index 66 (.agg rowsV.toArray) (.int .i64 22)).run Try.prog w = .ok (.agg (rowC (rowAt 22))) w := by kernel_rfl
theorem rows_23 (w : World) : (Instr.index 66 (.agg rowsV.toArray) (.int .i64 23)).run Try.prog w = .ok (.agg (rowC (rowAt 23))) w := by kernel_rfl
theorem rows_24 (w : World) : (Instr.index 66 (.agg rowsV.toArray) (.int .i64 24)).run Try.prog w = .ok (.agg (rowC (rowAt 24))) w := by kernel_rfl
theorem rows_25 (w : World) : (Instr.index 66 (.agg rowsV.toArray) (.int .i64 25)).run Try.prog w = .ok (.agg (rowC (rowAt 25))) w := by kernel_rfl
theorem rows_26 (w : World) : (Instr.index 66 (.agg rowsV.toArray) (.int .i64 26)).run Try.prog w = .ok (.agg (rowC (rowAt 26))) w := by kernel_rfl
theorem rows_27 (w : World) : (Instr.index 66 (.agg rowsV.toArray) (.int .i64 27)).run Try.prog w = .ok (.agg (rowC (rowAt 27))) w := by kernel_rfl
theorem rows_28 (w : World) : (Instr.index 66 (.agg rowsV.toArray) (.int .i64 28)).run Try.prog w = .ok (.agg (rowC (rowAt 28))) w := by kernel_rfl
theorem rows_29 (w : World) : (Instr.index 66 (.agg rowsV.toArray) (.int .i64 29)).run Try.prog w = .ok (.agg (rowC (rowAt 29))) w := by kernel_rfl
theorem rows_30 (w : World) : (Instr.index 66 (.agg rowsV.toArray) (.int .i64 30)).run Try.prog w = .ok (.agg (rowC (rowAt 30))) w := by kernel_rfl
theorem rows_31 (w : World) : (Instr.index 66 (.agg rowsV.toArray) (.int .i64 31)).run Try.prog w = .ok (.agg (rowC (rowAt 31))) w := by kernel_rfl
theorem rows_32 (w : World) : (Instr.index 66 (.agg rowsV.toArray) (.int .i64 32)).run Try.prog w = .ok (.agg (rowC (rowAt 32))) w := by kernel_rfl
theorem rows_33 (w : World) : (Instr.index 66 (.agg rowsV.toArray) (.int .i64 33)).run Try.prog w = .ok (.agg (rowC (rowAt 33))) w := by kernel_rfl
theorem rows_34 (w : World) : (Instr.index 66 (.agg rowsV.toArray) (.int .i64 34)).run Try.prog w = .ok (.agg (rowC (rowAt 34))) w := by kernel_rfl
theorem rows_35 (w : World) : (Instr.index 66 (.agg rowsV.toArray) (.int .i64 35)).run Try.prog w = .ok (.agg (rowC (rowAt 35))) w := by kernel_rfl
theorem rows_36 (w : World) : (Instr.index 66 (.agg rowsV.toArray) (.int .i64 36)).run Try.prog w = .ok (.agg (rowC (rowAt 36))) w := by kernel_rfl
theorem rows_37 (w : World) : (Instr.index 66 (.agg rowsV.toArray) (.int .i64 37)).run Try.prog w = .ok (.agg (rowC (rowAt 37))) w := by kernel_rfl
theorem rows_38 (w : World) : (Instr.index 66 (.agg rowsV.toArray) (.int .i64 38)).run Try.prog w = .ok (.agg (rowC (rowAt 38))) w := by kernel_rfl
theorem rows_39 (w : World) : (Instr.index 66 (.agg rowsV.toArray) (.int .i64 39)).run Try.prog w = .ok (.agg (rowC (rowAt 39))) w := by kernel_rfl
theorem rows_40 (w : World) : (Instr.index 66 (.agg rowsV.toArray) (.int .i64 40)).run Try.prog w = .ok (.agg (rowC (rowAt 40))) w := by kernel_rfl
theorem rows_41 (w : World) : (Instr.index 66 (.agg rowsV.toArray) (.int .i64 41)).run Try.prog w = .ok (.agg (rowC (rowAt 41))) w := by kernel_rfl
theorem rows_42 (w : World) : (Instr.index 66 (.agg rowsV.toArray) (.int .i64 42)).run Try.prog w = .ok (.agg (rowC (rowAt 42))) w := by kernel_rfl
theorem rows_43 (w : World) : (Instr.index 66 (.agg rowsV.toArray) (.int .i64 43)).run Try.prog w = .ok (.agg (rowC (rowAt 43))) w := by kernel_rfl
theorem rows_44 (w : World) : (Instr.index 66 (.agg rowsV.toArray) (.int .i64 44)).run Try.prog w = .ok (.agg (rowC (rowAt 44))) w := by kernel_rfl
theorem rows_45 (w : World) : (Instr.index 66 (.agg rowsV.toArray) (.int .i64 45)).run Try.prog w = .ok (.agg (rowC (rowAt 45))) w := by kernel_rfl
theorem rows_46 (w : World) : (Instr.index 66 (.agg rowsV.toArray) (.int .i64 46)).run Try.prog w = .ok (.agg (rowC (rowAt 46))) w := by kernel_rfl
theorem rows_47 (w : World) : (Instr.index 66 (.agg rowsV.toArray) (.int .i64 47)).run Try.prog w = .ok (.agg (rowC (rowAt 47))) w := by kernel_rfl
theorem rows_48 (w : World) : (Instr.index 66 (.agg rowsV.toArray) (.int .i64 48)).run Try.prog w = .ok (.agg (rowC (rowAt 48))) w := by kernel_rfl
theorem rows_49 (w : World) : (Instr.index 66 (.agg rowsV.toArray) (.int .i64 49)).run Try.prog w = .ok (.agg (rowC (rowAt 49))) w := by kernel_rfl
theorem rows_50 (w : World) : (Instr.index 66 (.agg rowsV.toArray) (.int .i64 50)).run Try.prog w = .ok (.agg (rowC (rowAt 50))) w := by kernel_rfl
theorem rows_51 (w : World) : (Instr.index 66 (.agg rowsV.toArray) (.int .i64 51)).run Try.prog w = .ok (.agg (rowC (rowAt 51))) w := by kernel_rfl
theorem rows_52 (w : World) : (Instr.index 66 (.agg rowsV.toArray) (.int .i64 52)).run Try.prog w = .ok (.agg (rowC (rowAt 52))) w := by kernel_rfl
theorem rows_53 (w : World) : (Instr.index 66 (.agg rowsV.toArray) (.int .i64 53)).run Try.prog w = .ok (.agg (rowC (rowAt 53))) w := by kernel_rfl
theorem rows_54 (w : World) : (Instr.index 66 (.agg rowsV.toArray) (.int .i64 54)).run Try.prog w = .ok (.agg (rowC (rowAt 54))) w := by kernel_rfl
theorem rows_55 (w : World) : (Instr.index 66 (.agg rowsV.toArray) (.int .i64 55)).run Try.prog w = .ok (.agg (rowC (rowAt 55))) w := by kernel_rfl
theorem rows_56 (w : World) : (Instr.index 66 (.agg rowsV.toArray) (.int .i64 56)).run Try.prog w = .ok (.agg (rowC (rowAt 56))) w := by kernel_rfl
theorem rows_57 (w : World) : (Instr.index 66 (.agg rowsV.toArray) (.int .i64 57)).run Try.prog w = .ok (.agg (rowC (rowAt 57))) w := by kernel_rfl
theorem rows_58 (w : World) : (Instr.index 66 (.agg rowsV.toArray) (.int .i64 58)).run Try.prog w = .ok (.agg (rowC (rowAt 58))) w := by kernel_rfl
theorem rows_59 (w : World) : (Instr.index 66 (.agg rowsV.toArray) (.int .i64 59)).run Try.prog w = .ok (.agg (rowC (rowAt 59))) w := by kernel_rfl
theorem rows_60 (w : World) : (Instr.index 66 (.agg rowsV.toArray) (.int .i64 60)).run Try.prog w = .ok (.agg (rowC (rowAt 60))) w := by kernel_rfl
theorem rows_61 (w : World) : (Instr.index 66 (.agg rowsV.toArray) (.int .i64 61)).run Try.prog w = .ok (.agg (rowC (rowAt 61))) w := by kernel_rfl
theorem rows_62 (w : World) : (Instr.index 66 (.agg rowsV.toArray) (.int .i64 62)).run Try.prog w = .ok (.agg (rowC (rowAt 62))) w := by kernel_rfl
theorem rows_63 (w : World) : (Instr.index 66 (.agg rowsV.toArray) (.int .i64 63)).run Try.prog w = .ok (.agg (rowC (rowAt 63))) w := by kernel_rfl
theorem rows_64 (w : World) : (Instr.index 66 (.agg rowsV.toArray) (.int .i64 64)).run Try.prog w = .ok (.agg (rowC (rowAt 64))) w := by kernel_rfl
theorem rows_65 (w : World) : (Instr.index 66 (.agg rowsV.toArray) (.int .i64 65)).run Try.prog w = .ok (.agg (rowC (rowAt 65))) w := by kernel_rfl
theorem rows_66 (w : World) : (Instr.index 66 (.agg rowsV.toArray) (.int .i64 66)).run Try.prog w = .ok (.agg (rowC (rowAt 66))) w := by kernel_rfl
theorem rows_67 (w : World) : (Instr.index 66 (.agg rowsV.toArray) (.int .i64 67)).run Try.prog w = .ok (.agg (rowC (rowAt 67))) w := by kernel_rfl
theorem rows_68 (w : World) : (Instr.index 66 (.agg rowsV.toArray) (.int .i64 68)).run Try.prog w = .ok (.agg (rowC (rowAt 68))) w := by kernel_rfl
theorem rows_at (k : Nat) (h : k < 69) (w : World) : (Instr.index 66 (.agg rowsV.toArray) (.int .i64 (k : Int))).run Try.prog w = .ok (.agg #[.string (rowAt k).nm, .int .u8 ((rowAt k).sh : Int), .int .u64 (U (rowAt k).cd), .int .u64 (U (rowAt k).f), .int .u64 (U (rowAt k).ot)]) w := by
  match k, h with
  | 0, _ => exact rows_0 w
  | 1, _ => exact rows_1 w
  | 2, _ => exact rows_2 w
  | 3, _ => exact rows_3 w
  | 4, _ => exact rows_4 w
  | 5, _ => exact rows_5 w
  | 6, _ => exact rows_6 w
  | 7, _ => exact rows_7 w
  | 8, _ => exact rows_8 w
  | 9, _ => exact rows_9 w
  | 10, _ => exact rows_10 w
  | 11, _ => exact rows_11 w
  | 12, _ => exact rows_12 w
  | 13, _ => exact rows_13 w
  | 14, _ => exact rows_14 w
  | 15, _ => exact rows_15 w
  | 16, _ => exact rows_16 w
  | 17, _ => exact rows_17 w
  | 18, _ => exact rows_18 w
  | 19, _ => exact rows_19 w
  | 20, _ => exact rows_20 w
  | 21, _ => exact rows_21 w
  | 22, _ => exact rows_22 w
  | 23, _ => exact rows_23 w
  | 24, _ => exact rows_24 w
  | 25, _ => exact rows_25 w
  | 26, _ => exact rows_26 w
  | 27, _ => exact rows_27 w
  | 28, _ => exact rows_28 w
  | 29, _ => exact rows_29 w
  | 30, _ => exact rows_30 w
  | 31, _ => exact rows_31 w
  | 32, _ => exact rows_32 w
  | 33, _ => exact rows_33 w
  | 34, _ => exact rows_34 w
  | 35, _ => exact rows_35 w
  | 36, _ => exact rows_36 w
  | 37, _ => exact rows_37 w
  | 38, _ => exact rows_38 w
  | 39, _ => exact rows_39 w
  | 40, _ => exact rows_40 w
  | 41, _ => exact rows_41 w
  | 42, _ => exact rows_42 w
  | 43, _ => exact rows_43 w
  | 44, _ => exact rows_44 w
  | 45, _ => exact rows_45 w
  | 46, _ => exact rows_46 w
  | 47, _ => exact rows_47 w
  | 48, _ => exact rows_48 w
  | 49, _ => exact rows_49 w
  | 50, _ => exact rows_50 w
  | 51, _ => exact rows_51 w
  | 52, _ => exact rows_52 w
  | 53, _ => exact rows_53 w
  | 54, _ => exact rows_54 w
  | 55, _ => exact rows_55 w
  | 56, _ => exact rows_56 w
  | 57, _ => exact rows_57 w
  | 58, _ => exact rows_58 w
  | 59, _ => exact rows_59 w
  | 60, _ => exact rows_60 w
  | 61, _ => exact rows_61 w
  | 62, _ => exact rows_62 w
  | 63, _ => exact rows_63 w
  | 64, _ => exact rows_64 w
  | 65, _ => exact rows_65 w
  | 66, _ => exact rows_66 w
  | 67, _ => exact rows_67 w
  | 68, _ => exact rows_68 w
  | n + 69, h => omega
attribute [local irreducible] rowsV
attribute [local go_sem 3000] rows_at
set_option maxHeartbeats 4000000 in
set_option maxRecDepth 100000 in
theorem of_bad (op : Int) (h : op < 1 ∨ 69 < op) (w : World) : Calls Try.prog 15 #[.int .i64 op] w fun r w' => r = .returned (.tuple #[.agg #[.string ⟨#[]⟩, .int .u8 0, .int .u64 0, .int .u64 0, .int .u64 0], .bool false]) ∧ Below w.heap.size w w' := by
  by_cases c : op < 1
  · have d1 : decide (op < 1) = true := decide_eq_true c
    go_enter Try.func15, Try.ntmps15
    go_wp2_with fail
    refine bodyPost_ret (results_ct [.string ⟨#[]⟩, .int .u8 0, .int .u64 0, .int .u64 0, .int .u64 0] (.bool false) Try.results15 rfl rfl ?_ Try.underlying43 rfl (by kernel_rfl)) rfl ?_
    · (first | (go_simp; done) | (go_simp; (simp [↓IntWalk.iteOmega]; done)) | (go_simp; intros; omega) | (go_simp; simp [↓IntWalk.iteOmega]; intros; omega))
    · exact ⟨rfl, by (repeat (first | with_reducible exact Below.refl _ _ | with_reducible assumption | with_reducible refine below_drewN ?_ _ | with_reducible refine Below.drew ?_ | with_reducible refine below_alloc ?_ _ | (with_reducible refine Below.setCell ?_ (by first | (simp; done) | omega | (simp; omega)) _) | with_reducible refine belows ?_ (by assumption)))⟩
  · have d1 : decide (op < 1) = false := decide_eq_false c
    have d2 : decide (69 < op) = true := decide_eq_true (by omega)
    go_enter Try.func15, Try.ntmps15
    go_wp2_with fail
    refine bodyPost_ret (results_ct [.string ⟨#[]⟩, .int .u8 0, .int .u64 0, .int .u64 0, .int .u64 0] (.bool false) Try.results15 rfl rfl ?_ Try.underlying43 rfl (by kernel_rfl)) rfl ?_
    · (first | (go_simp; done) | (go_simp; (simp [↓IntWalk.iteOmega]; done)) | (go_simp; intros; omega) | (go_simp; simp [↓IntWalk.iteOmega]; intros; omega))
    · exact ⟨rfl, by (repeat (first | with_reducible exact Below.refl _ _ | with_reducible assumption | with_reducible refine below_drewN ?_ _ | with_reducible refine Below.drew ?_ | with_reducible refine below_alloc ?_ _ | (with_reducible refine Below.setCell ?_ (by first | (simp; done) | omega | (simp; omega)) _) | with_reducible refine belows ?_ (by assumption)))⟩
set_option maxHeartbeats 4000000 in
set_option maxRecDepth 100000 in
theorem of_good (k : Nat) (h : k < 69) (w : World) : Calls Try.prog 15 #[.int .i64 ((k : Int) + 1)] w fun r w' => r = .returned (.tuple #[.agg #[.string (rowAt k).nm, .int .u8 ((rowAt k).sh : Int), .int .u64 (U (rowAt k).cd), .int .u64 (U (rowAt k).f), .int .u64 (U (rowAt k).ot)], .bool true]) ∧ Below w.heap.size w w' := by
  have d1 : decide ((k : Int) + 1 < 1) = false := decide_eq_false (by omega)
  have d2 : decide (69 < (k : Int) + 1) = false := decide_eq_false (by omega)
  have hi := fun w => rows_at k h w
  go_enter Try.func15, Try.ntmps15
  go_wp2_with (first | (go_at_call 27; (with_reducible refine (rows_any _).mono ?_); rintro e w' ⟨rfl, hbl⟩; obtain ⟨hcw, hfw, hsw⟩ := below_ifs hbl; (try simp only [World.size_alloc, World.size_setCell, World.size_drew, size_drewN_] at hcw hfw hsw)))
  refine bodyPost_ret (results_ct [.string (rowAt k).nm, .int .u8 ((rowAt k).sh : Int), .int .u64 (U (rowAt k).cd), .int .u64 (U (rowAt k).f), .int .u64 (U (rowAt k).ot)] (.bool true) Try.results15 rfl rfl ?_ Try.underlying43 rfl (by kernel_rfl)) rfl ?_
  · (first | (go_simp; done) | (go_simp; (simp [↓IntWalk.iteOmega]; done)) | (go_simp; intros; omega) | (go_simp; simp [↓IntWalk.iteOmega]; intros; omega))
  · exact ⟨rfl, by (repeat (first | with_reducible exact Below.refl _ _ | with_reducible assumption | with_reducible refine below_drewN ?_ _ | with_reducible refine Below.drew ?_ | with_reducible refine below_alloc ?_ _ | (with_reducible refine Below.setCell ?_ (by first | (simp; done) | omega | (simp; omega)) _) | with_reducible refine belows ?_ (by assumption)))⟩
/-- The pieces of a shape, where they are. -/
def PcAt (w : World) (a : Option Addr) (L : List Pc) : Prop := L = [] ∨ ∃ b, a = some ⟨b, 0, none⟩ ∧ b < w.heap.size ∧ ∀ (i : Nat) (p : Pc), L[i]? = some p → w.cell? ⟨b, i * 3, none⟩ = some (.int .i64 p.1) ∧ w.cell? ⟨b, i * 3 + 1, none⟩ = some (.int .i64 p.2.1) ∧ w.cell? ⟨b, i * 3 + 2, none⟩ = some (.int .i64 p.2.2)
theorem PcAt.below {w w' : World} {a : Option Addr} {L : List Pc} (h : PcAt w a L) (hb : Below w.heap.size w w') : PcAt w' a L := by
  rcases h with h | ⟨b, h1, h2, h3⟩
  · exact .inl h
  · exact .inr ⟨b, h1, Nat.lt_of_lt_of_le h2 hb.size, fun i p hp => ⟨(hb.cell (p := ⟨b, _, none⟩) h2).trans (h3 i p hp).1, (hb.cell (p := ⟨b, _, none⟩) h2).trans (h3 i p hp).2.1, (hb.cell (p := ⟨b, _, none⟩) h2).trans (h3 i p hp).2.2⟩⟩
set_option maxHeartbeats 4000000 in
set_option maxRecDepth 100000 in
theorem laid_82 (w : World) : Calls Try.prog 16 #[.int .u8 82] w fun r w' => ∃ a cap, r = .returned (.agg #[.slice a (pcs 82).length cap, .int .i64 (bitsOf 82), .bool (sgOf 82), .int .i64 (zerosOf 82)]) ∧ Below w.heap.size w w' ∧ PcAt w' a (pcs 82) := by
  go_enter Try.func16, Try.ntmps16
  go_wp2_with fail
  refine bodyPost_ret (results_c [.slice none 0 0, .int .i64 0, .bool false, .int .i64 0] Try.results16 rfl ?_ Try.underlying48 rfl (by kernel_rfl)) rfl ?_
  · (first | (go_simp; done) | (go_simp; (simp [↓IntWalk.iteOmega]; done)) | (go_simp; intros; omega) | (go_simp; simp [↓IntWalk.iteOmega]; intros; omega))
  · exact ⟨none, 0, rfl, by (repeat (first | with_reducible exact Below.refl _ _ | with_reducible assumption | with_reducible refine below_drewN ?_ _ | with_reducible refine Below.drew ?_ | with_reducible refine below_alloc ?_ _ | (with_reducible refine Below.setCell ?_ (by first | (simp; done) | omega | (simp; omega)) _) | with_reducible refine belows ?_ (by assumption))), .inl rfl⟩
set_option maxHeartbeats 4000000 in
set_option maxRecDepth 100000 in
theorem laid_71 (w : World) : Calls Try.prog 16 #[.int .u8 71] w fun r w' => ∃ a cap, r = .returned (.agg #[.slice a (pcs 71).length cap, .int .i64 (bitsOf 71), .bool (sgOf 71), .int .i64 (zerosOf 71)]) ∧ Below w.heap.size w w' ∧ PcAt w' a (pcs 71) := by
  go_enter Try.func16, Try.ntmps16
  go_wp2_with fail
  refine bodyPost_ret (results_c [.slice none 0 0, .int .i64 0, .bool false, .int .i64 0] Try.results16 rfl ?_ Try.underlying48 rfl (by kernel_rfl)) rfl ?_
  · (first | (go_simp; done) | (go_simp; (simp [↓IntWalk.iteOmega]; done)) | (go_simp; intros; omega) | (go_simp; simp [↓IntWalk.iteOmega]; intros; omega))
  · exact ⟨none, 0, rfl, by (repeat (first | with_reducible exact Below.refl _ _ | with_reducible assumption | with_reducible refine below_drewN ?_ _ | with_reducible refine Below.drew ?_ | with_reducible refine below_alloc ?_ _ | (with_reducible refine Below.setCell ?_ (by first | (simp; done) | omega | (simp; omega)) _) | with_reducible refine belows ?_ (by assumption))), .inl rfl⟩
set_option maxHeartbeats 4000000 in
set_option maxRecDepth 100000 in
theorem laid_78 (w : World) : Calls Try.prog 16 #[.int .u8 78] w fun r w' => ∃ a cap, r = .returned (.agg #[.slice a (pcs 78).length cap, .int .i64 (bitsOf 78), .bool (sgOf 78), .int .i64 (zerosOf 78)]) ∧ Below w.heap.size w w' ∧ PcAt w' a (pcs 78) := by
  go_enter Try.func16, Try.ntmps16
  go_wp2_with fail
  refine bodyPost_ret (results_c [.slice none 0 0, .int .i64 0, .bool false, .int .i64 0] Try.results16 rfl ?_ Try.underlying48 rfl (by kernel_rfl)) rfl ?_
  · (first | (go_simp; done) | (go_simp; (simp [↓IntWalk.iteOmega]; done)) | (go_simp; intros; omega) | (go_simp; simp [↓IntWalk.iteOmega]; intros; omega))
  · exact ⟨none, 0, rfl, by (repeat (first | with_reducible exact Below.refl _ _ | with_reducible assumption | with_reducible refine below_drewN ?_ _ | with_reducible refine Below.drew ?_ | with_reducible refine below_alloc ?_ _ | (with_reducible refine Below.setCell ?_ (by first | (simp; done) | omega | (simp; omega)) _) | with_reducible refine belows ?_ (by assumption))), .inl rfl⟩
set_option maxHeartbeats 4000000 in
set_option maxRecDepth 100000 in
theorem laid_73 (w : World) : Calls Try.prog 16 #[.int .u8 73] w fun r w' => ∃ a cap, r = .returned (.agg #[.slice a (pcs 73).length cap, .int .i64 (bitsOf 73), .bool (sgOf 73), .int .i64 (zerosOf 73)]) ∧ Below w.heap.size w w' ∧ PcAt w' a (pcs 73) := by
  go_enter Try.func16, Try.ntmps16
  go_wp2_with fail
  refine bodyPost_ret (results_c [.slice (some ⟨w.heap.size + 1, 0, none⟩) 1 1, .int .i64 12, .bool true, .int .i64 0] Try.results16 rfl ?_ Try.underlying48 rfl (by kernel_rfl)) rfl ?_
  · (first | (go_simp; done) | (go_simp; (simp [↓IntWalk.iteOmega]; done)) | (go_simp; intros; omega) | (go_simp; simp [↓IntWalk.iteOmega]; intros; omega))
  · refine ⟨some ⟨w.heap.size + 1, 0, none⟩, 1, rfl, by (repeat (first | with_reducible exact Below.refl _ _ | with_reducible assumption | with_reducible refine below_drewN ?_ _ | with_reducible refine Below.drew ?_ | with_reducible refine below_alloc ?_ _ | (with_reducible refine Below.setCell ?_ (by first | (simp; done) | omega | (simp; omega)) _) | with_reducible refine belows ?_ (by assumption))), .inr ⟨w.heap.size + 1, rfl, by simp, fun i p hp => ?_⟩⟩
    rcases i with _ | i
    · cases hp
      exact ⟨by (first | (go_simp; done) | (go_simp; (simp [↓IntWalk.iteOmega]; done)) | (go_simp; intros; omega) | (go_simp; simp [↓IntWalk.iteOmega]; intros; omega)), by (first | (go_simp; done) | (go_simp; (simp [↓IntWalk.iteOmega]; done)) | (go_simp; intros; omega) | (go_simp; simp [↓IntWalk.iteOmega]; intros; omega)), by (first | (go_simp; done) | (go_simp; (simp [↓IntWalk.iteOmega]; done)) | (go_simp; intros; omega) | (go_simp; simp [↓IntWalk.iteOmega]; intros; omega))⟩
    · cases hp
set_option maxHeartbeats 4000000 in
set_option maxRecDepth 100000 in
theorem laid_67 (w : World) : Calls Try.prog 16 #[.int .u8 67] w fun r w' => ∃ a cap, r = .returned (.agg #[.slice a (pcs 67).length cap, .int .i64 (bitsOf 67), .bool (sgOf 67), .int .i64 (zerosOf 67)]) ∧ Below w.heap.size w w' ∧ PcAt w' a (pcs 67) := by
  go_enter Try.func16, Try.ntmps16
  go_wp2_with fail
  refine bodyPost_ret (results_c [.slice (some ⟨w.heap.size + 1, 0, none⟩) 1 1, .int .i64 12, .bool false, .int .i64 0] Try.results16 rfl ?_ Try.underlying48 rfl (by kernel_rfl)) rfl ?_
  · (first | (go_simp; done) | (go_simp; (simp [↓IntWalk.iteOmega]; done)) | (go_simp; intros; omega) | (go_simp; simp [↓IntWalk.iteOmega]; intros; omega))
  · refine ⟨some ⟨w.heap.size + 1, 0, none⟩, 1, rfl, by (repeat (first | with_reducible exact Below.refl _ _ | with_reducible assumption | with_reducible refine below_drewN ?_ _ | with_reducible refine Below.drew ?_ | with_reducible refine below_alloc ?_ _ | (with_reducible refine Below.setCell ?_ (by first | (simp; done) | omega | (simp; omega)) _) | with_reducible refine belows ?_ (by assumption))), .inr ⟨w.heap.size + 1, rfl, by simp, fun i p hp => ?_⟩⟩
    rcases i with _ | i
    · cases hp
      exact ⟨by (first | (go_simp; done) | (go_simp; (simp [↓IntWalk.iteOmega]; done)) | (go_simp; intros; omega) | (go_simp; simp [↓IntWalk.iteOmega]; intros; omega)), by (first | (go_simp; done) | (go_simp; (simp [↓IntWalk.iteOmega]; done)) | (go_simp; intros; omega) | (go_simp; simp [↓IntWalk.iteOmega]; intros; omega)), by (first | (go_simp; done) | (go_simp; (simp [↓IntWalk.iteOmega]; done)) | (go_simp; intros; omega) | (go_simp; simp [↓IntWalk.iteOmega]; intros; omega))⟩
    · cases hp
set_option maxHeartbeats 4000000 in
set_option maxRecDepth 100000 in
theorem laid_72 (w : World) : Calls Try.prog 16 #[.int .u8 72] w fun r w' => ∃ a cap, r = .returned (.agg #[.slice a (pcs 72).length cap, .int .i64 (bitsOf 72), .bool (sgOf 72), .int .i64 (zerosOf 72)]) ∧ Below w.heap.size w w' ∧ PcAt w' a (pcs 72) := by
  go_enter Try.func16, Try.ntmps16
  go_wp2_with fail
  refine bodyPost_ret (results_c [.slice (some ⟨w.heap.size + 1, 0, none⟩) 1 1, .int .i64 6, .bool false, .int .i64 0] Try.results16 rfl ?_ Try.underlying48 rfl (by kernel_rfl)) rfl ?_
  · (first | (go_simp; done) | (go_simp; (simp [↓IntWalk.iteOmega]; done)) | (go_simp; intros; omega) | (go_simp; simp [↓IntWalk.iteOmega]; intros; omega))
  · refine ⟨some ⟨w.heap.size + 1, 0, none⟩, 1, rfl, by (repeat (first | with_reducible exact Below.refl _ _ | with_reducible assumption | with_reducible refine below_drewN ?_ _ | with_reducible refine Below.drew ?_ | with_reducible refine below_alloc ?_ _ | (with_reducible refine Below.setCell ?_ (by first | (simp; done) | omega | (simp; omega)) _) | with_reducible refine belows ?_ (by assumption))), .inr ⟨w.heap.size + 1, rfl, by simp, fun i p hp => ?_⟩⟩
    rcases i with _ | i
    · cases hp
      exact ⟨by (first | (go_simp; done) | (go_simp; (simp [↓IntWalk.iteOmega]; done)) | (go_simp; intros; omega) | (go_simp; simp [↓IntWalk.iteOmega]; intros; omega)), by (first | (go_simp; done) | (go_simp; (simp [↓IntWalk.iteOmega]; done)) | (go_simp; intros; omega) | (go_simp; simp [↓IntWalk.iteOmega]; intros; omega)), by (first | (go_simp; done) | (go_simp; (simp [↓IntWalk.iteOmega]; done)) | (go_simp; intros; omega) | (go_simp; simp [↓IntWalk.iteOmega]; intros; omega))⟩
    · cases hp
set_option maxHeartbeats 4000000 in
set_option maxRecDepth 100000 in
theorem laid_83 (w : World) : Calls Try.prog 16 #[.int .u8 83] w fun r w' => ∃ a cap, r = .returned (.agg #[.slice a (pcs 83).length cap, .int .i64 (bitsOf 83), .bool (sgOf 83), .int .i64 (zerosOf 83)]) ∧ Below w.heap.size w w' ∧ PcAt w' a (pcs 83) := by
  go_enter Try.func16, Try.ntmps16
  go_wp2_with fail
  refine bodyPost_ret (results_c [.slice (some ⟨w.heap.size + 1, 0, none⟩) 2 2, .int .i64 12, .bool true, .int .i64 0] Try.results16 rfl ?_ Try.underlying48 rfl (by kernel_rfl)) rfl ?_
  · (first | (go_simp; done) | (go_simp; (simp [↓IntWalk.iteOmega]; done)) | (go_simp; intros; omega) | (go_simp; simp [↓IntWalk.iteOmega]; intros; omega))
  · refine ⟨some ⟨w.heap.size + 1, 0, none⟩, 2, rfl, by (repeat (first | with_reducible exact Below.refl _ _ | with_reducible assumption | with_reducible refine below_drewN ?_ _ | with_reducible refine Below.drew ?_ | with_reducible refine below_alloc ?_ _ | (with_reducible refine Below.setCell ?_ (by first | (simp; done) | omega | (simp; omega)) _) | with_reducible refine belows ?_ (by assumption))), .inr ⟨w.heap.size + 1, rfl, by simp, fun i p hp => ?_⟩⟩
    rcases i with _ | _ | i
    · cases hp
      exact ⟨by (first | (go_simp; done) | (go_simp; (simp [↓IntWalk.iteOmega]; done)) | (go_simp; intros; omega) | (go_simp; simp [↓IntWalk.iteOmega]; intros; omega)), by (first | (go_simp; done) | (go_simp; (simp [↓IntWalk.iteOmega]; done)) | (go_simp; intros; omega) | (go_simp; simp [↓IntWalk.iteOmega]; intros; omega)), by (first | (go_simp; done) | (go_simp; (simp [↓IntWalk.iteOmega]; done)) | (go_simp; intros; omega) | (go_simp; simp [↓IntWalk.iteOmega]; intros; omega))⟩
    · cases hp
      exact ⟨by (first | (go_simp; done) | (go_simp; (simp [↓IntWalk.iteOmega]; done)) | (go_simp; intros; omega) | (go_simp; simp [↓IntWalk.iteOmega]; intros; omega)), by (first | (go_simp; done) | (go_simp; (simp [↓IntWalk.iteOmega]; done)) | (go_simp; intros; omega) | (go_simp; simp [↓IntWalk.iteOmega]; intros; omega)), by (first | (go_simp; done) | (go_simp; (simp [↓IntWalk.iteOmega]; done)) | (go_simp; intros; omega) | (go_simp; simp [↓IntWalk.iteOmega]; intros; omega))⟩
    · cases hp
set_option maxHeartbeats 4000000 in
set_option maxRecDepth 100000 in
theorem laid_66 (w : World) : Calls Try.prog 16 #[.int .u8 66] w fun r w' => ∃ a cap, r = .returned (.agg #[.slice a (pcs 66).length cap, .int .i64 (bitsOf 66), .bool (sgOf 66), .int .i64 (zerosOf 66)]) ∧ Below w.heap.size w w' ∧ PcAt w' a (pcs 66) := by
  go_enter Try.func16, Try.ntmps16
  go_wp2_with fail
  refine bodyPost_ret (results_c [.slice (some ⟨w.heap.size + 1, 0, none⟩) 4 4, .int .i64 13, .bool true, .int .i64 1] Try.results16 rfl ?_ Try.underlying48 rfl (by kernel_rfl)) rfl ?_
  · (first | (go_simp; done) | (go_simp; (simp [↓IntWalk.iteOmega]; done)) | (go_simp; intros; omega) | (go_simp; simp [↓IntWalk.iteOmega]; intros; omega))
  · refine ⟨some ⟨w.heap.size + 1, 0, none⟩, 4, rfl, by (repeat (first | with_reducible exact Below.refl _ _ | with_reducible assumption | with_reducible refine below_drewN ?_ _ | with_reducible refine Below.drew ?_ | with_reducible refine below_alloc ?_ _ | (with_reducible refine Below.setCell ?_ (by first | (simp; done) | omega | (simp; omega)) _) | with_reducible refine belows ?_ (by assumption))), .inr ⟨w.heap.size + 1, rfl, by simp, fun i p hp => ?_⟩⟩
    rcases i with _ | _ | _ | _ | i
    · cases hp
      exact ⟨by (first | (go_simp; done) | (go_simp; (simp [↓IntWalk.iteOmega]; done)) | (go_simp; intros; omega) | (go_simp; simp [↓IntWalk.iteOmega]; intros; omega)), by (first | (go_simp; done) | (go_simp; (simp [↓IntWalk.iteOmega]; done)) | (go_simp; intros; omega) | (go_simp; simp [↓IntWalk.iteOmega]; intros; omega)), by (first | (go_simp; done) | (go_simp; (simp [↓IntWalk.iteOmega]; done)) | (go_simp; intros; omega) | (go_simp; simp [↓IntWalk.iteOmega]; intros; omega))⟩
    · cases hp
      exact ⟨by (first | (go_simp; done) | (go_simp; (simp [↓IntWalk.iteOmega]; done)) | (go_simp; intros; omega) | (go_simp; simp [↓IntWalk.iteOmega]; intros; omega)), by (first | (go_simp; done) | (go_simp; (simp [↓IntWalk.iteOmega]; done)) | (go_simp; intros; omega) | (go_simp; simp [↓IntWalk.iteOmega]; intros; omega)), by (first | (go_simp; done) | (go_simp; (simp [↓IntWalk.iteOmega]; done)) | (go_simp; intros; omega) | (go_simp; simp [↓IntWalk.iteOmega]; intros; omega))⟩
    · cases hp
      exact ⟨by (first | (go_simp; done) | (go_simp; (simp [↓IntWalk.iteOmega]; done)) | (go_simp; intros; omega) | (go_simp; simp [↓IntWalk.iteOmega]; intros; omega)), by (first | (go_simp; done) | (go_simp; (simp [↓IntWalk.iteOmega]; done)) | (go_simp; intros; omega) | (go_simp; simp [↓IntWalk.iteOmega]; intros; omega)), by (first | (go_simp; done) | (go_simp; (simp [↓IntWalk.iteOmega]; done)) | (go_simp; intros; omega) | (go_simp; simp [↓IntWalk.iteOmega]; intros; omega))⟩
    · cases hp
      exact ⟨by (first | (go_simp; done) | (go_simp; (simp [↓IntWalk.iteOmega]; done)) | (go_simp; intros; omega) | (go_simp; simp [↓IntWalk.iteOmega]; intros; omega)), by (first | (go_simp; done) | (go_simp; (simp [↓IntWalk.iteOmega]; done)) | (go_simp; intros; omega) | (go_simp; simp [↓IntWalk.iteOmega]; intros; omega)), by (first | (go_simp; done) | (go_simp; (simp [↓IntWalk.iteOmega]; done)) | (go_simp; intros; omega) | (go_simp; simp [↓IntWalk.iteOmega]; intros; omega))⟩
    · cases hp
set_option maxHeartbeats 4000000 in
set_option maxRecDepth 100000 in
theorem laid_85 (w : World) : Calls Try.prog 16 #[.int .u8 85] w fun r w' => ∃ a cap, r = .returned (.agg #[.slice a (pcs 85).length cap, .int .i64 (bitsOf 85), .bool (sgOf 85), .int .i64 (zerosOf 85)]) ∧ Below w.heap.size w w' ∧ PcAt w' a (pcs 85) := by
  go_enter Try.func16, Try.ntmps16
  go_wp2_with fail
  refine bodyPost_ret (results_c [.slice (some ⟨w.heap.size + 1, 0, none⟩) 1 1, .int .i64 32, .bool true, .int .i64 12] Try.results16 rfl ?_ Try.underlying48 rfl (by kernel_rfl)) rfl ?_
  · (first | (go_simp; done) | (go_simp; (simp [↓IntWalk.iteOmega]; done)) | (go_simp; intros; omega) | (go_simp; simp [↓IntWalk.iteOmega]; intros; omega))
  · refine ⟨some ⟨w.heap.size + 1, 0, none⟩, 1, rfl, by (repeat (first | with_reducible exact Below.refl _ _ | with_reducible assumption | with_reducible refine below_drewN ?_ _ | with_reducible refine Below.drew ?_ | with_reducible refine below_alloc ?_ _ | (with_reducible refine Below.setCell ?_ (by first | (simp; done) | omega | (simp; omega)) _) | with_reducible refine belows ?_ (by assumption))), .inr ⟨w.heap.size + 1, rfl, by simp, fun i p hp => ?_⟩⟩
    rcases i with _ | i
    · cases hp
      exact ⟨by (first | (go_simp; done) | (go_simp; (simp [↓IntWalk.iteOmega]; done)) | (go_simp; intros; omega) | (go_simp; simp [↓IntWalk.iteOmega]; intros; omega)), by (first | (go_simp; done) | (go_simp; (simp [↓IntWalk.iteOmega]; done)) | (go_simp; intros; omega) | (go_simp; simp [↓IntWalk.iteOmega]; intros; omega)), by (first | (go_simp; done) | (go_simp; (simp [↓IntWalk.iteOmega]; done)) | (go_simp; intros; omega) | (go_simp; simp [↓IntWalk.iteOmega]; intros; omega))⟩
    · cases hp
set_option maxHeartbeats 4000000 in
set_option maxRecDepth 100000 in
theorem laid_74 (w : World) : Calls Try.prog 16 #[.int .u8 74] w fun r w' => ∃ a cap, r = .returned (.agg #[.slice a (pcs 74).length cap, .int .i64 (bitsOf 74), .bool (sgOf 74), .int .i64 (zerosOf 74)]) ∧ Below w.heap.size w w' ∧ PcAt w' a (pcs 74) := by
  go_enter Try.func16, Try.ntmps16
  go_wp2_with fail
  refine bodyPost_ret (results_c [.slice (some ⟨w.heap.size + 1, 0, none⟩) 4 4, .int .i64 21, .bool true, .int .i64 1] Try.results16 rfl ?_ Try.underlying48 rfl (by kernel_rfl)) rfl ?_
  · (first | (go_simp; done) | (go_simp; (simp [↓IntWalk.iteOmega]; done)) | (go_simp; intros; omega) | (go_simp; simp [↓IntWalk.iteOmega]; intros; omega))
  · refine ⟨some ⟨w.heap.size + 1, 0, none⟩, 4, rfl, by (repeat (first | with_reducible exact Below.refl _ _ | with_reducible assumption | with_reducible refine below_drewN ?_ _ | with_reducible refine Below.drew ?_ | with_reducible refine below_alloc ?_ _ | (with_reducible refine Below.setCell ?_ (by first | (simp; done) | omega | (simp; omega)) _) | with_reducible refine belows ?_ (by assumption))), .inr ⟨w.heap.size + 1, rfl, by simp, fun i p hp => ?_⟩⟩
    rcases i with _ | _ | _ | _ | i
    · cases hp
      exact ⟨by (first | (go_simp; done) | (go_simp; (simp [↓IntWalk.iteOmega]; done)) | (go_simp; intros; omega) | (go_simp; simp [↓IntWalk.iteOmega]; intros; omega)), by (first | (go_simp; done) | (go_simp; (simp [↓IntWalk.iteOmega]; done)) | (go_simp; intros; omega) | (go_simp; simp [↓IntWalk.iteOmega]; intros; omega)), by (first | (go_simp; done) | (go_simp; (simp [↓IntWalk.iteOmega]; done)) | (go_simp; intros; omega) | (go_simp; simp [↓IntWalk.iteOmega]; intros; omega))⟩
    · cases hp
      exact ⟨by (first | (go_simp; done) | (go_simp; (simp [↓IntWalk.iteOmega]; done)) | (go_simp; intros; omega) | (go_simp; simp [↓IntWalk.iteOmega]; intros; omega)), by (first | (go_simp; done) | (go_simp; (simp [↓IntWalk.iteOmega]; done)) | (go_simp; intros; omega) | (go_simp; simp [↓IntWalk.iteOmega]; intros; omega)), by (first | (go_simp; done) | (go_simp; (simp [↓IntWalk.iteOmega]; done)) | (go_simp; intros; omega) | (go_simp; simp [↓IntWalk.iteOmega]; intros; omega))⟩
    · cases hp
      exact ⟨by (first | (go_simp; done) | (go_simp; (simp [↓IntWalk.iteOmega]; done)) | (go_simp; intros; omega) | (go_simp; simp [↓IntWalk.iteOmega]; intros; omega)), by (first | (go_simp; done) | (go_simp; (simp [↓IntWalk.iteOmega]; done)) | (go_simp; intros; omega) | (go_simp; simp [↓IntWalk.iteOmega]; intros; omega)), by (first | (go_simp; done) | (go_simp; (simp [↓IntWalk.iteOmega]; done)) | (go_simp; intros; omega) | (go_simp; simp [↓IntWalk.iteOmega]; intros; omega))⟩
    · cases hp
      exact ⟨by (first | (go_simp; done) | (go_simp; (simp [↓IntWalk.iteOmega]; done)) | (go_simp; intros; omega) | (go_simp; simp [↓IntWalk.iteOmega]; intros; omega)), by (first | (go_simp; done) | (go_simp; (simp [↓IntWalk.iteOmega]; done)) | (go_simp; intros; omega) | (go_simp; simp [↓IntWalk.iteOmega]; intros; omega)), by (first | (go_simp; done) | (go_simp; (simp [↓IntWalk.iteOmega]; done)) | (go_simp; intros; omega) | (go_simp; simp [↓IntWalk.iteOmega]; intros; omega))⟩
    · cases hp
theorem laid_any (s : Nat) (h : s ∈ shapes) (w : World) : Calls Try.prog 16 #[.int .u8 (s : Int)] w fun r w' => ∃ a cap, r = .returned (.agg #[.slice a (pcs s).length cap, .int .i64 (bitsOf s), .bool (sgOf s), .int .i64 (zerosOf s)]) ∧ Below w.heap.size w w' ∧ PcAt w' a (pcs s) := by
  simp only [shapes, List.mem_cons, List.not_mem_nil, or_false] at h
  rcases h with rfl | rfl | rfl | rfl | rfl | rfl | rfl | rfl | rfl | rfl
  · exact laid_82 w
  · exact laid_71 w
  · exact laid_78 w
  · exact laid_73 w
  · exact laid_67 w
  · exact laid_72 w
  · exact laid_83 w
  · exact laid_66 w
  · exact laid_85 w
  · exact laid_74 w
theorem has_82 (w : World) : Calls Try.prog 19 #[.int .u8 82] w fun r w' => r = .returned (.tuple #[.bool (hasD 82), .bool (has1 82), .bool (has2 82)]) ∧ w = w' := by
  go_enter Try.func19, Try.ntmps19
  go_wp2_with fail
  go_ret3
  exact ⟨rfl, rfl⟩
theorem has_71 (w : World) : Calls Try.prog 19 #[.int .u8 71] w fun r w' => r = .returned (.tuple #[.bool (hasD 71), .bool (has1 71), .bool (has2 71)]) ∧ w = w' := by
  go_enter Try.func19, Try.ntmps19
  go_wp2_with fail
  go_ret3
  exact ⟨rfl, rfl⟩
theorem has_78 (w : World) : Calls Try.prog 19 #[.int .u8 78] w fun r w' => r = .returned (.tuple #[.bool (hasD 78), .bool (has1 78), .bool (has2 78)]) ∧ w = w' := by
  go_enter Try.func19, Try.ntmps19
  go_wp2_with fail
  go_ret3
  exact ⟨rfl, rfl⟩
theorem has_73 (w : World) : Calls Try.prog 19 #[.int .u8 73] w fun r w' => r = .returned (.tuple #[.bool (hasD 73), .bool (has1 73), .bool (has2 73)]) ∧ w = w' := by
  go_enter Try.func19, Try.ntmps19
  go_wp2_with fail
  go_ret3
  exact ⟨rfl, rfl⟩
theorem has_67 (w : World) : Calls Try.prog 19 #[.int .u8 67] w fun r w' => r = .returned (.tuple #[.bool (hasD 67), .bool (has1 67), .bool (has2 67)]) ∧ w = w' := by
  go_enter Try.func19, Try.ntmps19
  go_wp2_with fail
  go_ret3
  exact ⟨rfl, rfl⟩
theorem has_72 (w : World) : Calls Try.prog 19 #[.int .u8 72] w fun r w' => r = .returned (.tuple #[.bool (hasD 72), .bool (has1 72), .bool (has2 72)]) ∧ w = w' := by
  go_enter Try.func19, Try.ntmps19
  go_wp2_with fail
  go_ret3
  exact ⟨rfl, rfl⟩
theorem has_83 (w : World) : Calls Try.prog 19 #[.int .u8 83] w fun r w' => r = .returned (.tuple #[.bool (hasD 83), .bool (has1 83), .bool (has2 83)]) ∧ w = w' := by
  go_enter Try.func19, Try.ntmps19
  go_wp2_with fail
  go_ret3
  exact ⟨rfl, rfl⟩
theorem has_66 (w : World) : Calls Try.prog 19 #[.int .u8 66] w fun r w' => r = .returned (.tuple #[.bool (hasD 66), .bool (has1 66), .bool (has2 66)]) ∧ w = w' := by
  go_enter Try.func19, Try.ntmps19
  go_wp2_with fail
  go_ret3
  exact ⟨rfl, rfl⟩
theorem has_85 (w : World) : Calls Try.prog 19 #[.int .u8 85] w fun r w' => r = .returned (.tuple #[.bool (hasD 85), .bool (has1 85), .bool (has2 85)]) ∧ w = w' := by
  go_enter Try.func19, Try.ntmps19
  go_wp2_with fail
  go_ret3
  exact ⟨rfl, rfl⟩
theorem has_74 (w : World) : Calls Try.prog 19 #[.int .u8 74] w fun r w' => r = .returned (.tuple #[.bool (hasD 74), .bool (has1 74), .bool (has2 74)]) ∧ w = w' := by
  go_enter Try.func19, Try.ntmps19
  go_wp2_with fail
  go_ret3
  exact ⟨rfl, rfl⟩
theorem has_any (s : Nat) (h : s ∈ shapes) (w : World) : Calls Try.prog 19 #[.int .u8 (s : Int)] w fun r w' => r = .returned (.tuple #[.bool (hasD s), .bool (has1 s), .bool (has2 s)]) ∧ w = w' := by
  simp only [shapes, List.mem_cons, List.not_mem_nil, or_false] at h
  rcases h with rfl | rfl | rfl | rfl | rfl | rfl | rfl | rfl | rfl | rfl
  · exact has_82 w
  · exact has_71 w
  · exact has_78 w
  · exact has_73 w
  · exact has_67 w
  · exact has_72 w
  · exact has_83 w
  · exact has_66 w
  · exact has_85 w
  · exact has_74 w
end Go.Proofs.Ytokfokgbbpjgdaa
