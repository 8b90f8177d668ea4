
/-
  errors.Is of two numbers that are errors (block.Failed); a device that nobody made.
-/
import Derived.Test.YtiajkhlcmblfpaaProg
import Derived.Test.YtiajkhlcmblfpaaChecked
import Derived.Test.YtiajkhlcmblfpaaBits
import Derived.Test.YtiajkhlcmblfpaaCells
import Derived.Test.YtiajkhlcmblfpaaWalk
import Derived.WalkKit
import Derived.LaidEql
import Derived.Stop.Asserts
import Derived.RowKitTokens
namespace Go.Proofs.Ytiajkhlcmblfpaa
open Go Go.RowKit Go.Extern.Stop Go.Stop Go.Extern
set_option linter.unusedVariables false
set_option linter.unusedSimpArgs false

theorem is_typeOf (v : Value) (w : World) : (Extern.ReflectliteType.typeOf #[.iface 23 v]).run Try.prog w = .ok (.iface 64 (.agg #[.pointer (some ⟨0, 23, none⟩)])) w := by kernel_rfl
theorem is_typeOf_run (v : Value) (w : World) : (callFunc 20 #[.iface 23 v]).run Try.prog w = .ok (.value (.iface 64 (.agg #[.pointer (some ⟨0, 23, none⟩)]))) w := by
  rw [run_callFunc_extern (e := Extern.ReflectliteType.typeOf) Try.func20 (by kernel_rfl) (by kernel_rfl) (by kernel_rfl) (by kernel_rfl), is_typeOf]
  rfl
theorem is_comparable (w : World) : ((Extern.ReflectliteType.method fun t => do Go.Extern.Rtype.noPackHeld "Comparable" t; pure (.bool (← typeInfo t).comparable)) #[.agg #[.pointer (some ⟨0, 23, none⟩)]]).run Try.prog w = .ok (.bool true) w := by kernel_rfl
theorem is_comparable_run (w : World) : (callFunc 41 #[.agg #[.pointer (some ⟨0, 23, none⟩)]]).run Try.prog w = .ok (.value (.bool true)) w := by
  rw [run_callFunc_extern (e := Extern.ReflectliteType.method fun t => do Go.Extern.Rtype.noPackHeld "Comparable" t; pure (.bool (← typeInfo t).comparable)) Try.func41 (by kernel_rfl) (by kernel_rfl) (by kernel_rfl) (by kernel_rfl), is_comparable]
  rfl
theorem is_method (v : Value) (w : World) : (Go.method Try.prog.depth 64 v "Comparable").run Try.prog w = .ok (41, v) w := by kernel_rfl
theorem is_comp : (Try.prog.info? 23).map (·.comparable) = some true := by kernel_rfl
theorem no_is (v : Value) (xT : TypeId) (w : World) : (Instr.typeAssert (.iface 23 v) xT 66 true).run Try.prog w = .ok (.tuple #[.nilIface, .bool false]) w := run_typeAssert_lacksB Try.underlying66 (by kernel_rfl) (by kernel_rfl) v xT w
theorem no_unwrap (v : Value) (xT : TypeId) (w : World) : (Instr.typeAssert (.iface 23 v) xT 68 true).run Try.prog w = .ok (.tuple #[.nilIface, .bool false]) w := run_typeAssert_lacksB Try.underlying68 (by kernel_rfl) (by kernel_rfl) v xT w
theorem no_unwraps (v : Value) (xT : TypeId) (w : World) : (Instr.typeAssert (.iface 23 v) xT 70 true).run Try.prog w = .ok (.tuple #[.nilIface, .bool false]) w := run_typeAssert_lacksB Try.underlying70 (by kernel_rfl) (by kernel_rfl) v xT w
theorem equalIn_err {P : Program} (w : World) (d : Nat) {ti tp : TypeId} {k : IntKind} {ms : Array (String × TypeId)} {i : TypeInfo} (a b : Int) (hi : P.underlying ti = some (.interface ms)) (hp : P.underlying tp = some (.int k)) (hinfo : P.info? tp = some i) (hcomp : i.comparable = true) :
    (Op.equalIn (d + 2) ti (.iface tp (.int k a)) (.iface tp (.int k b))).run P w = .ok (a == b) w := by
  simp [Op.equalIn, run_underlying hi, run_underlying hp, typeInfo, hinfo, hcomp]
theorem eql_err (a b : Int) (w : World) : (binOp .eql 57 (.iface 23 (.int .i64 a)) (.iface 23 (.int .i64 b))).run Try.prog w = .ok (.bool (a == b)) w := by
  obtain ⟨i, hi, hcmp⟩ := Option.map_eq_some_iff.1 is_comp
  simp only [binOp]
  simp [Op.equal, Op.maxDepth, equalIn_err (P := Try.prog) w 9998 a b Try.underlying57 Try.underlying23 hi hcmp]
set_option maxHeartbeats 4000000 in
set_option maxRecDepth 100000 in
theorem is_any (e : Int) (w : World) : Calls Try.prog 19 #[.iface 23 (.int .i64 e), .iface 23 (.int .i64 17)] w fun r w' => r = .returned (.bool (e == 17)) ∧ w = w' := by
  have tT := is_typeOf_run
  have cT := is_comparable_run
  have mR := is_method
  have nE := no_is
  have uE := no_unwrap
  have vE := no_unwraps
  have heq := eql_err e 17
  cases he : (e == 17)
  all_goals
    rw [he] at heq
    go_enter Try.func19, Try.ntmps19
    go_wp2
    refine wp_loop_rounds 1 ?_
    rw [rounds_succ]
    go_wp2
    go_ret
    exact ⟨rfl, rfl⟩
set_option maxHeartbeats 4000000 in
set_option maxRecDepth 100000 in
theorem is_nil (e : Int) (w : World) : Calls Try.prog 19 #[.nilIface, .iface 23 (.int .i64 17)] w fun r w' => r = .returned (.bool false) ∧ w = w' := by
  have hn := run_eql_iface_nil_left (P := Try.prog) w 23 (.int .i64 17) Try.underlying57
  go_enter Try.func19, Try.ntmps19
  go_wp2
  go_ret
  exact ⟨rfl, rfl⟩
theorem failed_any (e : Int) (w : World) : Calls Try.prog 15 #[.iface 23 (.int .i64 e)] w fun r w' => r = .returned (.bool (e == 17)) ∧ w = w' := by
  go_enter Try.func15, Try.ntmps15
  go_wp2_with (go_at_call 19; (with_reducible refine (is_any e _).mono ?_); rintro e w' ⟨rfl, rfl⟩)
  go_ret
  exact ⟨rfl, rfl⟩
theorem failed_nil (w : World) : Calls Try.prog 15 #[.nilIface] w fun r w' => r = .returned (.bool false) ∧ w = w' := by
  go_enter Try.func15, Try.ntmps15
  go_wp2_with (go_at_call 19; (with_reducible refine (is_nil 0 _).mono ?_); rintro e w' ⟨rfl, rfl⟩)
  go_ret
  exact ⟨rfl, rfl⟩
end Go.Proofs.Ytiajkhlcmblfpaa
