/- errors.Is at an api.Fault and the number that it wraps. -/
import Derived.Test.YtejapeafepcacaaDoorErrsA
import Derived.Test.YtejapeafepcacaaDoorWords
import Derived.Lib.IfaceEq
namespace Go.Proofs.YtejapeafepcacaaDoor
open Go.RowKit Go.Extern.Stop Go.Stop Go.Extern
theorem typeOf29 (v : Value) (w : World) : (ReflectliteType.typeOf #[.iface 29 v]).run Tryd.prog w = .ok (.iface 103 (.agg #[.pointer (some ⟨2, 29, none⟩)])) w := by kernel_rfl
theorem comparable29 (w : World) : (ReflectliteType.method (fun t => do Rtype.noPackHeld "Comparable" t; (fun a : TypeInfo => Value.bool a.comparable) <$> typeInfo t) #[.agg #[.pointer (some ⟨2, 29, none⟩)]]).run Tryd.prog w = .ok (.bool true) w := by kernel_rfl
theorem eq_iface_int (a b : Int) (w : World) : (binOp .eql 35 (.iface 29 (.int .i64 a)) (.iface 29 (.int .i64 b))).run Tryd.prog w = .ok (.bool (a == b)) w := by
  exact Lib.run_eql_iface_int w a b Tryd.underlying35 (by kernel_rfl) Tryd.underlying29
theorem eq_iface_other (v : Value) (b : Int) (w : World) : (binOp .eql 35 (.iface 58 v) (.iface 29 (.int .i64 b))).run Tryd.prog w = .ok (.bool false) w := by
  have h : ∀ d : Nat, (Op.equalIn (d + 2) 35 (.iface 58 v) (.iface 29 (.int .i64 b))).run Tryd.prog w = .ok false w := fun d => by
    simp [Op.equalIn, run_underlying Tryd.underlying35]
  simp only [binOp]
  simp [Op.equal, Op.maxDepth, h 9998]
theorem noIs58 (v : Value) (w : World) : (Instr.typeAssert (.iface 58 v) 35 115 true).run Tryd.prog w = .ok (.tuple #[.nilIface, .bool false]) w := run_typeAssert_lacksB Tryd.underlying115 (by kernel_rfl) (by kernel_rfl) v 35 w
theorem unwraps58 (v : Value) (w : World) : (Instr.typeAssert (.iface 58 v) 35 110 true).run Tryd.prog w = .ok (.tuple #[.iface 58 v, .bool true]) w := run_typeAssert_hasB Tryd.underlying110 (by kernel_rfl) v 35 w
set_option maxHeartbeats 4000000 in
set_option maxRecDepth 100000 in
theorem is_hit (x y : Int) (w : World) :
    Calls Tryd.prog 37 #[.iface 58 (.agg #[.int .i64 x, .int .i64 y]), .iface 29 (.int .i64 y)] w fun ev w' => ev = .returned (.bool true) ∧ Below w.heap.size w w' := by
  have h10 := @run_callFunc_extern Tryd.prog 48 _ ReflectliteType.typeOf Tryd.func48 (by kernel_rfl) (by kernel_rfl) (by kernel_rfl) (by kernel_rfl)
  have t29 := typeOf29
  have h89 := @run_callFunc_extern Tryd.prog 89 _ (ReflectliteType.method (fun t => do Rtype.noPackHeld "Comparable" t; pure (.bool (← typeInfo t).comparable))) Tryd.func89 (by kernel_rfl) (by kernel_rfl) (by kernel_rfl) (by kernel_rfl)
  have c29 := comparable29
  have eo := eq_iface_other (.agg #[.int .i64 x, .int .i64 y]) y
  have ei := eq_iface_int y y
  rw [show ((y == y) = true) from by simp] at ei
  have nI := noIs58
  have uW := unwraps58
  go_enter Tryd.func37, Tryd.ntmps37
  go_wp2
  refine wp_loop_rounds 2 ?_
  rw [rounds_succ]
  go_wp2
  rw [rounds_succ]
  go_wp2
  go_ret
  exact ⟨rfl, by go_grown⟩
end Go.Proofs.YtejapeafepcacaaDoor
