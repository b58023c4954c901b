/- Closed facts on the model's entries for internal/reflectlite at the types of api.Fault, after the guide's worked ToyasAs. -/
import Derived.Test.YtejapeafepcacaaDoorProg
import Derived.WalkKit
import Derived.LaidEql
import Derived.Stop.Asserts
import Derived.RowKitTokens
namespace Go.Proofs.YtejapeafepcacaaDoor
open Go.RowKit Go.Extern.Stop Go.Stop Go.Extern
theorem valueOf77 (t : Addr) (w : World) : (ReflectliteValue.unpack (.iface 77 (.pointer (some t)))).run Tryd.prog w
    = .ok (.agg #[.pointer (some ⟨2, 77, none⟩), .pointer (some ⟨w.heap.size, 0, none⟩), .int .u64 150]) (w.alloc (.cells #[.pointer (some t)] 77)) := by kernel_rfl
theorem type77 (a : Addr) (w : World) : (ReflectliteValue.methodAny (ReflectliteValue.valueError "reflectlite.Value.Type" 0) (fun t _ _ _ => ReflectliteType.toType t) #[.agg #[.pointer (some ⟨2, 77, none⟩), .pointer (some a), .int .u64 150]]).run Tryd.prog w
    = .ok (.iface 103 (.agg #[.pointer (some ⟨2, 77, none⟩)])) w := by kernel_rfl
theorem kind77 (w : World) : ((ReflectliteType.abiMethod fun t => (fun a : Nat => Value.int IntKind.u8 (a : Int)) <$> Rtype.kind t) #[.pointer (some ⟨2, 77, none⟩)]).run Tryd.prog w = .ok (.int .u8 22) w := by kernel_rfl
theorem kind58 (w : World) : ((ReflectliteType.abiMethod fun t => (fun a : Nat => Value.int IntKind.u8 (a : Int)) <$> Rtype.kind t) #[.pointer (some ⟨2, 58, none⟩)]).run Tryd.prog w = .ok (.int .u8 25) w := by kernel_rfl
theorem rlm (z : Sem Value) (f : TypeId → Addr → Nat → Nat → Sem Value) (v : Value) :
    ReflectliteValue.method z f #[v] = (do match ← ReflectliteValue.parts v with | none => z | some (t, a, fl) => f t a fl (fl % 32)) := rfl
theorem parts77 (a : Addr) (w : World) : (ReflectliteValue.parts (.agg #[.pointer (some ⟨2, 77, none⟩), .pointer (some a), .int .u64 150])).run Tryd.prog w = .ok (some (77, a, 150)) w := by kernel_rfl
theorem isNil77 (a p : Addr) (W : World) (ha : W.cell? a = some (.pointer (some p))) :
    (ReflectliteValue.method (ReflectliteValue.valueError "reflectlite.Value.IsNil" 0) ReflectliteValue.isNil #[.agg #[.pointer (some ⟨2, 77, none⟩), .pointer (some a), .int .u64 150]]).run Tryd.prog W = .ok (.bool false) W := by
  rw [rlm]
  simp only [Sem.run_bind, parts77, Result.andThen]
  simp [ReflectliteValue.isNil, loadVar, isAgg, underlying, Tryd.underlying77, ha, Result.andThen]
theorem elem77 (w : World) : (ReflectliteType.method ReflectliteType.elem #[.agg #[.pointer (some ⟨2, 77, none⟩)]]).run Tryd.prog w = .ok (.iface 103 (.agg #[.pointer (some ⟨2, 58, none⟩)])) w := by kernel_rfl
theorem implements58 (w : World) : (ReflectliteType.relation "Implements" ReflectliteType.implements_ #[.agg #[.pointer (some ⟨2, 58, none⟩)], .iface 103 (.agg #[.pointer (some ⟨2, 35, none⟩)])]).run Tryd.prog w = .ok (.bool true) w := by kernel_rfl
theorem typeOf58 (v : Value) (w : World) : (ReflectliteType.typeOf #[.iface 58 v]).run Tryd.prog w = .ok (.iface 103 (.agg #[.pointer (some ⟨2, 58, none⟩)])) w := by kernel_rfl
theorem assignable58 (w : World) : (ReflectliteType.relation "AssignableTo" ReflectliteType.assignableTo #[.agg #[.pointer (some ⟨2, 58, none⟩)], .iface 103 (.agg #[.pointer (some ⟨2, 58, none⟩)])]).run Tryd.prog w = .ok (.bool true) w := by kernel_rfl
theorem valueOf58 (x y : Int) (w : World) : (ReflectliteValue.unpack (.iface 58 (.agg #[.int .i64 x, .int .i64 y]))).run Tryd.prog w
    = .ok (.agg #[.pointer (some ⟨2, 58, none⟩), .pointer (some ⟨w.heap.size, 0, none⟩), .int .u64 153]) (w.alloc (.cells #[.int .i64 x, .int .i64 y] 58)) := by kernel_rfl
theorem elemOf77 (w : World) : (Rtype.elem? 77).run Tryd.prog w = .ok (some 58) w := by kernel_rfl
theorem mk58 (p : Addr) (w : World) : (ReflectliteValue.mk 58 p ReflectliteValue.flagAddr).run Tryd.prog w = .ok (.agg #[.pointer (some ⟨2, 58, none⟩), .pointer (some p), .int .u64 409]) w := by kernel_rfl
theorem elemV77 (a p : Addr) (W : World) (ha : W.cell? a = some (.pointer (some p))) :
    (ReflectliteValue.method (ReflectliteValue.valueError "reflectlite.Value.Elem" 0) ReflectliteValue.elem #[.agg #[.pointer (some ⟨2, 77, none⟩), .pointer (some a), .int .u64 150]]).run Tryd.prog W
      = .ok (.agg #[.pointer (some ⟨2, 58, none⟩), .pointer (some p), .int .u64 409]) W := by
  rw [rlm]
  simp only [Sem.run_bind, parts77, Result.andThen]
  simp [ReflectliteValue.elem, loadVar, isAgg, underlying, Tryd.underlying77, ha, Result.andThen, elemOf77, mk58]
theorem parts58a (a : Addr) (w : World) : (ReflectliteValue.parts (.agg #[.pointer (some ⟨2, 58, none⟩), .pointer (some a), .int .u64 409])).run Tryd.prog w = .ok (some (58, a, 409)) w := by kernel_rfl
theorem parts58 (a : Addr) (w : World) : (ReflectliteValue.parts (.agg #[.pointer (some ⟨2, 58, none⟩), .pointer (some a), .int .u64 153])).run Tryd.prog w = .ok (some (58, a, 153)) w := by kernel_rfl
theorem direct58 (w : World) : (Rtype.directlyAssignable 58 58).run Tryd.prog w = .ok true w := by kernel_rfl
theorem rls (v x : Value) : ReflectliteValue.set #[v, x] = (do
    let (some (dst, a, fl), some (src, b, _)) := (← ReflectliteValue.parts v, ← ReflectliteValue.parts x)
      | unsupported (.noEntry "extern/(internal/reflectlite.Value).Set.zeroValue")
    if fl / ReflectliteValue.flagAddr % 2 == 0 then unsupported (.noEntry "extern/(internal/reflectlite.Value).Set.unaddressable")
    let val ← loadVar src b
    if ← Rtype.directlyAssignable dst src then storeVar dst a val
    else if ← Rtype.implements dst src then
      if (← Rtype.kind src) == 20 then
        match val with
        | .nilIface => unsupported (.noEntry "extern/reflectlite: a nil value of one interface type handed on as a value of another")
        | _ => storeVar dst a val
      else storeVar dst a (.iface src val)
    else panicString ("reflectlite.Set: value of type " ++ (← Rtype.spelt src) ++ " is not assignable to type " ++ (← Rtype.spelt dst))
    pure (.tuple #[])) := rfl
theorem load58 (b : Nat) (x y : Int) (W : World) (h0 : W.cell? ⟨b, 0, none⟩ = some (.int .i64 x)) (h1 : W.cell? ⟨b, 1, none⟩ = some (.int .i64 y)) : (loadVar 58 ⟨b, 0, none⟩).run Tryd.prog W = .ok (.agg #[.int .i64 x, .int .i64 y]) W := by
  simp [go_sem, h0, h1]
theorem store58 (ta : Nat) (x y : Int) (o0 o1 : Value) (W : World) (h0 : W.cell? ⟨ta, 0, none⟩ = some o0) (h1 : W.cell? ⟨ta, 1, none⟩ = some o1) (f0 : W.frozen? ⟨ta, 0, none⟩ = false) (f1 : W.frozen? ⟨ta, 1, none⟩ = false) : (storeVar 58 ⟨ta, 0, none⟩ (.agg #[.int .i64 x, .int .i64 y])).run Tryd.prog W = .ok () ((W.setCell ⟨ta, 0, none⟩ (.int .i64 x)).setCell ⟨ta, 1, none⟩ (.int .i64 y)) := by
  simp [go_sem, h0, h1, f0, f1]
/-- (Value).Set: the Fault variable at 'ta' gets what the Value's own variable 'b' holds. -/
theorem set58 (ta b : Nat) (x y : Int) (o0 o1 : Value) (W : World) (hb0 : W.cell? ⟨b, 0, none⟩ = some (.int .i64 x)) (hb1 : W.cell? ⟨b, 1, none⟩ = some (.int .i64 y)) (h0 : W.cell? ⟨ta, 0, none⟩ = some o0) (h1 : W.cell? ⟨ta, 1, none⟩ = some o1) (f0 : W.frozen? ⟨ta, 0, none⟩ = false) (f1 : W.frozen? ⟨ta, 1, none⟩ = false) :
    (ReflectliteValue.set #[.agg #[.pointer (some ⟨2, 58, none⟩), .pointer (some ⟨ta, 0, none⟩), .int .u64 409], .agg #[.pointer (some ⟨2, 58, none⟩), .pointer (some ⟨b, 0, none⟩), .int .u64 153]]).run Tryd.prog W
      = .ok (.tuple #[]) ((W.setCell ⟨ta, 0, none⟩ (.int .i64 x)).setCell ⟨ta, 1, none⟩ (.int .i64 y)) := by
  rw [rls]
  simp only [Sem.run_bind, parts58a, parts58, Result.andThen]
  simp [ReflectliteValue.flagAddr, load58 b x y W hb0 hb1, Result.andThen, direct58, store58 ta x y o0 o1 W h0 h1 f0 f1]
end Go.Proofs.YtejapeafepcacaaDoor
