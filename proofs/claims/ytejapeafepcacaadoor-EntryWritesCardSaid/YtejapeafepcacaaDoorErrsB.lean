/- errors.As at an api.Fault and a pointer to an api.Fault: Go's own text walked, the model's entries by their closed facts. -/
import Derived.Test.YtejapeafepcacaaDoorErrsA
import Derived.Test.YtejapeafepcacaaDoorWords
namespace Go.Proofs.YtejapeafepcacaaDoor
open Go.RowKit Go.Extern.Stop Go.Stop Go.Extern
set_option maxHeartbeats 4000000 in
set_option maxRecDepth 100000 in
theorem as_hit (x y : Int) (t : Nat) (o0 o1 : Value) (w : World) (hg : w.cell? ⟨0, 0, none⟩ = some (.iface 103 (.agg #[.pointer (some ⟨2, 35, none⟩)]))) (ht0 : w.cell? ⟨t, 0, none⟩ = some o0) (ht1 : w.cell? ⟨t, 1, none⟩ = some o1) (hf0 : w.frozen? ⟨t, 0, none⟩ = false) (hf1 : w.frozen? ⟨t, 1, none⟩ = false) :
    Calls Tryd.prog 36 #[.iface 58 (.agg #[.int .i64 x, .int .i64 y]), .iface 77 (.pointer (some ⟨t, 0, none⟩))] w fun ev w' => ev = .returned (.bool true) ∧ w' = (((((w.alloc (.cells #[.pointer (some ⟨t, 0, none⟩)] 77)).alloc (.cells #[.pointer (some ⟨2, 77, none⟩), .pointer (some ⟨w.heap.size, 0, none⟩), .int .u64 150] 88)).alloc (.cells #[.pointer (some ⟨2, 77, none⟩), .pointer (some ⟨w.heap.size, 0, none⟩), .int .u64 150] 88)).alloc (.cells #[.int .i64 x, .int .i64 y] 58)).setCell ⟨t, 0, none⟩ (.int .i64 x)).setCell ⟨t, 1, none⟩ (.int .i64 y) := by
  have h6 := @run_callFunc_extern Tryd.prog 44 _ (fun args => ReflectliteValue.unpack (args.getD 0 (.tuple #[]))) Tryd.func44 (by kernel_rfl) (by kernel_rfl) (by kernel_rfl) (by kernel_rfl)
  have h7 := @run_callFunc_extern Tryd.prog 45 _ (ReflectliteValue.methodAny (ReflectliteValue.valueError "reflectlite.Value.Type" 0) (fun t _ _ _ => ReflectliteType.toType t)) Tryd.func45 (by kernel_rfl) (by kernel_rfl) (by kernel_rfl) (by kernel_rfl)
  have h8 := @run_callFunc_extern Tryd.prog 46 _ (ReflectliteValue.method (ReflectliteValue.valueError "reflectlite.Value.IsNil" 0) ReflectliteValue.isNil) Tryd.func46 (by kernel_rfl) (by kernel_rfl) (by kernel_rfl) (by kernel_rfl)
  have h27 := @run_callFunc_extern Tryd.prog 78 _ (ReflectliteType.abiMethod fun t => do pure (.int .u8 (← Rtype.kind t))) Tryd.func78 (by kernel_rfl) (by kernel_rfl) (by kernel_rfl) (by kernel_rfl)
  have h37 := @run_callFunc_extern Tryd.prog 90 _ (ReflectliteType.method ReflectliteType.elem) Tryd.func90 (by kernel_rfl) (by kernel_rfl) (by kernel_rfl) (by kernel_rfl)
  have h38 := @run_callFunc_extern Tryd.prog 91 _ (ReflectliteType.relation "Implements" ReflectliteType.implements_) Tryd.func91 (by kernel_rfl) (by kernel_rfl) (by kernel_rfl) (by kernel_rfl)
  have h10 := @run_callFunc_extern Tryd.prog 48 _ ReflectliteType.typeOf Tryd.func48 (by kernel_rfl) (by kernel_rfl) (by kernel_rfl) (by kernel_rfl)
  have h35 := @run_callFunc_extern Tryd.prog 88 _ (ReflectliteType.relation "AssignableTo" ReflectliteType.assignableTo) Tryd.func88 (by kernel_rfl) (by kernel_rfl) (by kernel_rfl) (by kernel_rfl)
  have h11 := @run_callFunc_extern Tryd.prog 54 _ (ReflectliteValue.method (ReflectliteValue.valueError "reflectlite.Value.Elem" 0) ReflectliteValue.elem) Tryd.func54 (by kernel_rfl) (by kernel_rfl) (by kernel_rfl) (by kernel_rfl)
  have h12 := @run_callFunc_extern Tryd.prog 55 _ ReflectliteValue.set Tryd.func55 (by kernel_rfl) (by kernel_rfl) (by kernel_rfl) (by kernel_rfl)
  have f6 := valueOf77
  have f7 := type77
  have tO := typeOf58
  have a58 := assignable58
  have v58 := valueOf58
  have k77 := kind77
  have k58 := kind58
  have e77 := elem77
  have i58 := implements58
  have n8 := isNil77 ⟨w.heap.size, 0, none⟩ ⟨t, 0, none⟩ ((w.alloc (.cells #[.pointer (some ⟨t, 0, none⟩)] 77)).alloc (.cells #[.pointer (some ⟨2, 77, none⟩), .pointer (some ⟨w.heap.size, 0, none⟩), .int .u64 150] 88)) (by simp)
  have hlt : 0 < w.heap.size := block_lt_of_cell hg
  have htl : t < w.heap.size := block_lt_of_cell ht0
  have hg2 : ((w.alloc (.cells #[.pointer (some ⟨t, 0, none⟩)] 77)).alloc (.cells #[.pointer (some ⟨2, 77, none⟩), .pointer (some ⟨w.heap.size, 0, none⟩), .int .u64 150] 88)).cell? ⟨0, 0, none⟩ = some (.iface 103 (.agg #[.pointer (some ⟨2, 35, none⟩)])) := by
    rw [World.cell?_alloc_lt _ _ ⟨0, 0, none⟩ (by simp), World.cell?_alloc_lt _ _ ⟨0, 0, none⟩ hlt]; exact hg
  have el := elemV77 ⟨w.heap.size, 0, none⟩ ⟨t, 0, none⟩ (((w.alloc (.cells #[.pointer (some ⟨t, 0, none⟩)] 77)).alloc (.cells #[.pointer (some ⟨2, 77, none⟩), .pointer (some ⟨w.heap.size, 0, none⟩), .int .u64 150] 88)).alloc (.cells #[.pointer (some ⟨2, 77, none⟩), .pointer (some ⟨w.heap.size, 0, none⟩), .int .u64 150] 88)) (by rw [World.cell?_alloc_lt _ _ ⟨w.heap.size, 0, none⟩ (by simp; omega)]; simp)
  have rw4 := fun (o : Nat) (v : Value) (h : w.cell? ⟨t, o, none⟩ = some v) => show ((((w.alloc (.cells #[.pointer (some ⟨t, 0, none⟩)] 77)).alloc (.cells #[.pointer (some ⟨2, 77, none⟩), .pointer (some ⟨w.heap.size, 0, none⟩), .int .u64 150] 88)).alloc (.cells #[.pointer (some ⟨2, 77, none⟩), .pointer (some ⟨w.heap.size, 0, none⟩), .int .u64 150] 88)).alloc (.cells #[.int .i64 x, .int .i64 y] 58)).cell? ⟨t, o, none⟩ = some v from by
    rw [World.cell?_alloc_lt _ _ ⟨t, o, none⟩ (by simp; omega), World.cell?_alloc_lt _ _ ⟨t, o, none⟩ (by simp; omega), World.cell?_alloc_lt _ _ ⟨t, o, none⟩ (by simp; omega), World.cell?_alloc_lt _ _ ⟨t, o, none⟩ htl]; exact h
  have rf4 := fun (o : Nat) (h : w.frozen? ⟨t, o, none⟩ = false) => show ((((w.alloc (.cells #[.pointer (some ⟨t, 0, none⟩)] 77)).alloc (.cells #[.pointer (some ⟨2, 77, none⟩), .pointer (some ⟨w.heap.size, 0, none⟩), .int .u64 150] 88)).alloc (.cells #[.pointer (some ⟨2, 77, none⟩), .pointer (some ⟨w.heap.size, 0, none⟩), .int .u64 150] 88)).alloc (.cells #[.int .i64 x, .int .i64 y] 58)).frozen? ⟨t, o, none⟩ = false from by
    rw [World.frozen?_alloc_old _ _ ⟨t, o, none⟩ (by simp; omega), World.frozen?_alloc_old _ _ ⟨t, o, none⟩ (by simp; omega), World.frozen?_alloc_old _ _ ⟨t, o, none⟩ (by simp; omega), World.frozen?_alloc_old _ _ ⟨t, o, none⟩ (Nat.ne_of_lt htl)]; exact h
  have st := set58 t (w.heap.size + 1 + 1 + 1) x y o0 o1 ((((w.alloc (.cells #[.pointer (some ⟨t, 0, none⟩)] 77)).alloc (.cells #[.pointer (some ⟨2, 77, none⟩), .pointer (some ⟨w.heap.size, 0, none⟩), .int .u64 150] 88)).alloc (.cells #[.pointer (some ⟨2, 77, none⟩), .pointer (some ⟨w.heap.size, 0, none⟩), .int .u64 150] 88)).alloc (.cells #[.int .i64 x, .int .i64 y] 58)) (by go_simp) (by go_simp) (rw4 0 _ ht0) (rw4 1 _ ht1) (rf4 0 hf0) (rf4 1 hf1)
  clear rw4 rf4
  go_enter Tryd.func36, Tryd.ntmps36
  go_wp2
  refine wp_loop_rounds 1 ?_
  rw [rounds_succ]
  go_wp2
  go_ret
  exact ⟨rfl, rfl⟩
end Go.Proofs.YtejapeafepcacaaDoor
