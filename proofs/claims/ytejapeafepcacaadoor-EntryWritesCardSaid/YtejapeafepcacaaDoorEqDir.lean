/- '==' of two blocks that are alike. -/
import Derived.Test.YtejapeafepcacaaDoorBlockC
import Derived.Test.YtejapeafepcacaaDoorDecodeC
namespace Go.Proofs.YtejapeafepcacaaDoor
open Go.RowKit
set_option maxHeartbeats 1000000 in
set_option maxRecDepth 100000 in
theorem equalIn_slot (d : Nat) (a c : Int) (s : ByteArray) (w : World) : (Op.equalIn (d + 2) 23 (.agg #[.int .i64 a, .int .u8 c, .string s]) (.agg #[.int .i64 a, .int .u8 c, .string s])).run Tryd.prog w = .ok true w := by
  go_simp
theorem info23' : (Tryd.prog.info? 23).map (·.size) = some 3 := by kernel_rfl
theorem part_23 {C : Array Value} {next : Int} {ino kind : Nat → Int} {nm : Nat → ByteArray} (h : DirIs C next ino kind nm) (k : Nat) (hk : k < 10) (w : World) :
    (part 23 (C.extract 1 31) (k * 3)).run Tryd.prog w = .ok (.agg #[.int .i64 (ino k), .int .u8 (kind k), .string (nm k)]) w := by
  have hr := run_index39 h k hk w
  have hk' : (k : Int) < 10 := by omega
  have hz : (sizeOf 23).run Tryd.prog w = .ok 3 w := by
    have h3 : (Tryd.prog.info? 23).map (·.size) = some 3 := info23'
    cases hq : Tryd.prog.info? 23 with
    | none => simp [hq] at h3
    | some i =>
      have hs : i.size = 3 := by simpa [hq] using h3
      simp [sizeOf, typeInfo, hq, hs]
  unfold Instr.index at hr
  simpa [Sem.run_bind, asIntOf, run_underlying Tryd.underlying39 w, hk, hz] using hr
theorem size23 (w : World) : (sizeOf 23).run Tryd.prog w = .ok 3 w := by
  have h3 : (Tryd.prog.info? 23).map (·.size) = some 3 := info23'
  cases hq : Tryd.prog.info? 23 with
  | none => simp [hq] at h3
  | some i =>
    have hs : i.size = 3 := by simpa [hq] using h3
    simp [sizeOf, typeInfo, hq, hs]
set_option maxRecDepth 100000 in
theorem equalIn_slots (d : Nat) {C : Array Value} {next : Int} {ino kind : Nat → Int} {nm : Nat → ByteArray} (h : DirIs C next ino kind nm) (w : World) :
    (Op.equalIn (d + 3) 39 (.agg (C.extract 1 31)) (.agg (C.extract 1 31))).run Tryd.prog w = .ok true w := by
  have hp := fun k hk => part_23 h k hk w
  have he := fun k => equalIn_slot d (ino k) (kind k) (nm k) w
  have hs := size23 w
  rw [show d + 3 = (d + 2) + 1 from rfl]
  unfold Op.equalIn
  generalize C.extract 1 31 = A at *
  simp only [Sem.run_bind, run_underlying Tryd.underlying39, Result.andThen_ok, hs]
  simp only [Std.Legacy.Range.forIn_eq_forIn_range', Std.Legacy.Range.size, List.range', List.forIn_cons, List.forIn_nil, Sem.run_bind, hp 0 (by omega), hp (0 + 1) (by omega), hp (0 + 1 + 1) (by omega), hp (0 + 1 + 1 + 1) (by omega), hp (0 + 1 + 1 + 1 + 1) (by omega), hp (0 + 1 + 1 + 1 + 1 + 1) (by omega), hp (0 + 1 + 1 + 1 + 1 + 1 + 1) (by omega), hp (0 + 1 + 1 + 1 + 1 + 1 + 1 + 1) (by omega), hp (0 + 1 + 1 + 1 + 1 + 1 + 1 + 1 + 1) (by omega), hp (0 + 1 + 1 + 1 + 1 + 1 + 1 + 1 + 1 + 1) (by omega), he, Result.andThen_ok, Bool.not_true, Bool.false_eq_true, if_false, Sem.run_pure]
theorem part_39 (C : Array Value) (w : World) : (part 39 C 1).run Tryd.prog w = .ok (.agg (C.extract 1 31)) w := by
  have ha : (isAgg 39).run Tryd.prog w = .ok true w := by
    unfold isAgg
    rw [Sem.run_bind, run_underlying Tryd.underlying39 w]
    rfl
  have hz : (sizeOf 39).run Tryd.prog w = .ok 30 w := by
    have h3 : (Tryd.prog.info? 39).map (·.size) = some 30 := by kernel_rfl
    cases hq : Tryd.prog.info? 39 with
    | none => simp [hq] at h3
    | some i =>
      have hs : i.size = 30 := by simpa [hq] using h3
      simp [sizeOf, typeInfo, hq, hs]
  unfold part
  rw [Sem.run_bind, ha, Result.andThen_ok, if_pos rfl, Sem.run_bind, hz]
  rfl
set_option maxRecDepth 100000 in
theorem equalIn_dir (d : Nat) {C : Array Value} {next : Int} {ino kind : Nat → Int} {nm : Nat → ByteArray} (h : DirIs C next ino kind nm) (w : World) :
    (Op.equalIn (d + 4) 41 (.agg C) (.agg C)).run Tryd.prog w = .ok true w := by
  have h0 : (part 3 C 0).run Tryd.prog w = .ok (.int .i64 next) w := by simp [part, h.next]
  have e0 := run_equalIn_int (P := Tryd.prog) w (d + 2) 3 .i64 .i64 next next Tryd.underlying3
  have e1 := equalIn_slots d h w
  have p1 := part_39 C w
  have hf : (Tryd.prog.fieldsOf 41).toList = [{ name := "Next", type := 3, offset := 0, embedded := false, tag := "", pkgPath := "", byteOffset := 0 }, { name := "Slots", type := 39, offset := 1, embedded := false, tag := "", pkgPath := "", byteOffset := 8 }] := by kernel_rfl
  rw [show d + 4 = (d + 3) + 1 from rfl, run_equalIn_struct w (d + 3) 41 C C Tryd.underlying41 (by kernel_rfl), hf]
  simp [Op.eqFields, Sem.run_bind, h0, p1, e0, e1]
theorem eq41 {C : Array Value} {next : Int} {ino kind : Nat → Int} {nm : Nat → ByteArray} (h : DirIs C next ino kind nm) (w : World) : (binOp .eql 41 (.agg C) (.agg C)).run Tryd.prog w = .ok (.bool true) w := by
  rw [run_eql_struct, equalIn_dir 9996 h w]; rfl
theorem neq41 {C : Array Value} {next : Int} {ino kind : Nat → Int} {nm : Nat → ByteArray} (h : DirIs C next ino kind nm) (w : World) : (binOp .neq 41 (.agg C) (.agg C)).run Tryd.prog w = .ok (.bool false) w := by
  rw [run_neq_struct, equalIn_dir 9996 h w]; rfl
end Go.Proofs.YtejapeafepcacaaDoor
