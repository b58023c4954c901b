/- EntryTurned where the name is too long, the slot is empty, or it may not be. -/
import Derived.Test.YtejapeafepcacaaDoorCrc
import Derived.Test.YtejapeafepcacaaDoorAlive
import Derived.Deep.AppendLies
namespace Go.Proofs.YtejapeafepcacaaDoor
open Go.RowKit
set_option maxHeartbeats 1000000 in
set_option maxRecDepth 100000 in
theorem eq_slot (a k a' k' : Int) (s s' : ByteArray) (w : World) : (binOp .eql 23 (.agg #[.int .i64 a, .int .u8 k, .string s]) (.agg #[.int .i64 a', .int .u8 k', .string s'])).run Tryd.prog w = .ok (.bool (decide (a = a' ∧ k = k' ∧ s.data.toList = s'.data.toList))) w := by
  by_cases h1 : a = a' <;> by_cases h2 : k = k' <;> by_cases h3 : s.toList = s'.toList <;> (have h4 := h3; simp only [Lib.toList_data] at h4; go_simp; try simp [*])
theorem eq_slot_no (a k a' k' : Int) (s s' : ByteArray) (h : ¬ (a = a' ∧ k = k' ∧ s.data.toList = s'.data.toList)) (w : World) : (binOp .eql 23 (.agg #[.int .i64 a, .int .u8 k, .string s]) (.agg #[.int .i64 a', .int .u8 k', .string s'])).run Tryd.prog w = .ok (.bool false) w := by
  rw [eq_slot, decide_eq_false h]
theorem eq_slot_yes (a k : Int) (s s' : ByteArray) (h : s.data.toList = s'.data.toList) (w : World) : (binOp .eql 23 (.agg #[.int .i64 a, .int .u8 k, .string s]) (.agg #[.int .i64 a, .int .u8 k, .string s'])).run Tryd.prog w = .ok (.bool true) w := by
  rw [eq_slot, decide_eq_true ⟨rfl, rfl, h⟩]
theorem errType_above {w w' : World} (h : ErrType w) (hb : Below w.heap.size w w') : ErrType w' := above hb h
theorem errType_alloc {w : World} (h : ErrType w) (o : Obj) : ErrType (w.alloc o) := (World.cell?_alloc_lt w o _ (block_lt_of_cell h)).trans h
set_option maxHeartbeats 1000000 in
set_option maxRecDepth 100000 in
theorem turned_long (ino kind p i b at_ turns : Int) (s : ByteArray) (w : World) (hg : ErrType w) (h : 200 < s.size) :
    Calls Tryd.prog 3 #[.agg #[.int .i64 ino, .int .u8 kind, .string s], .agg #[.int .i64 p, .int .i64 i, .int .i64 b], .int .u8 at_, .int .u32 turns] w fun e w' => e = .returned (.bool true) ∧ Below w.heap.size w w' := by
  have Hg := hid (errType_alloc (errType_alloc hg (.cells #[.int .i64 ino, .int .u8 kind, .string s] 23)) (.cells #[.int .i64 p, .int .i64 i, .int .i64 b] 25))
  have h' : (200 : Int) < (s.size : Int) := by omega
  clear hg
  go_enter Tryd.func3, Tryd.ntmps3
  go_wp2_with fail
  refine (alive_any _ Hg.out).mono ?_
  rintro e w1 ⟨rfl, hb⟩
  have Hb := hid ((((Below.refl _ _).alloc (Nat.le_refl _) _).alloc (by simp) _).trans (hb.mono (by simp; omega)))
  clear hb
  go_wp2
  go_ret
  exact ⟨rfl, Hb.out⟩
set_option maxHeartbeats 1000000 in
set_option maxRecDepth 100000 in
theorem turned_zero (p i b at_ turns : Int) (w : World) (hg : ErrType w) :
    Calls Tryd.prog 3 #[.agg #[.int .i64 0, .int .u8 0, .string ⟨#[]⟩], .agg #[.int .i64 p, .int .i64 i, .int .i64 b], .int .u8 at_, .int .u32 turns] w fun e w' => e = .returned (.bool true) ∧ Below w.heap.size w w' := by
  have Hg := hid (errType_alloc (errType_alloc hg (.cells #[.int .i64 0, .int .u8 0, .string ⟨#[]⟩] 23)) (.cells #[.int .i64 p, .int .i64 i, .int .i64 b] 25))
  clear hg
  go_enter Tryd.func3, Tryd.ntmps3
  go_wp2_with fail
  refine (alive_any _ Hg.out).mono ?_
  rintro e w1 ⟨rfl, hb⟩
  have Hb := hid ((((Below.refl _ _).alloc (Nat.le_refl _) _).alloc (by simp) _).trans (hb.mono (by simp; omega)))
  clear hb
  go_wp2
  go_ret
  exact ⟨rfl, Hb.out⟩
set_option maxHeartbeats 1000000 in
set_option maxRecDepth 100000 in
theorem turned_not (ino kind p i b at_ turns : Int) (s : ByteArray) (w : World) (hg : ErrType w) (h : s.size ≤ 200) (hz : ¬ (ino = 0 ∧ kind = 0 ∧ s.data.toList = [])) (hm : mayB ino kind s.data.toList p i b = false) :
    Calls Tryd.prog 3 #[.agg #[.int .i64 ino, .int .u8 kind, .string s], .agg #[.int .i64 p, .int .i64 i, .int .i64 b], .int .u8 at_, .int .u32 turns] w fun e w' => e = .returned (.bool true) ∧ Below w.heap.size w w' := by
  have Hg := hid (errType_alloc (errType_alloc hg (.cells #[.int .i64 ino, .int .u8 kind, .string s] 23)) (.cells #[.int .i64 p, .int .i64 i, .int .i64 b] 25))
  have h' : (s.size : Int) ≤ 200 := by omega
  have He := hid (fun W => encode_no ino kind p i b s W hm)
  have hq := eq_slot_no ino kind 0 0 s ⟨#[]⟩ hz
  clear hg hm hz
  go_enter Tryd.func3, Tryd.ntmps3
  go_wp2_with fail
  refine (He.out _).mono ?_
  rintro e w1 ⟨rfl, hb⟩
  have Hb := hid ((((Below.refl _ _).alloc (Nat.le_refl _) _).alloc (by simp) _).trans (hb.mono (by simp; omega)))
  have Hg1 := hid (errType_above Hg.out hb)
  clear hb
  go_wp2_with fail
  refine (alive_any _ Hg1.out).mono ?_
  rintro e w2 ⟨rfl, hb⟩
  have Hb2 := hid (Hb.out.trans (hb.mono Hb.out.size))
  clear hb
  go_wp2
  go_ret
  exact ⟨rfl, Hb2.out⟩
end Go.Proofs.YtejapeafepcacaaDoor
