/- EntryBack: what was encoded is decoded as itself, and what is decoded is encoded as itself. -/
import Derived.Test.YtejapeafepcacaaDoorBackA
namespace Go.Proofs.YtejapeafepcacaaDoor
open Go.RowKit
theorem wpList_load41g {ops : Array Oper} {rest : List Oper} {op : Oper} {a : Act} {w : World} {Q : Exit → Act → World → Prop} (dst : Nat) (_hdst : op.dst = some dst) (hw : Region.wanted op (yielded ops a.tmps) = true) (x : Operand) (ho : op.op = .load 41 x)
    (B : Nat) (hx : a.eval x = .pointer (some ⟨B, 0, none⟩)) (F : Nat → Value) (hr : w.rowIs B 41 31 F) (h : wpList Tryd.prog ops Q rest (a.put op.dst (.agg (dirOf F))) w) : wpList Tryd.prog ops Q (op :: rest) a w :=
  wpList_step fun K hK => by
    rw [if_pos hw]
    refine wp_load_mid 41 x ho B 0 hx (dirOf F).toList _ (range_of_row hr) Tryd.underlying41 rfl (by rw [Array.length_toList, dirOf_size]; exact info41) ?_
    rw [Array.toArray_toList]
    exact hK _ _ h
theorem neq_slot_yes (a k : Int) (s : ByteArray) (w : World) : (binOp .neq 23 (.agg #[.int .i64 a, .int .u8 k, .string s]) (.agg #[.int .i64 a, .int .u8 k, .string s])).run Tryd.prog w = .ok (.bool false) w := by
  rw [run_neq_struct, equalIn_slot 9998]; rfl
attribute [local irreducible] dirOf

set_option maxHeartbeats 1000000 in
set_option maxRecDepth 100000 in
theorem back_name (a c : Int) (s : ByteArray) (F : Nat → Value) (next : Int) (ino kind : Nat → Int) (nm : Nat → ByteArray) (A : Option Addr) (m cp : Nat) (p i b : Int) (w : World) (hg : ErrType w) (hF : CellsIs F next ino kind nm) (hl : 200 < s.size) :
    Calls Tryd.prog 7 #[.agg #[.int .i64 a, .int .u8 c, .string s], .agg (dirOf F), .slice A m cp, .agg #[.int .i64 p, .int .i64 i, .int .i64 b]] w fun e w' => e = .returned (.bool true) ∧ Below w.heap.size w w' := by
  have Hg := hid (errType_alloc (errType_alloc (errType_alloc hg (.cells #[.int .i64 a, .int .u8 c, .string s] 23)) (.cells (dirOf F) 41)) (.cells #[.int .i64 p, .int .i64 i, .int .i64 b] 25))
  have HF := hid hF
  have e1 : (w.alloc (.cells #[.int .i64 a, .int .u8 c, .string s] 23)).heap.size = w.heap.size + 1 := by simp
  have e2 : ((w.alloc (.cells #[.int .i64 a, .int .u8 c, .string s] 23)).alloc (.cells (dirOf F) 41)).heap.size = w.heap.size + 1 + 1 := by simp
  have rC := (row_dirOf (w.alloc (.cells #[.int .i64 a, .int .u8 c, .string s] 23)) F).alloc (.cells #[.int .i64 p, .int .i64 i, .int .i64 b] 25)
  have rG := (row3 ((w.alloc (.cells #[.int .i64 a, .int .u8 c, .string s] 23)).alloc (.cells (dirOf F) 41)) 25 (.int .i64 p) (.int .i64 i) (.int .i64 b) (fun j => if j = 0 then .int .i64 p else if j = 1 then .int .i64 i else .int .i64 b) rfl rfl rfl)
  rw [e1] at rC
  rw [e2] at rG
  have HrC := hid rC
  have HrX := hid (((row3 w 23 (.int .i64 a) (.int .u8 c) (.string s) (fun j => if j = 0 then .int .i64 a else if j = 1 then .int .u8 c else .string s) rfl rfl rfl).alloc (.cells (dirOf F) 41)).alloc (.cells #[.int .i64 p, .int .i64 i, .int .i64 b] 25))
  have HrG := hid rG
  have HB0 := hid (Below.alloc (Below.alloc (Below.alloc (Below.refl w.heap.size w) (Nat.le_refl _) (.cells #[.int .i64 a, .int .u8 c, .string s] 23)) (by simp) (.cells (dirOf F) 41)) (by simp; omega) (.cells #[.int .i64 p, .int .i64 i, .int .i64 b] 25))
  clear hg hF rC rG e1 e2
  go_enter Tryd.func7, Tryd.ntmps7
  have hs : (200 : Int) < (s.size : Int) := by omega
  go_wp2_with fail
  refine (alive_any _ Hg.out).mono ?_
  rintro e w2 ⟨rfl, hbz⟩
  have Hz := hid (HB0.out.trans (hbz.mono HB0.out.size))
  clear hbz
  go_wp2
  go_ret
  exact ⟨rfl, Hz.out⟩
set_option maxHeartbeats 1000000 in
set_option maxRecDepth 100000 in
theorem back_long (a c : Int) (s : ByteArray) (F : Nat → Value) (next : Int) (ino kind : Nat → Int) (nm : Nat → ByteArray) (A : Option Addr) (m cp : Nat) (p i b : Int) (w : World) (hg : ErrType w) (hF : CellsIs F next ino kind nm) (hs0 : s.size ≤ 200) (hl : (∃ k, k < 10 ∧ 200 < (nm k).size) ∨ 100 < m) :
    Calls Tryd.prog 7 #[.agg #[.int .i64 a, .int .u8 c, .string s], .agg (dirOf F), .slice A m cp, .agg #[.int .i64 p, .int .i64 i, .int .i64 b]] w fun e w' => e = .returned (.bool true) ∧ Below w.heap.size w w' := by
  have Hg := hid (errType_alloc (errType_alloc (errType_alloc hg (.cells #[.int .i64 a, .int .u8 c, .string s] 23)) (.cells (dirOf F) 41)) (.cells #[.int .i64 p, .int .i64 i, .int .i64 b] 25))
  have HF := hid hF
  have e1 : (w.alloc (.cells #[.int .i64 a, .int .u8 c, .string s] 23)).heap.size = w.heap.size + 1 := by simp
  have e2 : ((w.alloc (.cells #[.int .i64 a, .int .u8 c, .string s] 23)).alloc (.cells (dirOf F) 41)).heap.size = w.heap.size + 1 + 1 := by simp
  have rC := (row_dirOf (w.alloc (.cells #[.int .i64 a, .int .u8 c, .string s] 23)) F).alloc (.cells #[.int .i64 p, .int .i64 i, .int .i64 b] 25)
  have rG := (row3 ((w.alloc (.cells #[.int .i64 a, .int .u8 c, .string s] 23)).alloc (.cells (dirOf F) 41)) 25 (.int .i64 p) (.int .i64 i) (.int .i64 b) (fun j => if j = 0 then .int .i64 p else if j = 1 then .int .i64 i else .int .i64 b) rfl rfl rfl)
  rw [e1] at rC
  rw [e2] at rG
  have HrC := hid rC
  have HrX := hid (((row3 w 23 (.int .i64 a) (.int .u8 c) (.string s) (fun j => if j = 0 then .int .i64 a else if j = 1 then .int .u8 c else .string s) rfl rfl rfl).alloc (.cells (dirOf F) 41)).alloc (.cells #[.int .i64 p, .int .i64 i, .int .i64 b] 25))
  have HrG := hid rG
  have HB0 := hid (Below.alloc (Below.alloc (Below.alloc (Below.refl w.heap.size w) (Nat.le_refl _) (.cells #[.int .i64 a, .int .u8 c, .string s] 23)) (by simp) (.cells (dirOf F) 41)) (by simp; omega) (.cells #[.int .i64 p, .int .i64 i, .int .i64 b] 25))
  clear hg hF rC rG e1 e2
  go_enter Tryd.func7, Tryd.ntmps7
  have hs : (s.size : Int) ≤ 200 := by omega
  have hd : decide ((200 : Int) < (s.size : Int)) = false := by simp; omega
  go_wp2_with (refine wpList_load41g 22 rfl (by rfl) (.tmp 5) rfl (w.heap.size + 1) rfl F HrC.out ?_)
  refine (long_any (dirOf F) next ino kind nm _ HF.out.dir).mono ?_
  rintro e w1 ⟨he, hb⟩
  have Hb1 := hid (HB0.out.trans (hb.mono HB0.out.size))
  have Hg1 := hid (errType_above Hg.out hb)
  clear hb
  rcases he with ⟨rfl, -⟩ | ⟨rfl, hn⟩
  · clear hl
    go_wp2_with fail
    refine (alive_any _ Hg1.out).mono ?_
    rintro e w2 ⟨rfl, hbz⟩
    have Hz := hid (Hb1.out.trans (hbz.mono Hb1.out.size))
    clear hbz
    go_wp2
    go_ret
    exact ⟨rfl, Hz.out⟩
  · have hm : (100 : Int) < (m : Int) := by
      rcases hl with ⟨k, hk, h⟩ | h
      · have := hn k hk; omega
      · omega
    clear hl hn
    go_wp2_with fail
    refine (alive_any _ Hg1.out).mono ?_
    rintro e w2 ⟨rfl, hbz⟩
    have Hz := hid (Hb1.out.trans (hbz.mono Hb1.out.size))
    clear hbz
    go_wp2
    go_ret
    exact ⟨rfl, Hz.out⟩
end Go.Proofs.YtejapeafepcacaaDoor
