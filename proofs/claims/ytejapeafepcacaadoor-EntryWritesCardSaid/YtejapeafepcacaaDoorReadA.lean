/- entry.Read: laws for a block among the cells; the reads that fail at once. -/
import Derived.Test.YtejapeafepcacaaDoorOneA
import Derived.Test.YtejapeafepcacaaDoorSlot
import Derived.Test.YtejapeafepcacaaDoorErrsB
import Derived.WalkMore
import Derived.Deep.QuietTactic
import Derived.BigQuiet
namespace Go.Proofs.YtejapeafepcacaaDoor
open Go.RowKit
def zF (j : Nat) : Value := if j = 0 then .int .i64 0 else if j % 3 = 1 then .int .i64 0 else if j % 3 = 2 then .int .u8 0 else .string ⟨#[]⟩
theorem zero_lit : (#[.int .i64 0, .int .i64 0, .int .u8 0, .string ⟨#[]⟩, .int .i64 0, .int .u8 0, .string ⟨#[]⟩, .int .i64 0, .int .u8 0, .string ⟨#[]⟩, .int .i64 0, .int .u8 0, .string ⟨#[]⟩, .int .i64 0, .int .u8 0, .string ⟨#[]⟩, .int .i64 0, .int .u8 0, .string ⟨#[]⟩, .int .i64 0, .int .u8 0, .string ⟨#[]⟩, .int .i64 0, .int .u8 0, .string ⟨#[]⟩, .int .i64 0, .int .u8 0, .string ⟨#[]⟩, .int .i64 0, .int .u8 0, .string ⟨#[]⟩] : Array Value) = dirOf zF := by rfl
theorem zF_is : CellsIs zF 0 (fun _ => 0) (fun _ => 0) (fun _ => ⟨#[]⟩) := by
  refine ⟨rfl, fun k _ => ?_, fun k _ => ?_, fun k _ => ?_⟩
  · unfold zF; rw [if_neg (by omega), if_pos (by omega)]
  · unfold zF; rw [if_neg (by omega), if_neg (by omega), if_pos (by omega)]
  · unfold zF; rw [if_neg (by omega), if_neg (by omega), if_neg (by omega)]
theorem setRow_row {w : World} {B : Nat} {G : Nat → Value} (F : Nat → Value) (hr : w.rowIs B 41 31 G) : (w.setRow B (dirOf F)).rowIs B 41 31 F := by
  obtain ⟨c, hg, hsz, -⟩ := hr
  exact ⟨dirOf F, by simp [World.setRow, Array.getElem?_modify, hg], dirOf_size F, fun i hi => dirOf_get F i hi⟩
theorem setRow_far {w : World} {B : Nat} {g t n : Nat} {G : Nat → Value} (cs : Array Value) (hr : w.rowIs g t n G) (hne : g ≠ B) : (w.setRow B cs).rowIs g t n G := hr.of_block (setRow_other w B g cs hne)
theorem setRow_below {w : World} {b B : Nat} (h : b ≤ B) (cs : Array Value) : Below b w (w.setRow B cs) := ⟨rfl, rfl, rfl, by simp, fun k hk => setRow_other w B k cs (by omega)⟩
theorem wp_store41 {op : Oper} {a : Act} {w : World} {K : Act → World → Prop} {Q : Exit → Act → World → Prop} (x y : Operand) (ho : op.op = .store 41 x y) (B : Nat) (G F : Nat → Value) (hr : w.rowIs B 41 31 G)
    (hx : a.eval x = .pointer (some ⟨B, 0, none⟩)) (hy : a.eval y = .agg (dirOf F)) (h1 : (dirOf F).all (·.oneCell') = true) (h : K (a.put op.dst undef) (w.setRow B (dirOf F))) : op.wp Tryd.prog a w K Q := by
  obtain ⟨c, hg, hsz, -⟩ := hr
  have hrun := run_storeVar_row (P := Tryd.prog) w B 41 41 c (dirOf F) hg (by rw [dirOf_size]; exact info41) (by rw [hsz, dirOf_size]) h1
  unfold Oper.wp execOp
  simp only [ho, hx, hy, Instr.storeAt, Instr.sureAddr, Sem.run_bind, Sem.run_pure, Result.andThen_ok, hrun]
  exact h
theorem wpList_store41 {ops : Array Oper} {rest : List Oper} {op : Oper} {a : Act} {w : World} {Q : Exit → Act → World → Prop} (hgd : op.guard = none) (x y : Operand) (ho : op.op = .store 41 x y) (B : Nat) (G F : Nat → Value) (hr : w.rowIs B 41 31 G)
    (hx : a.eval x = .pointer (some ⟨B, 0, none⟩)) (hy : a.eval y = .agg (dirOf F)) (h1 : (dirOf F).all (·.oneCell') = true) (h : wpList Tryd.prog ops Q rest (a.put op.dst undef) (w.setRow B (dirOf F))) : wpList Tryd.prog ops Q (op :: rest) a w :=
  wpList_plain hgd fun _ hK => wp_store41 x y ho B G F hr hx hy h1 (hK _ _ h)
theorem step_store41 {ops : Array Oper} {op : Oper} {a : Act} {w : World} {K : Act → World → Prop} {Q : Exit → Act → World → Prop} {E : Prop} (hgd : op.guard = none) (x y : Operand) (ho : op.op = .store 41 x y) (B : Nat) (G F : Nat → Value) (hr : w.rowIs B 41 31 G)
    (hx : a.eval x = .pointer (some ⟨B, 0, none⟩)) (hy : a.eval y = .agg (dirOf F)) (h1 : (dirOf F).all (·.oneCell') = true) (h : K (a.put op.dst undef) (w.setRow B (dirOf F))) : if Region.wanted op (yielded ops a.tmps) = true then Oper.wp Tryd.prog op a w K Q else E := by
  have hw : Region.wanted op (yielded ops a.tmps) = true := by simp [Region.wanted, hgd]
  rw [if_pos hw]
  exact wp_store41 x y ho B G F hr hx hy h1 h
theorem run_block (w : World) (B : Nat) (F : Nat → Value) (hr : w.rowIs B 41 31 F) : (loadVar 41 ⟨B, 0, none⟩).run Tryd.prog w = .ok (.agg (dirOf F)) w := by
  have := run_loadVar_mid (P := Tryd.prog) w B 0 41 (dirOf F).toList _ (range_of_row hr) Tryd.underlying41 rfl (by rw [Array.length_toList, dirOf_size]; exact info41)
  rwa [Array.toArray_toList] at this
theorem mask32 (x : Nat) (hx : x < 18446744073709551616) : bits BinOp.and IntKind.u64 (x : Int) 4294967295 = ((x % 4294967296 : Nat) : Int) := by
  rw [show (4294967295 : Int) = ((4294967295 : Nat) : Int) from rfl, u64_and_nat _ _ hx (by omega), show (4294967295 : Nat) = 2 ^ 32 - 1 from rfl, Nat.and_two_pow_sub_one_eq_mod]
theorem mask8 (x : Nat) (hx : x < 18446744073709551616) : bits BinOp.and IntKind.u64 (x : Int) 255 = ((x % 256 : Nat) : Int) := by
  rw [show (255 : Int) = ((255 : Nat) : Int) from rfl, u64_and_nat _ _ hx (by omega), nat_mask8]
theorem results_cell_tmp {fn : Func} {a u : Tmp} {t : TypeId} (h : fn.results = #[.cell a t, .tmp u]) (tmps : Array Value) (P : Program) (w : World) (ad : Addr) (v : Value) (ha : tmps.getD a undef = .pointer (some ad)) (hl : (loadVar t ad).run P w = .ok v w) :
    (results fn tmps).run P w = .ok (.tuple #[v, tmps.getD u undef]) w := by
  rw [Array.getD_eq_getD_getElem?] at ha
  simp [results, h, ha, asAddr, hl]
attribute [local irreducible] dirOf

set_option maxHeartbeats 1000000 in
set_option maxRecDepth 100000 in
theorem read_len (A : Option Addr) (m cap : Nat) (p i b : Int) (w : World) (h : gok p i b = true) (hm : m ≠ 32) :
    Calls Tryd.prog 22 #[.slice A m cap, .agg #[.int .i64 p, .int .i64 i, .int .i64 b]] w fun e w' => e = .returned (.tuple #[.agg (dirOf zF), .iface 58 (.agg #[.int .i64 0, .int .i64 7])]) ∧ Below w.heap.size w w' := by
  have H := hid h
  clear h
  go_enter Tryd.func22, Tryd.ntmps22
  go_wp2_with fail
  rw [zero_lit]
  go_step3
  go_wp2_with fail
  refine (check_yes _ _ _ _ H.out).mono ?_
  rintro e w1 ⟨rfl, hb⟩
  have hB := (((Below.refl w.heap.size w).alloc (Nat.le_refl _) (.cells #[.int .i64 p, .int .i64 i, .int .i64 b] 25)).alloc (by simp) (.cells (dirOf zF) 41)).trans (hb.mono (by simp; omega))
  have rZ := row_dirOf (w.alloc (.cells #[.int .i64 p, .int .i64 i, .int .i64 b] 25)) zF
  have HrZ : Hid (w1.rowIs (w.heap.size + 1) 41 31 zF) := by have := above_row hb rZ; rw [show (w.alloc (.cells #[.int .i64 p, .int .i64 i, .int .i64 b] 25)).heap.size = w.heap.size + 1 by simp] at this; exact hid this
  have rG := (row3 w 25 (.int .i64 p) (.int .i64 i) (.int .i64 b) (fun j => if j = 0 then .int .i64 p else if j = 1 then .int .i64 i else .int .i64 b) rfl rfl rfl).alloc (.cells (dirOf zF) 41)
  have HrG := hid (above_row hb rG)
  have HB := hid hB
  have hs1 : w.heap.size + 1 < w1.heap.size := by have := hb.size; simp at this; omega
  clear hb hB rZ rG
  have hm' : ¬ ((m : Int) = 32) := by omega
  go_wp2_with (first
    | refine wpList_load41 rfl 35 rfl (.tmp 4) rfl (w.heap.size + 1) rfl zF HrZ.out ?_
    | refine wpList_store41 rfl (.tmp 4) (.tmp 35) rfl (w.heap.size + 1) zF zF HrZ.out rfl rfl zF_is.one ?_)
  have hl := run_block _ _ _ (setRow_row zF HrZ.out)
  try rw [Exit.noGoto_ret]
  refine bodyPost_ret (v := .tuple #[.agg (dirOf zF), .iface 58 (.agg #[.int .i64 0, .int .i64 7])]) ?_ rfl ⟨rfl, ?_⟩
  · exact results_cell_tmp Tryd.results22 _ Tryd.prog _ _ _ rfl hl
  · exact HB.out.trans (setRow_below (b := w.heap.size) (B := w.heap.size + 1) (by omega) _)

set_option maxHeartbeats 1000000 in
set_option maxRecDepth 100000 in
theorem read_mark (g cap : Nat) (f : Nat → Nat) (p i b : Int) (w : World) (h : gok p i b = true) (hf : ∀ k, f k < 18446744073709551616) (hcell : ∀ k, k < 32 → w.cell? ⟨g, k, none⟩ = some (.int .u64 (f k : Nat))) (hh : f 0 / 4294967296 ≠ 1145655857) :
    Calls Tryd.prog 22 #[.slice (some ⟨g, 0, none⟩) 32 cap, .agg #[.int .i64 p, .int .i64 i, .int .i64 b]] w fun e w' => e = .returned (.tuple #[.agg (dirOf zF), .iface 58 (.agg #[.int .i64 0, .int .i64 7])]) ∧ Below w.heap.size w w' := by
  have H := hid h
  clear h
  go_enter Tryd.func22, Tryd.ntmps22
  go_wp2_with fail
  rw [zero_lit]
  go_step3
  go_wp2_with fail
  refine (check_yes _ _ _ _ H.out).mono ?_
  rintro e w1 ⟨rfl, hb⟩
  have hB := (((Below.refl w.heap.size w).alloc (Nat.le_refl _) (.cells #[.int .i64 p, .int .i64 i, .int .i64 b] 25)).alloc (by simp) (.cells (dirOf zF) 41)).trans (hb.mono (by simp; omega))
  have rZ := row_dirOf (w.alloc (.cells #[.int .i64 p, .int .i64 i, .int .i64 b] 25)) zF
  have HrZ : Hid (w1.rowIs (w.heap.size + 1) 41 31 zF) := by have := above_row hb rZ; rw [show (w.alloc (.cells #[.int .i64 p, .int .i64 i, .int .i64 b] 25)).heap.size = w.heap.size + 1 by simp] at this; exact hid this
  have rG := (row3 w 25 (.int .i64 p) (.int .i64 i) (.int .i64 b) (fun j => if j = 0 then .int .i64 p else if j = 1 then .int .i64 i else .int .i64 b) rfl rfl rfl).alloc (.cells (dirOf zF) 41)
  have HrG := hid (above_row hb rG)
  have HB := hid hB
  have hs1 : w.heap.size + 1 < w1.heap.size := by have := hb.size; simp at this; omega
  clear hb hB rZ rG
  have Hf := hid hf
  have Hcell := hid fun (k : Nat) (hk : k < 32) => above HB.out (hcell k hk)
  clear hf hcell
  have c0 := Hcell.out 0 (by omega)
  have c1 := Hcell.out 1 (by omega)
  have gG := three _ _ _ _ HrG.out
  simp at gG
  have hm0 := mask32 (f 0) (Hf.out 0)
  have hb1 : 4 ≤ b ∧ b ≤ 255 := (gok_iff.1 H.out).2.2.2.2
  have hbw : b % 18446744073709551616 = b := by omega
  have hh' : ¬ ((f 0 : Int) / 4294967296 = 1145655857) := by omega
  go_wp2_with (first
    | refine wpList_load41 rfl 35 rfl (.tmp 4) rfl (w.heap.size + 1) rfl zF HrZ.out ?_
    | refine wpList_store41 rfl (.tmp 4) (.tmp 35) rfl (w.heap.size + 1) zF zF HrZ.out rfl rfl zF_is.one ?_)
  have hl := run_block _ _ _ (setRow_row zF HrZ.out)
  try rw [Exit.noGoto_ret]
  refine bodyPost_ret (v := .tuple #[.agg (dirOf zF), .iface 58 (.agg #[.int .i64 0, .int .i64 7])]) ?_ rfl ⟨rfl, ?_⟩
  · exact results_cell_tmp Tryd.results22 _ Tryd.prog _ _ _ rfl hl
  · exact HB.out.trans (setRow_below (b := w.heap.size) (B := w.heap.size + 1) (by omega) _)

set_option maxHeartbeats 1000000 in
set_option maxRecDepth 100000 in
theorem read_next (g cap : Nat) (f : Nat → Nat) (p i b : Int) (w : World) (h : gok p i b = true) (hf : ∀ k, f k < 18446744073709551616) (hcell : ∀ k, k < 32 → w.cell? ⟨g, k, none⟩ = some (.int .u64 (f k : Nat))) (hh : f 0 / 4294967296 = 1145655857) (hn : b < (f 0 % 4294967296 : Nat)) :
    Calls Tryd.prog 22 #[.slice (some ⟨g, 0, none⟩) 32 cap, .agg #[.int .i64 p, .int .i64 i, .int .i64 b]] w fun e w' => e = .returned (.tuple #[.agg (dirOf zF), .iface 58 (.agg #[.int .i64 0, .int .i64 7])]) ∧ Below w.heap.size w w' := by
  have H := hid h
  clear h
  go_enter Tryd.func22, Tryd.ntmps22
  go_wp2_with fail
  rw [zero_lit]
  go_step3
  go_wp2_with fail
  refine (check_yes _ _ _ _ H.out).mono ?_
  rintro e w1 ⟨rfl, hb⟩
  have hB := (((Below.refl w.heap.size w).alloc (Nat.le_refl _) (.cells #[.int .i64 p, .int .i64 i, .int .i64 b] 25)).alloc (by simp) (.cells (dirOf zF) 41)).trans (hb.mono (by simp; omega))
  have rZ := row_dirOf (w.alloc (.cells #[.int .i64 p, .int .i64 i, .int .i64 b] 25)) zF
  have HrZ : Hid (w1.rowIs (w.heap.size + 1) 41 31 zF) := by have := above_row hb rZ; rw [show (w.alloc (.cells #[.int .i64 p, .int .i64 i, .int .i64 b] 25)).heap.size = w.heap.size + 1 by simp] at this; exact hid this
  have rG := (row3 w 25 (.int .i64 p) (.int .i64 i) (.int .i64 b) (fun j => if j = 0 then .int .i64 p else if j = 1 then .int .i64 i else .int .i64 b) rfl rfl rfl).alloc (.cells (dirOf zF) 41)
  have HrG := hid (above_row hb rG)
  have HB := hid hB
  have hs1 : w.heap.size + 1 < w1.heap.size := by have := hb.size; simp at this; omega
  clear hb hB rZ rG
  have Hf := hid hf
  have Hcell := hid fun (k : Nat) (hk : k < 32) => above HB.out (hcell k hk)
  clear hf hcell
  have c0 := Hcell.out 0 (by omega)
  have c1 := Hcell.out 1 (by omega)
  have gG := three _ _ _ _ HrG.out
  simp at gG
  have hm0 := mask32 (f 0) (Hf.out 0)
  have hb1 : 4 ≤ b ∧ b ≤ 255 := (gok_iff.1 H.out).2.2.2.2
  have hbw : b % 18446744073709551616 = b := by omega
  have hh' : ((f 0 : Int) / 4294967296 = 1145655857) := by omega
  have hn' : b < (f 0 : Int) % 4294967296 := by omega
  go_wp2_with fail
  go_quiet (fail)
  go_wp2_with (first
    | refine wpList_load41 rfl 35 rfl (.tmp 4) rfl (w.heap.size + 1) rfl zF HrZ.out ?_
    | refine wpList_store41 rfl (.tmp 4) (.tmp 35) rfl (w.heap.size + 1) zF zF HrZ.out rfl rfl zF_is.one ?_)
  have hl := fun n => run_block _ _ _ (setRow_row (w := w1.drewN n) zF HrZ.out)
  try rw [Exit.noGoto_ret]
  refine bodyPost_ret (v := .tuple #[.agg (dirOf zF), .iface 58 (.agg #[.int .i64 0, .int .i64 7])]) ?_ rfl ⟨rfl, ?_⟩
  · exact results_cell_tmp Tryd.results22 _ Tryd.prog _ _ _ rfl (hl _)
  · exact (below_drewN HB.out _).trans (setRow_below (b := w.heap.size) (B := w.heap.size + 1) (by omega) _)

set_option maxHeartbeats 1000000 in
set_option maxRecDepth 100000 in
theorem read_one (g cap : Nat) (f : Nat → Nat) (p i b : Int) (w : World) (h : gok p i b = true) (hf : ∀ k, f k < 18446744073709551616) (hcell : ∀ k, k < 32 → w.cell? ⟨g, k, none⟩ = some (.int .u64 (f k : Nat))) (hh : f 0 / 4294967296 = 1145655857) (hn : (f 0 % 4294967296 : Nat) ≤ b) (h1 : f 1 ≠ 0) :
    Calls Tryd.prog 22 #[.slice (some ⟨g, 0, none⟩) 32 cap, .agg #[.int .i64 p, .int .i64 i, .int .i64 b]] w fun e w' => e = .returned (.tuple #[.agg (dirOf zF), .iface 58 (.agg #[.int .i64 1, .int .i64 7])]) ∧ Below w.heap.size w w' := by
  have H := hid h
  clear h
  go_enter Tryd.func22, Tryd.ntmps22
  go_wp2_with fail
  rw [zero_lit]
  go_step3
  go_wp2_with fail
  refine (check_yes _ _ _ _ H.out).mono ?_
  rintro e w1 ⟨rfl, hb⟩
  have hB := (((Below.refl w.heap.size w).alloc (Nat.le_refl _) (.cells #[.int .i64 p, .int .i64 i, .int .i64 b] 25)).alloc (by simp) (.cells (dirOf zF) 41)).trans (hb.mono (by simp; omega))
  have rZ := row_dirOf (w.alloc (.cells #[.int .i64 p, .int .i64 i, .int .i64 b] 25)) zF
  have HrZ : Hid (w1.rowIs (w.heap.size + 1) 41 31 zF) := by have := above_row hb rZ; rw [show (w.alloc (.cells #[.int .i64 p, .int .i64 i, .int .i64 b] 25)).heap.size = w.heap.size + 1 by simp] at this; exact hid this
  have rG := (row3 w 25 (.int .i64 p) (.int .i64 i) (.int .i64 b) (fun j => if j = 0 then .int .i64 p else if j = 1 then .int .i64 i else .int .i64 b) rfl rfl rfl).alloc (.cells (dirOf zF) 41)
  have HrG := hid (above_row hb rG)
  have HB := hid hB
  have hs1 : w.heap.size + 1 < w1.heap.size := by have := hb.size; simp at this; omega
  clear hb hB rZ rG
  have Hf := hid hf
  have Hcell := hid fun (k : Nat) (hk : k < 32) => above HB.out (hcell k hk)
  clear hf hcell
  have c0 := Hcell.out 0 (by omega)
  have c1 := Hcell.out 1 (by omega)
  have gG := three _ _ _ _ HrG.out
  simp at gG
  have hm0 := mask32 (f 0) (Hf.out 0)
  have hb1 : 4 ≤ b ∧ b ≤ 255 := (gok_iff.1 H.out).2.2.2.2
  have hbw : b % 18446744073709551616 = b := by omega
  have hh' : ((f 0 : Int) / 4294967296 = 1145655857) := by omega
  have hn' : (f 0 : Int) % 4294967296 ≤ b := by omega
  have h1' : ¬ ((f 1 : Int) = 0) := by omega
  go_wp2_with fail
  go_quiet (fail)
  go_wp2_with (first
    | refine wpList_load41 rfl 43 rfl (.tmp 4) rfl (w.heap.size + 1) rfl zF HrZ.out ?_
    | refine wpList_store41 rfl (.tmp 4) (.tmp 43) rfl (w.heap.size + 1) zF zF HrZ.out rfl rfl zF_is.one ?_)
  have hl := fun n => run_block _ _ _ (setRow_row (w := w1.drewN n) zF HrZ.out)
  try rw [Exit.noGoto_ret]
  refine bodyPost_ret (v := .tuple #[.agg (dirOf zF), .iface 58 (.agg #[.int .i64 1, .int .i64 7])]) ?_ rfl ⟨rfl, ?_⟩
  · exact results_cell_tmp Tryd.results22 _ Tryd.prog _ _ _ rfl (hl _)
  · exact (below_drewN HB.out _).trans (setRow_below (b := w.heap.size) (B := w.heap.size + 1) (by omega) _)
end Go.Proofs.YtejapeafepcacaaDoor
