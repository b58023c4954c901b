/- EntryOne: one slot turned in a block turns its three words alone, and Next the first one. -/
import Derived.Test.YtejapeafepcacaaDoorBlockC
import Derived.Test.YtejapeafepcacaaDoorSame
namespace Go.Proofs.YtejapeafepcacaaDoor
open Go.RowKit
theorem wpList_load41 {ops : Array Oper} {rest : List Oper} {op : Oper} {a : Act} {w : World} {Q : Exit → Act → World → Prop} (hgd : op.guard = none) (dst : Nat) (_hdst : op.dst = some dst) (x : Operand) (ho : op.op = .load 41 x)
    (B : Nat) (hx : a.eval x = .pointer (some ⟨B, 0, none⟩)) (F : Nat → Value) (hr : w.rowIs B 41 31 F) (h : wpList Tryd.prog ops Q rest (a.put op.dst (.agg (dirOf F))) w) : wpList Tryd.prog ops Q (op :: rest) a w :=
  wpList_load_mid hgd 41 x ho B 0 hx (dirOf F).toList _ (range_of_row hr) Tryd.underlying41 rfl (by rw [Array.length_toList, dirOf_size]; exact info41) (by rw [Array.toArray_toList]; exact h)
theorem wpList_store_new {ops : Array Oper} {rest : List Oper} {op : Oper} {a : Act} {w W : World} {Q : Exit → Act → World → Prop} (hgd : op.guard = none) (x y : Operand) (ho : op.op = .store 41 x y)
    (c c' : Array Value) (hW : W = w.alloc (.cells c 41)) (hx : a.eval x = .pointer (some ⟨w.heap.size, 0, none⟩)) (hy : a.eval y = .agg c') (hc : c.size = c'.size) (hi : c'.size = 31) (h1 : c'.all (·.oneCell') = true)
    (h : wpList Tryd.prog ops Q rest (a.put op.dst undef) (w.alloc (.cells c' 41))) : wpList Tryd.prog ops Q (op :: rest) a W :=
  wpList_plain hgd fun _ hK => by
    subst hW
    have hr := run_storeVar_new (P := Tryd.prog) w 41 c c' (by rw [hi]; exact info41) hc h1
    unfold Oper.wp execOp
    simp only [ho, hx, hy, Instr.storeAt, Instr.sureAddr, Sem.run_bind, Sem.run_pure, Result.andThen_ok, hr]
    exact hK _ _ h
theorem row_dirOf (w : World) (F : Nat → Value) : (w.alloc (.cells (dirOf F) 41)).rowIs w.heap.size 41 31 F := by
  have := row_of_alloc w (dirOf F) (dirOf_size F)
  exact this.congr (fun j hj => by rw [Array.getD_eq_getD_getElem?, dirOf_get F j hj]; rfl)
theorem CellsIs.one {F : Nat → Value} {next : Int} {ino kind : Nat → Int} {nm : Nat → ByteArray} (h : CellsIs F next ino kind nm) : (dirOf F).all (·.oneCell') = true := by
  refine Array.all_eq_true_iff_forall_mem.2 (fun v hv => ?_)
  obtain ⟨j, hj, rfl⟩ : ∃ j, j < 31 ∧ F j = v := by simpa [dirOf] using hv
  by_cases h0 : j = 0
  · subst h0; rw [h.h0]; rfl
  · have hk : (j - 1) / 3 < 10 := by omega
    have hr : (j - 1) % 3 = 0 ∨ (j - 1) % 3 = 1 ∨ (j - 1) % 3 = 2 := by omega
    rcases hr with hr | hr | hr
    · rw [show j = 1 + 3 * ((j - 1) / 3) by omega, h.h1 _ hk]; rfl
    · rw [show j = 1 + 3 * ((j - 1) / 3) + 1 by omega, h.h2 _ hk]; rfl
    · rw [show j = 1 + 3 * ((j - 1) / 3) + 2 by omega, h.h3 _ hk]; rfl
theorem wpList_load3 {ops : Array Oper} {rest : List Oper} {op : Oper} {a : Act} {w : World} {Q : Exit → Act → World → Prop} (hgd : op.guard = none) (dst : Nat) (_hdst : op.dst = some dst) (ty : TypeId) (x : Operand) (ho : op.op = .load ty x)
    (B : Nat) (hx : a.eval x = .pointer (some ⟨B, 0, none⟩)) (X : Nat → Value) (d : TypeDesc) (hu : Tryd.prog.underlying ty = some d) (hd : d.isRow = true) (hi : (Tryd.prog.info? ty).map (·.size) = some 3) (hr : w.rowIs B ty 3 X)
    (h : wpList Tryd.prog ops Q rest (a.put op.dst (.agg #[X 0, X 1, X 2])) w) : wpList Tryd.prog ops Q (op :: rest) a w :=
  wpList_load_mid hgd ty x ho B 0 hx [X 0, X 1, X 2] d (fun j v hj => by
    rw [Nat.zero_add]
    match j, hj with
    | 0, hj => rw [← Option.some.inj hj]; exact hr.cell (by omega)
    | 1, hj => rw [← Option.some.inj hj]; exact hr.cell (i := 1) (by omega)
    | 2, hj => rw [← Option.some.inj hj]; exact hr.cell (i := 2) (by omega)
    | _ + 3, hj => cases hj) hu hd hi h
theorem info23 : (Tryd.prog.info? 23).map (·.size) = some 3 := by kernel_rfl
theorem info25 : (Tryd.prog.info? 25).map (·.size) = some 3 := by kernel_rfl
theorem one3 (a c : Int) (s : ByteArray) : (#[Value.int .i64 a, .int .u8 c, .string s] : Array Value).all (·.oneCell') = true :=
  all_oneCell_toArray (cs := [.int .i64 a, .int .u8 c, .string s]) (fun v hv => by simp at hv; rcases hv with rfl | rfl | rfl <;> rfl)
/-- The world in which c.Slots[k] = s is done. -/
def turned1 (w1 : World) (F : Nat → Value) (q : Nat) (a c : Int) (s : ByteArray) : World := (w1.alloc (.cells (dirOf F) 41)).setCells w1.heap.size (1 + q * 3) [.int .i64 a, .int .u8 c, .string s]
def slotF (F : Nat → Value) (q : Nat) (a c : Int) (s : ByteArray) (j : Nat) : Value := if j = 1 + 3 * q + 2 then .string s else if j = 1 + 3 * q + 1 then .int .u8 c else if j = 1 + 3 * q then .int .i64 a else F j
theorem turned1_row (w1 : World) (F : Nat → Value) (q : Nat) (a c : Int) (s : ByteArray) : (turned1 w1 F q a c s).rowIs w1.heap.size 41 31 (slotF F q a c s) := by
  have h := (((row_dirOf w1 F).set (1 + q * 3) (.int .i64 a)).set (1 + q * 3 + 1) (.int .u8 c)).set (1 + q * 3 + 1 + 1) (.string s)
  refine World.rowIs.congr (w := turned1 w1 F q a c s) h (fun j _ => ?_)
  unfold slotF
  rw [show 1 + q * 3 = 1 + 3 * q by omega]
theorem turned1_old (w1 : World) (F : Nat → Value) (q : Nat) (a c : Int) (s : ByteArray) : Below w1.heap.size w1 (turned1 w1 F q a c s) := by
  unfold turned1 World.setCells World.setCells World.setCells World.setCells
  exact ((((Below.refl _ _).alloc (Nat.le_refl _) _).setCell (p := ⟨w1.heap.size, 1 + q * 3, none⟩) (by simp) _).setCell (p := ⟨w1.heap.size, 1 + q * 3 + 1, none⟩) (by simp) _).setCell (p := ⟨w1.heap.size, 1 + q * 3 + 1 + 1, none⟩) (by simp) _
theorem turned1_size (w1 : World) (F : Nat → Value) (q : Nat) (a c : Int) (s : ByteArray) : (turned1 w1 F q a c s).heap.size = w1.heap.size + 1 := by
  unfold turned1 World.setCells World.setCells World.setCells World.setCells
  simp
theorem turned1_there (w1 : World) (F : Nat → Value) (q : Nat) (hq : q < 10) : (w1.alloc (.cells (dirOf F) 41)).there w1.heap.size (1 + q * 3) 3 := fun j hj => by
  have h := row_dirOf w1 F
  exact ⟨by rw [h.cell (by omega)]; rfl, h.frozen _⟩
theorem wpList_store_slot {ops : Array Oper} {rest : List Oper} {op : Oper} {A : Act} {w1 : World} {F : Nat → Value} {Q : Exit → Act → World → Prop} (hgd : op.guard = none) (x y : Operand) (ho : op.op = .store 23 x y)
    (q : Nat) (a c : Int) (s : ByteArray) (hq : q < 10) (hx : A.eval x = .pointer (some ⟨w1.heap.size, 1 + q * 3, none⟩)) (hy : A.eval y = .agg #[.int .i64 a, .int .u8 c, .string s])
    (h : wpList Tryd.prog ops Q rest (A.put op.dst undef) (turned1 w1 F q a c s)) : wpList Tryd.prog ops Q (op :: rest) A (w1.alloc (.cells (dirOf F) 41)) :=
  wpList_store_mid hgd 23 x y ho w1.heap.size (1 + q * 3) #[.int .i64 a, .int .u8 c, .string s] hx hy (turned1_there w1 F q hq) info23 (one3 a c s) h
attribute [local irreducible] dirOf turned1

set_option maxHeartbeats 4000000 in
set_option maxRecDepth 100000 in
theorem one_name (F : Nat → Value) (next : Int) (ino kind : Nat → Int) (nm : Nat → ByteArray) (a c : Int) (s : ByteArray) (t : Nat) (nx p i b : Int) (w : World) (hg : ErrType w) (hF : CellsIs F next ino kind nm) (hl : (∃ k, k < 10 ∧ 200 < (nm k).size) ∨ 200 < s.size) :
    Calls Tryd.prog 5 #[.agg (dirOf F), .agg #[.int .i64 a, .int .u8 c, .string s], .int .u8 (t : Int), .int .i64 nx, .agg #[.int .i64 p, .int .i64 i, .int .i64 b]] w fun e w' => e = .returned (.bool true) ∧ Below w.heap.size w w' := by
  have Hg := hid (errType_alloc (errType_alloc (errType_alloc hg (.cells (dirOf F) 41)) (.cells #[.int .i64 a, .int .u8 c, .string s] 23)) (.cells #[.int .i64 p, .int .i64 i, .int .i64 b] 25))
  have HF := hid hF
  have HrC := hid (((row_dirOf w F).alloc (.cells #[.int .i64 a, .int .u8 c, .string s] 23)).alloc (.cells #[.int .i64 p, .int .i64 i, .int .i64 b] 25))
  have e1 : (w.alloc (.cells (dirOf F) 41)).heap.size = w.heap.size + 1 := by simp
  have e2 : ((w.alloc (.cells (dirOf F) 41)).alloc (.cells #[.int .i64 a, .int .u8 c, .string s] 23)).heap.size = w.heap.size + 1 + 1 := by simp
  have rX := ((row3 (w.alloc (.cells (dirOf F) 41)) 23 (.int .i64 a) (.int .u8 c) (.string s) (fun j => if j = 0 then .int .i64 a else if j = 1 then .int .u8 c else .string s) rfl rfl rfl).alloc (.cells #[.int .i64 p, .int .i64 i, .int .i64 b] 25))
  have rG := (row3 ((w.alloc (.cells (dirOf F) 41)).alloc (.cells #[.int .i64 a, .int .u8 c, .string s] 23)) 25 (.int .i64 p) (.int .i64 i) (.int .i64 b) (fun j => if j = 0 then .int .i64 p else if j = 1 then .int .i64 i else .int .i64 b) rfl rfl rfl)
  rw [e1] at rX
  rw [e2] at rG
  have HrX := hid rX
  have HrG := hid rG
  have HB0 := hid (Below.alloc (Below.alloc (Below.alloc (Below.refl w.heap.size w) (Nat.le_refl _) (.cells (dirOf F) 41)) (by simp) (.cells #[.int .i64 a, .int .u8 c, .string s] 23)) (by simp; omega) (.cells #[.int .i64 p, .int .i64 i, .int .i64 b] 25))
  clear hg hF rX rG e1 e2
  go_enter Tryd.func5, Tryd.ntmps5
  go_wp2_with (refine wpList_load41 rfl 24 rfl (.tmp 5) rfl w.heap.size rfl F HrC.out ?_)
  refine (long_any (dirOf F) next ino kind nm _ HF.out.dir).mono ?_
  rintro e w1 ⟨he, hb⟩
  have Hb1 := hid (HB0.out.trans (hb.mono HB0.out.size))
  have HrC1 := hid (above_row hb HrC.out)
  have HrX1 := hid (above_row hb HrX.out)
  have HrG1 := hid (above_row hb HrG.out)
  have Hg1 := hid (errType_above Hg.out hb)
  have hs1 : w.heap.size + 1 + 1 < w1.heap.size := by have := hb.size; simp at this; omega
  have hX := three _ _ _ _ HrX1.out
  simp at hX
  clear hb
  rcases he with ⟨rfl, -⟩ | ⟨rfl, hn⟩
  · clear hl hX
    go_wp2_with fail
    refine (alive_any _ Hg1.out).mono ?_
    rintro e w2 ⟨rfl, hbz⟩
    have Hz := hid (Hb1.out.trans (hbz.mono Hb1.out.size))
    clear hbz
    go_wp2
    go_ret
    exact ⟨rfl, Hz.out⟩
  · have hs : (200 : Int) < (s.size : Int) := by
      rcases hl with ⟨k, hk, h⟩ | h
      · have := hn k hk; omega
      · omega
    clear hl hn
    go_wp2_with fail
    refine (alive_any _ Hg1.out).mono ?_
    rintro e w2 ⟨rfl, hbz⟩
    have Hz := hid (Hb1.out.trans (hbz.mono Hb1.out.size))
    clear hbz
    go_wp2
    go_ret
    exact ⟨rfl, Hz.out⟩

set_option maxHeartbeats 4000000 in
set_option maxRecDepth 100000 in
theorem one_rest (F : Nat → Value) (next : Int) (ino kind : Nat → Int) (nm : Nat → ByteArray) (a c : Int) (s : ByteArray) (t : Nat) (nx p i b : Int) (w : World) (hg : ErrType w) (hF : CellsIs F next ino kind nm) (hl : ∀ k, k < 10 → (nm k).size ≤ 200) (hsz : s.size ≤ 200) (ht : t < 256) :
    Calls Tryd.prog 5 #[.agg (dirOf F), .agg #[.int .i64 a, .int .u8 c, .string s], .int .u8 (t : Int), .int .i64 nx, .agg #[.int .i64 p, .int .i64 i, .int .i64 b]] w fun e w' => e = .returned (.bool true) ∧ Below w.heap.size w w' := by
  have Hg := hid (errType_alloc (errType_alloc (errType_alloc hg (.cells (dirOf F) 41)) (.cells #[.int .i64 a, .int .u8 c, .string s] 23)) (.cells #[.int .i64 p, .int .i64 i, .int .i64 b] 25))
  have HF := hid hF
  have HrC := hid (((row_dirOf w F).alloc (.cells #[.int .i64 a, .int .u8 c, .string s] 23)).alloc (.cells #[.int .i64 p, .int .i64 i, .int .i64 b] 25))
  have e1 : (w.alloc (.cells (dirOf F) 41)).heap.size = w.heap.size + 1 := by simp
  have e2 : ((w.alloc (.cells (dirOf F) 41)).alloc (.cells #[.int .i64 a, .int .u8 c, .string s] 23)).heap.size = w.heap.size + 1 + 1 := by simp
  have rX := ((row3 (w.alloc (.cells (dirOf F) 41)) 23 (.int .i64 a) (.int .u8 c) (.string s) (fun j => if j = 0 then .int .i64 a else if j = 1 then .int .u8 c else .string s) rfl rfl rfl).alloc (.cells #[.int .i64 p, .int .i64 i, .int .i64 b] 25))
  have rG := (row3 ((w.alloc (.cells (dirOf F) 41)).alloc (.cells #[.int .i64 a, .int .u8 c, .string s] 23)) 25 (.int .i64 p) (.int .i64 i) (.int .i64 b) (fun j => if j = 0 then .int .i64 p else if j = 1 then .int .i64 i else .int .i64 b) rfl rfl rfl)
  rw [e1] at rX
  rw [e2] at rG
  have HrX := hid rX
  have HrG := hid rG
  have HB0 := hid (Below.alloc (Below.alloc (Below.alloc (Below.refl w.heap.size w) (Nat.le_refl _) (.cells (dirOf F) 41)) (by simp) (.cells #[.int .i64 a, .int .u8 c, .string s] 23)) (by simp; omega) (.cells #[.int .i64 p, .int .i64 i, .int .i64 b] 25))
  clear hg hF rX rG e1 e2
  go_enter Tryd.func5, Tryd.ntmps5
  go_wp2_with (refine wpList_load41 rfl 24 rfl (.tmp 5) rfl w.heap.size rfl F HrC.out ?_)
  refine (long_any (dirOf F) next ino kind nm _ HF.out.dir).mono ?_
  rintro e w1 ⟨he, hb⟩
  have Hb1 := hid (HB0.out.trans (hb.mono HB0.out.size))
  have HrC1 := hid (above_row hb HrC.out)
  have HrX1 := hid (above_row hb HrX.out)
  have HrG1 := hid (above_row hb HrG.out)
  have Hg1 := hid (errType_above Hg.out hb)
  have hs1 : w.heap.size + 1 + 1 < w1.heap.size := by have := hb.size; simp at this; omega
  have hX := three _ _ _ _ HrX1.out
  simp at hX
  clear hb
  rcases he with ⟨rfl, k, hk, h⟩ | ⟨rfl, -⟩
  · exact absurd (hl k hk) (by omega)
  have hsn : (s.size : Int) ≤ 200 := by omega
  clear hl hsz
  obtain ⟨q, eq⟩ : ∃ q, q = t % 10 := ⟨_, rfl⟩
  have hq : q < 10 := by omega
  have hqt : (t : Int) % 10 = (q : Int) := by omega
  have Hq := hid eq
  clear eq
  have ho := turned1_old w1 F q a c s
  have HrN := hid (turned1_row w1 F q a c s)
  have HrC3 := hid (above_row ho HrC1.out)
  have HrX3 := hid (above_row ho HrX1.out)
  have HrG3 := hid (above_row ho HrG1.out)
  have Hg3 := hid (errType_above Hg1.out ho)
  have Hb3 := hid (Hb1.out.trans (ho.mono Hb1.out.size))
  have Hs3 := turned1_size w1 F q a c s
  have HF3 : Hid (CellsIs (slotF F q a c s) next (upd ino q a) (upd kind q c) (upd nm q s)) := hid (HF.out.slot q a c s)
  clear ho
  go_wp2_with (first
    | refine wpList_load41 rfl 33 rfl (.tmp 5) rfl w.heap.size rfl F HrC1.out ?_
    | refine wpList_store_new (w := w1) rfl (.tmp 11) (.tmp 33) rfl _ (dirOf F) rfl rfl rfl ?hc (dirOf_size F) HF.out.one ?_
    | refine wpList_load3 rfl 38 rfl 23 (.tmp 6) rfl (w.heap.size + 1) rfl (fun j => if j = 0 then .int .i64 a else if j = 1 then .int .u8 c else .string s) _ Tryd.underlying23 rfl info23 (HrX1.out.alloc _) ?_
    | refine wpList_store_slot rfl (.tmp 40) (.tmp 38) rfl q a c s hq rfl rfl ?_
    | refine wpList_load41 rfl 42 rfl (.tmp 5) rfl w.heap.size rfl F HrC3.out ?_
    | refine wpList_load3 rfl 43 rfl 25 (.tmp 9) rfl (w.heap.size + 1 + 1) rfl (fun j => if j = 0 then .int .i64 p else if j = 1 then .int .i64 i else .int .i64 b) _ Tryd.underlying25 rfl info25 HrG3.out ?_)
  case hc => rw [dirOf_size]; rfl
  generalize turned1 w1 F q a c s = W3 at *
  generalize slotF F q a c s = F3 at *
  have hw1 : w1.heap.size < W3.heap.size := by omega
  clear hX HrC HrX HrG Hg HB0 HrC1 HrX1 HrG1 Hg1 Hb1 HrC3
  cases hbb : blockB next ino kind nm p i b
  · refine (block_no (dirOf F) next p i b ino kind nm _ HF.out.dir hbb).mono ?_
    rintro e w4 ⟨rfl, hb4⟩
    have HrN4 := hid (above_row hb4 HrN.out)
    have HrG4 := hid (above_row hb4 HrG3.out)
    have Hg4 := hid (errType_above Hg3.out hb4)
    have Hb4 := hid (Hb3.out.trans (hb4.mono Hb3.out.size))
    clear hb4
    go_wp2_with (first
      | refine wpList_load41 rfl 48 rfl (.tmp 11) rfl w1.heap.size rfl F3 HrN4.out ?_
      | refine wpList_load3 rfl 49 rfl 25 (.tmp 9) rfl (w.heap.size + 1 + 1) rfl (fun j => if j = 0 then .int .i64 p else if j = 1 then .int .i64 i else .int .i64 b) _ Tryd.underlying25 rfl info25 HrG4.out ?_)
    cases hcc : blockB next (upd ino q a) (upd kind q c) (upd nm q s) p i b
    · refine (block_no (dirOf F3) next p i b (upd ino q a) (upd kind q c) (upd nm q s) _ HF3.out.dir hcc).mono ?_
      rintro e w5 ⟨rfl, hb5⟩
      have Hg5 := hid (errType_above Hg4.out hb5)
      have Hb5 := hid (Hb4.out.trans (hb5.mono Hb4.out.size))
      clear hb5
      go_wp2_with fail
      refine (alive_any _ Hg5.out).mono ?_
      rintro e w6 ⟨rfl, hbz⟩
      have Hz := hid (Hb5.out.trans (hbz.mono Hb5.out.size))
      clear hbz
      go_wp2
      go_ret
      exact ⟨rfl, Hz.out⟩
    · refine (block_yes (dirOf F3) next p i b (upd ino q a) (upd kind q c) (upd nm q s) _ HF3.out.dir hcc).mono ?_
      rintro e w5 ⟨g2, cap2, R2, rfl, hg2, hc2, hR2, hf2, hb5⟩
      have Hg5 := hid (errType_above Hg4.out hb5)
      have Hb5 := hid (Hb4.out.trans (hb5.mono Hb4.out.size))
      clear hb5 hR2 hf2 hg2 hc2
      go_wp2_with fail
      refine (alive_any _ Hg5.out).mono ?_
      rintro e w6 ⟨rfl, hbz⟩
      have Hz := hid (Hb5.out.trans (hbz.mono Hb5.out.size))
      clear hbz
      go_wp2
      go_ret
      exact ⟨rfl, Hz.out⟩
  · refine (block_yes (dirOf F) next p i b ino kind nm _ HF.out.dir hbb).mono ?_
    rintro e w4 ⟨g1, cap1, R1, rfl, hg1, hc1, hR1, hf1, hb4⟩
    have HR14 := hid hR1
    have Hf1 := hid hf1
    have hg1' : W3.heap.size < g1 := hg1
    have hb4s := hb4.size
    have HrN4 := hid (above_row hb4 HrN.out)
    have HrG4 := hid (above_row hb4 HrG3.out)
    have HrX4 := hid (above_row hb4 HrX3.out)
    have Hg4 := hid (errType_above Hg3.out hb4)
    have Hb4 := hid (Hb3.out.trans (hb4.mono Hb3.out.size))
    clear hb4 hR1 hf1 hg1
    go_wp2_with (first
      | refine wpList_load41 rfl 48 rfl (.tmp 11) rfl w1.heap.size rfl F3 HrN4.out ?_
      | refine wpList_load3 rfl 49 rfl 25 (.tmp 9) rfl (w.heap.size + 1 + 1) rfl (fun j => if j = 0 then .int .i64 p else if j = 1 then .int .i64 i else .int .i64 b) _ Tryd.underlying25 rfl info25 HrG4.out ?_)
    cases hcc : blockB next (upd ino q a) (upd kind q c) (upd nm q s) p i b
    · refine (block_no (dirOf F3) next p i b (upd ino q a) (upd kind q c) (upd nm q s) _ HF3.out.dir hcc).mono ?_
      rintro e w5 ⟨rfl, hb5⟩
      have Hg5 := hid (errType_above Hg4.out hb5)
      have Hb5 := hid (Hb4.out.trans (hb5.mono Hb4.out.size))
      clear hb5
      go_wp2_with fail
      refine (alive_any _ Hg5.out).mono ?_
      rintro e w6 ⟨rfl, hbz⟩
      have Hz := hid (Hb5.out.trans (hbz.mono Hb5.out.size))
      clear hbz
      go_wp2
      go_ret
      exact ⟨rfl, Hz.out⟩
    · refine (block_yes (dirOf F3) next p i b (upd ino q a) (upd kind q c) (upd nm q s) _ HF3.out.dir hcc).mono ?_
      rintro e w5 ⟨g2, cap2, R2, rfl, hg2, hc2, hR2, hf2, hb5⟩
      have hg2' : w4.heap.size < g2 := hg2
      have hb5s := hb5.size
      have HRa5 := hid (above_row hb5 HR14.out)
      have HRb5 := hid hR2
      have Hf2 := hid hf2
      have HrN5 := hid (above_row hb5 HrN4.out)
      have HrG5 := hid (above_row hb5 HrG4.out)
      have HrX5 := hid (above_row hb5 HrX4.out)
      have Hg5 := hid (errType_above Hg4.out hb5)
      have Hb5 := hid (Hb4.out.trans (hb5.mono Hb4.out.size))
      clear hb5 hR2 hf2 hg2
      have hcc1 : ((gok p i b && decide (0 ≤ next)) && decide (next ≤ b)) = true ∧ ((List.range 10).all fun k => slotB (upd ino q a k) (upd kind q c k) (upd nm q s k).data.toList i) = true := by
        unfold blockB at hcc
        exact Bool.and_eq_true_iff.1 hcc
      have Hsl := hid (all_slots.1 hcc1.2)
      have hms : mayB a c s.data.toList p i b = true := by
        have h1 := Hsl.out q hq
        have h2 : gok p i b = true := by have := hcc1.1; simp at this; exact this.1.1
        simp [upd] at h1
        simp [mayB, h1, h2]
      have Hms := hid hms
      have Hgok : Hid (gok p i b = true) := by have := hcc1.1; simp at this; exact hid this.1.1
      clear hcc1 hms hbb hcc
      go_wp2_with (first
        | refine wpList_load3 rfl 71 rfl 23 (.tmp 6) rfl (w.heap.size + 1) rfl (fun j => if j = 0 then .int .i64 a else if j = 1 then .int .u8 c else .string s) _ Tryd.underlying23 rfl info23 HrX5.out ?_
        | refine wpList_load3 rfl 72 rfl 25 (.tmp 9) rfl (w.heap.size + 1 + 1) rfl (fun j => if j = 0 then .int .i64 p else if j = 1 then .int .i64 i else .int .i64 b) _ Tryd.underlying25 rfl info25 HrG5.out ?_)
      refine (encode_yes a c p i b s _ Hms.out).mono ?_
      rintro e w6 ⟨g3, rfl, hg3, hR3, hb6⟩
      have hb6s := hb6.size
      have hg2lt : g2 < w5.heap.size := HRb5.out.lt
      have HRc6 := hid hR3
      have HrN6 := hid (above_row hb6 HrN5.out)
      have HrG6 := hid (above_row hb6 HrG5.out)
      have HRa6 := hid (above_row hb6 HRa5.out)
      have HRb6 := hid (above_row hb6 HRb5.out)
      have Hg6 := hid (errType_above Hg5.out hb6)
      have Hb6 := hid (Hb5.out.trans (hb6.mono Hb5.out.size))
      clear hb6 hR3
      go_wp2_with fail
      go_loopw [19] (fun v wr => ∃ n : Nat, n ≤ 32 ∧ v = .int .i64 n ∧ Below w6.heap.size w6 wr) (fun v _ => 32 - (intOf v).toNat)
      case atStart => exact ⟨0, by omega, rfl, Below.refl _ _⟩
      case round =>
        obtain ⟨n, hn, rfl, hB⟩ := hrel
        have HB := hid hB
        have HrN7 := hid (above_row hB HrN6.out)
        have HrG7 := hid (above_row hB HrG6.out)
        have HRa7 := hid (above_row hB HRa6.out)
        have HRb7 := hid (above_row hB HRb6.out)
        have HRc7 := hid (above_row hB HRc6.out)
        have Hg7 := hid (errType_above Hg6.out hB)
        have Hb7 := hid (Hb6.out.trans (hB.mono Hb6.out.size))
        have hb7s := hB.size
        clear hB
        by_cases hlt : n < 32
        · have hlt' : (n : Int) < 32 := by omega
          by_cases hin : 2 + 3 * q ≤ n ∧ n < 5 + 3 * q
          · obtain ⟨r, er⟩ : ∃ r, r = n - (2 + 3 * q) := ⟨_, rfl⟩
            have hr3 : (r : Int) < 3 := by omega
            have hr : (n : Int) - 2 - 3 * (q : Int) = (r : Int) := by omega
            have hv2 : wr.cell? ⟨g2, n, none⟩ = some (.int .u64 (wordsF a c s.data.toList r : Nat)) := by
              rw [HRb7.out.cell (by omega), Hf2.out n hlt, blockF_upd_in _ _ _ _ q a c s n hq hin.1 hin.2, ← er]
            have hv3 : wr.cell? ⟨g3, r, none⟩ = some (.int .u64 (wordsF a c s.data.toList r : Nat)) := HRc7.out.cell (by omega)
            have hi1 : (2 : Int) + 3 * (q : Int) ≤ (n : Int) := by omega
            have hi2 : (n : Int) < 5 + 3 * (q : Int) := by omega
            clear hin er
            go_wp2
            go_quiet (fail)
            go_wp2
            go_roundw
            case rel => exact ⟨n + 1, by omega, by go_num, below_drewN HB.out _⟩
            case measure => simp [intOf]; omega
          · have hv2 : wr.cell? ⟨g2, n, none⟩ = some (.int .u64 (blockF next ino kind nm n : Nat)) := by
              rw [HRb7.out.cell (by omega), Hf2.out n hlt, blockF_upd_out _ _ _ _ q a c s n hlt hin]
            have hv1 : wr.cell? ⟨g1, n, none⟩ = some (.int .u64 (blockF next ino kind nm n : Nat)) := by
              rw [HRa7.out.cell (by omega), Hf1.out n hlt]
            by_cases hi1 : (2 : Int) + 3 * (q : Int) ≤ (n : Int)
            · have hi2 : ¬ ((n : Int) < 5 + 3 * (q : Int)) := by omega
              clear hin
              go_wp2
              go_quiet (fail)
              go_wp2
              go_roundw
              case rel => exact ⟨n + 1, by omega, by go_num, below_drewN HB.out _⟩
              case measure => simp [intOf]; omega
            · clear hin
              go_wp2
              go_quiet (fail)
              go_wp2
              go_roundw
              case rel => exact ⟨n + 1, by omega, by go_num, below_drewN HB.out _⟩
              case measure => simp [intOf]; omega
        · have hN0 : wr.cell? ⟨w1.heap.size, 0, none⟩ = some (.int .i64 next) := by rw [HrN7.out.cell (by omega), HF3.out.h0]
          have hN0f := HrN7.out.frozen 0
          have hNne : w1.heap.size ≠ w.heap.size + 1 + 1 := by omega
          have HrN8 := hid (HrN7.out.set 0 (.int .i64 nx))
          have HrG8 := hid (HrG7.out.setOther (a := ⟨w1.heap.size, 0, none⟩) (by simp; omega) (.int .i64 nx))
          have HRb8 := hid (HRb7.out.setOther (a := ⟨w1.heap.size, 0, none⟩) (by simp; omega) (.int .i64 nx))
          have Hg8 : Hid (ErrType (wr.setCell ⟨w1.heap.size, 0, none⟩ (.int .i64 nx))) := hid ((World.cell?_setCell_other wr ⟨w1.heap.size, 0, none⟩ ⟨0, 0, none⟩ _ (by simp <;> omega)).trans Hg7.out)
          have Hb8 := hid (Hb7.out.setCell (p := ⟨w1.heap.size, 0, none⟩) (by simp; omega) (.int .i64 nx))
          have HF4 := hid (HF3.out.turnNext nx)
          generalize (fun j => if j = 0 then Value.int .i64 nx else F3 j) = F4 at *
          go_wp2_with (first
            | refine wpList_load41 rfl 126 rfl (.tmp 11) rfl w1.heap.size rfl F4 HrN8.out ?_
            | refine wpList_load3 rfl 127 rfl 25 (.tmp 9) rfl (w.heap.size + 1 + 1) rfl (fun j => if j = 0 then .int .i64 p else if j = 1 then .int .i64 i else .int .i64 b) _ Tryd.underlying25 rfl info25 HrG8.out ?_)
          cases hh : (gok p i b && decide (0 ≤ nx)) && decide (nx ≤ b)
          · have hnb : blockB nx (upd ino q a) (upd kind q c) (upd nm q s) p i b = false := by unfold blockB; rw [hh]; rfl
            refine (block_no (dirOf F4) nx p i b (upd ino q a) (upd kind q c) (upd nm q s) _ HF4.out.dir hnb).mono ?_
            rintro e w9 ⟨rfl, hb9⟩
            have HrG9 := hid (above_row hb9 HrG8.out)
            have Hg9 := hid (errType_above Hg8.out hb9)
            have Hb9 := hid (Hb8.out.trans (hb9.mono Hb8.out.size))
            clear hb9
            go_wp2_with (refine wpList_load3 rfl 133 rfl 25 (.tmp 9) rfl (w.heap.size + 1 + 1) rfl (fun j => if j = 0 then .int .i64 p else if j = 1 then .int .i64 i else .int .i64 b) _ Tryd.underlying25 rfl info25 HrG9.out ?_)
            refine (head_no nx p i b _ hh).mono ?_
            rintro e w10 ⟨rfl, hb10⟩
            have Hg10 := hid (errType_above Hg9.out hb10)
            have Hb10 := hid (Hb9.out.trans (hb10.mono Hb9.out.size))
            clear hb10
            go_wp2_with fail
            refine (alive_any _ Hg10.out).mono ?_
            rintro e wz ⟨rfl, hbz⟩
            have Hz := hid (Hb10.out.trans (hbz.mono Hb10.out.size))
            clear hbz
            go_wp2
            go_ret
            exact ⟨rfl, Hz.out⟩
          · have hnb : blockB nx (upd ino q a) (upd kind q c) (upd nm q s) p i b = true := by unfold blockB; rw [hh, all_slots.2 Hsl.out]; rfl
            obtain ⟨N, hN⟩ : ∃ N, N = headN nx := ⟨_, rfl⟩
            have hH : ∀ W : World, Calls Tryd.prog 13 #[.int .i64 nx, .agg #[.int .i64 p, .int .i64 i, .int .i64 b]] W fun e w' => e = .returned (.tuple #[.int .u64 (N : Nat), .int .i64 0]) ∧ Below W.heap.size W w' := by
              subst hN
              exact fun W => head_yes nx p i b W hh
            have HH := hid hH
            have HN := hid hN
            clear hH hN
            refine (block_yes (dirOf F4) nx p i b (upd ino q a) (upd kind q c) (upd nm q s) _ HF4.out.dir hnb).mono ?_
            rintro e w9 ⟨g4, cap4, R4, rfl, hg4, hc4, hR4, hf4, hb9⟩
            have hg4' : wr.heap.size < g4 := by simpa using hg4
            have HRd9 := hid hR4
            have Hf4 := hid hf4
            have HrG9 := hid (above_row hb9 HrG8.out)
            have HRb9 := hid (above_row hb9 HRb8.out)
            have Hg9 := hid (errType_above Hg8.out hb9)
            have Hb9 := hid (Hb8.out.trans (hb9.mono Hb8.out.size))
            clear hb9 hR4 hf4 hg4
            go_wp2_with (refine wpList_load3 rfl 133 rfl 25 (.tmp 9) rfl (w.heap.size + 1 + 1) rfl (fun j => if j = 0 then .int .i64 p else if j = 1 then .int .i64 i else .int .i64 b) _ Tryd.underlying25 rfl info25 HrG9.out ?_)
            refine (HH.out _).mono ?_
            rintro e w10 ⟨rfl, hb10⟩
            have HRb10 := hid (above_row hb10 HRb9.out)
            have HRd10 := hid (above_row hb10 HRd9.out)
            have Hg10 := hid (errType_above Hg9.out hb10)
            have Hb10 := hid (Hb9.out.trans (hb10.mono Hb9.out.size))
            clear hb10
            have hbw10 : wr.heap.size ≤ w10.heap.size := by have := HRd10.out.lt; omega
            have hd0 : w10.cell? ⟨g4, 0, none⟩ = some (.int .u64 (N : Nat)) := by rw [HRd10.out.cell (by omega), Hf4.out 0 (by omega), blockF_0, HN.out]
            obtain ⟨M, hM⟩ : ∃ M, M = blockF next (upd ino q a) (upd kind q c) (upd nm q s) 0 := ⟨_, rfl⟩
            have hm0 : w10.cell? ⟨g2, 0, none⟩ = some (.int .u64 (M : Nat)) := by rw [HRb10.out.cell (by omega), Hf2.out 0 (by omega), hM]
            have hd0f := HRd10.out.frozen 0
            have HM := hid hM
            have hne : g2 ≠ g4 := by omega
            have HRd11 := hid (HRd10.out.set 0 (.int .u64 (M : Nat)))
            have HRb11 := hid (HRb10.out.setOther (a := ⟨g4, 0, none⟩) hne (.int .u64 (M : Nat)))
            have Hg11 : Hid (ErrType (w10.setCell ⟨g4, 0, none⟩ (.int .u64 (M : Nat)))) := hid ((World.cell?_setCell_other w10 ⟨g4, 0, none⟩ ⟨0, 0, none⟩ _ (by simp <;> omega)).trans Hg10.out)
            have Hb11 := hid (Hb10.out.setCell (p := ⟨g4, 0, none⟩) (by simp; omega) (.int .u64 (M : Nat)))
            have hc4' : (0 : Int) < (cap4 : Int) := by omega
            clear hM
            go_wp2_with fail
            have hsame := same_go ⟨g4, 0, none⟩ ⟨g2, 0, none⟩ 32 cap4 cap2 (fun j => (blockF next (upd ino q a) (upd kind q c) (upd nm q s) j : Nat)) (fun j => (blockF next (upd ino q a) (upd kind q c) (upd nm q s) j : Nat)) (w10.setCell ⟨g4, 0, none⟩ (.int .u64 (M : Nat))) (by omega)
              (fun j hj => by
                rw [Addr.add_mid, Nat.zero_add, HRd11.out.cell (by omega)]
                by_cases h0 : j = 0
                · subst h0; rw [if_pos rfl, HM.out]
                · rw [if_neg h0, Hf4.out j hj, blockF_next nx next _ _ _ j (by omega) hj])
              (fun j hj => by rw [Addr.add_mid, Nat.zero_add, HRb11.out.cell (by omega), Hf2.out j hj])
            rw [decide_eq_true (fun _ _ => rfl)] at hsame
            refine hsame.mono ?_
            rintro e w12 ⟨rfl, hb12⟩
            have Hg12 := hid (errType_above Hg11.out hb12)
            have Hb12 := hid (Hb11.out.trans (hb12.mono Hb11.out.size))
            clear hb12 hsame hd0 hm0
            go_wp2_with fail
            refine (alive_any _ Hg12.out).mono ?_
            rintro e wz ⟨rfl, hbz⟩
            have Hz := hid (Hb12.out.trans (hbz.mono Hb12.out.size))
            clear hbz
            go_wp2
            go_ret
            exact ⟨rfl, Hz.out⟩
end Go.Proofs.YtejapeafepcacaaDoor
