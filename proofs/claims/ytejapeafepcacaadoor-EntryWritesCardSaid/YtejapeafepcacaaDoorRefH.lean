/- The document's answer: what words are read as, as a block. -/
import Derived.Test.YtejapeafepcacaaDoorRefG
import Derived.Test.YtejapeafepcacaaDoorReadC
import Derived.Test.YtejapeafepcacaaDoorCopy
import Derived.StillTailTactics
import Derived.DataElems
namespace Go.Proofs.YtejapeafepcacaaDoor
open Go.RowKit
def faultV (r : Option (Nat × Int)) : Value := match r with
  | none => .agg #[.int .i64 0, .int .i64 0]
  | some (a, e) => .agg #[.int .i64 (a : Nat), .int .i64 e]
theorem results_two_cells {fn : Func} {a u : Tmp} {t t' : TypeId} (h : fn.results = #[.cell a t, .cell u t']) (tmps : Array Value) (P : Program) (w : World) (ad ad' : Addr) (v v' : Value) (ha : tmps.getD a undef = .pointer (some ad)) (hu : tmps.getD u undef = .pointer (some ad')) (hl : (loadVar t ad).run P w = .ok v w) (hl' : (loadVar t' ad').run P w = .ok v' w) :
    (results fn tmps).run P w = .ok (.tuple #[v, v']) w := by
  rw [Array.getD_eq_getD_getElem?] at ha hu
  simp [results, h, ha, hu, asAddr, hl, hl']
theorem run_fault (w : World) (B : Nat) (x y : Value) (F : Nat → Value) (h0 : F 0 = x) (h1 : F 1 = y) (hr : w.rowIs B 58 2 F) : (loadVar 58 ⟨B, 0, none⟩).run Tryd.prog w = .ok (.agg #[x, y]) w := by
  have := run_loadVar_mid (P := Tryd.prog) w B 0 58 [x, y] _ (fun j v hj => by
    rw [Nat.zero_add]
    match j, hj with
    | 0, hj => rw [← Option.some.inj hj, ← h0]; exact hr.cell (by omega)
    | 1, hj => rw [← Option.some.inj hj, ← h1]; exact hr.cell (by omega)) Tryd.underlying58 rfl (by kernel_rfl)
  exact this
theorem row_pair (W : World) (t : TypeId) (a b : Value) (F : Nat → Value) (h0 : F 0 = a) (h1 : F 1 = b) : (W.alloc (.cells #[a, b] t)).rowIs W.heap.size t 2 F :=
  World.rowIs_alloc W #[a, b] t F (fun i hi => match i, hi with
    | 0, _ => by rw [h0]; rfl
    | 1, _ => by rw [h1]; rfl)
theorem info58 : (Tryd.prog.info? 58).map (·.size) = some 2 := by kernel_rfl
theorem wp_store58 {op : Oper} {a : Act} {w : World} {K : Act → World → Prop} {Q : Exit → Act → World → Prop} (x y : Operand) (ho : op.op = .store 58 x y) (B : Nat) (G : Nat → Value) (u v : Value) (hr : w.rowIs B 58 2 G)
    (hx : a.eval x = .pointer (some ⟨B, 0, none⟩)) (hy : a.eval y = .agg #[u, v]) (h1 : (#[u, v] : Array Value).all (·.oneCell') = true) (h : K (a.put op.dst undef) (w.setRow B #[u, v])) : op.wp Tryd.prog a w K Q := by
  obtain ⟨c, hg, hsz, -⟩ := hr
  have hrun := run_storeVar_row (P := Tryd.prog) w B 58 58 c #[u, v] hg info58 (by rw [hsz]; rfl) h1
  unfold Oper.wp execOp
  simp only [ho, hx, hy, Instr.storeAt, Instr.sureAddr, Sem.run_bind, Sem.run_pure, Result.andThen_ok, hrun]
  exact h
theorem wpList_store58 {ops : Array Oper} {rest : List Oper} {op : Oper} {a : Act} {w : World} {Q : Exit → Act → World → Prop} (hgd : op.guard = none) (x y : Operand) (ho : op.op = .store 58 x y) (B : Nat) (G : Nat → Value) (u v : Value) (hr : w.rowIs B 58 2 G)
    (hx : a.eval x = .pointer (some ⟨B, 0, none⟩)) (hy : a.eval y = .agg #[u, v]) (h1 : (#[u, v] : Array Value).all (·.oneCell') = true) (h : wpList Tryd.prog ops Q rest (a.put op.dst undef) (w.setRow B #[u, v])) : wpList Tryd.prog ops Q (op :: rest) a w :=
  wpList_plain hgd fun _ hK => wp_store58 x y ho B G u v hr hx hy h1 (hK _ _ h)
theorem setRow_pair {w : World} {B : Nat} {G : Nat → Value} (u v : Value) (hr : w.rowIs B 58 2 G) : (w.setRow B #[u, v]).rowIs B 58 2 (fun j => if j = 0 then u else v) := by
  obtain ⟨c, hg, hsz, -⟩ := hr
  exact ⟨#[u, v], by simp [World.setRow, Array.getElem?_modify, hg], rfl, fun i hi => match i, hi with
    | 0, _ => rfl
    | 1, _ => rfl⟩
def nF (n : Int) (j : Nat) : Value := if j = 0 then .int .i64 n else zF j
theorem next_lit (n : Int) : (#[.int .i64 n, .int .i64 0, .int .u8 0, .string ⟨#[]⟩, .int .i64 0, .int .u8 0, .string ⟨#[]⟩, .int .i64 0, .int .u8 0, .string ⟨#[]⟩, .int .i64 0, .int .u8 0, .string ⟨#[]⟩, .int .i64 0, .int .u8 0, .string ⟨#[]⟩, .int .i64 0, .int .u8 0, .string ⟨#[]⟩, .int .i64 0, .int .u8 0, .string ⟨#[]⟩, .int .i64 0, .int .u8 0, .string ⟨#[]⟩, .int .i64 0, .int .u8 0, .string ⟨#[]⟩, .int .i64 0, .int .u8 0, .string ⟨#[]⟩] : Array Value) = dirOf (nF n) := by rfl
theorem nF_is (n : Int) : CellsIs (nF n) n (fun _ => 0) (fun _ => 0) (fun _ => ⟨#[]⟩) := zF_is.turnNext n
theorem rdec_two (ad : Addr) (o : Nat) (f : Nat → Nat) (k : Nat) (p i b : Int) (h : gok p i b = true) (hf : ∀ k, f k < 18446744073709551616) : ∃ (x0 x1 : Int) (xs : ByteArray) (y : Bool),
    ((decB (slotAt f k) i = true ∧ x0 = rIno f k ∧ x1 = rKind f k ∧ xs = rNm f k ∧ y = true) ∨ (decB (slotAt f k) i = false ∧ y = false)) ∧
    ∀ (W : World) (cp : Nat), ad.block < W.heap.size → 3 ≤ cp → (∀ r, r < 3 → W.cell? (ad.add (o + r)) = some (.int .u64 (slotAt f k r : Nat))) →
      Calls Tryd.prog 23 #[.slice (some (ad.add o)) 3 cp, .agg #[.int .i64 p, .int .i64 i, .int .i64 b]] W fun e w' => e = .returned (.tuple #[.agg #[.int .i64 x0, .int .u8 x1, .string xs], .bool y]) ∧ Below W.heap.size W w' := by
  have hr : ∀ (W : World) (cp : Nat), ad.block < W.heap.size → 3 ≤ cp → (∀ r, r < 3 → W.cell? (ad.add (o + r)) = some (.int .u64 (slotAt f k r : Nat))) → _ := fun W cp hg hc hcell =>
    rdec_three (ad.add o) cp (slotAt f k) p i b W h hc (by rw [block_of_add]; exact hg) (fun r => hf _) (fun r hr => by rw [Addr.add_add]; exact hcell r hr)
  cases hd : decB (slotAt f k) i
  · refine ⟨0, 0, ⟨#[]⟩, false, .inr ⟨rfl, rfl⟩, fun W cp hg hc hcell => (hr W cp hg hc hcell).mono fun e w' hx => ⟨hx.1.trans ?_, hx.2⟩⟩
    unfold decSlot decOk
    rw [if_neg (by simp [hd]), hd]
    rfl
  · refine ⟨_, _, _, _, .inl ⟨rfl, rfl, rfl, rfl, rfl⟩, fun W cp hg hc hcell => (hr W cp hg hc hcell).mono fun e w' hx => ⟨hx.1.trans ?_, hx.2⟩⟩
    unfold decSlot decOk
    rw [if_pos ⟨rfl, hd⟩, hd]
    rfl
attribute [local irreducible] dirOf

set_option maxHeartbeats 1000000 in
set_option maxRecDepth 100000 in
theorem rread_geom (A : Option Addr) (m cap : Nat) (p i b : Int) (w : World) (h : gok p i b = false) :
    Calls Tryd.prog 24 #[.slice A m cap, .agg #[.int .i64 p, .int .i64 i, .int .i64 b]] w fun e w' => e = .returned (.tuple #[.agg (dirOf zF), .agg #[.int .i64 0, .int .i64 2]]) ∧ Below w.heap.size w w' := by
  go_enter Tryd.func24, Tryd.ntmps24
  go_wp2_with fail
  rw [zero_lit]
  refine (rgeom_any p i b _).mono ?_
  rintro e w1 ⟨rfl, hb⟩
  have hB := ((((Below.refl w.heap.size w).alloc (Nat.le_refl _) (.cells #[.int .i64 p, .int .i64 i, .int .i64 b] 25)).alloc (by simp) (.cells (dirOf zF) 41)).alloc (by simp; omega) (.cells #[.int .i64 0, .int .i64 0] 58)).trans (hb.mono (by simp; omega))
  have rZ := (row_dirOf (w.alloc (.cells #[.int .i64 p, .int .i64 i, .int .i64 b] 25)) zF).alloc (.cells #[.int .i64 0, .int .i64 0] 58)
  rw [show (w.alloc (.cells #[.int .i64 p, .int .i64 i, .int .i64 b] 25)).heap.size = w.heap.size + 1 by simp] at rZ
  have HrZ := hid (above_row hb rZ)
  have rG := ((row3 w 25 (.int .i64 p) (.int .i64 i) (.int .i64 b) (fun j => if j = 0 then .int .i64 p else if j = 1 then .int .i64 i else .int .i64 b) rfl rfl rfl).alloc (.cells (dirOf zF) 41)).alloc (.cells #[.int .i64 0, .int .i64 0] 58)
  have HrG := hid (above_row hb rG)
  have rT := row_pair ((w.alloc (.cells #[.int .i64 p, .int .i64 i, .int .i64 b] 25)).alloc (.cells (dirOf zF) 41)) 58 (.int .i64 0) (.int .i64 0) (fun _ => .int .i64 0) rfl rfl
  rw [show ((w.alloc (.cells #[.int .i64 p, .int .i64 i, .int .i64 b] 25)).alloc (.cells (dirOf zF) 41)).heap.size = w.heap.size + 2 by simp] at rT
  have HrT := hid (above_row hb rT)
  have HB := hid hB
  have hs1 : w.heap.size + 2 < w1.heap.size := by have := hb.size; simp at this; omega
  clear hb hB rZ rG rT
  rw [h]
  go_wp2_with (first
    | refine wpList_store41 rfl (.tmp 4) (.tmp 13) rfl (w.heap.size + 1) zF zF HrZ.out rfl (by rw [← zero_lit]; rfl) zF_is.one ?_
    | refine wpList_store58 rfl (.tmp 5) (.tmp 14) rfl (w.heap.size + 2) (fun _ => .int .i64 0) (.int .i64 0) (.int .i64 2) (setRow_far (dirOf zF) HrT.out (show w.heap.size + 2 ≠ w.heap.size + 1 by omega)) rfl rfl (by simp [Value.oneCell']) ?_)
  have hl := run_block _ _ _ (setRow_far (g := w.heap.size + 1) (B := w.heap.size + 2) #[.int .i64 0, .int .i64 2] (setRow_row zF HrZ.out) (show w.heap.size + 1 ≠ w.heap.size + 2 by omega))
  have hl' := run_fault _ _ (.int .i64 0) (.int .i64 2) _ rfl rfl (setRow_pair (.int .i64 0) (.int .i64 2) (setRow_far (dirOf zF) HrT.out (show w.heap.size + 2 ≠ w.heap.size + 1 by omega)))
  try rw [Exit.noGoto_ret]
  refine bodyPost_ret (v := .tuple #[.agg (dirOf zF), .agg #[.int .i64 0, .int .i64 2]]) ?_ rfl ⟨rfl, ?_⟩
  · exact results_two_cells Tryd.results24 _ Tryd.prog _ _ _ _ _ rfl rfl hl hl'
  · exact (HB.out.trans (setRow_below (b := w.heap.size) (B := w.heap.size + 1) (by omega) _)).trans (setRow_below (b := w.heap.size) (B := w.heap.size + 2) (by omega) _)

set_option maxHeartbeats 1000000 in
set_option maxRecDepth 100000 in
theorem rread_len (A : Option Addr) (m cap : Nat) (p i b : Int) (w : World) (h : gok p i b = true) (hm : m ≠ 32) :
    Calls Tryd.prog 24 #[.slice A m cap, .agg #[.int .i64 p, .int .i64 i, .int .i64 b]] w fun e w' => e = .returned (.tuple #[.agg (dirOf zF), .agg #[.int .i64 0, .int .i64 7]]) ∧ Below w.heap.size w w' := by
  have hm' : ((m : Int) != 32) = true := by rw [bne_iff_ne]; omega
  go_enter Tryd.func24, Tryd.ntmps24
  go_wp2_with fail
  rw [zero_lit]
  refine (rgeom_any p i b _).mono ?_
  rintro e w1 ⟨rfl, hb⟩
  have hB := ((((Below.refl w.heap.size w).alloc (Nat.le_refl _) (.cells #[.int .i64 p, .int .i64 i, .int .i64 b] 25)).alloc (by simp) (.cells (dirOf zF) 41)).alloc (by simp; omega) (.cells #[.int .i64 0, .int .i64 0] 58)).trans (hb.mono (by simp; omega))
  have rZ := (row_dirOf (w.alloc (.cells #[.int .i64 p, .int .i64 i, .int .i64 b] 25)) zF).alloc (.cells #[.int .i64 0, .int .i64 0] 58)
  rw [show (w.alloc (.cells #[.int .i64 p, .int .i64 i, .int .i64 b] 25)).heap.size = w.heap.size + 1 by simp] at rZ
  have HrZ := hid (above_row hb rZ)
  have rG := ((row3 w 25 (.int .i64 p) (.int .i64 i) (.int .i64 b) (fun j => if j = 0 then .int .i64 p else if j = 1 then .int .i64 i else .int .i64 b) rfl rfl rfl).alloc (.cells (dirOf zF) 41)).alloc (.cells #[.int .i64 0, .int .i64 0] 58)
  have HrG := hid (above_row hb rG)
  have rT := row_pair ((w.alloc (.cells #[.int .i64 p, .int .i64 i, .int .i64 b] 25)).alloc (.cells (dirOf zF) 41)) 58 (.int .i64 0) (.int .i64 0) (fun _ => .int .i64 0) rfl rfl
  rw [show ((w.alloc (.cells #[.int .i64 p, .int .i64 i, .int .i64 b] 25)).alloc (.cells (dirOf zF) 41)).heap.size = w.heap.size + 2 by simp] at rT
  have HrT := hid (above_row hb rT)
  have HB := hid hB
  have hs1 : w.heap.size + 2 < w1.heap.size := by have := hb.size; simp at this; omega
  clear hb hB rZ rG rT
  rw [h]
  go_wp2_with fail
  go_quiet (fail)
  have bq := below_drewN (Below.refl w1.heap.size w1) nq
  have HrZ := hid (above_row bq HrZ.out)
  have HrT := hid (above_row bq HrT.out)
  have HrG := hid (above_row bq HrG.out)
  have HB := hid (HB.out.trans (bq.mono HB.out.size))
  clear bq
  generalize w1.drewN nq = w1 at *
  go_wp2_with (first
    | refine wpList_store41 rfl (.tmp 4) (.tmp 40) rfl (w.heap.size + 1) zF zF HrZ.out rfl (by rw [← zero_lit]; rfl) zF_is.one ?_
    | refine wpList_store58 rfl (.tmp 5) (.tmp 41) rfl (w.heap.size + 2) (fun _ => .int .i64 0) (.int .i64 0) (.int .i64 7) (setRow_far (dirOf zF) HrT.out (show w.heap.size + 2 ≠ w.heap.size + 1 by omega)) rfl rfl (by simp [Value.oneCell']) ?_)
  have hl := run_block _ _ _ (setRow_far (g := w.heap.size + 1) (B := w.heap.size + 2) #[.int .i64 0, .int .i64 7] (setRow_row zF HrZ.out) (show w.heap.size + 1 ≠ w.heap.size + 2 by omega))
  have hl' := run_fault _ _ (.int .i64 0) (.int .i64 7) _ rfl rfl (setRow_pair (.int .i64 0) (.int .i64 7) (setRow_far (dirOf zF) HrT.out (show w.heap.size + 2 ≠ w.heap.size + 1 by omega)))
  try rw [Exit.noGoto_ret]
  refine bodyPost_ret (v := .tuple #[.agg (dirOf zF), .agg #[.int .i64 0, .int .i64 7]]) ?_ rfl ⟨rfl, ?_⟩
  · exact results_two_cells Tryd.results24 _ Tryd.prog _ _ _ _ _ rfl rfl hl hl'
  · exact (HB.out.trans (setRow_below (b := w.heap.size) (B := w.heap.size + 1) (by omega) _)).trans (setRow_below (b := w.heap.size) (B := w.heap.size + 2) (by omega) _)

set_option maxHeartbeats 1000000 in
set_option maxRecDepth 100000 in
theorem rread_next (ad : Addr) (cap : Nat) (f : Nat → Nat) (p i b : Int) (w : World) (h : gok p i b = true) (hlt : ad.block < w.heap.size) (hf : ∀ k, f k < 18446744073709551616) (hcell : ∀ k, k < 32 → w.cell? (ad.add k) = some (.int .u64 (f k : Nat))) (hn : b < (f 0 % 4294967296 : Nat)) :
    Calls Tryd.prog 24 #[.slice (some ad) 32 cap, .agg #[.int .i64 p, .int .i64 i, .int .i64 b]] w fun e w' => e = .returned (.tuple #[.agg (dirOf zF), .agg #[.int .i64 0, .int .i64 7]]) ∧ Below w.heap.size w w' := by
  go_enter Tryd.func24, Tryd.ntmps24
  go_wp2_with fail
  rw [zero_lit]
  refine (rgeom_any p i b _).mono ?_
  rintro e w1 ⟨rfl, hb⟩
  have hB := ((((Below.refl w.heap.size w).alloc (Nat.le_refl _) (.cells #[.int .i64 p, .int .i64 i, .int .i64 b] 25)).alloc (by simp) (.cells (dirOf zF) 41)).alloc (by simp; omega) (.cells #[.int .i64 0, .int .i64 0] 58)).trans (hb.mono (by simp; omega))
  have rZ := (row_dirOf (w.alloc (.cells #[.int .i64 p, .int .i64 i, .int .i64 b] 25)) zF).alloc (.cells #[.int .i64 0, .int .i64 0] 58)
  rw [show (w.alloc (.cells #[.int .i64 p, .int .i64 i, .int .i64 b] 25)).heap.size = w.heap.size + 1 by simp] at rZ
  have HrZ := hid (above_row hb rZ)
  have rG := ((row3 w 25 (.int .i64 p) (.int .i64 i) (.int .i64 b) (fun j => if j = 0 then .int .i64 p else if j = 1 then .int .i64 i else .int .i64 b) rfl rfl rfl).alloc (.cells (dirOf zF) 41)).alloc (.cells #[.int .i64 0, .int .i64 0] 58)
  have HrG := hid (above_row hb rG)
  have rT := row_pair ((w.alloc (.cells #[.int .i64 p, .int .i64 i, .int .i64 b] 25)).alloc (.cells (dirOf zF) 41)) 58 (.int .i64 0) (.int .i64 0) (fun _ => .int .i64 0) rfl rfl
  rw [show ((w.alloc (.cells #[.int .i64 p, .int .i64 i, .int .i64 b] 25)).alloc (.cells (dirOf zF) 41)).heap.size = w.heap.size + 2 by simp] at rT
  have HrT := hid (above_row hb rT)
  have HB := hid hB
  have hs1 : w.heap.size + 2 < w1.heap.size := by have := hb.size; simp at this; omega
  clear hb hB rZ rG rT
  have Hf := hid hf
  have Hcell := hid fun (k : Nat) (hk : k < 32) => (HB.out.cell (p := ad.add k) (by rw [block_of_add]; exact hlt)).trans (hcell k hk)
  clear hf hcell
  have c0 : w1.cell? ad = some (.int .u64 (f 0 : Nat)) := Hcell.out 0 (by omega)
  have c1 := Hcell.out 1 (by omega)
  rw [add_lit ad 1 (by omega)] at c1
  have gG := three _ _ _ _ HrG.out
  simp at gG
  have hb1 : 4 ≤ b ∧ b ≤ 255 := (gok_iff.1 h).2.2.2.2
  have hbw : IntKind.u64.wrap b = b := by rw [IntKind.wrap_u64]; omega
  have hf0 := Hf.out 0
  obtain ⟨rr, hrr⟩ : ∃ rr : Int, (f 0 : Int).tmod 4294967296 = rr := ⟨_, rfl⟩
  have hn' : b < rr := by rw [← hrr, Int.tmod_eq_emod_of_nonneg (by omega)]; omega
  clear hn
  rw [h]
  go_wp2_with fail
  go_quiet (fail)
  have bq := below_drewN (Below.refl w1.heap.size w1) nq
  have HrZ := hid (above_row bq HrZ.out)
  have HrT := hid (above_row bq HrT.out)
  have HrG := hid (above_row bq HrG.out)
  have HB := hid (HB.out.trans (bq.mono HB.out.size))
  have c0 := above bq c0
  have c1 := above bq c1
  have Hcell := hid fun (k : Nat) (hk : k < 32) => above bq (Hcell.out k hk)
  clear bq
  have hs1 : w.heap.size + 2 < (w1.drewN nq).heap.size := hs1
  generalize w1.drewN nq = w1 at *
  go_wp2_with (first
    | refine wpList_store41 rfl (.tmp 4) (.tmp 40) rfl (w.heap.size + 1) zF zF HrZ.out rfl (by rw [← zero_lit]; rfl) zF_is.one ?_
    | refine wpList_store58 rfl (.tmp 5) (.tmp 41) rfl (w.heap.size + 2) (fun _ => .int .i64 0) (.int .i64 0) (.int .i64 7) (setRow_far (dirOf zF) HrT.out (show w.heap.size + 2 ≠ w.heap.size + 1 by omega)) rfl rfl (by simp [Value.oneCell']) ?_)
  have hl := run_block _ _ _ (setRow_far (g := w.heap.size + 1) (B := w.heap.size + 2) #[.int .i64 0, .int .i64 7] (setRow_row zF HrZ.out) (show w.heap.size + 1 ≠ w.heap.size + 2 by omega))
  have hl' := run_fault _ _ (.int .i64 0) (.int .i64 7) _ rfl rfl (setRow_pair (.int .i64 0) (.int .i64 7) (setRow_far (dirOf zF) HrT.out (show w.heap.size + 2 ≠ w.heap.size + 1 by omega)))
  try rw [Exit.noGoto_ret]
  refine bodyPost_ret (v := .tuple #[.agg (dirOf zF), .agg #[.int .i64 0, .int .i64 7]]) ?_ rfl ⟨rfl, ?_⟩
  · exact results_two_cells Tryd.results24 _ Tryd.prog _ _ _ _ _ rfl rfl hl hl'
  · exact (HB.out.trans (setRow_below (b := w.heap.size) (B := w.heap.size + 1) (by omega) _)).trans (setRow_below (b := w.heap.size) (B := w.heap.size + 2) (by omega) _)

set_option maxHeartbeats 1000000 in
set_option maxRecDepth 100000 in
theorem rread_mark (ad : Addr) (cap : Nat) (f : Nat → Nat) (p i b : Int) (w : World) (h : gok p i b = true) (hlt : ad.block < w.heap.size) (hf : ∀ k, f k < 18446744073709551616) (hcell : ∀ k, k < 32 → w.cell? (ad.add k) = some (.int .u64 (f k : Nat))) (hn : (f 0 % 4294967296 : Nat) ≤ b) (hh : f 0 / 4294967296 ≠ 1145655857) :
    Calls Tryd.prog 24 #[.slice (some ad) 32 cap, .agg #[.int .i64 p, .int .i64 i, .int .i64 b]] w fun e w' => e = .returned (.tuple #[.agg (dirOf zF), .agg #[.int .i64 0, .int .i64 7]]) ∧ Below w.heap.size w w' := by
  go_enter Tryd.func24, Tryd.ntmps24
  go_wp2_with fail
  rw [zero_lit]
  refine (rgeom_any p i b _).mono ?_
  rintro e w1 ⟨rfl, hb⟩
  have hB := ((((Below.refl w.heap.size w).alloc (Nat.le_refl _) (.cells #[.int .i64 p, .int .i64 i, .int .i64 b] 25)).alloc (by simp) (.cells (dirOf zF) 41)).alloc (by simp; omega) (.cells #[.int .i64 0, .int .i64 0] 58)).trans (hb.mono (by simp; omega))
  have rZ := (row_dirOf (w.alloc (.cells #[.int .i64 p, .int .i64 i, .int .i64 b] 25)) zF).alloc (.cells #[.int .i64 0, .int .i64 0] 58)
  rw [show (w.alloc (.cells #[.int .i64 p, .int .i64 i, .int .i64 b] 25)).heap.size = w.heap.size + 1 by simp] at rZ
  have HrZ := hid (above_row hb rZ)
  have rG := ((row3 w 25 (.int .i64 p) (.int .i64 i) (.int .i64 b) (fun j => if j = 0 then .int .i64 p else if j = 1 then .int .i64 i else .int .i64 b) rfl rfl rfl).alloc (.cells (dirOf zF) 41)).alloc (.cells #[.int .i64 0, .int .i64 0] 58)
  have HrG := hid (above_row hb rG)
  have rT := row_pair ((w.alloc (.cells #[.int .i64 p, .int .i64 i, .int .i64 b] 25)).alloc (.cells (dirOf zF) 41)) 58 (.int .i64 0) (.int .i64 0) (fun _ => .int .i64 0) rfl rfl
  rw [show ((w.alloc (.cells #[.int .i64 p, .int .i64 i, .int .i64 b] 25)).alloc (.cells (dirOf zF) 41)).heap.size = w.heap.size + 2 by simp] at rT
  have HrT := hid (above_row hb rT)
  have HB := hid hB
  have hs1 : w.heap.size + 2 < w1.heap.size := by have := hb.size; simp at this; omega
  clear hb hB rZ rG rT
  have Hf := hid hf
  have Hcell := hid fun (k : Nat) (hk : k < 32) => (HB.out.cell (p := ad.add k) (by rw [block_of_add]; exact hlt)).trans (hcell k hk)
  clear hf hcell
  have c0 : w1.cell? ad = some (.int .u64 (f 0 : Nat)) := Hcell.out 0 (by omega)
  have c1 := Hcell.out 1 (by omega)
  rw [add_lit ad 1 (by omega)] at c1
  have gG := three _ _ _ _ HrG.out
  simp at gG
  have hb1 : 4 ≤ b ∧ b ≤ 255 := (gok_iff.1 h).2.2.2.2
  have hbw : IntKind.u64.wrap b = b := by rw [IntKind.wrap_u64]; omega
  have hf0 := Hf.out 0
  have hn8 : f 0 % 4294967296 = f 0 % 256 := by omega
  obtain ⟨nx, hnx⟩ : ∃ nx, nx = f 0 % 256 := ⟨_, rfl⟩
  have hnx' : ((f 0 : Int) % 256) = (nx : Nat) := by omega
  have e1 : IntKind.i64.wrap ((f 0 : Int).tmod 256) = (nx : Nat) := by rw [Int.tmod_eq_emod_of_nonneg (by omega), Go.IntWalk.i64_in _ (by omega)]; exact hnx'
  have e2 : (f 0 : Int).tmod 4294967296 = (nx : Nat) := by rw [Int.tmod_eq_emod_of_nonneg (by omega)]; omega
  have hnb : ¬ b < (nx : Int) := by omega
  have HH := hid fun W => rhead_any (nx : Int) (by omega) (by omega) W
  have hhd : headN (nx : Int) = nx + 4294967296 * 1145655857 := by unfold headN; omega
  obtain ⟨hd, hhd'⟩ : ∃ hd, hd = headN (nx : Int) := ⟨_, rfl⟩
  rw [← hhd'] at HH hhd
  have hne : ((f 0 : Int) != (hd : Int)) = true := by rw [bne_iff_ne]; omega
  have Hnx := hid hnx
  have Hhd := hid hhd
  clear hn8 hnx hnx' hhd hhd' hn hh
  rw [h]
  go_wp2_with fail
  refine wp_region_quiet_lit (by kernel_rfl) (by kernel_rfl) ?_
  repeat (quiet_step (fail))
  refine wpQuiet_step (fun K hK => ?_)
  go_simp
  apply Exists.intro
  refine ⟨fun _ => ?_, hK _ ?_⟩
  · refine Calls.quiet_of_same (v := .int .u64 (hd : Nat)) ?_
    refine (HH.out _).mono ?_
    rintro e w' ⟨rfl, rfl⟩
    exact ⟨rfl, rfl⟩
  clear hK K
  repeat (quiet_step (fail))
  refine wpQuiet_nil ?_
  intro _ hw'
  obtain ⟨nq, hw''⟩ := hw'
  subst hw''
  have bq := below_drewN (Below.refl w1.heap.size w1) nq
  have HrZ := hid (above_row bq HrZ.out)
  have HrT := hid (above_row bq HrT.out)
  have HrG := hid (above_row bq HrG.out)
  have HB := hid (HB.out.trans (bq.mono HB.out.size))
  have c0 := above bq c0
  have c1 := above bq c1
  have Hcell := hid fun (k : Nat) (hk : k < 32) => above bq (Hcell.out k hk)
  clear bq
  have hs1 : w.heap.size + 2 < (w1.drewN nq).heap.size := hs1
  generalize w1.drewN nq = w1 at *
  go_wp2_with (first
    | refine wpList_store41 rfl (.tmp 4) (.tmp 40) rfl (w.heap.size + 1) zF zF HrZ.out rfl (by rw [← zero_lit]; rfl) zF_is.one ?_
    | refine wpList_store58 rfl (.tmp 5) (.tmp 41) rfl (w.heap.size + 2) (fun _ => .int .i64 0) (.int .i64 0) (.int .i64 7) (setRow_far (dirOf zF) HrT.out (show w.heap.size + 2 ≠ w.heap.size + 1 by omega)) rfl rfl (by simp [Value.oneCell']) ?_)
  have hl := run_block _ _ _ (setRow_far (g := w.heap.size + 1) (B := w.heap.size + 2) #[.int .i64 0, .int .i64 7] (setRow_row zF HrZ.out) (show w.heap.size + 1 ≠ w.heap.size + 2 by omega))
  have hl' := run_fault _ _ (.int .i64 0) (.int .i64 7) _ rfl rfl (setRow_pair (.int .i64 0) (.int .i64 7) (setRow_far (dirOf zF) HrT.out (show w.heap.size + 2 ≠ w.heap.size + 1 by omega)))
  try rw [Exit.noGoto_ret]
  refine bodyPost_ret (v := .tuple #[.agg (dirOf zF), .agg #[.int .i64 0, .int .i64 7]]) ?_ rfl ⟨rfl, ?_⟩
  · exact results_two_cells Tryd.results24 _ Tryd.prog _ _ _ _ _ rfl rfl hl hl'
  · exact (HB.out.trans (setRow_below (b := w.heap.size) (B := w.heap.size + 1) (by omega) _)).trans (setRow_below (b := w.heap.size) (B := w.heap.size + 2) (by omega) _)

set_option maxHeartbeats 1000000 in
set_option maxRecDepth 100000 in
theorem rread_one (ad : Addr) (cap : Nat) (f : Nat → Nat) (p i b : Int) (w : World) (h : gok p i b = true) (hlt : ad.block < w.heap.size) (hf : ∀ k, f k < 18446744073709551616) (hcell : ∀ k, k < 32 → w.cell? (ad.add k) = some (.int .u64 (f k : Nat))) (hn : (f 0 % 4294967296 : Nat) ≤ b) (hh : f 0 / 4294967296 = 1145655857) (h1 : f 1 ≠ 0) :
    Calls Tryd.prog 24 #[.slice (some ad) 32 cap, .agg #[.int .i64 p, .int .i64 i, .int .i64 b]] w fun e w' => e = .returned (.tuple #[.agg (dirOf zF), .agg #[.int .i64 1, .int .i64 7]]) ∧ Below w.heap.size w w' := by
  go_enter Tryd.func24, Tryd.ntmps24
  go_wp2_with fail
  rw [zero_lit]
  refine (rgeom_any p i b _).mono ?_
  rintro e w1 ⟨rfl, hb⟩
  have hB := ((((Below.refl w.heap.size w).alloc (Nat.le_refl _) (.cells #[.int .i64 p, .int .i64 i, .int .i64 b] 25)).alloc (by simp) (.cells (dirOf zF) 41)).alloc (by simp; omega) (.cells #[.int .i64 0, .int .i64 0] 58)).trans (hb.mono (by simp; omega))
  have rZ := (row_dirOf (w.alloc (.cells #[.int .i64 p, .int .i64 i, .int .i64 b] 25)) zF).alloc (.cells #[.int .i64 0, .int .i64 0] 58)
  rw [show (w.alloc (.cells #[.int .i64 p, .int .i64 i, .int .i64 b] 25)).heap.size = w.heap.size + 1 by simp] at rZ
  have HrZ := hid (above_row hb rZ)
  have rG := ((row3 w 25 (.int .i64 p) (.int .i64 i) (.int .i64 b) (fun j => if j = 0 then .int .i64 p else if j = 1 then .int .i64 i else .int .i64 b) rfl rfl rfl).alloc (.cells (dirOf zF) 41)).alloc (.cells #[.int .i64 0, .int .i64 0] 58)
  have HrG := hid (above_row hb rG)
  have rT := row_pair ((w.alloc (.cells #[.int .i64 p, .int .i64 i, .int .i64 b] 25)).alloc (.cells (dirOf zF) 41)) 58 (.int .i64 0) (.int .i64 0) (fun _ => .int .i64 0) rfl rfl
  rw [show ((w.alloc (.cells #[.int .i64 p, .int .i64 i, .int .i64 b] 25)).alloc (.cells (dirOf zF) 41)).heap.size = w.heap.size + 2 by simp] at rT
  have HrT := hid (above_row hb rT)
  have HB := hid hB
  have hs1 : w.heap.size + 2 < w1.heap.size := by have := hb.size; simp at this; omega
  clear hb hB rZ rG rT
  have Hf := hid hf
  have Hcell := hid fun (k : Nat) (hk : k < 32) => (HB.out.cell (p := ad.add k) (by rw [block_of_add]; exact hlt)).trans (hcell k hk)
  clear hf hcell
  have c0 : w1.cell? ad = some (.int .u64 (f 0 : Nat)) := Hcell.out 0 (by omega)
  have c1 := Hcell.out 1 (by omega)
  rw [add_lit ad 1 (by omega)] at c1
  have gG := three _ _ _ _ HrG.out
  simp at gG
  have hb1 : 4 ≤ b ∧ b ≤ 255 := (gok_iff.1 h).2.2.2.2
  have hbw : IntKind.u64.wrap b = b := by rw [IntKind.wrap_u64]; omega
  have hf0 := Hf.out 0
  have hn8 : f 0 % 4294967296 = f 0 % 256 := by omega
  obtain ⟨nx, hnx⟩ : ∃ nx, nx = f 0 % 256 := ⟨_, rfl⟩
  have hnx' : ((f 0 : Int) % 256) = (nx : Nat) := by omega
  have e1 : IntKind.i64.wrap ((f 0 : Int).tmod 256) = (nx : Nat) := by rw [Int.tmod_eq_emod_of_nonneg (by omega), Go.IntWalk.i64_in _ (by omega)]; exact hnx'
  have e2 : (f 0 : Int).tmod 4294967296 = (nx : Nat) := by rw [Int.tmod_eq_emod_of_nonneg (by omega)]; omega
  have hnb : ¬ b < (nx : Int) := by omega
  have HH := hid fun W => rhead_any (nx : Int) (by omega) (by omega) W
  have hhd : headN (nx : Int) = nx + 4294967296 * 1145655857 := by unfold headN; omega
  obtain ⟨hd, hhd'⟩ : ∃ hd, hd = headN (nx : Int) := ⟨_, rfl⟩
  rw [← hhd'] at HH hhd
  have hne : ((f 0 : Int) != (hd : Int)) = false := by rw [bne_eq_false_iff_eq]; omega
  have Hnx := hid hnx
  have Hhd := hid hhd
  clear hn8 hnx hnx' hhd hhd' hn hh
  have h1' : ((f 1 : Int) != 0) = true := by rw [bne_iff_ne]; omega
  rw [h]
  go_wp2_with fail
  refine wp_region_quiet_lit (by kernel_rfl) (by kernel_rfl) ?_
  repeat (quiet_step (fail))
  refine wpQuiet_step (fun K hK => ?_)
  go_simp
  apply Exists.intro
  refine ⟨fun _ => ?_, hK _ ?_⟩
  · refine Calls.quiet_of_same (v := .int .u64 (hd : Nat)) ?_
    refine (HH.out _).mono ?_
    rintro e w' ⟨rfl, rfl⟩
    exact ⟨rfl, rfl⟩
  clear hK K
  repeat (quiet_step (fail))
  refine wpQuiet_nil ?_
  intro _ hw'
  obtain ⟨nq, hw''⟩ := hw'
  subst hw''
  have bq := below_drewN (Below.refl w1.heap.size w1) nq
  have HrZ := hid (above_row bq HrZ.out)
  have HrT := hid (above_row bq HrT.out)
  have HrG := hid (above_row bq HrG.out)
  have HB := hid (HB.out.trans (bq.mono HB.out.size))
  have c0 := above bq c0
  have c1 := above bq c1
  have Hcell := hid fun (k : Nat) (hk : k < 32) => above bq (Hcell.out k hk)
  clear bq
  have hs1 : w.heap.size + 2 < (w1.drewN nq).heap.size := hs1
  generalize w1.drewN nq = w1 at *
  go_wp2_with (first
    | refine wpList_store41 rfl (.tmp 4) (.tmp 46) rfl (w.heap.size + 1) zF zF HrZ.out rfl (by rw [← zero_lit]; rfl) zF_is.one ?_
    | refine wpList_store58 rfl (.tmp 5) (.tmp 47) rfl (w.heap.size + 2) (fun _ => .int .i64 0) (.int .i64 1) (.int .i64 7) (setRow_far (dirOf zF) HrT.out (show w.heap.size + 2 ≠ w.heap.size + 1 by omega)) rfl rfl (by simp [Value.oneCell']) ?_)
  have hl := run_block _ _ _ (setRow_far (g := w.heap.size + 1) (B := w.heap.size + 2) #[.int .i64 1, .int .i64 7] (setRow_row zF HrZ.out) (show w.heap.size + 1 ≠ w.heap.size + 2 by omega))
  have hl' := run_fault _ _ (.int .i64 1) (.int .i64 7) _ rfl rfl (setRow_pair (.int .i64 1) (.int .i64 7) (setRow_far (dirOf zF) HrT.out (show w.heap.size + 2 ≠ w.heap.size + 1 by omega)))
  try rw [Exit.noGoto_ret]
  refine bodyPost_ret (v := .tuple #[.agg (dirOf zF), .agg #[.int .i64 1, .int .i64 7]]) ?_ rfl ⟨rfl, ?_⟩
  · exact results_two_cells Tryd.results24 _ Tryd.prog _ _ _ _ _ rfl rfl hl hl'
  · exact (HB.out.trans (setRow_below (b := w.heap.size) (B := w.heap.size + 1) (by omega) _)).trans (setRow_below (b := w.heap.size) (B := w.heap.size + 2) (by omega) _)
end Go.Proofs.YtejapeafepcacaaDoor
