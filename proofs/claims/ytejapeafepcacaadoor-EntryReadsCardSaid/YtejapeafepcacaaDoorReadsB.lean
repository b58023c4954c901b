/- EntryReads: the walk. -/
import Derived.Test.YtejapeafepcacaaDoorReadsA
namespace Go.Proofs.YtejapeafepcacaaDoor
open Go.RowKit
theorem lit31 (F : Nat → Value) : (#[.int .i64 0, .int .i64 0, .int .u8 0, .string ⟨#[]⟩, .int .i64 0, .int .u8 0, .string ⟨#[]⟩, .int .i64 0, .int .u8 0, .string ⟨#[]⟩, .int .i64 0, .int .u8 0, .string ⟨#[]⟩, .int .i64 0, .int .u8 0, .string ⟨#[]⟩, .int .i64 0, .int .u8 0, .string ⟨#[]⟩, .int .i64 0, .int .u8 0, .string ⟨#[]⟩, .int .i64 0, .int .u8 0, .string ⟨#[]⟩, .int .i64 0, .int .u8 0, .string ⟨#[]⟩, .int .i64 0, .int .u8 0, .string ⟨#[]⟩] : Array Value).size = (dirOf F).size := by rw [dirOf_size]; rfl
theorem row_lit (W : World) : (W.alloc (.cells #[.int .i64 0, .int .i64 0, .int .u8 0, .string ⟨#[]⟩, .int .i64 0, .int .u8 0, .string ⟨#[]⟩, .int .i64 0, .int .u8 0, .string ⟨#[]⟩, .int .i64 0, .int .u8 0, .string ⟨#[]⟩, .int .i64 0, .int .u8 0, .string ⟨#[]⟩, .int .i64 0, .int .u8 0, .string ⟨#[]⟩, .int .i64 0, .int .u8 0, .string ⟨#[]⟩, .int .i64 0, .int .u8 0, .string ⟨#[]⟩, .int .i64 0, .int .u8 0, .string ⟨#[]⟩, .int .i64 0, .int .u8 0, .string ⟨#[]⟩] 41)).rowIs W.heap.size 41 31 zF := by rw [zero_lit]; exact row_dirOf W zF
theorem fault_pair (r : Option (Nat × Int)) : ∃ u v, faultV r = .agg #[.int .i64 u, .int .i64 v] := by
  cases r with
  | none => exact ⟨0, 0, rfl⟩
  | some x => obtain ⟨a, e⟩ := x; exact ⟨_, e, rfl⟩
theorem wpList_store23 {ops : Array Oper} {rest : List Oper} {op : Oper} {a : Act} {w : World} {Q : Exit → Act → World → Prop} (hgd : op.guard = none) (x y : Operand) (ho : op.op = .store 23 x y) (B : Nat) (G : Nat → Value) (u k : Int) (s : ByteArray) (hr : w.rowIs B 23 3 G)
    (hx : a.eval x = .pointer (some ⟨B, 0, none⟩)) (hy : a.eval y = .agg #[.int .i64 u, .int .u8 k, .string s]) (h : wpList Tryd.prog ops Q rest (a.put op.dst undef) (w.setRow B #[.int .i64 u, .int .u8 k, .string s])) : wpList Tryd.prog ops Q (op :: rest) a w :=
  wpList_plain hgd fun _ hK => by
    obtain ⟨c, hg, hsz, -⟩ := hr
    have hrun := run_storeVar_row (P := Tryd.prog) w B 23 23 c #[.int .i64 u, .int .u8 k, .string s] hg info23 (by rw [hsz]; rfl) (one3 u k s)
    unfold Oper.wp execOp
    simp only [ho, hx, hy, Instr.storeAt, Instr.sureAddr, Sem.run_bind, Sem.run_pure, Result.andThen_ok, hrun]
    exact hK _ _ h
theorem setRow_three {w : World} {B : Nat} {G : Nat → Value} (u k : Int) (s : ByteArray) (hr : w.rowIs B 23 3 G) : (w.setRow B #[.int .i64 u, .int .u8 k, .string s]).rowIs B 23 3 (fun j => if j = 0 then .int .i64 u else if j = 1 then .int .u8 k else .string s) := by
  obtain ⟨c, hg, hsz, -⟩ := hr
  exact ⟨#[.int .i64 u, .int .u8 k, .string s], by simp [World.setRow, Array.getElem?_modify, hg], rfl, fun i hi => match i, hi with
    | 0, _ => rfl
    | 1, _ => rfl
    | 2, _ => rfl⟩
attribute [local irreducible] dirOf

set_option maxHeartbeats 4000000 in
set_option maxRecDepth 100000 in
theorem reads_main (A A' : Option Addr) (m m' c c' : Nat) (f f' : Nat → Nat) (p i b : Int) (w : World) (he : ErrType w) (hm : m ≤ 40) (hm' : m' ≤ 100) (hc : m ≤ c) (hc' : m' ≤ c') (hf : ∀ k, f k < 18446744073709551616) (hf' : ∀ k, f' k < 18446744073709551616) (hl : Lies w A m f) (hl' : Lies w A' m' f') :
    Calls Tryd.prog 6 #[.slice A m c, .slice A' m' c', .agg #[.int .i64 p, .int .i64 i, .int .i64 b]] w fun e w' => e = .returned (.bool true) ∧ Below w.heap.size w w' := by
  obtain ⟨x0, x1, xs, er, ok, Y, hv, hd10, hd23, ht⟩ := slot_verdict m f p i b hf
  have Hd10 := hid hd10
  have Hd23 := hid hd23
  have Ht := hid ht
  have Hf' := hid hf'
  have Hv := hid hv
  obtain ⟨r, hr⟩ : ∃ r, r = readR m' f' p i b := ⟨_, rfl⟩
  have Hr := hid hr
  have Hpos : Hid (∀ a e, r = some (a, e) → ¬ e = 0) := hid (by rw [hr]; exact fun a e h => readR_pos h)
  obtain ⟨u, v, hfv⟩ := fault_pair r
  have Hfv := hid hfv
  have ba := (Below.refl w.heap.size w).alloc (Nat.le_refl _) (.cells #[.int .i64 p, .int .i64 i, .int .i64 b] 25)
  have rG := row3 w 25 (.int .i64 p) (.int .i64 i) (.int .i64 b) (fun j => if j = 0 then .int .i64 p else if j = 1 then .int .i64 i else .int .i64 b) rfl rfl rfl
  have HrG := hid rG
  have HL := hid (lies_above ba hl)
  have HN := hid (lies_above ba hl')
  have HE := hid (errType_above he ba)
  have HB := hid ba
  have hmI : (m : Int) ≤ 40 := by omega
  have hmI' : (m' : Int) ≤ 100 := by omega
  clear hd10 hd23 ht hf hf' hv hr hfv ba rG hl hl' he
  go_enter Tryd.func6, Tryd.ntmps6
  go_wp2_with (first
    | (at_builtin; refine wpList_append_words rfl (.const (.slice none 0 0)) (.tmp 28) rfl A m c f rfl rfl HL.out (by omega) ?_; intro A1 c1 w1 hb1 hcp1; have HBa := hid hb1; have HCa := hid hcp1; have HN1 := hid (lies_above hb1 HN.out); clear hb1 hcp1)
    | (at_builtin; refine wpList_append_words rfl (.const (.slice none 0 0)) (.tmp 30) rfl A' m' c' f' rfl rfl HN1.out (by omega) ?_; intro A2 c2 w2 hb2 hcp2; have HBb := hid hb2; have HCb := hid hcp2; have HrG2 := hid (above_row (HBa.out.trans (hb2.mono HBa.out.size)) HrG.out); clear hb2 hcp2)
    | refine wpList_load3 rfl 34 rfl 25 (.tmp 5) rfl w.heap.size rfl (fun j => if j = 0 then .int .i64 p else if j = 1 then .int .i64 i else .int .i64 b) _ Tryd.underlying25 rfl info25 HrG2.out ?_)
  clear HrG2
  obtain ⟨hO, hc1⟩ := copied_lies HCa.out
  obtain ⟨hM, hc2⟩ := copied_lies HCb.out
  have HO := hid (lies_above HBb.out hO)
  have HM := hid hM
  have hb := HBa.out.trans (HBb.out.mono HBa.out.size)
  have HrG := hid (above_row hb HrG.out)
  have HL := hid (lies_above hb HL.out)
  have HN := hid (lies_above hb HN.out)
  have HE := hid (errType_above HE.out hb)
  have HB := hid (HB.out.trans (hb.mono HB.out.size))
  have HB2 := hid (Below.refl w2.heap.size w2)
  clear hO hM hb HBa HBb HCa HN1
  refine (Hd10.out w2 A1 c1 hc1 HO.out).mono ?_
  rintro e w3 ⟨rfl, hb⟩
  have HrG := hid (above_row hb HrG.out)
  have HO := hid (lies_above hb HO.out)
  have HM := hid (lies_above hb HM.out)
  have HL := hid (lies_above hb HL.out)
  have HN := hid (lies_above hb HN.out)
  have HE := hid (errType_above HE.out hb)
  have HB := hid (HB.out.trans (hb.mono HB.out.size))
  have HB2 := hid (HB2.out.trans (hb.mono HB2.out.size))
  clear hb
  go_wp2_with (refine wpList_load3 rfl 40 rfl 25 (.tmp 5) rfl w.heap.size rfl (fun j => if j = 0 then .int .i64 p else if j = 1 then .int .i64 i else .int .i64 b) _ Tryd.underlying25 rfl info25 (HrG.out.alloc _) ?_)
  have ba := (Below.refl w3.heap.size w3).alloc (Nat.le_refl _) (.cells #[.int .i64 x0, .int .u8 x1, .string xs] 23)
  have rX := row3 w3 23 (.int .i64 x0) (.int .u8 x1) (.string xs) (fun j => if j = 0 then .int .i64 x0 else if j = 1 then .int .u8 x1 else .string xs) rfl rfl rfl
  have HrG := hid (above_row ba HrG.out)
  have HO := hid (lies_above ba HO.out)
  have HM := hid (lies_above ba HM.out)
  have HL := hid (lies_above ba HL.out)
  have HN := hid (lies_above ba HN.out)
  have HE := hid (errType_above HE.out ba)
  have HB := hid (HB.out.trans (ba.mono HB.out.size))
  have HB2 := hid (HB2.out.trans (ba.mono HB2.out.size))
  have HrX := hid rX
  clear ba rX
  generalize w3.alloc (.cells #[.int .i64 x0, .int .u8 x1, .string xs] 23) = w4 at *
  generalize w3.heap.size = b9 at *
  refine (read_any A2 m' c2 f' p i b w4 HE.out Hf'.out (copied_read HCb.out HB2.out)).mono ?_
  rintro e w5 ⟨⟨F, hF, rfl⟩, hb⟩
  have HrG := hid (above_row hb HrG.out)
  have HO := hid (lies_above hb HO.out)
  have HM := hid (lies_above hb HM.out)
  have HL := hid (lies_above hb HL.out)
  have HN := hid (lies_above hb HN.out)
  have HrX := hid (above_row hb HrX.out)
  have HE := hid (errType_above HE.out hb)
  have HB := hid (HB.out.trans (hb.mono HB.out.size))
  have HB2 := hid (HB2.out.trans (hb.mono HB2.out.size))
  rw [← Hr.out] at hF ⊢
  have HF := hid hF
  have hone : (dirOf F).all (·.oneCell') = true := by
    rcases hF with ⟨-, h⟩ | ⟨-, rfl⟩
    · exact h.one
    · exact zF_is.one
  clear hb hF
  have Ht2 := hid (told_any r Hpos.out)
  rw [Hfv.out] at Ht2
  generalize errV r = Yr at *
  have hl31 := lit31 F
  go_wp2_with (first
    | refine wpList_store_new (w := w5) rfl (.tmp 11) (.tmp 42) rfl #[.int .i64 0, .int .i64 0, .int .u8 0, .string ⟨#[]⟩, .int .i64 0, .int .u8 0, .string ⟨#[]⟩, .int .i64 0, .int .u8 0, .string ⟨#[]⟩, .int .i64 0, .int .u8 0, .string ⟨#[]⟩, .int .i64 0, .int .u8 0, .string ⟨#[]⟩, .int .i64 0, .int .u8 0, .string ⟨#[]⟩, .int .i64 0, .int .u8 0, .string ⟨#[]⟩, .int .i64 0, .int .u8 0, .string ⟨#[]⟩, .int .i64 0, .int .u8 0, .string ⟨#[]⟩, .int .i64 0, .int .u8 0, .string ⟨#[]⟩] (dirOf F) rfl rfl rfl hl31 (dirOf_size F) hone ?_
    | refine wpList_load3 rfl 46 rfl 25 (.tmp 5) rfl w.heap.size rfl (fun j => if j = 0 then .int .i64 p else if j = 1 then .int .i64 i else .int .i64 b) _ Tryd.underlying25 rfl info25 (((HrG.out.alloc _).alloc _).alloc _) ?_)
  clear hl31
  have rB := row_dirOf w5 F
  have ba := (Below.refl w5.heap.size w5).alloc (Nat.le_refl _) (.cells (dirOf F) 41)
  have HrG := hid (above_row ba HrG.out)
  have HO := hid (lies_above ba HO.out)
  have HM := hid (lies_above ba HM.out)
  have HL := hid (lies_above ba HL.out)
  have HN := hid (lies_above ba HN.out)
  have HrX := hid (above_row ba HrX.out)
  have HE := hid (errType_above HE.out ba)
  have HB := hid (HB.out.trans (ba.mono HB.out.size))
  have HrB := hid rB
  have rT := (row_pair (w5.alloc (.cells (dirOf F) 41)) 58 (.int .i64 0) (.int .i64 2) (fun j => if j = 0 then .int .i64 0 else .int .i64 2) rfl rfl).alloc (.cells #[.int .i64 0, .int .u8 0, .string ⟨#[]⟩] 23)
  have rZ := row3 ((w5.alloc (.cells (dirOf F) 41)).alloc (.cells #[.int .i64 0, .int .i64 2] 58)) 23 (.int .i64 0) (.int .u8 0) (.string ⟨#[]⟩) (fun j => if j = 0 then .int .i64 0 else if j = 1 then .int .u8 0 else .string ⟨#[]⟩) rfl rfl rfl
  have b6 := ((Below.refl (w5.alloc (.cells (dirOf F) 41)).heap.size (w5.alloc (.cells (dirOf F) 41))).alloc (Nat.le_refl _) (.cells #[.int .i64 0, .int .i64 2] 58)).alloc (by simp) (.cells #[.int .i64 0, .int .u8 0, .string ⟨#[]⟩] 23)
  have hw6 : (w5.alloc (.cells (dirOf F) 41)).heap.size = w5.heap.size + 1 := by simp
  rw [show ((w5.alloc (.cells (dirOf F) 41)).alloc (.cells #[.int .i64 0, .int .i64 2] 58)).heap.size = w5.heap.size + 1 + 1 by simp] at rZ
  rw [hw6] at rT
  generalize ((w5.alloc (.cells (dirOf F) 41)).alloc (.cells #[.int .i64 0, .int .i64 2] 58)).alloc (.cells #[.int .i64 0, .int .u8 0, .string ⟨#[]⟩] 23) = wz at *
  generalize w5.alloc (.cells (dirOf F) 41) = w6 at *
  refine (rgeom_any p i b _).mono ?_
  rintro e w7 ⟨rfl, hb⟩
  have HrT := hid (above_row hb rT)
  have HrZ := hid (above_row hb rZ)
  have B6 := hid (b6.trans (hb.mono b6.size))
  clear ba rB rT rZ b6 hb
  rcases Hv.out with ⟨hg, e0, e1, e2, e3⟩ | ⟨hg, rfl, e3⟩ | ⟨hg, rfl, e3⟩
  · rw [hg]
    have HrT9 : Hid (w7.rowIs (w5.heap.size + 1) 58 2 (fun j => if j = 0 then .int .i64 0 else .int .i64 er)) := by rw [e3]; exact HrT
    have HrZ9 : Hid (w7.rowIs (w5.heap.size + 1 + 1) 23 3 (fun j => if j = 0 then .int .i64 x0 else if j = 1 then .int .u8 x1 else .string xs)) := by rw [e0, e1, e2]; exact HrZ
    clear e0 e1 e2 e3
    generalize hw9 : w7 = w9 at *
    go_wp2_with (refine wpList_load3 rfl 60 rfl 25 (.tmp 5) rfl w.heap.size rfl (fun j => if j = 0 then .int .i64 p else if j = 1 then .int .i64 i else .int .i64 b) _ Tryd.underlying25 rfl info25 (above_row B6.out HrG.out) ?_)
    refine (rread_any A' m' c' f' p i b w9 hc' Hf'.out (lies_above B6.out HN.out)).mono ?_
    rintro e w10 ⟨⟨G, hG, rfl⟩, hb⟩
    rw [← Hr.out] at hG ⊢
    have hFG : dirOf G = dirOf F := by
      rcases hG with ⟨h1, h2⟩ | ⟨h1, h2⟩
      · rcases HF.out with ⟨h3, h4⟩ | ⟨h3, -⟩
        · exact dirOf_same h2 h4
        · exact absurd h1 h3
      · rcases HF.out with ⟨h3, -⟩ | ⟨-, h4⟩
        · exact absurd h3 h1
        · rw [h2, h4]
    obtain ⟨dn, di, dk, ds, hDir⟩ : ∃ n a k s, DirIs (dirOf F) n a k s := by
      rcases HF.out with ⟨-, h⟩ | ⟨-, rfl⟩
      · exact ⟨_, _, _, _, h.dir⟩
      · exact ⟨_, _, _, _, zF_is.dir⟩
    rw [hFG, Hfv.out]
    have B10 := hid (B6.out.trans (hb.mono B6.out.size))
    have HrT := hid (above_row hb HrT9.out)
    have HrZ := hid (above_row hb HrZ9.out)
    clear hb hG hFG
    have rL := row_lit w10
    have b17 := ((Below.refl w10.heap.size w10).alloc (Nat.le_refl _) (.cells #[.int .i64 0, .int .i64 0, .int .u8 0, .string ⟨#[]⟩, .int .i64 0, .int .u8 0, .string ⟨#[]⟩, .int .i64 0, .int .u8 0, .string ⟨#[]⟩, .int .i64 0, .int .u8 0, .string ⟨#[]⟩, .int .i64 0, .int .u8 0, .string ⟨#[]⟩, .int .i64 0, .int .u8 0, .string ⟨#[]⟩, .int .i64 0, .int .u8 0, .string ⟨#[]⟩, .int .i64 0, .int .u8 0, .string ⟨#[]⟩, .int .i64 0, .int .u8 0, .string ⟨#[]⟩, .int .i64 0, .int .u8 0, .string ⟨#[]⟩] 41)).alloc (by simp) (.cells #[.int .i64 0, .int .i64 0] 58)
    have rP := row_pair (w10.alloc (.cells #[.int .i64 0, .int .i64 0, .int .u8 0, .string ⟨#[]⟩, .int .i64 0, .int .u8 0, .string ⟨#[]⟩, .int .i64 0, .int .u8 0, .string ⟨#[]⟩, .int .i64 0, .int .u8 0, .string ⟨#[]⟩, .int .i64 0, .int .u8 0, .string ⟨#[]⟩, .int .i64 0, .int .u8 0, .string ⟨#[]⟩, .int .i64 0, .int .u8 0, .string ⟨#[]⟩, .int .i64 0, .int .u8 0, .string ⟨#[]⟩, .int .i64 0, .int .u8 0, .string ⟨#[]⟩, .int .i64 0, .int .u8 0, .string ⟨#[]⟩] 41)) 58 (.int .i64 0) (.int .i64 0) (fun _ => .int .i64 0) rfl rfl
    rw [show (w10.alloc (.cells #[.int .i64 0, .int .i64 0, .int .u8 0, .string ⟨#[]⟩, .int .i64 0, .int .u8 0, .string ⟨#[]⟩, .int .i64 0, .int .u8 0, .string ⟨#[]⟩, .int .i64 0, .int .u8 0, .string ⟨#[]⟩, .int .i64 0, .int .u8 0, .string ⟨#[]⟩, .int .i64 0, .int .u8 0, .string ⟨#[]⟩, .int .i64 0, .int .u8 0, .string ⟨#[]⟩, .int .i64 0, .int .u8 0, .string ⟨#[]⟩, .int .i64 0, .int .u8 0, .string ⟨#[]⟩, .int .i64 0, .int .u8 0, .string ⟨#[]⟩] 41)).heap.size = w10.heap.size + 1 by simp] at rP
    have hq23 := eq_slot_yes x0 x1 xs xs rfl
    have hq41 := eq41 hDir
    go_wp2_with (first
      | (refine wpList_store41 rfl (.tmp 17) (.tmp 62) rfl w10.heap.size zF F (rL.alloc _) rfl rfl hone ?_
         refine wpList_store58 rfl (.tmp 18) (.tmp 63) rfl (w10.heap.size + 1) (fun _ => .int .i64 0) (.int .i64 u) (.int .i64 v) (setRow_far (dirOf F) rP (show w10.heap.size + 1 ≠ w10.heap.size by omega)) rfl rfl (by simp [Value.oneCell']) ?_
         have r17 := setRow_far #[.int .i64 u, .int .i64 v] (setRow_row F (rL.alloc (.cells #[.int .i64 0, .int .i64 0] 58))) (show w10.heap.size ≠ w10.heap.size + 1 by omega)
         have r18 := setRow_pair (.int .i64 u) (.int .i64 v) (setRow_far (dirOf F) rP (show w10.heap.size + 1 ≠ w10.heap.size by omega))
         have bE := (b17.trans (setRow_below (b := w10.heap.size) (B := w10.heap.size) (Nat.le_refl _) (dirOf F))).trans (setRow_below (b := w10.heap.size) (B := w10.heap.size + 1) (by omega) #[.int .i64 u, .int .i64 v])
         generalize (((w10.alloc (.cells #[.int .i64 0, .int .i64 0, .int .u8 0, .string ⟨#[]⟩, .int .i64 0, .int .u8 0, .string ⟨#[]⟩, .int .i64 0, .int .u8 0, .string ⟨#[]⟩, .int .i64 0, .int .u8 0, .string ⟨#[]⟩, .int .i64 0, .int .u8 0, .string ⟨#[]⟩, .int .i64 0, .int .u8 0, .string ⟨#[]⟩, .int .i64 0, .int .u8 0, .string ⟨#[]⟩, .int .i64 0, .int .u8 0, .string ⟨#[]⟩, .int .i64 0, .int .u8 0, .string ⟨#[]⟩, .int .i64 0, .int .u8 0, .string ⟨#[]⟩] 41)).alloc (.cells #[.int .i64 0, .int .i64 0] 58)).setRow w10.heap.size (dirOf F)).setRow (w10.heap.size + 1) #[.int .i64 u, .int .i64 v] = w11 at *
         have b6 := B10.out.trans (bE.mono B10.out.size)
         have HrG := hid (above_row b6 HrG.out)
         have HO := hid (lies_above b6 HO.out)
         have HM := hid (lies_above b6 HM.out)
         have HL := hid (lies_above b6 HL.out)
         have HN := hid (lies_above b6 HN.out)
         have HrX := hid (above_row b6 HrX.out)
         have HrB := hid (above_row b6 HrB.out)
         have HE := hid (errType_above HE.out b6)
         have HB := hid (HB.out.trans (b6.mono HB.out.size))
         have HrT := hid (above_row bE HrT.out)
         have HrZ := hid (above_row bE HrZ.out)
         have Hr17 := hid r17
         have Hr18 := hid r18
         obtain ⟨x0', x1', x2', -, -, -⟩ := three _ _ _ _ HrX.out
         obtain ⟨z0', z1', z2', -, -, -⟩ := three _ _ _ _ HrZ.out
         have t0' := HrT.out.cell (i := 0) (by omega)
         have t1' := HrT.out.cell (i := 1) (by omega)
         simp at x0' x1' x2' z0' z1' z2' t0' t1'
         clear rL rP r17 r18 bE b6 b17)
      | fail)
    refine (Ht.out w11 HE.out).mono ?_
    rintro e w12 ⟨rfl, hb⟩
    have HrG := hid (above_row hb HrG.out)
    have HO := hid (lies_above hb HO.out)
    have HM := hid (lies_above hb HM.out)
    have HL := hid (lies_above hb HL.out)
    have HN := hid (lies_above hb HN.out)
    have HrB := hid (above_row hb HrB.out)
    have Hr17 := hid (above_row hb Hr17.out)
    have Hr18 := hid (above_row hb Hr18.out)
    have HE := hid (errType_above HE.out hb)
    have HB := hid (HB.out.trans (hb.mono HB.out.size))
    have t0' := Hr18.out.cell (i := 0) (by omega)
    have t1' := Hr18.out.cell (i := 1) (by omega)
    simp at t0' t1'
    clear hb x0' x1' x2' z0' z1' z2' hq23
    go_wp2_with (first
      | refine wpList_load41g 73 rfl (by rfl) (.tmp 11) rfl w5.heap.size rfl F HrB.out ?_
      | refine wpList_load41g 74 rfl (by rfl) (.tmp 17) rfl w10.heap.size rfl F Hr17.out ?_)
    refine (Ht2.out w12 HE.out).mono ?_
    rintro e w13 ⟨rfl, hb⟩
    have HrG := hid (above_row hb HrG.out)
    have HO := hid (lies_above hb HO.out)
    have HM := hid (lies_above hb HM.out)
    have HL := hid (lies_above hb HL.out)
    have HN := hid (lies_above hb HN.out)
    have HE := hid (errType_above HE.out hb)
    have HB := hid (HB.out.trans (hb.mono HB.out.size))
    clear hb t0' t1' hq41
    go_wp2_with fail
    refine (same_words A1 A m c1 c f w13 (by omega) HO.out HL.out).mono ?_
    rintro e w14 ⟨rfl, hb⟩
    have HrG := hid (above_row hb HrG.out)
    have HO := hid (lies_above hb HO.out)
    have HM := hid (lies_above hb HM.out)
    have HL := hid (lies_above hb HL.out)
    have HN := hid (lies_above hb HN.out)
    have HE := hid (errType_above HE.out hb)
    have HB := hid (HB.out.trans (hb.mono HB.out.size))
    clear hb
    go_wp2_with fail
    refine (same_words A2 A' m' c2 c' f' w14 (by omega) HM.out HN.out).mono ?_
    rintro e w15 ⟨rfl, hb⟩
    have HrG := hid (above_row hb HrG.out)
    have HO := hid (lies_above hb HO.out)
    have HM := hid (lies_above hb HM.out)
    have HL := hid (lies_above hb HL.out)
    have HN := hid (lies_above hb HN.out)
    have HE := hid (errType_above HE.out hb)
    have HB := hid (HB.out.trans (hb.mono HB.out.size))
    clear hb
    go_wp2_with fail
    refine (alive_any _ HE.out).mono ?_
    rintro e w16 ⟨rfl, hb⟩
    have HB := hid (HB.out.trans (hb.mono HB.out.size))
    clear hb
    go_wp2
    go_ret
    exact ⟨rfl, HB.out⟩
  · have h3 := e3
    go_wp2_with (refine wpList_load3 rfl 50 rfl 25 (.tmp 5) rfl w.heap.size rfl (fun j => if j = 0 then .int .i64 p else if j = 1 then .int .i64 i else .int .i64 b) _ Tryd.underlying25 rfl info25 (above_row B6.out HrG.out) ?_)
    refine (Hd23.out hg w7 A c hc (lies_above B6.out HL.out)).mono ?_
    rintro e w8 ⟨rfl, hb⟩
    have B6 := hid (B6.out.trans (hb.mono B6.out.size))
    have HrT := hid (above_row hb HrT.out)
    have HrZ := hid (above_row hb HrZ.out)
    clear hb
    go_wp2_with (first
      | (refine wpList_store23 rfl (.tmp 14) (.tmp 54) rfl (w5.heap.size + 1 + 1) (fun j => if j = 0 then .int .i64 0 else if j = 1 then .int .u8 0 else .string ⟨#[]⟩) x0 x1 xs (HrZ.out.alloc (.cells #[.int .i64 x0, .int .u8 x1, .string xs] 23)) rfl rfl ?_
         have rZ := setRow_three x0 x1 xs (HrZ.out.alloc (.cells #[.int .i64 x0, .int .u8 x1, .string xs] 23))
         have rT := setRow_far #[.int .i64 x0, .int .u8 x1, .string xs] (HrT.out.alloc (.cells #[.int .i64 x0, .int .u8 x1, .string xs] 23)) (show w5.heap.size + 1 ≠ w5.heap.size + 1 + 1 by omega)
         have b8 := (B6.out.alloc B6.out.size (.cells #[.int .i64 x0, .int .u8 x1, .string xs] 23)).trans (setRow_below (b := w6.heap.size) (B := w5.heap.size + 1 + 1) (by omega) #[.int .i64 x0, .int .u8 x1, .string xs])
         generalize (w8.alloc (.cells #[.int .i64 x0, .int .u8 x1, .string xs] 23)).setRow (w5.heap.size + 1 + 1) #[.int .i64 x0, .int .u8 x1, .string xs] = w8b at *
         obtain ⟨t0', t1', ft0⟩ : w8b.cell? ⟨w5.heap.size + 1, 0, none⟩ = some (.int .i64 0) ∧ w8b.cell? ⟨w5.heap.size + 1, 1, none⟩ = some (.int .i64 2) ∧ w8b.frozen? ⟨w5.heap.size + 1, 1, none⟩ = false := ⟨rT.cell (by omega), rT.cell (by omega), rT.frozen 1⟩
         have bV : Below w6.heap.size w6 ((w8b.setCell ⟨w5.heap.size + 1, 1, none⟩ (.int .i64 7)).setCell ⟨w5.heap.size + 1, 1, none⟩ (.int .i64 0)) := (b8.setCell (p := ⟨w5.heap.size + 1, 1, none⟩) (show w6.heap.size ≤ w5.heap.size + 1 by omega) (.int .i64 7)).setCell (p := ⟨w5.heap.size + 1, 1, none⟩) (show w6.heap.size ≤ w5.heap.size + 1 by omega) (.int .i64 0)
         have rZ7 := rZ.setOther (a := ⟨w5.heap.size + 1, 1, none⟩) (by simp) (.int .i64 7)
         have HrZV := hid (show ((w8b.setCell ⟨w5.heap.size + 1, 1, none⟩ (.int .i64 7)).setCell ⟨w5.heap.size + 1, 1, none⟩ (.int .i64 0)).rowIs (w5.heap.size + 1 + 1) 23 3 (fun j => if j = 0 then .int .i64 x0 else if j = 1 then .int .u8 x1 else .string xs) from rZ7.setOther (a := ⟨w5.heap.size + 1, 1, none⟩) (by simp) (.int .i64 0))
         have HrTV : Hid (((w8b.setCell ⟨w5.heap.size + 1, 1, none⟩ (.int .i64 7)).setCell ⟨w5.heap.size + 1, 1, none⟩ (.int .i64 0)).rowIs (w5.heap.size + 1) 58 2 (fun j => if j = 0 then .int .i64 0 else .int .i64 er)) := hid (((rT.set 1 (.int .i64 7)).set 1 (.int .i64 0)).congr (fun j hj => by
           match j, hj with
           | 0, _ => rfl
           | 1, _ => rw [h3]; rfl))
         have HbV := hid bV
         clear rZ rT b8 rZ7 bV)
      | refine wpList_load3 rfl 60 rfl 25 (.tmp 5) rfl w.heap.size rfl (fun j => if j = 0 then .int .i64 p else if j = 1 then .int .i64 i else .int .i64 b) _ Tryd.underlying25 rfl info25 (above_row HbV.out HrG.out) ?_)
    have HrT9 := HrTV
    have HrZ9 := HrZV
    have B6 := HbV
    clear t0' t1' ft0 e3 h3
    generalize ((w8b.setCell ⟨w5.heap.size + 1, 1, none⟩ (.int .i64 7)).setCell ⟨w5.heap.size + 1, 1, none⟩ (.int .i64 0)) = w9 at *
    refine (rread_any A' m' c' f' p i b w9 hc' Hf'.out (lies_above B6.out HN.out)).mono ?_
    rintro e w10 ⟨⟨G, hG, rfl⟩, hb⟩
    rw [← Hr.out] at hG ⊢
    have hFG : dirOf G = dirOf F := by
      rcases hG with ⟨h1, h2⟩ | ⟨h1, h2⟩
      · rcases HF.out with ⟨h3, h4⟩ | ⟨h3, -⟩
        · exact dirOf_same h2 h4
        · exact absurd h1 h3
      · rcases HF.out with ⟨h3, -⟩ | ⟨-, h4⟩
        · exact absurd h3 h1
        · rw [h2, h4]
    obtain ⟨dn, di, dk, ds, hDir⟩ : ∃ n a k s, DirIs (dirOf F) n a k s := by
      rcases HF.out with ⟨-, h⟩ | ⟨-, rfl⟩
      · exact ⟨_, _, _, _, h.dir⟩
      · exact ⟨_, _, _, _, zF_is.dir⟩
    rw [hFG, Hfv.out]
    have B10 := hid (B6.out.trans (hb.mono B6.out.size))
    have HrT := hid (above_row hb HrT9.out)
    have HrZ := hid (above_row hb HrZ9.out)
    clear hb hG hFG
    have rL := row_lit w10
    have b17 := ((Below.refl w10.heap.size w10).alloc (Nat.le_refl _) (.cells #[.int .i64 0, .int .i64 0, .int .u8 0, .string ⟨#[]⟩, .int .i64 0, .int .u8 0, .string ⟨#[]⟩, .int .i64 0, .int .u8 0, .string ⟨#[]⟩, .int .i64 0, .int .u8 0, .string ⟨#[]⟩, .int .i64 0, .int .u8 0, .string ⟨#[]⟩, .int .i64 0, .int .u8 0, .string ⟨#[]⟩, .int .i64 0, .int .u8 0, .string ⟨#[]⟩, .int .i64 0, .int .u8 0, .string ⟨#[]⟩, .int .i64 0, .int .u8 0, .string ⟨#[]⟩, .int .i64 0, .int .u8 0, .string ⟨#[]⟩] 41)).alloc (by simp) (.cells #[.int .i64 0, .int .i64 0] 58)
    have rP := row_pair (w10.alloc (.cells #[.int .i64 0, .int .i64 0, .int .u8 0, .string ⟨#[]⟩, .int .i64 0, .int .u8 0, .string ⟨#[]⟩, .int .i64 0, .int .u8 0, .string ⟨#[]⟩, .int .i64 0, .int .u8 0, .string ⟨#[]⟩, .int .i64 0, .int .u8 0, .string ⟨#[]⟩, .int .i64 0, .int .u8 0, .string ⟨#[]⟩, .int .i64 0, .int .u8 0, .string ⟨#[]⟩, .int .i64 0, .int .u8 0, .string ⟨#[]⟩, .int .i64 0, .int .u8 0, .string ⟨#[]⟩, .int .i64 0, .int .u8 0, .string ⟨#[]⟩] 41)) 58 (.int .i64 0) (.int .i64 0) (fun _ => .int .i64 0) rfl rfl
    rw [show (w10.alloc (.cells #[.int .i64 0, .int .i64 0, .int .u8 0, .string ⟨#[]⟩, .int .i64 0, .int .u8 0, .string ⟨#[]⟩, .int .i64 0, .int .u8 0, .string ⟨#[]⟩, .int .i64 0, .int .u8 0, .string ⟨#[]⟩, .int .i64 0, .int .u8 0, .string ⟨#[]⟩, .int .i64 0, .int .u8 0, .string ⟨#[]⟩, .int .i64 0, .int .u8 0, .string ⟨#[]⟩, .int .i64 0, .int .u8 0, .string ⟨#[]⟩, .int .i64 0, .int .u8 0, .string ⟨#[]⟩, .int .i64 0, .int .u8 0, .string ⟨#[]⟩] 41)).heap.size = w10.heap.size + 1 by simp] at rP
    have hq23 := eq_slot_yes x0 x1 xs xs rfl
    have hq41 := eq41 hDir
    go_wp2_with (first
      | (refine wpList_store41 rfl (.tmp 17) (.tmp 62) rfl w10.heap.size zF F (rL.alloc _) rfl rfl hone ?_
         refine wpList_store58 rfl (.tmp 18) (.tmp 63) rfl (w10.heap.size + 1) (fun _ => .int .i64 0) (.int .i64 u) (.int .i64 v) (setRow_far (dirOf F) rP (show w10.heap.size + 1 ≠ w10.heap.size by omega)) rfl rfl (by simp [Value.oneCell']) ?_
         have r17 := setRow_far #[.int .i64 u, .int .i64 v] (setRow_row F (rL.alloc (.cells #[.int .i64 0, .int .i64 0] 58))) (show w10.heap.size ≠ w10.heap.size + 1 by omega)
         have r18 := setRow_pair (.int .i64 u) (.int .i64 v) (setRow_far (dirOf F) rP (show w10.heap.size + 1 ≠ w10.heap.size by omega))
         have bE := (b17.trans (setRow_below (b := w10.heap.size) (B := w10.heap.size) (Nat.le_refl _) (dirOf F))).trans (setRow_below (b := w10.heap.size) (B := w10.heap.size + 1) (by omega) #[.int .i64 u, .int .i64 v])
         generalize (((w10.alloc (.cells #[.int .i64 0, .int .i64 0, .int .u8 0, .string ⟨#[]⟩, .int .i64 0, .int .u8 0, .string ⟨#[]⟩, .int .i64 0, .int .u8 0, .string ⟨#[]⟩, .int .i64 0, .int .u8 0, .string ⟨#[]⟩, .int .i64 0, .int .u8 0, .string ⟨#[]⟩, .int .i64 0, .int .u8 0, .string ⟨#[]⟩, .int .i64 0, .int .u8 0, .string ⟨#[]⟩, .int .i64 0, .int .u8 0, .string ⟨#[]⟩, .int .i64 0, .int .u8 0, .string ⟨#[]⟩, .int .i64 0, .int .u8 0, .string ⟨#[]⟩] 41)).alloc (.cells #[.int .i64 0, .int .i64 0] 58)).setRow w10.heap.size (dirOf F)).setRow (w10.heap.size + 1) #[.int .i64 u, .int .i64 v] = w11 at *
         have b6 := B10.out.trans (bE.mono B10.out.size)
         have HrG := hid (above_row b6 HrG.out)
         have HO := hid (lies_above b6 HO.out)
         have HM := hid (lies_above b6 HM.out)
         have HL := hid (lies_above b6 HL.out)
         have HN := hid (lies_above b6 HN.out)
         have HrX := hid (above_row b6 HrX.out)
         have HrB := hid (above_row b6 HrB.out)
         have HE := hid (errType_above HE.out b6)
         have HB := hid (HB.out.trans (b6.mono HB.out.size))
         have HrT := hid (above_row bE HrT.out)
         have HrZ := hid (above_row bE HrZ.out)
         have Hr17 := hid r17
         have Hr18 := hid r18
         obtain ⟨x0', x1', x2', -, -, -⟩ := three _ _ _ _ HrX.out
         obtain ⟨z0', z1', z2', -, -, -⟩ := three _ _ _ _ HrZ.out
         have t0' := HrT.out.cell (i := 0) (by omega)
         have t1' := HrT.out.cell (i := 1) (by omega)
         simp at x0' x1' x2' z0' z1' z2' t0' t1'
         clear rL rP r17 r18 bE b6 b17)
      | fail)
    refine (Ht.out w11 HE.out).mono ?_
    rintro e w12 ⟨rfl, hb⟩
    have HrG := hid (above_row hb HrG.out)
    have HO := hid (lies_above hb HO.out)
    have HM := hid (lies_above hb HM.out)
    have HL := hid (lies_above hb HL.out)
    have HN := hid (lies_above hb HN.out)
    have HrB := hid (above_row hb HrB.out)
    have Hr17 := hid (above_row hb Hr17.out)
    have Hr18 := hid (above_row hb Hr18.out)
    have HE := hid (errType_above HE.out hb)
    have HB := hid (HB.out.trans (hb.mono HB.out.size))
    have t0' := Hr18.out.cell (i := 0) (by omega)
    have t1' := Hr18.out.cell (i := 1) (by omega)
    simp at t0' t1'
    clear hb x0' x1' x2' z0' z1' z2' hq23
    go_wp2_with (first
      | refine wpList_load41g 73 rfl (by rfl) (.tmp 11) rfl w5.heap.size rfl F HrB.out ?_
      | refine wpList_load41g 74 rfl (by rfl) (.tmp 17) rfl w10.heap.size rfl F Hr17.out ?_)
    refine (Ht2.out w12 HE.out).mono ?_
    rintro e w13 ⟨rfl, hb⟩
    have HrG := hid (above_row hb HrG.out)
    have HO := hid (lies_above hb HO.out)
    have HM := hid (lies_above hb HM.out)
    have HL := hid (lies_above hb HL.out)
    have HN := hid (lies_above hb HN.out)
    have HE := hid (errType_above HE.out hb)
    have HB := hid (HB.out.trans (hb.mono HB.out.size))
    clear hb t0' t1' hq41
    go_wp2_with fail
    refine (same_words A1 A m c1 c f w13 (by omega) HO.out HL.out).mono ?_
    rintro e w14 ⟨rfl, hb⟩
    have HrG := hid (above_row hb HrG.out)
    have HO := hid (lies_above hb HO.out)
    have HM := hid (lies_above hb HM.out)
    have HL := hid (lies_above hb HL.out)
    have HN := hid (lies_above hb HN.out)
    have HE := hid (errType_above HE.out hb)
    have HB := hid (HB.out.trans (hb.mono HB.out.size))
    clear hb
    go_wp2_with fail
    refine (same_words A2 A' m' c2 c' f' w14 (by omega) HM.out HN.out).mono ?_
    rintro e w15 ⟨rfl, hb⟩
    have HrG := hid (above_row hb HrG.out)
    have HO := hid (lies_above hb HO.out)
    have HM := hid (lies_above hb HM.out)
    have HL := hid (lies_above hb HL.out)
    have HN := hid (lies_above hb HN.out)
    have HE := hid (errType_above HE.out hb)
    have HB := hid (HB.out.trans (hb.mono HB.out.size))
    clear hb
    go_wp2_with fail
    refine (alive_any _ HE.out).mono ?_
    rintro e w16 ⟨rfl, hb⟩
    have HB := hid (HB.out.trans (hb.mono HB.out.size))
    clear hb
    go_wp2
    go_ret
    exact ⟨rfl, HB.out⟩
  · have h3 := e3
    go_wp2_with (refine wpList_load3 rfl 50 rfl 25 (.tmp 5) rfl w.heap.size rfl (fun j => if j = 0 then .int .i64 p else if j = 1 then .int .i64 i else .int .i64 b) _ Tryd.underlying25 rfl info25 (above_row B6.out HrG.out) ?_)
    refine (Hd23.out hg w7 A c hc (lies_above B6.out HL.out)).mono ?_
    rintro e w8 ⟨rfl, hb⟩
    have B6 := hid (B6.out.trans (hb.mono B6.out.size))
    have HrT := hid (above_row hb HrT.out)
    have HrZ := hid (above_row hb HrZ.out)
    clear hb
    go_wp2_with (first
      | (refine wpList_store23 rfl (.tmp 14) (.tmp 54) rfl (w5.heap.size + 1 + 1) (fun j => if j = 0 then .int .i64 0 else if j = 1 then .int .u8 0 else .string ⟨#[]⟩) x0 x1 xs (HrZ.out.alloc (.cells #[.int .i64 x0, .int .u8 x1, .string xs] 23)) rfl rfl ?_
         have rZ := setRow_three x0 x1 xs (HrZ.out.alloc (.cells #[.int .i64 x0, .int .u8 x1, .string xs] 23))
         have rT := setRow_far #[.int .i64 x0, .int .u8 x1, .string xs] (HrT.out.alloc (.cells #[.int .i64 x0, .int .u8 x1, .string xs] 23)) (show w5.heap.size + 1 ≠ w5.heap.size + 1 + 1 by omega)
         have b8 := (B6.out.alloc B6.out.size (.cells #[.int .i64 x0, .int .u8 x1, .string xs] 23)).trans (setRow_below (b := w6.heap.size) (B := w5.heap.size + 1 + 1) (by omega) #[.int .i64 x0, .int .u8 x1, .string xs])
         generalize (w8.alloc (.cells #[.int .i64 x0, .int .u8 x1, .string xs] 23)).setRow (w5.heap.size + 1 + 1) #[.int .i64 x0, .int .u8 x1, .string xs] = w8b at *
         obtain ⟨t0', t1', ft0⟩ : w8b.cell? ⟨w5.heap.size + 1, 0, none⟩ = some (.int .i64 0) ∧ w8b.cell? ⟨w5.heap.size + 1, 1, none⟩ = some (.int .i64 2) ∧ w8b.frozen? ⟨w5.heap.size + 1, 1, none⟩ = false := ⟨rT.cell (by omega), rT.cell (by omega), rT.frozen 1⟩
         have bV : Below w6.heap.size w6 (w8b.setCell ⟨w5.heap.size + 1, 1, none⟩ (.int .i64 7)) := (b8.setCell (p := ⟨w5.heap.size + 1, 1, none⟩) (show w6.heap.size ≤ w5.heap.size + 1 by omega) (.int .i64 7))
         have rZ7 := rZ.setOther (a := ⟨w5.heap.size + 1, 1, none⟩) (by simp) (.int .i64 7)
         have HrZV := hid (show (w8b.setCell ⟨w5.heap.size + 1, 1, none⟩ (.int .i64 7)).rowIs (w5.heap.size + 1 + 1) 23 3 (fun j => if j = 0 then .int .i64 x0 else if j = 1 then .int .u8 x1 else .string xs) from rZ7)
         have HrTV : Hid ((w8b.setCell ⟨w5.heap.size + 1, 1, none⟩ (.int .i64 7)).rowIs (w5.heap.size + 1) 58 2 (fun j => if j = 0 then .int .i64 0 else .int .i64 er)) := hid (((rT.set 1 (.int .i64 7))).congr (fun j hj => by
           match j, hj with
           | 0, _ => rfl
           | 1, _ => rw [h3]; rfl))
         have HbV := hid bV
         clear rZ rT b8 rZ7 bV)
      | refine wpList_load3 rfl 60 rfl 25 (.tmp 5) rfl w.heap.size rfl (fun j => if j = 0 then .int .i64 p else if j = 1 then .int .i64 i else .int .i64 b) _ Tryd.underlying25 rfl info25 (above_row HbV.out HrG.out) ?_)
    have HrT9 := HrTV
    have HrZ9 := HrZV
    have B6 := HbV
    clear t0' t1' ft0 e3 h3
    generalize (w8b.setCell ⟨w5.heap.size + 1, 1, none⟩ (.int .i64 7)) = w9 at *
    refine (rread_any A' m' c' f' p i b w9 hc' Hf'.out (lies_above B6.out HN.out)).mono ?_
    rintro e w10 ⟨⟨G, hG, rfl⟩, hb⟩
    rw [← Hr.out] at hG ⊢
    have hFG : dirOf G = dirOf F := by
      rcases hG with ⟨h1, h2⟩ | ⟨h1, h2⟩
      · rcases HF.out with ⟨h3, h4⟩ | ⟨h3, -⟩
        · exact dirOf_same h2 h4
        · exact absurd h1 h3
      · rcases HF.out with ⟨h3, -⟩ | ⟨-, h4⟩
        · exact absurd h3 h1
        · rw [h2, h4]
    obtain ⟨dn, di, dk, ds, hDir⟩ : ∃ n a k s, DirIs (dirOf F) n a k s := by
      rcases HF.out with ⟨-, h⟩ | ⟨-, rfl⟩
      · exact ⟨_, _, _, _, h.dir⟩
      · exact ⟨_, _, _, _, zF_is.dir⟩
    rw [hFG, Hfv.out]
    have B10 := hid (B6.out.trans (hb.mono B6.out.size))
    have HrT := hid (above_row hb HrT9.out)
    have HrZ := hid (above_row hb HrZ9.out)
    clear hb hG hFG
    have rL := row_lit w10
    have b17 := ((Below.refl w10.heap.size w10).alloc (Nat.le_refl _) (.cells #[.int .i64 0, .int .i64 0, .int .u8 0, .string ⟨#[]⟩, .int .i64 0, .int .u8 0, .string ⟨#[]⟩, .int .i64 0, .int .u8 0, .string ⟨#[]⟩, .int .i64 0, .int .u8 0, .string ⟨#[]⟩, .int .i64 0, .int .u8 0, .string ⟨#[]⟩, .int .i64 0, .int .u8 0, .string ⟨#[]⟩, .int .i64 0, .int .u8 0, .string ⟨#[]⟩, .int .i64 0, .int .u8 0, .string ⟨#[]⟩, .int .i64 0, .int .u8 0, .string ⟨#[]⟩, .int .i64 0, .int .u8 0, .string ⟨#[]⟩] 41)).alloc (by simp) (.cells #[.int .i64 0, .int .i64 0] 58)
    have rP := row_pair (w10.alloc (.cells #[.int .i64 0, .int .i64 0, .int .u8 0, .string ⟨#[]⟩, .int .i64 0, .int .u8 0, .string ⟨#[]⟩, .int .i64 0, .int .u8 0, .string ⟨#[]⟩, .int .i64 0, .int .u8 0, .string ⟨#[]⟩, .int .i64 0, .int .u8 0, .string ⟨#[]⟩, .int .i64 0, .int .u8 0, .string ⟨#[]⟩, .int .i64 0, .int .u8 0, .string ⟨#[]⟩, .int .i64 0, .int .u8 0, .string ⟨#[]⟩, .int .i64 0, .int .u8 0, .string ⟨#[]⟩, .int .i64 0, .int .u8 0, .string ⟨#[]⟩] 41)) 58 (.int .i64 0) (.int .i64 0) (fun _ => .int .i64 0) rfl rfl
    rw [show (w10.alloc (.cells #[.int .i64 0, .int .i64 0, .int .u8 0, .string ⟨#[]⟩, .int .i64 0, .int .u8 0, .string ⟨#[]⟩, .int .i64 0, .int .u8 0, .string ⟨#[]⟩, .int .i64 0, .int .u8 0, .string ⟨#[]⟩, .int .i64 0, .int .u8 0, .string ⟨#[]⟩, .int .i64 0, .int .u8 0, .string ⟨#[]⟩, .int .i64 0, .int .u8 0, .string ⟨#[]⟩, .int .i64 0, .int .u8 0, .string ⟨#[]⟩, .int .i64 0, .int .u8 0, .string ⟨#[]⟩, .int .i64 0, .int .u8 0, .string ⟨#[]⟩] 41)).heap.size = w10.heap.size + 1 by simp] at rP
    have hq23 := eq_slot_yes x0 x1 xs xs rfl
    have hq41 := eq41 hDir
    go_wp2_with (first
      | (refine wpList_store41 rfl (.tmp 17) (.tmp 62) rfl w10.heap.size zF F (rL.alloc _) rfl rfl hone ?_
         refine wpList_store58 rfl (.tmp 18) (.tmp 63) rfl (w10.heap.size + 1) (fun _ => .int .i64 0) (.int .i64 u) (.int .i64 v) (setRow_far (dirOf F) rP (show w10.heap.size + 1 ≠ w10.heap.size by omega)) rfl rfl (by simp [Value.oneCell']) ?_
         have r17 := setRow_far #[.int .i64 u, .int .i64 v] (setRow_row F (rL.alloc (.cells #[.int .i64 0, .int .i64 0] 58))) (show w10.heap.size ≠ w10.heap.size + 1 by omega)
         have r18 := setRow_pair (.int .i64 u) (.int .i64 v) (setRow_far (dirOf F) rP (show w10.heap.size + 1 ≠ w10.heap.size by omega))
         have bE := (b17.trans (setRow_below (b := w10.heap.size) (B := w10.heap.size) (Nat.le_refl _) (dirOf F))).trans (setRow_below (b := w10.heap.size) (B := w10.heap.size + 1) (by omega) #[.int .i64 u, .int .i64 v])
         generalize (((w10.alloc (.cells #[.int .i64 0, .int .i64 0, .int .u8 0, .string ⟨#[]⟩, .int .i64 0, .int .u8 0, .string ⟨#[]⟩, .int .i64 0, .int .u8 0, .string ⟨#[]⟩, .int .i64 0, .int .u8 0, .string ⟨#[]⟩, .int .i64 0, .int .u8 0, .string ⟨#[]⟩, .int .i64 0, .int .u8 0, .string ⟨#[]⟩, .int .i64 0, .int .u8 0, .string ⟨#[]⟩, .int .i64 0, .int .u8 0, .string ⟨#[]⟩, .int .i64 0, .int .u8 0, .string ⟨#[]⟩, .int .i64 0, .int .u8 0, .string ⟨#[]⟩] 41)).alloc (.cells #[.int .i64 0, .int .i64 0] 58)).setRow w10.heap.size (dirOf F)).setRow (w10.heap.size + 1) #[.int .i64 u, .int .i64 v] = w11 at *
         have b6 := B10.out.trans (bE.mono B10.out.size)
         have HrG := hid (above_row b6 HrG.out)
         have HO := hid (lies_above b6 HO.out)
         have HM := hid (lies_above b6 HM.out)
         have HL := hid (lies_above b6 HL.out)
         have HN := hid (lies_above b6 HN.out)
         have HrX := hid (above_row b6 HrX.out)
         have HrB := hid (above_row b6 HrB.out)
         have HE := hid (errType_above HE.out b6)
         have HB := hid (HB.out.trans (b6.mono HB.out.size))
         have HrT := hid (above_row bE HrT.out)
         have HrZ := hid (above_row bE HrZ.out)
         have Hr17 := hid r17
         have Hr18 := hid r18
         obtain ⟨x0', x1', x2', -, -, -⟩ := three _ _ _ _ HrX.out
         obtain ⟨z0', z1', z2', -, -, -⟩ := three _ _ _ _ HrZ.out
         have t0' := HrT.out.cell (i := 0) (by omega)
         have t1' := HrT.out.cell (i := 1) (by omega)
         simp at x0' x1' x2' z0' z1' z2' t0' t1'
         clear rL rP r17 r18 bE b6 b17)
      | fail)
    refine (Ht.out w11 HE.out).mono ?_
    rintro e w12 ⟨rfl, hb⟩
    have HrG := hid (above_row hb HrG.out)
    have HO := hid (lies_above hb HO.out)
    have HM := hid (lies_above hb HM.out)
    have HL := hid (lies_above hb HL.out)
    have HN := hid (lies_above hb HN.out)
    have HrB := hid (above_row hb HrB.out)
    have Hr17 := hid (above_row hb Hr17.out)
    have Hr18 := hid (above_row hb Hr18.out)
    have HE := hid (errType_above HE.out hb)
    have HB := hid (HB.out.trans (hb.mono HB.out.size))
    have t0' := Hr18.out.cell (i := 0) (by omega)
    have t1' := Hr18.out.cell (i := 1) (by omega)
    simp at t0' t1'
    clear hb x0' x1' x2' z0' z1' z2' hq23
    go_wp2_with (first
      | refine wpList_load41g 73 rfl (by rfl) (.tmp 11) rfl w5.heap.size rfl F HrB.out ?_
      | refine wpList_load41g 74 rfl (by rfl) (.tmp 17) rfl w10.heap.size rfl F Hr17.out ?_)
    refine (Ht2.out w12 HE.out).mono ?_
    rintro e w13 ⟨rfl, hb⟩
    have HrG := hid (above_row hb HrG.out)
    have HO := hid (lies_above hb HO.out)
    have HM := hid (lies_above hb HM.out)
    have HL := hid (lies_above hb HL.out)
    have HN := hid (lies_above hb HN.out)
    have HE := hid (errType_above HE.out hb)
    have HB := hid (HB.out.trans (hb.mono HB.out.size))
    clear hb t0' t1' hq41
    go_wp2_with fail
    refine (same_words A1 A m c1 c f w13 (by omega) HO.out HL.out).mono ?_
    rintro e w14 ⟨rfl, hb⟩
    have HrG := hid (above_row hb HrG.out)
    have HO := hid (lies_above hb HO.out)
    have HM := hid (lies_above hb HM.out)
    have HL := hid (lies_above hb HL.out)
    have HN := hid (lies_above hb HN.out)
    have HE := hid (errType_above HE.out hb)
    have HB := hid (HB.out.trans (hb.mono HB.out.size))
    clear hb
    go_wp2_with fail
    refine (same_words A2 A' m' c2 c' f' w14 (by omega) HM.out HN.out).mono ?_
    rintro e w15 ⟨rfl, hb⟩
    have HrG := hid (above_row hb HrG.out)
    have HO := hid (lies_above hb HO.out)
    have HM := hid (lies_above hb HM.out)
    have HL := hid (lies_above hb HL.out)
    have HN := hid (lies_above hb HN.out)
    have HE := hid (errType_above HE.out hb)
    have HB := hid (HB.out.trans (hb.mono HB.out.size))
    clear hb
    go_wp2_with fail
    refine (alive_any _ HE.out).mono ?_
    rintro e w16 ⟨rfl, hb⟩
    have HB := hid (HB.out.trans (hb.mono HB.out.size))
    clear hb
    go_wp2
    go_ret
    exact ⟨rfl, HB.out⟩
set_option maxHeartbeats 1000000 in
set_option maxRecDepth 100000 in
theorem reads_quit (A A' : Option Addr) (m m' c c' : Nat) (p i b : Int) (w : World) (he : ErrType w) (hq : 40 < m ∨ 100 < m') :
    Calls Tryd.prog 6 #[.slice A m c, .slice A' m' c', .agg #[.int .i64 p, .int .i64 i, .int .i64 b]] w fun e w' => e = .returned (.bool true) ∧ Below w.heap.size w w' := by
  have HE := hid (errType_alloc he (.cells #[.int .i64 p, .int .i64 i, .int .i64 b] 25))
  have HB := hid ((Below.refl w.heap.size w).alloc (Nat.le_refl _) (.cells #[.int .i64 p, .int .i64 i, .int .i64 b] 25))
  clear he
  by_cases hm : 40 < m
  · have hmI : (40 : Int) < (m : Int) := by omega
    clear hq
    go_enter Tryd.func6, Tryd.ntmps6
    go_wp2_with fail
    refine (alive_any _ HE.out).mono ?_
    rintro e w16 ⟨rfl, hb⟩
    have HB := hid (HB.out.trans (hb.mono HB.out.size))
    clear hb
    go_wp2
    go_ret
    exact ⟨rfl, HB.out⟩
  · have hmI : (m : Int) ≤ 40 := by omega
    have hmd : decide ((40 : Int) < (m : Int)) = false := by simp; omega
    have hmI' : (100 : Int) < (m' : Int) := by omega
    clear hq
    go_enter Tryd.func6, Tryd.ntmps6
    go_wp2_with fail
    refine (alive_any _ HE.out).mono ?_
    rintro e w16 ⟨rfl, hb⟩
    have HB := hid (HB.out.trans (hb.mono HB.out.size))
    clear hb
    go_wp2
    go_ret
    exact ⟨rfl, HB.out⟩
end Go.Proofs.YtejapeafepcacaaDoor
