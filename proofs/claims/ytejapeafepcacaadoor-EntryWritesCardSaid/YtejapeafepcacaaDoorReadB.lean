/- entry.Read: the loop over the slots. -/
import Derived.Test.YtejapeafepcacaaDoorReadA
import Derived.Test.YtejapeafepcacaaDoorTurnedB
import Derived.Deep.RegionHeld3
import Derived.Deep.DeepCutAuto
import Derived.StillTailTactics
namespace Go.Proofs.YtejapeafepcacaaDoor
open Go.RowKit Go.Deep
def slotAt (f : Nat → Nat) (k : Nat) (r : Nat) : Nat := f (2 + 3 * k + r)
def rIno (f : Nat → Nat) (k : Nat) : Int := (inoN (slotAt f k) : Nat)
def rKind (f : Nat → Nat) (k : Nat) : Int := (kindN (slotAt f k) : Nat)
def rNm (f : Nat → Nat) (k : Nat) : ByteArray := ⟨(textW (slotAt f k) (nameN (slotAt f k))).toArray⟩
def firstK {α : Type} (g : Nat → α) (z : α) (k j : Nat) : α := if j < k then g j else z
theorem firstK_upd {α : Type} (g : Nat → α) (z : α) (k : Nat) : upd (firstK g z k) k (g k) = firstK g z (k + 1) := by
  funext j
  unfold upd firstK
  by_cases h : j = k
  · subst h; simp
  · rw [if_neg h]
    by_cases h2 : j < k
    · rw [if_pos h2, if_pos (by omega)]
    · rw [if_neg h2, if_neg (by omega)]
theorem CellsIs.congr {F : Nat → Value} {n : Int} {a a' c c' : Nat → Int} {s s' : Nat → ByteArray} (h : CellsIs F n a c s) (ha : ∀ k, k < 10 → a k = a' k) (hc : ∀ k, k < 10 → c k = c' k) (hs : ∀ k, k < 10 → s k = s' k) : CellsIs F n a' c' s' :=
  ⟨h.h0, fun k hk => by rw [h.h1 k hk, ha k hk], fun k hk => by rw [h.h2 k hk, hc k hk], fun k hk => by rw [h.h3 k hk, hs k hk]⟩
/-- errors.As at a fault, by the row it writes. -/
theorem as_row (x y : Int) (t : Nat) (G : Nat → Value) (w : World) (hg : ErrType w) (hr : w.rowIs t 58 2 G) :
    Calls Tryd.prog 36 #[.iface 58 (.agg #[.int .i64 x, .int .i64 y]), .iface 77 (.pointer (some ⟨t, 0, none⟩))] w fun e w' => e = .returned (.bool true) ∧ w'.rowIs t 58 2 (fun j => if j = 1 then .int .i64 y else .int .i64 x) ∧
      (∀ g, g < w.heap.size → g ≠ t → w'.heap[g]? = w.heap[g]?) ∧ Below t w w' := by
  refine (as_hit x y t _ _ w hg (hr.cell (i := 0) (by omega)) (hr.cell (i := 1) (by omega)) (hr.frozen 0) (hr.frozen 1)).mono ?_
  rintro e w' ⟨rfl, rfl⟩
  have ht := hr.lt
  refine ⟨rfl, ?_, fun g hgl hne => ?_, ?_⟩
  · refine ((((((hr.alloc _).alloc _).alloc _).alloc _).set 0 (.int .i64 x)).set 1 (.int .i64 y)).congr (fun j hj => ?_)
    match j, hj with
    | 0, _ => rfl
    | 1, _ => rfl
  · rw [blk_setCell_other _ _ _ _ hne, blk_setCell_other _ _ _ _ hne, blk_alloc_lt _ _ _ (by simp; omega), blk_alloc_lt _ _ _ (by simp; omega), blk_alloc_lt _ _ _ (by simp; omega), blk_alloc_lt _ _ _ hgl]
  · exact ((((((Below.refl t w).alloc (by omega) _).alloc (by simp; omega) _).alloc (by simp; omega) _).alloc (by simp; omega) _).setCell (p := ⟨t, 0, none⟩) (Nat.le_refl _) _).setCell (p := ⟨t, 1, none⟩) (Nat.le_refl _) _
set_option maxRecDepth 100000 in
theorem as_nil (t : Addr) (w : World) :
    Calls Tryd.prog 36 #[.nilIface, .iface 77 (.pointer (some t))] w fun e w' => e = .returned (.bool false) ∧ w = w' := by
  go_enter Tryd.func36, Tryd.ntmps36
  go_wp2
  try rw [Exit.noGoto_ret]
  go_ret
  exact ⟨rfl, rfl⟩
theorem slice3 (g k cap : Nat) (h : k < 10) (hc : 32 ≤ cap) (w : World) : (Instr.sliceAt 28 (.slice (some ⟨g, 0, none⟩) 32 cap) (some (.int .i64 (2 + 3 * (k : Int)))) (some (.int .i64 (2 + 3 * (k : Int) + 3))) none).run Tryd.prog w = .ok (.slice (some ⟨g, 2 + 3 * k, none⟩) 3 (cap - (2 + 3 * k))) w := by
  have t1 : (2 + 3 * (k : Int)).toNat = 2 + 3 * k := by omega
  have t2 : (2 + 3 * (k : Int) + 3).toNat = 2 + 3 * k + 3 := by omega
  have e1 : 0 ≤ 2 + 3 * (k : Int) + 3 ∧ 2 + 3 * (k : Int) + 3 ≤ (cap : Int) := by omega
  have e2 : 0 ≤ 2 + 3 * (k : Int) ∧ 2 + 3 * (k : Int) ≤ max (2 + 3 * (k : Int) + 3) 0 := by omega
  have e3 : ¬ cap = 2 + 3 * k := by omega
  go_simp
  intro hx
  exact absurd hx (by omega)
theorem dec_two (g o : Nat) (f : Nat → Nat) (k : Nat) (p i b : Int) (h : gok p i b = true) (hf : ∀ k, f k < 18446744073709551616) : ∃ (x0 x1 : Int) (xs : ByteArray) (Y : Value),
    ((decB (slotAt f k) i = true ∧ x0 = rIno f k ∧ x1 = rKind f k ∧ xs = rNm f k ∧ Y = .nilIface) ∨ (decB (slotAt f k) i = false ∧ Y = .iface 58 (.agg #[.int .i64 0, .int .i64 7]))) ∧
    ∀ (W : World) (cp : Nat), g < W.heap.size → 3 ≤ cp → (∀ r, r < 3 → W.cell? ⟨g, o + r, none⟩ = some (.int .u64 (slotAt f k r : Nat))) →
      Calls Tryd.prog 10 #[.slice (some ⟨g, o, none⟩) 3 cp, .agg #[.int .i64 p, .int .i64 i, .int .i64 b]] W fun e w' => e = .returned (.tuple #[.agg #[.int .i64 x0, .int .u8 x1, .string xs], Y]) ∧ Below W.heap.size W w' := by
  cases hd : decB (slotAt f k) i
  · exact ⟨0, 0, ⟨#[]⟩, _, .inr ⟨rfl, rfl⟩, fun W cp hg hc hcell => decode_bad ⟨g, o, none⟩ cp (slotAt f k) p i b W h hg hc (fun r => hf _) (fun r hr => by rw [Addr.add_mid]; exact hcell r hr) hd⟩
  · exact ⟨_, _, _, _, .inl ⟨rfl, rfl, rfl, rfl, rfl⟩, fun W cp hg hc hcell => decode_ok ⟨g, o, none⟩ cp (slotAt f k) p i b W h hg hc (fun r => hf _) (fun r hr => by rw [Addr.add_mid]; exact hcell r hr) hd⟩
def slotW (w : World) (B q : Nat) (a c : Int) (s : ByteArray) : World := w.setCells B (1 + q * 3) [.int .i64 a, .int .u8 c, .string s]
theorem slotW_row {w : World} {B : Nat} {F : Nat → Value} (hr : w.rowIs B 41 31 F) (q : Nat) (a c : Int) (s : ByteArray) : (slotW w B q a c s).rowIs B 41 31 (slotF F q a c s) := by
  have h := ((hr.set (1 + q * 3) (.int .i64 a)).set (1 + q * 3 + 1) (.int .u8 c)).set (1 + q * 3 + 1 + 1) (.string s)
  refine World.rowIs.congr (w := slotW w B q a c s) h (fun j _ => ?_)
  unfold slotF
  rw [show 1 + q * 3 = 1 + 3 * q by omega]
theorem slotW_far {w : World} {B g t n : Nat} {G : Nat → Value} (hr : w.rowIs g t n G) (hne : g ≠ B) (q : Nat) (a c : Int) (s : ByteArray) : (slotW w B q a c s).rowIs g t n G :=
  ((hr.setOther (a := ⟨B, 1 + q * 3, none⟩) hne _).setOther (a := ⟨B, 1 + q * 3 + 1, none⟩) hne _).setOther (a := ⟨B, 1 + q * 3 + 1 + 1, none⟩) hne _
theorem slotW_below {w w' : World} {b B : Nat} (hb : Below b w w') (h : b ≤ B) (q : Nat) (a c : Int) (s : ByteArray) : Below b w (slotW w' B q a c s) :=
  ((hb.setCell (p := ⟨B, 1 + q * 3, none⟩) h _).setCell (p := ⟨B, 1 + q * 3 + 1, none⟩) h _).setCell (p := ⟨B, 1 + q * 3 + 1 + 1, none⟩) h _
theorem wpList_store_slotW {ops : Array Oper} {rest : List Oper} {op : Oper} {A : Act} {w : World} {F : Nat → Value} {Q : Exit → Act → World → Prop} (hgd : op.guard = none) (x y : Operand) (ho : op.op = .store 23 x y)
    (B q : Nat) (a c : Int) (s : ByteArray) (hr : w.rowIs B 41 31 F) (hq : q < 10) (hx : A.eval x = .pointer (some ⟨B, 1 + q * 3, none⟩)) (hy : A.eval y = .agg #[.int .i64 a, .int .u8 c, .string s])
    (h : wpList Tryd.prog ops Q rest (A.put op.dst undef) (slotW w B q a c s)) : wpList Tryd.prog ops Q (op :: rest) A w :=
  wpList_store_mid hgd 23 x y ho B (1 + q * 3) #[.int .i64 a, .int .u8 c, .string s] hx hy (fun j hj => ⟨by rw [hr.cell (by simp at hj; omega)]; rfl, hr.frozen _⟩) info23 (one3 a c s) h
theorem setRow_cell {w : World} {g B : Nat} (hne : ¬ g = B) (cs : Array Value) (j : Nat) : (w.setRow B cs).cell? ⟨g, j, none⟩ = w.cell? ⟨g, j, none⟩ := World.cell?_of_block (setRow_other w B g cs hne)
attribute [local irreducible] dirOf

set_option maxHeartbeats 4000000 in
set_option maxRecDepth 100000 in
theorem read_go (g cap : Nat) (f : Nat → Nat) (p i b : Int) (w : World) (he : ErrType w) (h : gok p i b = true) (hg : g < w.heap.size) (hcap : 32 ≤ cap) (hf : ∀ k, f k < 18446744073709551616) (hcell : ∀ k, k < 32 → w.cell? ⟨g, k, none⟩ = some (.int .u64 (f k : Nat)))
    (hh : f 0 / 4294967296 = 1145655857) (hn : (f 0 % 4294967296 : Nat) ≤ b) (h1 : f 1 = 0) :
    Calls Tryd.prog 22 #[.slice (some ⟨g, 0, none⟩) 32 cap, .agg #[.int .i64 p, .int .i64 i, .int .i64 b]] w fun e w' => (((∀ k, k < 10 → decB (slotAt f k) i = true) ∧ ∃ F, CellsIs F ((f 0 % 256 : Nat) : Int) (rIno f) (rKind f) (rNm f) ∧ e = .returned (.tuple #[.agg (dirOf F), .nilIface])) ∨
      ∃ k, k < 10 ∧ (∀ j, j < k → decB (slotAt f j) i = true) ∧ decB (slotAt f k) i = false ∧ e = .returned (.tuple #[.agg (dirOf zF), .iface 58 (.agg #[.int .i64 ((2 + 3 * k : Nat) : Int), .int .i64 7])])) ∧ Below w.heap.size w w' := by
  have He := hid he
  have Hcell0 := hid hcell
  have H := hid h
  clear h
  go_enter Tryd.func22, Tryd.ntmps22
  go_wp2_with fail
  rw [zero_lit]
  go_step3
  go_wp2_with fail
  refine (check_yes _ _ _ _ H.out).mono ?_
  rintro e w1 ⟨rfl, hb⟩
  have hB := (((Below.refl w.heap.size w).alloc (Nat.le_refl _) (.cells #[.int .i64 p, .int .i64 i, .int .i64 b] 25)).alloc (by simp) (.cells (dirOf zF) 41)).trans (hb.mono (by simp; omega))
  have rZ := row_dirOf (w.alloc (.cells #[.int .i64 p, .int .i64 i, .int .i64 b] 25)) zF
  have HrZ : Hid (w1.rowIs (w.heap.size + 1) 41 31 zF) := by have := above_row hb rZ; rw [show (w.alloc (.cells #[.int .i64 p, .int .i64 i, .int .i64 b] 25)).heap.size = w.heap.size + 1 by simp] at this; exact hid this
  have rG := (row3 w 25 (.int .i64 p) (.int .i64 i) (.int .i64 b) (fun j => if j = 0 then .int .i64 p else if j = 1 then .int .i64 i else .int .i64 b) rfl rfl rfl).alloc (.cells (dirOf zF) 41)
  have HrG := hid (above_row hb rG)
  have HB := hid hB
  have hs1 : w.heap.size + 1 < w1.heap.size := by have := hb.size; simp at this; omega
  clear hb hB rZ rG
  have Hf := hid hf
  have Hcell := hid fun (k : Nat) (hk : k < 32) => above HB.out (hcell k hk)
  clear hf hcell
  have c0 := Hcell.out 0 (by omega)
  have c1 := Hcell.out 1 (by omega)
  have gG := three _ _ _ _ HrG.out
  simp at gG
  have hm0 := mask32 (f 0) (Hf.out 0)
  have hb1 : 4 ≤ b ∧ b ≤ 255 := (gok_iff.1 H.out).2.2.2.2
  have hbw : b % 18446744073709551616 = b := by omega
  have hh' : ((f 0 : Int) / 4294967296 = 1145655857) := by omega
  have hn' : (f 0 : Int) % 4294967296 ≤ b := by omega
  have h1' : ((f 1 : Int) = 0) := by omega
  have hm8 := mask8 (f 0) (Hf.out 0)
  have z0 := HrZ.out.cell (i := 0) (by omega)
  have z0f := HrZ.out.frozen 0
  have hnl : (f 0 % 256 : Nat) < 256 := Nat.mod_lt _ (by omega)
  generalize hnx : f 0 % 256 = nx at *
  have Hnx := hid hnx
  clear hnx hh hn h1
  go_wp2_with fail
  go_quiet (fail)
  go_wp2_with fail
  go_step3
  go_wp2_with fail
  have hnp : w.heap.size + 1 ≠ w.heap.size := by omega
  go_loopw [52] (fun v wr => ∃ k : Nat, k ≤ 10 ∧ v = .int .i64 k ∧ (∃ F, wr.rowIs (w.heap.size + 1) 41 31 F ∧ CellsIs F (nx : Int) (firstK (rIno f) 0 k) (firstK (rKind f) 0 k) (firstK (rNm f) ⟨#[]⟩ k)) ∧ wr.rowIs w1.heap.size 58 2 (fun _ => .int .i64 0) ∧
      wr.rowIs w.heap.size 25 3 (fun j => if j = 0 then .int .i64 p else if j = 1 then .int .i64 i else .int .i64 b) ∧ (∀ j, j < k → decB (slotAt f j) i = true) ∧ Below w.heap.size w wr) (fun v _ => 10 - (intOf v).toNat)
  case atStart =>
    refine ⟨0, by omega, rfl, ⟨_, ((World.rowIs.set (w := w1.drewN nq) HrZ.out 0 (.int .i64 (nx : Nat))).alloc _), ?_⟩, ?_, ((World.rowIs.setOther (w := w1.drewN nq) HrG.out (a := ⟨w.heap.size + 1, 0, none⟩) (by simp) (.int .i64 (nx : Nat))).alloc _), fun j hj => by omega, ?_⟩
    · exact zF_is.turnNext (nx : Int)
    · have := World.rowIs_alloc ((w1.drewN nq).setCell ⟨w.heap.size + 1, 0, none⟩ (.int .i64 (nx : Nat))) #[.int .i64 0, .int .i64 0] 58 (fun _ => .int .i64 0) (fun j hj => match j, hj with
        | 0, _ => rfl
        | 1, _ => rfl)
      simpa using this
    · exact ((below_drewN HB.out nq).setCell (p := ⟨w.heap.size + 1, 0, none⟩) (by simp) _).alloc (by simp; omega) _
  case round =>
    obtain ⟨k, hk, rfl, ⟨F, rB, hF⟩, rT, rG, hS, hB⟩ := hrel
    have HrB := hid rB
    have HF := hid hF
    have HrT := hid rT
    have HrG2 := hid rG
    have HS := hid hS
    have HBr := hid hB
    have gG2 := three _ _ _ _ rG
    have hsz := rT.lt
    clear rB hF rT rG hS hB
    by_cases hlt : k < 10
    · have hlt' : (k : Int) < 10 := by omega
      obtain ⟨o, ho⟩ : ∃ o : Nat, o = 2 + 3 * k := ⟨_, rfl⟩
      have hat : (2 : Int) + 3 * (k : Int) = (o : Int) := by omega
      have e3 : ¬ cap = o := by omega
      have hc1 : (o : Int) + 3 ≤ (cap : Int) := by omega
      have hn0 : (0 : Int) ≤ (o : Int) + 3 := by omega
      have ht3 : ((o : Int) + 3).toNat = o + 3 := by omega
      have ho29 : o ≤ 29 := by omega
      have hw3 := Go.IntWalk.i64_in ((o : Int) + 3) (by omega)
      have hk10 : k ≤ 9 := by omega
      have Ho := hid ho
      clear ho
      obtain ⟨x0, x1, xs, Y, hv, hd⟩ := dec_two g o f k p i b H.out Hf.out
      have Hv := hid hv
      have Hd := hid hd
      have hgl : g < wr.heap.size := by have := HBr.out.size; omega
      have hcap3 : 3 ≤ cap - o := by omega
      have hne1 : ¬ w.heap.size = wr.heap.size := by omega
      have HcB : Hid (∀ r, r < 3 → wr.cell? ⟨g, o + r, none⟩ = some (.int .u64 (slotAt f k r : Nat))) := hid fun r hr => by
        have := above HBr.out (Hcell0.out (o + r) (by omega))
        rw [this, Ho.out]; rfl
      clear hv hd c0 c1 hm0 hm8 z0 z0f gG
      go_wp2_with fail
      go_cut [9, 10] (fun v9 v10 wx => ∃ gx, v9 = .pointer (some ⟨gx, 0, none⟩) ∧ v10 = Y ∧ wx.rowIs gx 23 3 (fun j => if j = 0 then .int .i64 x0 else if j = 1 then .int .u8 x1 else .string xs) ∧ Below wr.heap.size wr wx)
      case first =>
        obtain ⟨g0, g1, g2, -, -, -⟩ := gG2
        simp at g0 g1 g2
        go_region_held3 (fun w' => w'.cell? ⟨w.heap.size, 0, none⟩ = some (.int .i64 p) ∧ w'.cell? ⟨w.heap.size, 1, none⟩ = some (.int .i64 i) ∧ w'.cell? ⟨w.heap.size, 2, none⟩ = some (.int .i64 b))
          (first | (go_keep; done) | (refine ⟨?_, ?_, ?_⟩ <;> (go_keep; done)) | (go_split_ands; refine ⟨above hbx ?_, above hbx ?_, above hbx ?_⟩ <;> assumption) | exact ⟨(World.cell?_setCell_other _ _ _ _ (by simp <;> omega)).trans ((World.cell?_setCell_other _ _ _ _ (by simp <;> omega)).trans ((World.cell?_setCell_other _ _ _ _ (by simp <;> omega)).trans m0)), (World.cell?_setCell_other _ _ _ _ (by simp <;> omega)).trans ((World.cell?_setCell_other _ _ _ _ (by simp <;> omega)).trans ((World.cell?_setCell_other _ _ _ _ (by simp <;> omega)).trans m1)), (World.cell?_setCell_other _ _ _ _ (by simp <;> omega)).trans ((World.cell?_setCell_other _ _ _ _ (by simp <;> omega)).trans ((World.cell?_setCell_other _ _ _ _ (by simp <;> omega)).trans m2))⟩)
          (first | (go_at_call 10; refine (Hd.out _ (cap - o) ?_ hcap3 ?_).mono ?_; (first | exact hgl | (simp; omega)); (first | exact HcB.out | exact fun r hr => (World.cell?_alloc_lt _ _ _ hgl).trans (HcB.out r hr)); rintro e w3 ⟨rfl, hbx⟩; have Hby := hid (by first | exact (Below.refl wr.heap.size wr).drew.trans hbx | exact ((Below.refl wr.heap.size wr).drew.alloc (Nat.le_refl _) (.cells #[.int .i64 0, .int .u8 0, .string ⟨#[]⟩] 23)).trans (hbx.mono (by simp)) : Below wr.heap.size wr w3); have m0 := above Hby.out g0; have m1 := above Hby.out g1; have m2 := above Hby.out g2; (try (obtain ⟨n0, n1, n2, fn0, fn1, fn2⟩ := three _ _ _ _ (above_row hbx (row3 wr 23 (.int .i64 0) (.int .u8 0) (.string ⟨#[]⟩) (fun j => if j = 0 then .int .i64 0 else if j = 1 then .int .u8 0 else .string ⟨#[]⟩) rfl rfl rfl)); simp at n0 n1 n2))))
        all_goals
          have hw3 := Hby.out.size
          go_wp2_with fail
          go_meet
          first
            | exact ⟨w3.heap.size, rfl, rfl, row3 w3 23 _ _ _ (fun j => if j = 0 then .int .i64 x0 else if j = 1 then .int .u8 x1 else .string xs) rfl rfl rfl, Hby.out.alloc Hby.out.size _⟩
            | exact ⟨wr.heap.size, rfl, rfl, set3 (above_row hbx (row3 wr 23 (.int .i64 0) (.int .u8 0) (.string ⟨#[]⟩) (fun j => if j = 0 then .int .i64 0 else if j = 1 then .int .u8 0 else .string ⟨#[]⟩) rfl rfl rfl)) _ _ _ (fun j => if j = 0 then .int .i64 x0 else if j = 1 then .int .u8 x1 else .string xs) rfl rfl rfl, below3 Hby.out (by omega) _ _ _⟩
      case rest =>
        obtain ⟨gx, rfl, rfl, rX, hB3⟩ := hcut
        have HrX := hid rX
        have HrB3 := hid (above_row hB3 HrB.out)
        have HrT3 := hid (above_row hB3 HrT.out)
        have HrG3 := hid (above_row hB3 HrG2.out)
        have HB3 := hid (HBr.out.trans (hB3.mono HBr.out.size))
        have hw3 := hB3.size
        clear rX hB3 gG2
        rcases Hv.out with ⟨hd, rfl, rfl, rfl, rfl⟩ | ⟨hd, rfl⟩
        · go_wp2_with fail
          refine (as_nil _ _).mono ?_
          rintro e w4 ⟨rfl, rfl⟩
          go_wp2_with (first
            | refine wpList_load3 rfl 77 rfl 23 (.tmp 9) rfl gx rfl (fun j => if j = 0 then .int .i64 (rIno f k) else if j = 1 then .int .u8 (rKind f k) else .string (rNm f k)) _ Tryd.underlying23 rfl info23 HrX.out ?_
            | refine wpList_store_slotW rfl (.tmp 79) (.tmp 77) rfl (w.heap.size + 1) k (rIno f k) (rKind f k) (rNm f k) HrB3.out hlt rfl rfl ?_)
          go_roundw
          case rel =>
            refine ⟨k + 1, by omega, by go_num, ⟨_, slotW_row HrB3.out k _ _ _, ?_⟩, slotW_far HrT3.out (by omega) k _ _ _, slotW_far HrG3.out (by omega) k _ _ _, fun j hj => ?_, slotW_below HB3.out (by omega) k _ _ _⟩
            · rw [← firstK_upd, ← firstK_upd, ← firstK_upd]
              exact HF.out.slot k _ _ _
            · by_cases hjk : j = k
              · rw [hjk]; exact hd
              · exact HS.out j (by omega)
          case measure => simp [intOf]; omega
        · go_wp2_with fail
          refine (as_row 0 7 w1.heap.size _ _ (errType_above He.out HB3.out) HrT3.out).mono ?_
          rintro e w5 ⟨rfl, rT5, hold, hb5⟩
          have HrB5 := hid (HrB3.out.of_block (hold (w.heap.size + 1) (by omega) (by omega)))
          have HB5 := hid (HB3.out.trans (hb5.mono (by omega)))
          have k0 := rT5.cell (i := 0) (by omega)
          have k1 := rT5.cell (i := 1) (by omega)
          have kf := rT5.frozen 0
          simp at k0 k1
          have hoz : ¬ w1.heap.size = w.heap.size + 1 := by omega
          have HrB6 := hid (HrB5.out.setOther (a := ⟨w1.heap.size, 0, none⟩) (by simp; omega) (.int .i64 (o : Int)))
          have Hd := hid hd
          have HT5 := hid rT5
          have HB6 := hid (HB5.out.setCell (p := ⟨w1.heap.size, 0, none⟩) (by simp; omega) (.int .i64 (o : Int)))
          clear hold hb5 hd rT5
          go_wp2_with fail
          have kk0 : (w5.setCell ⟨w1.heap.size, 0, none⟩ (.int .i64 (o : Int))).cell? ⟨w1.heap.size, 0, none⟩ = some (.int .i64 (o : Int)) := World.cell?_setCell_same _ _ _ k0
          have kk1 : (w5.setCell ⟨w1.heap.size, 0, none⟩ (.int .i64 (o : Int))).cell? ⟨w1.heap.size, 1, none⟩ = some (.int .i64 7) := (World.cell?_setCell_other _ _ _ _ (by simp)).trans k1
          generalize w5.setCell ⟨w1.heap.size, 0, none⟩ (.int .i64 (o : Int)) = w6 at *
          refine wp_region_held_drew (S := fun w' => w'.cell? ⟨w1.heap.size, 0, none⟩ = some (.int .i64 (o : Int)) ∧ w'.cell? ⟨w1.heap.size, 1, none⟩ = some (.int .i64 7)) (by kernel_rfl) ⟨kk0, kk1⟩ (fun hHeld => ?_)
          refine wpAnyH_take (i := 0) (v := ?v0) rfl (by kernel_rfl) (by kernel_rfl) (by kernel_rfl) (fun _ _ _ h => h) (Or.inl ⟨by rfl, ?y0⟩) (by assumption) ?_
          case y0 => (intro w hSw; go_simp; first | done | with_reducible rfl)
          refine wpAnyH_take (i := 1) (v := ?v1) rfl (by kernel_rfl) (by kernel_rfl) (by kernel_rfl) (fun _ _ _ h => h) (Or.inl ⟨by rfl, ?y1⟩) (by assumption) ?_
          case y1 => (intro w hSw; (try dsimp only at hSw); go_simp; first | done | with_reducible rfl)
          refine wpAnyH_take (i := 2) (v := ?v2) rfl (by kernel_rfl) (by kernel_rfl) (by kernel_rfl) (fun _ _ _ h => h) (Or.inl ⟨by rfl, ?y2⟩) (by assumption) ?_
          case y2 => (intro w hSw; go_simp; first | done | with_reducible rfl)
          refine wpAnyH_ready (rs := [3]) (by kernel_rfl) (by simp) ?_
          refine AllReadyH.cons rfl (fun K hK => ?_) AllReadyH.nil
          refine step_store41 (by rfl) (.tmp 4) (.tmp 84) (by rfl) (w.heap.size + 1) _ zF HrB6.out (by rfl) (by rw [← zero_lit]; rfl) zF_is.one ?_
          refine hK.out _ _ ⟨(setRow_cell hoz _ 0).trans kk0, (setRow_cell hoz _ 1).trans kk1⟩ (fun hHeld2 => ?_)
          refine wpAnyH_take (i := 4) (v := ?v4) rfl (by kernel_rfl) (by kernel_rfl) (by kernel_rfl) (fun _ _ _ h => h) (Or.inl ⟨by rfl, ?y4⟩) (by assumption) ?_
          case y4 => (intro w hSw; go_simp; first | done | with_reducible rfl)
          refine wpAnyH_done (by kernel_rfl) ?_ _
          go_wp2_with fail
          all_goals
            have hl := run_block _ _ _ (setRow_row (w := w6.drew) zF HrB6.out)
            try rw [Exit.noGoto_ret]
            refine bodyPost_ret (v := .tuple #[.agg (dirOf zF), .iface 58 (.agg #[.int .i64 (o : Int), .int .i64 7])]) ?_ rfl ⟨.inr ⟨k, hlt, HS.out, Hd.out, ?_⟩, ?_⟩
            · exact results_cell_tmp Tryd.results22 _ Tryd.prog _ _ _ rfl hl
            · rw [Ho.out]
            · exact HB6.out.drew.trans (setRow_below (b := w.heap.size) (B := w.heap.size + 1) (by omega) _)
    · have h10 : k = 10 := by omega
      subst h10
      obtain ⟨q0, q1⟩ : wr.cell? ⟨w1.heap.size, 0, none⟩ = some (.int .i64 0) ∧ wr.cell? ⟨w1.heap.size, 1, none⟩ = some (.int .i64 0) := ⟨HrT.out.cell (by omega), HrT.out.cell (by omega)⟩
      clear gG2 c0 c1 hm0 hm8 z0 z0f gG
      go_wp2_with (first
        | refine wpList_load41 rfl 87 rfl (.tmp 4) rfl (w.heap.size + 1) rfl F HrB.out ?_
        | refine wpList_store41 rfl (.tmp 4) (.tmp 87) rfl (w.heap.size + 1) F F HrB.out rfl rfl HF.out.one ?_)
      have hl := run_block _ _ _ (setRow_row F HrB.out)
      try rw [Exit.noGoto_ret]
      refine bodyPost_ret (v := .tuple #[.agg (dirOf F), .nilIface]) ?_ rfl ⟨.inl ⟨HS.out, F, ?_, rfl⟩, ?_⟩
      · exact results_cell_tmp Tryd.results22 _ Tryd.prog _ _ _ rfl hl
      · have := HF.out.congr (a' := rIno f) (c' := rKind f) (s' := rNm f) (fun k hk => by unfold firstK; rw [if_pos hk]) (fun k hk => by unfold firstK; rw [if_pos hk]) (fun k hk => by unfold firstK; rw [if_pos hk])
        rw [Hnx.out]
        exact this
      · exact HBr.out.trans (setRow_below (b := w.heap.size) (B := w.heap.size + 1) (by omega) _)
end Go.Proofs.YtejapeafepcacaaDoor
