/- The document's answer: what three words are read as. -/
import Derived.Test.YtejapeafepcacaaDoorRefF
import Derived.Test.YtejapeafepcacaaDoorSlot
namespace Go.Proofs.YtejapeafepcacaaDoor
open Go.RowKit
theorem decide_bool {p : Prop} [Decidable p] {b : Bool} (h : p ↔ b = true) : decide p = b := by cases b <;> simp_all
/-- What words are read as: the slot, or the empty one. -/
def decSlot (m : Nat) (f : Nat → Nat) (i : Int) : Value := if m = 3 ∧ decB f i = true then .agg #[.int .i64 (inoN f : Nat), .int .u8 (kindN f : Nat), .string ⟨(textW f (nameN f)).toArray⟩] else .agg #[.int .i64 0, .int .u8 0, .string ⟨#[]⟩]
def decOk (m : Nat) (f : Nat → Nat) (i : Int) : Bool := decide (m = 3) && decB f i
set_option maxHeartbeats 1000000 in
set_option maxRecDepth 100000 in
theorem rdec_len (A : Option Addr) (m cap : Nat) (f : Nat → Nat) (p i b : Int) (w : World) (hm : m ≠ 3) :
    Calls Tryd.prog 23 #[.slice A m cap, .agg #[.int .i64 p, .int .i64 i, .int .i64 b]] w fun e w' => e = .returned (.tuple #[decSlot m f i, .bool (decOk m f i)]) ∧ Below w.heap.size w w' := by
  have hz : Hid (decSlot m f i = .agg #[.int .i64 0, .int .u8 0, .string ⟨#[]⟩]) := hid (by unfold decSlot; rw [if_neg (by simp [hm])])
  have ho : Hid (decOk m f i = false) := hid (by unfold decOk; simp [hm])
  have hm' : ¬ (m : Int) = 3 := by omega
  have rX := row3 (w.alloc (.cells #[.int .i64 p, .int .i64 i, .int .i64 b] 25)) 23 (.int .i64 0) (.int .u8 0) (.string ⟨#[]⟩) (fun j => if j = 0 then .int .i64 0 else if j = 1 then .int .u8 0 else .string ⟨#[]⟩) rfl rfl rfl
  rw [show (w.alloc (.cells #[.int .i64 p, .int .i64 i, .int .i64 b] 25)).heap.size = w.heap.size + 1 by simp] at rX
  have hB := ((Below.refl w.heap.size w).alloc (Nat.le_refl _) (.cells #[.int .i64 p, .int .i64 i, .int .i64 b] 25)).alloc (by simp) (.cells #[.int .i64 0, .int .u8 0, .string ⟨#[]⟩] 23)
  obtain ⟨r0, r1, r2, fr0, fr1, fr2⟩ := three _ _ _ _ rX
  simp at r0 r1 r2
  have HB := hid hB
  clear rX hB
  go_enter Tryd.func23, Tryd.ntmps23
  go_wp2
  refine bodyPost_ret (v := .tuple #[.agg #[.int .i64 0, .int .u8 0, .string ⟨#[]⟩], .bool false]) ?_ rfl ⟨by rw [hz.out, ho.out], ?_⟩
  · simp [results, Tryd.results23, go_sem]
  · exact HB.out
set_option maxHeartbeats 2000000 in
set_option maxRecDepth 100000 in
theorem rdec_three (ad : Addr) (cap : Nat) (f : Nat → Nat) (p i b : Int) (w : World) (hg : gok p i b = true) (hcap : 3 ≤ cap) (hb0 : ad.block < w.heap.size) (hf : ∀ k, f k < 18446744073709551616) (hcell : ∀ k, k < 3 → w.cell? (ad.add k) = some (.int .u64 (f k : Nat))) :
    Calls Tryd.prog 23 #[.slice (some ad) 3 cap, .agg #[.int .i64 p, .int .i64 i, .int .i64 b]] w fun e w' => e = .returned (.tuple #[decSlot 3 f i, .bool (decOk 3 f i)]) ∧ Below w.heap.size w w' := by
  have hno : decB f i = false → decSlot 3 f i = .agg #[.int .i64 0, .int .u8 0, .string ⟨#[]⟩] ∧ decOk 3 f i = false := fun h => ⟨by unfold decSlot; rw [if_neg (by simp [h])], by unfold decOk; simp [h]⟩
  have hyes : decB f i = true → decSlot 3 f i = .agg #[.int .i64 (inoN f : Nat), .int .u8 (kindN f : Nat), .string ⟨(textW f (nameN f)).toArray⟩] ∧ decOk 3 f i = true := fun h => ⟨by unfold decSlot; rw [if_pos ⟨rfl, h⟩], by unfold decOk; simp [h]⟩
  have Hno := hid hno
  have Hyes := hid hyes
  have Hf := hid hf
  have f2 := hf 2
  have hcap2 : (2 : Int) ≤ (cap : Int) := by omega
  have rX := row3 (w.alloc (.cells #[.int .i64 p, .int .i64 i, .int .i64 b] 25)) 23 (.int .i64 0) (.int .u8 0) (.string ⟨#[]⟩) (fun j => if j = 0 then .int .i64 0 else if j = 1 then .int .u8 0 else .string ⟨#[]⟩) rfl rfl rfl
  have rG := (row3 w 25 (.int .i64 p) (.int .i64 i) (.int .i64 b) (fun j => if j = 0 then .int .i64 p else if j = 1 then .int .i64 i else .int .i64 b) rfl rfl rfl).alloc (.cells #[.int .i64 0, .int .u8 0, .string ⟨#[]⟩] 23)
  rw [show (w.alloc (.cells #[.int .i64 p, .int .i64 i, .int .i64 b] 25)).heap.size = w.heap.size + 1 by simp] at rX
  have hB := ((Below.refl w.heap.size w).alloc (Nat.le_refl _) (.cells #[.int .i64 p, .int .i64 i, .int .i64 b] 25)).alloc (by simp) (.cells #[.int .i64 0, .int .u8 0, .string ⟨#[]⟩] 23)
  have Hcell := hid fun (k : Nat) (hk : k < 3) => (hB.cell (p := ad.add k) (by rw [block_of_add]; exact hb0)).trans (hcell k hk)
  have p2 := Hcell.out 2 (by omega)
  rw [add_lit ad 2 (by omega)] at p2
  have p2' := Hcell.out 2 (by omega)
  have HB := hid hB
  have HrX := hid rX
  have HrG := hid rG
  clear rX rG hB hno hyes hf hcell
  go_enter Tryd.func23, Tryd.ntmps23
  go_wp2_with fail
  generalize hW0 : (w.alloc (.cells #[.int .i64 p, .int .i64 i, .int .i64 b] 25)).alloc (.cells #[.int .i64 0, .int .u8 0, .string ⟨#[]⟩] 23) = W0 at *
  clear hW0
  have e1 : IntKind.i64.wrap ((f 2 : Int).tmod 256) = (f 2 : Int) % 256 := by rw [Int.tmod_eq_emod_of_nonneg (by omega), Go.IntWalk.i64_in _ (by omega)]
  have e2 : IntKind.u8.wrap (((f 2 : Int) / 256).tmod 256) = (f 2 : Int) / 256 % 256 := by rw [Int.tmod_eq_emod_of_nonneg (by omega), IntKind.wrap_u8]; omega
  by_cases hn : nameN f ≤ 16
  · have hbW := HB.out.size
    refine (rtext_any (some ad) 2 cap (nameN f) _ (by unfold nameN; omega) f W0 (by omega) (by omega) Hf.out (by omega) (.inr ⟨ad, rfl, by omega, fun k hk => Hcell.out k (by omega)⟩)).mono ?_
    rintro e W1 ⟨rfl, hb⟩
    have HrXa := hid (above_row hb HrX.out)
    have HrGa := hid (above_row hb HrG.out)
    have HBa := hid (HB.out.trans (hb.mono HB.out.size))
    have Hpa := hid fun (k : Nat) (hk : k < 3) => above hb (Hcell.out k hk)
    have q2 := above hb p2
    clear hb p2 p2'
    go_wp2_with fail
    go_cut [8, 9] (fun v8 v9 wx => ∃ gx, v8 = .int .i64 0 ∧ v9 = .pointer (some ⟨gx, 0, none⟩) ∧ wx.rowIs gx 23 3 (fun j => if j = 0 then .int .i64 ((f 2 : Int) % 256) else if j = 1 then .int .u8 ((f 2 : Int) / 256 % 256) else .string ⟨(textW f (nameN f)).toArray⟩) ∧ Below W1.heap.size W1 wx)
    case first =>
      go_region_held3 (fun w' => w'.cell? ⟨ad.block, ad.off + 2, none⟩ = some (.int .u64 (f 2 : Nat))) (go_keep) (fail)
      go_wp2_with fail
      go_meet
      exact ⟨W1.heap.size, rfl, rfl, row3 W1.drew 23 _ _ _ (fun j => if j = 0 then .int .i64 ((f 2 : Int) % 256) else if j = 1 then .int .u8 ((f 2 : Int) / 256 % 256) else .string ⟨(textW f (nameN f)).toArray⟩) rfl rfl rfl, ((Below.refl _ _).drew).alloc (Nat.le_refl _) _⟩
    case rest =>
      obtain ⟨gx, rfl, rfl, rT, hby⟩ := hcut
      have HrX1 := hid (above_row hby HrXa.out)
      have HrG1 := hid (above_row hby HrGa.out)
      have HB1 := hid (HBa.out.trans (hby.mono HBa.out.size))
      have Hp1 := hid fun (k : Nat) (hk : k < 3) => (hby.cell (p := ad.add k) (by rw [block_of_add]; have := HBa.out.size; omega)).trans (Hpa.out k hk)
      have HrT1 := hid rT
      clear hby rT q2
      obtain ⟨t0, t1, t2, -, -, -⟩ := three _ _ _ _ HrT1.out
      obtain ⟨g0, g1, g2, -, -, -⟩ := three _ _ _ _ HrG1.out
      simp at t0 t1 t2 g0 g1 g2
      go_wp2_with fail
      refine (rmay_any _ _ p i b _ (by rw [show (ByteArray.mk (textW f (nameN f)).toArray).size = (textW f (nameN f)).length by simp [ByteArray.size], textW_length]; omega) _).mono ?_
      rintro e w3 ⟨rfl, hb3⟩
      have HrX3 := hid (above_row hb3 HrX1.out)
      have HrT3 := hid (above_row hb3 HrT1.out)
      have HB3 := hid (HB1.out.trans (hb3.mono HB1.out.size))
      have Hp3 := hid fun (k : Nat) (hk : k < 3) => above hb3 (Hp1.out k hk)
      clear hb3
      have HM : Hid (mayB ((f 2 : Int) % 256) ((f 2 : Int) / 256 % 256) (ByteArray.mk (textW f (nameN f)).toArray).data.toList p i b = slotB (inoN f : Nat) (kindN f : Nat) (textW f (nameN f)) i) := hid (by
        unfold mayB
        rw [hg, Bool.true_and, show (ByteArray.mk (textW f (nameN f)).toArray).data.toList = textW f (nameN f) by simp, show ((f 2 : Int) % 256) = (inoN f : Nat) by unfold inoN; omega, show ((f 2 : Int) / 256 % 256) = (kindN f : Nat) by unfold kindN; omega])
      cases hsl : slotB (inoN f : Nat) (kindN f : Nat) (textW f (nameN f)) i
      · have Hbad := hid (show decB f i = false by unfold decB; rw [hsl]; simp)
        rw [HM.out, hsl]
        clear t0 t1 t2 g0 g1 g2 HM hsl
        have HrXn := HrX3
        have HBn := HB3
        obtain ⟨r0, r1, r2, fr0, fr1, fr2⟩ := three _ _ _ _ HrXn.out
        simp at r0 r1 r2
        go_wp2
        refine bodyPost_ret (v := .tuple #[.agg #[.int .i64 0, .int .u8 0, .string ⟨#[]⟩], .bool false]) ?_ rfl ⟨by rw [(Hno.out Hbad.out).1, (Hno.out Hbad.out).2], ?_⟩
        · simp [results, Tryd.results23, go_sem, r0, r1, r2]
        · exact ((HBn.out.setCell (p := ⟨w.heap.size + 1, 0, none⟩) (by simp) _).setCell (p := ⟨w.heap.size + 1, 1, none⟩) (by simp) _).setCell (p := ⟨w.heap.size + 1, 2, none⟩) (by simp) _
      · rw [HM.out, hsl]
        clear t0 t1 t2 g0 g1 g2 HM
        obtain ⟨t0, t1, t2, -, -, -⟩ := three _ _ _ _ HrT3.out
        simp at t0 t1 t2
        have Hsl := hid hsl
        clear hsl
        go_wp2_with fail
        have hi64 : i ≤ 64 := (gok_iff.1 hg).2.2.2.1
        refine (rencode_any ((f 2 : Int) % 256) ((f 2 : Int) / 256 % 256) i _ _ hi64 (by
          rw [show (ByteArray.mk (textW f (nameN f)).toArray).data.toList = textW f (nameN f) by simp, show ((f 2 : Int) % 256) = (inoN f : Nat) by unfold inoN; omega, show ((f 2 : Int) / 256 % 256) = (kindN f : Nat) by unfold kindN; omega]; exact Hsl.out)).mono ?_
        rintro e w4 ⟨g4, rfl, -, hr4, hb4⟩
        have HrX4 := hid (above_row hb4 HrX3.out)
        have HrT4 := hid (above_row hb4 HrT3.out)
        have HB4 := hid (HB3.out.trans (hb4.mono HB3.out.size))
        have Hp4 := hid fun (k : Nat) (hk : k < 3) => above hb4 (Hp3.out k hk)
        have Hr4 := hid hr4
        clear hb4 hr4 t0 t1 t2
        have hs1 := same_go ⟨g4, 0, none⟩ ad 3 3 cap (fun j => (wordsF ((f 2 : Int) % 256) ((f 2 : Int) / 256 % 256) (ByteArray.mk (textW f (nameN f)).toArray).data.toList j : Nat)) (fun j => (f j : Nat)) w4 (by omega) (fun j hj => by
          rw [show (⟨g4, 0, none⟩ : Addr).add j = ⟨g4, j, none⟩ by unfold Addr.add; split <;> simp_all]; exact Hr4.out.cell hj) Hp4.out
        have hd : (∀ j, j < 3 → ((wordsF ((f 2 : Int) % 256) ((f 2 : Int) / 256 % 256) (ByteArray.mk (textW f (nameN f)).toArray).data.toList j : Nat) : Int) = ((f j : Nat) : Int)) ↔ decB f i = true := by
          unfold decB
          rw [decide_eq_true hn, Hsl.out, Bool.true_and, Bool.true_and, show (ByteArray.mk (textW f (nameN f)).toArray).data.toList = textW f (nameN f) by simp, show ((f 2 : Int) % 256) = (inoN f : Nat) by unfold inoN; omega, show ((f 2 : Int) / 256 % 256) = (kindN f : Nat) by unfold kindN; omega]
          unfold eqB3
          rw [decide_eq_true_iff]
          refine ⟨fun h => ⟨by exact_mod_cast h 0 (by omega), by exact_mod_cast h 1 (by omega), by exact_mod_cast h 2 (by omega)⟩, fun ⟨a0, a1, a2⟩ j hj => ?_⟩
          match j, hj with
          | 0, _ => exact_mod_cast a0
          | 1, _ => exact_mod_cast a1
          | 2, _ => exact_mod_cast a2
        have Hs1 := hid (hs1.mono (R' := fun e y => e = .returned (.bool (decB f i)) ∧ Below w4.heap.size w4 y) (fun e y h => ⟨h.1.trans (congrArg (fun x => Ending.returned (Value.bool x)) (decide_bool hd)), h.2⟩))
        clear hs1 hd
        go_wp2_with fail
        refine Hs1.out.mono ?_
        rintro e w5 ⟨rfl, hb5⟩
        have HrX5 := hid (above_row hb5 HrX4.out)
        have HrT5 := hid (above_row hb5 HrT4.out)
        have HB5 := hid (HB4.out.trans (hb5.mono HB4.out.size))
        clear hb5 Hs1
        cases hdd : decB f i
        · have Hbad := hid hdd
          clear hdd
          have HrXn := HrX5
          have HBn := HB5
          obtain ⟨r0, r1, r2, fr0, fr1, fr2⟩ := three _ _ _ _ HrXn.out
          simp at r0 r1 r2
          go_wp2
          refine bodyPost_ret (v := .tuple #[.agg #[.int .i64 0, .int .u8 0, .string ⟨#[]⟩], .bool false]) ?_ rfl ⟨by rw [(Hno.out Hbad.out).1, (Hno.out Hbad.out).2], ?_⟩
          · simp [results, Tryd.results23, go_sem, r0, r1, r2]
          · exact ((HBn.out.setCell (p := ⟨w.heap.size + 1, 0, none⟩) (by simp) _).setCell (p := ⟨w.heap.size + 1, 1, none⟩) (by simp) _).setCell (p := ⟨w.heap.size + 1, 2, none⟩) (by simp) _
        · have Hgood := hid hdd
          clear hdd
          obtain ⟨t0, t1, t2, -, -, -⟩ := three _ _ _ _ HrT5.out
          obtain ⟨r0, r1, r2, fr0, fr1, fr2⟩ := three _ _ _ _ HrX5.out
          simp at t0 t1 t2 r0 r1 r2
          go_wp2
          refine bodyPost_ret (v := .tuple #[.agg #[.int .i64 ((f 2 : Int) % 256), .int .u8 ((f 2 : Int) / 256 % 256), .string ⟨(textW f (nameN f)).toArray⟩], .bool true]) ?_ rfl ⟨by rw [(Hyes.out Hgood.out).1, (Hyes.out Hgood.out).2, show ((inoN f : Nat) : Int) = (f 2 : Int) % 256 by unfold inoN; omega, show ((kindN f : Nat) : Int) = (f 2 : Int) / 256 % 256 by unfold kindN; omega], ?_⟩
          · simp [results, Tryd.results23, go_sem, r0, r1, r2]
          · exact ((HB5.out.setCell (p := ⟨w.heap.size + 1, 0, none⟩) (by simp) _).setCell (p := ⟨w.heap.size + 1, 1, none⟩) (by simp) _).setCell (p := ⟨w.heap.size + 1, 2, none⟩) (by simp) _
  · have hbad : decB f i = false := by unfold decB; rw [decide_eq_false hn]; rfl
    have Hbad := hid hbad
    clear hbad
    refine (rtext_far (some ad) 2 cap (nameN f) _ (by unfold nameN; omega) W0 (by omega) (by omega) (by unfold nameN; omega)).mono ?_
    rintro e W1 ⟨rfl, rfl⟩
    go_wp2_with fail
    go_cut [8, 9] (fun v8 v9 wx => ∃ gx, v8 = .int .i64 2 ∧ v9 = .pointer (some ⟨gx, 0, none⟩) ∧ wx.rowIs gx 23 3 (fun j => if j = 0 then .int .i64 ((f 2 : Int) % 256) else if j = 1 then .int .u8 ((f 2 : Int) / 256 % 256) else .string ⟨#[]⟩) ∧ Below W0.heap.size W0 wx)
    case first =>
      go_region_held3 (fun w' => w'.cell? ⟨ad.block, ad.off + 2, none⟩ = some (.int .u64 (f 2 : Nat))) (go_keep) (fail)
      go_wp2_with fail
      go_meet
      exact ⟨W0.heap.size, rfl, rfl, row3 W0.drew 23 _ _ _ (fun j => if j = 0 then .int .i64 ((f 2 : Int) % 256) else if j = 1 then .int .u8 ((f 2 : Int) / 256 % 256) else .string ⟨#[]⟩) rfl rfl rfl, ((Below.refl _ _).drew).alloc (Nat.le_refl _) _⟩
    case rest =>
      obtain ⟨gx, rfl, rfl, rT, hby⟩ := hcut
      have HrXn := hid (above_row hby HrX.out)
      have HBn := hid (HB.out.trans (hby.mono HB.out.size))
      clear hby rT
      obtain ⟨r0, r1, r2, fr0, fr1, fr2⟩ := three _ _ _ _ HrXn.out
      simp at r0 r1 r2
      go_wp2
      refine bodyPost_ret (v := .tuple #[.agg #[.int .i64 0, .int .u8 0, .string ⟨#[]⟩], .bool false]) ?_ rfl ⟨by rw [(Hno.out Hbad.out).1, (Hno.out Hbad.out).2], ?_⟩
      · simp [results, Tryd.results23, go_sem, r0, r1, r2]
      · exact ((HBn.out.setCell (p := ⟨w.heap.size + 1, 0, none⟩) (by simp) _).setCell (p := ⟨w.heap.size + 1, 1, none⟩) (by simp) _).setCell (p := ⟨w.heap.size + 1, 2, none⟩) (by simp) _
theorem rdecode_any (A : Option Addr) (m cap : Nat) (f : Nat → Nat) (p i b : Int) (w : World) (hg : gok p i b = true) (hmc : m ≤ cap) (hf : ∀ k, f k < 18446744073709551616) (hl : Lies w A m f) :
    Calls Tryd.prog 23 #[.slice A m cap, .agg #[.int .i64 p, .int .i64 i, .int .i64 b]] w fun e w' => e = .returned (.tuple #[decSlot m f i, .bool (decOk m f i)]) ∧ Below w.heap.size w w' := by
  by_cases hm : m = 3
  · subst hm
    rcases hl with h | ⟨ad, rfl, hlt, hc⟩
    · omega
    · exact rdec_three ad cap f p i b w hg hmc hlt hf hc
  · exact rdec_len A m cap f p i b w hm
end Go.Proofs.YtejapeafepcacaaDoor
