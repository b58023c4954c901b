/- The document's answer: which words a slot is. -/
import Derived.Test.YtejapeafepcacaaDoorRefD
import Derived.Test.YtejapeafepcacaaDoorEncode
import Derived.StillTailTactics
namespace Go.Proofs.YtejapeafepcacaaDoor
open Go.RowKit
theorem aheadF_lt (ino kind : Nat) (l : List UInt8) (h1 : ino ≤ 64) (h2 : kind ≤ 3) (h3 : l.length ≤ 16) (j : Nat) : aheadF ino kind l j < 18446744073709551616 := by
  unfold aheadF
  split
  · unfold slotLo; omega
  · exact wpack_lt _ _ _
set_option maxHeartbeats 1000000 in
set_option maxRecDepth 100000 in
theorem rencode_some (ino kind : Nat) (s : ByteArray) (w : World) (h1 : 1 ≤ ino) (h2 : ino ≤ 64) (h3 : kind ≤ 3) (h4 : 1 ≤ s.size) (h5 : s.size ≤ 16) :
    Calls Tryd.prog 17 #[.agg #[.int .i64 (ino : Int), .int .u8 (kind : Int), .string s]] w fun e w' => ∃ g, e = .returned (.slice (some ⟨g, 0, none⟩) 3 3) ∧ w.heap.size ≤ g ∧ w'.rowIs g 33 3 (fun j => .int .u64 (writeF ino kind s.data.toList j : Nat)) ∧ Below w.heap.size w w' := by
  have h0 : ¬ ((ino : Int) = 0) := by omega
  have hmk := mk64 3 3 rfl (by omega)
  have rX := row3 w 23 (.int .i64 (ino : Int)) (.int .u8 (kind : Int)) (.string s) (fun j => if j = 0 then .int .i64 (ino : Int) else if j = 1 then .int .u8 (kind : Int) else .string s) rfl rfl rfl
  have rB := World.rowIs_made (w.alloc (.cells #[.int .i64 (ino : Int), .int .u8 (kind : Int), .string s] 23)) (.int .u64 0) 3 33
  rw [show (w.alloc (.cells #[.int .i64 (ino : Int), .int .u8 (kind : Int), .string s] 23)).heap.size = w.heap.size + 1 by simp] at rB
  have HrX := hid (rX.alloc (.cells (madeCells #[.int .u64 0] 3) 33))
  have HrB := hid rB
  have HB0 := hid (((Below.refl w.heap.size w).alloc (Nat.le_refl _) (.cells #[.int .i64 (ino : Int), .int .u8 (kind : Int), .string s] 23)).alloc (by simp) (.cells (madeCells #[.int .u64 0] 3) 33))
  clear rX rB
  go_enter Tryd.func17, Tryd.ntmps17
  go_wp2_with fail
  clear hmk
  refine (rpack_any s _ (by omega)).mono ?_
  rintro e w1 ⟨rfl, hrow, hb⟩
  have hs0 := HB0.out.size
  have HrX1 := hid (above_row hb HrX.out)
  have HrB1 := hid (above_row hb HrB.out)
  have HB1 := hid (HB0.out.trans (hb.mono (by simp; omega)))
  rw [show ((w.alloc (.cells #[.int .i64 (ino : Int), .int .u8 (kind : Int), .string s] 23)).alloc (.cells (madeCells #[.int .u64 0] 3) 33)).heap.size = w.heap.size + 2 by simp] at hrow
  have HrT1 := hid hrow
  clear hb hrow HrX HrB HB0 hs0
  go_wp2
  go_loopw [5] (fun i wr => ∃ k : Nat, k ≤ (s.size + 7) / 8 ∧ i = .int .i64 k ∧ wr.rowIs (w.heap.size + 1) 33 3 (fun j => .int .u64 (if j < k then wpack s.data.toList s.size j else 0 : Nat)) ∧
    wr.rowIs (w.heap.size + 2) 33 ((s.size + 7) / 8) (fun j => .int .u64 (wpack s.data.toList s.size j : Nat)) ∧ wr.rowIs w.heap.size 23 3 (fun j => if j = 0 then .int .i64 (ino : Int) else if j = 1 then .int .u8 (kind : Int) else .string s) ∧ Below w.heap.size w wr) (fun i _ => (s.size + 7) / 8 - (intOf i).toNat)
  case atStart => exact ⟨0, by omega, rfl, HrB1.out.congr (fun j hj => by rw [if_neg (by omega)]; rfl), HrT1.out, HrX1.out, HB1.out⟩
  case round =>
    obtain ⟨k, hk, rfl, rB, rT, rX, hB⟩ := hrel
    have HrB2 := hid rB
    have HrT2 := hid rT
    have HrX2 := hid rX
    have HB2 := hid hB
    by_cases hlt : k < (s.size + 7) / 8
    · have hcB := rB.cell (i := k) (by omega)
      have hfB := rB.frozen k
      have hcT := rT.cell (i := k) hlt
      have hk3 : (k : Int) < 3 := by omega
      have hkn : (k : Int) < ((s.size : Int) + 7) / 8 := by omega
      clear rB rT rX hB
      go_wp2
      go_roundw
      case rel =>
        refine ⟨k + 1, by omega, by go_num, (HrB2.out.set k _).congr (fun j hj => ?_), HrT2.out.setOther (by simp) _, HrX2.out.setOther (by simp) _, HB2.out.setCell (by simp) _⟩
        by_cases hjk : j = k
        · subst hjk
          rw [if_pos rfl, if_pos (by omega)]
        · rw [if_neg hjk]
          by_cases hjl : j < k
          · rw [if_pos hjl, if_pos (show j < k + 1 by omega)]
          · rw [if_neg hjl, if_neg (show ¬ j < k + 1 by omega)]
      case measure => simp [intOf]; omega
    · have hk' : k = (s.size + 7) / 8 := by omega
      have H2 := three _ _ _ _ rB
      obtain ⟨x0, x1, x2, -, -, -⟩ := three _ _ _ _ rX
      simp at x0 x1 x2
      clear rB rT rX hB
      go_wp2_with fail
      have rA : (wr.setCell ⟨w.heap.size + 1, 2, none⟩ (.int .u64 ((ino : Int) + (kind : Int) * 256 + (s.size : Int) * 65536))).rowIs (w.heap.size + 1) 33 3 (fun j => .int .u64 (aheadF ino kind s.data.toList j : Nat)) :=
        (HrB2.out.set 2 _).congr (fun j hj => by
          unfold aheadF slotLo
          by_cases hj2 : j = 2
          · rw [if_pos hj2, if_pos hj2, show s.data.toList.length = s.size from rfl]
            congr 1
            omega
          · rw [if_neg hj2, if_neg hj2]
            by_cases hjk : j < k
            · rw [if_pos hjk]; rfl
            · rw [if_neg hjk, wpack_out _ _ _ (by rw [show s.data.toList.length = s.size from rfl]; omega)])
      have hBA := HB2.out.setCell (p := ⟨w.heap.size + 1, 2, none⟩) (by simp) (.int .u64 ((ino : Int) + (kind : Int) * 256 + (s.size : Int) * 65536))
      generalize wr.setCell ⟨w.heap.size + 1, 2, none⟩ (.int .u64 ((ino : Int) + (kind : Int) * 256 + (s.size : Int) * 65536)) = wA at *
      have HrA := hid rA
      have HBA := hid hBA
      clear rA hBA x0 x1 x2 H2
      refine (rtext_any (some ⟨w.heap.size + 1, 0, none⟩) 3 3 20 20 rfl (aheadF ino kind s.data.toList) wA (by omega) (by omega) (aheadF_lt ino kind _ h2 h3 (by simpa using h5)) (by omega) (.inr ⟨_, rfl, HrA.out.lt, fun j hj => by
        rw [show (⟨w.heap.size + 1, 0, none⟩ : Addr).add j = ⟨w.heap.size + 1, j, none⟩ by unfold Addr.add; split <;> simp_all]; exact HrA.out.cell hj⟩)).mono ?_
      rintro e w3 ⟨rfl, hb⟩
      have HrA3 := hid (above_row hb HrA.out)
      have HB3 := hid (HBA.out.trans (hb.mono HBA.out.size))
      clear hb HrA HBA
      obtain ⟨a0, a1, a2, fa0, fa1, fa2⟩ := three _ _ _ _ HrA3.out
      rw [show aheadF ino kind s.data.toList 2 = slotLo ino kind s.data.toList from rfl] at a2
      have hl1 : slotLo ino kind s.data.toList < 16777216 := by unfold slotLo; rw [show s.data.toList.length = s.size from rfl]; omega
      have hcl := crcOf_lt (textW (aheadF ino kind s.data.toList) 20)
      have HC := hid (rof_any ⟨(textW (aheadF ino kind s.data.toList) 20).toArray⟩ (by rw [show (ByteArray.mk (textW (aheadF ino kind s.data.toList) 20).toArray).size = (textW (aheadF ino kind s.data.toList) 20).length by simp [ByteArray.size], textW_length]; omega))
      have HW : Hid ((fun j => (writeF ino kind s.data.toList j)) 2 = slotLo ino kind s.data.toList + 4294967296 * crcOf (textW (aheadF ino kind s.data.toList) 20)) := rfl
      rw [show (ByteArray.mk (textW (aheadF ino kind s.data.toList) 20).toArray).data.toList = textW (aheadF ino kind s.data.toList) 20 by simp] at HC
      generalize crcOf (textW (aheadF ino kind s.data.toList) 20) = cc at *
      generalize ByteArray.mk (textW (aheadF ino kind s.data.toList) 20).toArray = ss at *
      generalize slotLo ino kind s.data.toList = lo at *
      go_wp2_with fail
      refine wp_region_still_tail 10 (by kernel_rfl) (by kernel_rfl) ?_
      simp only [List.take_succ_cons, List.take_zero, List.drop_succ_cons, List.drop_zero]
      repeat still_step
      refine wpStill_step (fun K hK => ?_)
      go_simp
      refine ⟨_, (HC.out _).mono fun e w' h => ⟨h.1, h.2.symm⟩, hK _ ?_⟩
      clear hK K
      repeat still_step
      refine wpStill_nil ?_
      change wpList _ _ _ _ _ w3.drew
      go_wp2_with fail
      go_ret
      refine ⟨w.heap.size + 1, rfl, by omega, ?_, ?_⟩
      · refine ((above_row (Below.refl _ _).drew HrA3.out).set 2 _).congr (fun j hj => ?_)
        by_cases hj2 : j = 2
        · subst hj2
          rw [if_pos rfl, HW.out]
          congr 1
          omega
        · rw [if_neg hj2]
          unfold writeF aheadF
          rw [if_neg hj2, if_neg hj2]
      · exact (HB3.out.drew).setCell (by simp) _
end Go.Proofs.YtejapeafepcacaaDoor
