/- parcloselaw07.alive answers true: the walk, by the contracts at its own inputs. -/
import Derived.Test.YtejapeafepcacaaDoorSlot
import Derived.Test.YtejapeafepcacaaDoorTold
namespace Go.Proofs.YtejapeafepcacaaDoor
open Go.RowKit
def aF (k : Nat) : Nat := wordsF 3 1 [97, 98] k
theorem aF_dec : decB aF 4 = true := by decide +kernel
theorem aF_vals : inoN aF = 3 ∧ kindN aF = 1 ∧ textW aF (nameN aF) = [97, 98] ∧ aF 0 = 25185 ∧ aF 2 % 4294967296 = 131331 ∧ aF 1 = 0 := by decide +kernel
theorem may_alive : mayB 3 1 [97, 98] 1 4 9 = true := by decide +kernel
theorem may_not : mayB 3 1 [97, 98] 0 0 0 = false := by decide +kernel
theorem may_alive_ : mayB 3 1 (⟨#[97, 98]⟩ : ByteArray).data.toList 1 4 9 = true := may_alive
theorem may_not_ : mayB 3 1 (⟨#[97, 98]⟩ : ByteArray).data.toList 0 0 0 = false := may_not
def bF (k : Nat) : Nat := if k < 3 then k + 1 else 0
theorem bF_dec : decB bF 4 = false := by decide +kernel
set_option maxRecDepth 100000 in
theorem geom_any (w : World) : Calls Tryd.prog 26 #[] w fun e w' => e = .returned (.agg #[.int .i64 1, .int .i64 4, .int .i64 9]) ∧ Below w.heap.size w w' := by
  go_enter Tryd.func26, Tryd.ntmps26
  go_wp2
  refine bodyPost_ret (v := .agg #[.int .i64 1, .int .i64 4, .int .i64 9]) (by simp [results, Tryd.results26, go_sem]) rfl ⟨rfl, by go_grown⟩
theorem wordsF_lt (ino kind : Int) (l : List UInt8) (h1 : ino ≤ 64) (h2 : kind ≤ 255) (hl : l.length ≤ 16) (k : Nat) : wordsF ino kind l k < 18446744073709551616 := by
  unfold wordsF writeF
  split
  · omega
  · split
    · have := crcOf_lt (textW (aheadF ino.toNat kind.toNat l) 20)
      unfold slotLo
      omega
    · exact wpack_lt _ _ _
def ErrType (w : World) : Prop := w.cell? ⟨0, 0, none⟩ = some (.iface 103 (.agg #[.pointer (some ⟨2, 35, none⟩)]))
theorem encode_alive (w : World) : Calls Tryd.prog 9 #[.agg #[.int .i64 3, .int .u8 1, .string ⟨#[97, 98]⟩], .agg #[.int .i64 1, .int .i64 4, .int .i64 9]] w fun e w' => ∃ g, e = .returned (.tuple #[.slice (some ⟨g, 0, none⟩) 3 3, .int .i64 0]) ∧ w.heap.size ≤ g ∧ w'.rowIs g 67 3 (fun j => .int .u64 (aF j : Nat)) ∧ Below w.heap.size w w' :=
  encode_yes 3 1 1 4 9 ⟨#[97, 98]⟩ w may_alive
theorem decode_alive (g : Nat) (w : World) (hr : w.rowIs g 67 3 (fun j => .int .u64 (aF j : Nat))) : Calls Tryd.prog 10 #[.slice (some ⟨g, 0, none⟩) 3 3, .agg #[.int .i64 1, .int .i64 4, .int .i64 9]] w fun e w' => e = .returned (.tuple #[.agg #[.int .i64 3, .int .u8 1, .string ⟨#[97, 98]⟩], .nilIface]) ∧ Below w.heap.size w w' := by
  have h := decode_ok ⟨g, 0, none⟩ 3 aF 1 4 9 w (by decide) hr.lt (by omega) (wordsF_lt 3 1 [97, 98] (by omega) (by omega) (by decide)) (fun k hk => by
    rw [show (⟨g, 0, none⟩ : Addr).add k = ⟨g, k, none⟩ by unfold Addr.add; by_cases h0 : k = 0 <;> simp [h0]]; exact hr.cell hk) aF_dec
  rw [aF_vals.1, aF_vals.2.1, aF_vals.2.2.1] at h
  exact h
theorem decode_dead (g : Nat) (w : World) (hr : w.rowIs g 33 3 (fun j => .int .u64 ((j + 1 : Nat) : Int))) : Calls Tryd.prog 10 #[.slice (some ⟨g, 0, none⟩) 3 3, .agg #[.int .i64 1, .int .i64 4, .int .i64 9]] w fun e w' => e = .returned (.tuple #[.agg #[.int .i64 0, .int .u8 0, .string ⟨#[]⟩], .iface 58 (.agg #[.int .i64 0, .int .i64 7])]) ∧ Below w.heap.size w w' :=
  decode_bad ⟨g, 0, none⟩ 3 bF 1 4 9 w (by decide) hr.lt (by omega) (fun k => by unfold bF; split <;> omega) (fun k hk => by
    rw [show (⟨g, 0, none⟩ : Addr).add k = ⟨g, k, none⟩ by unfold Addr.add; by_cases h0 : k = 0 <;> simp [h0]]
    unfold bF; rw [if_pos hk]; exact hr.cell hk) bF_dec
set_option maxHeartbeats 1000000 in
set_option maxRecDepth 100000 in
theorem alive_any (w : World) (hg : ErrType w) :
    Calls Tryd.prog 8 #[] w fun e w' => e = .returned (.bool true) ∧ Below w.heap.size w w' := by
  have Hg := hid hg
  have hlt : 0 < w.heap.size := block_lt_of_cell hg
  clear hg
  go_enter Tryd.func8, Tryd.ntmps8
  go_wp2_with fail
  have rX := row3 w 23 (.int .i64 3) (.int .u8 1) (.string ⟨#[97, 98]⟩) (fun j => if j = 0 then .int .i64 3 else if j = 1 then .int .u8 1 else .string ⟨#[97, 98]⟩) rfl rfl rfl
  generalize hW : w.alloc (.cells #[.int .i64 3, .int .u8 1, .string ⟨#[97, 98]⟩] 23) = W at *
  have hBW : Below w.heap.size w W := by rw [← hW]; exact (Below.refl _ _).alloc (Nat.le_refl _) _
  clear hW
  generalize hgx : w.heap.size = gx at rX ⊢
  have hgx' : gx < W.heap.size := rX.lt
  obtain ⟨x0, x1, x2, -, -, -⟩ := three _ _ _ _ rX
  simp at x0 x1 x2
  have HrX := hid rX
  have HBW := hid hBW
  have Hgx := hid hgx
  clear rX hBW hgx
  go_region_held3 (fun w' => w'.cell? ⟨gx, 0, none⟩ = some (.int .i64 3) ∧ w'.cell? ⟨gx, 1, none⟩ = some (.int .u8 1) ∧ w'.cell? ⟨gx, 2, none⟩ = some (.string ⟨#[97, 98]⟩))
    (first | go_keep | exact ⟨above hb1 x0, above hb1 x1, above hb1 x2⟩ | exact ⟨above hb2 (above hb1 x0), above hb2 (above hb1 x1), above hb2 (above hb1 x2)⟩)
    (first | (go_at_call 26; refine (geom_any _).mono ?_; rintro e w1 ⟨rfl, hb1⟩) | (go_at_call 9; refine (encode_alive _).mono ?_; rintro e w2 ⟨g, rfl, hgg, hrow, hb2⟩))
  have rX := above_row hb2 (above_row hb1 HrX.out)
  have hB := (HBW.out.drew.trans (hb1.mono HBW.out.size)).trans (hb2.mono (Nat.le_trans HBW.out.size hb1.size))
  have hlg : g < w2.heap.size := hrow.lt
  have HL := hid hrow
  have HX := hid rX
  have HB := hid hB
  clear hb1 hb2 hrow rX hB x0 x1 x2 hgg hlg
  go_wp2_with fail
  refine (geom_any _).mono ?_
  rintro e w3 ⟨rfl, hb⟩
  replace HL := hid (above_row hb HL.out)
  replace HX := hid (above_row hb HX.out)
  replace HB := hid (HB.out.trans (hb.mono HB.out.size))
  clear hb
  go_wp2_with fail
  refine (decode_alive g _ HL.out).mono ?_
  rintro e w4 ⟨rfl, hb⟩
  replace HL := hid (above_row hb HL.out)
  replace HX := hid (above_row hb HX.out)
  replace HB := hid (HB.out.trans (hb.mono HB.out.size))
  clear hb
  go_wp2_with fail
  have HT := hid (row3 w4 23 (.int .i64 3) (.int .u8 1) (.string ⟨#[97, 98]⟩) (fun j => if j = 0 then .int .i64 3 else if j = 1 then .int .u8 1 else .string ⟨#[97, 98]⟩) rfl rfl rfl)
  replace HL := hid (HL.out.alloc (.cells #[.int .i64 3, .int .u8 1, .string ⟨#[97, 98]⟩] 23))
  replace HX := hid (HX.out.alloc (.cells #[.int .i64 3, .int .u8 1, .string ⟨#[97, 98]⟩] 23))
  replace HB := hid (HB.out.alloc HB.out.size (.cells #[.int .i64 3, .int .u8 1, .string ⟨#[97, 98]⟩] 23))
  have HS := hid (row3 (w4.alloc (.cells #[.int .i64 3, .int .u8 1, .string ⟨#[97, 98]⟩] 23)) 33 (.int .u64 1) (.int .u64 2) (.int .u64 3) (fun j => .int .u64 ((j + 1 : Nat) : Int)) rfl rfl rfl)
  replace HL := hid (HL.out.alloc (.cells #[.int .u64 1, .int .u64 2, .int .u64 3] 33))
  replace HX := hid (HX.out.alloc (.cells #[.int .u64 1, .int .u64 2, .int .u64 3] 33))
  replace HT := hid (HT.out.alloc (.cells #[.int .u64 1, .int .u64 2, .int .u64 3] 33))
  replace HB := hid (HB.out.alloc HB.out.size (.cells #[.int .u64 1, .int .u64 2, .int .u64 3] 33))
  refine (geom_any _).mono ?_
  rintro e w5 ⟨rfl, hb⟩
  replace HL := hid (above_row hb HL.out)
  replace HX := hid (above_row hb HX.out)
  replace HT := hid (above_row hb HT.out)
  replace HS := hid (above_row hb HS.out)
  replace HB := hid (HB.out.trans (hb.mono HB.out.size))
  clear hb
  go_wp2_with fail
  refine (decode_dead _ _ (by simpa using HS.out)).mono ?_
  rintro e w6 ⟨rfl, hb⟩
  replace HL := hid (above_row hb HL.out)
  replace HX := hid (above_row hb HX.out)
  replace HT := hid (above_row hb HT.out)
  replace HB := hid (HB.out.trans (hb.mono HB.out.size))
  clear hb HS
  go_wp2_with fail
  replace HL := hid (HL.out.alloc (.cells #[.int .i64 0, .int .u8 0, .string ⟨#[]⟩] 23))
  replace HX := hid (HX.out.alloc (.cells #[.int .i64 0, .int .u8 0, .string ⟨#[]⟩] 23))
  replace HT := hid (HT.out.alloc (.cells #[.int .i64 0, .int .u8 0, .string ⟨#[]⟩] 23))
  replace HB := hid (HB.out.alloc HB.out.size (.cells #[.int .i64 0, .int .u8 0, .string ⟨#[]⟩] 23))
  refine (geom_any _).mono ?_
  rintro e w7 ⟨rfl, hb⟩
  replace HL := hid (above_row hb HL.out)
  replace HX := hid (above_row hb HX.out)
  replace HT := hid (above_row hb HT.out)
  replace HB := hid (HB.out.trans (hb.mono HB.out.size))
  clear hb
  go_wp2_with fail
  refine (head_yes 5 1 4 9 _ (by decide)).mono ?_
  rintro e w8 ⟨rfl, hb⟩
  replace HL := hid (above_row hb HL.out)
  replace HX := hid (above_row hb HX.out)
  replace HT := hid (above_row hb HT.out)
  replace HB := hid (HB.out.trans (hb.mono HB.out.size))
  clear hb
  go_wp2_with fail
  generalize w4.heap.size = gt at *
  obtain ⟨l0, -, l2, -, -, -⟩ := three _ _ _ _ HL.out
  obtain ⟨x0, x1, x2, -, -, -⟩ := three _ _ _ _ HX.out
  obtain ⟨t0, t1, t2, -, -, -⟩ := three _ _ _ _ HT.out
  rw [aF_vals.2.2.2.1] at l0
  have hm : ((aF 2 : Nat) : Int) % 4294967296 = 131331 := by have := aF_vals.2.2.2.2.1; omega
  have hm1 : (((aF 2 : Nat) : Int) % 4294967296 == 131331) = true := by rw [hm]; rfl
  have hm2 : (((aF 2 : Nat) : Int).tmod 4294967296 == 131331) = true := by rw [Int.tmod_eq_emod_of_nonneg (by omega), hm]; rfl
  have hm3 : (IntKind.u64.wrap (((aF 2 : Nat) : Int).tmod 4294967296) == 131331) = true := by rw [Int.tmod_eq_emod_of_nonneg (by omega), hm]; rfl
  have hm4 : (IntKind.u64.wrap (((aF 2 : Nat) : Int) % 4294967296) == 131331) = true := by rw [hm]; rfl
  clear hm
  generalize aF 2 = v2 at l2 hm1 hm2 hm3 hm4
  simp at x0 x1 x2 t0 t1 t2 l0
  have Hg8 : Hid (ErrType w8) := hid ((HB.out.cell (p := ⟨0, 0, none⟩) hlt).trans Hg.out)
  clear HL HX HT
  go_region_held3 (fun w' => w'.cell? ⟨g, 0, none⟩ = some (.int .u64 25185) ∧ w'.cell? ⟨g, 2, none⟩ = some (.int .u64 (v2 : Nat)) ∧ w'.cell? ⟨gx, 0, none⟩ = some (.int .i64 3) ∧ w'.cell? ⟨gx, 1, none⟩ = some (.int .u8 1) ∧ w'.cell? ⟨gx, 2, none⟩ = some (.string ⟨#[97, 98]⟩) ∧ w'.cell? ⟨gt, 0, none⟩ = some (.int .i64 3) ∧ w'.cell? ⟨gt, 1, none⟩ = some (.int .u8 1) ∧ w'.cell? ⟨gt, 2, none⟩ = some (.string ⟨#[97, 98]⟩))
    (first | go_keep | (go_split_ands; refine ⟨above hbx ?_, above hbx ?_, above hbx ?_, above hbx ?_, above hbx ?_, above hbx ?_, above hbx ?_, above hbx ?_⟩ <;> assumption))
    (first | (go_at_call 25; refine (told_hit 0 7 _ (by omega) ?_).mono ?_; exact Hg8.out; rintro e wT ⟨rfl, hbx⟩; have HBT := hid (HB.out.drew.trans (hbx.mono HB.out.size))) | (go_at_call 26; refine (geom_any _).mono ?_; rintro e wG ⟨rfl, hbx⟩; have HBG := hid (HBT.out.trans (hbx.mono HBT.out.size))) | (go_at_call_of 15 (Value.int IntKind.i64 9); refine (may_any _ _ _ _ _ _ _).mono ?_; rintro e wM ⟨hem, hbx⟩; rw [may_alive_] at hem; subst hem; have HBM := hid (HBG.out.trans (hbx.mono HBG.out.size))) | (go_at_call 15; refine (may_any _ _ _ _ _ _ _).mono ?_; rintro e wN ⟨hem, hbx⟩; rw [may_not_] at hem; subst hem; have HBN := hid (HBM.out.trans (hbx.mono HBM.out.size))))
  go_wp2_with fail
  go_ret
  exact ⟨rfl, HBN.out⟩
end Go.Proofs.YtejapeafepcacaaDoor
