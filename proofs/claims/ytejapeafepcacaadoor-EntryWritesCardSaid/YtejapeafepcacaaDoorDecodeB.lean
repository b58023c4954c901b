/- Walk of entry.Decode where the slot that the words tell may not be. -/
import Derived.Test.YtejapeafepcacaaDoorDecodeA
namespace Go.Proofs.YtejapeafepcacaaDoor
open Go.RowKit
theorem above {w : World} {a : Addr} {v : Value} {w' : World} (hb : Below w.heap.size w w') (h : w.cell? a = some v) : w'.cell? a = some v :=
  (hb.cell (block_lt_of_cell h)).trans h
theorem above_row {w w' : World} {g t n : Nat} {F : Nat → Value} (hb : Below w.heap.size w w') (h : w.rowIs g t n F) : w'.rowIs g t n F := h.of_block (hb.block g h.lt)
theorem toArray_data (l : List UInt8) : (⟨l.toArray⟩ : ByteArray).data.toList = l := by simp
set_option maxHeartbeats 1000000 in
set_option maxRecDepth 100000 in
theorem decode_no (ad : Addr) (cap : Nat) (f : Nat → Nat) (p i b : Int) (w : World) (h : gok p i b = true) (hb0 : ad.block < w.heap.size) (hcap : 3 ≤ cap) (hf : ∀ k, f k < 18446744073709551616)
    (hcell : ∀ k, k < 3 → w.cell? (ad.add k) = some (.int .u64 (f k : Nat))) (hn : nameN f ≤ 16) (hs : slotB (inoN f : Nat) (kindN f : Nat) (textW f (nameN f)) i = false) :
    Calls Tryd.prog 10 #[.slice (some ad) 3 cap, .agg #[.int .i64 p, .int .i64 i, .int .i64 b]] w fun e w' => e = .returned (.tuple #[.agg #[.int .i64 0, .int .u8 0, .string ⟨#[]⟩], .iface 58 (.agg #[.int .i64 0, .int .i64 7])]) ∧ Below w.heap.size w w' := by
  have hm := may_any (inoN f : Nat) (kindN f : Nat) p i b ⟨(textW f (nameN f)).toArray⟩
  rw [show mayB (inoN f : Nat) (kindN f : Nat) (⟨(textW f (nameN f)).toArray⟩ : ByteArray).data.toList p i b = false by rw [toArray_data]; unfold mayB; rw [hs, Bool.and_false]] at hm
  rw [show ((inoN f : Nat) : Int) = (f 2 : Int) % 256 by unfold inoN; omega, show ((kindN f : Nat) : Int) = (f 2 : Int) / 256 % 256 by unfold kindN; omega] at hm
  have Hm := hid hm
  have H := hid h
  have Hf := hid hf
  have Hcell := hid hcell
  have Hn := hid hn
  have hcap2 : (2 : Int) ≤ (cap : Int) := by omega
  clear h hf hcell hn hm hs
  go_enter Tryd.func10, Tryd.ntmps10
  go_wp2_with fail
  refine (check_yes _ _ _ _ H.out).mono ?_
  rintro e w1 ⟨rfl, hb⟩
  obtain ⟨p0, pk, rG, rR, hsz, hb1⟩ := pre10 hb0 Hcell.out hb
  have p2 := pk 2 (by omega)
  have Hb := hid hb1
  have Hpk := hid pk
  have HrR := hid rR
  have HrG := hid rG
  have hlt : ad.block < w1.heap.size := by have := hb1.size; omega
  clear hb pk rR rG hb1
  go_wp2_with fail
  go_region_held3 (fun w' => w'.cell? ⟨w.heap.size, 0, none⟩ = some (.slice (some ad) 3 cap)) (go_keep) (first
    | (go_at_call 29; refine (field_any 16 65536 _ rfl rfl _ ad cap (f 2) _ (by omega) (Hf.out 2) ?_ ?_).mono ?_; exact p0; exact p2; rintro e w2 ⟨rfl, rfl⟩)
    | (go_at_call 30; refine (text_any (some ad) 2 _ (nameN f) f _ (by have := Hn.out; omega) (by omega) ?_).mono ?_; exact (fun _ => ⟨ad, rfl, hlt, fun k hk => Hpk.out k (by omega)⟩); rintro e w2 ⟨rfl, hb2⟩; have q0 := above hb2 p0; have q2 := above hb2 p2; have rR2 := above_row hb2 HrR.out; have rG2 := above_row hb2 HrG.out; have Hb2 := hid (Hb.out.drew.trans (hb2.mono Hb.out.size)); have hsz2 : w.heap.size + 1 + 1 < w2.heap.size := Nat.lt_of_lt_of_le hsz hb2.size; clear hb2))
  clear p0 p2
  have HrR2 := hid rR2
  have HrG2 := hid rG2
  clear rR2 rG2
  have hsz1 : w.heap.size + 1 < w2.heap.size := by omega
  have hsz0 : w.heap.size < w2.heap.size := by omega
  go_wp2_with fail
  refine (field_any 0 1 _ rfl rfl _ ad cap (f 2) _ (by omega) (Hf.out 2) ?_ ?_).mono ?_
  · exact q0
  · exact q2
  rintro e w3 ⟨rfl, rfl⟩
  go_wp2_with fail
  refine (field_any 8 256 _ rfl rfl _ ad cap (f 2) _ (by omega) (Hf.out 2) ?_ ?_).mono ?_
  · exact q0
  · exact q2
  rintro e w3 ⟨rfl, rfl⟩
  go_wp2_with fail
  have rT := row3 w2 23 (.int .i64 ((f 2 : Int) % 256)) (.int .u8 ((f 2 : Int) / 256 % 256)) (.string ⟨(textW f (nameN f)).toArray⟩) (fun j => if j = 0 then .int .i64 ((f 2 : Int) % 256) else if j = 1 then .int .u8 ((f 2 : Int) / 256 % 256) else .string ⟨(textW f (nameN f)).toArray⟩) rfl rfl rfl
  have hBW := Hb2.out.alloc Hb2.out.size (.cells #[.int .i64 ((f 2 : Int) % 256), .int .u8 ((f 2 : Int) / 256 % 256), .string ⟨(textW f (nameN f)).toArray⟩] 23)
  have rG3 := HrG2.out.alloc (.cells #[.int .i64 ((f 2 : Int) % 256), .int .u8 ((f 2 : Int) / 256 % 256), .string ⟨(textW f (nameN f)).toArray⟩] 23)
  have rR3 := HrR2.out.alloc (.cells #[.int .i64 ((f 2 : Int) % 256), .int .u8 ((f 2 : Int) / 256 % 256), .string ⟨(textW f (nameN f)).toArray⟩] 23)
  generalize w2.alloc (.cells #[.int .i64 ((f 2 : Int) % 256), .int .u8 ((f 2 : Int) / 256 % 256), .string ⟨(textW f (nameN f)).toArray⟩] 23) = W at *
  generalize w2.heap.size = gt at *
  obtain ⟨t0, t1, t2, -, -, -⟩ := three _ _ _ _ rT
  obtain ⟨g0, g1, g2, -, -, -⟩ := three _ _ _ _ rG3
  simp at t0 t1 t2 g0 g1 g2
  have HBW := hid hBW
  have HrR3 := hid rR3
  clear rT rG3 rR3 hBW
  go_cut [49] (fun v wx => v = .bool false ∧ Below w.heap.size w wx ∧ wx.rowIs (w.heap.size + 1 + 1) 23 3 (fun j => if j = 0 then .int .i64 0 else if j = 1 then .int .u8 0 else .string ⟨#[]⟩))
  case first =>
    go_region_with (go_at_call 15; refine (Hm.out _).mono ?_; rintro e w4 ⟨rfl, hb4⟩)
    all_goals
      go_wp2_with fail
      go_meet
      exact ⟨rfl, HBW.out.drew.trans (hb4.mono HBW.out.size), above_row hb4 HrR3.out⟩
  case rest =>
    obtain ⟨rfl, hB, hR⟩ := hcut
    obtain ⟨r0, r1, r2, fr0, fr1, fr2⟩ := three _ _ _ _ hR
    simp at r0 r1 r2
    go_wp2
    refine bodyPost_ret (v := .tuple #[.agg #[.int .i64 0, .int .u8 0, .string ⟨#[]⟩], .iface 58 (.agg #[.int .i64 0, .int .i64 7])]) ?_ rfl ⟨rfl, ?_⟩
    · simp [results, Tryd.results10, go_sem, r0, r1, r2]
    · exact ((hB.setCell (p := ⟨w.heap.size + 1 + 1, 0, none⟩) (by simp; omega) _).setCell (p := ⟨w.heap.size + 1 + 1, 1, none⟩) (by simp; omega) _).setCell (p := ⟨w.heap.size + 1 + 1, 2, none⟩) (by simp; omega) _
end Go.Proofs.YtejapeafepcacaaDoor
