/- Walk of entry.Decode where the slot that the words tell may be: it is given just if its words are these. -/
import Derived.Test.YtejapeafepcacaaDoorDecodeB
namespace Go.Proofs.YtejapeafepcacaaDoor
open Go.RowKit
theorem part33 (xs : Array Value) (v : Value) (i : Nat) (h : xs[i]? = some v) (w : World) : (part 33 xs (i * 1)).run Tryd.prog w = .ok v w := by
  simp [part, h]
theorem equalIn_arr3 (d : Nat) (a0 a1 a2 b0 b1 b2 : Int) (w : World) : (Op.equalIn (d + 2) 67 (.agg #[.int .u64 a0, .int .u64 a1, .int .u64 a2]) (.agg #[.int .u64 b0, .int .u64 b1, .int .u64 b2])).run Tryd.prog w = .ok (a0 == b0 && (a1 == b1 && a2 == b2)) w := by
  have hs : (sizeOf 33).run Tryd.prog w = .ok 1 w := by kernel_rfl
  have p0 : (part 33 #[.int .u64 a0, .int .u64 a1, .int .u64 a2] (0 * 1)).run Tryd.prog w = .ok (.int .u64 a0) w := part33 _ _ 0 rfl w
  have p1 : (part 33 #[.int .u64 a0, .int .u64 a1, .int .u64 a2] ((0 + 1) * 1)).run Tryd.prog w = .ok (.int .u64 a1) w := part33 _ _ 1 rfl w
  have p2 : (part 33 #[.int .u64 a0, .int .u64 a1, .int .u64 a2] ((0 + 1 + 1) * 1)).run Tryd.prog w = .ok (.int .u64 a2) w := part33 _ _ 2 rfl w
  have q0 : (part 33 #[.int .u64 b0, .int .u64 b1, .int .u64 b2] (0 * 1)).run Tryd.prog w = .ok (.int .u64 b0) w := part33 _ _ 0 rfl w
  have q1 : (part 33 #[.int .u64 b0, .int .u64 b1, .int .u64 b2] ((0 + 1) * 1)).run Tryd.prog w = .ok (.int .u64 b1) w := part33 _ _ 1 rfl w
  have q2 : (part 33 #[.int .u64 b0, .int .u64 b1, .int .u64 b2] ((0 + 1 + 1) * 1)).run Tryd.prog w = .ok (.int .u64 b2) w := part33 _ _ 2 rfl w
  have e0 := run_equalIn_int (P := Tryd.prog) w d 33 .u64 .u64 a0 b0 Tryd.underlying33
  have e1 := run_equalIn_int (P := Tryd.prog) w d 33 .u64 .u64 a1 b1 Tryd.underlying33
  have e2 := run_equalIn_int (P := Tryd.prog) w d 33 .u64 .u64 a2 b2 Tryd.underlying33
  rw [show d + 2 = (d + 1) + 1 from rfl]
  unfold Op.equalIn
  simp only [Sem.run_bind, run_underlying Tryd.underlying67, Result.andThen_ok, hs]
  simp only [Std.Legacy.Range.forIn_eq_forIn_range', Std.Legacy.Range.size, List.range']
  generalize (a0 == b0) = x0 at *
  generalize (a1 == b1) = x1 at *
  generalize (a2 == b2) = x2 at *
  cases x0 <;> cases x1 <;> cases x2 <;> simp only [List.forIn_cons, List.forIn_nil, Sem.run_bind, p0, q0, e0, p1, q1, e1, p2, q2, e2, Result.andThen_ok, Bool.not_true, Bool.not_false, Bool.false_eq_true, if_true, if_false, Sem.run_pure, Bool.and_true, Bool.and_false]
def eqB3 (a0 a1 a2 b0 b1 b2 : Nat) : Bool := decide (a0 = b0 ∧ a1 = b1 ∧ a2 = b2)
theorem eq_arr3 (a0 a1 a2 b0 b1 b2 : Nat) (w : World) : (binOp .eql 67 (.agg #[.int .u64 (a0 : Int), .int .u64 (a1 : Int), .int .u64 (a2 : Int)]) (.agg #[.int .u64 (b0 : Int), .int .u64 (b1 : Int), .int .u64 (b2 : Int)])).run Tryd.prog w = .ok (.bool (eqB3 a0 a1 a2 b0 b1 b2)) w := by
  rw [run_eql_struct, equalIn_arr3 9998]
  have e : ((a0 : Int) == b0 && ((a1 : Int) == b1 && (a2 : Int) == b2)) = eqB3 a0 a1 a2 b0 b1 b2 := by
    unfold eqB3
    rw [Bool.eq_iff_iff]
    simp
    omega
  rw [e]
  rfl
theorem run_arrayAt (a : Addr) (cap : Nat) (w : World) : (Instr.arrayAt 67 (.slice (some a) 3 cap)).run Tryd.prog w = .ok (.pointer (some a)) w := by kernel_rfl
set_option maxHeartbeats 1000000 in
set_option maxRecDepth 100000 in
theorem decode_eq (ad : Addr) (cap : Nat) (f : Nat → Nat) (p i b : Int) (w : World) (h : gok p i b = true) (hb0 : ad.block < w.heap.size) (hcap : 3 ≤ cap) (hf : ∀ k, f k < 18446744073709551616)
    (hcell : ∀ k, k < 3 → w.cell? (ad.add k) = some (.int .u64 (f k : Nat))) (hn : nameN f ≤ 16) (hs : slotB (inoN f : Nat) (kindN f : Nat) (textW f (nameN f)) i = true)
    (hq : eqB3 (wordsF (inoN f : Nat) (kindN f : Nat) (textW f (nameN f)) 0) (wordsF (inoN f : Nat) (kindN f : Nat) (textW f (nameN f)) 1) (wordsF (inoN f : Nat) (kindN f : Nat) (textW f (nameN f)) 2) (f 0) (f 1) (f 2) = true) :
    Calls Tryd.prog 10 #[.slice (some ad) 3 cap, .agg #[.int .i64 p, .int .i64 i, .int .i64 b]] w fun e w' => e = .returned (.tuple #[.agg #[.int .i64 (inoN f : Nat), .int .u8 (kindN f : Nat), .string ⟨(textW f (nameN f)).toArray⟩], .nilIface]) ∧ Below w.heap.size w w' := by
  have hm := may_any (inoN f : Nat) (kindN f : Nat) p i b ⟨(textW f (nameN f)).toArray⟩
  have hwr := fun W => write_slot (inoN f : Nat) (kindN f : Nat) i ⟨(textW f (nameN f)).toArray⟩ W (gok_iff.1 h).2.2.2.1 (by rw [toArray_data]; exact hs)
  rw [show mayB (inoN f : Nat) (kindN f : Nat) (⟨(textW f (nameN f)).toArray⟩ : ByteArray).data.toList p i b = true by rw [toArray_data]; unfold mayB; rw [h, hs]; rfl] at hm
  simp only at hwr
  generalize hv0 : wordsF (inoN f : Nat) (kindN f : Nat) (textW f (nameN f)) 0 = v0 at hwr hq
  generalize hv1 : wordsF (inoN f : Nat) (kindN f : Nat) (textW f (nameN f)) 1 = v1 at hwr hq
  generalize hv2 : wordsF (inoN f : Nat) (kindN f : Nat) (textW f (nameN f)) 2 = v2 at hwr hq
  have Hv0 := hid hv0
  have Hv1 := hid hv1
  have Hv2 := hid hv2
  rw [show ((inoN f : Nat) : Int) = (f 2 : Int) % 256 by unfold inoN; omega, show ((kindN f : Nat) : Int) = (f 2 : Int) / 256 % 256 by unfold kindN; omega] at hm hwr
  have Hwr := hid hwr
  clear hwr hv0 hv1 hv2
  have Hm := hid hm
  have H := hid h
  have Hf := hid hf
  have Hcell := hid hcell
  have Hn := hid hn
  have hcap2 : (2 : Int) ≤ (cap : Int) := by omega
  clear h hf hcell hn hm hs
  have hsa := run_arrayAt ad cap
  have heq := eq_arr3 v0 v1 v2 (f 0) (f 1) (f 2)
  rw [hq] at heq
  clear hq
  go_enter Tryd.func10, Tryd.ntmps10
  go_wp2_with fail
  refine (check_yes _ _ _ _ H.out).mono ?_
  rintro e w1 ⟨rfl, hb⟩
  obtain ⟨p0, pk, rG, rR, hsz, hb1⟩ := pre10 hb0 Hcell.out hb
  have p2 := pk 2 (by omega)
  have Hb := hid hb1
  have Hpk := hid pk
  have HrR := hid rR
  have HrG := hid rG
  have hlt : ad.block < w1.heap.size := by have := hb1.size; omega
  clear hb pk rR rG hb1
  go_wp2_with fail
  go_region_held3 (fun w' => w'.cell? ⟨w.heap.size, 0, none⟩ = some (.slice (some ad) 3 cap)) (go_keep) (first
    | (go_at_call 29; refine (field_any 16 65536 _ rfl rfl _ ad cap (f 2) _ (by omega) (Hf.out 2) ?_ ?_).mono ?_; exact p0; exact p2; rintro e w2 ⟨rfl, rfl⟩)
    | (go_at_call 30; refine (text_any (some ad) 2 _ (nameN f) f _ (by have := Hn.out; omega) (by omega) ?_).mono ?_; exact (fun _ => ⟨ad, rfl, hlt, fun k hk => Hpk.out k (by omega)⟩); rintro e w2 ⟨rfl, hb2⟩; have q0 := above hb2 p0; have q2 := above hb2 p2; have rR2 := above_row hb2 HrR.out; have rG2 := above_row hb2 HrG.out; have Hpk2 := hid (fun k (hk : k < 3) => above hb2 (Hpk.out k hk)); have Hb2 := hid (Hb.out.drew.trans (hb2.mono Hb.out.size)); have hsz2 : w.heap.size + 1 + 1 < w2.heap.size := Nat.lt_of_lt_of_le hsz hb2.size; clear hb2))
  clear p0 p2
  have HrR2 := hid rR2
  have HrG2 := hid rG2
  clear rR2 rG2
  have hsz1 : w.heap.size + 1 < w2.heap.size := by omega
  have hsz0 : w.heap.size < w2.heap.size := by omega
  go_wp2_with fail
  refine (field_any 0 1 _ rfl rfl _ ad cap (f 2) _ (by omega) (Hf.out 2) ?_ ?_).mono ?_
  · exact q0
  · exact q2
  rintro e w3 ⟨rfl, rfl⟩
  go_wp2_with fail
  refine (field_any 8 256 _ rfl rfl _ ad cap (f 2) _ (by omega) (Hf.out 2) ?_ ?_).mono ?_
  · exact q0
  · exact q2
  rintro e w3 ⟨rfl, rfl⟩
  go_wp2_with fail
  have rT := row3 w2 23 (.int .i64 ((f 2 : Int) % 256)) (.int .u8 ((f 2 : Int) / 256 % 256)) (.string ⟨(textW f (nameN f)).toArray⟩) (fun j => if j = 0 then .int .i64 ((f 2 : Int) % 256) else if j = 1 then .int .u8 ((f 2 : Int) / 256 % 256) else .string ⟨(textW f (nameN f)).toArray⟩) rfl rfl rfl
  have hBW := Hb2.out.alloc Hb2.out.size (.cells #[.int .i64 ((f 2 : Int) % 256), .int .u8 ((f 2 : Int) / 256 % 256), .string ⟨(textW f (nameN f)).toArray⟩] 23)
  have rG3 := HrG2.out.alloc (.cells #[.int .i64 ((f 2 : Int) % 256), .int .u8 ((f 2 : Int) / 256 % 256), .string ⟨(textW f (nameN f)).toArray⟩] 23)
  have rR3 := HrR2.out.alloc (.cells #[.int .i64 ((f 2 : Int) % 256), .int .u8 ((f 2 : Int) / 256 % 256), .string ⟨(textW f (nameN f)).toArray⟩] 23)
  have hPW : ∀ k, k < 3 → (w2.alloc (.cells #[.int .i64 ((f 2 : Int) % 256), .int .u8 ((f 2 : Int) / 256 % 256), .string ⟨(textW f (nameN f)).toArray⟩] 23)).cell? (ad.add k) = some (.int .u64 (f k : Nat)) := fun k hk => (World.cell?_alloc_lt w2 _ _ (block_lt_of_cell (Hpk2.out k hk))).trans (Hpk2.out k hk)
  have hLW := (World.cell?_alloc_lt w2 (.cells #[.int .i64 ((f 2 : Int) % 256), .int .u8 ((f 2 : Int) / 256 % 256), .string ⟨(textW f (nameN f)).toArray⟩] 23) _ (block_lt_of_cell q0)).trans q0
  generalize w2.alloc (.cells #[.int .i64 ((f 2 : Int) % 256), .int .u8 ((f 2 : Int) / 256 % 256), .string ⟨(textW f (nameN f)).toArray⟩] 23) = W at *
  generalize w2.heap.size = gt at *
  obtain ⟨t0, t1, t2, -, -, -⟩ := three _ _ _ _ rT
  obtain ⟨g0, g1, g2, -, -, -⟩ := three _ _ _ _ rG3
  simp at t0 t1 t2 g0 g1 g2
  have HBW := hid hBW
  have HrR3 := hid rR3
  clear rT rG3 rR3 hBW
  have Hpk3 := hPW
  have a0 : W.cell? ad = some (.int .u64 (f 0 : Nat)) := Hpk3 0 (by omega)
  have a1 : W.cell? ⟨ad.block, ad.off + 1, none⟩ = some (.int .u64 (f 1 : Nat)) := by rw [← add_lit ad 1 (by omega)]; exact Hpk3 1 (by omega)
  have a2 : W.cell? ⟨ad.block, ad.off + 2, none⟩ = some (.int .u64 (f 2 : Nat)) := by rw [← add_lit ad 2 (by omega)]; exact Hpk3 2 (by omega)
  have l0 := hLW
  clear Hpk3
  go_region_held3 (fun w' => w'.cell? ⟨gt, 0, none⟩ = some (.int .i64 ((f 2 : Int) % 256)) ∧ w'.cell? ⟨gt, 1, none⟩ = some (.int .u8 ((f 2 : Int) / 256 % 256)) ∧ w'.cell? ⟨gt, 2, none⟩ = some (.string ⟨(textW f (nameN f)).toArray⟩) ∧
      w'.cell? ⟨w.heap.size + 1, 0, none⟩ = some (.int .i64 p) ∧ w'.cell? ⟨w.heap.size + 1, 1, none⟩ = some (.int .i64 i) ∧ w'.cell? ⟨w.heap.size + 1, 2, none⟩ = some (.int .i64 b) ∧
      w'.cell? ⟨w.heap.size, 0, none⟩ = some (.slice (some ad) 3 cap) ∧ w'.cell? ad = some (.int .u64 (f 0 : Nat)) ∧ w'.cell? ⟨ad.block, ad.off + 1, none⟩ = some (.int .u64 (f 1 : Nat)) ∧ w'.cell? ⟨ad.block, ad.off + 2, none⟩ = some (.int .u64 (f 2 : Nat)))
    (first | go_keep | exact ⟨above hb4 t0, above hb4 t1, above hb4 t2, above hb4 g0, above hb4 g1, above hb4 g2, above hb4 l0, above hb4 a0, above hb4 a1, above hb4 a2⟩ | exact ⟨above hb5 (above hb4 t0), above hb5 (above hb4 t1), above hb5 (above hb4 t2), above hb5 (above hb4 g0), above hb5 (above hb4 g1), above hb5 (above hb4 g2), above hb5 (above hb4 l0), above hb5 (above hb4 a0), above hb5 (above hb4 a1), above hb5 (above hb4 a2)⟩)
    (first | (go_at_call 15; refine (Hm.out _).mono ?_; rintro e w4 ⟨rfl, hb4⟩) | (go_at_call 27; refine (Hwr.out _).mono ?_; rintro e w5 ⟨rfl, hb5⟩))
  all_goals
    have rR5 := above_row hb5 (above_row hb4 HrR3.out)
    have hB5 := (HBW.out.drew.trans (hb4.mono HBW.out.size)).trans (hb5.mono (Nat.le_trans HBW.out.size hb4.size))
    have s0 := above hb5 (above hb4 t0)
    have s1 := above hb5 (above hb4 t1)
    have s2 := above hb5 (above hb4 t2)
    obtain ⟨r0, r1, r2, fr0, fr1, fr2⟩ := three _ _ _ _ rR5
    simp at r0 r1 r2
    have HB5 := hid hB5
    clear hb4 hb5 rR5 hB5 t0 t1 t2 g0 g1 g2 a0 a1 a2 l0 hLW hPW
    go_wp2
    refine bodyPost_ret (v := .tuple #[.agg #[.int .i64 ((f 2 : Int) % 256), .int .u8 ((f 2 : Int) / 256 % 256), .string ⟨(textW f (nameN f)).toArray⟩], .nilIface]) ?_ rfl ⟨by rw [show ((inoN f : Nat) : Int) = (f 2 : Int) % 256 by unfold inoN; omega, show ((kindN f : Nat) : Int) = (f 2 : Int) / 256 % 256 by unfold kindN; omega], ?_⟩
    · simp [results, Tryd.results10, go_sem, r0, r1, r2]
    · exact ((HB5.out.setCell (p := ⟨w.heap.size + 1 + 1, 0, none⟩) (by simp; omega) _).setCell (p := ⟨w.heap.size + 1 + 1, 1, none⟩) (by simp; omega) _).setCell (p := ⟨w.heap.size + 1 + 1, 2, none⟩) (by simp; omega) _
set_option maxHeartbeats 1000000 in
set_option maxRecDepth 100000 in
theorem decode_ne (ad : Addr) (cap : Nat) (f : Nat → Nat) (p i b : Int) (w : World) (h : gok p i b = true) (hb0 : ad.block < w.heap.size) (hcap : 3 ≤ cap) (hf : ∀ k, f k < 18446744073709551616)
    (hcell : ∀ k, k < 3 → w.cell? (ad.add k) = some (.int .u64 (f k : Nat))) (hn : nameN f ≤ 16) (hs : slotB (inoN f : Nat) (kindN f : Nat) (textW f (nameN f)) i = true)
    (hq : eqB3 (wordsF (inoN f : Nat) (kindN f : Nat) (textW f (nameN f)) 0) (wordsF (inoN f : Nat) (kindN f : Nat) (textW f (nameN f)) 1) (wordsF (inoN f : Nat) (kindN f : Nat) (textW f (nameN f)) 2) (f 0) (f 1) (f 2) = false) :
    Calls Tryd.prog 10 #[.slice (some ad) 3 cap, .agg #[.int .i64 p, .int .i64 i, .int .i64 b]] w fun e w' => e = .returned (.tuple #[.agg #[.int .i64 0, .int .u8 0, .string ⟨#[]⟩], .iface 58 (.agg #[.int .i64 0, .int .i64 7])]) ∧ Below w.heap.size w w' := by
  have hm := may_any (inoN f : Nat) (kindN f : Nat) p i b ⟨(textW f (nameN f)).toArray⟩
  have hwr := fun W => write_slot (inoN f : Nat) (kindN f : Nat) i ⟨(textW f (nameN f)).toArray⟩ W (gok_iff.1 h).2.2.2.1 (by rw [toArray_data]; exact hs)
  rw [show mayB (inoN f : Nat) (kindN f : Nat) (⟨(textW f (nameN f)).toArray⟩ : ByteArray).data.toList p i b = true by rw [toArray_data]; unfold mayB; rw [h, hs]; rfl] at hm
  simp only at hwr
  generalize hv0 : wordsF (inoN f : Nat) (kindN f : Nat) (textW f (nameN f)) 0 = v0 at hwr hq
  generalize hv1 : wordsF (inoN f : Nat) (kindN f : Nat) (textW f (nameN f)) 1 = v1 at hwr hq
  generalize hv2 : wordsF (inoN f : Nat) (kindN f : Nat) (textW f (nameN f)) 2 = v2 at hwr hq
  have Hv0 := hid hv0
  have Hv1 := hid hv1
  have Hv2 := hid hv2
  rw [show ((inoN f : Nat) : Int) = (f 2 : Int) % 256 by unfold inoN; omega, show ((kindN f : Nat) : Int) = (f 2 : Int) / 256 % 256 by unfold kindN; omega] at hm hwr
  have Hwr := hid hwr
  clear hwr hv0 hv1 hv2
  have Hm := hid hm
  have H := hid h
  have Hf := hid hf
  have Hcell := hid hcell
  have Hn := hid hn
  have hcap2 : (2 : Int) ≤ (cap : Int) := by omega
  clear h hf hcell hn hm hs
  have hsa := run_arrayAt ad cap
  have heq := eq_arr3 v0 v1 v2 (f 0) (f 1) (f 2)
  rw [hq] at heq
  clear hq
  go_enter Tryd.func10, Tryd.ntmps10
  go_wp2_with fail
  refine (check_yes _ _ _ _ H.out).mono ?_
  rintro e w1 ⟨rfl, hb⟩
  obtain ⟨p0, pk, rG, rR, hsz, hb1⟩ := pre10 hb0 Hcell.out hb
  have p2 := pk 2 (by omega)
  have Hb := hid hb1
  have Hpk := hid pk
  have HrR := hid rR
  have HrG := hid rG
  have hlt : ad.block < w1.heap.size := by have := hb1.size; omega
  clear hb pk rR rG hb1
  go_wp2_with fail
  go_region_held3 (fun w' => w'.cell? ⟨w.heap.size, 0, none⟩ = some (.slice (some ad) 3 cap)) (go_keep) (first
    | (go_at_call 29; refine (field_any 16 65536 _ rfl rfl _ ad cap (f 2) _ (by omega) (Hf.out 2) ?_ ?_).mono ?_; exact p0; exact p2; rintro e w2 ⟨rfl, rfl⟩)
    | (go_at_call 30; refine (text_any (some ad) 2 _ (nameN f) f _ (by have := Hn.out; omega) (by omega) ?_).mono ?_; exact (fun _ => ⟨ad, rfl, hlt, fun k hk => Hpk.out k (by omega)⟩); rintro e w2 ⟨rfl, hb2⟩; have q0 := above hb2 p0; have q2 := above hb2 p2; have rR2 := above_row hb2 HrR.out; have rG2 := above_row hb2 HrG.out; have Hpk2 := hid (fun k (hk : k < 3) => above hb2 (Hpk.out k hk)); have Hb2 := hid (Hb.out.drew.trans (hb2.mono Hb.out.size)); have hsz2 : w.heap.size + 1 + 1 < w2.heap.size := Nat.lt_of_lt_of_le hsz hb2.size; clear hb2))
  clear p0 p2
  have HrR2 := hid rR2
  have HrG2 := hid rG2
  clear rR2 rG2
  have hsz1 : w.heap.size + 1 < w2.heap.size := by omega
  have hsz0 : w.heap.size < w2.heap.size := by omega
  go_wp2_with fail
  refine (field_any 0 1 _ rfl rfl _ ad cap (f 2) _ (by omega) (Hf.out 2) ?_ ?_).mono ?_
  · exact q0
  · exact q2
  rintro e w3 ⟨rfl, rfl⟩
  go_wp2_with fail
  refine (field_any 8 256 _ rfl rfl _ ad cap (f 2) _ (by omega) (Hf.out 2) ?_ ?_).mono ?_
  · exact q0
  · exact q2
  rintro e w3 ⟨rfl, rfl⟩
  go_wp2_with fail
  have rT := row3 w2 23 (.int .i64 ((f 2 : Int) % 256)) (.int .u8 ((f 2 : Int) / 256 % 256)) (.string ⟨(textW f (nameN f)).toArray⟩) (fun j => if j = 0 then .int .i64 ((f 2 : Int) % 256) else if j = 1 then .int .u8 ((f 2 : Int) / 256 % 256) else .string ⟨(textW f (nameN f)).toArray⟩) rfl rfl rfl
  have hBW := Hb2.out.alloc Hb2.out.size (.cells #[.int .i64 ((f 2 : Int) % 256), .int .u8 ((f 2 : Int) / 256 % 256), .string ⟨(textW f (nameN f)).toArray⟩] 23)
  have rG3 := HrG2.out.alloc (.cells #[.int .i64 ((f 2 : Int) % 256), .int .u8 ((f 2 : Int) / 256 % 256), .string ⟨(textW f (nameN f)).toArray⟩] 23)
  have rR3 := HrR2.out.alloc (.cells #[.int .i64 ((f 2 : Int) % 256), .int .u8 ((f 2 : Int) / 256 % 256), .string ⟨(textW f (nameN f)).toArray⟩] 23)
  have hPW : ∀ k, k < 3 → (w2.alloc (.cells #[.int .i64 ((f 2 : Int) % 256), .int .u8 ((f 2 : Int) / 256 % 256), .string ⟨(textW f (nameN f)).toArray⟩] 23)).cell? (ad.add k) = some (.int .u64 (f k : Nat)) := fun k hk => (World.cell?_alloc_lt w2 _ _ (block_lt_of_cell (Hpk2.out k hk))).trans (Hpk2.out k hk)
  have hLW := (World.cell?_alloc_lt w2 (.cells #[.int .i64 ((f 2 : Int) % 256), .int .u8 ((f 2 : Int) / 256 % 256), .string ⟨(textW f (nameN f)).toArray⟩] 23) _ (block_lt_of_cell q0)).trans q0
  generalize w2.alloc (.cells #[.int .i64 ((f 2 : Int) % 256), .int .u8 ((f 2 : Int) / 256 % 256), .string ⟨(textW f (nameN f)).toArray⟩] 23) = W at *
  generalize w2.heap.size = gt at *
  obtain ⟨t0, t1, t2, -, -, -⟩ := three _ _ _ _ rT
  obtain ⟨g0, g1, g2, -, -, -⟩ := three _ _ _ _ rG3
  simp at t0 t1 t2 g0 g1 g2
  have HBW := hid hBW
  have HrR3 := hid rR3
  clear rT rG3 rR3 hBW
  have Hpk3 := hPW
  have a0 : W.cell? ad = some (.int .u64 (f 0 : Nat)) := Hpk3 0 (by omega)
  have a1 : W.cell? ⟨ad.block, ad.off + 1, none⟩ = some (.int .u64 (f 1 : Nat)) := by rw [← add_lit ad 1 (by omega)]; exact Hpk3 1 (by omega)
  have a2 : W.cell? ⟨ad.block, ad.off + 2, none⟩ = some (.int .u64 (f 2 : Nat)) := by rw [← add_lit ad 2 (by omega)]; exact Hpk3 2 (by omega)
  have l0 := hLW
  clear Hpk3
  go_region_held3 (fun w' => w'.cell? ⟨gt, 0, none⟩ = some (.int .i64 ((f 2 : Int) % 256)) ∧ w'.cell? ⟨gt, 1, none⟩ = some (.int .u8 ((f 2 : Int) / 256 % 256)) ∧ w'.cell? ⟨gt, 2, none⟩ = some (.string ⟨(textW f (nameN f)).toArray⟩) ∧
      w'.cell? ⟨w.heap.size + 1, 0, none⟩ = some (.int .i64 p) ∧ w'.cell? ⟨w.heap.size + 1, 1, none⟩ = some (.int .i64 i) ∧ w'.cell? ⟨w.heap.size + 1, 2, none⟩ = some (.int .i64 b) ∧
      w'.cell? ⟨w.heap.size, 0, none⟩ = some (.slice (some ad) 3 cap) ∧ w'.cell? ad = some (.int .u64 (f 0 : Nat)) ∧ w'.cell? ⟨ad.block, ad.off + 1, none⟩ = some (.int .u64 (f 1 : Nat)) ∧ w'.cell? ⟨ad.block, ad.off + 2, none⟩ = some (.int .u64 (f 2 : Nat)))
    (first | go_keep | exact ⟨above hb4 t0, above hb4 t1, above hb4 t2, above hb4 g0, above hb4 g1, above hb4 g2, above hb4 l0, above hb4 a0, above hb4 a1, above hb4 a2⟩ | exact ⟨above hb5 (above hb4 t0), above hb5 (above hb4 t1), above hb5 (above hb4 t2), above hb5 (above hb4 g0), above hb5 (above hb4 g1), above hb5 (above hb4 g2), above hb5 (above hb4 l0), above hb5 (above hb4 a0), above hb5 (above hb4 a1), above hb5 (above hb4 a2)⟩)
    (first | (go_at_call 15; refine (Hm.out _).mono ?_; rintro e w4 ⟨rfl, hb4⟩) | (go_at_call 27; refine (Hwr.out _).mono ?_; rintro e w5 ⟨rfl, hb5⟩))
  all_goals
    have rR5 := above_row hb5 (above_row hb4 HrR3.out)
    have hB5 := (HBW.out.drew.trans (hb4.mono HBW.out.size)).trans (hb5.mono (Nat.le_trans HBW.out.size hb4.size))
    have s0 := above hb5 (above hb4 t0)
    have s1 := above hb5 (above hb4 t1)
    have s2 := above hb5 (above hb4 t2)
    obtain ⟨r0, r1, r2, fr0, fr1, fr2⟩ := three _ _ _ _ rR5
    simp at r0 r1 r2
    have HB5 := hid hB5
    clear hb4 hb5 rR5 hB5 t0 t1 t2 g0 g1 g2 a0 a1 a2 l0 hLW hPW
    go_wp2
    refine bodyPost_ret (v := .tuple #[.agg #[.int .i64 0, .int .u8 0, .string ⟨#[]⟩], .iface 58 (.agg #[.int .i64 0, .int .i64 7])]) ?_ rfl ⟨rfl, ?_⟩
    · simp [results, Tryd.results10, go_sem, r0, r1, r2]
    · exact ((HB5.out.setCell (p := ⟨w.heap.size + 1 + 1, 0, none⟩) (by simp; omega) _).setCell (p := ⟨w.heap.size + 1 + 1, 1, none⟩) (by simp; omega) _).setCell (p := ⟨w.heap.size + 1 + 1, 2, none⟩) (by simp; omega) _
end Go.Proofs.YtejapeafepcacaaDoor
