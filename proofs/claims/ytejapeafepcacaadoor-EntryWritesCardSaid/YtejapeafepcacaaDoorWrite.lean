/- Walk of entry.write: the three words of a slot that may be. -/
import Derived.Test.YtejapeafepcacaaDoorEntry
import Derived.Deep.RegionWith
import Derived.Laws.CopyOwn
import Derived.BigRegion
namespace Go.Proofs.YtejapeafepcacaaDoor
open Go.RowKit
theorem setRow_other (w : World) (g b : Nat) (cs : Array Value) (h : b ≠ g) : (w.setRow g cs).heap[b]? = w.heap[b]? := by
  simp only [World.setRow, Array.getElem?_modify]
  rw [if_neg (fun e => h e.symm)]
set_option maxRecDepth 100000 in
theorem copy_row (W : World) (g g2 n m t : Nat) (f F : Nat → Value) (h1 : W.rowIs g t m F) (h2 : W.rowIs g2 33 n f) (hn : n ≤ m) (hone : ∀ j, (f j).oneCell' = true) :
    ∃ W', (Builtin.copy_ #[28, 28] 3 #[.slice (some ⟨g, 0, none⟩) m m, .slice (some ⟨g2, 0, none⟩) n n]).run Tryd.prog W = .ok (.int .i64 (n : Int)) W' ∧
      W'.rowIs g t m (fun j => if j < n then f j else F j) ∧ (∀ b, b ≠ g → W'.heap[b]? = W.heap[b]?) ∧ W'.heap.size = W.heap.size ∧ Below g W W' := by
  obtain ⟨c, hg, hsz, hc⟩ := h1
  have hl : ((List.range n).map f).length = n := by simp
  have hrun := run_copy_row Tryd.prog W 28 28 3 33 g 0 m m ⟨g2, 0, none⟩ n n c t ((List.range n).map f) Tryd.underlying28 (by kernel_rfl) hg (by rw [hl]; exact (Nat.min_eq_left hn).symm)
    (fun j v hj => by
      have hjl : j < n := by
        have := (List.getElem?_eq_some_iff.1 hj).1
        simpa using this
      have hv : v = f j := by simpa [hjl] using hj.symm
      have ha : (⟨g2, 0, none⟩ : Addr).add j = ⟨g2, j, none⟩ := by unfold Addr.add; by_cases h0 : j = 0 <;> simp [h0]
      rw [ha, h2.cell hjl, hv]) (by rw [hl]; omega) (fun v hv => by
      obtain ⟨j, _, rfl⟩ := List.mem_map.1 hv
      exact hone j)
  rw [hl] at hrun
  refine ⟨_, hrun, ?_, fun b hb => setRow_other _ _ _ _ hb, by simp, ⟨rfl, rfl, rfl, by simp, fun k hk => setRow_other _ _ _ _ (by omega)⟩⟩
  refine ⟨(List.take 0 c.toList ++ List.map f (List.range n) ++ List.drop (0 + n) c.toList).toArray, by simp [World.setRow, Array.getElem?_modify, hg], ?_, fun i hi => ?_⟩
  · simp; omega
  · simp only [List.take_zero, List.nil_append, Nat.zero_add]
    rw [List.getElem?_toArray, List.getElem?_append, hl]
    by_cases h : i < n
    · rw [if_pos h, if_pos h]; simp [h]
    · rw [if_neg h, if_neg h, List.getElem?_drop, show n + (i - n) = i by omega]
      simpa using hc i hi
set_option maxRecDepth 100000 in
theorem row3 (W : World) (t : TypeId) (a b c : Value) (F : Nat → Value) (h0 : F 0 = a) (h1 : F 1 = b) (h2 : F 2 = c) : (W.alloc (.cells #[a, b, c] t)).rowIs W.heap.size t 3 F :=
  World.rowIs_alloc W #[a, b, c] t F (fun i hi => match i, hi with
    | 0, _ => by rw [h0]; rfl
    | 1, _ => by rw [h1]; rfl
    | 2, _ => by rw [h2]; rfl)
theorem wpack_out (s : List UInt8) (k j : Nat) (h : k ≤ 8 * j) : wpack s k j = 0 := by
  unfold wpack
  rw [List.drop_eq_nil_of_le (by rw [List.length_take]; omega)]; rfl
theorem three (W : World) (g t : Nat) (F : Nat → Value) (h : W.rowIs g t 3 F) : W.cell? ⟨g, 0, none⟩ = some (F 0) ∧ W.cell? ⟨g, 1, none⟩ = some (F 1) ∧ W.cell? ⟨g, 2, none⟩ = some (F 2) ∧
    W.frozen? ⟨g, 0, none⟩ = false ∧ W.frozen? ⟨g, 1, none⟩ = false ∧ W.frozen? ⟨g, 2, none⟩ = false :=
  ⟨h.cell (by omega), h.cell (by omega), h.cell (by omega), h.frozen 0, h.frozen 1, h.frozen 2⟩
def slotLo (ino kind : Nat) (l : List UInt8) : Nat := ino + 256 * kind + 65536 * l.length
def aheadF (ino kind : Nat) (l : List UInt8) (j : Nat) : Nat := if j = 2 then slotLo ino kind l else wpack l l.length j
def writeF (ino kind : Nat) (l : List UInt8) (j : Nat) : Nat := if j = 2 then slotLo ino kind l + 4294967296 * crcOf (textW (aheadF ino kind l) 20) else wpack l l.length j
set_option maxRecDepth 100000 in
theorem crc_bits (a c : Nat) (ha : a < 4294967296) (hc : c < 4294967296) :
    bits BinOp.or IntKind.u64 (a : Int) ((c : Int) * 4294967296) = ((a + 4294967296 * c : Nat) : Int) := by
  rw [show ((c : Int) * 4294967296) = ((c * 4294967296 : Nat) : Int) by omega, u64_or_nat _ _ (by omega) (by omega), Nat.or_comm, nat_join 32 _ _ (by omega) (by omega)]
  congr 1; omega
set_option maxRecDepth 100000 in
theorem lo_bits (ino kind : Nat) (l : List UInt8) (h2 : ino ≤ 64) (h3 : kind ≤ 3) (h5 : l.length ≤ 16) :
    bits BinOp.or IntKind.u64 (bits BinOp.or IntKind.u64 (ino : Int) ((kind : Int) * 256)) ((l.length : Int) * 65536) = ((slotLo ino kind l : Nat) : Int) := by
  rw [show ((kind : Int) * 256) = ((kind * 256 : Nat) : Int) by omega, show ((l.length : Int) * 65536) = ((l.length * 65536 : Nat) : Int) by omega,
    u64_or_nat _ _ (by omega) (by omega)]
  have e1 : ino ||| kind * 256 = ino + kind * 256 := by rw [Nat.or_comm, nat_join 8 _ _ (by omega) (by omega), Nat.add_comm]
  rw [e1, u64_or_nat _ _ (by omega) (by omega), Nat.or_comm, nat_join 16 _ _ (by omega) (by omega)]
  unfold slotLo
  congr 1; omega
theorem text_at (ad : Addr) (m cap n : Nat) (z : Int) (hz : z = n) (f : Nat → Nat) (w : World) (hn : n ≤ 8 * m) (hm : m ≤ 1000000) (hb0 : ad.block < w.heap.size)
    (hc : ∀ k, k < m → w.cell? (ad.add k) = some (.int .u64 (f k : Nat))) :
    Calls Tryd.prog 30 #[.slice (some ad) m cap, .int .i64 z] w fun e w' => e = .returned (.tuple #[.string ⟨(textW f n).toArray⟩, .int .i64 0]) ∧ Below w.heap.size w w' := by
  subst hz
  exact text_some ad m cap n f w hn hm hb0 hc
set_option maxHeartbeats 400000 in
set_option maxRecDepth 100000 in
theorem write_zero (w : World) :
    Calls Tryd.prog 27 #[.agg #[.int .i64 0, .int .u8 0, .string ⟨#[]⟩]] w fun e w' => e = .returned (.agg #[.int .u64 0, .int .u64 0, .int .u64 0]) ∧ Below w.heap.size w w' := by
  go_enter Tryd.func27, Tryd.ntmps27
  go_wp2
  refine bodyPost_ret (v := .agg #[.int .u64 0, .int .u64 0, .int .u64 0]) (by simp [results, Tryd.results27, go_sem]) rfl ⟨rfl, ?_⟩
  go_grown
set_option maxHeartbeats 400000 in
set_option maxRecDepth 100000 in
theorem write_any (ino kind : Nat) (s : ByteArray) (w : World) (h1 : 1 ≤ ino) (h2 : ino ≤ 64) (h3 : kind ≤ 3) (h4 : 1 ≤ s.size) (h5 : s.size ≤ 16) :
    Calls Tryd.prog 27 #[.agg #[.int .i64 (ino : Int), .int .u8 (kind : Int), .string s]] w fun e w' => e = .returned (.agg #[.int .u64 (writeF ino kind s.data.toList 0 : Nat), .int .u64 (writeF ino kind s.data.toList 1 : Nat), .int .u64 (writeF ino kind s.data.toList 2 : Nat)]) ∧ Below w.heap.size w w' := by
  have h0 : ¬ ((ino : Int) = 0) := by omega
  have hlo := lo_bits ino kind s.data.toList h2 h3 (by simpa using h5)
  rw [show s.data.toList.length = s.size from rfl] at hlo
  have hl1 : slotLo ino kind s.data.toList < 16777216 := by unfold slotLo; rw [show s.data.toList.length = s.size from rfl]; omega
  go_enter Tryd.func27, Tryd.ntmps27
  go_wp2_with fail
  go_region_with (go_at_call 38; refine (pack_any _ _ (by omega)).mono ?_; rintro e w1 ⟨rfl, hrow, hsz, hb⟩; obtain ⟨wc, hcp, hrc, hfr, hsc, hbc⟩ := copy_row w1 (w.heap.size + 1 + 1) (w.heap.size + 1 + 1 + 1) ((s.size + 7) / 8) 3 67 _ (fun _ => .int .u64 0) (by simpa using ((row3 _ 67 _ _ _ (fun _ => .int .u64 0) rfl rfl rfl).drew.of_block (hb.block _ (by simp)))) (by simpa using hrow) (by omega) (fun _ => rfl))
  clear hcp hrow
  have rB : wc.rowIs (w.heap.size + 1) 67 3 (fun _ => .int .u64 0) := by
    have := ((row3 (w.alloc (.cells #[.int .i64 (ino : Int), .int .u8 (kind : Int), .string s] 23)) 67 _ _ _ (fun _ => .int .u64 0) rfl rfl rfl).alloc (.cells #[.int .u64 0, .int .u64 0, .int .u64 0] 67)).drew.of_block (hb.block _ (by simp))
    simpa using this.of_block (hfr _ (by simp))
  have rA : wc.rowIs w.heap.size 23 3 (fun j => if j = 0 then .int .i64 (ino : Int) else if j = 1 then .int .u8 (kind : Int) else .string s) := by
    have := (((row3 w 23 (.int .i64 (ino : Int)) (.int .u8 (kind : Int)) (.string s) (fun j => if j = 0 then .int .i64 (ino : Int) else if j = 1 then .int .u8 (kind : Int) else .string s) rfl rfl rfl).alloc (.cells #[.int .u64 0, .int .u64 0, .int .u64 0] 67)).alloc (.cells #[.int .u64 0, .int .u64 0, .int .u64 0] 67)).drew.of_block (hb.block _ (by simp; omega))
    exact this.of_block (hfr _ (by omega))
  have rG : wc.rowIs (w.heap.size + 1 + 1) 67 3 (fun j => .int .u64 (wpack s.data.toList s.size j : Nat)) := hrc.congr (fun j hj => by
    by_cases h : j < (s.size + 7) / 8
    · rw [if_pos h]
    · rw [if_neg h, wpack_out _ _ _ (by omega)]; rfl)
  clear hrc
  obtain ⟨a0, a1, a2, -, -, -⟩ := three _ _ _ _ rA
  obtain ⟨b0, b1, b2, fb0, fb1, fb2⟩ := three _ _ _ _ rB
  obtain ⟨g0, g1, g2, fg0, fg1, fg2⟩ := three _ _ _ _ rG
  simp at a0 a1 a2 b0 b1 b2
  have Hfr := hid hfr
  have Hb := hid hb
  have Hsz := hid hsz
  have Hsc := hid hsc
  have HrA := hid rA
  have HrB := hid rB
  have HrG := hid rG
  have Hbc := hid hbc
  clear hfr hb hsz hsc rA rB rG hbc
  go_wp2_with fail
  have HrG2 := hid (HrG.out.set 2 (.int .u64 (slotLo ino kind s.data.toList : Nat)))
  have hzc : w.heap.size + 1 + 1 + 1 < wc.heap.size := by have := Hsc.out; have := Hsz.out; simp at this; omega
  refine (text_at ⟨w.heap.size + 1 + 1, 0, none⟩ 3 3 20 20 rfl (aheadF ino kind s.data.toList) _ (by omega) (by omega) ?_ ?_).mono ?_
  · simp [World.setCell]; omega
  · intro k hk
    have ha : (⟨w.heap.size + 1 + 1, 0, none⟩ : Addr).add k = ⟨w.heap.size + 1 + 1, k, none⟩ := by unfold Addr.add; by_cases h0 : k = 0 <;> simp [h0]
    rw [ha, HrG2.out.cell hk]
    unfold aheadF
    by_cases h : k = 2
    · rw [if_pos h, if_pos h]
    · rw [if_neg h, if_neg h]; rfl
  rintro e w2 ⟨rfl, hb2⟩
  have rA2 := (HrA.out.setOther (a := ⟨w.heap.size + 1 + 1, 2, none⟩) (by simp; omega) (.int .u64 (slotLo ino kind s.data.toList : Nat))).of_block (hb2.block _ (by simp [World.setCell]; omega))
  have rB2 := (HrB.out.setOther (a := ⟨w.heap.size + 1 + 1, 2, none⟩) (by simp) (.int .u64 (slotLo ino kind s.data.toList : Nat))).of_block (hb2.block _ (by simp [World.setCell]; omega))
  have rG2 := HrG2.out.of_block (hb2.block _ (by simp [World.setCell]; omega))
  have Hb2 := hid hb2
  clear hb2 a0 a1 a2 b0 b1 b2 fb0 fb1 fb2 g0 g1 g2 fg0 fg1 fg2
  obtain ⟨a0, a1, a2, -, -, -⟩ := three _ _ _ _ rA2
  obtain ⟨b0, b1, b2, fb0, fb1, fb2⟩ := three _ _ _ _ rB2
  obtain ⟨g0, g1, g2, fg0, fg1, fg2⟩ := three _ _ _ _ rG2
  simp at a0 a1 a2 b0 b1 b2 g0 g1 g2
  have HrG3 := hid rG2
  clear rA2 rB2 rG2 hlo
  have hof := of_any ⟨(textW (aheadF ino kind s.data.toList) 20).toArray⟩ (by simp [ByteArray.size, textW_length])
  have hcl := crcOf_lt (textW (aheadF ino kind s.data.toList) 20)
  have hcb := crc_bits (slotLo ino kind s.data.toList) (crcOf (textW (aheadF ino kind s.data.toList) 20)) (by omega) hcl
  have e1 : (⟨(textW (aheadF ino kind s.data.toList) 20).toArray⟩ : ByteArray).data.toList = textW (aheadF ino kind s.data.toList) 20 := by simp
  rw [e1] at hof
  generalize hcr : crcOf (textW (aheadF ino kind s.data.toList) 20) = cr at *
  have Hcr := hid hcr
  have Hof := hid hof
  clear hcr hof e1
  go_wp2_with fail
  go_region_with (go_at_call 39; refine (Hof.out _).mono ?_; rintro e w3 ⟨rfl, rfl⟩)
  all_goals
    go_wp2_with fail
    refine bodyPost_ret (v := .agg #[.int .u64 (writeF ino kind s.data.toList 0 : Nat), .int .u64 (writeF ino kind s.data.toList 1 : Nat), .int .u64 (writeF ino kind s.data.toList 2 : Nat)]) ?_ rfl ⟨rfl, ?_⟩
    · simp [results, Tryd.results27, go_sem, b0, b1, b2, writeF, Hcr.out]
    · have hA := ((((((Below.refl w.heap.size w).alloc (Nat.le_refl _) (.cells #[.int .i64 (ino : Int), .int .u8 (kind : Int), .string s] 23)).alloc (by simp) (.cells #[.int .u64 0, .int .u64 0, .int .u64 0] 67)).alloc (by simp; omega) (.cells #[.int .u64 0, .int .u64 0, .int .u64 0] 67)).drew).trans (Hb.out.mono (by simp; omega))).trans (Hbc.out.mono (by omega))
      exact (((((hA.setCell (p := ⟨w.heap.size + 1 + 1, 2, none⟩) (by simp; omega) _).trans (Hb2.out.mono (by simp [World.setCell]; omega))).setCell (p := ⟨w.heap.size + 1 + 1, 2, none⟩) (by simp; omega) _).setCell (p := ⟨w.heap.size + 1, 0, none⟩) (by simp) _).setCell (p := ⟨w.heap.size + 1, 1, none⟩) (by simp) _).setCell (p := ⟨w.heap.size + 1, 2, none⟩) (by simp) _ |>.drew
end Go.Proofs.YtejapeafepcacaaDoor
