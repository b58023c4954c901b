/- Walk of entry.Decode where the words are no slot by their number, by the geometry or by the length of the name. -/
import Derived.Test.YtejapeafepcacaaDoorEncode
import Derived.Deep.QuietTactic
import Derived.BigQuiet
import Derived.Deep.RegionHeld3
import Derived.Deep.DeepCutAuto
namespace Go.Proofs.YtejapeafepcacaaDoor
open Go.RowKit
set_option maxHeartbeats 400000 in
set_option maxRecDepth 100000 in
theorem decode_geom (A : Option Addr) (m cap : Nat) (p i b : Int) (w : World) (h : gok p i b = false) :
    Calls Tryd.prog 10 #[.slice A m cap, .agg #[.int .i64 p, .int .i64 i, .int .i64 b]] w fun e w' => e = .returned (.tuple #[.agg #[.int .i64 0, .int .u8 0, .string ⟨#[]⟩], .iface 58 (.agg #[.int .i64 0, .int .i64 2])]) ∧ Below w.heap.size w w' := by
  have H := hid h
  clear h
  go_enter Tryd.func10, Tryd.ntmps10
  go_wp2_with fail
  refine (check_no _ _ _ _ H.out).mono ?_
  rintro e w1 ⟨rfl, hb⟩
  obtain ⟨hc, hf⟩ := bcell hb
  have Hb := hid (((((Below.refl _ _).alloc (Nat.le_refl _) _).alloc (by simp) _).alloc (by simp; omega) _).trans (hb.mono (by simp; omega)))
  have c0 : w1.cell? ⟨w.heap.size + 1 + 1, 0, none⟩ = some (.int .i64 0) := by rw [hc (w.heap.size + 1 + 1) 0 (by simp)]; go_simp
  have c1 : w1.cell? ⟨w.heap.size + 1 + 1, 1, none⟩ = some (.int .u8 0) := by rw [hc (w.heap.size + 1 + 1) 1 (by simp)]; go_simp
  have c2 : w1.cell? ⟨w.heap.size + 1 + 1, 2, none⟩ = some (.string ⟨#[]⟩) := by rw [hc (w.heap.size + 1 + 1) 2 (by simp)]; go_simp
  go_wp2
  refine bodyPost_ret (v := .tuple #[.agg #[.int .i64 0, .int .u8 0, .string ⟨#[]⟩], .iface 58 (.agg #[.int .i64 0, .int .i64 2])]) ?_ rfl ⟨rfl, ?_⟩
  · simp [results, Tryd.results10, go_sem, c0, c1, c2]
  · exact ((Hb.out.setCell (p := ⟨w.heap.size + 1 + 1, 0, none⟩) (by simp; omega) _).setCell (p := ⟨w.heap.size + 1 + 1, 1, none⟩) (by simp; omega) _).setCell (p := ⟨w.heap.size + 1 + 1, 2, none⟩) (by simp; omega) _
set_option maxHeartbeats 400000 in
set_option maxRecDepth 100000 in
theorem decode_len (A : Option Addr) (m cap : Nat) (p i b : Int) (w : World) (h : gok p i b = true) (hm : m ≠ 3) :
    Calls Tryd.prog 10 #[.slice A m cap, .agg #[.int .i64 p, .int .i64 i, .int .i64 b]] w fun e w' => e = .returned (.tuple #[.agg #[.int .i64 0, .int .u8 0, .string ⟨#[]⟩], .iface 58 (.agg #[.int .i64 0, .int .i64 7])]) ∧ Below w.heap.size w w' := by
  have H := hid h
  clear h
  have hm' : ((m : Int) == 3) = false := by simp; omega
  go_enter Tryd.func10, Tryd.ntmps10
  go_wp2_with fail
  refine (check_yes _ _ _ _ H.out).mono ?_
  rintro e w1 ⟨rfl, hb⟩
  obtain ⟨hc, hf⟩ := bcell hb
  have Hb := hid (((((Below.refl _ _).alloc (Nat.le_refl _) _).alloc (by simp) _).alloc (by simp; omega) _).trans (hb.mono (by simp; omega)))
  have c0 : w1.cell? ⟨w.heap.size + 1 + 1, 0, none⟩ = some (.int .i64 0) := by rw [hc (w.heap.size + 1 + 1) 0 (by simp)]; go_simp
  have c1 : w1.cell? ⟨w.heap.size + 1 + 1, 1, none⟩ = some (.int .u8 0) := by rw [hc (w.heap.size + 1 + 1) 1 (by simp)]; go_simp
  have c2 : w1.cell? ⟨w.heap.size + 1 + 1, 2, none⟩ = some (.string ⟨#[]⟩) := by rw [hc (w.heap.size + 1 + 1) 2 (by simp)]; go_simp
  go_wp2
  refine bodyPost_ret (v := .tuple #[.agg #[.int .i64 0, .int .u8 0, .string ⟨#[]⟩], .iface 58 (.agg #[.int .i64 0, .int .i64 7])]) ?_ rfl ⟨rfl, ?_⟩
  · simp [results, Tryd.results10, go_sem, c0, c1, c2]
  · exact ((Hb.out.setCell (p := ⟨w.heap.size + 1 + 1, 0, none⟩) (by simp; omega) _).setCell (p := ⟨w.heap.size + 1 + 1, 1, none⟩) (by simp; omega) _).setCell (p := ⟨w.heap.size + 1 + 1, 2, none⟩) (by simp; omega) _
def nameN (f : Nat → Nat) : Nat := f 2 / 65536 % 256
def inoN (f : Nat → Nat) : Nat := f 2 % 256
def kindN (f : Nat → Nat) : Nat := f 2 / 256 % 256
theorem below_drewN {B : Nat} {a w : World} (h : Below B a w) (n : Nat) : Below B a (w.drewN n) := ⟨h.os, h.tape, h.output, h.size, h.block⟩
theorem late {w : World} {a : Addr} {v : Value} (h : w.cell? a = some v) (o : Obj) (n : Nat) : ((w.alloc o).drewN n).cell? a = some v :=
  (World.cell?_alloc_lt w o a (block_lt_of_cell h)).trans h
/-- What lies where in entry.Decode, once the geometry was looked at. -/
theorem pre10 {w w1 : World} {ad : Addr} {cap : Nat} {f : Nat → Nat} {p i b : Int} (hb0 : ad.block < w.heap.size)
    (hcell : ∀ k, k < 3 → w.cell? (ad.add k) = some (.int .u64 (f k : Nat)))
    (hb : Below (((w.alloc (.cells #[.slice (some ad) 3 cap] 28)).alloc (.cells #[.int .i64 p, .int .i64 i, .int .i64 b] 25)).alloc (.cells #[.int .i64 0, .int .u8 0, .string ⟨#[]⟩] 23)).heap.size
      (((w.alloc (.cells #[.slice (some ad) 3 cap] 28)).alloc (.cells #[.int .i64 p, .int .i64 i, .int .i64 b] 25)).alloc (.cells #[.int .i64 0, .int .u8 0, .string ⟨#[]⟩] 23)) w1) :
    w1.cell? ⟨w.heap.size, 0, none⟩ = some (.slice (some ad) 3 cap) ∧ (∀ k, k < 3 → w1.cell? (ad.add k) = some (.int .u64 (f k : Nat))) ∧
    w1.rowIs (w.heap.size + 1) 25 3 (fun j => if j = 0 then .int .i64 p else if j = 1 then .int .i64 i else .int .i64 b) ∧
    w1.rowIs (w.heap.size + 1 + 1) 23 3 (fun j => if j = 0 then .int .i64 0 else if j = 1 then .int .u8 0 else .string ⟨#[]⟩) ∧
    w.heap.size + 1 + 1 < w1.heap.size ∧ Below w.heap.size w w1 := by
  have hs := hb.size
  simp at hs
  refine ⟨?_, fun k hk => ?_, ?_, ?_, by omega, ?_⟩
  · rw [hb.cell (p := ⟨w.heap.size, 0, none⟩) (by simp; omega)]; go_simp
  · have hbl : (ad.add k).block < w.heap.size := by rw [block_of_add]; exact hb0
    rw [hb.cell (by simp; omega), World.cell?_alloc_lt _ _ _ (by simp; omega), World.cell?_alloc_lt _ _ _ (by simp; omega), World.cell?_alloc_lt _ _ _ hbl]
    exact hcell k hk
  · have := ((row3 (w.alloc (.cells #[.slice (some ad) 3 cap] 28)) 25 (.int .i64 p) (.int .i64 i) (.int .i64 b) (fun j => if j = 0 then .int .i64 p else if j = 1 then .int .i64 i else .int .i64 b) rfl rfl rfl).alloc (.cells #[.int .i64 0, .int .u8 0, .string ⟨#[]⟩] 23))
    exact World.rowIs.of_block (by simpa using this) (hb.block (w.heap.size + 1) (by simp))
  · have := (row3 ((w.alloc (.cells #[.slice (some ad) 3 cap] 28)).alloc (.cells #[.int .i64 p, .int .i64 i, .int .i64 b] 25)) 23 (.int .i64 0) (.int .u8 0) (.string ⟨#[]⟩) (fun j => if j = 0 then .int .i64 0 else if j = 1 then .int .u8 0 else .string ⟨#[]⟩) rfl rfl rfl)
    exact World.rowIs.of_block (by simpa using this) (hb.block (w.heap.size + 1 + 1) (by simp))
  · exact ((((Below.refl _ _).alloc (Nat.le_refl _) _).alloc (by simp) _).alloc (by simp; omega) _).trans (hb.mono (by simp; omega))
set_option maxHeartbeats 400000 in
set_option maxRecDepth 100000 in
theorem decode_far (ad : Addr) (cap : Nat) (f : Nat → Nat) (p i b : Int) (w : World) (h : gok p i b = true) (hb0 : ad.block < w.heap.size) (hcap : 3 ≤ cap) (hf : ∀ k, f k < 18446744073709551616)
    (hcell : ∀ k, k < 3 → w.cell? (ad.add k) = some (.int .u64 (f k : Nat))) (hn : 16 < nameN f) :
    Calls Tryd.prog 10 #[.slice (some ad) 3 cap, .agg #[.int .i64 p, .int .i64 i, .int .i64 b]] w fun e w' => e = .returned (.tuple #[.agg #[.int .i64 0, .int .u8 0, .string ⟨#[]⟩], .iface 58 (.agg #[.int .i64 0, .int .i64 7])]) ∧ Below w.heap.size w w' := by
  have H := hid h
  have Hf := hid hf
  have Hcell := hid hcell
  have Hn := hid hn
  have hcap2 : (2 : Int) ≤ (cap : Int) := by omega
  clear h hf hcell hn
  go_enter Tryd.func10, Tryd.ntmps10
  go_wp2_with fail
  refine (check_yes _ _ _ _ H.out).mono ?_
  rintro e w1 ⟨rfl, hb⟩
  obtain ⟨p0, pk, -, rR, hsz, hb1⟩ := pre10 hb0 Hcell.out hb
  have p2 := pk 2 (by omega)
  obtain ⟨r0, r1, r2, fr0, fr1, fr2⟩ := three _ _ _ _ rR
  simp at r0 r1 r2
  have Hb := hid hb1
  clear hb pk rR hb1
  go_wp2_with fail
  go_region_held3 (fun w' => w'.cell? ⟨w.heap.size, 0, none⟩ = some (.slice (some ad) 3 cap)) (go_keep) (first
    | (go_at_call 29; refine (field_any 16 65536 _ rfl rfl _ ad cap (f 2) _ (by omega) (Hf.out 2) ?_ ?_).mono ?_; exact p0; exact p2; rintro e w2 ⟨rfl, rfl⟩)
    | (go_at_call 30; refine (text_far _ 2 _ (nameN f) _ (by omega) Hn.out (by unfold nameN; omega)).mono ?_; rintro e w2 ⟨rfl, rfl⟩))
  go_wp2_with fail
  refine (field_any 0 1 _ rfl rfl _ ad cap (f 2) _ (by omega) (Hf.out 2) ?_ ?_).mono ?_
  · exact p0
  · exact p2
  rintro e w3 ⟨rfl, rfl⟩
  go_wp2_with fail
  refine (field_any 8 256 _ rfl rfl _ ad cap (f 2) _ (by omega) (Hf.out 2) ?_ ?_).mono ?_
  · exact p0
  · exact p2
  rintro e w3 ⟨rfl, rfl⟩
  go_wp2_with fail
  go_quiet (fail)
  go_wp2
  refine bodyPost_ret (v := .tuple #[.agg #[.int .i64 0, .int .u8 0, .string ⟨#[]⟩], .iface 58 (.agg #[.int .i64 0, .int .i64 7])]) ?_ rfl ⟨rfl, ?_⟩
  · simp [results, Tryd.results10, go_sem, late r0, late r1, late r2]
  · have hB := Hb.out
    exact (((below_drewN (hB.alloc hB.size _) _).setCell (p := ⟨w.heap.size + 1 + 1, 0, none⟩) (by simp; omega) _).setCell (p := ⟨w.heap.size + 1 + 1, 1, none⟩) (by simp; omega) _).setCell (p := ⟨w.heap.size + 1 + 1, 2, none⟩) (by simp; omega) _
end Go.Proofs.YtejapeafepcacaaDoor
