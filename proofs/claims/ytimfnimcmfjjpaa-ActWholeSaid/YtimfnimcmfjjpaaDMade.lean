/- A device of a geometry, its slot's word 0 being 0. -/
import Derived.Test.YtimfnimcmfjjpaaDDone
namespace Go.Proofs.Ytimfnimcmfjjpaa
open Go.RowKit
/-- Words that came in. -/
def BaseAt (w : World) (A : Option Addr) (m : Nat) (f : Nat → Int) : Prop := (m = 0 ∨ ∃ ad, A = some ad ∧ ad.block < w.heap.size ∧ ∀ k, k < m → w.cell? (ad.add k) = some (.int .u64 (f k))) ∧ ∀ k, k < m → 0 ≤ f k ∧ f k < 18446744073709551616
theorem BaseAt.below {w w' : World} {A : Option Addr} {m : Nat} {f : Nat → Int} (h : BaseAt w A m f) (hb : Below w.heap.size w w') : BaseAt w' A m f := by
  refine ⟨?_, h.2⟩
  rcases h.1 with h0 | ⟨ad, rfl, hlt, hc⟩
  · exact .inl h0
  · exact .inr ⟨ad, rfl, Nat.lt_of_lt_of_le hlt hb.size, fun k hk => (hb.cell (p := ad.add k) (by rw [block_of_add]; exact hlt)).trans (hc k hk)⟩
/-- A row of words. -/
def WRow (w : World) (q n : Nat) : Prop := ∃ F : Nat → Int, w.rowIs q 51 n (fun i => .int .u64 (F i)) ∧ ∀ i, i < n → 0 ≤ F i ∧ F i < 18446744073709551616
/-- .. which the device then keeps. -/
def MadeZ (w : World) (n : Nat) (a : Nat) (e : Ending) (w' : World) : Prop := ∃ d kB c K, e = .returned (.pointer (some ⟨d, 0, none⟩)) ∧ DevAt w' w.heap.size d kB c (.slice none 0 0) n K [] ∧ K a = 0 ∧ (∀ i, i < n → 0 ≤ K i ∧ K i < 18446744073709551616) ∧ Below w.heap.size w w'
set_option maxHeartbeats 4000000 in
set_option maxRecDepth 100000 in
theorem device_any (A KA : Option Addr) (m c kn kc a : Nat) (cut p i b : Int) (f : Nat → Int) (w : World) (hm : m ≤ 100000) (hb : BaseAt w A m f) (hg : gok p i b = true) (N : Nat) (hN : 8 * linesN p i b = (N : Int)) (hN1 : 0 < N) (hN2 : N % 8 = 0) (hN3 : N ≤ 32768) (ha : a < N) :
    Calls Try.prog 17 #[.agg #[.slice A m c, .int .u16 cut, .slice KA kn kc], .agg #[.int .i64 p, .int .i64 i, .int .i64 b], .int .i64 (a : Int)] w (MadeZ w N a) := by
  have HBA := hid hb
  have HG := hid hg
  have HN := hid hN
  clear hb hg hN
  have b0 := hid (show Below w.heap.size w ((w.alloc (.cells #[.slice A m c, .int .u16 cut, .slice KA kn kc] 42)).alloc (.cells #[.int .i64 p, .int .i64 i, .int .i64 b] 23)) from ((Below.refl _ _).alloc (Nat.le_refl _) _).alloc (by simp) _)
  have hsz : w.heap.size + 1 < ((w.alloc (.cells #[.slice A m c, .int .u16 cut, .slice KA kn kc] 42)).alloc (.cells #[.int .i64 p, .int .i64 i, .int .i64 b] 23)).heap.size := by simp
  go_enter Try.func17, Try.ntmps17
  go_wp2_with fail
  refine (rwords_ok p i b _ HG.out).mono ?_
  rw [HN.out]
  rintro e w1 ⟨rfl, hb⟩
  have B1 := hid (b0.out.trans (hb.mono b0.out.size))
  have x1 : w1.cell? ⟨w.heap.size, 0, none⟩ = some (.slice A m c) := (hb.cell (p := ⟨w.heap.size, 0, none⟩) (Nat.lt_of_succ_lt hsz)).trans (by simp)
  have Z1 : Hid (w.heap.size < w1.heap.size) := Nat.lt_of_lt_of_le (Nat.lt_of_succ_lt hsz) hb.size
  have X1 := hid x1
  clear hb x1 hsz
  have hN0 : (0 : Int) ≤ (N : Int) := by omega
  have hN4 : (N : Int) ≤ 32768 := by omega
  have hmk := run_make_row' (P := Try.prog) 38 51 _ 8 Try.underlying38 word_info rfl .i64 .i64 N (by omega) (by omega) w1
  go_wp2_with fail
  clear hmk
  go_loopw [8] (fun v wr => ∃ k : Nat, k ≤ N ∧ v = .int .i64 k ∧ WRow wr w1.heap.size N ∧ Below w1.heap.size w1 wr) (fun v _ => N - (intOf v).toNat)
  case atStart => exact ⟨0, by omega, rfl, ⟨fun _ => 0, World.rowIs_made w1 (.int .u64 0) N 51, fun _ _ => by show (0 : Int) ≤ 0 ∧ (0 : Int) < _; omega⟩, (Below.refl _ _).alloc (Nat.le_refl _) _⟩
  case round =>
    obtain ⟨k, hk, rfl, hw, hb⟩ := hrel
    have HW := hid hw
    have HB := hid hb
    have x0 := (hb.cell (p := ⟨w.heap.size, 0, none⟩) Z1.out).trans X1.out
    clear hw hb
    by_cases hlt : k < N
    · have hlt' : (k : Int) < (N : Int) := by omega
      have h0k : (0 : Int) ≤ (k : Int) := by omega
      by_cases hm0 : 0 < m
      · have hm1 : (0 : Int) < (m : Int) := by omega
        have hkm := Nat.mod_lt k hm0
        obtain ⟨ad, rfl, hadl, hc⟩ : ∃ ad, A = some ad ∧ ad.block < w.heap.size ∧ w.cell? (ad.add (k % m)) = some (.int .u64 (f (k % m))) := by
          rcases HBA.out.1 with h0 | ⟨ad, e, h1, h2⟩
          · omega
          · exact ⟨ad, e, h1, h2 _ hkm⟩
        have hc' := (HB.out.cell (p := ad.add (k % m)) (by rw [block_of_add]; exact Nat.lt_trans hadl Z1.out)).trans ((B1.out.cell (p := ad.add (k % m)) (by rw [block_of_add]; exact hadl)).trans hc)
        have hfw := HBA.out.2 _ hkm
        have hrem : (k : Int).tmod (m : Int) = ((k % m : Nat) : Int) := by rw [Int.tmod_eq_emod_of_nonneg h0k]; rfl
        clear hc
        obtain ⟨F, hF, hFw⟩ := HW.out
        have t0 : wr.cell? ⟨w1.heap.size, k, none⟩ = some (.int .u64 (F k)) := hF.cell hlt
        have t1 := hF.frozen k
        have WS := hid (hF.set k (.int .u64 (f (k % m))))
        have HFw := hid hFw
        have Hfw := hid hfw
        clear hF hFw hfw
        have Bs := hid (HB.out.setCell (show w1.heap.size ≤ (⟨w1.heap.size, k, none⟩ : Addr).block from Nat.le_refl _) (.int .u64 (f (k % m))))
        have hz1 : ¬ (m : Int) = 0 := by omega
        have hz2 : ((m : Int) == 0) = false := by simpa using hz1
        have hkm' : ((k % m : Nat) : Int) < (m : Int) := by omega
        have h0km : (0 : Int) ≤ ((k % m : Nat) : Int) := by omega
        go_wp2
        go_region
        go_wp2
        go_roundw
        case rel =>
          refine ⟨k + 1, by omega, by go_num, ⟨fun j => if j = k then f (k % m) else F j, ?_, fun j hj => ?_⟩, ⟨Bs.out.os, Bs.out.tape, Bs.out.output, Bs.out.size, Bs.out.block⟩⟩
          · have := WS.out.congr (g := fun j => .int .u64 (if j = k then f (k % m) else F j)) (fun j _ => by by_cases e : j = k <;> simp [e])
            exact this
          · show 0 ≤ (if j = k then _ else _) ∧ (if j = k then _ else _) < _
            split
            · exact Hfw.out
            · exact HFw.out j hj
        case measure => simp [intOf]; omega
      · have hm1 : ¬ (0 : Int) < (m : Int) := by omega
        obtain ⟨F, hF, hFw⟩ := HW.out
        have t0 : wr.cell? ⟨w1.heap.size, a, none⟩ = some (.int .u64 (F a)) := hF.cell ha
        have t1 := hF.frozen a
        have WS := hid (hF.set a (.int .u64 0))
        have HF := hid hF
        have HFw := hid hFw
        clear hF hFw
        have haN : (a : Int) < (N : Int) := by omega
        have h0a : (0 : Int) ≤ (a : Int) := by omega
        have Bs := hid (HB.out.setCell (show w1.heap.size ≤ (⟨w1.heap.size, a, none⟩ : Addr).block from Nat.le_refl _) (.int .u64 0))
        have HI := hid (show WordsIn (wr.setCell ⟨w1.heap.size, a, none⟩ (.int .u64 0)) (some ⟨w1.heap.size, 0, none⟩) N (fun i => if i = a then 0 else F i) from ⟨_, rfl, WS.out.lt, fun k hk => (WS.out.cell hk).trans (by by_cases e : k = a <;> simp [e])⟩)
        go_wp2_with (go_at_call 42; refine (of_dev (some ⟨w1.heap.size, 0, none⟩) N N (fun i => if i = a then 0 else F i) _ HI.out hN1 hN2 hN3).mono ?_; rintro e w5 ⟨d, kB, c', rfl, hdv, hb⟩; have HDV := hid hdv; have HB5 := hid hb; clear hdv hb)
        go_ret
        exact ⟨d, kB, c', _, rfl, ⟨Nat.le_trans (Nat.le_trans B1.out.size Bs.out.size) HDV.out.lo, HDV.out.mid, HDV.out.row, HDV.out.kept, HDV.out.own⟩, if_pos rfl, fun j hj => (by
          show 0 ≤ (if j = a then _ else _) ∧ (if j = a then _ else _) < _
          split
          · omega
          · exact HFw.out j hj), B1.out.trans ((Bs.out.trans (HB5.out.mono Bs.out.size)).mono B1.out.size)⟩
    · obtain rfl : N = k := by omega
      obtain ⟨F, hF, hFw⟩ := HW.out
      have t0 : wr.cell? ⟨w1.heap.size, a, none⟩ = some (.int .u64 (F a)) := hF.cell ha
      have t1 := hF.frozen a
      have WS := hid (hF.set a (.int .u64 0))
      have HF := hid hF
      have HFw := hid hFw
      clear hF hFw
      have haN : (a : Int) < (N : Int) := by omega
      have h0a : (0 : Int) ≤ (a : Int) := by omega
      have Bs := hid (HB.out.setCell (show w1.heap.size ≤ (⟨w1.heap.size, a, none⟩ : Addr).block from Nat.le_refl _) (.int .u64 0))
      have HI := hid (show WordsIn (wr.setCell ⟨w1.heap.size, a, none⟩ (.int .u64 0)) (some ⟨w1.heap.size, 0, none⟩) N (fun i => if i = a then 0 else F i) from ⟨_, rfl, WS.out.lt, fun k hk => (WS.out.cell hk).trans (by by_cases e : k = a <;> simp [e])⟩)
      go_wp2_with (go_at_call 42; refine (of_dev (some ⟨w1.heap.size, 0, none⟩) N N (fun i => if i = a then 0 else F i) _ HI.out hN1 hN2 hN3).mono ?_; rintro e w5 ⟨d, kB, c', rfl, hdv, hb⟩; have HDV := hid hdv; have HB5 := hid hb; clear hdv hb)
      go_ret
      exact ⟨d, kB, c', _, rfl, ⟨Nat.le_trans (Nat.le_trans B1.out.size Bs.out.size) HDV.out.lo, HDV.out.mid, HDV.out.row, HDV.out.kept, HDV.out.own⟩, if_pos rfl, fun j hj => (by
        show 0 ≤ (if j = a then _ else _) ∧ (if j = a then _ else _) < _
        split
        · omega
        · exact HFw.out j hj), B1.out.trans ((Bs.out.trans (HB5.out.mono Bs.out.size)).mono B1.out.size)⟩
end Go.Proofs.Ytimfnimcmfjjpaa
