/- A device: its words; a crash. -/
import Derived.Test.YtimfnimcmfjjpaaCuts
namespace Go.Proofs.Ytimfnimcmfjjpaa
open Go.RowKit
theorem KeptAt.wordsIn {w : World} {b n : Nat} {K : Nat → Int} (h : KeptAt w b n K) : WordsIn w (some ⟨b, 0, none⟩) n K := by
  obtain ⟨cap, F, h1, h2, h3⟩ := h
  exact ⟨b, rfl, h2.lt, fun k hk => (h2.cell (by omega)).trans (by rw [h3 k hk])⟩
theorem KeptAt.below {w w' : World} {b n : Nat} {K : Nat → Int} (h : KeptAt w b n K) (hb : Below w.heap.size w w') : KeptAt w' b n K := by
  obtain ⟨cap, F, h1, h2, h3⟩ := h
  exact ⟨cap, F, h1, above_row hb h2, h3⟩
set_option maxHeartbeats 1000000 in
set_option maxRecDepth 100000 in
/-- The words of a device on which nothing waits. -/
theorem dwords_any (B d kB c n : Nat) (K : Nat → Int) (w : World) (h : DevAt w B d kB c (.slice none 0 0) n K []) (h0 : 0 < n) (hn : n ≤ 1000000) :
    Calls Try.prog 18 #[.pointer (some ⟨d, 0, none⟩)] w fun e w' => ∃ c', e = .returned (.slice (some ⟨w.heap.size, 0, none⟩) n c') ∧ KeptAt w' w.heap.size n K ∧ Below w.heap.size w w' := by
  have c0 := h.cells.1
  have c1 := h.cells.2
  have HI := hid h.kept.wordsIn
  have hlt := hid h.lt
  clear h
  go_enter Try.func18, Try.ntmps18
  go_wp2_with (at_builtin; refine wpList_copy_words rfl (.const (.slice none 0 0)) (.tmp 8) rfl _ n c K rfl rfl HI.out h0 hn ?_; intro c' w2 hb hk; have HB := hid hb; have HK := hid hk; clear hb hk)
  have d1 := hid ((HB.out.cell (p := ⟨d, 1, none⟩) hlt.out).trans c1)
  go_loopw [4] (fun v wr => v = .int .i64 0 ∧ wr = w2) (fun _ _ => 0)
  case atStart => exact ⟨rfl, rfl⟩
  case round =>
    obtain ⟨rfl, rfl⟩ := hrel
    have d1' := d1.out
    go_wp2
    go_ret
    exact ⟨c', rfl, HK.out, HB.out⟩
/-- Bools that a slice holds, in a block ahead of B. -/
def BoolsAt (w : World) (B : Nat) (A : Option Addr) (m : Nat) (f : Nat → Bool) : Prop := m = 0 ∨ ∃ ad, A = some ad ∧ ad.block < B ∧ ∀ k, k < m → w.cell? (ad.add k) = some (.bool (f k))
theorem BoolsAt.low {w w' : World} {B B' : Nat} {A : Option Addr} {m : Nat} {f : Nat → Bool} (h : BoolsAt w B A m f) (hb : Below B w w') (hB : B ≤ B') : BoolsAt w' B' A m f := by
  rcases h with h0 | ⟨ad, rfl, h1, h2⟩
  · exact .inl h0
  · exact .inr ⟨ad, rfl, Nat.lt_of_lt_of_le h1 hB, fun k hk => (hb.cell (p := ad.add k) (by rw [block_of_add]; exact h1)).trans (h2 k hk)⟩
def keepF (m : Nat) (f : Nat → Bool) (i : Nat) : Bool := decide (i < m) && f i
theorem crash_next {K : Nat → Int} {L : List Pd} {keep : Nat → Bool} {k : Nat} (h : k < L.length) : crashTo K L keep (k + 1) = if keep k then updK (crashTo K L keep k) L[k].a L[k].w else crashTo K L keep k := by
  have e : L.getD k ⟨0, 0, false⟩ = L[k] := by rw [List.getD_eq_getElem?_getD, List.getElem?_eq_getElem h]; rfl
  rw [← e]
  rfl
set_option maxHeartbeats 2000000 in
set_option maxRecDepth 100000 in
theorem dcrash_any (B d kB c n : Nat) (lv : Value) (K : Nat → Int) (L : List Pd) (KA : Option Addr) (kn kc : Nat) (kf : Nat → Bool) (w : World) (h : DevAt w B d kB c lv n K L) (hl : L.length ≤ 100000) (ha : ∀ p ∈ L, 0 ≤ p.a ∧ p.a < (n : Int)) (hk : BoolsAt w B KA kn kf) :
    Calls Try.prog 20 #[.pointer (some ⟨d, 0, none⟩), .slice KA kn kc] w fun e w' => e = .returned (.tuple #[]) ∧ DevAt w' B d kB c (.slice none 0 0) n (crashTo K L (keepF kn kf) L.length) [] ∧ Below B w w' := by
  obtain ⟨A, cap, rfl⟩ : ∃ A cap, lv = .slice A L.length cap := by
    rcases h.lvs with ⟨h1, h2⟩ | ⟨g, cap, h1, -⟩
    · exact ⟨none, 0, by rw [h1, h2]; rfl⟩
    · exact ⟨_, _, h1⟩
  have H := hid h
  have HA := hid ha
  have HKB := hid hk
  clear h ha hk
  go_enter Try.func20, Try.ntmps20
  go_wp2_with fail
  go_loopw [4] (fun v wr => ∃ k : Nat, k ≤ L.length ∧ v = .int .i64 k ∧ DevAt wr B d kB c (.slice A L.length cap) n (crashTo K L (keepF kn kf) k) L ∧ Below B w wr) (fun v _ => L.length - (intOf v).toNat)
  case atStart => exact ⟨0, by omega, rfl, H.out, Below.refl _ _⟩
  case round =>
    obtain ⟨k, hk, rfl, hd, hb⟩ := hrel
    have HD := hid hd
    have HB := hid hb
    have hdl := hd.lt
    have d0 := hd.cells.1
    have d1 := hd.cells.2
    have HBk := hid (HKB.out.low hb (Nat.le_refl _))
    clear hb
    by_cases hlt : k < L.length
    · have hlt' : (k : Int) < (L.length : Int) := by omega
      have h0k : (0 : Int) ≤ (k : Int) := by omega
      obtain ⟨g, rfl, hdg, hgl⟩ : ∃ g, A = some ⟨g, 0, none⟩ ∧ d < g ∧ g < wr.heap.size := by
        rcases hd.lvs with ⟨h1, h2⟩ | ⟨g, cap', h1, h2, h3⟩
        · rw [h2] at hlt; simp at hlt
        · exact ⟨g, by simpa using congrArg (fun v => match v with | Value.slice A _ _ => A | _ => none) h1, h2, h3⟩
      obtain ⟨x0, x1, x2⟩ := pdsL_at L k hlt
      have y0 := hd.own.cells (g := g) rfl _ _ x0
      have y1 := hd.own.cells (g := g) rfl _ _ x1
      rw [addz] at y0 y1
      have hap := HA.out L[k] (List.getElem_mem hlt)
      have HKn := hid (crash_next (K := K) (keep := keepF kn kf) hlt)
      clear x0 x1 x2
      generalize L[k] = p at y0 y1 hap HKn
      obtain ⟨pa, pw, pf⟩ := p
      dsimp only at y0 y1 hap
      obtain ⟨m, rfl⟩ := Int.eq_ofNat_of_zero_le hap.1
      obtain ⟨ca, F, q1, q2, q3⟩ := hd.kept
      have hmn : m < n := by omega
      have e0 := q2.cell (i := m) (by omega)
      have e1 := q2.frozen m
      clear q1 q2 q3 hd
      have hmn' : (m : Int) < (n : Int) := by omega
      have h0m : (0 : Int) ≤ (m : Int) := by omega
      clear hap
      by_cases hkn : k < kn
      · have hkn' : (k : Int) < (kn : Int) := by omega
        obtain ⟨ad, rfl, hc⟩ : ∃ ad, KA = some ad ∧ wr.cell? (ad.add k) = some (.bool (kf k)) := by
          rcases HBk.out with h0 | ⟨ad, e, -, h2⟩
          · omega
          · exact ⟨ad, e, h2 k hkn⟩
        have HF := hid (show keepF kn kf k = kf k by unfold keepF; rw [decide_eq_true hkn]; rfl)
        generalize kf k = b at hc HF
        cases b
        · go_wp2
          go_roundw
          case rel => exact ⟨k + 1, by omega, by go_num, by rw [HKn.out, HF.out]; exact HD.out, HB.out⟩
          case measure => simp [intOf]; omega
        · go_wp2
          refine wp_region_still_tail 21 (by kernel_rfl) (by kernel_rfl) ?_
          simp only [List.take_succ_cons, List.take_zero, List.drop_succ_cons, List.drop_zero]
          repeat still_step
          refine wpStill_nil ?_
          change wpList _ _ _ _ _ wr.drew
          go_wp2
          go_roundw
          case rel =>
            have DX := HD.out.put (m := m) pw
            have BX := HB.out.setCell (p := ⟨kB, m, none⟩) (by show B ≤ kB; exact HD.out.lo) (.int .u64 pw)
            refine ⟨k + 1, by omega, by go_num, ?_, ?_⟩
            · rw [HKn.out, HF.out]; exact ⟨DX.lo, DX.mid, DX.row, DX.kept, DX.own⟩
            · exact ⟨BX.os, BX.tape, BX.output, BX.size, BX.block⟩
          case measure => simp [intOf]; omega
      · have hkn' : ¬ (k : Int) < (kn : Int) := by omega
        have HF := hid (show keepF kn kf k = false by unfold keepF; rw [decide_eq_false hkn]; rfl)
        go_wp2
        go_roundw
        case rel => exact ⟨k + 1, by omega, by go_num, by rw [HKn.out, HF.out]; exact HD.out, HB.out⟩
        case measure => simp [intOf]; omega
    · obtain rfl : L.length = k := by omega
      have DX := hid (HD.out.rested (R := []) (N := d + 1) (World.ownsRow_nil _ _ _ _) (by omega))
      have BX := hid (HB.out.setCell (show B ≤ (⟨d, 1, none⟩ : Addr).block by have := HD.out.lo; have := HD.out.mid; show B ≤ d; omega))
      have f1 := frozen_row hd.row 1
      clear hd
      go_wp2
      go_end0
      exact ⟨rfl, DX.out, BX.out _⟩
end Go.Proofs.Ytimfnimcmfjjpaa
