/- A device: Flush. -/
import Derived.Test.YtimfnimcmfjjpaaDev
import Derived.StillTailTactics
namespace Go.Proofs.Ytimfnimcmfjjpaa
open Go.RowKit
theorem addz (g j : Nat) : (⟨g, 0, none⟩ : Addr).add j = ⟨g, j, none⟩ := by
  by_cases e : j = 0
  · subst e; rfl
  · rw [add_lit _ _ e]; simp
theorem below_set3 {B g : Nat} {w w' : World} (h : Below B w w') (hg : B ≤ g) (i j k : Nat) (u v x : Value) : Below B w (((w'.setCell ⟨g, i, none⟩ u).setCell ⟨g, j, none⟩ v).setCell ⟨g, k, none⟩ x) := ((h.setCell hg u).setCell hg v).setCell hg x
theorem DevAt.turn' {w : World} {B d kB c n m g cap k : Nat} {K : Nat → Int} {L : List Pd} (h : DevAt w B d kB c (.slice (some ⟨g, 0, none⟩) m cap) n K L) (hk : k < L.length) (o : Pd) :
    DevAt (((w.setCell ⟨g, k * 3, none⟩ (.int .i64 o.a)).setCell ⟨g, k * 3 + 1, none⟩ (.int .u64 o.w)).setCell ⟨g, k * 3 + 2, none⟩ (.bool o.fl)) B d kB c (.slice (some ⟨g, 0, none⟩) m cap) n K (L.set k o) := by
  obtain rfl : m = L.length := by
    rcases h.lvs with ⟨h1, -⟩ | ⟨g', cap', h1, -⟩
    · cases h1
    · simpa using (congrArg (fun v => match v with | Value.slice _ n _ => n | _ => 0) h1)
  exact h.turn hk o
set_option maxHeartbeats 2000000 in
set_option maxRecDepth 100000 in
theorem dflush_any (B d kB c n : Nat) (lv : Value) (K : Nat → Int) (L : List Pd) (l : Int) (w : World) (h : DevAt w B d kB c lv n K L) (hl : L.length ≤ 100000) (ha : ∀ p ∈ L, 0 ≤ p.a ∧ p.a < 1000000000) :
    Calls Try.prog 45 #[.pointer (some ⟨d, 0, none⟩), .int .i64 l] w fun e w' => e = .returned (.tuple #[]) ∧ DevAt w' B d kB c lv n K (L.map (flush1 l)) ∧ Below B w w' := by
  obtain ⟨A, cap, rfl⟩ : ∃ A cap, lv = .slice A L.length cap := by
    rcases h.lvs with ⟨h1, h2⟩ | ⟨g, cap, h1, -⟩
    · exact ⟨none, 0, by rw [h1, h2]; rfl⟩
    · exact ⟨_, _, h1⟩
  have H := hid h
  have HA := hid ha
  clear h ha
  go_enter Try.func45, Try.ntmps45
  go_wp2_with fail
  go_loopw [4, 5] (fun v _ wr => ∃ k : Nat, k ≤ L.length ∧ v = .int .i64 k ∧ DevAt wr B d kB c (.slice A L.length cap) n K (flushTo l L k) ∧ Below B w wr) (fun v _ _ => L.length - (intOf v).toNat)
  case atStart => exact ⟨0, by omega, rfl, H.out, Below.refl _ _⟩
  case round =>
    obtain ⟨k, hk, rfl, hd, hb⟩ := hrel
    have HD := hid hd
    have HB := hid hb
    have hdl := hd.lt
    have d1 := hd.cells.2
    have hfl := flushTo_len l L k
    clear hb
    by_cases hlt : k < L.length
    · have hlt' : (k : Int) < (L.length : Int) := by omega
      have h0k : (0 : Int) ≤ (k : Int) := by omega
      obtain ⟨g, rfl, hdg, hgl⟩ : ∃ g, A = some ⟨g, 0, none⟩ ∧ d < g ∧ g < wr.heap.size := by
        rcases hd.lvs with ⟨h1, h2⟩ | ⟨g, cap', h1, h2, h3⟩
        · rw [h2] at hfl; simp at hfl; omega
        · exact ⟨g, by simpa using congrArg (fun v => match v with | Value.slice A _ _ => A | _ => none) h1, h2, h3⟩
      have hown := hd.own
      rw [hfl] at hown
      obtain ⟨x0, x1, x2⟩ := pdsL_at (flushTo l L k) k (by omega)
      have hp : (flushTo l L k)[k] = L[k] := by
        have := flushTo_at l L k (by omega) k
        rw [if_neg (by omega), List.getElem?_eq_getElem (by omega), List.getElem?_eq_getElem hlt] at this
        exact Option.some.inj this
      rw [hp] at x0 x1 x2
      have y0 := hown.cells (g := g) rfl _ _ x0
      have y1 := hown.cells (g := g) rfl _ _ x1
      have y2 := hown.cells (g := g) rfl _ _ x2
      rw [addz] at y0 y1 y2
      have hap := HA.out L[k] (List.getElem_mem hlt)
      have hlast : L.getD k ⟨0, 0, false⟩ = L[k] := by rw [List.getD_eq_getElem?_getD, List.getElem?_eq_getElem hlt]; rfl
      have HL := hid hlast
      clear hd hfl hown x0 x1 x2 hp hlast
      have HX := hid (show flushTo l L (k + 1) = (flushTo l L k).set k (flush1 l L[k]) by rw [flushTo, HL.out])
      generalize L[k] = p at y0 y1 y2 hap HX
      obtain ⟨pa, pw, pf⟩ := p
      dsimp only at y0 y1 y2 hap
      have hw : wrap64 (pa.tdiv 8) = pa / 8 := by
        rw [Int.tdiv_eq_ediv_of_nonneg hap.1]
        exact IntWalk.wrap64_in _ (by omega)
      clear hap
      have hpl : k < (flushTo l L k).length := by rw [flushTo_len]; exact hlt
      cases pf
      · go_wp2
        obtain ⟨W, hW⟩ : ∃ W, W = wr.alloc (.cells #[.int .i64 pa, .int .u64 pw, .bool (pa / 8 == l)] 69) := ⟨_, rfl⟩
        rw [← hW]
        have bW := (Below.refl wr.heap.size wr).alloc (Nat.le_refl _) (.cells #[.int .i64 pa, .int .u64 pw, .bool (pa / 8 == l)] 69)
        have rW := heap_alloc_last wr (.cells #[.int .i64 pa, .int .u64 pw, .bool (pa / 8 == l)] 69)
        rw [← hW] at bW rW
        clear hW
        have z0 := (bW.cell (p := ⟨g, k * 3, none⟩) hgl).trans y0
        have z1 := (bW.cell (p := ⟨g, k * 3 + 1, none⟩) hgl).trans y1
        have z2 := (bW.cell (p := ⟨g, k * 3 + 2, none⟩) hgl).trans y2
        have DW := hid (HD.out.below bW)
        have  BW := hid (HB.out.trans (bW.mono (show B ≤ wr.heap.size by have := HD.out.lo; have := HD.out.mid; omega)))
        have d2 := DW.out.cells.2
        have r0 := cell_of_row _ _ 0 _ _ _ rW
        have r1 := cell_of_row _ _ 1 _ _ _ rW
        have r2 := cell_of_row _ _ 2 _ _ _ rW
        have f0 : ∀ o, W.frozen? ⟨g, o, none⟩ = false := by
          rcases DW.out.own.2 with ⟨h1, -⟩ | ⟨g', cap', cur, h1, -, h2, -⟩
          · cases h1
          · obtain ⟨rfl, -, -⟩ : g = g' ∧ L.length = (flushTo l L k).length ∧ cap = cap' := by simpa using h1
            exact fun o => frozen_row h2 o
        have f1 := f0 (k * 3)
        have f2 := f0 (k * 3 + 1)
        have f3 := f0 (k * 3 + 2)
        clear f0 rW bW
        have DX := hid (DW.out.turn' hpl ⟨pa, pw, (pa / 8 == l)⟩)
        have B3 := hid (below_set3 BW.out (g := g) (by have := HD.out.lo; have := HD.out.mid; omega) (k * 3) (k * 3 + 1) (k * 3 + 2) (.int .i64 pa) (.int .u64 pw) (.bool (pa / 8 == l)))
        refine wp_region_still_tail 7 (by kernel_rfl) (by kernel_rfl) ?_
        simp only [List.take_succ_cons, List.take_zero, List.drop_succ_cons, List.drop_zero]
        repeat still_step
        refine wpStill_nil ?_
        change wpList _ _ _ _ _ W.drew
        go_wp2
        go_roundw
        case rel => exact ⟨k + 1, by omega, by go_num, by rw [HX.out]; exact ⟨DX.out.lo, DX.out.mid, DX.out.row, DX.out.kept, DX.out.own⟩, ⟨B3.out.os, B3.out.tape, B3.out.output, B3.out.size, B3.out.block⟩⟩
        case measure => simp [intOf]; omega
      · go_wp2
        obtain ⟨W, hW⟩ : ∃ W, W = wr.alloc (.cells #[.int .i64 pa, .int .u64 pw, .bool true] 69) := ⟨_, rfl⟩
        rw [← hW]
        have bW := (Below.refl wr.heap.size wr).alloc (Nat.le_refl _) (.cells #[.int .i64 pa, .int .u64 pw, .bool true] 69)
        have rW := heap_alloc_last wr (.cells #[.int .i64 pa, .int .u64 pw, .bool true] 69)
        rw [← hW] at bW rW
        clear hW
        have z0 := (bW.cell (p := ⟨g, k * 3, none⟩) hgl).trans y0
        have z1 := (bW.cell (p := ⟨g, k * 3 + 1, none⟩) hgl).trans y1
        have z2 := (bW.cell (p := ⟨g, k * 3 + 2, none⟩) hgl).trans y2
        have DW := hid (HD.out.below bW)
        have  BW := hid (HB.out.trans (bW.mono (show B ≤ wr.heap.size by have := HD.out.lo; have := HD.out.mid; omega)))
        have d2 := DW.out.cells.2
        have r0 := cell_of_row _ _ 0 _ _ _ rW
        have r1 := cell_of_row _ _ 1 _ _ _ rW
        have r2 := cell_of_row _ _ 2 _ _ _ rW
        have f0 : ∀ o, W.frozen? ⟨g, o, none⟩ = false := by
          rcases DW.out.own.2 with ⟨h1, -⟩ | ⟨g', cap', cur, h1, -, h2, -⟩
          · cases h1
          · obtain ⟨rfl, -, -⟩ : g = g' ∧ L.length = (flushTo l L k).length ∧ cap = cap' := by simpa using h1
            exact fun o => frozen_row h2 o
        have f1 := f0 (k * 3)
        have f2 := f0 (k * 3 + 1)
        have f3 := f0 (k * 3 + 2)
        clear f0 rW bW
        have DX := hid (DW.out.turn' hpl ⟨pa, pw, true⟩)
        have B3 := hid (below_set3 BW.out (g := g) (by have := HD.out.lo; have := HD.out.mid; omega) (k * 3) (k * 3 + 1) (k * 3 + 2) (.int .i64 pa) (.int .u64 pw) (.bool true))
        refine wp_region_still_tail 7 (by kernel_rfl) (by kernel_rfl) ?_
        simp only [List.take_succ_cons, List.take_zero, List.drop_succ_cons, List.drop_zero]
        repeat still_step
        refine wpStill_nil ?_
        change wpList _ _ _ _ _ W.drew
        go_wp2
        go_roundw
        case rel => exact ⟨k + 1, by omega, by go_num, by rw [HX.out]; exact ⟨DX.out.lo, DX.out.mid, DX.out.row, DX.out.kept, DX.out.own⟩, ⟨B3.out.os, B3.out.tape, B3.out.output, B3.out.size, B3.out.block⟩⟩
        case measure => simp [intOf]; omega
    · obtain rfl : L.length = k := by omega
      go_wp2
      go_end0
      exact ⟨rfl, by rw [← flushTo_all]; exact HD.out, HB.out⟩
end Go.Proofs.Ytimfnimcmfjjpaa
