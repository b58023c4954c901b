/- A device: Fence. -/
import Derived.Test.YtimfnimcmfjjpaaDFlush
namespace Go.Proofs.Ytimfnimcmfjjpaa
open Go.RowKit
def updK (K : Nat → Int) (x v : Int) : Nat → Int := fun i => if (i : Int) = x then v else K i
def fenceK (K : Nat → Int) (L : List Pd) : Nat → Int := L.foldl (fun K p => if p.fl then updK K p.a p.w else K) K
def restL (L : List Pd) : List Pd := L.filter fun p => !p.fl
theorem take_next {L : List Pd} {k : Nat} (h : k < L.length) : L.take (k + 1) = L.take k ++ [L[k]] := by
  rw [List.take_add_one, List.getElem?_eq_getElem h]; rfl
theorem fenceK_next {K : Nat → Int} {L : List Pd} {k : Nat} (h : k < L.length) : fenceK K (L.take (k + 1)) = if L[k].fl then updK (fenceK K (L.take k)) L[k].a L[k].w else fenceK K (L.take k) := by
  rw [take_next h]; unfold fenceK; rw [List.foldl_append]; rfl
theorem restL_next {L : List Pd} {k : Nat} (h : k < L.length) : restL (L.take (k + 1)) = if L[k].fl then restL (L.take k) else restL (L.take k) ++ [L[k]] := by
  rw [take_next h]
  unfold restL
  rw [List.filter_append]
  cases e : L[k].fl <;> simp [e]
theorem restL_len (L : List Pd) (k : Nat) : (restL (L.take k)).length ≤ L.length := Nat.le_trans (List.length_filter_le _ _) (by rw [List.length_take]; omega)
theorem KeptAt.set {w : World} {kB n m : Nat} {K : Nat → Int} (h : KeptAt w kB n K) (v : Int) : KeptAt (w.setCell ⟨kB, m, none⟩ (.int .u64 v)) kB n (updK K m v) := by
  obtain ⟨cap, F, h1, h2, h3⟩ := h
  refine ⟨cap, _, h1, h2.set m _, fun i hi => ?_⟩
  show (if i = m then _ else F i) = _
  unfold updK
  by_cases e : i = m
  · rw [if_pos e, if_pos (by rw [e])]
  · rw [if_neg e, if_neg (by omega), h3 i hi]
theorem DevAt.put {w : World} {B d kB c n m : Nat} {lv : Value} {K : Nat → Int} {L : List Pd} (h : DevAt w B d kB c lv n K L) (v : Int) : DevAt (w.setCell ⟨kB, m, none⟩ (.int .u64 v)) B d kB c lv n (updK K m v) L := by
  have hm := h.mid
  refine ⟨h.lo, h.mid, ?_, h.kept.set v, ownsRow_setCell_below h.own (by show kB < d + 1; omega) _⟩
  rw [setCell_heap _ _ _ _ (by show d ≠ kB; omega)]
  exact h.row
theorem DevAt.grown {w w2 : World} {B d kB c n N : Nat} {lv : Value} {K : Nat → Int} {L : List Pd} {r : Option Nat} (h : DevAt w B d kB c lv n K L) (hg : w.grownBy w2 r) (hr : ∀ j, r = some j → N ≤ j) (hd : d < N) (hA : ∀ g, lv.ownBlock = some g → g < N) :
    DevAt w2 B d kB c lv n K L := by
  have hne : ∀ k, k < N → some k ≠ r := fun k hk e => by have := hr k e.symm; omega
  obtain ⟨cap, F, h1, h2, h3⟩ := h.kept
  have hm := h.mid
  refine ⟨h.lo, h.mid, (hg.block d h.lt (hne d hd)).trans h.row, ⟨cap, F, h1, h2.of_block (hg.block kB h2.lt (hne kB (by omega))), h3⟩, h.own.kept hg ?_⟩
  cases e : lv.ownBlock with
  | none => exact .inl rfl
  | some g => exact .inr (hne g (hA g e))
theorem own_base {w : World} {b b' e size n : Nat} {v : Value} {xs : List Value} (h : w.ownsRow b e size v n xs) (hb : b' ≤ b) : w.ownsRow b' e size v n xs := by
  refine ⟨h.1, ?_⟩
  rcases h.2 with h0 | ⟨g, cap, cur, hv, hB, r⟩
  · exact .inl h0
  · exact .inr ⟨g, cap, cur, hv, Nat.le_trans hb hB, r⟩
theorem own_slice {w : World} {b e size n : Nat} {v : Value} {xs : List Value} (h : w.ownsRow b e size v n xs) : ∃ A m c, v = .slice A m c := by
  rcases h.2 with ⟨h0, -⟩ | ⟨g, cap, cur, hv, -⟩
  · exact ⟨_, _, _, h0⟩
  · exact ⟨_, _, _, hv⟩
theorem DevAt.rested {w : World} {B d kB c n N : Nat} {lv rv : Value} {K : Nat → Int} {L R : List Pd} (h : DevAt w B d kB c lv n K L) (ho : w.ownsRow N 69 3 rv R.length (pdsL R)) (hd : d < N) : DevAt (w.setCell ⟨d, 1, none⟩ rv) B d kB c rv n K R := by
  obtain ⟨cap, F, h1, h2, h3⟩ := h.kept
  have hm := h.mid
  refine ⟨h.lo, h.mid, ?_, ⟨cap, F, h1, h2.setOther (by show kB ≠ d; omega) _, h3⟩, ownsRow_setCell_below (own_base ho (by omega)) (by show d < d + 1; omega) _⟩
  rw [set_row h.row]; rfl
set_option maxHeartbeats 2000000 in
set_option maxRecDepth 100000 in
theorem dfence_any (B d kB c n : Nat) (lv : Value) (K : Nat → Int) (L : List Pd) (w : World) (h : DevAt w B d kB c lv n K L) (hl : L.length ≤ 100000) (ha : ∀ p ∈ L, 0 ≤ p.a ∧ p.a < (n : Int)) :
    Calls Try.prog 46 #[.pointer (some ⟨d, 0, none⟩)] w fun e w' => e = .returned (.tuple #[]) ∧ (∃ lv', DevAt w' B d kB c lv' n (fenceK K L) (restL L)) ∧ Below B w w' := by
  obtain ⟨A, cap, rfl⟩ : ∃ A cap, lv = .slice A L.length cap := by
    rcases h.lvs with ⟨h1, h2⟩ | ⟨g, cap, h1, -⟩
    · exact ⟨none, 0, by rw [h1, h2]; rfl⟩
    · exact ⟨_, _, h1⟩
  have HAN := hid (show ∀ g, (Value.slice A L.length cap).ownBlock = some g → g < w.heap.size from fun g e => (h.own.lt g e).2)
  have HDN := hid h.lt
  have H := hid h
  have HA := hid ha
  have HBs := hid (show B ≤ w.heap.size by have := h.lo; have := h.mid; have := h.lt; omega)
  clear h ha
  go_enter Try.func46, Try.ntmps46
  go_wp2_with fail
  go_loopw [2, 3] (fun rv v wr => ∃ k : Nat, k ≤ L.length ∧ v = .int .i64 k ∧ DevAt wr B d kB c (.slice A L.length cap) n (fenceK K (L.take k)) L ∧ wr.ownsRow w.heap.size 69 3 rv (restL (L.take k)).length (pdsL (restL (L.take k))) ∧ Below B w wr ∧ w.heap.size ≤ wr.heap.size) (fun _ v _ => L.length - (intOf v).toNat)
  case atStart => exact ⟨0, by omega, rfl, H.out, World.ownsRow_nil _ _ _ _, Below.refl _ _, Nat.le_refl _⟩
  case round =>
    obtain ⟨k, hk, rfl, hd, ho, hb, hs⟩ := hrel
    have HD := hid hd
    have HB := hid hb
    have HO := hid ho
    have HS := hid hs
    have hdl := hd.lt
    have d0 := hd.cells.1
    have d1 := hd.cells.2
    clear hb ho hs
    by_cases hlt : k < L.length
    · have hlt' : (k : Int) < (L.length : Int) := by omega
      have h0k : (0 : Int) ≤ (k : Int) := by omega
      obtain ⟨g, rfl, hdg, hgl⟩ : ∃ g, A = some ⟨g, 0, none⟩ ∧ d < g ∧ g < wr.heap.size := by
        rcases hd.lvs with ⟨h1, h2⟩ | ⟨g, cap', h1, h2, h3⟩
        · rw [h2] at hlt; simp at hlt
        · exact ⟨g, by simpa using congrArg (fun v => match v with | Value.slice A _ _ => A | _ => none) h1, h2, h3⟩
      obtain ⟨x0, x1, x2⟩ := pdsL_at L k hlt
      have y0 := hd.own.cells (g := g) rfl _ _ x0
      have y1 := hd.own.cells (g := g) rfl _ _ x1
      have y2 := hd.own.cells (g := g) rfl _ _ x2
      rw [addz] at y0 y1 y2
      have hap := HA.out L[k] (List.getElem_mem hlt)
      have HKn := hid (fenceK_next (K := K) hlt)
      have HRn := hid (restL_next hlt)
      clear x0 x1 x2
      generalize L[k] = p at y0 y1 y2 hap HKn HRn
      obtain ⟨pa, pw, pf⟩ := p
      dsimp only at y0 y1 y2 hap
      obtain ⟨m, rfl⟩ := Int.eq_ofNat_of_zero_le hap.1
      obtain ⟨ca, F, q1, q2, q3⟩ := hd.kept
      have hmn : m < n := by omega
      have e0 := q2.cell (i := m) (by omega)
      have e1 := q2.frozen m
      clear q1 q2 q3 hd
      have hmn' : (m : Int) < (n : Int) := by omega
      have h0m : (0 : Int) ≤ (m : Int) := by omega
      clear hap
      cases pf
      · have DA := hid (HD.out.below ((Below.refl _ _).alloc (Nat.le_refl _) (.cells #[.int .i64 m, .int .u64 pw, .bool false] 69)))
        have rB := hid (heap_alloc_last wr (.cells #[.int .i64 m, .int .u64 pw, .bool false] 69))
        have OA := hid (HO.out.alloc (.cells #[.int .i64 m, .int .u64 pw, .bool false] 69))
        go_wp2_with (at_builtin; refine wpList_append_pd rfl (.tmp 42) (.tmp 50) rfl w.heap.size _ (restL (L.take k)) rfl OA.out (Nat.le_trans HS.out (by simp)) wr.heap.size 1 ⟨m, pw, false⟩ rfl rB.out (Nat.le_trans (restL_len L k) hl) ?_; intro g2 cap2 w2 hown hg; have HO2 := hid hown; have HG2 := hid hg; clear hown hg)
        go_roundw
        case rel =>
          have hr : ∀ j, Value.ownBlock _ = some j → w.heap.size ≤ j := fun j e => (OA.out.lt j e).1
          refine ⟨k + 1, by omega, by go_num, ?_, ?_, ?_, ?_⟩
          · rw [HKn.out]; exact DA.out.grown HG2.out hr HDN.out HAN.out
          · rw [HRn.out]
            show w2.ownsRow _ 69 3 _ (restL (L.take k) ++ [_]).length (pdsL (restL (L.take k) ++ [_]))
            rw [List.length_append, pdsL_snoc]
            exact HO2.out
          · exact (HB.out.alloc (Nat.le_trans HBs.out HS.out) _).grown HG2.out (Nat.le_trans HBs.out (Nat.le_trans HS.out (by simp))) (fun j e => Nat.le_trans HBs.out (hr j e))
          · exact Nat.le_trans (Nat.le_trans HS.out (by simp)) HG2.out.size
        case measure => simp [intOf]; omega
      · go_wp2
        refine wp_region_still_tail 21 (by kernel_rfl) (by kernel_rfl) ?_
        simp only [List.take_succ_cons, List.take_zero, List.drop_succ_cons, List.drop_zero]
        repeat still_step
        refine wpStill_nil ?_
        change wpList _ _ _ _ _ wr.drew
        go_wp2
        go_roundw
        case rel =>
          have hkd := HD.out.mid
          have hdn := HDN.out
          have DX := HD.out.put (m := m) pw
          have OX := ownsRow_setCell_below HO.out (a := ⟨kB, m, none⟩) (by show kB < w.heap.size; omega) (.int .u64 pw)
          have BX := HB.out.setCell (p := ⟨kB, m, none⟩) (by show B ≤ kB; exact HD.out.lo) (.int .u64 pw)
          refine ⟨k + 1, by omega, by go_num, ?_, ?_, ?_, ?_⟩
          · rw [HKn.out]; exact ⟨DX.lo, DX.mid, DX.row, DX.kept, DX.own⟩
          · rw [HRn.out]; exact OX
          · exact ⟨BX.os, BX.tape, BX.output, BX.size, BX.block⟩
          · exact Nat.le_trans HS.out (by simp [World.setCell])
        case measure => simp [intOf]; omega
    · obtain rfl : L.length = k := by omega
      rw [List.take_length] at HD HO
      have DX := hid (HD.out.rested HO.out HDN.out)
      have BX := hid (HB.out.setCell (show B ≤ (⟨d, 1, none⟩ : Addr).block by have := HD.out.lo; have := HD.out.mid; show B ≤ d; omega))
      have f1 := frozen_row hd.row 1
      clear hd
      obtain ⟨A2, m2, c2, rfl⟩ := own_slice HO.out
      go_wp2
      go_end0
      exact ⟨rfl, ⟨_, DX.out⟩, BX.out _⟩
end Go.Proofs.Ytimfnimcmfjjpaa
