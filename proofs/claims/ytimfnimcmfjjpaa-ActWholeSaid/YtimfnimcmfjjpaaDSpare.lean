/- A device's methods once more: what lies below a block E, but for the device's words and itself, is left as it was. -/
import Derived.Test.YtimfnimcmfjjpaaDCrash
namespace Go.Proofs.Ytimfnimcmfjjpaa
open Go.RowKit
/-- Below E all is as it was, but for two blocks. -/
structure Sp (E x y : Nat) (w w' : World) : Prop where
  os : w'.os = w.os
  tape : w'.tape = w.tape
  output : w'.output = w.output
  size : w.heap.size ≤ w'.heap.size
  block : ∀ k, k < E ∧ k ≠ x ∧ k ≠ y → w'.heap[k]? = w.heap[k]?
theorem Sp.refl (E x y : Nat) (w : World) : Sp E x y w w := ⟨rfl, rfl, rfl, Nat.le_refl _, fun _ _ => rfl⟩
theorem Sp.trans {E x y : Nat} {a b c : World} (h : Sp E x y a b) (k : Sp E x y b c) : Sp E x y a c :=
  ⟨k.os.trans h.os, k.tape.trans h.tape, k.output.trans h.output, Nat.le_trans h.size k.size, fun i hi => (k.block i hi).trans (h.block i hi)⟩
theorem Sp.of {E x y b : Nat} {w w' : World} (h : Below b w w') (hE : E ≤ b) : Sp E x y w w' := ⟨h.os, h.tape, h.output, h.size, fun k hk => h.block k (by omega)⟩
theorem Sp.to {E x y B : Nat} {w w' : World} (h : Sp E x y w w') (h1 : B ≤ E) (h2 : B ≤ x) (h3 : B ≤ y) : Below B w w' := ⟨h.os, h.tape, h.output, h.size, fun k hk => h.block k ⟨by omega, by omega, by omega⟩⟩
theorem Sp.alloc {E x y : Nat} {w w' : World} (h : Sp E x y w w') (hE : E ≤ w'.heap.size) (o : Obj) : Sp E x y w (w'.alloc o) := h.trans (Sp.of ((Below.refl E w').alloc hE o) (Nat.le_refl _))
theorem Sp.grown {E x y : Nat} {w w' w2 : World} {r : Option Nat} (h : Sp E x y w w') (hg : w'.grownBy w2 r) (hE : E ≤ w'.heap.size) (hr : ∀ j, r = some j → E ≤ j) : Sp E x y w w2 := h.trans (Sp.of ((Below.refl E w').grown hg hE hr) (Nat.le_refl _))
theorem Sp.setCell {E x y : Nat} {w w' : World} {p : Addr} (h : Sp E x y w w') (hp : E ≤ p.block ∨ p.block = x ∨ p.block = y) (v : Value) : Sp E x y w (w'.setCell p v) := by
  have b := (Below.refl 0 w').setCell (p := p) (Nat.zero_le _) v
  exact h.trans ⟨b.os, b.tape, b.output, b.size, fun k hk => setCell_heap w' p v k (by omega)⟩
theorem Sp.set3 {E x y g : Nat} {w w' : World} (h : Sp E x y w w') (hg : E ≤ g) (i j k : Nat) (u v z : Value) : Sp E x y w (((w'.setCell ⟨g, i, none⟩ u).setCell ⟨g, j, none⟩ v).setCell ⟨g, k, none⟩ z) := ((h.setCell (.inl hg) u).setCell (.inl hg) v).setCell (.inl hg) z
theorem RowAt.lowS {w w' : World} {E x y q : Nat} {L : List Op3} (h : RowAt w q L) (hq : q < E ∧ q ≠ x ∧ q ≠ y) (hb : Sp E x y w w') : RowAt w' q L := by
  have H : ∀ j, w'.cell? ⟨q, j, none⟩ = w.cell? ⟨q, j, none⟩ := fun j => World.cell?_of_block (hb.block q hq)
  exact ⟨Nat.lt_of_lt_of_le h.1 hb.size, fun k hk => by rw [H, H, H]; exact h.2 k hk⟩
theorem KeptAt.spared {w w' : World} {E x y b n : Nat} {K : Nat → Int} (h : KeptAt w b n K) (hq : b < E ∧ b ≠ x ∧ b ≠ y) (hb : Sp E x y w w') : KeptAt w' b n K := by
  obtain ⟨cap, F, h1, h2, h3⟩ := h
  exact ⟨cap, F, h1, h2.of_block (hb.block b hq), h3⟩
theorem unspN {E x y j : Nat} {w w' : World} (h : Sp E x y (w.drewN j) w') : Sp E x y w w' := ⟨h.os, h.tape, h.output, h.size, h.block⟩
/-- A device whose row of what waits lies at E or above. -/
structure DevE (w : World) (E B d kB c : Nat) (lv : Value) (n : Nat) (K : Nat → Int) (L : List Pd) : Prop where
  dev : DevAt w B d kB c lv n K L
  dE : d < E
  own : w.ownsRow E 69 3 lv L.length (pdsL L)
theorem DevE.below {w w' : World} {E B d kB c n : Nat} {lv : Value} {K : Nat → Int} {L : List Pd} (h : DevE w E B d kB c lv n K L) (hb : Below w.heap.size w w') : DevE w' E B d kB c lv n K L := ⟨h.dev.below hb, h.dE, owns_below h.own hb⟩
theorem DevE.alloc {w : World} {E B d kB c n : Nat} {lv : Value} {K : Nat → Int} {L : List Pd} (h : DevE w E B d kB c lv n K L) (o : Obj) : DevE (w.alloc o) E B d kB c lv n K L := h.below ((Below.refl _ _).alloc (Nat.le_refl _) o)
theorem DevE.drewN {w : World} {E B d kB c n : Nat} {lv : Value} {K : Nat → Int} {L : List Pd} (h : DevE w E B d kB c lv n K L) (j : Nat) : DevE (w.drewN j) E B d kB c lv n K L := ⟨h.dev.drewN j, h.dE, h.own⟩
theorem DevE.turn' {w : World} {E B d kB c n m g cap k : Nat} {K : Nat → Int} {L : List Pd} (h : DevE w E B d kB c (.slice (some ⟨g, 0, none⟩) m cap) n K L) (hk : k < L.length) (o : Pd) :
    DevE (((w.setCell ⟨g, k * 3, none⟩ (.int .i64 o.a)).setCell ⟨g, k * 3 + 1, none⟩ (.int .u64 o.w)).setCell ⟨g, k * 3 + 2, none⟩ (.bool o.fl)) E B d kB c (.slice (some ⟨g, 0, none⟩) m cap) n K (L.set k o) := by
  refine ⟨h.dev.turn' hk o, h.dE, ?_⟩
  obtain rfl : m = L.length := by
    rcases h.dev.lvs with ⟨h1, -⟩ | ⟨g', cap', h1, -⟩
    · cases h1
    · simpa using (congrArg (fun v => match v with | Value.slice _ n _ => n | _ => 0) h1)
  rw [pdsL_set _ _ _ hk, List.length_set]
  exact own_set (own_set (own_set h.own _ _) _ _) _ _
set_option maxHeartbeats 1000000 in
set_option maxRecDepth 100000 in
theorem dstoreE (E B d kB c n : Nat) (lv : Value) (K : Nat → Int) (L : List Pd) (x v : Int) (w : World) (h : DevE w E B d kB c lv n K L) (hE : E ≤ w.heap.size) (hl : L.length ≤ 100000) :
    Calls Try.prog 44 #[.pointer (some ⟨d, 0, none⟩), .int .i64 x, .int .u64 v] w fun e w' => e = .returned (.tuple #[]) ∧ (∃ lv', DevE w' E B d kB c lv' n K (L ++ [⟨x, v, false⟩])) ∧ Sp E kB d w w' := by
  have c1 := h.dev.cells.2
  have H := hid h
  have hlt := h.dev.lt
  have hdE := hid h.dE
  have OA := hid (h.own.alloc (.cells #[.int .i64 x, .int .u64 v, .bool false] 69))
  have hnew := hid ((H.out.dev.below ((Below.refl _ _).alloc (Nat.le_refl _) (.cells #[.int .i64 x, .int .u64 v, .bool false] 69))))
  have rB := hid (heap_alloc_last w (.cells #[.int .i64 x, .int .u64 v, .bool false] 69))
  have hEs := hid hE
  have hgr := hid (World.grownBy_alloc w (.cells #[.int .i64 x, .int .u64 v, .bool false] 69) none)
  clear h
  go_enter Try.func44, Try.ntmps44
  go_wp2_with (at_builtin; refine wpList_append_pd rfl (.tmp 10) (.tmp 14) rfl E lv L rfl OA.out (by simp; omega) w.heap.size 1 ⟨x, v, false⟩ rfl rB.out hl ?_; intro g cap w2 hown hg; have HO := hid hown; have HGR := hid hg; clear hown hg; have e1 := hid (hnew.out.more rfl (own_base HO.out hdE.out) HGR.out); have hd2 := HGR.out.block d hnew.out.lt (fun e => by have := hnew.out.own.lt d e.symm; omega); have hrow2 := hid (hd2.trans hnew.out.row); have f1 := frozen_row hrow2.out 1; have k1 := cell_of_row _ _ 1 _ _ _ hrow2.out; clear hd2)
  go_end0
  refine ⟨rfl, ⟨_, e1.out, hdE.out, ?_⟩, (((Sp.refl E kB d w).alloc hEs.out _).grown HGR.out (Nat.le_trans hEs.out (by simp)) (fun j hj => (OA.out.lt j hj).1)).setCell (.inr (.inr rfl)) _⟩
  rw [List.length_append, pdsL_snoc]
  exact ownsRow_setCell_below HO.out (by show d < E; exact hdE.out) _
set_option maxHeartbeats 2000000 in
set_option maxRecDepth 100000 in
theorem dflushE (E B d kB c n : Nat) (lv : Value) (K : Nat → Int) (L : List Pd) (l : Int) (w : World) (h : DevE w E B d kB c lv n K L) (hE : E ≤ w.heap.size) (hl : L.length ≤ 100000) (ha : ∀ p ∈ L, 0 ≤ p.a ∧ p.a < 1000000000) :
    Calls Try.prog 45 #[.pointer (some ⟨d, 0, none⟩), .int .i64 l] w fun e w' => e = .returned (.tuple #[]) ∧ DevE w' E B d kB c lv n K (L.map (flush1 l)) ∧ Sp E kB d w w' := by
  obtain ⟨A, cap, rfl⟩ : ∃ A cap, lv = .slice A L.length cap := by
    rcases h.dev.lvs with ⟨h1, h2⟩ | ⟨g, cap, h1, -⟩
    · exact ⟨none, 0, by rw [h1, h2]; rfl⟩
    · exact ⟨_, _, h1⟩
  have H := hid h
  have HA := hid ha
  have hEs := hid hE
  clear h ha
  go_enter Try.func45, Try.ntmps45
  go_wp2_with fail
  go_loopw [4, 5] (fun v _ wr => ∃ k : Nat, k ≤ L.length ∧ v = .int .i64 k ∧ DevE wr E B d kB c (.slice A L.length cap) n K (flushTo l L k) ∧ Sp E kB d w wr) (fun v _ _ => L.length - (intOf v).toNat)
  case atStart => exact ⟨0, by omega, rfl, H.out, Sp.refl _ _ _ _⟩
  case round =>
    obtain ⟨k, hk, rfl, hd, hb⟩ := hrel
    have HD := hid hd
    have HB := hid hb
    have hdl := hd.dev.lt
    have hEr := hid (Nat.le_trans hEs.out hb.size)
    have d1 := hd.dev.cells.2
    have hfl := flushTo_len l L k
    clear hb
    by_cases hlt : k < L.length
    · have hlt' : (k : Int) < (L.length : Int) := by omega
      have h0k : (0 : Int) ≤ (k : Int) := by omega
      obtain ⟨g, rfl, hdg, hgl⟩ : ∃ g, A = some ⟨g, 0, none⟩ ∧ d < g ∧ g < wr.heap.size := by
        rcases hd.dev.lvs with ⟨h1, h2⟩ | ⟨g, cap', h1, h2, h3⟩
        · rw [h2] at hfl; simp at hfl; omega
        · exact ⟨g, by simpa using congrArg (fun v => match v with | Value.slice A _ _ => A | _ => none) h1, h2, h3⟩
      have hown := hd.dev.own
      have hEg := hid (hd.own.lt g rfl).1
      rw [hfl] at hown
      obtain ⟨x0, x1, x2⟩ := pdsL_at (flushTo l L k) k (by omega)
      have hp : (flushTo l L k)[k] = L[k] := by
        have := flushTo_at l L k (by omega) k
        rw [if_neg (by omega), List.getElem?_eq_getElem (by omega), List.getElem?_eq_getElem hlt] at this
        exact Option.some.inj this
      rw [hp] at x0 x1 x2
      have y0 := hown.cells (g := g) rfl _ _ x0
      have y1 := hown.cells (g := g) rfl _ _ x1
      have y2 := hown.cells (g := g) rfl _ _ x2
      rw [addz] at y0 y1 y2
      have hap := HA.out L[k] (List.getElem_mem hlt)
      have hlast : L.getD k ⟨0, 0, false⟩ = L[k] := by rw [List.getD_eq_getElem?_getD, List.getElem?_eq_getElem hlt]; rfl
      have HL := hid hlast
      clear hd hfl hown x0 x1 x2 hp hlast
      have HX := hid (show flushTo l L (k + 1) = (flushTo l L k).set k (flush1 l L[k]) by rw [flushTo, HL.out])
      generalize L[k] = p at y0 y1 y2 hap HX
      obtain ⟨pa, pw, pf⟩ := p
      dsimp only at y0 y1 y2 hap
      have hw : wrap64 (pa.tdiv 8) = pa / 8 := by
        rw [Int.tdiv_eq_ediv_of_nonneg hap.1]
        exact IntWalk.wrap64_in _ (by omega)
      clear hap
      have hpl : k < (flushTo l L k).length := by rw [flushTo_len]; exact hlt
      cases pf
      · go_wp2
        obtain ⟨W, hW⟩ : ∃ W, W = wr.alloc (.cells #[.int .i64 pa, .int .u64 pw, .bool (pa / 8 == l)] 69) := ⟨_, rfl⟩
        rw [← hW]
        have bW := (Below.refl wr.heap.size wr).alloc (Nat.le_refl _) (.cells #[.int .i64 pa, .int .u64 pw, .bool (pa / 8 == l)] 69)
        have rW := heap_alloc_last wr (.cells #[.int .i64 pa, .int .u64 pw, .bool (pa / 8 == l)] 69)
        rw [← hW] at bW rW
        clear hW
        have z0 := (bW.cell (p := ⟨g, k * 3, none⟩) hgl).trans y0
        have z1 := (bW.cell (p := ⟨g, k * 3 + 1, none⟩) hgl).trans y1
        have z2 := (bW.cell (p := ⟨g, k * 3 + 2, none⟩) hgl).trans y2
        have DW := hid (HD.out.below bW)
        have  BW := hid (HB.out.trans (Sp.of bW hEr.out))
        have d2 := DW.out.dev.cells.2
        have r0 := cell_of_row _ _ 0 _ _ _ rW
        have r1 := cell_of_row _ _ 1 _ _ _ rW
        have r2 := cell_of_row _ _ 2 _ _ _ rW
        have f0 : ∀ o, W.frozen? ⟨g, o, none⟩ = false := by
          rcases DW.out.dev.own.2 with ⟨h1, -⟩ | ⟨g', cap', cur, h1, -, h2, -⟩
          · cases h1
          · obtain ⟨rfl, -, -⟩ : g = g' ∧ L.length = (flushTo l L k).length ∧ cap = cap' := by simpa using h1
            exact fun o => frozen_row h2 o
        have f1 := f0 (k * 3)
        have f2 := f0 (k * 3 + 1)
        have f3 := f0 (k * 3 + 2)
        clear f0 rW bW
        have DX := hid (DW.out.turn' hpl ⟨pa, pw, (pa / 8 == l)⟩)
        have B3 := hid (Sp.set3 BW.out (g := g) hEg.out (k * 3) (k * 3 + 1) (k * 3 + 2) (.int .i64 pa) (.int .u64 pw) (.bool (pa / 8 == l)))
        refine wp_region_still_tail 7 (by kernel_rfl) (by kernel_rfl) ?_
        simp only [List.take_succ_cons, List.take_zero, List.drop_succ_cons, List.drop_zero]
        repeat still_step
        refine wpStill_nil ?_
        change wpList _ _ _ _ _ W.drew
        go_wp2
        go_roundw
        case rel => exact ⟨k + 1, by omega, by go_num, by rw [HX.out]; exact ⟨⟨DX.out.dev.lo, DX.out.dev.mid, DX.out.dev.row, DX.out.dev.kept, DX.out.dev.own⟩, DX.out.dE, DX.out.own⟩, ⟨B3.out.os, B3.out.tape, B3.out.output, B3.out.size, B3.out.block⟩⟩
        case measure => simp [intOf]; omega
      · go_wp2
        obtain ⟨W, hW⟩ : ∃ W, W = wr.alloc (.cells #[.int .i64 pa, .int .u64 pw, .bool true] 69) := ⟨_, rfl⟩
        rw [← hW]
        have bW := (Below.refl wr.heap.size wr).alloc (Nat.le_refl _) (.cells #[.int .i64 pa, .int .u64 pw, .bool true] 69)
        have rW := heap_alloc_last wr (.cells #[.int .i64 pa, .int .u64 pw, .bool true] 69)
        rw [← hW] at bW rW
        clear hW
        have z0 := (bW.cell (p := ⟨g, k * 3, none⟩) hgl).trans y0
        have z1 := (bW.cell (p := ⟨g, k * 3 + 1, none⟩) hgl).trans y1
        have z2 := (bW.cell (p := ⟨g, k * 3 + 2, none⟩) hgl).trans y2
        have DW := hid (HD.out.below bW)
        have  BW := hid (HB.out.trans (Sp.of bW hEr.out))
        have d2 := DW.out.dev.cells.2
        have r0 := cell_of_row _ _ 0 _ _ _ rW
        have r1 := cell_of_row _ _ 1 _ _ _ rW
        have r2 := cell_of_row _ _ 2 _ _ _ rW
        have f0 : ∀ o, W.frozen? ⟨g, o, none⟩ = false := by
          rcases DW.out.dev.own.2 with ⟨h1, -⟩ | ⟨g', cap', cur, h1, -, h2, -⟩
          · cases h1
          · obtain ⟨rfl, -, -⟩ : g = g' ∧ L.length = (flushTo l L k).length ∧ cap = cap' := by simpa using h1
            exact fun o => frozen_row h2 o
        have f1 := f0 (k * 3)
        have f2 := f0 (k * 3 + 1)
        have f3 := f0 (k * 3 + 2)
        clear f0 rW bW
        have DX := hid (DW.out.turn' hpl ⟨pa, pw, true⟩)
        have B3 := hid (Sp.set3 BW.out (g := g) hEg.out (k * 3) (k * 3 + 1) (k * 3 + 2) (.int .i64 pa) (.int .u64 pw) (.bool true))
        refine wp_region_still_tail 7 (by kernel_rfl) (by kernel_rfl) ?_
        simp only [List.take_succ_cons, List.take_zero, List.drop_succ_cons, List.drop_zero]
        repeat still_step
        refine wpStill_nil ?_
        change wpList _ _ _ _ _ W.drew
        go_wp2
        go_roundw
        case rel => exact ⟨k + 1, by omega, by go_num, by rw [HX.out]; exact ⟨⟨DX.out.dev.lo, DX.out.dev.mid, DX.out.dev.row, DX.out.dev.kept, DX.out.dev.own⟩, DX.out.dE, DX.out.own⟩, ⟨B3.out.os, B3.out.tape, B3.out.output, B3.out.size, B3.out.block⟩⟩
        case measure => simp [intOf]; omega
    · obtain rfl : L.length = k := by omega
      go_wp2
      go_end0
      exact ⟨rfl, by rw [← flushTo_all]; exact HD.out, HB.out⟩
set_option maxHeartbeats 2000000 in
set_option maxRecDepth 100000 in
theorem dfenceE (E B d kB c n : Nat) (lv : Value) (K : Nat → Int) (L : List Pd) (w : World) (h : DevE w E B d kB c lv n K L) (hE : E ≤ w.heap.size) (hl : L.length ≤ 100000) (ha : ∀ p ∈ L, 0 ≤ p.a ∧ p.a < (n : Int)) :
    Calls Try.prog 46 #[.pointer (some ⟨d, 0, none⟩)] w fun e w' => e = .returned (.tuple #[]) ∧ (∃ lv', DevE w' E B d kB c lv' n (fenceK K L) (restL L)) ∧ Sp E kB d w w' := by
  obtain ⟨A, cap, rfl⟩ : ∃ A cap, lv = .slice A L.length cap := by
    rcases h.dev.lvs with ⟨h1, h2⟩ | ⟨g, cap, h1, -⟩
    · exact ⟨none, 0, by rw [h1, h2]; rfl⟩
    · exact ⟨_, _, h1⟩
  have HAN := hid (show ∀ g, (Value.slice A L.length cap).ownBlock = some g → g < w.heap.size from fun g e => (h.dev.own.lt g e).2)
  have HDN := hid h.dev.lt
  have H := hid h.dev
  have hdE := hid h.dE
  have HA := hid ha
  have HBs := hid hE
  clear h ha
  go_enter Try.func46, Try.ntmps46
  go_wp2_with fail
  go_loopw [2, 3] (fun rv v wr => ∃ k : Nat, k ≤ L.length ∧ v = .int .i64 k ∧ DevAt wr B d kB c (.slice A L.length cap) n (fenceK K (L.take k)) L ∧ wr.ownsRow w.heap.size 69 3 rv (restL (L.take k)).length (pdsL (restL (L.take k))) ∧ Sp E kB d w wr ∧ w.heap.size ≤ wr.heap.size) (fun _ v _ => L.length - (intOf v).toNat)
  case atStart => exact ⟨0, by omega, rfl, H.out, World.ownsRow_nil _ _ _ _, Sp.refl _ _ _ _, Nat.le_refl _⟩
  case round =>
    obtain ⟨k, hk, rfl, hd, ho, hb, hs⟩ := hrel
    have HD := hid hd
    have HB := hid hb
    have HO := hid ho
    have HS := hid hs
    have hdl := hd.lt
    have d0 := hd.cells.1
    have d1 := hd.cells.2
    clear hb ho hs
    by_cases hlt : k < L.length
    · have hlt' : (k : Int) < (L.length : Int) := by omega
      have h0k : (0 : Int) ≤ (k : Int) := by omega
      obtain ⟨g, rfl, hdg, hgl⟩ : ∃ g, A = some ⟨g, 0, none⟩ ∧ d < g ∧ g < wr.heap.size := by
        rcases hd.lvs with ⟨h1, h2⟩ | ⟨g, cap', h1, h2, h3⟩
        · rw [h2] at hlt; simp at hlt
        · exact ⟨g, by simpa using congrArg (fun v => match v with | Value.slice A _ _ => A | _ => none) h1, h2, h3⟩
      obtain ⟨x0, x1, x2⟩ := pdsL_at L k hlt
      have y0 := hd.own.cells (g := g) rfl _ _ x0
      have y1 := hd.own.cells (g := g) rfl _ _ x1
      have y2 := hd.own.cells (g := g) rfl _ _ x2
      rw [addz] at y0 y1 y2
      have hap := HA.out L[k] (List.getElem_mem hlt)
      have HKn := hid (fenceK_next (K := K) hlt)
      have HRn := hid (restL_next hlt)
      clear x0 x1 x2
      generalize L[k] = p at y0 y1 y2 hap HKn HRn
      obtain ⟨pa, pw, pf⟩ := p
      dsimp only at y0 y1 y2 hap
      obtain ⟨m, rfl⟩ := Int.eq_ofNat_of_zero_le hap.1
      obtain ⟨ca, F, q1, q2, q3⟩ := hd.kept
      have hmn : m < n := by omega
      have e0 := q2.cell (i := m) (by omega)
      have e1 := q2.frozen m
      clear q1 q2 q3 hd
      have hmn' : (m : Int) < (n : Int) := by omega
      have h0m : (0 : Int) ≤ (m : Int) := by omega
      clear hap
      cases pf
      · have DA := hid (HD.out.below ((Below.refl _ _).alloc (Nat.le_refl _) (.cells #[.int .i64 m, .int .u64 pw, .bool false] 69)))
        have rB := hid (heap_alloc_last wr (.cells #[.int .i64 m, .int .u64 pw, .bool false] 69))
        have OA := hid (HO.out.alloc (.cells #[.int .i64 m, .int .u64 pw, .bool false] 69))
        go_wp2_with (at_builtin; refine wpList_append_pd rfl (.tmp 42) (.tmp 50) rfl w.heap.size _ (restL (L.take k)) rfl OA.out (Nat.le_trans HS.out (by simp)) wr.heap.size 1 ⟨m, pw, false⟩ rfl rB.out (Nat.le_trans (restL_len L k) hl) ?_; intro g2 cap2 w2 hown hg; have HO2 := hid hown; have HG2 := hid hg; clear hown hg)
        go_roundw
        case rel =>
          have hr : ∀ j, Value.ownBlock _ = some j → w.heap.size ≤ j := fun j e => (OA.out.lt j e).1
          refine ⟨k + 1, by omega, by go_num, ?_, ?_, ?_, ?_⟩
          · rw [HKn.out]; exact DA.out.grown HG2.out hr HDN.out HAN.out
          · rw [HRn.out]
            show w2.ownsRow _ 69 3 _ (restL (L.take k) ++ [_]).length (pdsL (restL (L.take k) ++ [_]))
            rw [List.length_append, pdsL_snoc]
            exact HO2.out
          · exact (HB.out.alloc (Nat.le_trans HBs.out HS.out) _).grown HG2.out (Nat.le_trans HBs.out (Nat.le_trans HS.out (by simp))) (fun j e => Nat.le_trans HBs.out (hr j e))
          · exact Nat.le_trans (Nat.le_trans HS.out (by simp)) HG2.out.size
        case measure => simp [intOf]; omega
      · go_wp2
        refine wp_region_still_tail 21 (by kernel_rfl) (by kernel_rfl) ?_
        simp only [List.take_succ_cons, List.take_zero, List.drop_succ_cons, List.drop_zero]
        repeat still_step
        refine wpStill_nil ?_
        change wpList _ _ _ _ _ wr.drew
        go_wp2
        go_roundw
        case rel =>
          have hkd := HD.out.mid
          have hdn := HDN.out
          have DX := HD.out.put (m := m) pw
          have OX := ownsRow_setCell_below HO.out (a := ⟨kB, m, none⟩) (by show kB < w.heap.size; omega) (.int .u64 pw)
          have BX := HB.out.setCell (p := ⟨kB, m, none⟩) (.inr (.inl rfl)) (.int .u64 pw)
          refine ⟨k + 1, by omega, by go_num, ?_, ?_, ?_, ?_⟩
          · rw [HKn.out]; exact ⟨DX.lo, DX.mid, DX.row, DX.kept, DX.own⟩
          · rw [HRn.out]; exact OX
          · exact ⟨BX.os, BX.tape, BX.output, BX.size, BX.block⟩
          · exact Nat.le_trans HS.out (by simp [World.setCell])
        case measure => simp [intOf]; omega
    · obtain rfl : L.length = k := by omega
      rw [List.take_length] at HD HO
      have DX := hid (HD.out.rested HO.out HDN.out)
      have BX := hid (HB.out.setCell (p := ⟨d, 1, none⟩) (.inr (.inr rfl)))
      have f1 := frozen_row hd.row 1
      clear hd
      obtain ⟨A2, m2, c2, rfl⟩ := own_slice HO.out
      go_wp2
      go_end0
      exact ⟨rfl, ⟨_, DX.out, hdE.out, ownsRow_setCell_below (own_base HO.out HBs.out) (by show d < E; exact hdE.out) _⟩, BX.out _⟩
set_option maxHeartbeats 4000000 in
set_option maxRecDepth 100000 in
theorem doneE (E B d kB c n : Nat) (lv : Value) (s : DevS) (q cq m : Nat) (L : List Op3) (w : World) (h : DevE w E B d kB c lv n s.1 s.2) (hE : E ≤ w.heap.size) (hq : q < B) (hr : RowAt w q L) (hm : m = L.length) (hL : s.2.length + L.length ≤ 100000) (hn : n ≤ 100000)
    (hi : InN n s.2) (ho : ∀ o ∈ L, StepOk n o) :
    Calls Try.prog 19 #[.pointer (some ⟨d, 0, none⟩), .slice (some ⟨q, 0, none⟩) m cq] w fun e w' => e = .returned (.bool true) ∧ (∃ lv', DevE w' E B d kB c lv' n (druns s L).1 (druns s L).2) ∧ Sp E kB d w w' := by
  have H := hid h
  have HR := hid hr
  have hEs := hid hE
  have hq3 := hid (show q < E ∧ q ≠ kB ∧ q ≠ d by have := h.dev.lo; have := h.dev.mid; have := h.dE; omega)
  have HM := hid hm
  have HI := hid hi
  have HO := hid ho
  have hmb : m ≤ 100000 := by omega
  have hml : s.2.length + m ≤ 100000 := by omega
  clear h hr hm hi ho hL
  go_enter Try.func19, Try.ntmps19
  go_wp2
  go_loopw [5, 6, 19, 32, 52, 56] (fun v _ _ _ _ _ wr => ∃ (k : Nat) (lv : Value), k ≤ m ∧ v = .int .i64 k ∧ DevE wr E B d kB c lv n (druns s (L.take k)).1 (druns s (L.take k)).2 ∧ Sp E kB d w wr ∧ InN n (druns s (L.take k)).2 ∧ (druns s (L.take k)).2.length ≤ s.2.length + k) (fun v _ _ _ _ _ _ => m - (intOf v).toNat)
  case atStart => exact ⟨0, lv, by omega, rfl, H.out, Sp.refl _ _ _ _, HI.out, Nat.le_refl _⟩
  case round =>
    obtain ⟨k, lv, hk, rfl, hd, hb, hin, hle⟩ := hrel
    have HD := hid hd
    have HB := hid hb
    have HIN := hid hin
    have HLE := hid (show (druns s (L.take k)).2.length ≤ 100000 by omega)
    have HLK := hid hle
    clear hd hb hin hle
    by_cases hlt : k < m
    · have hkL : k < L.length := by rw [← HM.out]; exact hlt
      have hlt' : (k : Int) < (m : Int) := by omega
      have h0k : (0 : Int) ≤ (k : Int) := by omega
      have HRr := hid (HR.out.lowS hq3.out HB.out)
      have hEr := hid (Nat.le_trans hEs.out HB.out.size)
      have hql := HRr.out.1
      obtain ⟨c0, c1, c2⟩ := HRr.out.2 k hkL
      have hok := HO.out L[k] (List.getElem_mem hkL)
      have HN := hid (druns_next (s := s) hkL)
      have HIN2 := hid (dstep_in HIN.out hok)
      have HLE2 := hid (dstep_len (druns s (L.take k)) L[k])
      generalize L[k] = o at c0 c1 c2 hok HN HIN2 HLE2
      generalize hS : druns s (L.take k) = S at HD HIN HLE HLK HN HIN2 HLE2
      have HSn := hid hS
      clear hS
      obtain ⟨ok, oa, ow⟩ := o
      dsimp only at c0 c1 c2
      have HDa := hid (HD.out.alloc (.cells #[.int .u8 ok, .int .i64 oa, .int .u64 ow] 53))
      have HBa := hid (HB.out.alloc hEr.out (.cells #[.int .u8 ok, .int .i64 oa, .int .u64 ow] 53))
      have hnew := heap_alloc_last wr (.cells #[.int .u8 ok, .int .i64 oa, .int .u64 ow] 53)
      rcases hok with ⟨hok1, ha0, han⟩ | ⟨hok1, ha0, han⟩ | hok1 | hok1
      · obtain rfl : ok = 1 := hok1
        have HIS := hid (show (decide (0 ≤ oa) && decide (oa < (n : Int))) = true by rw [decide_eq_true ha0, decide_eq_true han]; rfl)
        clear ha0 han hnew
        go_wp2_with (first
          | (go_at_call 43; refine (is_any B d kB c n lv S.1 S.2 oa true _ HDa.out.dev HIS.out).mono ?_; rintro e w2 ⟨rfl, rfl⟩)
          | (go_at_call 44; refine (dstoreE E B d kB c n lv S.1 S.2 oa ow _ HDa.out (Nat.le_trans hEr.out (by simp)) HLE.out).mono ?_; rintro e w2 ⟨rfl, hdv, hb⟩; have HDV := hid hdv; have HB2 := hid (HBa.out.trans hb); clear hdv hb))
        go_roundw
        case rel =>
          obtain ⟨lv', hdv⟩ := HDV.out
          exact ⟨k + 1, lv', by omega, by go_num, by rw [HN.out]; exact hdv, HB2.out, by rw [HN.out]; exact HIN2.out, by rw [HN.out]; exact Nat.le_trans HLE2.out (by have := HLK.out; omega)⟩
        case measure => simp [intOf]; omega
      · obtain rfl : ok = 2 := hok1
        have han' : oa < (n : Int) / 8 := han
        have ha0' : 0 ≤ oa := ha0
        have e1 : ¬ oa < 0 := by omega
        have e2 : ¬ (n : Int) / 8 ≤ oa := by omega
        have e3 : decide (oa < 0) = false := decide_eq_false e1
        have e4 : decide ((n : Int) / 8 ≤ oa) = false := decide_eq_false e2
        have d0 := HDa.out.dev.cells.1
        clear ha0 han hnew
        go_upto_region 12 with fail
        go_quiet (fail)
        go_wp2_with (go_at_call 45; refine (dflushE E B d kB c n lv S.1 S.2 oa _ (HDa.out.drewN _) (Nat.le_trans hEr.out (by show _ ≤ (World.alloc _ _).heap.size; simp)) HLE.out (fun p hp => by have := HIN.out p hp; omega)).mono ?_; rintro e w2 ⟨rfl, hdv, hb⟩; have HDV := hid hdv; have HB2 := hid (HBa.out.trans (unspN hb)); clear hdv hb)
        go_roundw
        case rel =>
          exact ⟨k + 1, lv, by omega, by go_num, by rw [HN.out]; exact HDV.out, HB2.out, by rw [HN.out]; exact HIN2.out, by rw [HN.out]; exact Nat.le_trans HLE2.out (by have := HLK.out; omega)⟩
        case measure => simp [intOf]; omega
      · obtain rfl : ok = 3 := hok1
        clear hnew
        go_wp2_with (go_at_call 46; refine (dfenceE E B d kB c n lv S.1 S.2 _ HDa.out (Nat.le_trans hEr.out (by simp)) HLE.out HIN.out).mono ?_; rintro e w2 ⟨rfl, hdv, hb⟩; have HDV := hid hdv; have HB2 := hid (HBa.out.trans hb); clear hdv hb)
        go_roundw
        case rel =>
          obtain ⟨lv', hdv⟩ := HDV.out
          exact ⟨k + 1, lv', by omega, by go_num, by rw [HN.out]; exact hdv, HB2.out, by rw [HN.out]; exact HIN2.out, by rw [HN.out]; exact Nat.le_trans HLE2.out (by have := HLK.out; omega)⟩
        case measure => simp [intOf]; omega
      · obtain rfl : ok = 4 := hok1
        clear hnew
        go_wp2
        go_roundw
        case rel =>
          exact ⟨k + 1, lv, by omega, by go_num, by rw [HN.out]; exact HDa.out, HBa.out, by rw [HN.out]; exact HIN2.out, by rw [HN.out]; exact Nat.le_trans HLE2.out (by have := HLK.out; omega)⟩
        case measure => simp [intOf]; omega
    · obtain rfl : m = k := by omega
      go_wp2
      go_ret
      have e : L.take m = L := by rw [HM.out, List.take_length]
      rw [e] at HD
      exact ⟨rfl, ⟨_, HD.out⟩, HB.out⟩
set_option maxHeartbeats 2000000 in
set_option maxRecDepth 100000 in
theorem dcrashE (E B d kB c n : Nat) (lv : Value) (K : Nat → Int) (L : List Pd) (KA : Option Addr) (kn kc : Nat) (kf : Nat → Bool) (w : World) (h : DevAt w B d kB c lv n K L) (hdE : d < E) (hl : L.length ≤ 100000) (ha : ∀ p ∈ L, 0 ≤ p.a ∧ p.a < (n : Int)) (hk : BoolsAt w B KA kn kf) :
    Calls Try.prog 20 #[.pointer (some ⟨d, 0, none⟩), .slice KA kn kc] w fun e w' => e = .returned (.tuple #[]) ∧ DevAt w' B d kB c (.slice none 0 0) n (crashTo K L (keepF kn kf) L.length) [] ∧ Sp E kB d w w' := by
  obtain ⟨A, cap, rfl⟩ : ∃ A cap, lv = .slice A L.length cap := by
    rcases h.lvs with ⟨h1, h2⟩ | ⟨g, cap, h1, -⟩
    · exact ⟨none, 0, by rw [h1, h2]; rfl⟩
    · exact ⟨_, _, h1⟩
  have H := hid h
  have HA := hid ha
  have HKB := hid hk
  clear h ha hk
  go_enter Try.func20, Try.ntmps20
  go_wp2_with fail
  go_loopw [4] (fun v wr => ∃ k : Nat, k ≤ L.length ∧ v = .int .i64 k ∧ DevAt wr B d kB c (.slice A L.length cap) n (crashTo K L (keepF kn kf) k) L ∧ Sp E kB d w wr) (fun v _ => L.length - (intOf v).toNat)
  case atStart => exact ⟨0, by omega, rfl, H.out, Sp.refl _ _ _ _⟩
  case round =>
    obtain ⟨k, hk, rfl, hd, hb⟩ := hrel
    have HD := hid hd
    have HB := hid hb
    have hdl := hd.lt
    have d0 := hd.cells.1
    have d1 := hd.cells.2
    have HBk := hid (HKB.out.low (hb.to (B := B) (by have := hd.lo; have := hd.mid; omega) hd.lo (by have := hd.lo; have := hd.mid; omega)) (Nat.le_refl _))
    clear hb
    by_cases hlt : k < L.length
    · have hlt' : (k : Int) < (L.length : Int) := by omega
      have h0k : (0 : Int) ≤ (k : Int) := by omega
      obtain ⟨g, rfl, hdg, hgl⟩ : ∃ g, A = some ⟨g, 0, none⟩ ∧ d < g ∧ g < wr.heap.size := by
        rcases hd.lvs with ⟨h1, h2⟩ | ⟨g, cap', h1, h2, h3⟩
        · rw [h2] at hlt; simp at hlt
        · exact ⟨g, by simpa using congrArg (fun v => match v with | Value.slice A _ _ => A | _ => none) h1, h2, h3⟩
      obtain ⟨x0, x1, x2⟩ := pdsL_at L k hlt
      have y0 := hd.own.cells (g := g) rfl _ _ x0
      have y1 := hd.own.cells (g := g) rfl _ _ x1
      rw [addz] at y0 y1
      have hap := HA.out L[k] (List.getElem_mem hlt)
      have HKn := hid (crash_next (K := K) (keep := keepF kn kf) hlt)
      clear x0 x1 x2
      generalize L[k] = p at y0 y1 hap HKn
      obtain ⟨pa, pw, pf⟩ := p
      dsimp only at y0 y1 hap
      obtain ⟨m, rfl⟩ := Int.eq_ofNat_of_zero_le hap.1
      obtain ⟨ca, F, q1, q2, q3⟩ := hd.kept
      have hmn : m < n := by omega
      have e0 := q2.cell (i := m) (by omega)
      have e1 := q2.frozen m
      clear q1 q2 q3 hd
      have hmn' : (m : Int) < (n : Int) := by omega
      have h0m : (0 : Int) ≤ (m : Int) := by omega
      clear hap
      by_cases hkn : k < kn
      · have hkn' : (k : Int) < (kn : Int) := by omega
        obtain ⟨ad, rfl, hc⟩ : ∃ ad, KA = some ad ∧ wr.cell? (ad.add k) = some (.bool (kf k)) := by
          rcases HBk.out with h0 | ⟨ad, e, -, h2⟩
          · omega
          · exact ⟨ad, e, h2 k hkn⟩
        have HF := hid (show keepF kn kf k = kf k by unfold keepF; rw [decide_eq_true hkn]; rfl)
        generalize kf k = b at hc HF
        cases b
        · go_wp2
          go_roundw
          case rel => exact ⟨k + 1, by omega, by go_num, by rw [HKn.out, HF.out]; exact HD.out, HB.out⟩
          case measure => simp [intOf]; omega
        · go_wp2
          refine wp_region_still_tail 21 (by kernel_rfl) (by kernel_rfl) ?_
          simp only [List.take_succ_cons, List.take_zero, List.drop_succ_cons, List.drop_zero]
          repeat still_step
          refine wpStill_nil ?_
          change wpList _ _ _ _ _ wr.drew
          go_wp2
          go_roundw
          case rel =>
            have DX := HD.out.put (m := m) pw
            have BX := HB.out.setCell (p := ⟨kB, m, none⟩) (.inr (.inl rfl)) (.int .u64 pw)
            refine ⟨k + 1, by omega, by go_num, ?_, ?_⟩
            · rw [HKn.out, HF.out]; exact ⟨DX.lo, DX.mid, DX.row, DX.kept, DX.own⟩
            · exact ⟨BX.os, BX.tape, BX.output, BX.size, BX.block⟩
          case measure => simp [intOf]; omega
      · have hkn' : ¬ (k : Int) < (kn : Int) := by omega
        have HF := hid (show keepF kn kf k = false by unfold keepF; rw [decide_eq_false hkn]; rfl)
        go_wp2
        go_roundw
        case rel => exact ⟨k + 1, by omega, by go_num, by rw [HKn.out, HF.out]; exact HD.out, HB.out⟩
        case measure => simp [intOf]; omega
    · obtain rfl : L.length = k := by omega
      have DX := hid (HD.out.rested (R := []) (N := d + 1) (World.ownsRow_nil _ _ _ _) (by omega))
      have BX := hid (HB.out.setCell (p := ⟨d, 1, none⟩) (.inr (.inr rfl)))
      have f1 := frozen_row hd.row 1
      clear hd
      go_wp2
      go_end0
      exact ⟨rfl, DX.out, BX.out _⟩
end Go.Proofs.Ytimfnimcmfjjpaa
