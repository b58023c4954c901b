/- act: entries that are stored, the lines of their places flushed, and a fence: (*steps).written. -/
import Derived.Test.YtimfnimcmfjjpaaOrder
import Derived.Maps.OwnOps
import Derived.Maps.RangeWalk
import Derived.Maps.Views
import Derived.Carry
namespace Go.Proofs.Ytimfnimcmfjjpaa
open Go.RowKit Go.Maps
theorem law3 : Keyed Try.prog 3 := int_keyed Try.underlying3
theorem zero3 (w : World) : (zeroValue 3).run Try.prog w = .ok (.int .i64 0) w := by kernel_rfl
theorem i64_info : (Try.prog.info? 3).map (fun i => (i.zero, i.size, i.bytes)) = some (some (.int .i64 0), 1, 8) := by kernel_rfl
/-- The map has just the lines of the first k places. -/
def HasLines (D : DataW Unit) (f : Nat → Int) (k : Nat) : Prop := IsMap D ∧ ∀ x, has D (.int .i64 x) = true ↔ ∃ j, j < k ∧ f j / 8 = x
theorem HasLines.put {D : DataW Unit} {f : Nat → Int} {k : Nat} (h : HasLines D f k) (d : DataW Unit) : HasLines (D.put (.int .i64 (f k / 8)) d) f (k + 1) := by
  refine ⟨?_, fun x => ?_⟩
  · obtain ⟨es, rfl⟩ := h.1
    exact ⟨_, rfl⟩
  · by_cases hx : x = f k / 8
    · subst hx
      rw [has_put_same h.1 (show WideAt.IsKeyLit (.int .i64 (f k / 8)) from trivial)]
      exact ⟨fun _ => ⟨k, by omega, rfl⟩, fun _ => rfl⟩
    · rw [has_put_other (by intro e; exact hx (by simpa using e)), h.2 x]
      exact ⟨fun ⟨j, hj, e⟩ => ⟨j, by omega, e⟩, fun ⟨j, hj, e⟩ => ⟨j, by
        by_cases hjk : j = k
        · subst hjk; exact absurd e.symm hx
        · omega, e⟩⟩
/-- No line twice; those that are no longer to come. -/
def Coll (D : DataW Unit) (left : Lit → Bool) (ss : List Int) : Prop := ss.Nodup ∧ ∀ x, x ∈ ss ↔ (has D (.int .i64 x) = true ∧ left (.int .i64 x) = false)
theorem Coll.start (D : DataW Unit) : Coll D (has D) [] := ⟨List.nodup_nil, fun x => by cases has D (.int .i64 x) <;> simp⟩
theorem Coll.step {D : DataW Unit} {left : Lit → Bool} {ss : List Int} (h : Coll D left ss) {x : Int} {y : DataW Unit} (hlk : left (.int .i64 x) = true) (hat : ∀ zd, D.atKey (.int .i64 x) zd = y) : Coll D (fun z => left z && !z.sameKey (.int .i64 x)) (ss ++ [x]) := by
  have hhas : has D (.int .i64 x) = true := has_true_of_atKey hat
  have hnew : x ∉ ss := fun hx => by have := ((h.2 x).1 hx).2; rw [hlk] at this; cases this
  refine ⟨List.nodup_append.2 ⟨h.1, by simp, fun a ha b hb => by simp at hb; subst hb; exact fun e => hnew (e ▸ ha)⟩, fun y => ?_⟩
  by_cases hy : y = x
  · subst hy; simp [hhas, Lit.sameKey]
  · simp [h.2 y, hy, Lit.sameKey]
theorem size_le {P : Program} {k : TypeId} {R : Value → Option (DataW Unit × List MemPlace)} {w : World} {b n : Nat} {D : DataW Unit} (h : w.ownsMap P k R b n D) : Maps.size D ≤ n := by
  obtain ⟨es, clock, _, _, hs, rfl⟩ := h
  rw [size_eq, (Go.WideShapes.sorted_perm _).length_eq, List.length_map, Array.length_toList]
  exact hs
theorem row_ne_map {w : World} {b n base e size m : Nat} {P : Program} {k : TypeId} {R : Value → Option (DataW Unit × List MemPlace)} {D : DataW Unit} {v : Value} {xs : List Value} (h : w.ownsRow base e size v m xs) (hm : w.ownsMap P k R b n D) : some b ≠ v.ownBlock := by
  obtain ⟨es, clock, hb, -⟩ := hm
  rcases h.2 with ⟨rfl, -⟩ | ⟨g, cap, cur, rfl, -, hg, -⟩
  · simp [Value.ownBlock]
  · intro e1
    have : b = g := Option.some.inj e1
    subst this
    rw [hb] at hg; cases hg
/-- One number appended to numbers of one's own. -/
theorem wpList_append_int {ops : Array Oper} {rest : List Oper} {o : Oper} {a : Act} {w : World} {Q : Exit → Act → World → Prop} (hgd : o.guard = none) (s x : Operand)
    (ho : o.op = .call { callee := .builtin .append, args := #[s, x], argTypes := #[26, 26] }) (base : Nat) (v : Value) (n : Nat) (xs : List Value) (hs : a.eval s = v) (hown : w.ownsRow base 3 1 v n xs) (hbase : base ≤ w.heap.size)
    (B : Nat) (z : Int) (c : Nat) (hx : a.eval x = .slice (some ⟨B, 0, none⟩) 1 c) (hc : w.cell? ⟨B, 0, none⟩ = some (.int .i64 z)) (hn : n ≤ 1000000)
    (h : ∀ v' w', w'.ownsRow base 3 1 v' (n + 1) (xs ++ [.int .i64 z]) → w.grownBy w' v.ownBlock → wpList Try.prog ops Q rest (a.put o.dst v') w') : wpList Try.prog ops Q (o :: rest) a w := by
  obtain ⟨i0, hi, hz0, hz1, hz2⟩ := info_parts i64_info
  refine wpList_append_lies w hgd s x 26 ho base 3 i0 _ 1 8 Try.underlying26 hi hz0 hz1 hz2 rfl (by omega) v n xs hs hown ⟨B, 0, none⟩ 1 c [.int .i64 z] hx rfl (fun j u hj => ?_) (by simp [Value.oneCell']) (by omega) (by unfold maxLen; omega) (by omega) hbase w.heap.size rfl ?_
  · match j, hj with
    | 0, hj => rw [show (⟨B, 0, none⟩ : Addr).add 0 = ⟨B, 0, none⟩ from rfl, hc]; simpa using hj
  · intro g cap w' how hgr hat hlt
    exact h _ _ how hgr
theorem ints_of_own {w : World} {B g n cap : Nat} {zs : List Int} (h : w.ownsRow B 3 1 (.slice (some ⟨g, 0, none⟩) n cap) n (zs.map (Value.int .i64))) : IntsAt w (some ⟨g, 0, none⟩) n (fun j => zs.getD j 0) := by
  have hl : zs.length = n := by have := h.1; simpa using this
  rcases h.2 with ⟨h0, -⟩ | ⟨g', cap', cur, hv, -, hg, -, -, -, ht⟩
  · cases h0
  · obtain ⟨rfl, rfl⟩ : g' = g ∧ cap' = cap := by
      have := Value.slice.inj hv
      exact ⟨by simpa using this.1.symm, this.2.2.symm⟩
    refine .inr ⟨_, rfl, (Array.getElem?_eq_some_iff.1 hg).1, fun k hk => ?_⟩
    rw [show (⟨g', 0, none⟩ : Addr).add k = ⟨g', k, none⟩ by unfold Addr.add; split <;> simp_all, cell_of_row w g' k cur 3 (0, 0) hg]
    have := congrArg (fun l : List Value => l[k]?) ht
    simp [hk] at this
    show cur[k]? = some (Value.int .i64 (zs.getD k 0))
    rw [this, List.getD_eq_getElem?_getD, List.getElem?_eq_getElem (by omega)]
    rfl
def lineL (f : Nat → Int) (m : Nat) : List Int := (((List.range m).map fun k => f k / 8).eraseDups).mergeSort fun x y => decide (x ≤ y)
theorem nodup_eraseDups : ∀ (n : Nat) (l : List Int), l.length ≤ n → l.eraseDups.Nodup
  | _, [], _ => by simp
  | 0, _ :: _, h => by simp at h
  | n + 1, a :: r, h => by
    rw [List.eraseDups_cons, List.nodup_cons]
    refine ⟨fun hm => ?_, nodup_eraseDups n _ (Nat.le_trans (List.length_filter_le _ _) (by simpa using h))⟩
    rw [List.mem_eraseDups, List.mem_filter] at hm
    simp at hm
theorem lineL_eq (f : Nat → Int) (m : Nat) {ss : List Int} (hn : ss.Nodup) (hm : ∀ x, x ∈ ss ↔ ∃ j, j < m ∧ f j / 8 = x) : (ss.mergeSort fun x y => decide (x ≤ y)) = lineL f m := by
  have tr : ∀ a b c : Int, (decide (a ≤ b)) = true → (decide (b ≤ c)) = true → (decide (a ≤ c)) = true := fun a b c h1 h2 => by simp only [decide_eq_true_eq] at *; omega
  have to : ∀ a b : Int, ((decide (a ≤ b)) || (decide (b ≤ a))) = true := fun a b => by simp only [Bool.or_eq_true, decide_eq_true_eq]; omega
  have hp : ss.Perm (((List.range m).map fun k => f k / 8).eraseDups) := by
    refine (List.perm_ext_iff_of_nodup hn ?_).2 fun x => ?_
    · exact nodup_eraseDups _ _ (Nat.le_refl _)
    · rw [hm x, List.mem_eraseDups, List.mem_map]
      exact ⟨fun ⟨j, hj, e⟩ => ⟨j, List.mem_range.2 hj, e⟩, fun ⟨j, hj, e⟩ => ⟨j, List.mem_range.1 hj, e⟩⟩
  unfold lineL
  refine List.Perm.eq_of_pairwise (le := fun a b => decide (a ≤ b) = true) (fun a b _ _ h1 h2 => ?_) (List.pairwise_mergeSort tr to _) (List.pairwise_mergeSort tr to _) (((List.mergeSort_perm ss _).trans hp).trans (List.mergeSort_perm _ _).symm)
  simp only [decide_eq_true_eq] at h1 h2
  omega
def writtenL (f g : Nat → Int) (m : Nat) : List Op3 := storesL f g m ++ linesL (fun k => (lineL f m).getD k 0) (lineL f m).length
set_option maxHeartbeats 2000000 in
set_option maxRecDepth 100000 in
theorem written_any (S : Nat) (R : Option Nat) (L : List Op3) (A : Option Addr) (m c : Nat) (f g : Nat → Int) (w : World) (h : StepsAt w S R L) (hp : PairsAt w A m f g) (ha : 0 < m → Apart A S R) (hl : L.length + m + m ≤ 1000000) (hf : ∀ k, k < m → 0 ≤ f k ∧ f k < 1000000000) :
    Calls Try.prog 30 #[.pointer (some ⟨S, 0, none⟩), .slice A m c] w fun e w' => e = .returned (.tuple #[]) ∧ ∃ R', StepsAt w' S R' (L ++ writtenL f g m) ∧ Kept w w' S R R' := by
  have HP := hid hp
  have Ha := hid ha
  have Hf := hid hf
  have hm : m ≤ 1000000 := by omega
  have Hst := hid (stores_any S R L A m c f g w h hp ha (by omega))
  have hAlt : ∀ ad, A = some ad → 0 < m → ad.block < w.heap.size := fun ad e hm0 => by
    rcases hp with h0 | ⟨ad', e', hlt, -⟩
    · omega
    · rw [e] at e'; cases e'; exact hlt
  clear h hp ha hf
  have hmm := @run_makeMap Try.prog
  go_enter Try.func30, Try.ntmps30
  go_wp2_with (go_at_call 34; refine (Hst.out).mono ?_; rintro e w1 ⟨rfl, R1, hst1, hke1⟩)
  clear hmm
  have Hst1 := hid hst1
  have Hke1 := hid hke1
  clear hst1 hke1 Hst
  go_loopw [15] (fun i wr => ∃ (k : Nat) (D : DataW Unit), k ≤ m ∧ i = .int .i64 k ∧ wr.ownsMap Try.prog 3 (plainElem Try.prog 3) w1.heap.size k D ∧ HasLines D f k ∧ Below w1.heap.size w1 wr) (fun i _ => m - (intOf i).toNat)
  case atStart => exact ⟨0, _, by omega, rfl, World.ownsMap_made _ _ _ _, ⟨⟨_, rfl⟩, fun x => by simp [has_eq]⟩, (Below.refl _ _).alloc (Nat.le_refl _) _⟩
  case round =>
    obtain ⟨k, D, hk, rfl, hown, hD, hB⟩ := hrel
    have HD := hid hD
    have HB := hid hB
    have Hown := hid hown
    clear hD hB hown
    by_cases hlt : k < m
    · have hlt' : (k : Int) < (m : Int) := by omega
      have hfk := Hf.out k hlt
      obtain ⟨ad, rfl, hadl, hc⟩ : ∃ ad, A = some ad ∧ ad.block < wr.heap.size ∧ wr.cell? (ad.add (k * 2)) = some (.int .i64 (f k)) ∧ wr.cell? (ad.add (k * 2 + 1)) = some (.int .u64 (g k)) := by
        rcases HP.out.kept Hke1.out (Ha.out (by omega)) with h0 | ⟨ad, e, hl1, hc⟩
        · omega
        · refine ⟨ad, e, Nat.lt_of_lt_of_le hl1 HB.out.size, ?_, ?_⟩
          · exact (HB.out.cell (p := ad.add (k * 2)) (by rw [block_of_add]; exact hl1)).trans (hc k hlt).1
          · exact (HB.out.cell (p := ad.add (k * 2 + 1)) (by rw [block_of_add]; exact hl1)).trans (hc k hlt).2
      obtain ⟨c0, c1⟩ := hc
      have c1' : wr.cell? ⟨(ad.add (k * 2)).block, (ad.add (k * 2)).off + 1, none⟩ = some (.int .u64 (g k)) := by rw [← add_lit (ad.add (k * 2)) 1 (by omega), Addr.add_add]; exact c1
      clear c1
      have hkey : keyOf Try.prog 3 (.int .i64 (f k / 8)) = some (.int .i64 (f k / 8)) := keyOf_int_mk Try.underlying3 (WalkArith.wf_i64 (by omega))
      go_wp2_with (first
        | (at_lookup; refine wpList_lookup_own_int _ rfl _ _ 99 rfl 3 3 .i64 law3 Try.underlying99 Try.underlying3 (zero3 _) w1.heap.size k _ rfl (Hown.out.alloc _) _ _ rfl hkey ?_; intro cc hat hwc)
        | (at_mapUpdate; refine wpList_mapUpdate_own _ rfl _ _ _ 99 rfl 3 3 law3 Try.underlying99 _ w1.heap.size k _ rfl (Hown.out.alloc _) (by unfold maxLen; omega) _ _ _ rfl rfl hkey _ [] (plainElem_int Try.underlying3 (wrap64_wf _)) ?_; intro w2 hown2 hgrow2))
      go_roundw
      case rel => exact ⟨k + 1, _, by omega, by go_num, hown2, HD.out.put _, (HB.out.alloc HB.out.size _).grown hgrow2 (Nat.le_trans HB.out.size (by simp)) (fun j hj => by cases hj; exact Nat.le_refl _)⟩
      case measure => simp [intOf]; omega
    · have hkm : k = m := by omega
      subst hkm
      go_wp2_with (at_range; refine wpList_range_own _ rfl _ 99 rfl 3 3 law3 Try.underlying99 _ w1.heap.size k _ rfl Hown.out ?_; intro w0 hrg0 hg0 hs0)
      go_frame
      have HB0 := hid (HB.out.grown hg0 HB.out.size (fun j hj => by cases hj))
      have Hrg0 := hid hrg0
      have hbs := HB.out.size
      clear hrg0 hg0 hs0
      obtain ⟨r, hr⟩ : ∃ r, r = wr.heap.size := ⟨_, rfl⟩
      rw [← hr] at Hrg0 ⊢
      have HBr := hid (show w1.heap.size ≤ r by omega)
      clear hr
      go_loopw [7, 8] (fun v _ wx => ∃ (left : Lit → Bool) (cnt : Nat) (ss : List Int), wx.ranges Try.prog 3 (plainElem Try.prog 3) w1.heap.size r k D left cnt ∧ Coll D left ss ∧ ss.length + cnt ≤ k ∧ wx.ownsRow w1.heap.size 3 1 v ss.length (ss.map (Value.int .i64)) ∧ Below w1.heap.size w1 wx) (fun _ _ wx => wx.rangeLeft w1.heap.size r)
      case atStart =>
        exact ⟨_, _, [], Hrg0.out, Coll.start D, by have := size_le Hown.out; simp; omega, ⟨rfl, .inl ⟨rfl, rfl⟩⟩, HB0.out⟩
      case round =>
        obtain ⟨left, cnt, ss, hrg, hcol, hcn, hos, hbx⟩ := hrel
        have Hrg := hid hrg
        have Hcol := hid hcol
        have Hos := hid hos
        have Hbx := hid hbx
        clear hrg hcol hos hbx
        go_wp2_with (first
          | (at_next; refine wpList_next_ranges_ii _ rfl _ rfl 3 3 .i64 .i64 law3 Try.underlying3 Try.underlying3 w1.heap.size r k _ _ _ rfl Hrg.out ?_ ?_)
          | fail)
        · intro _ hl0
          have hmem : ∀ x, x ∈ ss ↔ ∃ j, j < k ∧ f j / 8 = x := fun x => by rw [Hcol.out.2 x, HD.out.2 x]; simp [hl0]
          have Hsort := hid (lineL_eq f k Hcol.out.1 hmem)
          have Hst2 := hid (Hst1.out.below Hbx.out)
          have Hke2 := hid (Hke1.out.trans (Kept.of_below S R1 Hbx.out))
          have Hrow := hid Hos.out.2
          have hSlt : S < w1.heap.size := by obtain ⟨v0, h0, -⟩ := Hst1.out; exact (Array.getElem?_eq_some_iff.1 h0).1
          have hRlt : ∀ q, R1 = some q → q < w1.heap.size := fun q hq => by obtain ⟨v0, -, ho, hv0, -⟩ := Hst1.out; exact own_lt ho (hv0.trans hq)
          clear hmem
          have hll : (L ++ storesL f g k).length = L.length + k := by simp [storesL]
          rcases Hrow.out with ⟨rfl, h0⟩ | ⟨g', cap, cur, rfl, hB', hg', -⟩
          · have hss : ss = [] := List.eq_nil_of_length_eq_zero h0
            go_wp2_with fail
            refine (sort_nil none 0 _).mono ?_
            rintro e w3 ⟨rfl, rfl⟩
            go_wp2_with fail
            refine (lines_any S R1 (L ++ storesL f g k) none 0 0 (fun _ => 0) _ Hst2.out (.inl rfl) (fun _ ad e => by cases e) (by omega)).mono ?_
            rintro e w4 ⟨rfl, R4, hst4, hke4⟩
            have Hst4 := hid hst4
            have Hke4 := hid (Hke2.out.trans hke4)
            clear hst4 hke4
            go_wp2
            go_end0
            refine ⟨rfl, R4, ?_, Hke4.out⟩
            have hln : (lineL f k).length = 0 := by rw [← Hsort.out, hss, List.length_mergeSort]; rfl
            unfold writtenL
            rw [hln, ← List.append_assoc]
            exact Hst4.out
          · go_wp2_with fail
            refine (sort_own w1.heap.size g' cap ss _ Hos.out (by omega)).mono ?_
            rintro e w3 ⟨rfl, hos3, hgr3⟩
            rw [Hsort.out] at hos3
            have hln : (lineL f k).length = ss.length := by rw [← Hsort.out, List.length_mergeSort]
            have b3 : Below w1.heap.size w1 w3 := Hbx.out.grown hgr3 Hbx.out.size (fun j hj => by cases hj; exact hB')
            have Hst3 := hid (Hst1.out.below b3)
            have Hke3 := hid (Hke1.out.trans (Kept.of_below S R1 b3))
            have HI := hid (ints_of_own hos3)
            clear hos3 hgr3 b3
            go_wp2_with fail
            refine (lines_any S R1 (L ++ storesL f g k) (some ⟨g', 0, none⟩) ss.length cap (fun j => (lineL f k).getD j 0) _ Hst3.out HI.out (fun _ ad e => by cases e; exact ⟨fun e => by have : g' = S := e; omega, fun e => by have := hRlt _ e; have h9 : g' < w1.heap.size := this; omega⟩) (by omega)).mono ?_
            rintro e w4 ⟨rfl, R4, hst4, hke4⟩
            have Hst4 := hid hst4
            have Hke4 := hid (Hke3.out.trans hke4)
            clear hst4 hke4
            go_wp2
            go_end0
            refine ⟨rfl, R4, ?_, Hke4.out⟩
            unfold writtenL
            rw [hln, ← List.append_assoc]
            exact Hst4.out
        · intro x cc wy cnt1 hwx hwc hlx hat hrg1 hlt1 hg1 hsz hen
          clear hsz
          have hsr := Hrg.out.lt
          have hos1 := Hos.out.kept hg1 (Or.inr (Go.row_ne_iter Hos.out Hrg.out).symm)
          have Hos1 := hid hos1
          have Hrg1 := hid hrg1
          have Hb1 := hid (Hbx.out.grown hg1 Hbx.out.size (fun j hj => by cases hj; exact HBr.out))
          clear hos1 hrg1 hg1
          go_wp2_with (first
            | (at_builtin; refine wpList_append_int rfl (.tmp 32) (.tmp 34) rfl w1.heap.size _ ss.length _ rfl (owns_below Hos1.out ((Below.refl _ _).alloc (Nat.le_refl _) _)) (Nat.le_trans Hb1.out.size (by simp)) wy.heap.size x 1 rfl (cell_of_row _ _ 0 _ 3 (0, 0) (heap_alloc_last wy _)) (by omega) ?_; intro v2 w2 how2 hgr2; have Ho2 := hid how2; have Hg2 := hid hgr2; clear how2 hgr2))
          have Hrg2 := hid ((Hrg1.out.alloc _).kept Hg2.out (row_ne_map Hos1.out Hrg1.out.owns) (Go.row_ne_iter Hos1.out Hrg1.out))
          go_roundw
          case rel =>
            refine ⟨_, cnt1, ss ++ [x], Hrg2.out, Hcol.out.step hlx hat, by simp; omega, ?_, (Hb1.out.alloc Hb1.out.size _).grown Hg2.out (Nat.le_trans Hb1.out.size (by simp)) (fun j hj => (Hos1.out.lt j hj).1)⟩
            have := Ho2.out
            rw [List.length_append, List.map_append]
            exact this
          case measure => rw [Hrg2.out.left_eq, Hrg.out.left_eq]; exact hlt1
end Go.Proofs.Ytimfnimcmfjjpaa
