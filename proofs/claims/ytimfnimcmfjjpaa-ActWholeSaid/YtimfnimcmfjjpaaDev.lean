/- A device: what is kept, what waits; its methods. -/
import Derived.Test.YtimfnimcmfjjpaaOf
import Derived.Test.YtimfnimcmfjjpaaRSteps
import Derived.OneCell
import Derived.BigQuiet
namespace Go.Proofs.Ytimfnimcmfjjpaa
open Go.RowKit
/-- One that waits. -/
structure Pd where
  a : Int
  w : Int
  fl : Bool
def Pd.cells (o : Pd) : List Value := [.int .i64 o.a, .int .u64 o.w, .bool o.fl]
def pdsL (L : List Pd) : List Value := L.flatMap Pd.cells
theorem pdsL_len : ∀ L : List Pd, (pdsL L).length = L.length * 3
  | [] => rfl
  | o :: r => by
    have h := pdsL_len r
    unfold pdsL at h ⊢
    rw [List.flatMap_cons, List.length_append, h, List.length_cons]
    simp [Pd.cells]; omega
theorem pdsL_snoc (L : List Pd) (o : Pd) : pdsL (L ++ [o]) = pdsL L ++ o.cells := by simp [pdsL]
theorem pdsL_at (L : List Pd) (k : Nat) (h : k < L.length) : (pdsL L)[k * 3]? = some (.int .i64 L[k].a) ∧ (pdsL L)[k * 3 + 1]? = some (.int .u64 L[k].w) ∧ (pdsL L)[k * 3 + 2]? = some (.bool L[k].fl) := by
  induction L generalizing k with
  | nil => exact absurd h (Nat.not_lt_zero _)
  | cons o r ih =>
    cases k with
    | zero => exact ⟨rfl, rfl, rfl⟩
    | succ k =>
      have := ih k (by simpa using h)
      have e : ∀ j, (pdsL (o :: r))[j + 3]? = (pdsL r)[j]? := fun j => by
        show (o.cells ++ pdsL r)[j + 3]? = _
        rw [List.getElem?_append_right (by simp [Pd.cells])]
        simp [Pd.cells]
      rw [show (k + 1) * 3 = k * 3 + 3 by omega, show k * 3 + 3 + 1 = (k * 3 + 1) + 3 by omega, show k * 3 + 3 + 2 = (k * 3 + 2) + 3 by omega, e, e, e]
      simpa using this
/-- The words that are kept. -/
def KeptAt (w : World) (kB n : Nat) (K : Nat → Int) : Prop := ∃ cap F, n ≤ cap ∧ w.rowIs kB 51 cap F ∧ ∀ i, i < n → F i = .int .u64 (K i)
structure DevAt (w : World) (B d kB c : Nat) (lv : Value) (n : Nat) (K : Nat → Int) (L : List Pd) : Prop where
  lo : B ≤ kB
  mid : kB < d
  row : w.heap[d]? = some (.cells #[.slice (some ⟨kB, 0, none⟩) n c, lv] 65 (0, 0))
  kept : KeptAt w kB n K
  own : w.ownsRow (d + 1) 69 3 lv L.length (pdsL L)
theorem DevAt.lt {w : World} {B d kB c n : Nat} {lv : Value} {K : Nat → Int} {L : List Pd} (h : DevAt w B d kB c lv n K L) : d < w.heap.size := lt_of_block h.row
theorem DevAt.below {w w' : World} {B d kB c n : Nat} {lv : Value} {K : Nat → Int} {L : List Pd} (h : DevAt w B d kB c lv n K L) (hb : Below w.heap.size w w') : DevAt w' B d kB c lv n K L := by
  obtain ⟨cap, F, h1, h2, h3⟩ := h.kept
  exact ⟨h.lo, h.mid, (hb.block _ h.lt).trans h.row, ⟨cap, F, h1, above_row hb h2, h3⟩, owns_below h.own hb⟩
theorem DevAt.cells {w : World} {B d kB c n : Nat} {lv : Value} {K : Nat → Int} {L : List Pd} (h : DevAt w B d kB c lv n K L) : w.cell? ⟨d, 0, none⟩ = some (.slice (some ⟨kB, 0, none⟩) n c) ∧ w.cell? ⟨d, 1, none⟩ = some lv := ⟨cell_of_row _ _ 0 _ _ _ h.row, cell_of_row _ _ 1 _ _ _ h.row⟩
theorem DevAt.lvs {w : World} {B d kB c n : Nat} {lv : Value} {K : Nat → Int} {L : List Pd} (h : DevAt w B d kB c lv n K L) : (lv = .slice none 0 0 ∧ L = []) ∨ ∃ g cap, lv = .slice (some ⟨g, 0, none⟩) L.length cap ∧ d < g ∧ g < w.heap.size := by
  rcases h.own.2 with ⟨h1, h2⟩ | ⟨g, cap, cur, hv, hB, hg, -⟩
  · exact .inl ⟨h1, List.eq_nil_of_length_eq_zero h2⟩
  · exact .inr ⟨g, cap, hv, by omega, lt_of_block hg⟩
theorem pd_info : (Try.prog.info? 69).map (fun i => (i.zero, i.size, i.bytes)) = some (some (.agg #[.int .i64 0, .int .u64 0, .bool false]), 3, 24) := by kernel_rfl
/-- One more waits. -/
theorem DevAt.more {w w2 : World} {B d kB c n g cap : Nat} {lv : Value} {K : Nat → Int} {L : List Pd} {o : Pd} {r : Option Nat} (h : DevAt w B d kB c lv n K L) (hr : lv.ownBlock = r)
    (hown : w2.ownsRow (d + 1) 69 3 (.slice (some ⟨g, 0, none⟩) (L.length + 1) cap) (L.length + 1) (pdsL L ++ o.cells)) (hg : w.grownBy w2 r) :
    DevAt (w2.setCell ⟨d, 1, none⟩ (.slice (some ⟨g, 0, none⟩) (L.length + 1) cap)) B d kB c (.slice (some ⟨g, 0, none⟩) (L.length + 1) cap) n K (L ++ [o]) := by
  have hlo := h.own.lt
  rw [hr] at hlo
  have hne : ∀ k, k ≤ d → some k ≠ r := fun k hk e => by have := (hlo k e.symm).1; omega
  obtain ⟨ca, F, h1, h2, h3⟩ := h.kept
  have hd := (hg.block d h.lt (hne d (Nat.le_refl _))).trans h.row
  refine ⟨h.lo, h.mid, ?_, ⟨ca, F, h1, ?_, h3⟩, ?_⟩
  · rw [set_row hd]; rfl
  · have hm := h.mid
    exact (h2.of_block (hg.block kB h2.lt (hne kB (by omega)))).setOther (by show kB ≠ d; omega) _
  · rw [List.length_append, pdsL_snoc]
    exact ownsRow_setCell_below hown (by show d < d + 1; omega) _
set_option maxHeartbeats 1000000 in
set_option maxRecDepth 100000 in
theorem is_any (B d kB c n : Nat) (lv : Value) (K : Nat → Int) (L : List Pd) (x : Int) (r : Bool) (w : World) (h : DevAt w B d kB c lv n K L) (hr : (decide (0 ≤ x) && decide (x < (n : Int))) = r) :
    Calls Try.prog 43 #[.pointer (some ⟨d, 0, none⟩), .int .i64 x] w fun e w' => e = .returned (.bool r) ∧ w = w' := by
  have c0 := h.cells.1
  have H := hid h
  have HR := hid hr
  clear h hr
  by_cases h0 : 0 ≤ x
  · have d0 : decide (0 ≤ x) = true := decide_eq_true h0
    by_cases h1 : x < (n : Int)
    · have d1 : decide (x < (n : Int)) = true := decide_eq_true h1
      go_enter Try.func43, Try.ntmps43
      go_wp2
      go_ret
      exact ⟨ret_bool (by rw [← HR.out, d0, d1]; rfl), rfl⟩
    · have d1 : decide (x < (n : Int)) = false := decide_eq_false h1
      go_enter Try.func43, Try.ntmps43
      go_wp2
      go_ret
      exact ⟨ret_bool (by rw [← HR.out, d0, d1]; rfl), rfl⟩
  · have d0 : decide (0 ≤ x) = false := decide_eq_false h0
    go_enter Try.func43, Try.ntmps43
    go_wp2
    go_ret
    exact ⟨ret_bool (by rw [← HR.out, d0]; rfl), rfl⟩
set_option maxRecDepth 100000 in
theorem wpList_append_pd {ops : Array Oper} {rest : List Oper} {o : Oper} {a : Act} {w : World} {Q : Exit → Act → World → Prop} (hgd : o.guard = none) (s x : Operand)
    (ho : o.op = .call { callee := .builtin .append, args := #[s, x], argTypes := #[63, 63] }) (base : Nat) (v : Value) (L : List Pd) (hs : a.eval s = v) (hown : w.ownsRow base 69 3 v L.length (pdsL L)) (hbase : base ≤ w.heap.size)
    (q c : Nat) (p : Pd) (hx : a.eval x = .slice (some ⟨q, 0, none⟩) 1 c) (hrow : w.heap[q]? = some (.cells #[.int .i64 p.a, .int .u64 p.w, .bool p.fl] 69 (0, 0))) (hn : L.length ≤ 100000)
    (h : ∀ g cap w', w'.ownsRow base 69 3 (.slice (some ⟨g, 0, none⟩) (L.length + 1) cap) (L.length + 1) (pdsL L ++ p.cells) → w.grownBy w' v.ownBlock → wpList Try.prog ops Q rest (a.put o.dst (.slice (some ⟨g, 0, none⟩) (L.length + 1) cap)) w') : wpList Try.prog ops Q (o :: rest) a w := by
  obtain ⟨i0, hi, hz0, hz1, hz2⟩ := info_parts pd_info
  refine wpList_append_lies w hgd s x 63 ho base 69 i0 _ 3 24 Try.underlying63 hi hz0 hz1 hz2 rfl (by omega) v L.length (pdsL L) hs hown ⟨q, 0, none⟩ 1 c p.cells hx rfl (fun j u hj => ?_) (fun u hu => ?_) (by omega) (by unfold maxLen; omega) (by omega) hbase _ rfl (fun g cap w' h1 h2 _ _ => h g cap w' h1 h2)
  · have hj3 : j < 3 := by have := (List.getElem?_eq_some_iff.1 hj).1; simpa [Pd.cells] using this
    have hq : ∀ i, w.cell? ⟨q, i, none⟩ = (#[Value.int .i64 p.a, .int .u64 p.w, .bool p.fl])[i]? := fun i => cell_of_row w q i _ 69 (0, 0) hrow
    have : j = 0 ∨ j = 1 ∨ j = 2 := by omega
    rcases this with rfl | rfl | rfl
    · exact (hq 0).trans hj
    · exact (hq 1).trans hj
    · exact (hq 2).trans hj
  · simp [Pd.cells] at hu
    rcases hu with rfl | rfl | rfl <;> rfl
set_option maxHeartbeats 1000000 in
set_option maxRecDepth 100000 in
theorem dstore_any (B d kB c n : Nat) (lv : Value) (K : Nat → Int) (L : List Pd) (x v : Int) (w : World) (h : DevAt w B d kB c lv n K L) (hl : L.length ≤ 100000) :
    Calls Try.prog 44 #[.pointer (some ⟨d, 0, none⟩), .int .i64 x, .int .u64 v] w fun e w' => e = .returned (.tuple #[]) ∧ (∃ lv', DevAt w' B d kB c lv' n K (L ++ [⟨x, v, false⟩])) ∧ Below B w w' := by
  have c1 := h.cells.2
  have H := hid h
  have hlt := h.lt
  have hnew := hid ((H.out.below ((Below.refl _ _).alloc (Nat.le_refl _) (.cells #[.int .i64 x, .int .u64 v, .bool false] 69))))
  have rB := hid (heap_alloc_last w (.cells #[.int .i64 x, .int .u64 v, .bool false] 69))
  have hB := hid (show B ≤ w.heap.size ∧ B ≤ d by have := h.lo; have := h.mid; omega)
  have hgr := hid (World.grownBy_alloc w (.cells #[.int .i64 x, .int .u64 v, .bool false] 69) none)
  clear h
  go_enter Try.func44, Try.ntmps44
  go_wp2_with (at_builtin; refine wpList_append_pd rfl (.tmp 10) (.tmp 14) rfl (d + 1) lv L rfl hnew.out.own (by simp; omega) w.heap.size 1 ⟨x, v, false⟩ rfl rB.out hl ?_; intro g cap w2 hown hg; have HO := hid hown; have HGR := hid hg; clear hown hg; have e1 := hid (hnew.out.more rfl HO.out HGR.out); have hd2 := HGR.out.block d hnew.out.lt (fun e => by have := hnew.out.own.lt d e.symm; omega); have hrow2 := hid (hd2.trans hnew.out.row); have f1 := frozen_row hrow2.out 1; have k1 := cell_of_row _ _ 1 _ _ _ hrow2.out; clear hd2)
  go_end0
  exact ⟨rfl, ⟨_, e1.out⟩, (((Below.refl B w).alloc hB.out.1 _).grown HGR.out (by have := hB.out.1; simp; omega) (fun j hj => by have := hnew.out.own.lt j hj; have := hB.out.2; omega)).setCell (by show B ≤ d; exact hB.out.2) _⟩
theorem word_info : (Try.prog.info? 51).map (fun i => (i.zero, i.size, i.bytes)) = some (some (.int .u64 0), 1, 8) := by kernel_rfl
/-- Words that a slice holds. -/
def WordsIn (w : World) (A : Option Addr) (n : Nat) (K : Nat → Int) : Prop := ∃ q, A = some ⟨q, 0, none⟩ ∧ q < w.heap.size ∧ ∀ k, k < n → w.cell? ⟨q, k, none⟩ = some (.int .u64 (K k))
theorem WordsIn.below {w w' : World} {A : Option Addr} {n : Nat} {K : Nat → Int} (h : WordsIn w A n K) (hb : Below w.heap.size w w') : WordsIn w' A n K := by
  obtain ⟨q, rfl, hq, hc⟩ := h
  exact ⟨q, rfl, Nat.lt_of_lt_of_le hq hb.size, fun k hk => (hb.cell (p := ⟨q, k, none⟩) hq).trans (hc k hk)⟩
set_option maxRecDepth 100000 in
theorem wpList_copy_words {ops : Array Oper} {rest : List Oper} {o : Oper} {a : Act} {w : World} {Q : Exit → Act → World → Prop} (hgd : o.guard = none) (s x : Operand)
    (ho : o.op = .call { callee := .builtin .append, args := #[s, x], argTypes := #[38, 38] }) (A : Option Addr) (m c : Nat) (K : Nat → Int) (hs : a.eval s = .slice none 0 0) (hx : a.eval x = .slice A m c) (hl : WordsIn w A m K) (h0 : 0 < m) (hm : m ≤ 1000000)
    (h : ∀ c' w', Below w.heap.size w w' → KeptAt w' w.heap.size m K → wpList Try.prog ops Q rest (a.put o.dst (.slice (some ⟨w.heap.size, 0, none⟩) m c')) w') : wpList Try.prog ops Q (o :: rest) a w := by
  obtain ⟨q, rfl, hq, hc⟩ := hl
  obtain ⟨i0, hi, hz0, hz1, hz2⟩ := info_parts word_info
  refine wpList_append_lies w hgd s x 38 ho w.heap.size 51 i0 _ 1 8 Try.underlying38 hi hz0 hz1 hz2 rfl (by omega) (.slice none 0 0) 0 [] hs ⟨by simp, .inl ⟨rfl, rfl⟩⟩ ⟨q, 0, none⟩ m c ((List.range m).map fun k => Value.int .u64 (K k)) hx (by simp) (fun j u hj => ?_) (fun u hu => ?_) h0 (by unfold maxLen; omega) (by omega) (Nat.le_refl _) _ rfl (fun g cap w' h1 h2 h3 _ => ?_)
  · have hjm : j < m := by have := (List.getElem?_eq_some_iff.1 hj).1; simpa using this
    rw [show (⟨q, 0, none⟩ : Addr).add j = ⟨q, j, none⟩ by
      by_cases e : j = 0
      · subst e; rfl
      · rw [add_lit _ _ e]; simp, hc j hjm]
    simpa [hjm] using hj
  · obtain ⟨k, -, rfl⟩ := List.mem_map.1 hu
    rfl
  · obtain rfl : g = w.heap.size := by
      rcases h3 with h3 | h3
      · simp [Value.ownBlock] at h3
      · exact h3
    have hb := (Below.refl w.heap.size w).grown h2 (Nat.le_refl _) (by simp [Value.ownBlock])
    rw [Nat.zero_add] at h1 ⊢
    refine h cap w' hb ?_
    obtain ⟨hlen, h4 | ⟨g, cap', cur, hv, -, hg, hcap, -, hsz, htake⟩⟩ := h1
    · simp at h4
    · obtain ⟨rfl, rfl⟩ : w.heap.size = g ∧ cap = cap' := by simpa using hv
      refine ⟨cap, fun i => cur.getD i (.int .u64 0), hcap, ?_, fun i hi => ?_⟩
      · exact ⟨cur, hg, by rw [hsz]; omega, fun i hi => by
          have hi' : i < cur.size := by rw [hsz]; omega
          simp [Array.getD, hi']⟩
      · have e : (cur.toList.take (m * 1))[i]? = some (Value.int .u64 (K i)) := by
          rw [htake]
          simp [hi]
        rw [List.getElem?_take_of_lt (by omega), Array.getElem?_toList] at e
        show cur.getD i _ = _
        obtain ⟨hi', e'⟩ := Array.getElem?_eq_some_iff.1 e
        rw [Array.getD, dif_pos hi']
        exact e'
def MadeDev (w : World) (n : Nat) (K : Nat → Int) (e : Ending) (w' : World) : Prop := ∃ d kB c', e = .returned (.pointer (some ⟨d, 0, none⟩)) ∧ DevAt w' w.heap.size d kB c' (.slice none 0 0) n K [] ∧ Below w.heap.size w w'
set_option maxHeartbeats 1000000 in
set_option maxRecDepth 100000 in
theorem of_dev (A : Option Addr) (n c : Nat) (K : Nat → Int) (w : World) (h : WordsIn w A n K) (h0 : 0 < n) (h8 : n % 8 = 0) (hn : n ≤ 32768) :
    Calls Try.prog 42 #[.slice A n c] w (MadeDev w n K) := by
  have H := hid h
  have z0 : ¬ (n : Int) = 0 := by omega
  have e0 : ((n : Int) == 0) = false := by simpa using z0
  have e8 : (n : Int).tmod 8 = 0 := by rw [Int.tmod_eq_emod_of_nonneg (by omega)]; omega
  have q8 : ¬ (4096 : Int) < (n : Int).tdiv 8 := by rw [Int.tdiv_eq_ediv_of_nonneg (by omega)]; omega
  have hn' : (n : Int) ≤ 32768 := by omega
  clear h
  go_enter Try.func42, Try.ntmps42
  go_wp2_with (at_builtin; refine wpList_copy_words rfl (.const (.slice none 0 0)) (.tmp 18) rfl A n c K rfl rfl H.out h0 (by omega) ?_; intro c' w2 hb hk; have HB := hid hb; have HK := hid hk; clear hb hk)
  go_ret
  obtain ⟨cap, F, h1, h2, h3⟩ := HK.out
  exact ⟨w2.heap.size, w.heap.size, c', rfl, ⟨Nat.le_refl _, h2.lt, heap_alloc_last _ _, ⟨cap, F, h1, h2.alloc _, h3⟩, World.ownsRow_nil _ _ _ _⟩, HB.out.alloc HB.out.size _⟩
theorem own_set {w : World} {b e size n g cap : Nat} {xs : List Value} (h : w.ownsRow b e size (.slice (some ⟨g, 0, none⟩) n cap) n xs) (j : Nat) (u : Value) : (w.setCell ⟨g, j, none⟩ u).ownsRow b e size (.slice (some ⟨g, 0, none⟩) n cap) n (xs.set j u) := by
  obtain ⟨h1, h2 | ⟨g', cap', cur, hv, hB, hg, hc, hm, hsz, ht⟩⟩ := h
  · simp at h2
  · obtain ⟨rfl, rfl⟩ : g = g' ∧ cap = cap' := by simpa using hv
    refine ⟨by simpa using h1, .inr ⟨g, cap, cur.setIfInBounds j u, rfl, hB, ?_, hc, hm, by simpa using hsz, ?_⟩⟩
    · simp [World.setCell, Array.getElem?_modify, hg]
    · rw [Array.toList_setIfInBounds, List.take_set, ht]
theorem pdsL_set (L : List Pd) (k : Nat) (o : Pd) (h : k < L.length) : pdsL (L.set k o) = (((pdsL L).set (k * 3) (.int .i64 o.a)).set (k * 3 + 1) (.int .u64 o.w)).set (k * 3 + 2) (.bool o.fl) := by
  induction L generalizing k with
  | nil => exact absurd h (Nat.not_lt_zero _)
  | cons p r ih =>
    cases k with
    | zero => rfl
    | succ k =>
      have := ih k (by simpa using h)
      show p.cells ++ pdsL (r.set k o) = _
      rw [this, show (k + 1) * 3 = k * 3 + 1 + 1 + 1 by omega]
      rfl
def flush1 (l : Int) (p : Pd) : Pd := ⟨p.a, p.w, p.fl || (p.a / 8 == l)⟩
def flushTo (l : Int) (L : List Pd) : Nat → List Pd
  | 0 => L
  | k + 1 => (flushTo l L k).set k (flush1 l (L.getD k ⟨0, 0, false⟩))
theorem flushTo_len (l : Int) (L : List Pd) : ∀ k, (flushTo l L k).length = L.length
  | 0 => rfl
  | k + 1 => by rw [flushTo, List.length_set, flushTo_len l L k]
theorem flushTo_at (l : Int) (L : List Pd) : ∀ k, k ≤ L.length → ∀ i : Nat, (flushTo l L k)[i]? = if i < k then L[i]?.map (flush1 l) else L[i]?
  | 0, _, i => rfl
  | k + 1, hk, i => by
    rw [flushTo, List.getElem?_set, flushTo_len, flushTo_at l L k (by omega) i]
    by_cases e : k = i
    · subst e
      rw [if_pos rfl, if_pos (by omega), if_pos (by omega), List.getD_eq_getElem?_getD, List.getElem?_eq_getElem (by omega)]
      rfl
    · rw [if_neg e]
      by_cases hi : i < k
      · rw [if_pos hi, if_pos (by omega)]
      · rw [if_neg hi, if_neg (by omega)]
theorem flushTo_all (l : Int) (L : List Pd) : flushTo l L L.length = L.map (flush1 l) := by
  apply List.ext_getElem?
  intro i
  rw [flushTo_at l L _ (Nat.le_refl _), List.getElem?_map]
  by_cases hi : i < L.length
  · rw [if_pos hi]
  · rw [if_neg hi, List.getElem?_eq_none (by omega)]
    rfl
/-- One that waits is turned. -/
theorem DevAt.turn {w : World} {B d kB c n g cap k : Nat} {K : Nat → Int} {L : List Pd} (h : DevAt w B d kB c (.slice (some ⟨g, 0, none⟩) L.length cap) n K L) (hk : k < L.length) (o : Pd) :
    DevAt (((w.setCell ⟨g, k * 3, none⟩ (.int .i64 o.a)).setCell ⟨g, k * 3 + 1, none⟩ (.int .u64 o.w)).setCell ⟨g, k * 3 + 2, none⟩ (.bool o.fl)) B d kB c (.slice (some ⟨g, 0, none⟩) L.length cap) n K (L.set k o) := by
  have hg := (h.own.lt g rfl).1
  have hm := h.mid
  obtain ⟨ca, F, h1, h2, h3⟩ := h.kept
  refine ⟨h.lo, h.mid, ?_, ⟨ca, F, h1, ?_, h3⟩, ?_⟩
  · rw [setCell_heap _ _ _ _ (by show d ≠ g; omega), setCell_heap _ _ _ _ (by show d ≠ g; omega), setCell_heap _ _ _ _ (by show d ≠ g; omega)]
    exact h.row
  · exact ((h2.setOther (by show kB ≠ g; omega) _).setOther (by show kB ≠ g; omega) _).setOther (by show kB ≠ g; omega) _
  · rw [pdsL_set _ _ _ hk, List.length_set]
    exact own_set (own_set (own_set h.own _ _) _ _) _ _
end Go.Proofs.Ytimfnimcmfjjpaa
