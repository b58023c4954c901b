/- act: (*steps).redo lays entries into a slot. -/
import Derived.Test.YtimfnimcmfjjpaaLay
namespace Go.Proofs.Ytimfnimcmfjjpaa
open Go.RowKit Go.Maps
theorem redo_info : (Try.prog.info? 71).map (fun i => (i.zero, i.size, i.bytes)) = some (some (.agg #[.int .i64 0, .int .u64 0]), 2, 16) := by kernel_rfl
/-- One entry appended to entries of one's own. -/
theorem wpList_append_pair {ops : Array Oper} {rest : List Oper} {o : Oper} {a : Act} {w : World} {Q : Exit → Act → World → Prop} (hgd : o.guard = none) (s x : Operand)
    (ho : o.op = .call { callee := .builtin .append, args := #[s, x], argTypes := #[25, 25] }) (base : Nat) (v : Value) (n : Nat) (xs : List Value) (hs : a.eval s = v) (hown : w.ownsRow base 71 2 v n xs) (hbase : base ≤ w.heap.size)
    (B : Nat) (z1 z2 : Int) (c : Nat) (hx : a.eval x = .slice (some ⟨B, 0, none⟩) 1 c) (hc1 : w.cell? ⟨B, 0, none⟩ = some (.int .i64 z1)) (hc2 : w.cell? ⟨B, 1, none⟩ = some (.int .u64 z2)) (hn : n ≤ 1000000)
    (h : ∀ v' w', w'.ownsRow base 71 2 v' (n + 1) (xs ++ [.int .i64 z1, .int .u64 z2]) → Below base w w' → wpList Try.prog ops Q rest (a.put o.dst v') w') : wpList Try.prog ops Q (o :: rest) a w := by
  obtain ⟨i0, hi, hz0, hz1, hz2⟩ := info_parts redo_info
  refine wpList_append_lies w hgd s x 25 ho base 71 i0 _ 2 16 Try.underlying25 hi hz0 hz1 hz2 rfl (by omega) v n xs hs hown ⟨B, 0, none⟩ 1 c [.int .i64 z1, .int .u64 z2] hx rfl (fun j u hj => ?_) (by simp [Value.oneCell']) (by omega) (by unfold maxLen; omega) (by omega) hbase w.heap.size rfl ?_
  · match j, hj with
    | 0, hj => rw [show (⟨B, 0, none⟩ : Addr).add 0 = ⟨B, 0, none⟩ from rfl, hc1]; simpa using hj
    | 1, hj => rw [show (⟨B, 0, none⟩ : Addr).add 1 = ⟨B, 1, none⟩ from rfl, hc2]; simpa using hj
  · intro g cap w' how hgr hat hlt
    refine h _ _ how ((Below.refl base w).grown hgr hbase (fun k hk => ?_))
    rcases hown.2 with ⟨rfl, -⟩ | ⟨g', cap', cur, rfl, hb, -⟩
    · simp [Value.ownBlock] at hk
    · simp [Value.ownBlock] at hk; omega
def pairsV (f g : Nat → Int) (n : Nat) : List Value := (List.range n).flatMap fun j => [.int .i64 (f j), .int .u64 (g j)]
theorem pairsV_succ (f g : Nat → Int) (n : Nat) : pairsV f g (n + 1) = pairsV f g n ++ [.int .i64 (f n), .int .u64 (g n)] := by simp [pairsV, List.range_succ]
theorem pairsV_len (f g : Nat → Int) : ∀ n, (pairsV f g n).length = 2 * n
  | 0 => rfl
  | n + 1 => by rw [pairsV_succ, List.length_append, pairsV_len f g n]; simp; omega
theorem pairsV_get (f g : Nat → Int) : ∀ n k, k < n → (pairsV f g n)[k * 2]? = some (.int .i64 (f k)) ∧ (pairsV f g n)[k * 2 + 1]? = some (.int .u64 (g k))
  | 0, _, h => by omega
  | n + 1, k, h => by
    rw [pairsV_succ]
    have hl := pairsV_len f g n
    by_cases hk : k < n
    · have := pairsV_get f g n k hk
      rw [List.getElem?_append_left (by omega), List.getElem?_append_left (by omega)]
      exact this
    · obtain rfl : k = n := by omega
      rw [List.getElem?_append_right (by omega), List.getElem?_append_right (by omega)]
      exact ⟨by rw [show k * 2 - (pairsV f g k).length = 0 by omega]; rfl, by rw [show k * 2 + 1 - (pairsV f g k).length = 1 by omega]; rfl⟩
theorem add_zero_off (g k : Nat) : (⟨g, 0, none⟩ : Addr).add k = ⟨g, k, none⟩ := by unfold Addr.add; split <;> simp_all
/-- Entries of one's own lie as entries. -/
theorem pairs_of_own {w : World} {B n : Nat} {v : Value} {f g : Nat → Int} (h : w.ownsRow B 71 2 v n (pairsV f g n)) : ∃ A c, v = .slice A n c ∧ PairsAt w A n f g ∧ (∀ ad, A = some ad → B ≤ ad.block) := by
  rcases h.2 with ⟨rfl, h0⟩ | ⟨q, cap, cur, rfl, hB, hg, -, -, -, ht⟩
  · exact ⟨none, 0, by rw [h0], .inl h0, fun ad e => by cases e⟩
  · refine ⟨_, _, rfl, .inr ⟨_, rfl, (Array.getElem?_eq_some_iff.1 hg).1, fun k hk => ?_⟩, fun ad e => by cases e; exact hB⟩
    rw [add_zero_off, add_zero_off, cell_of_row w q (k * 2) cur 71 (0, 0) hg, cell_of_row w q (k * 2 + 1) cur 71 (0, 0) hg]
    obtain ⟨g1, g2⟩ := pairsV_get f g n k hk
    have hl := pairsV_len f g n
    have h1 := congrArg (fun l : List Value => l[k * 2]?) ht
    have h2 := congrArg (fun l : List Value => l[k * 2 + 1]?) ht
    rw [g1] at h1
    rw [g2] at h2
    rw [List.getElem?_take_of_lt (by omega)] at h1 h2
    exact ⟨by simpa using h1, by simpa using h2⟩
theorem eraseDups_len : ∀ (n : Nat) (l : List Int), l.length ≤ n → l.eraseDups.length ≤ l.length
  | _, [], _ => by simp
  | 0, _ :: _, h => by simp at h
  | n + 1, a :: r, h => by
    rw [List.eraseDups_cons, List.length_cons, List.length_cons]
    have h1 := List.length_filter_le (fun b => !b == a) r
    have := eraseDups_len n (r.filter fun b => !b == a) (Nat.le_trans h1 (by simpa using h))
    omega
theorem lineL_len (f : Nat → Int) (m : Nat) : (lineL f m).length ≤ m := by
  unfold lineL
  rw [List.length_mergeSort]
  have := eraseDups_len _ ((List.range m).map fun k => f k / 8) (Nat.le_refl _)
  simpa using this
theorem writtenL_len (f g : Nat → Int) (m : Nat) : (writtenL f g m).length ≤ 2 * m + 1 := by
  have := lineL_len f m
  unfold writtenL storesL linesL flushL
  rw [List.length_append, List.length_map, List.length_range]
  split <;> simp <;> omega
theorem pairs_one (w : World) (a x : Int) (t : Nat) (f h : Nat → Int) (ha : f 0 = a) (hx : h 0 = x) : PairsAt (w.alloc (.cells #[.int .i64 a, .int .u64 x] t)) (some ⟨w.heap.size, 0, none⟩) 1 f h := by
  refine .inr ⟨_, rfl, by simp, fun k hk => ?_⟩
  obtain rfl : k = 0 := by omega
  rw [add_zero_off, add_zero_off, ha, hx]
  exact ⟨cell_of_row _ _ 0 _ t (0, 0) (heap_alloc_last w _), cell_of_row _ _ 1 _ t (0, 0) (heap_alloc_last w _)⟩
/-- What lays a list into a slot at a place. -/
def redoL (at_ : Int) (f g : Nat → Int) (n : Nat) : List Op3 := if n = 0 then [] else writtenL (fun j => at_ + 8 + j) (fun j => (bodyF f g j : Nat)) (2 * n) ++ writtenL (fun _ => at_) (fun _ => (commitN f g n : Nat)) 1
set_option maxHeartbeats 4000000 in
set_option maxRecDepth 100000 in
theorem redo_any (S : Nat) (R : Option Nat) (L : List Op3) (at_ : Int) (A : Option Addr) (m c : Nat) (f g : Nat → Int) (w : World) (h : StepsAt w S R L) (hp : PairsAt w A m f g) (hat : 0 ≤ at_ ∧ at_ ≤ 100000) (hm : m ≤ 64) (hl : L.length ≤ 900000)
    (hf : ∀ k, k < m → 0 ≤ f k ∧ f k < 1048576) (hg : ∀ k, k < m → 0 ≤ g k) :
    Calls Try.prog 32 #[.pointer (some ⟨S, 0, none⟩), .int .i64 at_, .slice A m c] w fun e w' => e = .returned (.tuple #[]) ∧ ∃ R', StepsAt w' S R' (L ++ redoL at_ f g m) ∧ Kept w w' S R R' := by
  by_cases h0 : m = 0
  · subst h0
    go_enter Try.func32, Try.ntmps32
    go_wp2
    first
      | go_end0
      | (refine bodyPost_ret (results_none rfl _ _ _) rfl ?_)
    exact ⟨rfl, R, by simpa [redoL] using h, Kept.refl _ _ _⟩
  have h0' : ((m : Int) == 0) = false := by rw [beq_eq_false_iff_ne]; omega
  have Hlay := hid (lay_any A m c f g w hm hp hf hg)
  have HS := hid h
  have hSlt : S < w.heap.size := by obtain ⟨v0, hS, -⟩ := h; exact (Array.getElem?_eq_some_iff.1 hS).1
  have hRlt : Hid (∀ q, R = some q → q < w.heap.size) := fun q hq => by obtain ⟨v0, -, ho, hv0, -⟩ := h; exact own_lt ho (hv0.trans hq)
  clear hp hf hg h
  go_enter Try.func32, Try.ntmps32
  go_wp2_with fail
  refine (Hlay.out).mono ?_
  rintro e w1 ⟨vb, rfl, hown, hb⟩
  obtain ⟨Ab, cb, rfl, hW⟩ := words_of_own (F := bodyF f g) hown
  have HW := hid hW
  have HB1 := hid hb
  clear hown hW hb h0'
  go_wp2
  go_loopw [9, 10, 11, 23] (fun v _ _ i wr => ∃ k : Nat, k ≤ 2 * m ∧ i = .int .i64 k ∧ wr.ownsRow w1.heap.size 71 2 v k (pairsV (fun j => at_ + 8 + j) (fun j => (bodyF f g j : Nat)) k) ∧ Below w1.heap.size w1 wr) (fun _ _ _ i _ => 2 * m - (intOf i).toNat)
  case atStart => exact ⟨0, by omega, rfl, ⟨rfl, .inl ⟨rfl, rfl⟩⟩, Below.refl _ _⟩
  case round =>
    obtain ⟨k, hk, rfl, hown, hb⟩ := hrel
    have Hown := hid hown
    have Hb := hid hb
    clear hown hb
    by_cases hlt : k < 2 * m
    · have hlt' : (k : Int) < 2 * (m : Int) := by omega
      obtain ⟨ad, rfl, hadl, hc⟩ : ∃ ad, Ab = some ad ∧ ad.block < wr.heap.size ∧ ∀ k, k < 2 * m → wr.cell? (ad.add k) = some (.int .u64 (bodyF f g k : Nat)) := by
        rcases HW.out.below Hb.out with h0 | h1
        · omega
        · exact h1
      have c0 := hc k hlt
      clear hc
      go_wp2_with (at_builtin; refine wpList_append_pair rfl (.tmp 28) (.tmp 35) rfl w1.heap.size _ k _ rfl (owns_below Hown.out ((Below.refl _ _).alloc (Nat.le_refl _) _)) (Nat.le_trans Hb.out.size (by simp)) wr.heap.size (at_ + 8 + k) (bodyF f g k : Nat) 1 rfl (by simp) (by simp) (by omega) ?_; intro v2 w2 how2 hb2; have Ho2 := hid how2; have Hb2 := hid ((Hb.out.alloc Hb.out.size _).trans hb2); clear how2 hb2)
      go_roundw
      case rel =>
        refine ⟨k + 1, by omega, by go_num, ?_, Hb2.out⟩
        rw [pairsV_succ]
        exact Ho2.out
      case measure => simp [intOf]; omega
    · obtain rfl : k = 2 * m := by omega
      obtain ⟨A2, c2, rfl, hP, hAB⟩ := pairs_of_own Hown.out
      have Hst := hid (HS.out.below (HB1.out.trans (Hb.out.mono HB1.out.size)))
      have Hke := hid (Kept.of_below S R (HB1.out.trans (Hb.out.mono HB1.out.size)))
      have hs1 := HB1.out.size
      have hap : Apart A2 S R := fun ad e => ⟨fun e2 => by have := hAB ad e; omega, fun e2 => by have := hAB ad e; have := hRlt.out _ e2; omega⟩
      have Hw1 := hid (written_any S R L A2 (2 * m) c2 (fun j => at_ + 8 + j) (fun j => (bodyF f g j : Nat)) wr Hst.out hP (fun _ => hap) (by omega) (fun j hj => by omega))
      clear hP hAB hap
      go_wp2_with fail
      refine (Hw1.out).mono ?_
      rintro e w3 ⟨rfl, R3, hst3, hke3⟩
      have Hst3 := hid hst3
      have Hke3 := hid (Hke.out.trans hke3)
      clear hst3 hke3
      have ba := (Below.refl w3.heap.size w3).alloc (Nat.le_refl _) (.cells #[.int .i64 at_, .int .u64 (commitN f g m : Nat)] 71)
      have hSl3 : S < w3.heap.size := by obtain ⟨v0, hS, -⟩ := Hst3.out; exact (Array.getElem?_eq_some_iff.1 hS).1
      have hRl3 : ∀ q, R3 = some q → q < w3.heap.size := fun q hq => by obtain ⟨v0, -, ho, hv0, -⟩ := Hst3.out; exact own_lt ho (hv0.trans hq)
      have hlen : (L ++ writtenL (fun j => at_ + 8 + j) (fun j => (bodyF f g j : Nat)) (2 * m)).length + 1 + 1 ≤ 1000000 := by
        have := writtenL_len (fun j => at_ + 8 + j) (fun j => (bodyF f g j : Nat)) (2 * m)
        rw [List.length_append]
        omega
      have Hw2 := hid (written_any S R3 _ (some ⟨w3.heap.size, 0, none⟩) 1 1 (fun _ => at_) (fun _ => (commitN f g m : Nat)) _ (Hst3.out.below ba) (pairs_one w3 at_ (commitN f g m : Nat) 71 _ _ rfl rfl) (fun _ ad e => by cases e; exact ⟨fun e2 => by have : w3.heap.size = S := e2; omega, fun e2 => by have := hRl3 _ e2; have h9 : w3.heap.size < w3.heap.size := this; omega⟩) hlen (fun _ _ => by omega))
      have Hke4 := hid (Hke3.out.trans (Kept.of_below S R3 ba))
      clear ba hRl3 hlen
      go_wp2_with fail
      refine (Hw2.out).mono ?_
      rintro e w4 ⟨rfl, R4, hst4, hke4⟩
      have Hst4 := hid hst4
      have Hke5 := hid (Hke4.out.trans hke4)
      clear hst4 hke4
      go_wp2
      go_end0
      refine ⟨rfl, R4, ?_, Hke5.out⟩
      unfold redoL
      rw [if_neg h0, ← List.append_assoc]
      exact Hst4.out
end Go.Proofs.Ytimfnimcmfjjpaa
