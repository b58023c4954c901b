/- act: store, flush, fence; rows of stores, rows of flushes. -/
import Derived.Test.YtimfnimcmfjjpaaPut
import Derived.DataElems
namespace Go.Proofs.Ytimfnimcmfjjpaa
open Go.RowKit
theorem store_any (S : Nat) (R : Option Nat) (L : List Op3) (a x : Int) (w : World) (h : StepsAt w S R L) (hl : L.length ≤ 1000000) :
    Calls Try.prog 60 #[.pointer (some ⟨S, 0, none⟩), .int .i64 a, .int .u64 x] w fun e w' => e = .returned (.tuple #[]) ∧ ∃ R', StepsAt w' S R' (L ++ [⟨1, a, x⟩]) ∧ Kept w w' S R R' := by
  have H := hid (put_any S R L ⟨1, a, x⟩ w h hl)
  go_enter Try.func60, Try.ntmps60
  go_wp2_with (go_at_call 33; refine (H.out).mono ?_; rintro e w' ⟨rfl, hr⟩)
  go_end0
  exact ⟨rfl, hr⟩
theorem flush_any (S : Nat) (R : Option Nat) (L : List Op3) (a x : Int) (w : World) (h : StepsAt w S R L) (hl : L.length ≤ 1000000) :
    Calls Try.prog 57 #[.pointer (some ⟨S, 0, none⟩), .int .i64 a, .int .u64 x] w fun e w' => e = .returned (.tuple #[]) ∧ ∃ R', StepsAt w' S R' (L ++ [⟨2, a, 0⟩]) ∧ Kept w w' S R R' := by
  have H := hid (put_any S R L ⟨2, a, 0⟩ w h hl)
  go_enter Try.func57, Try.ntmps57
  go_wp2_with (go_at_call 33; refine (H.out).mono ?_; rintro e w' ⟨rfl, hr⟩)
  go_end0
  exact ⟨rfl, hr⟩
theorem fence_any (S : Nat) (R : Option Nat) (L : List Op3) (a x : Int) (w : World) (h : StepsAt w S R L) (hl : L.length ≤ 1000000) :
    Calls Try.prog 58 #[.pointer (some ⟨S, 0, none⟩), .int .i64 a, .int .u64 x] w fun e w' => e = .returned (.tuple #[]) ∧ ∃ R', StepsAt w' S R' (L ++ [⟨3, 0, 0⟩]) ∧ Kept w w' S R R' := by
  have H := hid (put_any S R L ⟨3, 0, 0⟩ w h hl)
  go_enter Try.func58, Try.ntmps58
  go_wp2_with (go_at_call 33; refine (H.out).mono ?_; rintro e w' ⟨rfl, hr⟩)
  go_end0
  exact ⟨rfl, hr⟩
/-- Entries that a slice holds. -/
def PairsAt (w : World) (A : Option Addr) (m : Nat) (f g : Nat → Int) : Prop := m = 0 ∨ ∃ ad, A = some ad ∧ ad.block < w.heap.size ∧ ∀ k, k < m → w.cell? (ad.add (k * 2)) = some (.int .i64 (f k)) ∧ w.cell? (ad.add (k * 2 + 1)) = some (.int .u64 (g k))
/-- A slice lies apart from the steps' block and row. -/
def Apart (A : Option Addr) (S : Nat) (R : Option Nat) : Prop := ∀ ad, A = some ad → ad.block ≠ S ∧ R ≠ some ad.block
theorem add_lit (ad : Addr) (k : Nat) (h : k ≠ 0) : ad.add k = ⟨ad.block, ad.off + k, none⟩ := by unfold Addr.add; rw [if_neg h]
theorem block_of_add (a : Addr) (n : Nat) : (a.add n).block = a.block := by unfold Addr.add; split <;> rfl
theorem Kept.cell {w w' : World} {S : Nat} {R R' : Option Nat} (h : Kept w w' S R R') (a : Addr) (hl : a.block < w.heap.size) (hS : a.block ≠ S) (hR : R ≠ some a.block) : w'.cell? a = w.cell? a := World.cell?_of_block (h.2.2.2.2.1 a.block hl hS hR)
theorem Kept.apart {w w' : World} {S : Nat} {R R' : Option Nat} (h : Kept w w' S R R') {A : Option Addr} (hl : ∀ ad, A = some ad → ad.block < w.heap.size) (ha : Apart A S R) : Apart A S R' := fun ad e => by
  refine ⟨(ha ad e).1, fun hr => ?_⟩
  rcases h.2.2.2.2.2 with h | ⟨b, hb, hle⟩
  · exact (ha ad e).2 (h ▸ hr)
  · rw [hb] at hr; cases hr; have := hl ad e; omega
theorem PairsAt.kept {w w' : World} {S : Nat} {R R' : Option Nat} (h : Kept w w' S R R') {A : Option Addr} {m : Nat} {f g : Nat → Int} (hp : PairsAt w A m f g) (ha : Apart A S R) : PairsAt w' A m f g := by
  rcases hp with h0 | ⟨ad, rfl, hlt, hc⟩
  · exact .inl h0
  · have hA := ha ad rfl
    exact .inr ⟨ad, rfl, Nat.lt_of_lt_of_le hlt h.2.2.2.1, fun k hk => ⟨(h.cell _ (by rw [block_of_add]; exact hlt) (by rw [block_of_add]; exact hA.1) (by rw [block_of_add]; exact hA.2)).trans (hc k hk).1, (h.cell _ (by rw [block_of_add]; exact hlt) (by rw [block_of_add]; exact hA.1) (by rw [block_of_add]; exact hA.2)).trans (hc k hk).2⟩⟩
theorem StepsAt.below {w w' : World} {S : Nat} {R : Option Nat} {L : List Op3} (h : StepsAt w S R L) (hb : Below w.heap.size w w') : StepsAt w' S R L := by
  obtain ⟨v, hS, ho, hv, hR⟩ := h
  exact ⟨v, (hb.block S (Array.getElem?_eq_some_iff.1 hS).1).trans hS, owns_below ho hb, hv, hR⟩
theorem Kept.of_below {w w' : World} (S : Nat) (R : Option Nat) (hb : Below w.heap.size w w') : Kept w w' S R R := ⟨hb.os, hb.tape, hb.output, hb.size, fun k hk _ _ => hb.block k hk, .inl rfl⟩
def storesL (f g : Nat → Int) (n : Nat) : List Op3 := (List.range n).map fun k => ⟨1, f k, g k⟩
theorem storesL_succ (f g : Nat → Int) (n : Nat) : storesL f g (n + 1) = storesL f g n ++ [⟨1, f n, g n⟩] := by simp [storesL, List.range_succ]
set_option maxHeartbeats 1000000 in
set_option maxRecDepth 100000 in
theorem stores_any (S : Nat) (R : Option Nat) (L : List Op3) (A : Option Addr) (m c : Nat) (f g : Nat → Int) (w : World) (h : StepsAt w S R L) (hp : PairsAt w A m f g) (ha : 0 < m → Apart A S R) (hl : L.length + m ≤ 1000000) :
    Calls Try.prog 34 #[.pointer (some ⟨S, 0, none⟩), .slice A m c] w fun e w' => e = .returned (.tuple #[]) ∧ ∃ R', StepsAt w' S R' (L ++ storesL f g m) ∧ Kept w w' S R R' := by
  have HP := hid hp
  have Ha := hid ha
  have H := hid h
  have hm : m ≤ 1000000 := by omega
  clear h hp ha
  go_enter Try.func34, Try.ntmps34
  go_wp2
  go_loopw [11] (fun i wr => ∃ (k : Nat) (Rk : Option Nat), k ≤ m ∧ i = .int .i64 k ∧ StepsAt wr S Rk (L ++ storesL f g k) ∧ Kept w wr S R Rk) (fun i _ => m - (intOf i).toNat)
  case atStart => exact ⟨0, R, by omega, rfl, by simpa [storesL] using H.out, Kept.refl _ _ _⟩
  case round =>
    obtain ⟨k, Rk, hk, rfl, hst, hke⟩ := hrel
    have Hst := hid hst
    have Hke := hid hke
    clear hst hke
    by_cases hlt : k < m
    · have hlt' : (k : Int) < (m : Int) := by omega
      obtain ⟨ad, rfl, hadl, hc⟩ : ∃ ad, A = some ad ∧ ad.block < wr.heap.size ∧ ∀ k, k < m → wr.cell? (ad.add (k * 2)) = some (.int .i64 (f k)) ∧ wr.cell? (ad.add (k * 2 + 1)) = some (.int .u64 (g k)) := by
        rcases HP.out.kept Hke.out (Ha.out (by omega)) with h0 | h1
        · omega
        · exact h1
      obtain ⟨c0, c1⟩ := hc k hlt
      have c1' : wr.cell? ⟨(ad.add (k * 2)).block, (ad.add (k * 2)).off + 1, none⟩ = some (.int .u64 (g k)) := by rw [← add_lit (ad.add (k * 2)) 1 (by omega), Addr.add_add]; exact c1
      clear hc c1
      go_wp2_with fail
      have ba := (Below.refl wr.heap.size wr).alloc (Nat.le_refl _) (.cells #[.int .i64 (f k), .int .u64 (g k)] 71)
      have hll : (L ++ storesL f g k).length ≤ 1000000 := by simp [storesL]; omega
      refine (store_any S Rk (L ++ storesL f g k) (f k) (g k) _ (Hst.out.below ba) hll).mono ?_
      rintro e w3 ⟨rfl, R3, hst3, hke3⟩
      have Hst3 := hid hst3
      have Hke3 := hid ((Hke.out.trans (Kept.of_below S Rk ba)).trans hke3)
      clear hst3 hke3 ba c0 c1'
      go_wp2
      go_roundw
      case rel =>
        refine ⟨k + 1, R3, by omega, by go_num, ?_, Hke3.out⟩
        rw [storesL_succ, ← List.append_assoc]
        exact Hst3.out
      case measure => simp [intOf]; omega
    · have hkm : k = m := by omega
      subst hkm
      go_wp2
      go_end0
      exact ⟨rfl, Rk, Hst.out, Hke.out⟩
/-- Numbers that a slice holds. -/
def IntsAt (w : World) (A : Option Addr) (m : Nat) (f : Nat → Int) : Prop := m = 0 ∨ ∃ ad, A = some ad ∧ ad.block < w.heap.size ∧ ∀ k, k < m → w.cell? (ad.add k) = some (.int .i64 (f k))
theorem IntsAt.kept {w w' : World} {S : Nat} {R R' : Option Nat} (h : Kept w w' S R R') {A : Option Addr} {m : Nat} {f : Nat → Int} (hp : IntsAt w A m f) (ha : Apart A S R) : IntsAt w' A m f := by
  rcases hp with h0 | ⟨ad, rfl, hlt, hc⟩
  · exact .inl h0
  · have hA := ha ad rfl
    exact .inr ⟨ad, rfl, Nat.lt_of_lt_of_le hlt h.2.2.2.1, fun k hk => (h.cell _ (by rw [block_of_add]; exact hlt) (by rw [block_of_add]; exact hA.1) (by rw [block_of_add]; exact hA.2)).trans (hc k hk)⟩
def flushL (f : Nat → Int) (n : Nat) : List Op3 := (List.range n).map fun k => ⟨2, f k, 0⟩
theorem flushL_succ (f : Nat → Int) (n : Nat) : flushL f (n + 1) = flushL f n ++ [⟨2, f n, 0⟩] := by simp [flushL, List.range_succ]
/-- Lines that are flushed, and a fence; nothing of none. -/
def linesL (f : Nat → Int) (n : Nat) : List Op3 := if n = 0 then [] else flushL f n ++ [⟨3, 0, 0⟩]
set_option maxHeartbeats 1000000 in
set_option maxRecDepth 100000 in
theorem lines_any (S : Nat) (R : Option Nat) (L : List Op3) (A : Option Addr) (m c : Nat) (f : Nat → Int) (w : World) (h : StepsAt w S R L) (hp : IntsAt w A m f) (ha : 0 < m → Apart A S R) (hl : L.length + m ≤ 1000000) :
    Calls Try.prog 31 #[.pointer (some ⟨S, 0, none⟩), .slice A m c] w fun e w' => e = .returned (.tuple #[]) ∧ ∃ R', StepsAt w' S R' (L ++ linesL f m) ∧ Kept w w' S R R' := by
  have HP := hid hp
  have Ha := hid ha
  have H := hid h
  have hm : m ≤ 1000000 := by omega
  clear h hp ha
  by_cases hm0 : m = 0
  · subst hm0
    go_enter Try.func31, Try.ntmps31
    go_wp2
    first
      | go_end0
      | (refine bodyPost_ret (results_none rfl _ _ _) rfl ?_)
      | (go_ret)
      | trace_state
    exact ⟨rfl, R, by simpa [linesL] using H.out, Kept.refl _ _ _⟩
  have hm0' : ((m : Int) == 0) = false := by rw [beq_eq_false_iff_ne]; omega
  go_enter Try.func31, Try.ntmps31
  go_wp2
  clear hm0'
  go_loopw [14] (fun i wr => ∃ (k : Nat) (Rk : Option Nat), k ≤ m ∧ i = .int .i64 k ∧ StepsAt wr S Rk (L ++ flushL f k) ∧ Kept w wr S R Rk) (fun i _ => m - (intOf i).toNat)
  case atStart => exact ⟨0, R, by omega, rfl, by simpa [flushL] using H.out, Kept.refl _ _ _⟩
  case round =>
    obtain ⟨k, Rk, hk, rfl, hst, hke⟩ := hrel
    have Hst := hid hst
    have Hke := hid hke
    clear hst hke
    by_cases hlt : k < m
    · have hlt' : (k : Int) < (m : Int) := by omega
      obtain ⟨ad, rfl, hadl, hc⟩ : ∃ ad, A = some ad ∧ ad.block < wr.heap.size ∧ ∀ k, k < m → wr.cell? (ad.add k) = some (.int .i64 (f k)) := by
        rcases HP.out.kept Hke.out (Ha.out (by omega)) with h0 | h1
        · omega
        · exact h1
      have c0 := hc k hlt
      clear hc
      go_wp2_with fail
      have hll : (L ++ flushL f k).length ≤ 1000000 := by simp [flushL]; omega
      refine (flush_any S Rk (L ++ flushL f k) (f k) 0 _ Hst.out hll).mono ?_
      rintro e w3 ⟨rfl, R3, hst3, hke3⟩
      have Hst3 := hid hst3
      have Hke3 := hid (Hke.out.trans hke3)
      clear hst3 hke3 c0
      go_wp2
      go_roundw
      case rel =>
        refine ⟨k + 1, R3, by omega, by go_num, ?_, Hke3.out⟩
        rw [flushL_succ, ← List.append_assoc]
        exact Hst3.out
      case measure => simp [intOf]; omega
    · have hkm : k = m := by omega
      subst hkm
      have hll : (L ++ flushL f k).length ≤ 1000000 := by simp [flushL]; omega
      go_wp2_with fail
      refine (fence_any S Rk (L ++ flushL f k) 0 0 _ Hst.out hll).mono ?_
      rintro e w3 ⟨rfl, R3, hst3, hke3⟩
      have Hst3 := hid hst3
      have Hke3 := hid (Hke.out.trans hke3)
      clear hst3 hke3
      go_wp2
      go_end0
      refine ⟨rfl, R3, ?_, Hke3.out⟩
      unfold linesL
      rw [if_neg hm0, ← List.append_assoc]
      exact Hst3.out
end Go.Proofs.Ytimfnimcmfjjpaa
