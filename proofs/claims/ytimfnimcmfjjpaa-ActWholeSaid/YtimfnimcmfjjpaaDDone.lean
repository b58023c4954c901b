/- Steps at a device. -/
import Derived.Test.YtimfnimcmfjjpaaDFence
import Derived.Test.YtimfnimcmfjjpaaShow
namespace Go.Proofs.Ytimfnimcmfjjpaa
open Go.RowKit
/-- What a device is: its words, what waits. -/
abbrev DevS := (Nat → Int) × List Pd
def dstep (s : DevS) (o : Op3) : DevS := if o.k = 1 then (s.1, s.2 ++ [⟨o.a, o.w, false⟩]) else if o.k = 2 then (s.1, s.2.map (flush1 o.a)) else if o.k = 3 then (fenceK s.1 s.2, restL s.2) else s
def druns (s : DevS) (L : List Op3) : DevS := L.foldl dstep s
theorem druns_next {s : DevS} {L : List Op3} {k : Nat} (h : k < L.length) : druns s (L.take (k + 1)) = dstep (druns s (L.take k)) L[k] := by
  unfold druns
  rw [List.take_add_one, List.getElem?_eq_getElem h, List.foldl_append]
  rfl
/-- A step that a device of n words takes. -/
def StepOk (n : Nat) (o : Op3) : Prop := (o.k = 1 ∧ 0 ≤ o.a ∧ o.a < (n : Int)) ∨ (o.k = 2 ∧ 0 ≤ o.a ∧ o.a < (n : Int) / 8) ∨ o.k = 3 ∨ o.k = 4
def InN (n : Nat) (L : List Pd) : Prop := ∀ p ∈ L, 0 ≤ p.a ∧ p.a < (n : Int)
theorem dstep_in {n : Nat} {s : DevS} {o : Op3} (h : InN n s.2) (ho : StepOk n o) : InN n (dstep s o).2 := by
  intro p hp
  unfold dstep at hp
  split at hp
  · rename_i e
    rcases List.mem_append.1 hp with hp | hp
    · exact h p hp
    · obtain rfl : p = ⟨o.a, o.w, false⟩ := by simpa using hp
      rcases ho with h1 | h1 | h1 | h1 <;> first | exact h1.2 | omega
  · split at hp
    · obtain ⟨p', hp', rfl⟩ := List.mem_map.1 hp
      exact h p' hp'
    · split at hp
      · exact h p ((List.mem_filter.1 hp).1)
      · exact h p hp
theorem dstep_len (s : DevS) (o : Op3) : (dstep s o).2.length ≤ s.2.length + 1 := by
  unfold dstep
  split
  · simp
  · split
    · simp
    · split
      · exact Nat.le_trans (List.length_filter_le _ _) (by omega)
      · omega
theorem RowAt.low {w w' : World} {B q : Nat} {L : List Op3} (h : RowAt w q L) (hq : q < B) (hb : Below B w w') : RowAt w' q L := by
  have H : ∀ j, w'.cell? ⟨q, j, none⟩ = w.cell? ⟨q, j, none⟩ := fun j => hb.cell (p := ⟨q, j, none⟩) hq
  exact ⟨Nat.lt_of_lt_of_le h.1 hb.size, fun k hk => by rw [H, H, H]; exact h.2 k hk⟩
theorem DevAt.alloc {w : World} {B d kB c n : Nat} {lv : Value} {K : Nat → Int} {L : List Pd} (h : DevAt w B d kB c lv n K L) (o : Obj) : DevAt (w.alloc o) B d kB c lv n K L := h.below ((Below.refl _ _).alloc (Nat.le_refl _) o)
theorem DevAt.drewN {w : World} {B d kB c n : Nat} {lv : Value} {K : Nat → Int} {L : List Pd} (h : DevAt w B d kB c lv n K L) (j : Nat) : DevAt (w.drewN j) B d kB c lv n K L := ⟨h.lo, h.mid, h.row, h.kept, h.own⟩
theorem undrewN {B j : Nat} {w w' : World} (h : Below B (w.drewN j) w') : Below B w w' := ⟨h.os, h.tape, h.output, h.size, h.block⟩
theorem DevAt.size {w : World} {B d kB c n : Nat} {lv : Value} {K : Nat → Int} {L : List Pd} (h : DevAt w B d kB c lv n K L) : B ≤ w.heap.size := by have := h.lo; have := h.mid; have := h.lt; omega
set_option maxHeartbeats 4000000 in
set_option maxRecDepth 100000 in
theorem done_any (B d kB c n : Nat) (lv : Value) (s : DevS) (q cq m : Nat) (L : List Op3) (w : World) (h : DevAt w B d kB c lv n s.1 s.2) (hq : q < B) (hr : RowAt w q L) (hm : m = L.length) (hL : s.2.length + L.length ≤ 100000) (hn : n ≤ 100000)
    (hi : InN n s.2) (ho : ∀ o ∈ L, StepOk n o) :
    Calls Try.prog 19 #[.pointer (some ⟨d, 0, none⟩), .slice (some ⟨q, 0, none⟩) m cq] w fun e w' => e = .returned (.bool true) ∧ (∃ lv', DevAt w' B d kB c lv' n (druns s L).1 (druns s L).2) ∧ Below B w w' := by
  have H := hid h
  have HR := hid hr
  have HM := hid hm
  have HI := hid hi
  have HO := hid ho
  have hmb : m ≤ 100000 := by omega
  have hml : s.2.length + m ≤ 100000 := by omega
  clear h hr hm hi ho hL
  go_enter Try.func19, Try.ntmps19
  go_wp2
  go_loopw [5, 6, 19, 32, 52, 56] (fun v _ _ _ _ _ wr => ∃ (k : Nat) (lv : Value), k ≤ m ∧ v = .int .i64 k ∧ DevAt wr B d kB c lv n (druns s (L.take k)).1 (druns s (L.take k)).2 ∧ Below B w wr ∧ InN n (druns s (L.take k)).2 ∧ (druns s (L.take k)).2.length ≤ s.2.length + k) (fun v _ _ _ _ _ _ => m - (intOf v).toNat)
  case atStart => exact ⟨0, lv, by omega, rfl, H.out, Below.refl _ _, HI.out, Nat.le_refl _⟩
  case round =>
    obtain ⟨k, lv, hk, rfl, hd, hb, hin, hle⟩ := hrel
    have HD := hid hd
    have HB := hid hb
    have HIN := hid hin
    have HLE := hid (show (druns s (L.take k)).2.length ≤ 100000 by omega)
    have HLK := hid hle
    clear hd hb hin hle
    by_cases hlt : k < m
    · have hkL : k < L.length := by rw [← HM.out]; exact hlt
      have hlt' : (k : Int) < (m : Int) := by omega
      have h0k : (0 : Int) ≤ (k : Int) := by omega
      have HRr := hid (HR.out.low hq HB.out)
      have hql := HRr.out.1
      obtain ⟨c0, c1, c2⟩ := HRr.out.2 k hkL
      have hok := HO.out L[k] (List.getElem_mem hkL)
      have HN := hid (druns_next (s := s) hkL)
      have HIN2 := hid (dstep_in HIN.out hok)
      have HLE2 := hid (dstep_len (druns s (L.take k)) L[k])
      generalize L[k] = o at c0 c1 c2 hok HN HIN2 HLE2
      generalize hS : druns s (L.take k) = S at HD HIN HLE HLK HN HIN2 HLE2
      have HSn := hid hS
      clear hS
      obtain ⟨ok, oa, ow⟩ := o
      dsimp only at c0 c1 c2
      have HDa := hid (HD.out.alloc (.cells #[.int .u8 ok, .int .i64 oa, .int .u64 ow] 53))
      have HBa := hid (HB.out.alloc HD.out.size (.cells #[.int .u8 ok, .int .i64 oa, .int .u64 ow] 53))
      have hnew := heap_alloc_last wr (.cells #[.int .u8 ok, .int .i64 oa, .int .u64 ow] 53)
      rcases hok with ⟨hok1, ha0, han⟩ | ⟨hok1, ha0, han⟩ | hok1 | hok1
      · obtain rfl : ok = 1 := hok1
        have HIS := hid (show (decide (0 ≤ oa) && decide (oa < (n : Int))) = true by rw [decide_eq_true ha0, decide_eq_true han]; rfl)
        clear ha0 han hnew
        go_wp2_with (first
          | (go_at_call 43; refine (is_any B d kB c n lv S.1 S.2 oa true _ HDa.out HIS.out).mono ?_; rintro e w2 ⟨rfl, rfl⟩)
          | (go_at_call 44; refine (dstore_any B d kB c n lv S.1 S.2 oa ow _ HDa.out HLE.out).mono ?_; rintro e w2 ⟨rfl, hdv, hb⟩; have HDV := hid hdv; have HB2 := hid (HBa.out.trans hb); clear hdv hb))
        go_roundw
        case rel =>
          obtain ⟨lv', hdv⟩ := HDV.out
          exact ⟨k + 1, lv', by omega, by go_num, by rw [HN.out]; exact hdv, HB2.out, by rw [HN.out]; exact HIN2.out, by rw [HN.out]; exact Nat.le_trans HLE2.out (by have := HLK.out; omega)⟩
        case measure => simp [intOf]; omega
      · obtain rfl : ok = 2 := hok1
        have han' : oa < (n : Int) / 8 := han
        have ha0' : 0 ≤ oa := ha0
        have e1 : ¬ oa < 0 := by omega
        have e2 : ¬ (n : Int) / 8 ≤ oa := by omega
        have e3 : decide (oa < 0) = false := decide_eq_false e1
        have e4 : decide ((n : Int) / 8 ≤ oa) = false := decide_eq_false e2
        have d0 := HDa.out.cells.1
        clear ha0 han hnew
        go_upto_region 12 with fail
        go_quiet (fail)
        go_wp2_with (go_at_call 45; refine (dflush_any B d kB c n lv S.1 S.2 oa _ (HDa.out.drewN _) HLE.out (fun p hp => by have := HIN.out p hp; omega)).mono ?_; rintro e w2 ⟨rfl, hdv, hb⟩; have HDV := hid hdv; have HB2 := hid (HBa.out.trans (undrewN hb)); clear hdv hb)
        go_roundw
        case rel =>
          exact ⟨k + 1, lv, by omega, by go_num, by rw [HN.out]; exact HDV.out, HB2.out, by rw [HN.out]; exact HIN2.out, by rw [HN.out]; exact Nat.le_trans HLE2.out (by have := HLK.out; omega)⟩
        case measure => simp [intOf]; omega
      · obtain rfl : ok = 3 := hok1
        clear hnew
        go_wp2_with (go_at_call 46; refine (dfence_any B d kB c n lv S.1 S.2 _ HDa.out HLE.out HIN.out).mono ?_; rintro e w2 ⟨rfl, hdv, hb⟩; have HDV := hid hdv; have HB2 := hid (HBa.out.trans hb); clear hdv hb)
        go_roundw
        case rel =>
          obtain ⟨lv', hdv⟩ := HDV.out
          exact ⟨k + 1, lv', by omega, by go_num, by rw [HN.out]; exact hdv, HB2.out, by rw [HN.out]; exact HIN2.out, by rw [HN.out]; exact Nat.le_trans HLE2.out (by have := HLK.out; omega)⟩
        case measure => simp [intOf]; omega
      · obtain rfl : ok = 4 := hok1
        clear hnew
        go_wp2
        go_roundw
        case rel =>
          exact ⟨k + 1, lv, by omega, by go_num, by rw [HN.out]; exact HDa.out, HBa.out, by rw [HN.out]; exact HIN2.out, by rw [HN.out]; exact Nat.le_trans HLE2.out (by have := HLK.out; omega)⟩
        case measure => simp [intOf]; omega
    · obtain rfl : m = k := by omega
      go_wp2
      go_ret
      have e : L.take m = L := by rw [HM.out, List.take_length]
      rw [e] at HD
      exact ⟨rfl, ⟨_, HD.out⟩, HB.out⟩
end Go.Proofs.Ytimfnimcmfjjpaa
