/- The document's answer: which blocks may be, and which words they are. -/
import Derived.Test.YtejapeafepcacaaDoorRefE
import Derived.Test.YtejapeafepcacaaDoorBlockC
import Derived.Deep.RegionHeld3
namespace Go.Proofs.YtejapeafepcacaaDoor
open Go.RowKit
set_option maxHeartbeats 400000 in
set_option maxRecDepth 100000 in
theorem rencode_zero (w : World) :
    Calls Tryd.prog 17 #[.agg #[.int .i64 0, .int .u8 0, .string ⟨#[]⟩]] w fun e w' => ∃ g, e = .returned (.slice (some ⟨g, 0, none⟩) 3 3) ∧ w.heap.size ≤ g ∧ w'.rowIs g 33 3 (fun _ => .int .u64 0) ∧ Below w.heap.size w w' := by
  have hmk := mk64 3 3 rfl (by omega)
  have rB := World.rowIs_made (w.alloc (.cells #[.int .i64 0, .int .u8 0, .string ⟨#[]⟩] 23)) (.int .u64 0) 3 33
  go_enter Tryd.func17, Tryd.ntmps17
  go_wp2_with fail
  go_ret
  exact ⟨w.heap.size + 1, rfl, by omega, by simpa using rB, ((Below.refl w.heap.size w).alloc (Nat.le_refl _) _).alloc (by simp) _⟩
theorem rencode_any (ino kind i : Int) (s : ByteArray) (w : World) (hi : i ≤ 64) (h : slotB ino kind s.data.toList i = true) :
    Calls Tryd.prog 17 #[.agg #[.int .i64 ino, .int .u8 kind, .string s]] w fun e w' => ∃ g, e = .returned (.slice (some ⟨g, 0, none⟩) 3 3) ∧ w.heap.size ≤ g ∧ w'.rowIs g 33 3 (fun j => .int .u64 (wordsF ino kind s.data.toList j : Nat)) ∧ Below w.heap.size w w' := by
  rcases slotB_cases h with ⟨rfl, rfl, hl⟩ | ⟨h1, h2, h3, h4, h5⟩
  · obtain rfl := empty_of s hl
    exact rencode_zero w
  · obtain ⟨h6, h7⟩ := namedB_len h5
    obtain ⟨n, rfl⟩ := Int.eq_ofNat_of_zero_le (show 0 ≤ ino by omega)
    obtain ⟨k, rfl⟩ := Int.eq_ofNat_of_zero_le (show 0 ≤ kind by omega)
    have hw : ∀ j, wordsF (n : Int) (k : Int) s.data.toList j = writeF n k s.data.toList j := fun j => by
      unfold wordsF
      rw [if_neg (by omega)]
      rfl
    simp only [hw]
    exact rencode_some n k s w (by omega) (by omega) (by omega) h6 h7
theorem dir_cell {C : Array Value} {next : Int} {ino kind : Nat → Int} {nm : Nat → ByteArray} (hC : DirIs C next ino kind nm) {w : World} {B : Nat} (hc : ∀ j, j < 31 → w.cell? ⟨B, j, none⟩ = C[j]?) (k : Nat) (hk : k < 10) :
    w.cell? ⟨B, 1 + k * 3, none⟩ = some (.int .i64 (ino k)) ∧ w.cell? ⟨B, 1 + k * 3 + 1, none⟩ = some (.int .u8 (kind k)) ∧ w.cell? ⟨B, 1 + k * 3 + 2, none⟩ = some (.string (nm k)) := by
  refine ⟨?_, ?_, ?_⟩
  · rw [hc _ (by omega), ← hC.ino k hk]; congr 1; omega
  · rw [hc _ (by omega), ← hC.kind k hk]; congr 1; omega
  · rw [hc _ (by omega), ← hC.nm k hk]; congr 1; omega
set_option maxHeartbeats 1000000 in
set_option maxRecDepth 100000 in
theorem rblock_own (C : Array Value) (next i : Int) (ino kind : Nat → Int) (nm : Nat → ByteArray) (w : World) (hC : DirIs C next ino kind nm) (h0 : 0 ≤ next) (h1 : next ≤ 255) (hi : i ≤ 64) (hs : ∀ k, k < 10 → slotB (ino k) (kind k) (nm k).data.toList i = true) :
    Calls Tryd.prog 21 #[.agg C] w fun e w' => ∃ v, e = .returned v ∧ w'.ownsRow (w.heap.size + 1) 33 1 v 32 (u64L (blockL next ino kind nm 10)) ∧ Below w.heap.size w w' := by
  obtain ⟨N, hN⟩ : ∃ N, N = headN next := ⟨_, rfl⟩
  have HH : Hid (∀ W : World, Calls Tryd.prog 19 #[.int .i64 next] W fun e w' => e = .returned (.int .u64 (N : Nat)) ∧ W = w') := by
    subst hN
    exact hid fun W => rhead_any next h0 h1 W
  have HN := hid hN
  have HcC := hid fun (j : Nat) (_ : j < 31) => cell_of_row (w.alloc (.cells C 41)) w.heap.size j C 41 (0, 0) (heap_alloc_last w _)
  have hn0 := hC.next
  rw [← HcC.out 0 (by omega)] at hn0
  have HC := hid hC
  have HS := hid hs
  have HB0 := hid ((Below.refl w.heap.size w).alloc (Nat.le_refl _) (.cells C 41))
  obtain ⟨i0, hi0, hz0, hz1, hz2⟩ := info_parts u64_info
  have HI0 := hid hi0
  have HZ := hid (And.intro hz0 (And.intro hz1 hz2))
  clear hi0 hz0 hz1 hz2 hC hs hN
  go_enter Tryd.func21, Tryd.ntmps21
  go_wp2_with (go_at_call 19; refine (HH.out _).mono ?_; rintro e w1 ⟨rfl, rfl⟩)
  clear hn0
  go_loopw [3, 4] (fun v x wr => ∃ k : Nat, k ≤ 10 ∧ x = .int .i64 k ∧ wr.ownsRow (w.heap.size + 1) 33 1 v (2 + 3 * k) (u64L (blockL next ino kind nm k)) ∧ (∀ j, j < 31 → wr.cell? ⟨w.heap.size, j, none⟩ = C[j]?) ∧ w.heap.size < wr.heap.size ∧ Below w.heap.size w wr) (fun _ x _ => 10 - (intOf x).toNat)
  case atStart =>
    refine ⟨0, by omega, rfl, ⟨rfl, .inr ⟨w.heap.size + 1, 2, #[.int .u64 (N : Nat), .int .u64 0], rfl, Nat.le_refl _, ?_, by omega, by unfold maxLen; omega, rfl, ?_⟩⟩, fun j hj => ?_, by simp; omega, HB0.out.alloc (by simp) _⟩
    · have := heap_alloc_last (w.alloc (.cells C 41)) (.cells #[.int .u64 (N : Nat), .int .u64 0] 33)
      rw [show (w.alloc (.cells C 41)).heap.size = w.heap.size + 1 by simp] at this
      exact this
    · rw [HN.out]; rfl
    · rw [World.cell?_alloc_lt _ _ _ (by simp)]; exact HcC.out j hj
  case round =>
    obtain ⟨k, hk, rfl, hown, hcC, hlt0, hB⟩ := hrel
    have Hown := hid hown
    have HcR := hid hcC
    have HB := hid hB
    clear hown hcC hB
    by_cases hlt : k < 10
    · obtain ⟨q0, q1, q2⟩ := dir_cell HC.out HcR.out k hlt
      have He := hid fun W => rencode_any (ino k) (kind k) i (nm k) W hi (HS.out k hlt)
      have hk' : (k : Int) < 10 := by omega
      go_wp2_with fail
      refine (He.out _).mono ?_
      rintro e w2 ⟨g, rfl, hgg, hrow, hb2⟩
      have Hb2 := hid (HB.out.trans (hb2.mono HB.out.size))
      have Hown2 := hid (owns_above hb2 Hown.out)
      have HcR2 := hid fun (j : Nat) (hj : j < 31) => (hb2.cell (p := ⟨w.heap.size, j, none⟩) hlt0).trans (HcR.out j hj)
      have Hrow := hid hrow
      have hsz := hb2.size
      clear hb2 hrow hgg q0 q1 q2
      go_wp2_with (at_builtin; refine wpList_append_own _ rfl (.tmp 13) (.tmp 18) 28 rfl (w.heap.size + 1) 33 i0 (.int .u64 0) 1 8 Tryd.underlying28 HI0.out HZ.out.1 HZ.out.2.1 HZ.out.2.2 rfl (by decide) u3 (2 + 3 * k) (u64L (blockL next ino kind nm k)) rfl Hown2.out ⟨g, 0, none⟩ 3 3 (u64L [wordsF (ino k) (kind k) (nm k).data.toList 0, wordsF (ino k) (kind k) (nm k).data.toList 1, wordsF (ino k) (kind k) (nm k).data.toList 2]) rfl rfl ?c1 ?c2 ?c3 ?c4 ?c5 ?_)
      case c1 =>
        intro j u hj
        match j, hj with
        | 0, hj => simp [u64L] at hj; subst hj; exact Hrow.out.cell (by omega)
        | 1, hj => simp [u64L] at hj; subst hj; exact Hrow.out.cell (i := 1) (by omega)
        | 2, hj => simp [u64L] at hj; subst hj; exact Hrow.out.cell (i := 2) (by omega)
      case c2 => intro u hu; simp [u64L] at hu; rcases hu with rfl | rfl | rfl <;> rfl
      case c3 => unfold maxLen; omega
      case c4 => omega
      case c5 => omega
      intro v' w3 hown' hgrow _
      have hnb : ∀ q, u3.ownBlock = some q → w.heap.size + 1 ≤ q := fun q hq => (Hown2.out.lt q hq).1
      have Hb3 := hid (Hb2.out.grown hgrow (by omega) (fun q hq => by have := hnb q hq; omega))
      have HcR3 := hid fun (j : Nat) (hj : j < 31) => (World.cell?_of_block (a := ⟨w.heap.size, j, none⟩) (hgrow.block w.heap.size (by omega) (fun e => by have := hnb _ e.symm; omega))).trans (HcR2.out j hj)
      have hs3 := hgrow.size
      have Hown3 := hid hown'
      clear hown' hgrow hnb
      go_wp2
      go_roundw
      case rel =>
        refine ⟨k + 1, by omega, by go_num, ?_, HcR3.out, by omega, Hb3.out⟩
        have := Hown3.out
        rw [show 2 + 3 * (k + 1) = 2 + 3 * k + 3 by omega, blockL]
        simpa [u64L] using this
      case measure => simp [intOf]; omega
    · have h10 : k = 10 := by omega
      subst h10
      go_wp2
      go_ret
      exact ⟨_, rfl, Hown.out, HB.out⟩
theorem rblock_any (C : Array Value) (next p i b : Int) (ino kind : Nat → Int) (nm : Nat → ByteArray) (w : World) (hC : DirIs C next ino kind nm) (h : blockB next ino kind nm p i b = true) :
    Calls Tryd.prog 21 #[.agg C] w fun e w' => ∃ g cap, e = .returned (.slice (some ⟨g, 0, none⟩) 32 cap) ∧ g < w'.heap.size ∧ (∀ j, j < 32 → w'.cell? ⟨g, j, none⟩ = some (.int .u64 (blockF next ino kind nm j : Nat))) ∧ Below w.heap.size w w' := by
  have h' : ((gok p i b && decide (0 ≤ next)) && decide (next ≤ b)) = true ∧ ((List.range 10).all fun k => slotB (ino k) (kind k) (nm k).data.toList i) = true := by
    unfold blockB at h
    exact Bool.and_eq_true_iff.1 h
  have h1 : gok p i b = true ∧ 0 ≤ next ∧ next ≤ b := by have := h'.1; simpa [and_assoc] using this
  have hgk := gok_iff.1 h1.1
  refine (rblock_own C next i ino kind nm w hC h1.2.1 (by omega) (by omega) (all_slots.1 h'.2)).mono ?_
  rintro e w' ⟨v, rfl, ho, hb⟩
  rcases ho.2 with ⟨-, hz⟩ | ⟨g, cap, cur, rfl, hg, hh, hc, hm, hsz, ht⟩
  · omega
  · refine ⟨g, cap, rfl, (Array.getElem?_eq_some_iff.1 hh).1, fun j hj => ?_, hb⟩
    have e1 : (cur.toList.take (32 * 1))[j]? = (u64L (blockL next ino kind nm 10))[j]? := by rw [ht]
    have hl : (blockL next ino kind nm 10).length = 32 := blockL_len next ino kind nm 10
    rw [List.getElem?_take, if_pos (by omega), Array.getElem?_toList, u64L, List.getElem?_map, List.getElem?_eq_getElem (by omega)] at e1
    rw [cell_of_row w' g j cur 33 (0, 0) hh, e1]
    unfold blockF
    rw [List.getD_eq_getElem?_getD, List.getElem?_eq_getElem (by omega)]
    rfl
set_option maxHeartbeats 2000000 in
set_option maxRecDepth 100000 in
theorem rmayblock_any (C : Array Value) (next p i b : Int) (ino kind : Nat → Int) (nm : Nat → ByteArray) (w : World) (hC : DirIs C next ino kind nm) (hn : ∀ k, k < 10 → (nm k).size ≤ 200) :
    Calls Tryd.prog 20 #[.agg C, .agg #[.int .i64 p, .int .i64 i, .int .i64 b]] w fun e w' => e = .returned (.bool (blockB next ino kind nm p i b)) ∧ Below w.heap.size w w' := by
  have HcC := hid fun (j : Nat) (hj : j < 31) => (World.cell?_alloc_lt (w.alloc (.cells C 41)) (.cells #[.int .i64 p, .int .i64 i, .int .i64 b] 25) ⟨w.heap.size, j, none⟩ (by simp)).trans (cell_of_row (w.alloc (.cells C 41)) w.heap.size j C 41 (0, 0) (heap_alloc_last w _))
  have rG := row3 (w.alloc (.cells C 41)) 25 (.int .i64 p) (.int .i64 i) (.int .i64 b) (fun j => if j = 0 then .int .i64 p else if j = 1 then .int .i64 i else .int .i64 b) rfl rfl rfl
  rw [show (w.alloc (.cells C 41)).heap.size = w.heap.size + 1 by simp] at rG
  have HrG := hid rG
  have HC := hid hC
  have HB0 := hid (((Below.refl w.heap.size w).alloc (Nat.le_refl _) (.cells C 41)).alloc (by simp) (.cells #[.int .i64 p, .int .i64 i, .int .i64 b] 25))
  have Hn := hid hn
  clear hC rG hn
  go_enter Tryd.func20, Tryd.ntmps20
  go_wp2_with fail
  refine (rgeom_any p i b _).mono ?_
  rintro e w1 ⟨rfl, hb⟩
  have hs0 := HB0.out.size
  have HB1 := hid (HB0.out.trans (hb.mono HB0.out.size))
  have HcC1 := hid fun (j : Nat) (hj : j < 31) => (hb.cell (p := ⟨w.heap.size, j, none⟩) (by simp; omega)).trans (HcC.out j hj)
  have HrG1 := hid (above_row hb HrG.out)
  have h0 := HC.out.next
  rw [← HcC1.out 0 (by omega)] at h0
  obtain ⟨g0, g1, g2, -, -, -⟩ := three _ _ _ _ HrG1.out
  simp at g0 g1 g2
  have hw1 : w.heap.size + 1 < w1.heap.size := by have := hb.size; simp at this; omega
  clear hb HcC HrG HB0 hs0
  cases hg : gok p i b
  · have hv : blockB next ino kind nm p i b = false := by unfold blockB; rw [hg]; rfl
    have Hv := hid hv
    clear hv
    go_wp2
    go_ret
    exact ⟨by rw [Hv.out]; rfl, HB1.out⟩
  · by_cases hr : 0 ≤ next ∧ next ≤ b
    · obtain ⟨hr1, hr2⟩ := hr
      have hr1' : ¬ next < 0 := by omega
      have hr2' : ¬ b < next := by omega
      have HV : Hid (blockB next ino kind nm p i b = (List.range 10).all fun k => slotB (ino k) (kind k) (nm k).data.toList i) := by unfold blockB; rw [hg, decide_eq_true hr1, decide_eq_true hr2]; exact hid (by simp)
      go_wp2
      clear h0 g0 g1 g2
      go_loopw [5] (fun x wr => ∃ k : Nat, k ≤ 10 ∧ x = .int .i64 k ∧ (∀ j, j < k → slotB (ino j) (kind j) (nm j).data.toList i = true) ∧ (∀ j, j < 31 → wr.cell? ⟨w.heap.size, j, none⟩ = C[j]?) ∧
        wr.rowIs (w.heap.size + 1) 25 3 (fun j => if j = 0 then .int .i64 p else if j = 1 then .int .i64 i else .int .i64 b) ∧ Below w.heap.size w wr) (fun x _ => 10 - (intOf x).toNat)
      case atStart => exact ⟨0, by omega, rfl, fun j hj => by omega, HcC1.out, HrG1.out, HB1.out⟩
      case round =>
        obtain ⟨k, hk, rfl, hS, hcC, hrG, hB⟩ := hrel
        have HS := hid hS
        have HcR := hid hcC
        have HrR := hid hrG
        have HB := hid hB
        have hlt1 := hrG.lt
        obtain ⟨g0, g1, g2, -, -, -⟩ := three _ _ _ _ hrG
        simp at g0 g1 g2
        clear hS hcC hrG hB
        by_cases hlt : k < 10
        · obtain ⟨q0, q1, q2⟩ := dir_cell HC.out HcR.out k hlt
          have hk' : (k : Int) < 10 := by omega
          have Hm := hid fun W => rmay_any (ino k) (kind k) p i b (nm k) (Nat.le_trans (Hn.out k hlt) (by omega)) W
          have Hmb : Hid (mayB (ino k) (kind k) (nm k).data.toList p i b = slotB (ino k) (kind k) (nm k).data.toList i) := by unfold mayB; rw [hg]; exact hid (by simp)
          have hlt0 : w.heap.size < wr.heap.size := by omega
          generalize hmv : mayB (ino k) (kind k) (nm k).data.toList p i b = mv at Hm Hmb
          go_wp2_with fail
          go_cut [31] (fun v31 wx => v31 = .bool (!mv) ∧ Below wr.heap.size wr wx)
          case first =>
            go_region_held3 (fun w' => w'.cell? ⟨w.heap.size, 1 + k * 3, none⟩ = some (.int .i64 (ino k)) ∧ w'.cell? ⟨w.heap.size, 1 + k * 3 + 1, none⟩ = some (.int .u8 (kind k)) ∧ w'.cell? ⟨w.heap.size, 1 + k * 3 + 2, none⟩ = some (.string (nm k)) ∧
                w'.cell? ⟨w.heap.size + 1, 0, none⟩ = some (.int .i64 p) ∧ w'.cell? ⟨w.heap.size + 1, 1, none⟩ = some (.int .i64 i) ∧ w'.cell? ⟨w.heap.size + 1, 2, none⟩ = some (.int .i64 b))
              (first | (go_keep; done) | (refine ⟨?_, ?_, ?_, ?_, ?_, ?_⟩ <;> (go_keep; done)) | exact ⟨(hby.cell (p := ⟨w.heap.size, 1 + k * 3, none⟩) hlt0).trans q0, (hby.cell (p := ⟨w.heap.size, 1 + k * 3 + 1, none⟩) hlt0).trans q1, (hby.cell (p := ⟨w.heap.size, 1 + k * 3 + 2, none⟩) hlt0).trans q2, (hby.cell (p := ⟨w.heap.size + 1, 0, none⟩) hlt1).trans g0, (hby.cell (p := ⟨w.heap.size + 1, 1, none⟩) hlt1).trans g1, (hby.cell (p := ⟨w.heap.size + 1, 2, none⟩) hlt1).trans g2⟩)
              (first | (go_at_call 14; refine (Hm.out _).mono ?_; rintro e w3 ⟨rfl, hbx⟩; have hby := (Below.refl wr.heap.size wr).drew.trans hbx))
            go_wp2_with fail
            go_meet
            exact ⟨rfl, hby⟩
          case rest =>
            obtain ⟨rfl, hby⟩ := hcut
            have Hby := hid hby
            clear hby q0 q1 q2 g0 g1 g2
            cases mv
            · have hv : ((List.range 10).all fun k => slotB (ino k) (kind k) (nm k).data.toList i) = false := by
                rw [Bool.eq_false_iff]
                intro hall
                rw [all_slots.1 hall k hlt] at Hmb
                cases Hmb.out
              have Hv := hid hv
              clear hv
              go_wp2
              go_ret
              exact ⟨by rw [HV.out, Hv.out]; rfl, HB.out.trans (Hby.out.mono HB.out.size)⟩
            · go_wp2
              go_roundw
              case rel =>
                refine ⟨k + 1, by omega, by go_num, fun j hj => ?_, fun j hj => (Hby.out.cell (p := ⟨w.heap.size, j, none⟩) hlt0).trans (HcR.out j hj), above_row Hby.out HrR.out, HB.out.trans (Hby.out.mono HB.out.size)⟩
                by_cases hjk : j = k
                · subst hjk; exact Hmb.out.symm
                · exact HS.out j (by omega)
              case measure => simp [intOf]; omega
        · have h10 : k = 10 := by omega
          subst h10
          have Hv := hid (all_slots.2 HS.out)
          go_wp2
          go_ret
          exact ⟨by rw [HV.out, Hv.out]; rfl, HB.out⟩
    · have hv : blockB next ino kind nm p i b = false := by
        unfold blockB
        have : (decide (0 ≤ next) && decide (next ≤ b)) = false := by rw [← Bool.decide_and]; exact decide_eq_false hr
        rw [Bool.and_assoc (gok p i b), this]; simp
      have Hv := hid hv
      clear hv
      by_cases hr1 : next < 0
      · go_wp2
        go_ret
        exact ⟨by rw [Hv.out]; rfl, HB1.out⟩
      · have hr2 : b < next := by omega
        go_wp2
        go_ret
        exact ⟨by rw [Hv.out]; rfl, HB1.out⟩
end Go.Proofs.YtejapeafepcacaaDoor
