/- EntryWrites: the walk. -/
import Derived.Test.YtejapeafepcacaaDoorReadsA
import Derived.Test.YtejapeafepcacaaDoorBackB
namespace Go.Proofs.YtejapeafepcacaaDoor
open Go.RowKit
attribute [local irreducible] dirOf
theorem headB_parts {n p i b : Int} (h : (gok p i b && decide (0 ≤ n) && decide (n ≤ b)) = true) : gok p i b = true ∧ 0 ≤ n ∧ n ≤ b := by simpa [and_assoc] using h
theorem headB_not {n p i b : Int} (h : (gok p i b && decide (0 ≤ n) && decide (n ≤ b)) = false) : gok p i b = false ∨ (gok p i b = true ∧ n < 0) ∨ (gok p i b = true ∧ 0 ≤ n ∧ b < n) := by
  cases hg : gok p i b
  · exact .inl rfl
  · rw [hg, Bool.true_and, ← Bool.decide_and] at h
    have := of_decide_eq_false h
    by_cases h0 : n < 0
    · exact .inr (.inl ⟨rfl, h0⟩)
    · exact .inr (.inr ⟨rfl, by omega, by omega⟩)
theorem mayB_parts {a c p i b : Int} {l : List UInt8} (h : mayB a c l p i b = true) : gok p i b = true ∧ slotB a c l i = true := by simpa [mayB] using h
theorem head_yes' (n p i b : Int) (N : Nat) (hN : N = headN n) (w : World) (h : (gok p i b && decide (0 ≤ n) && decide (n ≤ b)) = true) :
    Calls Tryd.prog 13 #[.int .i64 n, .agg #[.int .i64 p, .int .i64 i, .int .i64 b]] w fun e w' => e = .returned (.tuple #[.int .u64 (N : Nat), .int .i64 0]) ∧ Below w.heap.size w w' := by
  subst hN
  exact head_yes n p i b w h
theorem rhead' (n p i b : Int) (N : Nat) (hN : N = headN n) (w : World) (h : (gok p i b && decide (0 ≤ n) && decide (n ≤ b)) = true) :
    Calls Tryd.prog 19 #[.int .i64 n] w fun e w' => e = .returned (.int .u64 (N : Nat)) ∧ w = w' := by
  have h' : gok p i b = true ∧ 0 ≤ n ∧ n ≤ b := by simpa [and_assoc] using h
  have := (gok_iff.1 h'.1).2.2.2.2.2
  subst hN
  exact rhead_any n h'.2.1 (by omega) w

set_option maxHeartbeats 1000000 in
set_option maxRecDepth 100000 in
theorem writes_name (a c : Int) (s : ByteArray) (F : Nat → Value) (next : Int) (ino kind : Nat → Int) (nm : Nat → ByteArray) (nx p i b : Int) (w : World) (hg : ErrType w) (hF : CellsIs F next ino kind nm) (hl : 200 < s.size) :
    Calls Tryd.prog 4 #[.agg #[.int .i64 a, .int .u8 c, .string s], .agg (dirOf F), .int .i64 nx, .agg #[.int .i64 p, .int .i64 i, .int .i64 b]] w fun e w' => e = .returned (.bool true) ∧ Below w.heap.size w w' := by
  have HF := hid hF
  have e1 : (w.alloc (.cells #[.int .i64 a, .int .u8 c, .string s] 23)).heap.size = w.heap.size + 1 := by simp
  have e2 : ((w.alloc (.cells #[.int .i64 a, .int .u8 c, .string s] 23)).alloc (.cells (dirOf F) 41)).heap.size = w.heap.size + 1 + 1 := by simp
  have rC := (row_dirOf (w.alloc (.cells #[.int .i64 a, .int .u8 c, .string s] 23)) F).alloc (.cells #[.int .i64 p, .int .i64 i, .int .i64 b] 25)
  have rG := (row3 ((w.alloc (.cells #[.int .i64 a, .int .u8 c, .string s] 23)).alloc (.cells (dirOf F) 41)) 25 (.int .i64 p) (.int .i64 i) (.int .i64 b) (fun j => if j = 0 then .int .i64 p else if j = 1 then .int .i64 i else .int .i64 b) rfl rfl rfl)
  rw [e1] at rC
  rw [e2] at rG
  have HrC := hid rC
  have HrX := hid (((row3 w 23 (.int .i64 a) (.int .u8 c) (.string s) (fun j => if j = 0 then .int .i64 a else if j = 1 then .int .u8 c else .string s) rfl rfl rfl).alloc (.cells (dirOf F) 41)).alloc (.cells #[.int .i64 p, .int .i64 i, .int .i64 b] 25))
  have HrG := hid rG
  have HE := hid (errType_alloc (errType_alloc (errType_alloc hg (.cells #[.int .i64 a, .int .u8 c, .string s] 23)) (.cells (dirOf F) 41)) (.cells #[.int .i64 p, .int .i64 i, .int .i64 b] 25))
  have HB := hid (Below.alloc (Below.alloc (Below.alloc (Below.refl w.heap.size w) (Nat.le_refl _) (.cells #[.int .i64 a, .int .u8 c, .string s] 23)) (by simp) (.cells (dirOf F) 41)) (by simp; omega) (.cells #[.int .i64 p, .int .i64 i, .int .i64 b] 25))
  clear hg hF rC rG e1 e2
  go_enter Tryd.func4, Tryd.ntmps4
  have hs : (200 : Int) < (s.size : Int) := by omega
  go_wp2_with fail
  refine (alive_any _ HE.out).mono ?_
  rintro e wz ⟨rfl, hb⟩
  have HB := hid (HB.out.trans (hb.mono HB.out.size))
  clear hb
  go_wp2
  go_ret
  exact ⟨rfl, HB.out⟩

set_option maxHeartbeats 1000000 in
set_option maxRecDepth 100000 in
theorem writes_long (a c : Int) (s : ByteArray) (F : Nat → Value) (next : Int) (ino kind : Nat → Int) (nm : Nat → ByteArray) (nx p i b : Int) (w : World) (hg : ErrType w) (hF : CellsIs F next ino kind nm) (hs0 : s.size ≤ 200) (hl : ∃ k, k < 10 ∧ 200 < (nm k).size) :
    Calls Tryd.prog 4 #[.agg #[.int .i64 a, .int .u8 c, .string s], .agg (dirOf F), .int .i64 nx, .agg #[.int .i64 p, .int .i64 i, .int .i64 b]] w fun e w' => e = .returned (.bool true) ∧ Below w.heap.size w w' := by
  have HF := hid hF
  have e1 : (w.alloc (.cells #[.int .i64 a, .int .u8 c, .string s] 23)).heap.size = w.heap.size + 1 := by simp
  have e2 : ((w.alloc (.cells #[.int .i64 a, .int .u8 c, .string s] 23)).alloc (.cells (dirOf F) 41)).heap.size = w.heap.size + 1 + 1 := by simp
  have rC := (row_dirOf (w.alloc (.cells #[.int .i64 a, .int .u8 c, .string s] 23)) F).alloc (.cells #[.int .i64 p, .int .i64 i, .int .i64 b] 25)
  have rG := (row3 ((w.alloc (.cells #[.int .i64 a, .int .u8 c, .string s] 23)).alloc (.cells (dirOf F) 41)) 25 (.int .i64 p) (.int .i64 i) (.int .i64 b) (fun j => if j = 0 then .int .i64 p else if j = 1 then .int .i64 i else .int .i64 b) rfl rfl rfl)
  rw [e1] at rC
  rw [e2] at rG
  have HrC := hid rC
  have HrX := hid (((row3 w 23 (.int .i64 a) (.int .u8 c) (.string s) (fun j => if j = 0 then .int .i64 a else if j = 1 then .int .u8 c else .string s) rfl rfl rfl).alloc (.cells (dirOf F) 41)).alloc (.cells #[.int .i64 p, .int .i64 i, .int .i64 b] 25))
  have HrG := hid rG
  have HE := hid (errType_alloc (errType_alloc (errType_alloc hg (.cells #[.int .i64 a, .int .u8 c, .string s] 23)) (.cells (dirOf F) 41)) (.cells #[.int .i64 p, .int .i64 i, .int .i64 b] 25))
  have HB := hid (Below.alloc (Below.alloc (Below.alloc (Below.refl w.heap.size w) (Nat.le_refl _) (.cells #[.int .i64 a, .int .u8 c, .string s] 23)) (by simp) (.cells (dirOf F) 41)) (by simp; omega) (.cells #[.int .i64 p, .int .i64 i, .int .i64 b] 25))
  clear hg hF rC rG e1 e2
  go_enter Tryd.func4, Tryd.ntmps4
  have hs : (s.size : Int) ≤ 200 := by omega
  have hd : decide ((200 : Int) < (s.size : Int)) = false := by simp; omega
  go_wp2_with (refine wpList_load41g 21 rfl (by rfl) (.tmp 5) rfl (w.heap.size + 1) rfl F HrC.out ?_)
  refine (long_any (dirOf F) next ino kind nm _ HF.out.dir).mono ?_
  rintro e w1 ⟨he, hb⟩
  have HrG := hid (above_row hb HrG.out)
  have HrX := hid (above_row hb HrX.out)
  have HrC := hid (above_row hb HrC.out)
  have HE := hid (errType_above HE.out hb)
  have HB := hid (HB.out.trans (hb.mono HB.out.size))
  clear hb
  rcases he with ⟨rfl, -⟩ | ⟨-, hn⟩
  · clear hl
    go_wp2_with fail
    refine (alive_any _ HE.out).mono ?_
    rintro e wz ⟨rfl, hb⟩
    have HB := hid (HB.out.trans (hb.mono HB.out.size))
    clear hb
    go_wp2
    go_ret
    exact ⟨rfl, HB.out⟩
  · obtain ⟨k, hk, h⟩ := hl
    exact absurd (hn k hk) (by omega)

set_option maxHeartbeats 16000000 in
set_option maxRecDepth 100000 in
theorem writes_main (a c : Int) (s : ByteArray) (F : Nat → Value) (next : Int) (ino kind : Nat → Int) (nm : Nat → ByteArray) (nx p i b : Int) (w : World) (hg : ErrType w) (hF : CellsIs F next ino kind nm) (hs0 : s.size ≤ 200) (hl : ∀ k, k < 10 → (nm k).size ≤ 200) :
    Calls Tryd.prog 4 #[.agg #[.int .i64 a, .int .u8 c, .string s], .agg (dirOf F), .int .i64 nx, .agg #[.int .i64 p, .int .i64 i, .int .i64 b]] w fun e w' => e = .returned (.bool true) ∧ Below w.heap.size w w' := by
  have Hn := hid hl
  obtain ⟨N, hN⟩ : ∃ N, N = headN nx := ⟨_, rfl⟩
  have HN := hid hN
  clear hN
  have HF := hid hF
  have e1 : (w.alloc (.cells #[.int .i64 a, .int .u8 c, .string s] 23)).heap.size = w.heap.size + 1 := by simp
  have e2 : ((w.alloc (.cells #[.int .i64 a, .int .u8 c, .string s] 23)).alloc (.cells (dirOf F) 41)).heap.size = w.heap.size + 1 + 1 := by simp
  have rC := (row_dirOf (w.alloc (.cells #[.int .i64 a, .int .u8 c, .string s] 23)) F).alloc (.cells #[.int .i64 p, .int .i64 i, .int .i64 b] 25)
  have rG := (row3 ((w.alloc (.cells #[.int .i64 a, .int .u8 c, .string s] 23)).alloc (.cells (dirOf F) 41)) 25 (.int .i64 p) (.int .i64 i) (.int .i64 b) (fun j => if j = 0 then .int .i64 p else if j = 1 then .int .i64 i else .int .i64 b) rfl rfl rfl)
  rw [e1] at rC
  rw [e2] at rG
  have HrC := hid rC
  have HrX := hid (((row3 w 23 (.int .i64 a) (.int .u8 c) (.string s) (fun j => if j = 0 then .int .i64 a else if j = 1 then .int .u8 c else .string s) rfl rfl rfl).alloc (.cells (dirOf F) 41)).alloc (.cells #[.int .i64 p, .int .i64 i, .int .i64 b] 25))
  have HrG := hid rG
  have HE := hid (errType_alloc (errType_alloc (errType_alloc hg (.cells #[.int .i64 a, .int .u8 c, .string s] 23)) (.cells (dirOf F) 41)) (.cells #[.int .i64 p, .int .i64 i, .int .i64 b] 25))
  have HB := hid (Below.alloc (Below.alloc (Below.alloc (Below.refl w.heap.size w) (Nat.le_refl _) (.cells #[.int .i64 a, .int .u8 c, .string s] 23)) (by simp) (.cells (dirOf F) 41)) (by simp; omega) (.cells #[.int .i64 p, .int .i64 i, .int .i64 b] 25))
  clear hg hF rC rG e1 e2
  go_enter Tryd.func4, Tryd.ntmps4
  have hs : (s.size : Int) ≤ 200 := by omega
  have hd : decide ((200 : Int) < (s.size : Int)) = false := by simp; omega
  go_wp2_with (refine wpList_load41g 21 rfl (by rfl) (.tmp 5) rfl (w.heap.size + 1) rfl F HrC.out ?_)
  refine (long_any (dirOf F) next ino kind nm _ HF.out.dir).mono ?_
  rintro e w1 ⟨he, hb⟩
  have HrG := hid (above_row hb HrG.out)
  have HrX := hid (above_row hb HrX.out)
  have HrC := hid (above_row hb HrC.out)
  have HE := hid (errType_above HE.out hb)
  have HB := hid (HB.out.trans (hb.mono HB.out.size))
  clear hb
  rcases he with ⟨rfl, k, hk, h⟩ | ⟨rfl, -⟩
  · exact absurd (hl k hk) (by omega)
  clear hl
  obtain ⟨x0', x1', x2', -, -, -⟩ := three _ _ _ _ HrX.out
  obtain ⟨g0', g1', g2', -, -, -⟩ := three _ _ _ _ HrG.out
  simp at x0' x1' x2' g0' g1' g2'
  go_wp2_with fail
  cases hmy : mayB a c s.data.toList p i b
  · refine (encode_no a c p i b s _ hmy).mono ?_
    rintro e wz ⟨rfl, hb⟩
    clear x0' x1' x2' g0' g1' g2'
    have HrG := hid (above_row hb HrG.out)
    have HrX := hid (above_row hb HrX.out)
    have HrC := hid (above_row hb HrC.out)
    have HE := hid (errType_above HE.out hb)
    have HB := hid (HB.out.trans (hb.mono HB.out.size))
    clear hb
    obtain ⟨x0', x1', x2', -, -, -⟩ := three _ _ _ _ HrX.out
    obtain ⟨g0', g1', g2', -, -, -⟩ := three _ _ _ _ HrG.out
    simp at x0' x1' x2' g0' g1' g2'
    go_wp2_with (refine wpList_load41 rfl 32 rfl (.tmp 5) rfl (w.heap.size + 1) rfl F HrC.out ?_)
    cases hbb : blockB next ino kind nm p i b
    · refine (block_no (dirOf F) next p i b ino kind nm _ HF.out.dir hbb).mono ?_
      rintro e wz ⟨rfl, hb⟩
      have Hbb := hid hbb
      clear x0' x1' x2' g0' g1' g2'
      have HrG := hid (above_row hb HrG.out)
      have HrX := hid (above_row hb HrX.out)
      have HrC := hid (above_row hb HrC.out)
      have HE := hid (errType_above HE.out hb)
      have HB := hid (HB.out.trans (hb.mono HB.out.size))
      clear hb
      obtain ⟨x0', x1', x2', -, -, -⟩ := three _ _ _ _ HrX.out
      obtain ⟨g0', g1', g2', -, -, -⟩ := three _ _ _ _ HrG.out
      simp at x0' x1' x2' g0' g1' g2'
      clear hbb
      go_wp2_with fail
      cases hhd : (gok p i b && decide (0 ≤ nx) && decide (nx ≤ b))
      · have HH13 := hid fun W => head_no nx p i b W hhd
        have Hhd := hid hhd
        clear hhd
        refine (HH13.out _).mono ?_
        rintro e wz ⟨rfl, hb⟩
        clear x0' x1' x2' g0' g1' g2'
        have HrG := hid (above_row hb HrG.out)
        have HrX := hid (above_row hb HrX.out)
        have HrC := hid (above_row hb HrC.out)
        have HE := hid (errType_above HE.out hb)
        have HB := hid (HB.out.trans (hb.mono HB.out.size))
        clear hb
        obtain ⟨x0', x1', x2', -, -, -⟩ := three _ _ _ _ HrX.out
        obtain ⟨g0', g1', g2', -, -, -⟩ := three _ _ _ _ HrG.out
        simp at x0' x1' x2' g0' g1' g2'
        go_wp2_with fail
        refine (rmay_any a c p i b s (by omega) _).mono ?_
        rintro e wz ⟨rfl, hb⟩
        clear x0' x1' x2' g0' g1' g2'
        have HrG := hid (above_row hb HrG.out)
        have HrX := hid (above_row hb HrX.out)
        have HrC := hid (above_row hb HrC.out)
        have HE := hid (errType_above HE.out hb)
        have HB := hid (HB.out.trans (hb.mono HB.out.size))
        clear hb
        obtain ⟨x0', x1', x2', -, -, -⟩ := three _ _ _ _ HrX.out
        obtain ⟨g0', g1', g2', -, -, -⟩ := three _ _ _ _ HrG.out
        simp at x0' x1' x2' g0' g1' g2'
        rw [hmy]
        go_wp2_with fail
        refine (may_any a c p i b s _).mono ?_
        rintro e wz ⟨rfl, hb⟩
        clear x0' x1' x2' g0' g1' g2'
        have HrG := hid (above_row hb HrG.out)
        have HrX := hid (above_row hb HrX.out)
        have HrC := hid (above_row hb HrC.out)
        have HE := hid (errType_above HE.out hb)
        have HB := hid (HB.out.trans (hb.mono HB.out.size))
        clear hb
        obtain ⟨x0', x1', x2', -, -, -⟩ := three _ _ _ _ HrX.out
        obtain ⟨g0', g1', g2', -, -, -⟩ := three _ _ _ _ HrG.out
        simp at x0' x1' x2' g0' g1' g2'
        rw [hmy]
        go_wp2_with fail
        refine (rgeom_any p i b _).mono ?_
        rintro e wz ⟨rfl, hb⟩
        clear x0' x1' x2' g0' g1' g2'
        have HrG := hid (above_row hb HrG.out)
        have HrX := hid (above_row hb HrX.out)
        have HrC := hid (above_row hb HrC.out)
        have HE := hid (errType_above HE.out hb)
        have HB := hid (HB.out.trans (hb.mono HB.out.size))
        clear hb
        obtain ⟨x0', x1', x2', -, -, -⟩ := three _ _ _ _ HrX.out
        obtain ⟨g0', g1', g2', -, -, -⟩ := three _ _ _ _ HrG.out
        simp at x0' x1' x2' g0' g1' g2'
        rcases headB_not Hhd.out with hg | ⟨hg, hn0⟩ | ⟨hg, hn0, hnb⟩
        · rw [hg]
          clear hg
          go_wp2_with (refine wpList_load41 rfl 94 rfl (.tmp 5) rfl (w.heap.size + 1) rfl F HrC.out ?_)
          refine (rmayblock_any (dirOf F) next p i b ino kind nm _ HF.out.dir Hn.out).mono ?_
          rintro e wz ⟨rfl, hb⟩
          clear x0' x1' x2' g0' g1' g2'
          have HrG := hid (above_row hb HrG.out)
          have HrX := hid (above_row hb HrX.out)
          have HrC := hid (above_row hb HrC.out)
          have HE := hid (errType_above HE.out hb)
          have HB := hid (HB.out.trans (hb.mono HB.out.size))
          clear hb
          obtain ⟨x0', x1', x2', -, -, -⟩ := three _ _ _ _ HrX.out
          obtain ⟨g0', g1', g2', -, -, -⟩ := three _ _ _ _ HrG.out
          simp at x0' x1' x2' g0' g1' g2'
          rw [Hbb.out]
          go_wp2_with fail
          refine (alive_any _ HE.out).mono ?_
          rintro e wz ⟨rfl, hb⟩
          have HB := hid (HB.out.trans (hb.mono HB.out.size))
          clear hb
          go_wp2
          go_ret
          exact ⟨rfl, HB.out⟩
        · rw [hg]
          clear hg
          go_wp2_with (refine wpList_load41 rfl 94 rfl (.tmp 5) rfl (w.heap.size + 1) rfl F HrC.out ?_)
          refine (rmayblock_any (dirOf F) next p i b ino kind nm _ HF.out.dir Hn.out).mono ?_
          rintro e wz ⟨rfl, hb⟩
          clear x0' x1' x2' g0' g1' g2'
          have HrG := hid (above_row hb HrG.out)
          have HrX := hid (above_row hb HrX.out)
          have HrC := hid (above_row hb HrC.out)
          have HE := hid (errType_above HE.out hb)
          have HB := hid (HB.out.trans (hb.mono HB.out.size))
          clear hb
          obtain ⟨x0', x1', x2', -, -, -⟩ := three _ _ _ _ HrX.out
          obtain ⟨g0', g1', g2', -, -, -⟩ := three _ _ _ _ HrG.out
          simp at x0' x1' x2' g0' g1' g2'
          rw [Hbb.out]
          go_wp2_with fail
          refine (alive_any _ HE.out).mono ?_
          rintro e wz ⟨rfl, hb⟩
          have HB := hid (HB.out.trans (hb.mono HB.out.size))
          clear hb
          go_wp2
          go_ret
          exact ⟨rfl, HB.out⟩
        · rw [hg]
          clear hg
          go_wp2_with (refine wpList_load41 rfl 94 rfl (.tmp 5) rfl (w.heap.size + 1) rfl F HrC.out ?_)
          refine (rmayblock_any (dirOf F) next p i b ino kind nm _ HF.out.dir Hn.out).mono ?_
          rintro e wz ⟨rfl, hb⟩
          clear x0' x1' x2' g0' g1' g2'
          have HrG := hid (above_row hb HrG.out)
          have HrX := hid (above_row hb HrX.out)
          have HrC := hid (above_row hb HrC.out)
          have HE := hid (errType_above HE.out hb)
          have HB := hid (HB.out.trans (hb.mono HB.out.size))
          clear hb
          obtain ⟨x0', x1', x2', -, -, -⟩ := three _ _ _ _ HrX.out
          obtain ⟨g0', g1', g2', -, -, -⟩ := three _ _ _ _ HrG.out
          simp at x0' x1' x2' g0' g1' g2'
          rw [Hbb.out]
          go_wp2_with fail
          refine (alive_any _ HE.out).mono ?_
          rintro e wz ⟨rfl, hb⟩
          have HB := hid (HB.out.trans (hb.mono HB.out.size))
          clear hb
          go_wp2
          go_ret
          exact ⟨rfl, HB.out⟩
      · have HH13 := hid fun W => head_yes' nx p i b N HN.out W hhd
        have HH19 := hid fun W => rhead' nx p i b N HN.out W hhd
        have Hhd := hid hhd
        clear hhd
        refine (HH13.out _).mono ?_
        rintro e wz ⟨rfl, hb⟩
        clear x0' x1' x2' g0' g1' g2'
        have HrG := hid (above_row hb HrG.out)
        have HrX := hid (above_row hb HrX.out)
        have HrC := hid (above_row hb HrC.out)
        have HE := hid (errType_above HE.out hb)
        have HB := hid (HB.out.trans (hb.mono HB.out.size))
        clear hb
        obtain ⟨x0', x1', x2', -, -, -⟩ := three _ _ _ _ HrX.out
        obtain ⟨g0', g1', g2', -, -, -⟩ := three _ _ _ _ HrG.out
        simp at x0' x1' x2' g0' g1' g2'
        go_wp2_with fail
        refine (rmay_any a c p i b s (by omega) _).mono ?_
        rintro e wz ⟨rfl, hb⟩
        clear x0' x1' x2' g0' g1' g2'
        have HrG := hid (above_row hb HrG.out)
        have HrX := hid (above_row hb HrX.out)
        have HrC := hid (above_row hb HrC.out)
        have HE := hid (errType_above HE.out hb)
        have HB := hid (HB.out.trans (hb.mono HB.out.size))
        clear hb
        obtain ⟨x0', x1', x2', -, -, -⟩ := three _ _ _ _ HrX.out
        obtain ⟨g0', g1', g2', -, -, -⟩ := three _ _ _ _ HrG.out
        simp at x0' x1' x2' g0' g1' g2'
        rw [hmy]
        go_wp2_with fail
        refine (may_any a c p i b s _).mono ?_
        rintro e wz ⟨rfl, hb⟩
        clear x0' x1' x2' g0' g1' g2'
        have HrG := hid (above_row hb HrG.out)
        have HrX := hid (above_row hb HrX.out)
        have HrC := hid (above_row hb HrC.out)
        have HE := hid (errType_above HE.out hb)
        have HB := hid (HB.out.trans (hb.mono HB.out.size))
        clear hb
        obtain ⟨x0', x1', x2', -, -, -⟩ := three _ _ _ _ HrX.out
        obtain ⟨g0', g1', g2', -, -, -⟩ := three _ _ _ _ HrG.out
        simp at x0' x1' x2' g0' g1' g2'
        rw [hmy]
        go_wp2_with fail
        obtain ⟨hg, hn0, hnb⟩ := headB_parts Hhd.out
        refine (rgeom_any p i b _).mono ?_
        rintro e wz ⟨rfl, hb⟩
        clear x0' x1' x2' g0' g1' g2'
        have HrG := hid (above_row hb HrG.out)
        have HrX := hid (above_row hb HrX.out)
        have HrC := hid (above_row hb HrC.out)
        have HE := hid (errType_above HE.out hb)
        have HB := hid (HB.out.trans (hb.mono HB.out.size))
        clear hb
        obtain ⟨x0', x1', x2', -, -, -⟩ := three _ _ _ _ HrX.out
        obtain ⟨g0', g1', g2', -, -, -⟩ := three _ _ _ _ HrG.out
        simp at x0' x1' x2' g0' g1' g2'
        rw [hg]
        clear hg
        go_wp2_with (first
          | (go_at_call 19; refine (HH19.out _).mono ?_; rintro e w' ⟨rfl, rfl⟩)
          | refine wpList_load41 rfl 94 rfl (.tmp 5) rfl (w.heap.size + 1) rfl F HrC.out ?_)
        refine (rmayblock_any (dirOf F) next p i b ino kind nm _ HF.out.dir Hn.out).mono ?_
        rintro e wz ⟨rfl, hb⟩
        clear x0' x1' x2' g0' g1' g2'
        have HrG := hid (above_row hb HrG.out)
        have HrX := hid (above_row hb HrX.out)
        have HrC := hid (above_row hb HrC.out)
        have HE := hid (errType_above HE.out hb)
        have HB := hid (HB.out.trans (hb.mono HB.out.size))
        clear hb
        obtain ⟨x0', x1', x2', -, -, -⟩ := three _ _ _ _ HrX.out
        obtain ⟨g0', g1', g2', -, -, -⟩ := three _ _ _ _ HrG.out
        simp at x0' x1' x2' g0' g1' g2'
        rw [Hbb.out]
        go_wp2_with fail
        refine (alive_any _ HE.out).mono ?_
        rintro e wz ⟨rfl, hb⟩
        have HB := hid (HB.out.trans (hb.mono HB.out.size))
        clear hb
        go_wp2
        go_ret
        exact ⟨rfl, HB.out⟩
    · refine (block_yes (dirOf F) next p i b ino kind nm _ HF.out.dir hbb).mono ?_
      rintro e wz ⟨g2, cap2, R2, rfl, -, hc2, hR2, hf2, hb⟩
      have HrK := hid hR2
      have Hf2 := hid hf2
      clear hR2 hf2
      have Hbb := hid hbb
      clear x0' x1' x2' g0' g1' g2'
      have HrG := hid (above_row hb HrG.out)
      have HrX := hid (above_row hb HrX.out)
      have HrC := hid (above_row hb HrC.out)
      have HE := hid (errType_above HE.out hb)
      have HB := hid (HB.out.trans (hb.mono HB.out.size))
      clear hb
      obtain ⟨x0', x1', x2', -, -, -⟩ := three _ _ _ _ HrX.out
      obtain ⟨g0', g1', g2', -, -, -⟩ := three _ _ _ _ HrG.out
      simp at x0' x1' x2' g0' g1' g2'
      clear hbb
      go_wp2_with fail
      cases hhd : (gok p i b && decide (0 ≤ nx) && decide (nx ≤ b))
      · have HH13 := hid fun W => head_no nx p i b W hhd
        have Hhd := hid hhd
        clear hhd
        refine (HH13.out _).mono ?_
        rintro e wz ⟨rfl, hb⟩
        clear x0' x1' x2' g0' g1' g2'
        have HrG := hid (above_row hb HrG.out)
        have HrX := hid (above_row hb HrX.out)
        have HrC := hid (above_row hb HrC.out)
        have HrK := hid (above_row hb HrK.out)
        have HE := hid (errType_above HE.out hb)
        have HB := hid (HB.out.trans (hb.mono HB.out.size))
        clear hb
        obtain ⟨x0', x1', x2', -, -, -⟩ := three _ _ _ _ HrX.out
        obtain ⟨g0', g1', g2', -, -, -⟩ := three _ _ _ _ HrG.out
        simp at x0' x1' x2' g0' g1' g2'
        go_wp2_with fail
        refine (rmay_any a c p i b s (by omega) _).mono ?_
        rintro e wz ⟨rfl, hb⟩
        clear x0' x1' x2' g0' g1' g2'
        have HrG := hid (above_row hb HrG.out)
        have HrX := hid (above_row hb HrX.out)
        have HrC := hid (above_row hb HrC.out)
        have HrK := hid (above_row hb HrK.out)
        have HE := hid (errType_above HE.out hb)
        have HB := hid (HB.out.trans (hb.mono HB.out.size))
        clear hb
        obtain ⟨x0', x1', x2', -, -, -⟩ := three _ _ _ _ HrX.out
        obtain ⟨g0', g1', g2', -, -, -⟩ := three _ _ _ _ HrG.out
        simp at x0' x1' x2' g0' g1' g2'
        rw [hmy]
        go_wp2_with fail
        refine (may_any a c p i b s _).mono ?_
        rintro e wz ⟨rfl, hb⟩
        clear x0' x1' x2' g0' g1' g2'
        have HrG := hid (above_row hb HrG.out)
        have HrX := hid (above_row hb HrX.out)
        have HrC := hid (above_row hb HrC.out)
        have HrK := hid (above_row hb HrK.out)
        have HE := hid (errType_above HE.out hb)
        have HB := hid (HB.out.trans (hb.mono HB.out.size))
        clear hb
        obtain ⟨x0', x1', x2', -, -, -⟩ := three _ _ _ _ HrX.out
        obtain ⟨g0', g1', g2', -, -, -⟩ := three _ _ _ _ HrG.out
        simp at x0' x1' x2' g0' g1' g2'
        rw [hmy]
        go_wp2_with fail
        refine (rgeom_any p i b _).mono ?_
        rintro e wz ⟨rfl, hb⟩
        clear x0' x1' x2' g0' g1' g2'
        have HrG := hid (above_row hb HrG.out)
        have HrX := hid (above_row hb HrX.out)
        have HrC := hid (above_row hb HrC.out)
        have HrK := hid (above_row hb HrK.out)
        have HE := hid (errType_above HE.out hb)
        have HB := hid (HB.out.trans (hb.mono HB.out.size))
        clear hb
        obtain ⟨x0', x1', x2', -, -, -⟩ := three _ _ _ _ HrX.out
        obtain ⟨g0', g1', g2', -, -, -⟩ := three _ _ _ _ HrG.out
        simp at x0' x1' x2' g0' g1' g2'
        rcases headB_not Hhd.out with hg | ⟨hg, hn0⟩ | ⟨hg, hn0, hnb⟩
        · rw [hg]
          clear hg
          go_wp2_with (refine wpList_load41 rfl 94 rfl (.tmp 5) rfl (w.heap.size + 1) rfl F HrC.out ?_)
          refine (rmayblock_any (dirOf F) next p i b ino kind nm _ HF.out.dir Hn.out).mono ?_
          rintro e wz ⟨rfl, hb⟩
          clear x0' x1' x2' g0' g1' g2'
          have HrG := hid (above_row hb HrG.out)
          have HrX := hid (above_row hb HrX.out)
          have HrC := hid (above_row hb HrC.out)
          have HrK := hid (above_row hb HrK.out)
          have HE := hid (errType_above HE.out hb)
          have HB := hid (HB.out.trans (hb.mono HB.out.size))
          clear hb
          obtain ⟨x0', x1', x2', -, -, -⟩ := three _ _ _ _ HrX.out
          obtain ⟨g0', g1', g2', -, -, -⟩ := three _ _ _ _ HrG.out
          simp at x0' x1' x2' g0' g1' g2'
          rw [Hbb.out]
          go_wp2_with (refine wpList_load41 rfl 109 rfl (.tmp 5) rfl (w.heap.size + 1) rfl F HrC.out ?_)
          refine (rblock_any (dirOf F) next p i b ino kind nm _ HF.out.dir Hbb.out).mono ?_
          rintro e wz ⟨g3, cap3, rfl, hlt3, hc3, hb⟩
          have HrK := hid (above_row hb HrK.out)
          have Hc3 := hid hc3
          clear x0' x1' x2' g0' g1' g2'
          have HrG := hid (above_row hb HrG.out)
          have HrX := hid (above_row hb HrX.out)
          have HrC := hid (above_row hb HrC.out)
          have HE := hid (errType_above HE.out hb)
          have HB := hid (HB.out.trans (hb.mono HB.out.size))
          clear hb
          clear hc3 hlt3
          go_wp2_with fail
          have hs1 := same_go ⟨g2, 0, none⟩ ⟨g3, 0, none⟩ 32 cap2 cap3 (fun j => (blockF next ino kind nm j : Nat)) (fun j => (blockF next ino kind nm j : Nat)) wz (by omega) (fun j hj => by
            rw [show (⟨g2, 0, none⟩ : Addr).add j = ⟨g2, j, none⟩ by unfold Addr.add; split <;> simp_all, HrK.out.cell (by omega), Hf2.out j hj]) (fun j hj => by
            rw [show (⟨g3, 0, none⟩ : Addr).add j = ⟨g3, j, none⟩ by unfold Addr.add; split <;> simp_all]; exact Hc3.out j hj)
          refine (hs1.mono (R' := fun e y => e = .returned (.bool true) ∧ Below wz.heap.size wz y) (fun e y h => ⟨h.1.trans (by rw [decide_eq_true (fun _ _ => rfl)]), h.2⟩)).mono ?_
          clear hs1
          rintro e wy ⟨rfl, hb⟩
          have HrG := hid (above_row hb HrG.out)
          have HrX := hid (above_row hb HrX.out)
          have HrC := hid (above_row hb HrC.out)
          have HE := hid (errType_above HE.out hb)
          have HB := hid (HB.out.trans (hb.mono HB.out.size))
          clear hb
          go_wp2_with fail
          refine (alive_any _ HE.out).mono ?_
          rintro e wz ⟨rfl, hb⟩
          have HB := hid (HB.out.trans (hb.mono HB.out.size))
          clear hb
          go_wp2
          go_ret
          exact ⟨rfl, HB.out⟩
        · rw [hg]
          clear hg
          go_wp2_with (refine wpList_load41 rfl 94 rfl (.tmp 5) rfl (w.heap.size + 1) rfl F HrC.out ?_)
          refine (rmayblock_any (dirOf F) next p i b ino kind nm _ HF.out.dir Hn.out).mono ?_
          rintro e wz ⟨rfl, hb⟩
          clear x0' x1' x2' g0' g1' g2'
          have HrG := hid (above_row hb HrG.out)
          have HrX := hid (above_row hb HrX.out)
          have HrC := hid (above_row hb HrC.out)
          have HrK := hid (above_row hb HrK.out)
          have HE := hid (errType_above HE.out hb)
          have HB := hid (HB.out.trans (hb.mono HB.out.size))
          clear hb
          obtain ⟨x0', x1', x2', -, -, -⟩ := three _ _ _ _ HrX.out
          obtain ⟨g0', g1', g2', -, -, -⟩ := three _ _ _ _ HrG.out
          simp at x0' x1' x2' g0' g1' g2'
          rw [Hbb.out]
          go_wp2_with (refine wpList_load41 rfl 109 rfl (.tmp 5) rfl (w.heap.size + 1) rfl F HrC.out ?_)
          refine (rblock_any (dirOf F) next p i b ino kind nm _ HF.out.dir Hbb.out).mono ?_
          rintro e wz ⟨g3, cap3, rfl, hlt3, hc3, hb⟩
          have HrK := hid (above_row hb HrK.out)
          have Hc3 := hid hc3
          clear x0' x1' x2' g0' g1' g2'
          have HrG := hid (above_row hb HrG.out)
          have HrX := hid (above_row hb HrX.out)
          have HrC := hid (above_row hb HrC.out)
          have HE := hid (errType_above HE.out hb)
          have HB := hid (HB.out.trans (hb.mono HB.out.size))
          clear hb
          clear hc3 hlt3
          go_wp2_with fail
          have hs1 := same_go ⟨g2, 0, none⟩ ⟨g3, 0, none⟩ 32 cap2 cap3 (fun j => (blockF next ino kind nm j : Nat)) (fun j => (blockF next ino kind nm j : Nat)) wz (by omega) (fun j hj => by
            rw [show (⟨g2, 0, none⟩ : Addr).add j = ⟨g2, j, none⟩ by unfold Addr.add; split <;> simp_all, HrK.out.cell (by omega), Hf2.out j hj]) (fun j hj => by
            rw [show (⟨g3, 0, none⟩ : Addr).add j = ⟨g3, j, none⟩ by unfold Addr.add; split <;> simp_all]; exact Hc3.out j hj)
          refine (hs1.mono (R' := fun e y => e = .returned (.bool true) ∧ Below wz.heap.size wz y) (fun e y h => ⟨h.1.trans (by rw [decide_eq_true (fun _ _ => rfl)]), h.2⟩)).mono ?_
          clear hs1
          rintro e wy ⟨rfl, hb⟩
          have HrG := hid (above_row hb HrG.out)
          have HrX := hid (above_row hb HrX.out)
          have HrC := hid (above_row hb HrC.out)
          have HE := hid (errType_above HE.out hb)
          have HB := hid (HB.out.trans (hb.mono HB.out.size))
          clear hb
          go_wp2_with fail
          refine (alive_any _ HE.out).mono ?_
          rintro e wz ⟨rfl, hb⟩
          have HB := hid (HB.out.trans (hb.mono HB.out.size))
          clear hb
          go_wp2
          go_ret
          exact ⟨rfl, HB.out⟩
        · rw [hg]
          clear hg
          go_wp2_with (refine wpList_load41 rfl 94 rfl (.tmp 5) rfl (w.heap.size + 1) rfl F HrC.out ?_)
          refine (rmayblock_any (dirOf F) next p i b ino kind nm _ HF.out.dir Hn.out).mono ?_
          rintro e wz ⟨rfl, hb⟩
          clear x0' x1' x2' g0' g1' g2'
          have HrG := hid (above_row hb HrG.out)
          have HrX := hid (above_row hb HrX.out)
          have HrC := hid (above_row hb HrC.out)
          have HrK := hid (above_row hb HrK.out)
          have HE := hid (errType_above HE.out hb)
          have HB := hid (HB.out.trans (hb.mono HB.out.size))
          clear hb
          obtain ⟨x0', x1', x2', -, -, -⟩ := three _ _ _ _ HrX.out
          obtain ⟨g0', g1', g2', -, -, -⟩ := three _ _ _ _ HrG.out
          simp at x0' x1' x2' g0' g1' g2'
          rw [Hbb.out]
          go_wp2_with (refine wpList_load41 rfl 109 rfl (.tmp 5) rfl (w.heap.size + 1) rfl F HrC.out ?_)
          refine (rblock_any (dirOf F) next p i b ino kind nm _ HF.out.dir Hbb.out).mono ?_
          rintro e wz ⟨g3, cap3, rfl, hlt3, hc3, hb⟩
          have HrK := hid (above_row hb HrK.out)
          have Hc3 := hid hc3
          clear x0' x1' x2' g0' g1' g2'
          have HrG := hid (above_row hb HrG.out)
          have HrX := hid (above_row hb HrX.out)
          have HrC := hid (above_row hb HrC.out)
          have HE := hid (errType_above HE.out hb)
          have HB := hid (HB.out.trans (hb.mono HB.out.size))
          clear hb
          clear hc3 hlt3
          go_wp2_with fail
          have hs1 := same_go ⟨g2, 0, none⟩ ⟨g3, 0, none⟩ 32 cap2 cap3 (fun j => (blockF next ino kind nm j : Nat)) (fun j => (blockF next ino kind nm j : Nat)) wz (by omega) (fun j hj => by
            rw [show (⟨g2, 0, none⟩ : Addr).add j = ⟨g2, j, none⟩ by unfold Addr.add; split <;> simp_all, HrK.out.cell (by omega), Hf2.out j hj]) (fun j hj => by
            rw [show (⟨g3, 0, none⟩ : Addr).add j = ⟨g3, j, none⟩ by unfold Addr.add; split <;> simp_all]; exact Hc3.out j hj)
          refine (hs1.mono (R' := fun e y => e = .returned (.bool true) ∧ Below wz.heap.size wz y) (fun e y h => ⟨h.1.trans (by rw [decide_eq_true (fun _ _ => rfl)]), h.2⟩)).mono ?_
          clear hs1
          rintro e wy ⟨rfl, hb⟩
          have HrG := hid (above_row hb HrG.out)
          have HrX := hid (above_row hb HrX.out)
          have HrC := hid (above_row hb HrC.out)
          have HE := hid (errType_above HE.out hb)
          have HB := hid (HB.out.trans (hb.mono HB.out.size))
          clear hb
          go_wp2_with fail
          refine (alive_any _ HE.out).mono ?_
          rintro e wz ⟨rfl, hb⟩
          have HB := hid (HB.out.trans (hb.mono HB.out.size))
          clear hb
          go_wp2
          go_ret
          exact ⟨rfl, HB.out⟩
      · have HH13 := hid fun W => head_yes' nx p i b N HN.out W hhd
        have HH19 := hid fun W => rhead' nx p i b N HN.out W hhd
        have Hhd := hid hhd
        clear hhd
        refine (HH13.out _).mono ?_
        rintro e wz ⟨rfl, hb⟩
        clear x0' x1' x2' g0' g1' g2'
        have HrG := hid (above_row hb HrG.out)
        have HrX := hid (above_row hb HrX.out)
        have HrC := hid (above_row hb HrC.out)
        have HrK := hid (above_row hb HrK.out)
        have HE := hid (errType_above HE.out hb)
        have HB := hid (HB.out.trans (hb.mono HB.out.size))
        clear hb
        obtain ⟨x0', x1', x2', -, -, -⟩ := three _ _ _ _ HrX.out
        obtain ⟨g0', g1', g2', -, -, -⟩ := three _ _ _ _ HrG.out
        simp at x0' x1' x2' g0' g1' g2'
        go_wp2_with fail
        refine (rmay_any a c p i b s (by omega) _).mono ?_
        rintro e wz ⟨rfl, hb⟩
        clear x0' x1' x2' g0' g1' g2'
        have HrG := hid (above_row hb HrG.out)
        have HrX := hid (above_row hb HrX.out)
        have HrC := hid (above_row hb HrC.out)
        have HrK := hid (above_row hb HrK.out)
        have HE := hid (errType_above HE.out hb)
        have HB := hid (HB.out.trans (hb.mono HB.out.size))
        clear hb
        obtain ⟨x0', x1', x2', -, -, -⟩ := three _ _ _ _ HrX.out
        obtain ⟨g0', g1', g2', -, -, -⟩ := three _ _ _ _ HrG.out
        simp at x0' x1' x2' g0' g1' g2'
        rw [hmy]
        go_wp2_with fail
        refine (may_any a c p i b s _).mono ?_
        rintro e wz ⟨rfl, hb⟩
        clear x0' x1' x2' g0' g1' g2'
        have HrG := hid (above_row hb HrG.out)
        have HrX := hid (above_row hb HrX.out)
        have HrC := hid (above_row hb HrC.out)
        have HrK := hid (above_row hb HrK.out)
        have HE := hid (errType_above HE.out hb)
        have HB := hid (HB.out.trans (hb.mono HB.out.size))
        clear hb
        obtain ⟨x0', x1', x2', -, -, -⟩ := three _ _ _ _ HrX.out
        obtain ⟨g0', g1', g2', -, -, -⟩ := three _ _ _ _ HrG.out
        simp at x0' x1' x2' g0' g1' g2'
        rw [hmy]
        go_wp2_with fail
        obtain ⟨hg, hn0, hnb⟩ := headB_parts Hhd.out
        refine (rgeom_any p i b _).mono ?_
        rintro e wz ⟨rfl, hb⟩
        clear x0' x1' x2' g0' g1' g2'
        have HrG := hid (above_row hb HrG.out)
        have HrX := hid (above_row hb HrX.out)
        have HrC := hid (above_row hb HrC.out)
        have HrK := hid (above_row hb HrK.out)
        have HE := hid (errType_above HE.out hb)
        have HB := hid (HB.out.trans (hb.mono HB.out.size))
        clear hb
        obtain ⟨x0', x1', x2', -, -, -⟩ := three _ _ _ _ HrX.out
        obtain ⟨g0', g1', g2', -, -, -⟩ := three _ _ _ _ HrG.out
        simp at x0' x1' x2' g0' g1' g2'
        rw [hg]
        clear hg
        go_wp2_with (first
          | (go_at_call 19; refine (HH19.out _).mono ?_; rintro e w' ⟨rfl, rfl⟩)
          | refine wpList_load41 rfl 94 rfl (.tmp 5) rfl (w.heap.size + 1) rfl F HrC.out ?_)
        refine (rmayblock_any (dirOf F) next p i b ino kind nm _ HF.out.dir Hn.out).mono ?_
        rintro e wz ⟨rfl, hb⟩
        clear x0' x1' x2' g0' g1' g2'
        have HrG := hid (above_row hb HrG.out)
        have HrX := hid (above_row hb HrX.out)
        have HrC := hid (above_row hb HrC.out)
        have HrK := hid (above_row hb HrK.out)
        have HE := hid (errType_above HE.out hb)
        have HB := hid (HB.out.trans (hb.mono HB.out.size))
        clear hb
        obtain ⟨x0', x1', x2', -, -, -⟩ := three _ _ _ _ HrX.out
        obtain ⟨g0', g1', g2', -, -, -⟩ := three _ _ _ _ HrG.out
        simp at x0' x1' x2' g0' g1' g2'
        rw [Hbb.out]
        go_wp2_with (refine wpList_load41 rfl 109 rfl (.tmp 5) rfl (w.heap.size + 1) rfl F HrC.out ?_)
        refine (rblock_any (dirOf F) next p i b ino kind nm _ HF.out.dir Hbb.out).mono ?_
        rintro e wz ⟨g3, cap3, rfl, hlt3, hc3, hb⟩
        have HrK := hid (above_row hb HrK.out)
        have Hc3 := hid hc3
        clear x0' x1' x2' g0' g1' g2'
        have HrG := hid (above_row hb HrG.out)
        have HrX := hid (above_row hb HrX.out)
        have HrC := hid (above_row hb HrC.out)
        have HE := hid (errType_above HE.out hb)
        have HB := hid (HB.out.trans (hb.mono HB.out.size))
        clear hb
        clear hc3 hlt3
        go_wp2_with fail
        have hs1 := same_go ⟨g2, 0, none⟩ ⟨g3, 0, none⟩ 32 cap2 cap3 (fun j => (blockF next ino kind nm j : Nat)) (fun j => (blockF next ino kind nm j : Nat)) wz (by omega) (fun j hj => by
          rw [show (⟨g2, 0, none⟩ : Addr).add j = ⟨g2, j, none⟩ by unfold Addr.add; split <;> simp_all, HrK.out.cell (by omega), Hf2.out j hj]) (fun j hj => by
          rw [show (⟨g3, 0, none⟩ : Addr).add j = ⟨g3, j, none⟩ by unfold Addr.add; split <;> simp_all]; exact Hc3.out j hj)
        refine (hs1.mono (R' := fun e y => e = .returned (.bool true) ∧ Below wz.heap.size wz y) (fun e y h => ⟨h.1.trans (by rw [decide_eq_true (fun _ _ => rfl)]), h.2⟩)).mono ?_
        clear hs1
        rintro e wy ⟨rfl, hb⟩
        have HrG := hid (above_row hb HrG.out)
        have HrX := hid (above_row hb HrX.out)
        have HrC := hid (above_row hb HrC.out)
        have HE := hid (errType_above HE.out hb)
        have HB := hid (HB.out.trans (hb.mono HB.out.size))
        clear hb
        go_wp2_with fail
        refine (alive_any _ HE.out).mono ?_
        rintro e wz ⟨rfl, hb⟩
        have HB := hid (HB.out.trans (hb.mono HB.out.size))
        clear hb
        go_wp2
        go_ret
        exact ⟨rfl, HB.out⟩
  · have hgk := (mayB_parts hmy).1
    have Hi64 := hid ((gok_iff.1 hgk).2.2.2.1)
    have Hsl := hid (mayB_parts hmy).2
    clear hgk
    refine (encode_yes a c p i b s _ hmy).mono ?_
    rintro e wz ⟨g1, rfl, -, hr1, hb⟩
    have HrW := hid hr1
    clear hr1
    clear x0' x1' x2' g0' g1' g2'
    have HrG := hid (above_row hb HrG.out)
    have HrX := hid (above_row hb HrX.out)
    have HrC := hid (above_row hb HrC.out)
    have HE := hid (errType_above HE.out hb)
    have HB := hid (HB.out.trans (hb.mono HB.out.size))
    clear hb
    obtain ⟨x0', x1', x2', -, -, -⟩ := three _ _ _ _ HrX.out
    obtain ⟨g0', g1', g2', -, -, -⟩ := three _ _ _ _ HrG.out
    simp at x0' x1' x2' g0' g1' g2'
    go_wp2_with (refine wpList_load41 rfl 32 rfl (.tmp 5) rfl (w.heap.size + 1) rfl F HrC.out ?_)
    cases hbb : blockB next ino kind nm p i b
    · refine (block_no (dirOf F) next p i b ino kind nm _ HF.out.dir hbb).mono ?_
      rintro e wz ⟨rfl, hb⟩
      have Hbb := hid hbb
      clear x0' x1' x2' g0' g1' g2'
      have HrG := hid (above_row hb HrG.out)
      have HrX := hid (above_row hb HrX.out)
      have HrC := hid (above_row hb HrC.out)
      have HrW := hid (above_row hb HrW.out)
      have HE := hid (errType_above HE.out hb)
      have HB := hid (HB.out.trans (hb.mono HB.out.size))
      clear hb
      obtain ⟨x0', x1', x2', -, -, -⟩ := three _ _ _ _ HrX.out
      obtain ⟨g0', g1', g2', -, -, -⟩ := three _ _ _ _ HrG.out
      simp at x0' x1' x2' g0' g1' g2'
      clear hbb
      go_wp2_with fail
      cases hhd : (gok p i b && decide (0 ≤ nx) && decide (nx ≤ b))
      · have HH13 := hid fun W => head_no nx p i b W hhd
        have Hhd := hid hhd
        clear hhd
        refine (HH13.out _).mono ?_
        rintro e wz ⟨rfl, hb⟩
        clear x0' x1' x2' g0' g1' g2'
        have HrG := hid (above_row hb HrG.out)
        have HrX := hid (above_row hb HrX.out)
        have HrC := hid (above_row hb HrC.out)
        have HrW := hid (above_row hb HrW.out)
        have HE := hid (errType_above HE.out hb)
        have HB := hid (HB.out.trans (hb.mono HB.out.size))
        clear hb
        obtain ⟨x0', x1', x2', -, -, -⟩ := three _ _ _ _ HrX.out
        obtain ⟨g0', g1', g2', -, -, -⟩ := three _ _ _ _ HrG.out
        simp at x0' x1' x2' g0' g1' g2'
        go_wp2_with fail
        refine (rmay_any a c p i b s (by omega) _).mono ?_
        rintro e wz ⟨rfl, hb⟩
        clear x0' x1' x2' g0' g1' g2'
        have HrG := hid (above_row hb HrG.out)
        have HrX := hid (above_row hb HrX.out)
        have HrC := hid (above_row hb HrC.out)
        have HrW := hid (above_row hb HrW.out)
        have HE := hid (errType_above HE.out hb)
        have HB := hid (HB.out.trans (hb.mono HB.out.size))
        clear hb
        obtain ⟨x0', x1', x2', -, -, -⟩ := three _ _ _ _ HrX.out
        obtain ⟨g0', g1', g2', -, -, -⟩ := three _ _ _ _ HrG.out
        simp at x0' x1' x2' g0' g1' g2'
        rw [hmy]
        go_wp2_with fail
        refine (may_any a c p i b s _).mono ?_
        rintro e wz ⟨rfl, hb⟩
        clear x0' x1' x2' g0' g1' g2'
        have HrG := hid (above_row hb HrG.out)
        have HrX := hid (above_row hb HrX.out)
        have HrC := hid (above_row hb HrC.out)
        have HrW := hid (above_row hb HrW.out)
        have HE := hid (errType_above HE.out hb)
        have HB := hid (HB.out.trans (hb.mono HB.out.size))
        clear hb
        obtain ⟨x0', x1', x2', -, -, -⟩ := three _ _ _ _ HrX.out
        obtain ⟨g0', g1', g2', -, -, -⟩ := three _ _ _ _ HrG.out
        simp at x0' x1' x2' g0' g1' g2'
        rw [hmy]
        go_wp2_with fail
        refine (rencode_any a c i s _ Hi64.out Hsl.out).mono ?_
        rintro e wz ⟨g5, rfl, -, hr5, hb⟩
        have Hr5 := hid hr5
        clear hr5
        clear x0' x1' x2' g0' g1' g2'
        have HrG := hid (above_row hb HrG.out)
        have HrX := hid (above_row hb HrX.out)
        have HrC := hid (above_row hb HrC.out)
        have HrW := hid (above_row hb HrW.out)
        have HE := hid (errType_above HE.out hb)
        have HB := hid (HB.out.trans (hb.mono HB.out.size))
        clear hb
        obtain ⟨x0', x1', x2', -, -, -⟩ := three _ _ _ _ HrX.out
        obtain ⟨g0', g1', g2', -, -, -⟩ := three _ _ _ _ HrG.out
        simp at x0' x1' x2' g0' g1' g2'
        go_wp2_with fail
        have hs1 := same_go ⟨g1, 0, none⟩ ⟨g5, 0, none⟩ 3 3 3 (fun j => (wordsF a c s.data.toList j : Nat)) (fun j => (wordsF a c s.data.toList j : Nat)) wz (by omega) (fun j hj => by
          rw [show (⟨g1, 0, none⟩ : Addr).add j = ⟨g1, j, none⟩ by unfold Addr.add; split <;> simp_all]; exact HrW.out.cell hj) (fun j hj => by
          rw [show (⟨g5, 0, none⟩ : Addr).add j = ⟨g5, j, none⟩ by unfold Addr.add; split <;> simp_all]; exact Hr5.out.cell hj)
        refine (hs1.mono (R' := fun e y => e = .returned (.bool true) ∧ Below wz.heap.size wz y) (fun e y h => ⟨h.1.trans (by rw [decide_eq_true (fun _ _ => rfl)]), h.2⟩)).mono ?_
        clear hs1
        rintro e wy ⟨rfl, hb⟩
        clear x0' x1' x2' g0' g1' g2'
        have HrG := hid (above_row hb HrG.out)
        have HrX := hid (above_row hb HrX.out)
        have HrC := hid (above_row hb HrC.out)
        have HrW := hid (above_row hb HrW.out)
        have HE := hid (errType_above HE.out hb)
        have HB := hid (HB.out.trans (hb.mono HB.out.size))
        clear hb
        obtain ⟨x0', x1', x2', -, -, -⟩ := three _ _ _ _ HrX.out
        obtain ⟨g0', g1', g2', -, -, -⟩ := three _ _ _ _ HrG.out
        simp at x0' x1' x2' g0' g1' g2'
        go_wp2_with fail
        refine (rgeom_any p i b _).mono ?_
        rintro e wz ⟨rfl, hb⟩
        clear x0' x1' x2' g0' g1' g2'
        have HrG := hid (above_row hb HrG.out)
        have HrX := hid (above_row hb HrX.out)
        have HrC := hid (above_row hb HrC.out)
        have HrW := hid (above_row hb HrW.out)
        have HE := hid (errType_above HE.out hb)
        have HB := hid (HB.out.trans (hb.mono HB.out.size))
        clear hb
        obtain ⟨x0', x1', x2', -, -, -⟩ := three _ _ _ _ HrX.out
        obtain ⟨g0', g1', g2', -, -, -⟩ := three _ _ _ _ HrG.out
        simp at x0' x1' x2' g0' g1' g2'
        rcases headB_not Hhd.out with hg | ⟨hg, hn0⟩ | ⟨hg, hn0, hnb⟩
        · rw [hg]
          clear hg
          go_wp2_with (refine wpList_load41 rfl 94 rfl (.tmp 5) rfl (w.heap.size + 1) rfl F HrC.out ?_)
          refine (rmayblock_any (dirOf F) next p i b ino kind nm _ HF.out.dir Hn.out).mono ?_
          rintro e wz ⟨rfl, hb⟩
          clear x0' x1' x2' g0' g1' g2'
          have HrG := hid (above_row hb HrG.out)
          have HrX := hid (above_row hb HrX.out)
          have HrC := hid (above_row hb HrC.out)
          have HrW := hid (above_row hb HrW.out)
          have HE := hid (errType_above HE.out hb)
          have HB := hid (HB.out.trans (hb.mono HB.out.size))
          clear hb
          obtain ⟨x0', x1', x2', -, -, -⟩ := three _ _ _ _ HrX.out
          obtain ⟨g0', g1', g2', -, -, -⟩ := three _ _ _ _ HrG.out
          simp at x0' x1' x2' g0' g1' g2'
          rw [Hbb.out]
          go_wp2_with fail
          refine (alive_any _ HE.out).mono ?_
          rintro e wz ⟨rfl, hb⟩
          have HB := hid (HB.out.trans (hb.mono HB.out.size))
          clear hb
          go_wp2
          go_ret
          exact ⟨rfl, HB.out⟩
        · rw [hg]
          clear hg
          go_wp2_with (refine wpList_load41 rfl 94 rfl (.tmp 5) rfl (w.heap.size + 1) rfl F HrC.out ?_)
          refine (rmayblock_any (dirOf F) next p i b ino kind nm _ HF.out.dir Hn.out).mono ?_
          rintro e wz ⟨rfl, hb⟩
          clear x0' x1' x2' g0' g1' g2'
          have HrG := hid (above_row hb HrG.out)
          have HrX := hid (above_row hb HrX.out)
          have HrC := hid (above_row hb HrC.out)
          have HrW := hid (above_row hb HrW.out)
          have HE := hid (errType_above HE.out hb)
          have HB := hid (HB.out.trans (hb.mono HB.out.size))
          clear hb
          obtain ⟨x0', x1', x2', -, -, -⟩ := three _ _ _ _ HrX.out
          obtain ⟨g0', g1', g2', -, -, -⟩ := three _ _ _ _ HrG.out
          simp at x0' x1' x2' g0' g1' g2'
          rw [Hbb.out]
          go_wp2_with fail
          refine (alive_any _ HE.out).mono ?_
          rintro e wz ⟨rfl, hb⟩
          have HB := hid (HB.out.trans (hb.mono HB.out.size))
          clear hb
          go_wp2
          go_ret
          exact ⟨rfl, HB.out⟩
        · rw [hg]
          clear hg
          go_wp2_with (refine wpList_load41 rfl 94 rfl (.tmp 5) rfl (w.heap.size + 1) rfl F HrC.out ?_)
          refine (rmayblock_any (dirOf F) next p i b ino kind nm _ HF.out.dir Hn.out).mono ?_
          rintro e wz ⟨rfl, hb⟩
          clear x0' x1' x2' g0' g1' g2'
          have HrG := hid (above_row hb HrG.out)
          have HrX := hid (above_row hb HrX.out)
          have HrC := hid (above_row hb HrC.out)
          have HrW := hid (above_row hb HrW.out)
          have HE := hid (errType_above HE.out hb)
          have HB := hid (HB.out.trans (hb.mono HB.out.size))
          clear hb
          obtain ⟨x0', x1', x2', -, -, -⟩ := three _ _ _ _ HrX.out
          obtain ⟨g0', g1', g2', -, -, -⟩ := three _ _ _ _ HrG.out
          simp at x0' x1' x2' g0' g1' g2'
          rw [Hbb.out]
          go_wp2_with fail
          refine (alive_any _ HE.out).mono ?_
          rintro e wz ⟨rfl, hb⟩
          have HB := hid (HB.out.trans (hb.mono HB.out.size))
          clear hb
          go_wp2
          go_ret
          exact ⟨rfl, HB.out⟩
      · have HH13 := hid fun W => head_yes' nx p i b N HN.out W hhd
        have HH19 := hid fun W => rhead' nx p i b N HN.out W hhd
        have Hhd := hid hhd
        clear hhd
        refine (HH13.out _).mono ?_
        rintro e wz ⟨rfl, hb⟩
        clear x0' x1' x2' g0' g1' g2'
        have HrG := hid (above_row hb HrG.out)
        have HrX := hid (above_row hb HrX.out)
        have HrC := hid (above_row hb HrC.out)
        have HrW := hid (above_row hb HrW.out)
        have HE := hid (errType_above HE.out hb)
        have HB := hid (HB.out.trans (hb.mono HB.out.size))
        clear hb
        obtain ⟨x0', x1', x2', -, -, -⟩ := three _ _ _ _ HrX.out
        obtain ⟨g0', g1', g2', -, -, -⟩ := three _ _ _ _ HrG.out
        simp at x0' x1' x2' g0' g1' g2'
        go_wp2_with fail
        refine (rmay_any a c p i b s (by omega) _).mono ?_
        rintro e wz ⟨rfl, hb⟩
        clear x0' x1' x2' g0' g1' g2'
        have HrG := hid (above_row hb HrG.out)
        have HrX := hid (above_row hb HrX.out)
        have HrC := hid (above_row hb HrC.out)
        have HrW := hid (above_row hb HrW.out)
        have HE := hid (errType_above HE.out hb)
        have HB := hid (HB.out.trans (hb.mono HB.out.size))
        clear hb
        obtain ⟨x0', x1', x2', -, -, -⟩ := three _ _ _ _ HrX.out
        obtain ⟨g0', g1', g2', -, -, -⟩ := three _ _ _ _ HrG.out
        simp at x0' x1' x2' g0' g1' g2'
        rw [hmy]
        go_wp2_with fail
        refine (may_any a c p i b s _).mono ?_
        rintro e wz ⟨rfl, hb⟩
        clear x0' x1' x2' g0' g1' g2'
        have HrG := hid (above_row hb HrG.out)
        have HrX := hid (above_row hb HrX.out)
        have HrC := hid (above_row hb HrC.out)
        have HrW := hid (above_row hb HrW.out)
        have HE := hid (errType_above HE.out hb)
        have HB := hid (HB.out.trans (hb.mono HB.out.size))
        clear hb
        obtain ⟨x0', x1', x2', -, -, -⟩ := three _ _ _ _ HrX.out
        obtain ⟨g0', g1', g2', -, -, -⟩ := three _ _ _ _ HrG.out
        simp at x0' x1' x2' g0' g1' g2'
        rw [hmy]
        go_wp2_with fail
        refine (rencode_any a c i s _ Hi64.out Hsl.out).mono ?_
        rintro e wz ⟨g5, rfl, -, hr5, hb⟩
        have Hr5 := hid hr5
        clear hr5
        clear x0' x1' x2' g0' g1' g2'
        have HrG := hid (above_row hb HrG.out)
        have HrX := hid (above_row hb HrX.out)
        have HrC := hid (above_row hb HrC.out)
        have HrW := hid (above_row hb HrW.out)
        have HE := hid (errType_above HE.out hb)
        have HB := hid (HB.out.trans (hb.mono HB.out.size))
        clear hb
        obtain ⟨x0', x1', x2', -, -, -⟩ := three _ _ _ _ HrX.out
        obtain ⟨g0', g1', g2', -, -, -⟩ := three _ _ _ _ HrG.out
        simp at x0' x1' x2' g0' g1' g2'
        go_wp2_with fail
        have hs1 := same_go ⟨g1, 0, none⟩ ⟨g5, 0, none⟩ 3 3 3 (fun j => (wordsF a c s.data.toList j : Nat)) (fun j => (wordsF a c s.data.toList j : Nat)) wz (by omega) (fun j hj => by
          rw [show (⟨g1, 0, none⟩ : Addr).add j = ⟨g1, j, none⟩ by unfold Addr.add; split <;> simp_all]; exact HrW.out.cell hj) (fun j hj => by
          rw [show (⟨g5, 0, none⟩ : Addr).add j = ⟨g5, j, none⟩ by unfold Addr.add; split <;> simp_all]; exact Hr5.out.cell hj)
        refine (hs1.mono (R' := fun e y => e = .returned (.bool true) ∧ Below wz.heap.size wz y) (fun e y h => ⟨h.1.trans (by rw [decide_eq_true (fun _ _ => rfl)]), h.2⟩)).mono ?_
        clear hs1
        rintro e wy ⟨rfl, hb⟩
        clear x0' x1' x2' g0' g1' g2'
        have HrG := hid (above_row hb HrG.out)
        have HrX := hid (above_row hb HrX.out)
        have HrC := hid (above_row hb HrC.out)
        have HrW := hid (above_row hb HrW.out)
        have HE := hid (errType_above HE.out hb)
        have HB := hid (HB.out.trans (hb.mono HB.out.size))
        clear hb
        obtain ⟨x0', x1', x2', -, -, -⟩ := three _ _ _ _ HrX.out
        obtain ⟨g0', g1', g2', -, -, -⟩ := three _ _ _ _ HrG.out
        simp at x0' x1' x2' g0' g1' g2'
        go_wp2_with fail
        obtain ⟨hg, hn0, hnb⟩ := headB_parts Hhd.out
        refine (rgeom_any p i b _).mono ?_
        rintro e wz ⟨rfl, hb⟩
        clear x0' x1' x2' g0' g1' g2'
        have HrG := hid (above_row hb HrG.out)
        have HrX := hid (above_row hb HrX.out)
        have HrC := hid (above_row hb HrC.out)
        have HrW := hid (above_row hb HrW.out)
        have HE := hid (errType_above HE.out hb)
        have HB := hid (HB.out.trans (hb.mono HB.out.size))
        clear hb
        obtain ⟨x0', x1', x2', -, -, -⟩ := three _ _ _ _ HrX.out
        obtain ⟨g0', g1', g2', -, -, -⟩ := three _ _ _ _ HrG.out
        simp at x0' x1' x2' g0' g1' g2'
        rw [hg]
        clear hg
        go_wp2_with (first
          | (go_at_call 19; refine (HH19.out _).mono ?_; rintro e w' ⟨rfl, rfl⟩)
          | refine wpList_load41 rfl 94 rfl (.tmp 5) rfl (w.heap.size + 1) rfl F HrC.out ?_)
        refine (rmayblock_any (dirOf F) next p i b ino kind nm _ HF.out.dir Hn.out).mono ?_
        rintro e wz ⟨rfl, hb⟩
        clear x0' x1' x2' g0' g1' g2'
        have HrG := hid (above_row hb HrG.out)
        have HrX := hid (above_row hb HrX.out)
        have HrC := hid (above_row hb HrC.out)
        have HrW := hid (above_row hb HrW.out)
        have HE := hid (errType_above HE.out hb)
        have HB := hid (HB.out.trans (hb.mono HB.out.size))
        clear hb
        obtain ⟨x0', x1', x2', -, -, -⟩ := three _ _ _ _ HrX.out
        obtain ⟨g0', g1', g2', -, -, -⟩ := three _ _ _ _ HrG.out
        simp at x0' x1' x2' g0' g1' g2'
        rw [Hbb.out]
        go_wp2_with fail
        refine (alive_any _ HE.out).mono ?_
        rintro e wz ⟨rfl, hb⟩
        have HB := hid (HB.out.trans (hb.mono HB.out.size))
        clear hb
        go_wp2
        go_ret
        exact ⟨rfl, HB.out⟩
    · refine (block_yes (dirOf F) next p i b ino kind nm _ HF.out.dir hbb).mono ?_
      rintro e wz ⟨g2, cap2, R2, rfl, -, hc2, hR2, hf2, hb⟩
      have HrK := hid hR2
      have Hf2 := hid hf2
      clear hR2 hf2
      have Hbb := hid hbb
      clear x0' x1' x2' g0' g1' g2'
      have HrG := hid (above_row hb HrG.out)
      have HrX := hid (above_row hb HrX.out)
      have HrC := hid (above_row hb HrC.out)
      have HrW := hid (above_row hb HrW.out)
      have HE := hid (errType_above HE.out hb)
      have HB := hid (HB.out.trans (hb.mono HB.out.size))
      clear hb
      obtain ⟨x0', x1', x2', -, -, -⟩ := three _ _ _ _ HrX.out
      obtain ⟨g0', g1', g2', -, -, -⟩ := three _ _ _ _ HrG.out
      simp at x0' x1' x2' g0' g1' g2'
      clear hbb
      go_wp2_with fail
      cases hhd : (gok p i b && decide (0 ≤ nx) && decide (nx ≤ b))
      · have HH13 := hid fun W => head_no nx p i b W hhd
        have Hhd := hid hhd
        clear hhd
        refine (HH13.out _).mono ?_
        rintro e wz ⟨rfl, hb⟩
        clear x0' x1' x2' g0' g1' g2'
        have HrG := hid (above_row hb HrG.out)
        have HrX := hid (above_row hb HrX.out)
        have HrC := hid (above_row hb HrC.out)
        have HrW := hid (above_row hb HrW.out)
        have HrK := hid (above_row hb HrK.out)
        have HE := hid (errType_above HE.out hb)
        have HB := hid (HB.out.trans (hb.mono HB.out.size))
        clear hb
        obtain ⟨x0', x1', x2', -, -, -⟩ := three _ _ _ _ HrX.out
        obtain ⟨g0', g1', g2', -, -, -⟩ := three _ _ _ _ HrG.out
        simp at x0' x1' x2' g0' g1' g2'
        go_wp2_with fail
        refine (rmay_any a c p i b s (by omega) _).mono ?_
        rintro e wz ⟨rfl, hb⟩
        clear x0' x1' x2' g0' g1' g2'
        have HrG := hid (above_row hb HrG.out)
        have HrX := hid (above_row hb HrX.out)
        have HrC := hid (above_row hb HrC.out)
        have HrW := hid (above_row hb HrW.out)
        have HrK := hid (above_row hb HrK.out)
        have HE := hid (errType_above HE.out hb)
        have HB := hid (HB.out.trans (hb.mono HB.out.size))
        clear hb
        obtain ⟨x0', x1', x2', -, -, -⟩ := three _ _ _ _ HrX.out
        obtain ⟨g0', g1', g2', -, -, -⟩ := three _ _ _ _ HrG.out
        simp at x0' x1' x2' g0' g1' g2'
        rw [hmy]
        go_wp2_with fail
        refine (may_any a c p i b s _).mono ?_
        rintro e wz ⟨rfl, hb⟩
        clear x0' x1' x2' g0' g1' g2'
        have HrG := hid (above_row hb HrG.out)
        have HrX := hid (above_row hb HrX.out)
        have HrC := hid (above_row hb HrC.out)
        have HrW := hid (above_row hb HrW.out)
        have HrK := hid (above_row hb HrK.out)
        have HE := hid (errType_above HE.out hb)
        have HB := hid (HB.out.trans (hb.mono HB.out.size))
        clear hb
        obtain ⟨x0', x1', x2', -, -, -⟩ := three _ _ _ _ HrX.out
        obtain ⟨g0', g1', g2', -, -, -⟩ := three _ _ _ _ HrG.out
        simp at x0' x1' x2' g0' g1' g2'
        rw [hmy]
        go_wp2_with fail
        refine (rencode_any a c i s _ Hi64.out Hsl.out).mono ?_
        rintro e wz ⟨g5, rfl, -, hr5, hb⟩
        have Hr5 := hid hr5
        clear hr5
        clear x0' x1' x2' g0' g1' g2'
        have HrG := hid (above_row hb HrG.out)
        have HrX := hid (above_row hb HrX.out)
        have HrC := hid (above_row hb HrC.out)
        have HrW := hid (above_row hb HrW.out)
        have HrK := hid (above_row hb HrK.out)
        have HE := hid (errType_above HE.out hb)
        have HB := hid (HB.out.trans (hb.mono HB.out.size))
        clear hb
        obtain ⟨x0', x1', x2', -, -, -⟩ := three _ _ _ _ HrX.out
        obtain ⟨g0', g1', g2', -, -, -⟩ := three _ _ _ _ HrG.out
        simp at x0' x1' x2' g0' g1' g2'
        go_wp2_with fail
        have hs1 := same_go ⟨g1, 0, none⟩ ⟨g5, 0, none⟩ 3 3 3 (fun j => (wordsF a c s.data.toList j : Nat)) (fun j => (wordsF a c s.data.toList j : Nat)) wz (by omega) (fun j hj => by
          rw [show (⟨g1, 0, none⟩ : Addr).add j = ⟨g1, j, none⟩ by unfold Addr.add; split <;> simp_all]; exact HrW.out.cell hj) (fun j hj => by
          rw [show (⟨g5, 0, none⟩ : Addr).add j = ⟨g5, j, none⟩ by unfold Addr.add; split <;> simp_all]; exact Hr5.out.cell hj)
        refine (hs1.mono (R' := fun e y => e = .returned (.bool true) ∧ Below wz.heap.size wz y) (fun e y h => ⟨h.1.trans (by rw [decide_eq_true (fun _ _ => rfl)]), h.2⟩)).mono ?_
        clear hs1
        rintro e wy ⟨rfl, hb⟩
        clear x0' x1' x2' g0' g1' g2'
        have HrG := hid (above_row hb HrG.out)
        have HrX := hid (above_row hb HrX.out)
        have HrC := hid (above_row hb HrC.out)
        have HrW := hid (above_row hb HrW.out)
        have HrK := hid (above_row hb HrK.out)
        have HE := hid (errType_above HE.out hb)
        have HB := hid (HB.out.trans (hb.mono HB.out.size))
        clear hb
        obtain ⟨x0', x1', x2', -, -, -⟩ := three _ _ _ _ HrX.out
        obtain ⟨g0', g1', g2', -, -, -⟩ := three _ _ _ _ HrG.out
        simp at x0' x1' x2' g0' g1' g2'
        go_wp2_with fail
        refine (rgeom_any p i b _).mono ?_
        rintro e wz ⟨rfl, hb⟩
        clear x0' x1' x2' g0' g1' g2'
        have HrG := hid (above_row hb HrG.out)
        have HrX := hid (above_row hb HrX.out)
        have HrC := hid (above_row hb HrC.out)
        have HrW := hid (above_row hb HrW.out)
        have HrK := hid (above_row hb HrK.out)
        have HE := hid (errType_above HE.out hb)
        have HB := hid (HB.out.trans (hb.mono HB.out.size))
        clear hb
        obtain ⟨x0', x1', x2', -, -, -⟩ := three _ _ _ _ HrX.out
        obtain ⟨g0', g1', g2', -, -, -⟩ := three _ _ _ _ HrG.out
        simp at x0' x1' x2' g0' g1' g2'
        rcases headB_not Hhd.out with hg | ⟨hg, hn0⟩ | ⟨hg, hn0, hnb⟩
        · rw [hg]
          clear hg
          go_wp2_with (refine wpList_load41 rfl 94 rfl (.tmp 5) rfl (w.heap.size + 1) rfl F HrC.out ?_)
          refine (rmayblock_any (dirOf F) next p i b ino kind nm _ HF.out.dir Hn.out).mono ?_
          rintro e wz ⟨rfl, hb⟩
          clear x0' x1' x2' g0' g1' g2'
          have HrG := hid (above_row hb HrG.out)
          have HrX := hid (above_row hb HrX.out)
          have HrC := hid (above_row hb HrC.out)
          have HrW := hid (above_row hb HrW.out)
          have HrK := hid (above_row hb HrK.out)
          have HE := hid (errType_above HE.out hb)
          have HB := hid (HB.out.trans (hb.mono HB.out.size))
          clear hb
          obtain ⟨x0', x1', x2', -, -, -⟩ := three _ _ _ _ HrX.out
          obtain ⟨g0', g1', g2', -, -, -⟩ := three _ _ _ _ HrG.out
          simp at x0' x1' x2' g0' g1' g2'
          rw [Hbb.out]
          go_wp2_with (refine wpList_load41 rfl 109 rfl (.tmp 5) rfl (w.heap.size + 1) rfl F HrC.out ?_)
          refine (rblock_any (dirOf F) next p i b ino kind nm _ HF.out.dir Hbb.out).mono ?_
          rintro e wz ⟨g3, cap3, rfl, hlt3, hc3, hb⟩
          have HrK := hid (above_row hb HrK.out)
          have Hc3 := hid hc3
          clear x0' x1' x2' g0' g1' g2'
          have HrG := hid (above_row hb HrG.out)
          have HrX := hid (above_row hb HrX.out)
          have HrC := hid (above_row hb HrC.out)
          have HE := hid (errType_above HE.out hb)
          have HB := hid (HB.out.trans (hb.mono HB.out.size))
          clear hb
          clear hc3 hlt3
          go_wp2_with fail
          have hs1 := same_go ⟨g2, 0, none⟩ ⟨g3, 0, none⟩ 32 cap2 cap3 (fun j => (blockF next ino kind nm j : Nat)) (fun j => (blockF next ino kind nm j : Nat)) wz (by omega) (fun j hj => by
            rw [show (⟨g2, 0, none⟩ : Addr).add j = ⟨g2, j, none⟩ by unfold Addr.add; split <;> simp_all, HrK.out.cell (by omega), Hf2.out j hj]) (fun j hj => by
            rw [show (⟨g3, 0, none⟩ : Addr).add j = ⟨g3, j, none⟩ by unfold Addr.add; split <;> simp_all]; exact Hc3.out j hj)
          refine (hs1.mono (R' := fun e y => e = .returned (.bool true) ∧ Below wz.heap.size wz y) (fun e y h => ⟨h.1.trans (by rw [decide_eq_true (fun _ _ => rfl)]), h.2⟩)).mono ?_
          clear hs1
          rintro e wy ⟨rfl, hb⟩
          have HrG := hid (above_row hb HrG.out)
          have HrX := hid (above_row hb HrX.out)
          have HrC := hid (above_row hb HrC.out)
          have HE := hid (errType_above HE.out hb)
          have HB := hid (HB.out.trans (hb.mono HB.out.size))
          clear hb
          go_wp2_with fail
          refine (alive_any _ HE.out).mono ?_
          rintro e wz ⟨rfl, hb⟩
          have HB := hid (HB.out.trans (hb.mono HB.out.size))
          clear hb
          go_wp2
          go_ret
          exact ⟨rfl, HB.out⟩
        · rw [hg]
          clear hg
          go_wp2_with (refine wpList_load41 rfl 94 rfl (.tmp 5) rfl (w.heap.size + 1) rfl F HrC.out ?_)
          refine (rmayblock_any (dirOf F) next p i b ino kind nm _ HF.out.dir Hn.out).mono ?_
          rintro e wz ⟨rfl, hb⟩
          clear x0' x1' x2' g0' g1' g2'
          have HrG := hid (above_row hb HrG.out)
          have HrX := hid (above_row hb HrX.out)
          have HrC := hid (above_row hb HrC.out)
          have HrW := hid (above_row hb HrW.out)
          have HrK := hid (above_row hb HrK.out)
          have HE := hid (errType_above HE.out hb)
          have HB := hid (HB.out.trans (hb.mono HB.out.size))
          clear hb
          obtain ⟨x0', x1', x2', -, -, -⟩ := three _ _ _ _ HrX.out
          obtain ⟨g0', g1', g2', -, -, -⟩ := three _ _ _ _ HrG.out
          simp at x0' x1' x2' g0' g1' g2'
          rw [Hbb.out]
          go_wp2_with (refine wpList_load41 rfl 109 rfl (.tmp 5) rfl (w.heap.size + 1) rfl F HrC.out ?_)
          refine (rblock_any (dirOf F) next p i b ino kind nm _ HF.out.dir Hbb.out).mono ?_
          rintro e wz ⟨g3, cap3, rfl, hlt3, hc3, hb⟩
          have HrK := hid (above_row hb HrK.out)
          have Hc3 := hid hc3
          clear x0' x1' x2' g0' g1' g2'
          have HrG := hid (above_row hb HrG.out)
          have HrX := hid (above_row hb HrX.out)
          have HrC := hid (above_row hb HrC.out)
          have HE := hid (errType_above HE.out hb)
          have HB := hid (HB.out.trans (hb.mono HB.out.size))
          clear hb
          clear hc3 hlt3
          go_wp2_with fail
          have hs1 := same_go ⟨g2, 0, none⟩ ⟨g3, 0, none⟩ 32 cap2 cap3 (fun j => (blockF next ino kind nm j : Nat)) (fun j => (blockF next ino kind nm j : Nat)) wz (by omega) (fun j hj => by
            rw [show (⟨g2, 0, none⟩ : Addr).add j = ⟨g2, j, none⟩ by unfold Addr.add; split <;> simp_all, HrK.out.cell (by omega), Hf2.out j hj]) (fun j hj => by
            rw [show (⟨g3, 0, none⟩ : Addr).add j = ⟨g3, j, none⟩ by unfold Addr.add; split <;> simp_all]; exact Hc3.out j hj)
          refine (hs1.mono (R' := fun e y => e = .returned (.bool true) ∧ Below wz.heap.size wz y) (fun e y h => ⟨h.1.trans (by rw [decide_eq_true (fun _ _ => rfl)]), h.2⟩)).mono ?_
          clear hs1
          rintro e wy ⟨rfl, hb⟩
          have HrG := hid (above_row hb HrG.out)
          have HrX := hid (above_row hb HrX.out)
          have HrC := hid (above_row hb HrC.out)
          have HE := hid (errType_above HE.out hb)
          have HB := hid (HB.out.trans (hb.mono HB.out.size))
          clear hb
          go_wp2_with fail
          refine (alive_any _ HE.out).mono ?_
          rintro e wz ⟨rfl, hb⟩
          have HB := hid (HB.out.trans (hb.mono HB.out.size))
          clear hb
          go_wp2
          go_ret
          exact ⟨rfl, HB.out⟩
        · rw [hg]
          clear hg
          go_wp2_with (refine wpList_load41 rfl 94 rfl (.tmp 5) rfl (w.heap.size + 1) rfl F HrC.out ?_)
          refine (rmayblock_any (dirOf F) next p i b ino kind nm _ HF.out.dir Hn.out).mono ?_
          rintro e wz ⟨rfl, hb⟩
          clear x0' x1' x2' g0' g1' g2'
          have HrG := hid (above_row hb HrG.out)
          have HrX := hid (above_row hb HrX.out)
          have HrC := hid (above_row hb HrC.out)
          have HrW := hid (above_row hb HrW.out)
          have HrK := hid (above_row hb HrK.out)
          have HE := hid (errType_above HE.out hb)
          have HB := hid (HB.out.trans (hb.mono HB.out.size))
          clear hb
          obtain ⟨x0', x1', x2', -, -, -⟩ := three _ _ _ _ HrX.out
          obtain ⟨g0', g1', g2', -, -, -⟩ := three _ _ _ _ HrG.out
          simp at x0' x1' x2' g0' g1' g2'
          rw [Hbb.out]
          go_wp2_with (refine wpList_load41 rfl 109 rfl (.tmp 5) rfl (w.heap.size + 1) rfl F HrC.out ?_)
          refine (rblock_any (dirOf F) next p i b ino kind nm _ HF.out.dir Hbb.out).mono ?_
          rintro e wz ⟨g3, cap3, rfl, hlt3, hc3, hb⟩
          have HrK := hid (above_row hb HrK.out)
          have Hc3 := hid hc3
          clear x0' x1' x2' g0' g1' g2'
          have HrG := hid (above_row hb HrG.out)
          have HrX := hid (above_row hb HrX.out)
          have HrC := hid (above_row hb HrC.out)
          have HE := hid (errType_above HE.out hb)
          have HB := hid (HB.out.trans (hb.mono HB.out.size))
          clear hb
          clear hc3 hlt3
          go_wp2_with fail
          have hs1 := same_go ⟨g2, 0, none⟩ ⟨g3, 0, none⟩ 32 cap2 cap3 (fun j => (blockF next ino kind nm j : Nat)) (fun j => (blockF next ino kind nm j : Nat)) wz (by omega) (fun j hj => by
            rw [show (⟨g2, 0, none⟩ : Addr).add j = ⟨g2, j, none⟩ by unfold Addr.add; split <;> simp_all, HrK.out.cell (by omega), Hf2.out j hj]) (fun j hj => by
            rw [show (⟨g3, 0, none⟩ : Addr).add j = ⟨g3, j, none⟩ by unfold Addr.add; split <;> simp_all]; exact Hc3.out j hj)
          refine (hs1.mono (R' := fun e y => e = .returned (.bool true) ∧ Below wz.heap.size wz y) (fun e y h => ⟨h.1.trans (by rw [decide_eq_true (fun _ _ => rfl)]), h.2⟩)).mono ?_
          clear hs1
          rintro e wy ⟨rfl, hb⟩
          have HrG := hid (above_row hb HrG.out)
          have HrX := hid (above_row hb HrX.out)
          have HrC := hid (above_row hb HrC.out)
          have HE := hid (errType_above HE.out hb)
          have HB := hid (HB.out.trans (hb.mono HB.out.size))
          clear hb
          go_wp2_with fail
          refine (alive_any _ HE.out).mono ?_
          rintro e wz ⟨rfl, hb⟩
          have HB := hid (HB.out.trans (hb.mono HB.out.size))
          clear hb
          go_wp2
          go_ret
          exact ⟨rfl, HB.out⟩
      · have HH13 := hid fun W => head_yes' nx p i b N HN.out W hhd
        have HH19 := hid fun W => rhead' nx p i b N HN.out W hhd
        have Hhd := hid hhd
        clear hhd
        refine (HH13.out _).mono ?_
        rintro e wz ⟨rfl, hb⟩
        clear x0' x1' x2' g0' g1' g2'
        have HrG := hid (above_row hb HrG.out)
        have HrX := hid (above_row hb HrX.out)
        have HrC := hid (above_row hb HrC.out)
        have HrW := hid (above_row hb HrW.out)
        have HrK := hid (above_row hb HrK.out)
        have HE := hid (errType_above HE.out hb)
        have HB := hid (HB.out.trans (hb.mono HB.out.size))
        clear hb
        obtain ⟨x0', x1', x2', -, -, -⟩ := three _ _ _ _ HrX.out
        obtain ⟨g0', g1', g2', -, -, -⟩ := three _ _ _ _ HrG.out
        simp at x0' x1' x2' g0' g1' g2'
        go_wp2_with fail
        refine (rmay_any a c p i b s (by omega) _).mono ?_
        rintro e wz ⟨rfl, hb⟩
        clear x0' x1' x2' g0' g1' g2'
        have HrG := hid (above_row hb HrG.out)
        have HrX := hid (above_row hb HrX.out)
        have HrC := hid (above_row hb HrC.out)
        have HrW := hid (above_row hb HrW.out)
        have HrK := hid (above_row hb HrK.out)
        have HE := hid (errType_above HE.out hb)
        have HB := hid (HB.out.trans (hb.mono HB.out.size))
        clear hb
        obtain ⟨x0', x1', x2', -, -, -⟩ := three _ _ _ _ HrX.out
        obtain ⟨g0', g1', g2', -, -, -⟩ := three _ _ _ _ HrG.out
        simp at x0' x1' x2' g0' g1' g2'
        rw [hmy]
        go_wp2_with fail
        refine (may_any a c p i b s _).mono ?_
        rintro e wz ⟨rfl, hb⟩
        clear x0' x1' x2' g0' g1' g2'
        have HrG := hid (above_row hb HrG.out)
        have HrX := hid (above_row hb HrX.out)
        have HrC := hid (above_row hb HrC.out)
        have HrW := hid (above_row hb HrW.out)
        have HrK := hid (above_row hb HrK.out)
        have HE := hid (errType_above HE.out hb)
        have HB := hid (HB.out.trans (hb.mono HB.out.size))
        clear hb
        obtain ⟨x0', x1', x2', -, -, -⟩ := three _ _ _ _ HrX.out
        obtain ⟨g0', g1', g2', -, -, -⟩ := three _ _ _ _ HrG.out
        simp at x0' x1' x2' g0' g1' g2'
        rw [hmy]
        go_wp2_with fail
        refine (rencode_any a c i s _ Hi64.out Hsl.out).mono ?_
        rintro e wz ⟨g5, rfl, -, hr5, hb⟩
        have Hr5 := hid hr5
        clear hr5
        clear x0' x1' x2' g0' g1' g2'
        have HrG := hid (above_row hb HrG.out)
        have HrX := hid (above_row hb HrX.out)
        have HrC := hid (above_row hb HrC.out)
        have HrW := hid (above_row hb HrW.out)
        have HrK := hid (above_row hb HrK.out)
        have HE := hid (errType_above HE.out hb)
        have HB := hid (HB.out.trans (hb.mono HB.out.size))
        clear hb
        obtain ⟨x0', x1', x2', -, -, -⟩ := three _ _ _ _ HrX.out
        obtain ⟨g0', g1', g2', -, -, -⟩ := three _ _ _ _ HrG.out
        simp at x0' x1' x2' g0' g1' g2'
        go_wp2_with fail
        have hs1 := same_go ⟨g1, 0, none⟩ ⟨g5, 0, none⟩ 3 3 3 (fun j => (wordsF a c s.data.toList j : Nat)) (fun j => (wordsF a c s.data.toList j : Nat)) wz (by omega) (fun j hj => by
          rw [show (⟨g1, 0, none⟩ : Addr).add j = ⟨g1, j, none⟩ by unfold Addr.add; split <;> simp_all]; exact HrW.out.cell hj) (fun j hj => by
          rw [show (⟨g5, 0, none⟩ : Addr).add j = ⟨g5, j, none⟩ by unfold Addr.add; split <;> simp_all]; exact Hr5.out.cell hj)
        refine (hs1.mono (R' := fun e y => e = .returned (.bool true) ∧ Below wz.heap.size wz y) (fun e y h => ⟨h.1.trans (by rw [decide_eq_true (fun _ _ => rfl)]), h.2⟩)).mono ?_
        clear hs1
        rintro e wy ⟨rfl, hb⟩
        clear x0' x1' x2' g0' g1' g2'
        have HrG := hid (above_row hb HrG.out)
        have HrX := hid (above_row hb HrX.out)
        have HrC := hid (above_row hb HrC.out)
        have HrW := hid (above_row hb HrW.out)
        have HrK := hid (above_row hb HrK.out)
        have HE := hid (errType_above HE.out hb)
        have HB := hid (HB.out.trans (hb.mono HB.out.size))
        clear hb
        obtain ⟨x0', x1', x2', -, -, -⟩ := three _ _ _ _ HrX.out
        obtain ⟨g0', g1', g2', -, -, -⟩ := three _ _ _ _ HrG.out
        simp at x0' x1' x2' g0' g1' g2'
        go_wp2_with fail
        obtain ⟨hg, hn0, hnb⟩ := headB_parts Hhd.out
        refine (rgeom_any p i b _).mono ?_
        rintro e wz ⟨rfl, hb⟩
        clear x0' x1' x2' g0' g1' g2'
        have HrG := hid (above_row hb HrG.out)
        have HrX := hid (above_row hb HrX.out)
        have HrC := hid (above_row hb HrC.out)
        have HrW := hid (above_row hb HrW.out)
        have HrK := hid (above_row hb HrK.out)
        have HE := hid (errType_above HE.out hb)
        have HB := hid (HB.out.trans (hb.mono HB.out.size))
        clear hb
        obtain ⟨x0', x1', x2', -, -, -⟩ := three _ _ _ _ HrX.out
        obtain ⟨g0', g1', g2', -, -, -⟩ := three _ _ _ _ HrG.out
        simp at x0' x1' x2' g0' g1' g2'
        rw [hg]
        clear hg
        go_wp2_with (first
          | (go_at_call 19; refine (HH19.out _).mono ?_; rintro e w' ⟨rfl, rfl⟩)
          | refine wpList_load41 rfl 94 rfl (.tmp 5) rfl (w.heap.size + 1) rfl F HrC.out ?_)
        refine (rmayblock_any (dirOf F) next p i b ino kind nm _ HF.out.dir Hn.out).mono ?_
        rintro e wz ⟨rfl, hb⟩
        clear x0' x1' x2' g0' g1' g2'
        have HrG := hid (above_row hb HrG.out)
        have HrX := hid (above_row hb HrX.out)
        have HrC := hid (above_row hb HrC.out)
        have HrW := hid (above_row hb HrW.out)
        have HrK := hid (above_row hb HrK.out)
        have HE := hid (errType_above HE.out hb)
        have HB := hid (HB.out.trans (hb.mono HB.out.size))
        clear hb
        obtain ⟨x0', x1', x2', -, -, -⟩ := three _ _ _ _ HrX.out
        obtain ⟨g0', g1', g2', -, -, -⟩ := three _ _ _ _ HrG.out
        simp at x0' x1' x2' g0' g1' g2'
        rw [Hbb.out]
        go_wp2_with (refine wpList_load41 rfl 109 rfl (.tmp 5) rfl (w.heap.size + 1) rfl F HrC.out ?_)
        refine (rblock_any (dirOf F) next p i b ino kind nm _ HF.out.dir Hbb.out).mono ?_
        rintro e wz ⟨g3, cap3, rfl, hlt3, hc3, hb⟩
        have HrK := hid (above_row hb HrK.out)
        have Hc3 := hid hc3
        clear x0' x1' x2' g0' g1' g2'
        have HrG := hid (above_row hb HrG.out)
        have HrX := hid (above_row hb HrX.out)
        have HrC := hid (above_row hb HrC.out)
        have HE := hid (errType_above HE.out hb)
        have HB := hid (HB.out.trans (hb.mono HB.out.size))
        clear hb
        clear hc3 hlt3
        go_wp2_with fail
        have hs1 := same_go ⟨g2, 0, none⟩ ⟨g3, 0, none⟩ 32 cap2 cap3 (fun j => (blockF next ino kind nm j : Nat)) (fun j => (blockF next ino kind nm j : Nat)) wz (by omega) (fun j hj => by
          rw [show (⟨g2, 0, none⟩ : Addr).add j = ⟨g2, j, none⟩ by unfold Addr.add; split <;> simp_all, HrK.out.cell (by omega), Hf2.out j hj]) (fun j hj => by
          rw [show (⟨g3, 0, none⟩ : Addr).add j = ⟨g3, j, none⟩ by unfold Addr.add; split <;> simp_all]; exact Hc3.out j hj)
        refine (hs1.mono (R' := fun e y => e = .returned (.bool true) ∧ Below wz.heap.size wz y) (fun e y h => ⟨h.1.trans (by rw [decide_eq_true (fun _ _ => rfl)]), h.2⟩)).mono ?_
        clear hs1
        rintro e wy ⟨rfl, hb⟩
        have HrG := hid (above_row hb HrG.out)
        have HrX := hid (above_row hb HrX.out)
        have HrC := hid (above_row hb HrC.out)
        have HE := hid (errType_above HE.out hb)
        have HB := hid (HB.out.trans (hb.mono HB.out.size))
        clear hb
        go_wp2_with fail
        refine (alive_any _ HE.out).mono ?_
        rintro e wz ⟨rfl, hb⟩
        have HB := hid (HB.out.trans (hb.mono HB.out.size))
        clear hb
        go_wp2
        go_ret
        exact ⟨rfl, HB.out⟩
end Go.Proofs.YtejapeafepcacaaDoor
