/- Walk of entry.Block. -/
import Derived.Test.YtejapeafepcacaaDoorBlockA
namespace Go.Proofs.YtejapeafepcacaaDoor
open Go.RowKit
def headN (next : Int) : Nat := next.toNat + 4294967296 * 1145655857
/-- The words of a block's head and first k slots. -/
def blockL (next : Int) (ino kind : Nat → Int) (nm : Nat → ByteArray) : Nat → List Nat
  | 0 => [headN next, 0]
  | k + 1 => blockL next ino kind nm k ++ [wordsF (ino k) (kind k) (nm k).data.toList 0, wordsF (ino k) (kind k) (nm k).data.toList 1, wordsF (ino k) (kind k) (nm k).data.toList 2]
def u64L (l : List Nat) : List Value := l.map fun (n : Nat) => Value.int .u64 (n : Int)
theorem blockL_len (next : Int) (ino kind : Nat → Int) (nm : Nat → ByteArray) : ∀ k, (blockL next ino kind nm k).length = 2 + 3 * k
  | 0 => rfl
  | k + 1 => by rw [blockL, List.length_append, blockL_len next ino kind nm k]; simp; omega
theorem owns_above {w w' : World} {base e size n : Nat} {v : Value} {xs : List Value} (hb : Below w.heap.size w w') (h : w.ownsRow base e size v n xs) : w'.ownsRow base e size v n xs := by
  refine ⟨h.1, h.2.imp id ?_⟩
  rintro ⟨g, cap, cur, hv, hbg, hg, r⟩
  exact ⟨g, cap, cur, hv, hbg, (hb.block g (Array.getElem?_eq_some_iff.1 hg).1).trans hg, r⟩
set_option maxHeartbeats 1000000 in
set_option maxRecDepth 100000 in
theorem block_go (C : Array Value) (next p i b : Int) (ino kind : Nat → Int) (nm : Nat → ByteArray) (w : World) (hC : DirIs C next ino kind nm) (h : (gok p i b && decide (0 ≤ next) && decide (next ≤ b)) = true) :
    Calls Tryd.prog 12 #[.agg C, .agg #[.int .i64 p, .int .i64 i, .int .i64 b]] w fun e w' =>
      (((∀ k, k < 10 → slotB (ino k) (kind k) (nm k).data.toList i = true) ∧ ∃ v, e = .returned (.tuple #[v, .int .i64 0]) ∧ w'.ownsRow (w.heap.size + 1 + 1) 33 1 v 32 (u64L (blockL next ino kind nm 10))) ∨
       ((∃ k, k < 10 ∧ slotB (ino k) (kind k) (nm k).data.toList i = false) ∧ e = .returned (.tuple #[.slice none 0 0, .int .i64 2]))) ∧ Below w.heap.size w w' := by
  have hg : gok p i b = true := by simp at h; exact h.1.1
  obtain ⟨N, hN⟩ : ∃ N, N = headN next := ⟨_, rfl⟩
  have hH : Hid (∀ W : World, Calls Tryd.prog 13 #[.int .i64 next, .agg #[.int .i64 p, .int .i64 i, .int .i64 b]] W fun e w' => e = .returned (.tuple #[.int .u64 (N : Nat), .int .i64 0]) ∧ Below W.heap.size W w') := by
    subst hN
    exact hid fun W => head_yes next p i b W h
  have HN := hid hN
  obtain ⟨A, hA⟩ : ∃ A, A = C.extract 1 31 := ⟨_, rfl⟩
  have HA := hid hA
  have hcC : ∀ j, j < 31 → ((w.alloc (.cells C 41)).alloc (.cells #[.int .i64 p, .int .i64 i, .int .i64 b] 25)).cell? ⟨w.heap.size, j, none⟩ = C[j]? := by
    intro j hj
    rw [World.cell?_alloc_lt _ _ _ (by simp)]
    exact cell_of_row _ _ j C 41 (0, 0) (heap_alloc_last w _)
  have h0 := hC.next
  rw [← hcC 0 (by omega)] at h0
  have rG := row3 (w.alloc (.cells C 41)) 25 (.int .i64 p) (.int .i64 i) (.int .i64 b) (fun j => if j = 0 then .int .i64 p else if j = 1 then .int .i64 i else .int .i64 b) rfl rfl rfl
  have Hg := hid hg
  have HC := hid hC
  have HcC := hid hcC
  clear hC h hg hcC hN hA
  go_enter Tryd.func12, Tryd.ntmps12
  go_wp2_with fail
  refine (hH.out _).mono ?_
  rintro e w1 ⟨rfl, hb⟩
  have Hb := hid ((((Below.refl _ _).alloc (Nat.le_refl _) _).alloc (by simp) _).trans (hb.mono (by simp; omega)))
  have HG := hid (above_row hb rG)
  have HcC1 := hid (fun j (hj : j < 31) => (hb.cell (p := ⟨w.heap.size, j, none⟩) (by simp; omega)).trans (HcC.out j hj))
  have hbs := hb.size
  simp at hbs
  clear hb rG h0
  go_wp2_with (refine wpList_load_mid rfl 39 (.tmp 25) rfl w.heap.size 1 rfl A.toList _ ?hc Tryd.underlying39 rfl ?hi ?_)
  case hi => rw [HA.out, Array.length_toList, Array.size_extract, HC.out.size]; kernel_rfl
  case hc =>
    intro j v hj
    rw [HA.out, Array.getElem?_toList, Array.getElem?_extract] at hj
    split at hj
    · rename_i hlt
      rw [HC.out.size] at hlt
      rw [World.cell?_alloc_lt _ _ _ (by simp; omega), HcC1.out _ (by omega)]; exact hj
    · cases hj
  go_wp2_with fail
  obtain ⟨i0, hi0, hz0, hz1, hz2⟩ := info_parts u64_info
  have HI0 := hid hi0
  have HZ := hid (And.intro hz0 (And.intro hz1 hz2))
  clear hi0 hz0 hz1 hz2
  go_loopw [8, 27] (fun v x wr => ∃ k : Nat, k ≤ 10 ∧ x = .int .i64 k ∧ wr.ownsRow (w.heap.size + 1 + 1) 33 1 v (2 + 3 * k) (u64L (blockL next ino kind nm k)) ∧
      wr.rowIs (w.heap.size + 1) 25 3 (fun j => if j = 0 then .int .i64 p else if j = 1 then .int .i64 i else .int .i64 b) ∧ (∀ j, j < k → slotB (ino j) (kind j) (nm j).data.toList i = true) ∧ w.heap.size + 1 < wr.heap.size ∧ Below w.heap.size w wr) (fun _ x _ => 10 - (intOf x).toNat)
  case atStart =>
    refine ⟨0, by omega, rfl, ⟨rfl, .inr ⟨w1.heap.size, 2, _, rfl, by omega, heap_alloc_last w1 _, by omega, by unfold maxLen; omega, rfl, ?_⟩⟩, ?_, fun j hj => by omega, by simp; omega, Hb.out.alloc (by omega) _⟩
    · rw [HN.out]; rfl
    · have := HG.out.alloc (.cells #[.int .u64 (N : Nat), .int .u64 0] 33)
      simpa using this
  case round =>
    obtain ⟨k, hk, rfl, hown, hG, hS, hlt0, hB⟩ := hrel
    have Hown := hid hown
    have hgc := three _ _ _ _ hG
    have HGr := hid hG
    have HS := hid hS
    have HB := hid hB
    clear hown hG hS hB
    by_cases hlt : k < 10
    · have hx := run_index39 HC.out k hlt
      rw [← HA.out] at hx
      cases hm : mayB (ino k) (kind k) (nm k).data.toList p i b
      · have He := hid fun W => encode_no (ino k) (kind k) p i b (nm k) W hm
        have Hm := hid hm
        clear hm
        go_wp2_with fail
        refine (He.out _).mono ?_
        rintro e w2 ⟨rfl, hb2⟩
        have Hb2 := hid (HB.out.trans ((((Below.refl _ _).alloc (Nat.le_refl _) _).trans (hb2.mono (by simp))).mono HB.out.size))
        clear hb2 hgc
        go_wp2
        go_ret2
        exact ⟨.inr ⟨⟨k, hlt, by have := Hm.out; simpa [mayB, Hg.out] using this⟩, rfl⟩, Hb2.out⟩
      · have He := hid fun W => encode_yes (ino k) (kind k) p i b (nm k) W hm
        have Hm := hid hm
        clear hm
        go_wp2_with fail
        refine (He.out _).mono ?_
        rintro e w2 ⟨g, rfl, hgg, hrow, hb2⟩
        have hbw := Below.trans ((Below.refl wr.heap.size wr).alloc (Nat.le_refl _) (.cells #[.int .i64 (ino k), .int .u8 (kind k), .string (nm k)] 23)) (hb2.mono (by simp))
        have Hb2 := hid (HB.out.trans (hbw.mono HB.out.size))
        have Hown2 := hid (owns_above hbw Hown.out)
        have HG2 := hid (above_row hbw HGr.out)
        have Hrow := hid hrow
        have hsz := hbw.size
        clear hb2 hbw hgc hrow hgg
        go_wp2_with (at_builtin; refine wpList_append_own _ rfl (.tmp 39) (.tmp 40) 28 rfl (w.heap.size + 1 + 1) 33 i0 (.int .u64 0) 1 8 Tryd.underlying28 HI0.out HZ.out.1 HZ.out.2.1 HZ.out.2.2 rfl (by decide) u8 (2 + 3 * k) (u64L (blockL next ino kind nm k)) rfl Hown2.out ⟨g, 0, none⟩ 3 3 (u64L [wordsF (ino k) (kind k) (nm k).data.toList 0, wordsF (ino k) (kind k) (nm k).data.toList 1, wordsF (ino k) (kind k) (nm k).data.toList 2]) rfl rfl ?c1 ?c2 ?c3 ?c4 ?c5 ?_)
        case c1 =>
          intro j u hj
          match j, hj with
          | 0, hj => simp [u64L] at hj; subst hj; exact Hrow.out.cell (by omega)
          | 1, hj => simp [u64L] at hj; subst hj; exact Hrow.out.cell (i := 1) (by omega)
          | 2, hj => simp [u64L] at hj; subst hj; exact Hrow.out.cell (i := 2) (by omega)
        case c2 => intro u hu; simp [u64L] at hu; rcases hu with rfl | rfl | rfl <;> rfl
        case c3 => unfold maxLen; omega
        case c4 => omega
        case c5 => omega
        intro v' w3 hown' hgrow _
        have hnb : ∀ q, u8.ownBlock = some q → w.heap.size + 1 + 1 ≤ q := fun q hq => (Hown2.out.lt q hq).1
        have Hb3 := hid (Hb2.out.grown hgrow (by omega) (fun q hq => by have := hnb q hq; omega))
        have HG3 := hid (HG2.out.of_block (hgrow.block (w.heap.size + 1) (by omega) (fun e => by have := hnb _ e.symm; omega)))
        have hs3 := hgrow.size
        have Hown3 := hid hown'
        clear hown' hgrow hnb
        go_wp2
        go_roundw
        case rel =>
          refine ⟨k + 1, by omega, by go_num, ?_, HG3.out, fun j hj => ?_, by omega, Hb3.out⟩
          · have := Hown3.out
            rw [show 2 + 3 * (k + 1) = 2 + 3 * k + 3 by omega, blockL]
            simpa [u64L] using this
          · by_cases hjk : j = k
            · subst hjk; have := Hm.out; simpa [mayB, Hg.out] using this
            · exact HS.out j (by omega)
        case measure => simp [intOf]; omega
    · clear hgc
      have h10 : k = 10 := by omega
      subst h10
      go_wp2
      go_ret2
      exact ⟨.inl ⟨HS.out, _, rfl, Hown.out⟩, HB.out⟩
end Go.Proofs.YtejapeafepcacaaDoor
