/- A block and its words, there and back: plain laws, and entry.Read by its contracts. -/
import Derived.Test.YtejapeafepcacaaDoorReadB
import Derived.Test.YtejapeafepcacaaDoorEqDir
import Derived.Test.YtejapeafepcacaaDoorCrc
namespace Go.Proofs.YtejapeafepcacaaDoor
open Go.RowKit
theorem nameN_congr {f g : Nat → Nat} (h : ∀ r, r < 3 → f r = g r) : nameN f = nameN g := by unfold nameN; rw [h 2 (by omega)]
theorem inoN_congr {f g : Nat → Nat} (h : ∀ r, r < 3 → f r = g r) : inoN f = inoN g := by unfold inoN; rw [h 2 (by omega)]
theorem kindN_congr {f g : Nat → Nat} (h : ∀ r, r < 3 → f r = g r) : kindN f = kindN g := by unfold kindN; rw [h 2 (by omega)]
theorem text_congr {f g : Nat → Nat} (h : ∀ r, r < 3 → f r = g r) (hn : nameN f ≤ 16) : textW f (nameN f) = textW g (nameN g) := by
  rw [← nameN_congr h]
  exact textW_congr f g _ (fun j hj => h j (by omega))
theorem decB_congr {f g : Nat → Nat} (h : ∀ r, r < 3 → f r = g r) (i : Int) : decB f i = decB g i := by
  unfold decB
  by_cases hn : nameN f ≤ 16
  · rw [text_congr h hn, inoN_congr h, kindN_congr h, nameN_congr h, h 0 (by omega), h 1 (by omega), h 2 (by omega)]
  · have hn' : ¬ nameN g ≤ 16 := by rw [← nameN_congr h]; exact hn
    rw [decide_eq_false hn, decide_eq_false hn', Bool.false_and, Bool.false_and]

theorem slotAt_block (next : Int) (ino kind : Nat → Int) (nm : Nat → ByteArray) (k : Nat) (hk : k < 10) : ∀ r, r < 3 → slotAt (blockF next ino kind nm) k r = wordsF (ino k) (kind k) (nm k).data.toList r := fun r hr => blockF_slot next ino kind nm k r hk hr
theorem decB_name {f : Nat → Nat} {i : Int} (h : decB f i = true) : nameN f ≤ 16 := by
  unfold decB at h
  exact of_decide_eq_true (Bool.and_eq_true_iff.1 h).1
theorem bytes_eq (s : ByteArray) (l : List UInt8) (h : l = s.data.toList) : (⟨l.toArray⟩ : ByteArray) = s := by
  subst h
  cases s with
  | mk d => rfl
/-- What a block's slot is read as: itself. -/
theorem read_slot (next p i b : Int) (ino kind : Nat → Int) (nm : Nat → ByteArray) (h : blockB next ino kind nm p i b = true) (k : Nat) (hk : k < 10) :
    decB (slotAt (blockF next ino kind nm) k) i = true ∧ rIno (blockF next ino kind nm) k = ino k ∧ rKind (blockF next ino kind nm) k = kind k ∧ rNm (blockF next ino kind nm) k = nm k := by
  have h' : ((gok p i b && decide (0 ≤ next)) && decide (next ≤ b)) = true ∧ ((List.range 10).all fun k => slotB (ino k) (kind k) (nm k).data.toList i) = true := by
    unfold blockB at h
    exact Bool.and_eq_true_iff.1 h
  have hs := all_slots.1 h'.2 k hk
  have hg : gok p i b = true := by have := h'.1; simp at this; exact this.1.1
  obtain ⟨d1, d2, d3, d4⟩ := dec_self (ino k) (kind k) i (nm k).data.toList (gok_iff.1 hg).2.2.2.1 hs
  have hc := slotAt_block next ino kind nm k hk
  have hd : decB (slotAt (blockF next ino kind nm) k) i = true := by rw [decB_congr hc]; exact d1
  refine ⟨hd, ?_, ?_, ?_⟩
  · unfold rIno; rw [inoN_congr hc]; exact d2
  · unfold rKind; rw [kindN_congr hc]; exact d3
  · unfold rNm; rw [text_congr hc (decB_name hd)]; exact bytes_eq _ _ d4
theorem headN_div (next : Int) (h0 : 0 ≤ next) (h1 : next ≤ 255) : headN next / 4294967296 = 1145655857 ∧ headN next % 4294967296 = next.toNat ∧ headN next % 256 = next.toNat := by
  unfold headN
  have : next.toNat ≤ 255 := by omega
  omega
theorem dirOf_same {F G : Nat → Value} {n : Int} {a c : Nat → Int} {s : Nat → ByteArray} (h : CellsIs F n a c s) (h' : CellsIs G n a c s) : dirOf F = dirOf G := by
  unfold dirOf
  congr 1
  refine List.map_congr_left fun j hj => ?_
  have hj' := List.mem_range.1 hj
  by_cases h0 : j = 0
  · subst h0; rw [h.h0, h'.h0]
  · have hk : (j - 1) / 3 < 10 := by omega
    have hr : (j - 1) % 3 = 0 ∨ (j - 1) % 3 = 1 ∨ (j - 1) % 3 = 2 := by omega
    rcases hr with hr | hr | hr
    · rw [show j = 1 + 3 * ((j - 1) / 3) by omega, h.h1 _ hk, h'.h1 _ hk]
    · rw [show j = 1 + 3 * ((j - 1) / 3) + 1 by omega, h.h2 _ hk, h'.h2 _ hk]
    · rw [show j = 1 + 3 * ((j - 1) / 3) + 2 by omega, h.h3 _ hk, h'.h3 _ hk]
theorem blockF_lt (next p i b : Int) (ino kind : Nat → Int) (nm : Nat → ByteArray) (h : blockB next ino kind nm p i b = true) (j : Nat) : blockF next ino kind nm j < 18446744073709551616 := by
  have h' : ((gok p i b && decide (0 ≤ next)) && decide (next ≤ b)) = true ∧ ((List.range 10).all fun k => slotB (ino k) (kind k) (nm k).data.toList i) = true := by
    unfold blockB at h
    exact Bool.and_eq_true_iff.1 h
  have h1 : gok p i b = true ∧ 0 ≤ next ∧ next ≤ b := by have := h'.1; simpa [and_assoc] using this
  have hg := gok_iff.1 h1.1
  by_cases hj : j < 32
  · by_cases h0 : j = 0
    · subst h0; rw [blockF_0]; unfold headN; omega
    by_cases h2 : j = 1
    · subst h2; rw [blockF_1]; omega
    obtain ⟨k, r, hk, hr, rfl⟩ := at_slot (show 2 ≤ j by omega) hj
    rw [blockF_slot _ _ _ _ k r hk hr]
    have hs := all_slots.1 h'.2 k hk
    rcases slotB_cases hs with ⟨e1, e2, e3⟩ | ⟨_, e2, _, e4, e5⟩
    · exact wordsF_lt' _ _ _ r (by omega) (by omega) (by rw [e3]; simp)
    · exact wordsF_lt' _ _ _ r (by omega) (by omega) (namedB_len e5).2
  · unfold blockF
    rw [List.getD_eq_getElem?_getD, List.getElem?_eq_none (by rw [blockL_len]; omega)]
    exact Nat.zero_lt_succ _
/-- entry.Read at the words of a block that may be: the block. -/
theorem read_block (g cap : Nat) (next p i b : Int) (ino kind : Nat → Int) (nm : Nat → ByteArray) (w : World) (he : ErrType w) (h : blockB next ino kind nm p i b = true) (hg : g < w.heap.size) (hcap : 32 ≤ cap)
    (hcell : ∀ k, k < 32 → w.cell? ⟨g, k, none⟩ = some (.int .u64 (blockF next ino kind nm k : Nat))) {F : Nat → Value} (hF : CellsIs F next ino kind nm) :
    Calls Tryd.prog 22 #[.slice (some ⟨g, 0, none⟩) 32 cap, .agg #[.int .i64 p, .int .i64 i, .int .i64 b]] w fun e w' => e = .returned (.tuple #[.agg (dirOf F), .nilIface]) ∧ Below w.heap.size w w' := by
  have h' : ((gok p i b && decide (0 ≤ next)) && decide (next ≤ b)) = true ∧ ((List.range 10).all fun k => slotB (ino k) (kind k) (nm k).data.toList i) = true := by
    unfold blockB at h
    exact Bool.and_eq_true_iff.1 h
  have h1 : gok p i b = true ∧ 0 ≤ next ∧ next ≤ b := by have := h'.1; simpa [and_assoc] using this
  have hgk := gok_iff.1 h1.1
  obtain ⟨a1, a2, a3⟩ := headN_div next h1.2.1 (by omega)
  refine (read_go g cap (blockF next ino kind nm) p i b w he h1.1 hg hcap (blockF_lt next p i b ino kind nm h) hcell (by rw [blockF_0]; exact a1) (by rw [blockF_0, a2]; omega) (blockF_1 _ _ _ _)).mono ?_
  rintro e w' ⟨⟨hd, G, hG, rfl⟩ | ⟨k, hk, -, hd, -⟩, hb⟩
  · rw [blockF_0, a3, show ((next.toNat : Nat) : Int) = next by omega] at hG
    have hG' := hG.congr (fun k hk => (read_slot next p i b ino kind nm h k hk).2.1) (fun k hk => (read_slot next p i b ino kind nm h k hk).2.2.1) (fun k hk => (read_slot next p i b ino kind nm h k hk).2.2.2)
    exact ⟨by rw [dirOf_same hG' hF], hb⟩
  · rw [(read_slot next p i b ino kind nm h k hk).1] at hd; cases hd
/-- What entry.Read accepts is a block that may be, and its words are those. -/
theorem back_words (f : Nat → Nat) (p i b : Int) (hg : gok p i b = true) (hh : f 0 / 4294967296 = 1145655857) (hn : (f 0 % 4294967296 : Nat) ≤ b) (h1 : f 1 = 0) (hd : ∀ k, k < 10 → decB (slotAt f k) i = true) :
    blockB ((f 0 % 256 : Nat) : Int) (rIno f) (rKind f) (rNm f) p i b = true ∧ ∀ j, j < 32 → blockF ((f 0 % 256 : Nat) : Int) (rIno f) (rKind f) (rNm f) j = f j := by
  have hgk := gok_iff.1 hg
  have hparts : ∀ k, k < 10 → slotB (rIno f k) (rKind f k) (rNm f k).data.toList i = true ∧ ∀ r, r < 3 → wordsF (rIno f k) (rKind f k) (rNm f k).data.toList r = slotAt f k r := by
    intro k hk
    have h := hd k hk
    unfold decB at h
    simp only [Bool.and_eq_true, decide_eq_true_iff, eqB3] at h
    obtain ⟨-, h2, h3, h4, h5⟩ := h
    unfold rIno rKind rNm
    rw [toArray_data]
    refine ⟨h2, fun r hr => ?_⟩
    match r, hr with
    | 0, _ => exact h3
    | 1, _ => exact h4
    | 2, _ => exact h5
  refine ⟨?_, fun j hj => ?_⟩
  · unfold blockB
    rw [hg, all_slots.2 (fun k hk => (hparts k hk).1), decide_eq_true (by omega), decide_eq_true (by omega)]
    rfl
  · by_cases h0 : j = 0
    · subst h0
      rw [blockF_0]
      unfold headN
      omega
    by_cases h2 : j = 1
    · subst h2; rw [blockF_1, h1]
    obtain ⟨k, r, hk, hr, rfl⟩ := at_slot (show 2 ≤ j by omega) hj
    rw [blockF_slot _ _ _ _ k r hk hr, (hparts k hk).2 r hr]
    rfl
end Go.Proofs.YtejapeafepcacaaDoor
