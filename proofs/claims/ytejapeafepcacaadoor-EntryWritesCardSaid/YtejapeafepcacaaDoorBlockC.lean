/- entry.Block by its contract: where a block may be, where it may not; its words as a function of their place; a slot turned, Next turned. -/
import Derived.Test.YtejapeafepcacaaDoorBlockB
namespace Go.Proofs.YtejapeafepcacaaDoor
open Go.RowKit
def blockF (next : Int) (ino kind : Nat → Int) (nm : Nat → ByteArray) (j : Nat) : Nat := (blockL next ino kind nm 10).getD j 0
theorem blockL_slot (next : Int) (ino kind : Nat → Int) (nm : Nat → ByteArray) : ∀ (n k r : Nat), k < n → r < 3 → (blockL next ino kind nm n)[2 + 3 * k + r]? = some (wordsF (ino k) (kind k) (nm k).data.toList r)
  | 0, k, r, hk, _ => by omega
  | n + 1, k, r, hk, hr => by
    rw [blockL, List.getElem?_append, blockL_len]
    by_cases hkn : k < n
    · rw [if_pos (by omega), blockL_slot next ino kind nm n k r hkn hr]
    · have e : k = n := by omega
      subst e
      rw [if_neg (by omega), show 2 + 3 * k + r - (2 + 3 * k) = r by omega]
      match r, hr with
      | 0, _ => rfl
      | 1, _ => rfl
      | 2, _ => rfl
theorem blockF_slot (next : Int) (ino kind : Nat → Int) (nm : Nat → ByteArray) (k r : Nat) (hk : k < 10) (hr : r < 3) : blockF next ino kind nm (2 + 3 * k + r) = wordsF (ino k) (kind k) (nm k).data.toList r := by
  unfold blockF
  rw [List.getD_eq_getElem?_getD, blockL_slot next ino kind nm 10 k r hk hr]; rfl
theorem blockL_head (next : Int) (ino kind : Nat → Int) (nm : Nat → ByteArray) : ∀ n, (blockL next ino kind nm n)[0]? = some (headN next) ∧ (blockL next ino kind nm n)[1]? = some 0
  | 0 => ⟨rfl, rfl⟩
  | n + 1 => by
    have h := blockL_head next ino kind nm n
    rw [blockL, List.getElem?_append, List.getElem?_append, blockL_len, if_pos (by omega), if_pos (by omega)]
    exact h
theorem blockF_0 (next : Int) (ino kind : Nat → Int) (nm : Nat → ByteArray) : blockF next ino kind nm 0 = headN next := by
  unfold blockF
  rw [List.getD_eq_getElem?_getD, (blockL_head next ino kind nm 10).1]; rfl
theorem blockF_1 (next : Int) (ino kind : Nat → Int) (nm : Nat → ByteArray) : blockF next ino kind nm 1 = 0 := by
  unfold blockF
  rw [List.getD_eq_getElem?_getD, (blockL_head next ino kind nm 10).2]; rfl
theorem at_slot {i : Nat} (h2 : 2 ≤ i) (h : i < 32) : ∃ k r, k < 10 ∧ r < 3 ∧ i = 2 + 3 * k + r := ⟨(i - 2) / 3, (i - 2) % 3, by omega, by omega, by omega⟩
/-- The slots alone decide the words behind the head. -/
theorem blockF_next (n n' : Int) (ino kind : Nat → Int) (nm : Nat → ByteArray) (i : Nat) (h0 : 0 < i) (h : i < 32) : blockF n ino kind nm i = blockF n' ino kind nm i := by
  by_cases h1 : i = 1
  · subst h1; rw [blockF_1, blockF_1]
  · obtain ⟨k, r, hk, hr, rfl⟩ := at_slot (show 2 ≤ i by omega) h
    rw [blockF_slot _ _ _ _ k r hk hr, blockF_slot _ _ _ _ k r hk hr]
def upd {α : Type} (f : Nat → α) (k : Nat) (x : α) (j : Nat) : α := if j = k then x else f j
theorem blockF_upd_in (next : Int) (ino kind : Nat → Int) (nm : Nat → ByteArray) (k : Nat) (a c : Int) (s : ByteArray) (i : Nat) (hk : k < 10) (h1 : 2 + 3 * k ≤ i) (h2 : i < 5 + 3 * k) :
    blockF next (upd ino k a) (upd kind k c) (upd nm k s) i = wordsF a c s.data.toList (i - (2 + 3 * k)) := by
  rw [show i = 2 + 3 * k + (i - (2 + 3 * k)) by omega, blockF_slot _ _ _ _ k _ hk (by omega)]
  simp [upd]
theorem blockF_upd_out (next : Int) (ino kind : Nat → Int) (nm : Nat → ByteArray) (k : Nat) (a c : Int) (s : ByteArray) (i : Nat) (h : i < 32) (ho : ¬ (2 + 3 * k ≤ i ∧ i < 5 + 3 * k)) :
    blockF next (upd ino k a) (upd kind k c) (upd nm k s) i = blockF next ino kind nm i := by
  by_cases h0 : i = 0
  · subst h0; rw [blockF_0, blockF_0]
  by_cases h1 : i = 1
  · subst h1; rw [blockF_1, blockF_1]
  obtain ⟨q, r, hq, hr, rfl⟩ := at_slot (show 2 ≤ i by omega) h
  rw [blockF_slot _ _ _ _ q r hq hr, blockF_slot _ _ _ _ q r hq hr]
  have : q ≠ k := by omega
  simp [upd, this]
def blockB (next : Int) (ino kind : Nat → Int) (nm : Nat → ByteArray) (p i b : Int) : Bool :=
  gok p i b && decide (0 ≤ next) && decide (next ≤ b) && (List.range 10).all fun k => slotB (ino k) (kind k) (nm k).data.toList i
theorem all_slots {ino kind : Nat → Int} {nm : Nat → ByteArray} {i : Int} : ((List.range 10).all fun k => slotB (ino k) (kind k) (nm k).data.toList i) = true ↔ ∀ k, k < 10 → slotB (ino k) (kind k) (nm k).data.toList i = true := by
  rw [List.all_eq_true]
  exact ⟨fun h k hk => h k (List.mem_range.2 hk), fun h k hk => h k (List.mem_range.1 hk)⟩
theorem block_no (C : Array Value) (next p i b : Int) (ino kind : Nat → Int) (nm : Nat → ByteArray) (w : World) (hC : DirIs C next ino kind nm) (h : blockB next ino kind nm p i b = false) :
    Calls Tryd.prog 12 #[.agg C, .agg #[.int .i64 p, .int .i64 i, .int .i64 b]] w fun e w' => e = .returned (.tuple #[.slice none 0 0, .int .i64 2]) ∧ Below w.heap.size w w' := by
  cases hh : gok p i b && decide (0 ≤ next) && decide (next ≤ b)
  · have h0 := hC.next
    have hcC : ∀ j, j < 31 → ((w.alloc (.cells C 41)).alloc (.cells #[.int .i64 p, .int .i64 i, .int .i64 b] 25)).cell? ⟨w.heap.size, j, none⟩ = C[j]? := by
      intro j hj
      rw [World.cell?_alloc_lt _ _ _ (by simp)]
      exact cell_of_row _ _ j C 41 (0, 0) (heap_alloc_last w _)
    rw [← hcC 0 (by omega)] at h0
    have hH := hid fun W => head_no next p i b W hh
    clear hC hcC h hh
    go_enter Tryd.func12, Tryd.ntmps12
    go_wp2_with fail
    refine (hH.out _).mono ?_
    rintro e w1 ⟨rfl, hb⟩
    have Hb := hid ((((Below.refl _ _).alloc (Nat.le_refl _) _).alloc (by simp) _).trans (hb.mono (by simp; omega)))
    clear hb
    go_wp2
    go_ret2
    exact ⟨rfl, Hb.out⟩
  · refine (block_go C next p i b ino kind nm w hC hh).mono ?_
    rintro e w' ⟨⟨hs, v, rfl, -⟩ | ⟨-, rfl⟩, hb⟩
    · have : blockB next ino kind nm p i b = true := by unfold blockB; rw [hh, all_slots.2 hs]; rfl
      rw [this] at h; cases h
    · exact ⟨rfl, hb⟩
theorem block_yes (C : Array Value) (next p i b : Int) (ino kind : Nat → Int) (nm : Nat → ByteArray) (w : World) (hC : DirIs C next ino kind nm) (h : blockB next ino kind nm p i b = true) :
    Calls Tryd.prog 12 #[.agg C, .agg #[.int .i64 p, .int .i64 i, .int .i64 b]] w fun e w' => ∃ g cap R, e = .returned (.tuple #[.slice (some ⟨g, 0, none⟩) 32 cap, .int .i64 0]) ∧ w.heap.size < g ∧ 32 ≤ cap ∧ w'.rowIs g 33 cap R ∧
      (∀ j, j < 32 → R j = .int .u64 (blockF next ino kind nm j : Nat)) ∧ Below w.heap.size w w' := by
  have h' : ((gok p i b && decide (0 ≤ next)) && decide (next ≤ b)) = true ∧ ((List.range 10).all fun k => slotB (ino k) (kind k) (nm k).data.toList i) = true := by
    unfold blockB at h
    exact Bool.and_eq_true_iff.1 h
  refine (block_go C next p i b ino kind nm w hC h'.1).mono ?_
  rintro e w' ⟨⟨hs, v, rfl, ho⟩ | ⟨⟨k, hk, hn⟩, -⟩, hb⟩
  · rcases ho.2 with ⟨-, hz⟩ | ⟨g, cap, cur, rfl, hg, hh, hc, hm, hsz, ht⟩
    · omega
    · refine ⟨g, cap, fun j => cur.getD j undef, rfl, by omega, hc, ⟨cur, hh, by omega, fun j hj => ?_⟩, fun j hj => ?_, hb⟩
      · show _ = some (cur.getD j undef)
        rw [Array.getD_eq_getD_getElem?, Array.getElem?_eq_getElem (by omega)]; rfl
      · have e1 : (cur.toList.take (32 * 1))[j]? = (u64L (blockL next ino kind nm 10))[j]? := by rw [ht]
        have hl : (blockL next ino kind nm 10).length = 32 := blockL_len next ino kind nm 10
        rw [List.getElem?_take, if_pos (by omega), Array.getElem?_toList, u64L, List.getElem?_map, List.getElem?_eq_getElem (by omega)] at e1
        show cur.getD j undef = _
        rw [Array.getD_eq_getD_getElem?, e1]
        unfold blockF
        rw [List.getD_eq_getElem?_getD, List.getElem?_eq_getElem (by omega)]
        rfl
  · rw [all_slots.1 h'.2 k hk] at hn; cases hn
/-- A block's cells as a function. -/
def dirOf (F : Nat → Value) : Array Value := ((List.range 31).map F).toArray
theorem dirOf_get (F : Nat → Value) (j : Nat) (hj : j < 31) : (dirOf F)[j]? = some (F j) := by simp [dirOf, hj]
theorem dirOf_is (F : Nat → Value) (next : Int) (ino kind : Nat → Int) (nm : Nat → ByteArray) (h0 : F 0 = .int .i64 next) (h1 : ∀ k, k < 10 → F (1 + 3 * k) = .int .i64 (ino k))
    (h2 : ∀ k, k < 10 → F (1 + 3 * k + 1) = .int .u8 (kind k)) (h3 : ∀ k, k < 10 → F (1 + 3 * k + 2) = .string (nm k)) : DirIs (dirOf F) next ino kind nm :=
  ⟨by simp [dirOf], by rw [dirOf_get F 0 (by omega), h0], fun k hk => by rw [dirOf_get F _ (by omega), h1 k hk], fun k hk => by rw [dirOf_get F _ (by omega), h2 k hk], fun k hk => by rw [dirOf_get F _ (by omega), h3 k hk]⟩
/-- What the cells of a block are, place by place. -/
structure CellsIs (F : Nat → Value) (next : Int) (ino kind : Nat → Int) (nm : Nat → ByteArray) : Prop where
  h0 : F 0 = .int .i64 next
  h1 : ∀ k, k < 10 → F (1 + 3 * k) = .int .i64 (ino k)
  h2 : ∀ k, k < 10 → F (1 + 3 * k + 1) = .int .u8 (kind k)
  h3 : ∀ k, k < 10 → F (1 + 3 * k + 2) = .string (nm k)
theorem CellsIs.dir {F : Nat → Value} {next : Int} {ino kind : Nat → Int} {nm : Nat → ByteArray} (h : CellsIs F next ino kind nm) : DirIs (dirOf F) next ino kind nm := dirOf_is F next ino kind nm h.h0 h.h1 h.h2 h.h3
theorem DirIs.cells {C : Array Value} {next : Int} {ino kind : Nat → Int} {nm : Nat → ByteArray} (h : DirIs C next ino kind nm) : CellsIs (fun j => C.getD j undef) next ino kind nm :=
  ⟨by rw [Array.getD_eq_getD_getElem?, h.next]; rfl, fun k hk => by rw [Array.getD_eq_getD_getElem?, h.ino k hk]; rfl, fun k hk => by rw [Array.getD_eq_getD_getElem?, h.kind k hk]; rfl, fun k hk => by rw [Array.getD_eq_getD_getElem?, h.nm k hk]; rfl⟩
theorem CellsIs.slot {F : Nat → Value} {next : Int} {ino kind : Nat → Int} {nm : Nat → ByteArray} (h : CellsIs F next ino kind nm) (k : Nat) (a c : Int) (s : ByteArray) :
    CellsIs (fun j => if j = 1 + 3 * k + 2 then .string s else if j = 1 + 3 * k + 1 then .int .u8 c else if j = 1 + 3 * k then .int .i64 a else F j) next (upd ino k a) (upd kind k c) (upd nm k s) := by
  refine ⟨?_, fun q hq => ?_, fun q hq => ?_, fun q hq => ?_⟩
  · rw [if_neg (by omega), if_neg (by omega), if_neg (by omega), h.h0]
  · by_cases e : q = k
    · subst e; rw [if_neg (by omega), if_neg (by omega), if_pos rfl]; simp [upd]
    · rw [if_neg (by omega), if_neg (by omega), if_neg (by omega), h.h1 q hq]; simp [upd, e]
  · by_cases e : q = k
    · subst e; rw [if_neg (by omega), if_pos rfl]; simp [upd]
    · rw [if_neg (by omega), if_neg (by omega), if_neg (by omega), h.h2 q hq]; simp [upd, e]
  · by_cases e : q = k
    · subst e; rw [if_pos rfl]; simp [upd]
    · rw [if_neg (by omega), if_neg (by omega), if_neg (by omega), h.h3 q hq]; simp [upd, e]
theorem CellsIs.turnNext {F : Nat → Value} {next : Int} {ino kind : Nat → Int} {nm : Nat → ByteArray} (h : CellsIs F next ino kind nm) (n : Int) : CellsIs (fun j => if j = 0 then .int .i64 n else F j) n ino kind nm :=
  ⟨by rw [if_pos rfl], fun k hk => by rw [if_neg (by omega), h.h1 k hk], fun k hk => by rw [if_neg (by omega), h.h2 k hk], fun k hk => by rw [if_neg (by omega), h.h3 k hk]⟩
theorem range_of_row {w : World} {B : Nat} {F : Nat → Value} (h : w.rowIs B 41 31 F) : w.rangeAt B 0 (dirOf F).toList := by
  intro j v hj
  have hlt : j < 31 := by
    have := (List.getElem?_eq_some_iff.1 hj).1
    simpa [dirOf] using this
  rw [Array.getElem?_toList, dirOf_get F j hlt] at hj
  rw [Nat.zero_add, h.cell hlt]; exact hj
theorem row_of_alloc (w : World) (C : Array Value) (hs : C.size = 31) : (w.alloc (.cells C 41)).rowIs w.heap.size 41 31 (fun j => C.getD j undef) := by
  rw [← hs]
  exact World.rowIs_alloc w C 41 _ (fun j hj => by rw [Array.getD_eq_getD_getElem?, Array.getElem?_eq_getElem hj]; rfl)
theorem info41 : (Tryd.prog.info? 41).map (·.size) = some 31 := by kernel_rfl
theorem dirOf_size (F : Nat → Value) : (dirOf F).size = 31 := by simp [dirOf]
end Go.Proofs.YtejapeafepcacaaDoor
