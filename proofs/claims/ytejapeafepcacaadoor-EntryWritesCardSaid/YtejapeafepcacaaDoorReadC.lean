/- entry.Read of any words: the block, or where they are none (readR). -/
import Derived.Test.YtejapeafepcacaaDoorBackA
namespace Go.Proofs.YtejapeafepcacaaDoor
open Go.RowKit
section
attribute [local irreducible] dirOf

set_option maxHeartbeats 1000000 in
set_option maxRecDepth 100000 in
theorem read_geom (A : Option Addr) (m cap : Nat) (p i b : Int) (w : World) (h : gok p i b = false) :
    Calls Tryd.prog 22 #[.slice A m cap, .agg #[.int .i64 p, .int .i64 i, .int .i64 b]] w fun e w' => e = .returned (.tuple #[.agg (dirOf zF), .iface 58 (.agg #[.int .i64 0, .int .i64 2])]) ∧ Below w.heap.size w w' := by
  have H := hid h
  clear h
  go_enter Tryd.func22, Tryd.ntmps22
  go_wp2_with fail
  rw [zero_lit]
  go_step3
  go_wp2_with fail
  refine (check_no _ _ _ _ H.out).mono ?_
  rintro e w1 ⟨rfl, hb⟩
  have hB := (((Below.refl w.heap.size w).alloc (Nat.le_refl _) (.cells #[.int .i64 p, .int .i64 i, .int .i64 b] 25)).alloc (by simp) (.cells (dirOf zF) 41)).trans (hb.mono (by simp; omega))
  have rZ := row_dirOf (w.alloc (.cells #[.int .i64 p, .int .i64 i, .int .i64 b] 25)) zF
  have HrZ : Hid (w1.rowIs (w.heap.size + 1) 41 31 zF) := by have := above_row hb rZ; rw [show (w.alloc (.cells #[.int .i64 p, .int .i64 i, .int .i64 b] 25)).heap.size = w.heap.size + 1 by simp] at this; exact hid this
  have HB := hid hB
  clear hb hB rZ
  go_wp2_with (first
    | refine wpList_load41 rfl 15 rfl (.tmp 4) rfl (w.heap.size + 1) rfl zF HrZ.out ?_
    | refine wpList_store41 rfl (.tmp 4) (.tmp 15) rfl (w.heap.size + 1) zF zF HrZ.out rfl rfl zF_is.one ?_)
  have hl := run_block _ _ _ (setRow_row zF HrZ.out)
  try rw [Exit.noGoto_ret]
  refine bodyPost_ret (v := .tuple #[.agg (dirOf zF), .iface 58 (.agg #[.int .i64 0, .int .i64 2])]) ?_ rfl ⟨rfl, ?_⟩
  · exact results_cell_tmp Tryd.results22 _ Tryd.prog _ _ _ rfl hl
  · exact HB.out.trans (setRow_below (by omega) _)
end
/-- Where words are no block, and why: none if they are one. -/
def readR (m : Nat) (f : Nat → Nat) (p i b : Int) : Option (Nat × Int) :=
  if gok p i b = false then some (0, 2)
  else if m ≠ 32 ∨ f 0 / 4294967296 ≠ 1145655857 ∨ b < (f 0 % 4294967296 : Nat) then some (0, 7)
  else if f 1 ≠ 0 then some (1, 7)
  else ((List.range 10).find? fun k => !decB (slotAt f k) i).map fun k => (2 + 3 * k, 7)
def errV (r : Option (Nat × Int)) : Value := match r with
  | none => .nilIface
  | some (a, e) => .iface 58 (.agg #[.int .i64 (a : Nat), .int .i64 e])
theorem readR_geom {m : Nat} {f : Nat → Nat} {p i b : Int} (h : gok p i b = false) : readR m f p i b = some (0, 2) := by unfold readR; rw [if_pos h]
theorem readR_form {m : Nat} {f : Nat → Nat} {p i b : Int} (h : gok p i b = true) (hm : m ≠ 32 ∨ f 0 / 4294967296 ≠ 1145655857 ∨ b < (f 0 % 4294967296 : Nat)) : readR m f p i b = some (0, 7) := by unfold readR; rw [if_neg (by rw [h]; simp), if_pos hm]
theorem readR_one {f : Nat → Nat} {p i b : Int} (h : gok p i b = true) (h0 : f 0 / 4294967296 = 1145655857) (hb : (f 0 % 4294967296 : Nat) ≤ b) (h1 : f 1 ≠ 0) : readR 32 f p i b = some (1, 7) := by
  unfold readR; rw [if_neg (by rw [h]; simp), if_neg (by omega), if_pos h1]
theorem readR_slots {f : Nat → Nat} {p i b : Int} (h : gok p i b = true) (h0 : f 0 / 4294967296 = 1145655857) (hb : (f 0 % 4294967296 : Nat) ≤ b) (h1 : f 1 = 0) :
    readR 32 f p i b = ((List.range 10).find? fun k => !decB (slotAt f k) i).map fun k => (2 + 3 * k, 7) := by
  unfold readR; rw [if_neg (by rw [h]; simp), if_neg (by omega), if_neg (by simp [h1])]
theorem readR_none {m : Nat} {f : Nat → Nat} {p i b : Int} (h : readR m f p i b = none) :
    m = 32 ∧ blockB ((f 0 % 256 : Nat) : Int) (rIno f) (rKind f) (rNm f) p i b = true ∧ ∀ j, j < 32 → blockF ((f 0 % 256 : Nat) : Int) (rIno f) (rKind f) (rNm f) j = f j := by
  cases hg : gok p i b
  · rw [readR_geom hg] at h; cases h
  by_cases hm : m ≠ 32 ∨ f 0 / 4294967296 ≠ 1145655857 ∨ b < (f 0 % 4294967296 : Nat)
  · rw [readR_form hg hm] at h; cases h
  have hm1 : m = 32 := by omega
  subst hm1
  by_cases h1 : f 1 = 0
  · rw [readR_slots hg (by omega) (by omega) h1, Option.map_eq_none_iff, List.find?_eq_none] at h
    exact ⟨rfl, back_words f p i b hg (by omega) (by omega) h1 (fun k hk => by have := h k (List.mem_range.2 hk); simpa using this)⟩
  · rw [readR_one hg (by omega) (by omega) h1] at h; cases h
/-- entry.Read of any words. -/
theorem read_any (A : Option Addr) (m cap : Nat) (f : Nat → Nat) (p i b : Int) (w : World) (he : ErrType w) (hf : ∀ k, f k < 18446744073709551616)
    (hA : m = 32 → ∃ g, A = some ⟨g, 0, none⟩ ∧ g < w.heap.size ∧ 32 ≤ cap ∧ ∀ k, k < 32 → w.cell? ⟨g, k, none⟩ = some (.int .u64 (f k : Nat))) :
    Calls Tryd.prog 22 #[.slice A m cap, .agg #[.int .i64 p, .int .i64 i, .int .i64 b]] w fun e w' => (∃ F, ((readR m f p i b = none ∧ CellsIs F ((f 0 % 256 : Nat) : Int) (rIno f) (rKind f) (rNm f)) ∨ (readR m f p i b ≠ none ∧ F = zF)) ∧
      e = .returned (.tuple #[.agg (dirOf F), errV (readR m f p i b)])) ∧ Below w.heap.size w w' := by
  cases hg : gok p i b
  · refine (read_geom A m cap p i b w hg).mono ?_
    rintro e w' ⟨rfl, hb⟩
    exact ⟨⟨zF, .inr ⟨by rw [readR_geom hg]; simp, rfl⟩, by rw [readR_geom hg]; rfl⟩, hb⟩
  by_cases hm : m = 32
  · subst hm
    obtain ⟨g, rfl, hgs, hcap, hcell⟩ := hA rfl
    by_cases h0 : f 0 / 4294967296 = 1145655857
    · by_cases hn : (f 0 % 4294967296 : Nat) ≤ b
      · by_cases h1 : f 1 = 0
        · refine (read_go g cap f p i b w he hg hgs hcap hf hcell h0 hn h1).mono ?_
          rintro e w' ⟨⟨hd, G, hG, rfl⟩ | ⟨k, hk, hlt, hd, rfl⟩, hb⟩
          · have hnone : readR 32 f p i b = none := by
              rw [readR_slots hg h0 hn h1, Option.map_eq_none_iff, List.find?_eq_none]
              intro k hk
              rw [hd k (List.mem_range.1 hk)]
              simp
            exact ⟨⟨G, .inl ⟨hnone, hG⟩, by rw [hnone]; rfl⟩, hb⟩
          · have hsome : readR 32 f p i b = some (2 + 3 * k, 7) := by
              rw [readR_slots hg h0 hn h1, List.find?_range_eq_some.2 ⟨by rw [hd]; rfl, List.mem_range.2 hk, fun j hj => by rw [hlt j hj]; rfl⟩]
              rfl
            exact ⟨⟨zF, .inr ⟨by rw [hsome]; simp, rfl⟩, by rw [hsome]; rfl⟩, hb⟩
        · refine (read_one g cap f p i b w hg hf hcell h0 hn h1).mono ?_
          rintro e w' ⟨rfl, hb⟩
          exact ⟨⟨zF, .inr ⟨by rw [readR_one hg h0 hn h1]; simp, rfl⟩, by rw [readR_one hg h0 hn h1]; rfl⟩, hb⟩
      · refine (read_next g cap f p i b w hg hf hcell h0 (by omega)).mono ?_
        rintro e w' ⟨rfl, hb⟩
        exact ⟨⟨zF, .inr ⟨by rw [readR_form hg (.inr (.inr (by omega)))]; simp, rfl⟩, by rw [readR_form hg (.inr (.inr (by omega)))]; rfl⟩, hb⟩
    · refine (read_mark g cap f p i b w hg hf hcell h0).mono ?_
      rintro e w' ⟨rfl, hb⟩
      exact ⟨⟨zF, .inr ⟨by rw [readR_form hg (.inr (.inl h0))]; simp, rfl⟩, by rw [readR_form hg (.inr (.inl h0))]; rfl⟩, hb⟩
  · refine (read_len A m cap p i b w hg hm).mono ?_
    rintro e w' ⟨rfl, hb⟩
    exact ⟨⟨zF, .inr ⟨by rw [readR_form hg (.inl hm)]; simp, rfl⟩, by rw [readR_form hg (.inl hm)]; rfl⟩, hb⟩
end Go.Proofs.YtejapeafepcacaaDoor
