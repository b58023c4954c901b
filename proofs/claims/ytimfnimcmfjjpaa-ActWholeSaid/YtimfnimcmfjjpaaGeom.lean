/- geom: Check, Lines, Slot: the lines of a geometry, and where a slot begins. -/
import Derived.Test.YtimfnimcmfjjpaaWritten
import Derived.Deep.RegionHeld3
import Derived.Deep.QuietTactic
import Derived.BigQuiet
namespace Go.Proofs.Ytimfnimcmfjjpaa
open Go.RowKit
theorem bcell {W w1 : World} (hb : Below W.heap.size W w1) : (∀ b o, b < W.heap.size → w1.cell? ⟨b, o, none⟩ = W.cell? ⟨b, o, none⟩) ∧ (∀ b o, b < W.heap.size → w1.frozen? ⟨b, o, none⟩ = W.frozen? ⟨b, o, none⟩) :=
  ⟨fun b o h => hb.cell (p := ⟨b, o, none⟩) h, fun b o h => hb.frozen (p := ⟨b, o, none⟩) h⟩
theorem ret_int {k : IntKind} {a b : Int} (h : a = b) : Ending.returned (.int k a) = .returned (.int k b) := by rw [h]
def gok (p i b : Int) : Bool := decide (1 ≤ p) && decide (p ≤ 8) && decide (2 ≤ i) && decide (i ≤ 64) && decide (4 ≤ b) && decide (b ≤ 255)
theorem gok_iff {p i b : Int} : gok p i b = true ↔ 1 ≤ p ∧ p ≤ 8 ∧ 2 ≤ i ∧ i ≤ 64 ∧ 4 ≤ b ∧ b ≤ 255 := by
  simp [gok, Bool.and_eq_true, and_assoc]
theorem gok_not {p i b : Int} : gok p i b = false ↔ ¬ (1 ≤ p ∧ p ≤ 8 ∧ 2 ≤ i ∧ i ≤ 64 ∧ 4 ≤ b ∧ b ≤ 255) := by
  rw [← gok_iff]; simp
set_option maxHeartbeats 400000 in
theorem check_yes (p i b : Int) (w : World) (h : gok p i b = true) :
    Calls Try.prog 47 #[.agg #[.int .i64 p, .int .i64 i, .int .i64 b]] w fun e w' => e = .returned (.int .i64 0) ∧ Below w.heap.size w w' := by
  obtain ⟨h1, h2, h3, h4, h5, h6⟩ := gok_iff.1 h
  clear h
  go_enter Try.func47, Try.ntmps47
  go_wp2
  go_ret
  exact ⟨rfl, (Below.refl _ _).alloc (Nat.le_refl _) _⟩
set_option maxHeartbeats 400000 in
theorem check_no (p i b : Int) (w : World) (h : gok p i b = false) :
    Calls Try.prog 47 #[.agg #[.int .i64 p, .int .i64 i, .int .i64 b]] w fun e w' => e = .returned (.int .i64 2) ∧ Below w.heap.size w w' := by
  have h0 := gok_not.1 h
  clear h
  go_enter Try.func47, Try.ntmps47
  go_wp2
  all_goals first
    | (go_ret; exact ⟨rfl, (Below.refl _ _).alloc (Nat.le_refl _) _⟩)
    | (exfalso; omega)
theorem sum2_any (g c : Nat) (x y : Int) (w : World) (h0 : w.cell? ⟨g, 0, none⟩ = some (.int .i64 x)) (h1 : w.cell? ⟨g, 1, none⟩ = some (.int .i64 y)) (hx : 0 ≤ x ∧ x ≤ 1000000) (hy : 0 ≤ y ∧ y ≤ 1000000) :
    Calls Try.prog 48 #[.slice (some ⟨g, 0, none⟩) 2 c] w fun e w' => e = .returned (.int .i64 (x + y)) ∧ w = w' := by
  go_enter Try.func48, Try.ntmps48
  go_wp2
  refine wp_loop_rounds 3 ?_
  rw [rounds_succ]
  go_wp2
  rw [rounds_succ]
  go_wp2
  rw [rounds_succ]
  go_wp2
  go_ret
  exact ⟨ret_int (by omega), rfl⟩
theorem inodes_any (w : World) : Calls Try.prog 63 #[] w fun e w' => e = .returned (.int .i64 2) ∧ Below w.heap.size w w' := by
  go_enter Try.func63, Try.ntmps63
  go_wp2_with fail
  refine (sum2_any _ _ 1 1 _ (by simp) (by simp) (by omega) (by omega)).mono ?_
  rintro e w' ⟨rfl, rfl⟩
  go_wp2
  go_ret
  exact ⟨rfl, (Below.refl _ _).alloc (Nat.le_refl _) _⟩
set_option maxHeartbeats 1000000 in
set_option maxRecDepth 100000 in
theorem slots_any (p i b : Int) (w : World) (hi : 0 ≤ i ∧ i ≤ 64) :
    Calls Try.prog 51 #[.agg #[.int .i64 p, .int .i64 i, .int .i64 b]] w fun e w' => e = .returned (.int .i64 (2 + i)) ∧ Below w.heap.size w w' := by
  have hwi : IntKind.i64.wrap i = i := Go.IntWalk.i64_in _ (by omega)
  have b0 : Below w.heap.size w (w.alloc (.cells #[.int .i64 p, .int .i64 i, .int .i64 b] 23)).drew := ((Below.refl _ _).alloc (Nat.le_refl _) _).drew
  have hsz : w.heap.size ≤ (w.alloc (.cells #[.int .i64 p, .int .i64 i, .int .i64 b] 23)).drew.heap.size := by simp
  go_enter Try.func51, Try.ntmps51
  go_wp2_with fail
  go_region_held3 (fun w' => w'.cell? ⟨w.heap.size, 1, none⟩ = some (.int .i64 i)) (go_keep)
    (first
      | (go_at_call 63; refine (inodes_any _).mono ?_; rintro e w1 ⟨rfl, hb⟩; obtain ⟨hc, hf⟩ := bcell hb; have B1 := b0.trans (hb.mono hsz))
      | (go_at_call 48; refine (sum2_any _ _ 2 i _ (by simp) (by simp) (by omega) (by omega)).mono ?_; rintro e w1 ⟨rfl, rfl⟩))
  all_goals
    go_wp2
    go_ret
    exact ⟨rfl, B1.alloc B1.size _⟩
set_option maxHeartbeats 1000000 in
set_option maxRecDepth 100000 in
theorem blocks_any (p i b : Int) (w : World) (hi : 0 ≤ i ∧ i ≤ 64) (hp : 0 ≤ p ∧ p ≤ 8) :
    Calls Try.prog 49 #[.agg #[.int .i64 p, .int .i64 i, .int .i64 b]] w fun e w' => e = .returned (.int .i64 (2 + i + 17 * p)) ∧ Below w.heap.size w w' := by
  have hwi : IntKind.i64.wrap (17 * p) = 17 * p := Go.IntWalk.i64_in _ (by omega)
  have b0 : Below w.heap.size w (w.alloc (.cells #[.int .i64 p, .int .i64 i, .int .i64 b] 23)).drew := ((Below.refl _ _).alloc (Nat.le_refl _) _).drew
  have hsz : w.heap.size ≤ (w.alloc (.cells #[.int .i64 p, .int .i64 i, .int .i64 b] 23)).drew.heap.size := by simp
  go_enter Try.func49, Try.ntmps49
  go_wp2_with fail
  go_region_held3 (fun w' => w'.cell? ⟨w.heap.size, 0, none⟩ = some (.int .i64 p) ∧ w'.cell? ⟨w.heap.size, 1, none⟩ = some (.int .i64 i) ∧ w'.cell? ⟨w.heap.size, 2, none⟩ = some (.int .i64 b)) (go_keep)
    (first
      | (go_at_call 51; refine (slots_any _ _ _ _ hi).mono ?_; rintro e w1 ⟨rfl, hb⟩; obtain ⟨hc, hf⟩ := bcell hb; have B1 := b0.trans (hb.mono hsz))
      | (go_at_call 48; refine (sum2_any _ _ (2 + i) (17 * p) _ (by simp) (by simp) (by omega) (by omega)).mono ?_; rintro e w1 ⟨rfl, rfl⟩))
  all_goals
    go_wp2
    go_ret
    exact ⟨ret_int (by omega), B1.alloc B1.size _⟩
set_option maxHeartbeats 400000 in
set_option maxRecDepth 100000 in
theorem lines_no (p i b : Int) (w : World) (h : gok p i b = false) :
    Calls Try.prog 27 #[.agg #[.int .i64 p, .int .i64 i, .int .i64 b]] w fun e w' => e = .returned (.tuple #[.int .i64 0, .int .i64 2]) ∧ Below w.heap.size w w' := by
  have H := hid h
  clear h
  have b0 : Below w.heap.size w (w.alloc (.cells #[.int .i64 p, .int .i64 i, .int .i64 b] 23)) := ((Below.refl _ _).alloc (Nat.le_refl _) _)
  have hsz : w.heap.size ≤ (w.alloc (.cells #[.int .i64 p, .int .i64 i, .int .i64 b] 23)).heap.size := by simp
  go_enter Try.func27, Try.ntmps27
  go_wp2_with (go_at_call 47; refine (check_no _ _ _ _ H.out).mono ?_; rintro e w1 ⟨rfl, hb⟩; have B1 := b0.trans (hb.mono hsz))
  go_ret2
  exact ⟨rfl, B1⟩
def linesN (p i b : Int) : Int := 2 + i + 17 * p + 4 * b
set_option maxHeartbeats 1000000 in
set_option maxRecDepth 100000 in
theorem lines_yes (p i b : Int) (w : World) (h : gok p i b = true) :
    Calls Try.prog 27 #[.agg #[.int .i64 p, .int .i64 i, .int .i64 b]] w fun e w' => e = .returned (.tuple #[.int .i64 (linesN p i b), .int .i64 0]) ∧ Below w.heap.size w w' := by
  obtain ⟨h1, h2, h3, h4, h5, h6⟩ := gok_iff.1 h
  have H := hid h
  clear h
  have hwi : IntKind.i64.wrap (4 * b) = 4 * b := Go.IntWalk.i64_in _ (by omega)
  have b0 : Below w.heap.size w (w.alloc (.cells #[.int .i64 p, .int .i64 i, .int .i64 b] 23)) := ((Below.refl _ _).alloc (Nat.le_refl _) _)
  have hsz : w.heap.size ≤ (w.alloc (.cells #[.int .i64 p, .int .i64 i, .int .i64 b] 23)).heap.size := by simp
  go_enter Try.func27, Try.ntmps27
  go_wp2_with (go_at_call 47; refine (check_yes _ _ _ _ H.out).mono ?_; rintro e w1 ⟨rfl, hb⟩; obtain ⟨hc, hf⟩ := bcell hb; have B1 := (b0.trans (hb.mono hsz)).drew; have hlt : w.heap.size < w1.heap.size := Nat.lt_of_lt_of_le (by simp) hb.size; clear hb)
  have g0 : w1.drew.cell? ⟨w.heap.size, 0, none⟩ = some (.int .i64 p) := by rw [World.cell?_drew, hc _ _ (by simp)]; simp
  have g1 : w1.drew.cell? ⟨w.heap.size, 1, none⟩ = some (.int .i64 i) := by rw [World.cell?_drew, hc _ _ (by simp)]; simp
  have g2 : w1.drew.cell? ⟨w.heap.size, 2, none⟩ = some (.int .i64 b) := by rw [World.cell?_drew, hc _ _ (by simp)]; simp
  go_region_held3 (fun w' => w'.cell? ⟨w.heap.size, 0, none⟩ = some (.int .i64 p) ∧ w'.cell? ⟨w.heap.size, 1, none⟩ = some (.int .i64 i) ∧ w'.cell? ⟨w.heap.size, 2, none⟩ = some (.int .i64 b)) (go_keep)
    (first
      | (go_at_call 49; refine (blocks_any _ _ _ _ (by omega) (by omega)).mono ?_; rintro e w2 ⟨rfl, hb⟩; have k0 := (hb.cell (p := ⟨w.heap.size, 0, none⟩) hlt).trans g0; have k1 := (hb.cell (p := ⟨w.heap.size, 1, none⟩) hlt).trans g1; have k2 := (hb.cell (p := ⟨w.heap.size, 2, none⟩) hlt).trans g2; have B2 := B1.trans (hb.mono B1.size))
      | (go_at_call 48; refine (sum2_any _ _ (2 + i + 17 * p) (4 * b) _ (by simp) (by simp) (by omega) (by omega)).mono ?_; rintro e w1 ⟨rfl, rfl⟩))
  all_goals
    go_wp2
    go_ret2
    exact ⟨rfl, B2.alloc B2.size _⟩
set_option maxHeartbeats 400000 in
set_option maxRecDepth 100000 in
theorem place_bad (p i b f k n : Int) (w : World) (h : gok p i b = false) :
    Calls Try.prog 50 #[.agg #[.int .i64 p, .int .i64 i, .int .i64 b], .int .i64 f, .int .i64 17, .int .i64 k, .int .i64 n] w fun e w' => e = .returned (.tuple #[.int .i64 0, .int .i64 2]) ∧ Below w.heap.size w w' := by
  have H := hid h
  clear h
  have b0 : Below w.heap.size w (w.alloc (.cells #[.int .i64 p, .int .i64 i, .int .i64 b] 23)) := ((Below.refl _ _).alloc (Nat.le_refl _) _)
  have hsz : w.heap.size ≤ (w.alloc (.cells #[.int .i64 p, .int .i64 i, .int .i64 b] 23)).heap.size := by simp
  go_enter Try.func50, Try.ntmps50
  go_wp2_with (go_at_call 47; refine (check_no _ _ _ _ H.out).mono ?_; rintro e w1 ⟨rfl, hb⟩; have B1 := b0.trans (hb.mono hsz))
  go_ret2
  exact ⟨rfl, B1⟩
set_option maxHeartbeats 400000 in
set_option maxRecDepth 100000 in
theorem place_no (p i b f k n : Int) (w : World) (h : gok p i b = true) (hk : k < 0 ∨ n ≤ k) :
    Calls Try.prog 50 #[.agg #[.int .i64 p, .int .i64 i, .int .i64 b], .int .i64 f, .int .i64 17, .int .i64 k, .int .i64 n] w fun e w' => e = .returned (.tuple #[.int .i64 0, .int .i64 3]) ∧ Below w.heap.size w w' := by
  have H := hid h
  clear h
  have b0 : Below w.heap.size w (w.alloc (.cells #[.int .i64 p, .int .i64 i, .int .i64 b] 23)) := ((Below.refl _ _).alloc (Nat.le_refl _) _)
  have hsz : w.heap.size ≤ (w.alloc (.cells #[.int .i64 p, .int .i64 i, .int .i64 b] 23)).heap.size := by simp
  by_cases hk0 : k < 0
  · go_enter Try.func50, Try.ntmps50
    go_wp2_with (go_at_call 47; refine (check_yes _ _ _ _ H.out).mono ?_; rintro e w1 ⟨rfl, hb⟩; have B1 := b0.trans (hb.mono hsz))
    go_ret2
    exact ⟨rfl, B1⟩
  · have hk1 : n ≤ k := by omega
    go_enter Try.func50, Try.ntmps50
    go_wp2_with (go_at_call 47; refine (check_yes _ _ _ _ H.out).mono ?_; rintro e w1 ⟨rfl, hb⟩; have B1 := b0.trans (hb.mono hsz))
    go_ret2
    exact ⟨rfl, B1⟩
set_option maxHeartbeats 400000 in
set_option maxRecDepth 100000 in
theorem place_yes (p i b f k n : Int) (w : World) (h : gok p i b = true) (hk : 0 ≤ k) (hn : k < n) (hn2 : n ≤ 8) (hf : 0 ≤ f ∧ f ≤ 100000) :
    Calls Try.prog 50 #[.agg #[.int .i64 p, .int .i64 i, .int .i64 b], .int .i64 f, .int .i64 17, .int .i64 k, .int .i64 n] w fun e w' => e = .returned (.tuple #[.int .i64 (8 * (f + 17 * k)), .int .i64 0]) ∧ Below w.heap.size w w' := by
  have H := hid h
  clear h
  have b0 : Below w.heap.size w (w.alloc (.cells #[.int .i64 p, .int .i64 i, .int .i64 b] 23)) := ((Below.refl _ _).alloc (Nat.le_refl _) _)
  have hsz : w.heap.size ≤ (w.alloc (.cells #[.int .i64 p, .int .i64 i, .int .i64 b] 23)).heap.size := by simp
  have hk0 : ¬ k < 0 := by omega
  have hk1 : ¬ n ≤ k := by omega
  go_enter Try.func50, Try.ntmps50
  go_wp2_with (go_at_call 47; refine (check_yes _ _ _ _ H.out).mono ?_; rintro e w1 ⟨rfl, hb⟩; have B1 := b0.trans (hb.mono hsz))
  go_ret2
  exact ⟨rfl, B1⟩
/-- The place of a slot. -/
def slotAt (i s : Int) : Int := 8 * (2 + i + 17 * s)
def Two (i x : Int) : Prop := 0 ≤ i ∧ i ≤ 64 → x = 2 + i
set_option maxHeartbeats 1000000 in
set_option maxRecDepth 100000 in
theorem sum2_wild (g c : Nat) (x y : Int) (w : World) (h0 : w.cell? ⟨g, 0, none⟩ = some (.int .i64 x)) (h1 : w.cell? ⟨g, 1, none⟩ = some (.int .i64 y)) :
    Calls Try.prog 48 #[.slice (some ⟨g, 0, none⟩) 2 c] w fun e w' => (∃ z, e = .returned (.int .i64 z)) ∧ w = w' := by
  go_enter Try.func48, Try.ntmps48
  go_wp2
  refine wp_loop_rounds 3 ?_
  rw [rounds_succ]
  go_wp2
  rw [rounds_succ]
  go_wp2
  rw [rounds_succ]
  go_wp2
  go_ret
  exact ⟨⟨_, rfl⟩, rfl⟩
set_option maxHeartbeats 1000000 in
set_option maxRecDepth 100000 in
theorem slots_wild (p i b : Int) (w : World) :
    Calls Try.prog 51 #[.agg #[.int .i64 p, .int .i64 i, .int .i64 b]] w fun e w' => (∃ z, e = .returned (.int .i64 z)) ∧ Below w.heap.size w w' := by
  have b0 : Below w.heap.size w (w.alloc (.cells #[.int .i64 p, .int .i64 i, .int .i64 b] 23)).drew := ((Below.refl _ _).alloc (Nat.le_refl _) _).drew
  have hsz : w.heap.size ≤ (w.alloc (.cells #[.int .i64 p, .int .i64 i, .int .i64 b] 23)).drew.heap.size := by simp
  go_enter Try.func51, Try.ntmps51
  go_wp2_with fail
  go_region_held3 (fun w' => w'.cell? ⟨w.heap.size, 1, none⟩ = some (.int .i64 i)) (go_keep)
    (first
      | (go_at_call 63; refine (inodes_any _).mono ?_; rintro e w1 ⟨rfl, hb⟩; obtain ⟨hc, hf⟩ := bcell hb; have B1 := b0.trans (hb.mono hsz))
      | (go_at_call 48; refine (sum2_wild _ _ 2 _ _ (by simp) (by simp; rfl)).mono ?_; rintro e w1 ⟨⟨z, rfl⟩, rfl⟩))
  all_goals
    go_wp2
    go_ret
    exact ⟨⟨_, rfl⟩, B1.alloc B1.size _⟩
theorem slots_any' (p i b : Int) (w : World) :
    Calls Try.prog 51 #[.agg #[.int .i64 p, .int .i64 i, .int .i64 b]] w fun e w' => (∃ x, e = .returned (.int .i64 x) ∧ Two i x) ∧ Below w.heap.size w w' := by
  by_cases hi : 0 ≤ i ∧ i ≤ 64
  · exact (slots_any p i b w hi).mono fun e w' ⟨he, hb⟩ => ⟨⟨_, he, fun _ => rfl⟩, hb⟩
  · exact (slots_wild p i b w).mono fun e w' ⟨⟨z, he⟩, hb⟩ => ⟨⟨z, he, fun h => absurd h hi⟩, hb⟩
set_option maxHeartbeats 1000000 in
set_option maxRecDepth 100000 in
theorem slot_bad (p i b s : Int) (w : World) (h : gok p i b = false) :
    Calls Try.prog 28 #[.agg #[.int .i64 p, .int .i64 i, .int .i64 b], .int .i64 s] w fun e w' => e = .returned (.tuple #[.int .i64 0, .int .i64 2]) ∧ Below w.heap.size w w' := by
  have b0 : Below w.heap.size w (w.alloc (.cells #[.int .i64 p, .int .i64 i, .int .i64 b] 23)).drew := ((Below.refl _ _).alloc (Nat.le_refl _) _).drew
  have hsz : w.heap.size ≤ (w.alloc (.cells #[.int .i64 p, .int .i64 i, .int .i64 b] 23)).drew.heap.size := by simp
  have H := hid h
  clear h
  go_enter Try.func28, Try.ntmps28
  go_wp2_with fail
  go_region_held3 (fun w' => w'.cell? ⟨w.heap.size, 0, none⟩ = some (.int .i64 p) ∧ w'.cell? ⟨w.heap.size, 1, none⟩ = some (.int .i64 i) ∧ w'.cell? ⟨w.heap.size, 2, none⟩ = some (.int .i64 b)) (go_keep)
    (first
      | (go_at_call 51; refine (slots_any' _ _ _ _).mono ?_; rintro e w1 ⟨hx, hb⟩; obtain ⟨x, rfl, hx2⟩ := hx; obtain ⟨hc, hf⟩ := bcell hb; have B1 := b0.trans (hb.mono hsz))
      | (go_at_call 50; refine (place_bad _ _ _ _ _ _ _ H.out).mono ?_; rintro e w2 ⟨rfl, hb2⟩; have B2 := B1.trans (hb2.mono B1.size); have k0 := (hb2.cell (p := ⟨w.heap.size, 0, none⟩) (Nat.lt_of_lt_of_le (by simp) hb.size)).trans (show w1.cell? ⟨w.heap.size, 0, none⟩ = some (.int .i64 p) by rw [hc _ _ (by simp)]; simp); have k1 := (hb2.cell (p := ⟨w.heap.size, 1, none⟩) (Nat.lt_of_lt_of_le (by simp) hb.size)).trans (show w1.cell? ⟨w.heap.size, 1, none⟩ = some (.int .i64 i) by rw [hc _ _ (by simp)]; simp); have k2 := (hb2.cell (p := ⟨w.heap.size, 2, none⟩) (Nat.lt_of_lt_of_le (by simp) hb.size)).trans (show w1.cell? ⟨w.heap.size, 2, none⟩ = some (.int .i64 b) by rw [hc _ _ (by simp)]; simp)))
  all_goals
    go_wp2
    go_ret2
    exact ⟨rfl, B2⟩
set_option maxHeartbeats 1000000 in
set_option maxRecDepth 100000 in
theorem slot_no (p i b s : Int) (w : World) (h : gok p i b = true) (hs : s < 0 ∨ p ≤ s) :
    Calls Try.prog 28 #[.agg #[.int .i64 p, .int .i64 i, .int .i64 b], .int .i64 s] w fun e w' => e = .returned (.tuple #[.int .i64 0, .int .i64 3]) ∧ Below w.heap.size w w' := by
  have b0 : Below w.heap.size w (w.alloc (.cells #[.int .i64 p, .int .i64 i, .int .i64 b] 23)).drew := ((Below.refl _ _).alloc (Nat.le_refl _) _).drew
  have hsz : w.heap.size ≤ (w.alloc (.cells #[.int .i64 p, .int .i64 i, .int .i64 b] 23)).drew.heap.size := by simp
  have H := hid h
  clear h
  go_enter Try.func28, Try.ntmps28
  go_wp2_with fail
  go_region_held3 (fun w' => w'.cell? ⟨w.heap.size, 0, none⟩ = some (.int .i64 p) ∧ w'.cell? ⟨w.heap.size, 1, none⟩ = some (.int .i64 i) ∧ w'.cell? ⟨w.heap.size, 2, none⟩ = some (.int .i64 b)) (go_keep)
    (first
      | (go_at_call 51; refine (slots_any' _ _ _ _).mono ?_; rintro e w1 ⟨hx, hb⟩; obtain ⟨x, rfl, hx2⟩ := hx; obtain ⟨hc, hf⟩ := bcell hb; have B1 := b0.trans (hb.mono hsz))
      | (go_at_call 50; refine (place_no _ _ _ _ _ _ _ H.out hs).mono ?_; rintro e w2 ⟨rfl, hb2⟩; have B2 := B1.trans (hb2.mono B1.size); have k0 := (hb2.cell (p := ⟨w.heap.size, 0, none⟩) (Nat.lt_of_lt_of_le (by simp) hb.size)).trans (show w1.cell? ⟨w.heap.size, 0, none⟩ = some (.int .i64 p) by rw [hc _ _ (by simp)]; simp); have k1 := (hb2.cell (p := ⟨w.heap.size, 1, none⟩) (Nat.lt_of_lt_of_le (by simp) hb.size)).trans (show w1.cell? ⟨w.heap.size, 1, none⟩ = some (.int .i64 i) by rw [hc _ _ (by simp)]; simp); have k2 := (hb2.cell (p := ⟨w.heap.size, 2, none⟩) (Nat.lt_of_lt_of_le (by simp) hb.size)).trans (show w1.cell? ⟨w.heap.size, 2, none⟩ = some (.int .i64 b) by rw [hc _ _ (by simp)]; simp)))
  all_goals
    go_wp2
    go_ret2
    exact ⟨rfl, B2⟩
set_option maxHeartbeats 1000000 in
set_option maxRecDepth 100000 in
theorem slot_yes (p i b s : Int) (w : World) (h : gok p i b = true) (hs : 0 ≤ s) (hs2 : s < p) :
    Calls Try.prog 28 #[.agg #[.int .i64 p, .int .i64 i, .int .i64 b], .int .i64 s] w fun e w' => e = .returned (.tuple #[.int .i64 (slotAt i s), .int .i64 0]) ∧ Below w.heap.size w w' := by
  obtain ⟨h1, h2, h3, h4, h5, h6⟩ := gok_iff.1 h
  have b0 : Below w.heap.size w (w.alloc (.cells #[.int .i64 p, .int .i64 i, .int .i64 b] 23)).drew := ((Below.refl _ _).alloc (Nat.le_refl _) _).drew
  have hsz : w.heap.size ≤ (w.alloc (.cells #[.int .i64 p, .int .i64 i, .int .i64 b] 23)).drew.heap.size := by simp
  have H := hid h
  clear h
  go_enter Try.func28, Try.ntmps28
  go_wp2_with fail
  go_region_held3 (fun w' => w'.cell? ⟨w.heap.size, 0, none⟩ = some (.int .i64 p) ∧ w'.cell? ⟨w.heap.size, 1, none⟩ = some (.int .i64 i) ∧ w'.cell? ⟨w.heap.size, 2, none⟩ = some (.int .i64 b)) (go_keep)
    (first
      | (go_at_call 51; refine (slots_any _ _ _ _ (by omega)).mono ?_; rintro e w1 ⟨rfl, hb⟩; obtain ⟨hc, hf⟩ := bcell hb; have B1 := b0.trans (hb.mono hsz))
      | (go_at_call 50; refine (place_yes _ _ _ _ _ _ _ H.out hs hs2 (by omega) (by omega)).mono ?_; rintro e w2 ⟨rfl, hb2⟩; have B2 := B1.trans (hb2.mono B1.size); have k0 := (hb2.cell (p := ⟨w.heap.size, 0, none⟩) (Nat.lt_of_lt_of_le (by simp) hb.size)).trans (show w1.cell? ⟨w.heap.size, 0, none⟩ = some (.int .i64 p) by rw [hc _ _ (by simp)]; simp); have k1 := (hb2.cell (p := ⟨w.heap.size, 1, none⟩) (Nat.lt_of_lt_of_le (by simp) hb.size)).trans (show w1.cell? ⟨w.heap.size, 1, none⟩ = some (.int .i64 i) by rw [hc _ _ (by simp)]; simp); have k2 := (hb2.cell (p := ⟨w.heap.size, 2, none⟩) (Nat.lt_of_lt_of_le (by simp) hb.size)).trans (show w1.cell? ⟨w.heap.size, 2, none⟩ = some (.int .i64 b) by rw [hc _ _ (by simp)]; simp)))
  all_goals
    go_wp2
    go_ret2
    exact ⟨rfl, B2⟩
end Go.Proofs.Ytimfnimcmfjjpaa
