/- Walks of geom.Check, entry.named and entry.May. -/
import Derived.Test.YtejapeafepcacaaDoorWords
import Derived.Deep.QuietTactic
import Derived.BigQuiet
namespace Go.Proofs.YtejapeafepcacaaDoor
open Go.RowKit
def gok (p i b : Int) : Bool := decide (1 ≤ p) && decide (p ≤ 8) && decide (2 ≤ i) && decide (i ≤ 64) && decide (4 ≤ b) && decide (b ≤ 255)
theorem gok_iff {p i b : Int} : gok p i b = true ↔ 1 ≤ p ∧ p ≤ 8 ∧ 2 ≤ i ∧ i ≤ 64 ∧ 4 ≤ b ∧ b ≤ 255 := by
  simp [gok, Bool.and_eq_true, and_assoc]
theorem gok_not {p i b : Int} : gok p i b = false ↔ ¬ (1 ≤ p ∧ p ≤ 8 ∧ 2 ≤ i ∧ i ≤ 64 ∧ 4 ≤ b ∧ b ≤ 255) := by
  rw [← gok_iff]; simp
set_option maxHeartbeats 400000 in
theorem check_yes (p i b : Int) (w : World) (h : gok p i b = true) :
    Calls Tryd.prog 28 #[.agg #[.int .i64 p, .int .i64 i, .int .i64 b]] w fun e w' => e = .returned (.int .i64 0) ∧ Below w.heap.size w w' := by
  obtain ⟨h1, h2, h3, h4, h5, h6⟩ := gok_iff.1 h
  clear h
  go_enter Tryd.func28, Tryd.ntmps28
  go_wp2
  go_ret
  exact ⟨rfl, (Below.refl _ _).alloc (Nat.le_refl _) _⟩
set_option maxHeartbeats 400000 in
theorem check_no (p i b : Int) (w : World) (h : gok p i b = false) :
    Calls Tryd.prog 28 #[.agg #[.int .i64 p, .int .i64 i, .int .i64 b]] w fun e w' => e = .returned (.int .i64 2) ∧ Below w.heap.size w w' := by
  have h0 := gok_not.1 h
  clear h
  go_enter Tryd.func28, Tryd.ntmps28
  go_wp2
  all_goals first
    | (go_ret; exact ⟨rfl, (Below.refl _ _).alloc (Nat.le_refl _) _⟩)
    | (exfalso; omega)
def namedB (l : List UInt8) : Bool := decide (1 ≤ l.length) && decide (l.length ≤ 16) && !l.contains 0 && !l.contains 47
set_option maxHeartbeats 400000 in
theorem named_any (s : ByteArray) (w : World) :
    Calls Tryd.prog 32 #[.string s] w fun e w' => e = .returned (.bool (namedB s.data.toList)) ∧ w = w' := by
  go_enter Tryd.func32, Tryd.ntmps32
  go_wp2_with (go_at_call 40; refine (contains_any _ _ _).mono ?_; rintro e w' ⟨rfl, rfl⟩)
  all_goals
    go_ret
    refine ⟨?_, rfl⟩
    first
      | (simp [namedB, *]; done)
      | (simp [namedB, *]; omega)
theorem bcell {W w1 : World} (hb : Below W.heap.size W w1) : (∀ b o, b < W.heap.size → w1.cell? ⟨b, o, none⟩ = W.cell? ⟨b, o, none⟩) ∧ (∀ b o, b < W.heap.size → w1.frozen? ⟨b, o, none⟩ = W.frozen? ⟨b, o, none⟩) :=
  ⟨fun b o h => hb.cell (p := ⟨b, o, none⟩) h, fun b o h => hb.frozen (p := ⟨b, o, none⟩) h⟩
set_option maxHeartbeats 400000 in
theorem may_geom (ino kind p i b : Int) (s : ByteArray) (w : World) (h : gok p i b = false) :
    Calls Tryd.prog 15 #[.agg #[.int .i64 ino, .int .u8 kind, .string s], .agg #[.int .i64 p, .int .i64 i, .int .i64 b]] w fun e w' => e = .returned (.bool false) ∧ Below w.heap.size w w' := by
  have H := hid h
  clear h
  go_enter Tryd.func15, Tryd.ntmps15
  go_wp2_with (go_at_call 28; refine (check_no _ _ _ _ H.out).mono ?_; rintro e w1 ⟨rfl, hb⟩)
  go_ret
  exact ⟨rfl, (((Below.refl _ _).alloc (Nat.le_refl _) _).alloc (by simp) _).trans (hb.mono (by simp; omega))⟩
def slotB (ino kind : Int) (l : List UInt8) (i : Int) : Bool :=
  (decide (ino = 0) && decide (kind = 0) && l.isEmpty) || (decide (1 ≤ ino) && decide (ino ≤ i) && decide (1 ≤ kind) && decide (kind ≤ 3) && namedB l)
def mayB (ino kind : Int) (l : List UInt8) (p i b : Int) : Bool := gok p i b && slotB ino kind l i
set_option maxHeartbeats 1000000 in
theorem may_slot (ino kind p i b : Int) (s : ByteArray) (w : World) (h : gok p i b = true) :
    Calls Tryd.prog 15 #[.agg #[.int .i64 ino, .int .u8 kind, .string s], .agg #[.int .i64 p, .int .i64 i, .int .i64 b]] w fun e w' => e = .returned (.bool (slotB ino kind s.data.toList i)) ∧ Below w.heap.size w w' := by
  have H := hid h
  clear h
  go_enter Tryd.func15, Tryd.ntmps15
  go_wp2_with fail
  refine (check_yes _ _ _ _ H.out).mono ?_
  rintro e w1 ⟨rfl, hb⟩
  obtain ⟨hc, hf⟩ := bcell hb
  have Hb := hid ((((Below.refl _ _).alloc (Nat.le_refl _) _).alloc (by simp) _).trans (hb.mono (by simp; omega)))
  clear hb
  go_wp2_with (go_at_call 32; refine (named_any _ _).mono ?_; rintro e w2 ⟨rfl, rfl⟩)
  all_goals
    go_ret
    refine ⟨?_, Hb.out⟩
    clear hc hf Hb
    simp only [Lib.toList_data] at *
    show Ending.returned (Value.bool _) = _
    generalize s.data.toList = l at *
    first
      | (simp [slotB, *]; done)
      | (simp [slotB, *]; omega)
theorem may_any (ino kind p i b : Int) (s : ByteArray) (w : World) :
    Calls Tryd.prog 15 #[.agg #[.int .i64 ino, .int .u8 kind, .string s], .agg #[.int .i64 p, .int .i64 i, .int .i64 b]] w fun e w' => e = .returned (.bool (mayB ino kind s.data.toList p i b)) ∧ Below w.heap.size w w' := by
  cases h : gok p i b
  · unfold mayB; rw [h, Bool.false_and]; exact may_geom ino kind p i b s w h
  · unfold mayB; rw [h, Bool.true_and]; exact may_slot ino kind p i b s w h
end Go.Proofs.YtejapeafepcacaaDoor
