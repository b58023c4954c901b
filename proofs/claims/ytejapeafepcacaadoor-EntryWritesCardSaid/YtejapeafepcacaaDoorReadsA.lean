/- EntryReads: what both sides answer of any words, brought together. -/
import Derived.Test.YtejapeafepcacaaDoorRefI
import Derived.Test.YtejapeafepcacaaDoorTold
import Derived.Test.YtejapeafepcacaaDoorAlive
import Derived.Test.YtejapeafepcacaaDoorBackC
import Derived.Test.YtejapeafepcacaaDoorTurnedB
namespace Go.Proofs.YtejapeafepcacaaDoor
open Go.RowKit
theorem copied_lies {w w' : World} {A : Option Addr} {m c : Nat} {f : Nat → Nat} (h : Copied w w' A m c f) : Lies w' A m f ∧ m ≤ c := by
  rcases h with ⟨h, -, -⟩ | ⟨-, g, rfl, -, hlt, hc, hk⟩
  · exact ⟨.inl h, by omega⟩
  · exact ⟨.inr ⟨_, rfl, hlt, fun k hk' => by rw [show (⟨g, 0, none⟩ : Addr).add k = ⟨g, k, none⟩ by unfold Addr.add; split <;> simp_all]; exact hk k hk'⟩, hc⟩
theorem same_words (A A' : Option Addr) (m c c' : Nat) (f : Nat → Nat) (w : World) (hm : m ≤ 1000) (h : Lies w A m f) (h' : Lies w A' m f) :
    Calls Tryd.prog 16 #[.slice A m c, .slice A' m c'] w fun e w' => e = .returned (.bool true) ∧ Below w.heap.size w w' := by
  rcases h with h | ⟨ad, rfl, -, hc⟩
  · subst h
    exact (same_none A A' c c' w).mono fun e w' hx => ⟨hx.1, by rw [← hx.2]; exact Below.refl _ _⟩
  · rcases h' with h' | ⟨ad', rfl, -, hc'⟩
    · subst h'
      exact (same_none _ A' c c' w).mono fun e w' hx => ⟨hx.1, by rw [← hx.2]; exact Below.refl _ _⟩
    · exact (same_go ad ad' m c c' (fun j => (f j : Nat)) (fun j => (f j : Nat)) w (by omega) hc hc').mono fun e w' hx => ⟨hx.1.trans (by rw [decide_eq_true (fun _ _ => rfl)]), hx.2⟩
theorem readR_pos {m : Nat} {f : Nat → Nat} {p i b : Int} {a : Nat} {e : Int} (h : readR m f p i b = some (a, e)) : ¬ e = 0 := by
  unfold readR at h
  split at h
  · cases h; decide
  · split at h
    · cases h; decide
    · split at h
      · cases h; decide
      · rw [Option.map_eq_some_iff] at h
        obtain ⟨k, -, hk⟩ := h
        cases hk; decide
theorem told_any (r : Option (Nat × Int)) (hr : ∀ a e, r = some (a, e) → ¬ e = 0) (w : World) (hg : ErrType w) :
    Calls Tryd.prog 25 #[errV r, faultV r] w fun e w' => e = .returned (.bool true) ∧ Below w.heap.size w w' := by
  cases r with
  | none => exact told_nil 0 w
  | some x =>
    obtain ⟨a, e⟩ := x
    exact told_hit a e w (hr a e rfl) hg
/-- What any words are read as, as a slot, by both sides. -/
theorem slot_verdict (m : Nat) (f : Nat → Nat) (p i b : Int) (hf : ∀ k, f k < 18446744073709551616) : ∃ (x0 x1 : Int) (xs : ByteArray) (er : Int) (ok : Bool) (Y : Value),
    ((gok p i b = false ∧ x0 = 0 ∧ x1 = 0 ∧ xs = ⟨#[]⟩ ∧ er = 2) ∨ (gok p i b = true ∧ ok = true ∧ er = 0) ∨ (gok p i b = true ∧ ok = false ∧ er = 7)) ∧
    (∀ (W : World) (A : Option Addr) (c : Nat), m ≤ c → Lies W A m f → Calls Tryd.prog 10 #[.slice A m c, .agg #[.int .i64 p, .int .i64 i, .int .i64 b]] W fun e w' => e = .returned (.tuple #[.agg #[.int .i64 x0, .int .u8 x1, .string xs], Y]) ∧ Below W.heap.size W w') ∧
    (gok p i b = true → ∀ (W : World) (A : Option Addr) (c : Nat), m ≤ c → Lies W A m f → Calls Tryd.prog 23 #[.slice A m c, .agg #[.int .i64 p, .int .i64 i, .int .i64 b]] W fun e w' => e = .returned (.tuple #[.agg #[.int .i64 x0, .int .u8 x1, .string xs], .bool ok]) ∧ Below W.heap.size W w') ∧
    (∀ W : World, ErrType W → Calls Tryd.prog 25 #[Y, .agg #[.int .i64 0, .int .i64 er]] W fun e w' => e = .returned (.bool true) ∧ Below W.heap.size W w') := by
  cases hg : gok p i b
  · exact ⟨0, 0, ⟨#[]⟩, 2, false, .iface 58 (.agg #[.int .i64 0, .int .i64 2]), .inl ⟨rfl, rfl, rfl, rfl, rfl⟩, fun W A c _ _ => decode_geom A m c p i b W hg, fun h => (by cases h), fun W he => told_hit 0 2 W (by decide) he⟩
  · by_cases hd : m = 3 ∧ decB f i = true
    · obtain ⟨rfl, hd⟩ := hd
      refine ⟨(inoN f : Nat), (kindN f : Nat), ⟨(textW f (nameN f)).toArray⟩, 0, true, .nilIface, .inr (.inl ⟨rfl, rfl, rfl⟩), fun W A c hc hl => ?_, fun _ W A c hc hl => ?_, fun W _ => told_nil 0 W⟩
      · rcases hl with h | ⟨ad, rfl, hlt, hk⟩
        · omega
        · exact decode_ok ad c f p i b W hg hlt hc hf hk hd
      · refine (rdecode_any A 3 c f p i b W hg hc hf hl).mono fun e w' hx => ⟨hx.1.trans ?_, hx.2⟩
        unfold decSlot decOk
        rw [if_pos ⟨rfl, hd⟩, hd]
        rfl
    · refine ⟨0, 0, ⟨#[]⟩, 7, false, .iface 58 (.agg #[.int .i64 0, .int .i64 7]), .inr (.inr ⟨rfl, rfl, rfl⟩), fun W A c hc hl => ?_, fun _ W A c hc hl => ?_, fun W he => told_hit 0 7 W (by decide) he⟩
      · by_cases hm : m = 3
        · subst hm
          have hd' : decB f i = false := by
            cases h : decB f i
            · rfl
            · exact absurd ⟨rfl, h⟩ hd
          rcases hl with h | ⟨ad, rfl, hlt, hk⟩
          · omega
          · exact decode_bad ad c f p i b W hg hlt hc hf hk hd'
        · exact decode_len A m c p i b W hg hm
      · refine (rdecode_any A m c f p i b W hg hc hf hl).mono fun e w' hx => ⟨hx.1.trans ?_, hx.2⟩
        have ho : decOk m f i = false := by
          unfold decOk
          rw [← Bool.not_eq_true, Bool.and_eq_true, decide_eq_true_iff]
          exact hd
        unfold decSlot
        rw [if_neg hd, ho]
end Go.Proofs.YtejapeafepcacaaDoor
