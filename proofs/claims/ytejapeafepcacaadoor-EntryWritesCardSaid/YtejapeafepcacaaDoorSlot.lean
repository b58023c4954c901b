/- entry.Decode in two sentences: the words are a slot, and this one; or they are none. -/
import Derived.Test.YtejapeafepcacaaDoorDecodeC
namespace Go.Proofs.YtejapeafepcacaaDoor
open Go.RowKit
def decB (f : Nat → Nat) (i : Int) : Bool :=
  decide (nameN f ≤ 16) && (slotB (inoN f : Nat) (kindN f : Nat) (textW f (nameN f)) i &&
    eqB3 (wordsF (inoN f : Nat) (kindN f : Nat) (textW f (nameN f)) 0) (wordsF (inoN f : Nat) (kindN f : Nat) (textW f (nameN f)) 1) (wordsF (inoN f : Nat) (kindN f : Nat) (textW f (nameN f)) 2) (f 0) (f 1) (f 2))
theorem decode_ok (ad : Addr) (cap : Nat) (f : Nat → Nat) (p i b : Int) (w : World) (h : gok p i b = true) (hb0 : ad.block < w.heap.size) (hcap : 3 ≤ cap) (hf : ∀ k, f k < 18446744073709551616)
    (hcell : ∀ k, k < 3 → w.cell? (ad.add k) = some (.int .u64 (f k : Nat))) (hd : decB f i = true) :
    Calls Tryd.prog 10 #[.slice (some ad) 3 cap, .agg #[.int .i64 p, .int .i64 i, .int .i64 b]] w fun e w' => e = .returned (.tuple #[.agg #[.int .i64 (inoN f : Nat), .int .u8 (kindN f : Nat), .string ⟨(textW f (nameN f)).toArray⟩], .nilIface]) ∧ Below w.heap.size w w' := by
  simp only [decB, Bool.and_eq_true, decide_eq_true_iff] at hd
  exact decode_eq ad cap f p i b w h hb0 hcap hf hcell hd.1 hd.2.1 hd.2.2
theorem decode_bad (ad : Addr) (cap : Nat) (f : Nat → Nat) (p i b : Int) (w : World) (h : gok p i b = true) (hb0 : ad.block < w.heap.size) (hcap : 3 ≤ cap) (hf : ∀ k, f k < 18446744073709551616)
    (hcell : ∀ k, k < 3 → w.cell? (ad.add k) = some (.int .u64 (f k : Nat))) (hd : decB f i = false) :
    Calls Tryd.prog 10 #[.slice (some ad) 3 cap, .agg #[.int .i64 p, .int .i64 i, .int .i64 b]] w fun e w' => e = .returned (.tuple #[.agg #[.int .i64 0, .int .u8 0, .string ⟨#[]⟩], .iface 58 (.agg #[.int .i64 0, .int .i64 7])]) ∧ Below w.heap.size w w' := by
  by_cases hn : nameN f ≤ 16
  · cases hs : slotB (inoN f : Nat) (kindN f : Nat) (textW f (nameN f)) i
    · exact decode_no ad cap f p i b w h hb0 hcap hf hcell hn hs
    · refine decode_ne ad cap f p i b w h hb0 hcap hf hcell hn hs ?_
      simpa [decB, hn, hs] using hd
  · exact decode_far ad cap f p i b w h hb0 hcap hf hcell (by omega)
end Go.Proofs.YtejapeafepcacaaDoor
