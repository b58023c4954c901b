/- Walks of parcloseref01.Same and of long. -/
import Derived.Test.YtejapeafepcacaaDoorBlockA
import Derived.Deep.QuietTactic
import Derived.BigQuiet
namespace Go.Proofs.YtejapeafepcacaaDoor
open Go.RowKit
set_option maxRecDepth 100000 in
theorem same_len (a a' : Option Addr) (n n' c c' : Nat) (h : n ≠ n') (w : World) :
    Calls Tryd.prog 16 #[.slice a n c, .slice a' n' c'] w fun e w' => e = .returned (.bool false) ∧ w = w' := by
  have h' : ¬ (n : Int) = n' := by omega
  go_enter Tryd.func16, Tryd.ntmps16
  go_wp2
  go_ret
  exact ⟨rfl, rfl⟩
set_option maxRecDepth 100000 in
theorem same_none (a a' : Option Addr) (c c' : Nat) (w : World) :
    Calls Tryd.prog 16 #[.slice a 0 c, .slice a' 0 c'] w fun e w' => e = .returned (.bool true) ∧ w = w' := by
  go_enter Tryd.func16, Tryd.ntmps16
  go_wp2
  go_loopw [5] (fun v wr => v = .int .i64 0 ∧ w = wr) (fun _ _ => 0)
  case atStart => exact ⟨rfl, rfl⟩
  case round =>
    obtain ⟨rfl, rfl⟩ := hrel
    go_wp2
    go_ret
    exact ⟨by rfl, rfl⟩
theorem decide_no {n k : Nat} {f f' : Nat → Int} (hk : k < n) (h : f k ≠ f' k) : decide (∀ j, j < n → f j = f' j) = false := decide_eq_false fun a => h (a k hk)
set_option maxHeartbeats 400000 in
set_option maxRecDepth 100000 in
theorem same_go (ad ad' : Addr) (n c c' : Nat) (f f' : Nat → Int) (w : World) (hn : n < 1000000000) (h : ∀ j, j < n → w.cell? (ad.add j) = some (.int .u64 (f j))) (h' : ∀ j, j < n → w.cell? (ad'.add j) = some (.int .u64 (f' j))) :
    Calls Tryd.prog 16 #[.slice (some ad) n c, .slice (some ad') n c'] w fun e w' => e = .returned (.bool (decide (∀ j, j < n → f j = f' j))) ∧ Below w.heap.size w w' := by
  have H := hid h
  have H' := hid h'
  clear h h'
  go_enter Tryd.func16, Tryd.ntmps16
  go_wp2
  go_loopw [5] (fun v wr => ∃ k : Nat, k ≤ n ∧ v = .int .i64 k ∧ (∀ j, j < k → f j = f' j) ∧ Below w.heap.size w wr) (fun v _ => n - (intOf v).toNat)
  case atStart => exact ⟨0, by omega, rfl, fun j hj => by omega, Below.refl _ _⟩
  case round =>
    obtain ⟨k, hk, rfl, hS, hB⟩ := hrel
    have HS := hid hS
    by_cases hlt : k < n
    · have h1 := above hB (H.out k hlt)
      have h2 := above hB (H'.out k hlt)
      have HB := hid hB
      clear hS hB
      have hlt' : (k : Int) < (n : Int) := by omega
      by_cases he : f k = f' k
      · rw [he] at h1
        go_wp2
        go_quiet (fail)
        go_wp2
        go_roundw
        case rel => exact ⟨k + 1, by omega, by go_num, fun j hj => by
          by_cases hjk : j = k
          · rw [hjk, he]
          · exact HS.out j (by omega), below_drewN HB.out _⟩
        case measure => simp [intOf]; omega
      · have hne := hid (decide_no hlt he)
        go_wp2
        go_quiet (fail)
        go_wp2
        go_ret
        refine ⟨?_, below_drewN HB.out _⟩
        rw [hne.out]
        rfl
    · have HB := hid hB
      clear hS hB
      go_wp2
      go_ret
      have : k = n := by omega
      subst this
      refine ⟨?_, HB.out⟩
      rw [decide_eq_true HS.out]
      rfl
set_option maxHeartbeats 400000 in
set_option maxRecDepth 100000 in
theorem long_any (C : Array Value) (next : Int) (ino kind : Nat → Int) (nm : Nat → ByteArray) (w : World) (hC : DirIs C next ino kind nm) :
    Calls Tryd.prog 11 #[.agg C] w fun e w' => ((e = .returned (.bool true) ∧ ∃ k, k < 10 ∧ 200 < (nm k).size) ∨ (e = .returned (.bool false) ∧ ∀ k, k < 10 → (nm k).size ≤ 200)) ∧ Below w.heap.size w w' := by
  have HC := hid hC
  clear hC
  go_enter Tryd.func11, Tryd.ntmps11
  go_wp2
  go_loopw [3] (fun v wr => ∃ k : Nat, k ≤ 10 ∧ v = .int .i64 k ∧ (∀ j, j < k → (nm j).size ≤ 200) ∧ wr = w.alloc (.cells C 41)) (fun v _ => 10 - (intOf v).toNat)
  case atStart => exact ⟨0, by omega, rfl, fun j hj => by omega, rfl⟩
  case round =>
    obtain ⟨k, hk, rfl, hS, rfl⟩ := hrel
    have HS := hid hS
    clear hS
    by_cases hlt : k < 10
    · have hc : (w.alloc (.cells C 41)).cell? ⟨w.heap.size, 1 + k * 3 + 2, none⟩ = some (.string (nm k)) := by
        rw [cell_of_row _ _ _ C 41 (0, 0) (heap_alloc_last w _), ← HC.out.nm k hlt]; congr 1; omega
      go_wp2_with fail
      · go_ret
        exact ⟨.inl ⟨rfl, k, hlt, by omega⟩, (Below.refl _ _).alloc (Nat.le_refl _) _⟩
      · go_roundw
        case rel => exact ⟨k + 1, by omega, by go_num, fun j hj => by
          by_cases hjk : j = k
          · rw [hjk]; omega
          · exact HS.out j (by omega), trivial⟩
        case measure => simp [intOf]; omega
    · go_wp2
      go_ret
      exact ⟨.inr ⟨rfl, fun j hj => HS.out j (by omega)⟩, (Below.refl _ _).alloc (Nat.le_refl _) _⟩
end Go.Proofs.YtejapeafepcacaaDoor
