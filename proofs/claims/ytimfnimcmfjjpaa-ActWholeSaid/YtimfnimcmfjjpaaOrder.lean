/- act: the library's sort at rows of one's own. -/
import Derived.Test.YtimfnimcmfjjpaaSort
import Derived.Test.YtimfnimcmfjjpaaStores
import Derived.Sort.OwnSortedInts
namespace Go.Proofs.Ytimfnimcmfjjpaa
open Go.RowKit
theorem sort_own (B g cap : Nat) (zs : List Int) (w : World) (h : w.ownsRow B 3 1 (.slice (some ⟨g, 0, none⟩) zs.length cap) zs.length (zs.map (Value.int .i64))) (hz : zs.length ≤ 1000000) :
    Calls Try.prog 56 #[.slice (some ⟨g, 0, none⟩) zs.length cap] w fun e w' => e = .returned (.tuple #[]) ∧ w'.ownsRow B 3 1 (.slice (some ⟨g, 0, none⟩) zs.length cap) zs.length ((zs.mergeSort fun x y => decide (x ≤ y)).map (Value.int .i64)) ∧ w.grownBy w' (some g) := by
  rcases h.2 with ⟨h0, -⟩ | ⟨g', cap', cur, hv, hB, hg, hn, hc, hs, ht⟩
  · cases h0
  · obtain ⟨rfl, rfl⟩ : g' = g ∧ cap' = cap := by
      have := Value.slice.inj hv
      exact ⟨by simpa using this.1.symm, this.2.2.symm⟩
    have hlt : g' < w.heap.size := (Array.getElem?_eq_some_iff.1 hg).1
    refine (Any.slices_Sort_int Try.laysSort g' 0 cap' zs w (holds_of_blockI hg (by rw [Nat.mul_one] at ht; exact ht)) hlt (by omega)).mono ?_
    rintro e w' ⟨rfl, n, os, rfl⟩
    exact ⟨rfl, ownsRow_sortedI (List.length_mergeSort zs) hB hg hn hc hs, grownBy_sortedI _⟩
theorem insert_nil (p : Option Addr) (cap : Nat) (w : World) :
    Calls Try.prog 71 #[.slice p 0 cap, .int .i64 0, .int .i64 0] w fun e w' => e = .returned (.tuple #[]) ∧ w' = w := by
  go_enter Try.func71, Try.ntmps71
  go_wp2
  refine wp_loop_rounds 1 ?_
  rw [rounds_succ]
  go_wp2
  go_end0
  exact ⟨rfl, rfl⟩
set_option maxRecDepth 100000 in
theorem pdq_nil (p : Option Addr) (cap : Nat) (w : World) :
    Calls Try.prog 66 #[.slice p 0 cap, .int .i64 0, .int .i64 0, .int .i64 0] w fun e w' => e = .returned (.tuple #[]) ∧ w' = w := by
  go_enter Try.func66, Try.ntmps66
  go_wp2
  refine wp_loop_rounds 1 ?_
  rw [rounds_succ]
  go_wp2_with (first | (go_at_call 71; refine (insert_nil p cap _).mono ?_; rintro e w' ⟨rfl, rfl⟩))
  refine bodyPost_ret (results_none rfl _ _ _) rfl ?_
  exact ⟨rfl, rfl⟩
set_option maxHeartbeats 400000 in
set_option maxRecDepth 100000 in
theorem len_zero (w : World) : Calls Try.prog 67 #[.int .u64 0] w fun e w' => e = .returned (.int .i64 0) ∧ w' = w := by
  go_enter Try.func67, Try.ntmps67
  go_wp2
  go_ret
  exact ⟨by kernel_rfl, rfl⟩
set_option maxRecDepth 100000 in
theorem sort_nil (p : Option Addr) (cap : Nat) (w : World) : Calls Try.prog 56 #[.slice p 0 cap] w fun e w' => e = .returned (.tuple #[]) ∧ w' = w := by
  go_enter Try.func56, Try.ntmps56
  go_wp2_with (first
    | (go_at_call 67; refine (len_zero _).mono ?_; rintro e w' ⟨rfl, rfl⟩)
    | (go_at_call 66; refine (pdq_nil p cap _).mono ?_; rintro e w' ⟨rfl, rfl⟩))
  go_end0
  exact ⟨rfl, rfl⟩
end Go.Proofs.Ytimfnimcmfjjpaa
