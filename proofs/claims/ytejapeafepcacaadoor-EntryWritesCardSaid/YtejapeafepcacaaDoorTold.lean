/- parcloselaw05.Told: an error that is told as a fault, and none. -/
import Derived.Test.YtejapeafepcacaaDoorErrsB
import Derived.Test.YtejapeafepcacaaDoorErrsC
import Derived.Test.YtejapeafepcacaaDoorDecodeB
namespace Go.Proofs.YtejapeafepcacaaDoor
open Go.RowKit
set_option maxHeartbeats 400000 in
set_option maxRecDepth 100000 in
theorem told_nil (x : Int) (w : World) :
    Calls Tryd.prog 25 #[.nilIface, .agg #[.int .i64 x, .int .i64 0]] w fun e w' => e = .returned (.bool true) ∧ Below w.heap.size w w' := by
  go_enter Tryd.func25, Tryd.ntmps25
  go_wp2
  go_ret
  exact ⟨rfl, by go_grown⟩
set_option maxHeartbeats 1000000 in
set_option maxRecDepth 100000 in
theorem told_hit (x y : Int) (w : World) (hy : ¬ y = 0) (hg : w.cell? ⟨0, 0, none⟩ = some (.iface 103 (.agg #[.pointer (some ⟨2, 35, none⟩)]))) :
    Calls Tryd.prog 25 #[.iface 58 (.agg #[.int .i64 x, .int .i64 y]), .agg #[.int .i64 x, .int .i64 y]] w fun e w' => e = .returned (.bool true) ∧ Below w.heap.size w w' := by
  have hlt : 0 < w.heap.size := block_lt_of_cell hg
  have hgA : ((w.alloc (.cells #[.int .i64 x, .int .i64 y] 58)).alloc (.cells #[.int .i64 0, .int .i64 0] 58)).cell? ⟨0, 0, none⟩ = some (.iface 103 (.agg #[.pointer (some ⟨2, 35, none⟩)])) := by
    rw [World.cell?_alloc_lt _ _ ⟨0, 0, none⟩ (by simp), World.cell?_alloc_lt _ _ ⟨0, 0, none⟩ hlt]; exact hg
  have Hg := hid hgA
  clear hg hgA
  go_enter Tryd.func25, Tryd.ntmps25
  go_wp2_with fail
  refine (as_hit x y (w.heap.size + 1) (.int .i64 0) (.int .i64 0) _ Hg.out ?_ ?_ ?_ ?_).mono ?_
  · go_simp
  · go_simp
  · go_simp
  · go_simp
  rintro e w1 ⟨rfl, hw1⟩
  subst hw1
  go_wp2_with fail
  refine (is_hit x y _).mono ?_
  rintro e w2 ⟨rfl, hb⟩
  have Hb := hid hb
  clear hb
  go_wp2
  go_ret
  refine ⟨rfl, Below.trans ?_ (Hb.out.mono (by simp; omega))⟩
  go_grown
end Go.Proofs.YtejapeafepcacaaDoor
