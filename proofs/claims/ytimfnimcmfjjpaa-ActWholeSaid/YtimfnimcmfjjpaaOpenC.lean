/- Arguments opened: what is crashed, and what a crash keeps. -/
import Derived.Test.YtimfnimcmfjjpaaOpenW
import Derived.Test.YtimfnimcmfjjpaaDCrash
import Derived.Deep.Grids
namespace Go.Proofs.Ytimfnimcmfjjpaa
open Go.ChangeShapes Go.WideShapes Go.RowKit Go.Deep
theorem wf_u16 {n : Int} (h : (Lit.int .u16 n).wf = true) : 0 ≤ n ∧ n < 65536 := by
  have h' : IntKind.u16.min ≤ n ∧ n ≤ IntKind.u16.max := by simpa [Lit.wf] using h
  have e1 : IntKind.u16.min = 0 := rfl
  have e2 : IntKind.u16.max = 65535 := rfl
  omega
section
variable {H : Type} {enc : TypeId × Value → H} {w : World} {base : Nat} {held : Bool}
set_option maxRecDepth 100000 in
theorem open_keeps {fuel : Nat} {v : Value} {x : DataW H × List MemPlace} (h : DataW.trod enc Try.prog w base (fun _ => true) held fuel 40 [v] = some x) :
    ∃ A m c f, v = .slice A m c ∧ BoolsAt w w.heap.size A m f := by
  rcases open_bools Try.underlying40 Try.underlying4 (by kernel_rfl) h with ⟨h0, -⟩ | ⟨a, len, cap, B, h0, -, hl, -, -, hc⟩
  · obtain rfl : v = .slice none 0 0 := by simpa using h0
    exact ⟨none, 0, 0, fun _ => false, rfl, .inl rfl⟩
  · obtain rfl : v = .slice (some a) len cap := by simpa using h0
    refine ⟨some a, len, cap, B, rfl, ?_⟩
    by_cases h0 : len = 0
    · exact .inl h0
    · have hb := block_lt_of_cell (hc 0 (by omega))
      rw [block_of_add] at hb
      exact .inr ⟨a, rfl, hb, fun k hk => hc k (by omega)⟩
set_option maxRecDepth 100000 in
theorem open_crash {r : Reach} {b0 : Nat} {v : Value} {d : DataW H} {p : List MemPlace} (hv : Value.okWide Try.prog w r b0 42 v) (h : DataW.Trod enc Try.prog w base (fun _ => true) held 42 v d p) :
    ∃ A m c BF cu KA kn kc kf, v = .agg #[.slice A m c, .int .u16 cu, .slice KA kn kc] ∧ BaseAt w A m BF ∧ (0 ≤ cu ∧ cu < 65536) ∧ BoolsAt w w.heap.size KA kn kf := by
  obtain ⟨c0, c1, c2, y0, y1, y2, m, rfl, -, -, hy0, hy1, hy2⟩ := Joins.open_agg3 Try.underlying42 (by kernel_rfl) (by kernel_rfl) hv h
  obtain ⟨A, n, c, BF, rfl, hB⟩ := open_base hy0
  obtain ⟨cu, e1, -, hw⟩ := DataW.trod_int Try.underlying39 hy1
  obtain ⟨KA, kn, kc, kf, rfl, hK⟩ := open_keeps hy2
  simp at e1
  subst e1
  exact ⟨A, n, c, BF, cu, KA, kn, kc, kf, rfl, hB, wf_u16 hw, hK⟩
end
end Go.Proofs.Ytimfnimcmfjjpaa
