/- Arguments opened: a slice of words. -/
import Derived.Test.YtimfnimcmfjjpaaOpenP
import Derived.Test.YtimfnimcmfjjpaaDMade
namespace Go.Proofs.Ytimfnimcmfjjpaa
open Go.ChangeShapes Go.WideShapes Go.RowKit Go.Deep
set_option maxRecDepth 100000 in
theorem open_base {H : Type} {enc : TypeId × Value → H} {w : World} {base : Nat} {held : Bool} {fuel : Nat} {v : Value} {x : DataW H × List MemPlace} (h : DataW.trod enc Try.prog w base (fun _ => true) held fuel 38 [v] = some x) :
    ∃ A m c f, v = .slice A m c ∧ BaseAt w A m f := by
  rcases open_ints Try.underlying38 Try.underlying51 (by kernel_rfl) h with ⟨h0, -⟩ | ⟨a, len, cap, zs, h0, -, hl, -, hzl, -, hc, hw⟩
  · obtain rfl : v = .slice none 0 0 := by simpa using h0
    exact ⟨none, 0, 0, fun _ => 0, rfl, .inl rfl, fun k hk => absurd hk (Nat.not_lt_zero _)⟩
  · obtain rfl : v = .slice (some a) len cap := by simpa using h0
    have hz : zs.length = cap := by simpa using hzl
    refine ⟨some a, len, cap, fun k => zs.getD k 0, rfl, ?_, fun k hk => wf_u64 (hw (zs.getD k 0) (by rw [List.getD_eq_getElem?_getD, List.getElem?_eq_getElem (by omega)]; exact List.getElem_mem (by omega)))⟩
    by_cases h0 : len = 0
    · exact .inl h0
    · have hb := block_lt_of_cell (hc 0 (by omega))
      rw [block_of_add] at hb
      exact .inr ⟨a, rfl, hb, fun k hk => hc k (by omega)⟩
set_option maxRecDepth 100000 in
/-- A slice of words among the arguments, opened. -/
theorem open_words {H : Type} {enc : TypeId × Value → H} {w : World} {base : Nat} {held : Bool} {r : Reach} {b0 : Nat} {v : Value} {d : DataW H} {p : List MemPlace} (hv : Value.okWide Try.prog w r b0 38 v) (h : DataW.Trod enc Try.prog w base (fun _ => true) held 38 v d p) :
    ∃ A m c f, v = .slice A m c ∧ BaseAt w A m f := by
  obtain ⟨A, m, c, rfl⟩ := okWide_slice Try.underlying38 hv
  obtain ⟨fuel, hf⟩ := h
  exact open_base hf
end Go.Proofs.Ytimfnimcmfjjpaa
