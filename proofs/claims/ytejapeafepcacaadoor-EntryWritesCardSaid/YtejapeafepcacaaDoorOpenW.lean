/- Arguments opened: a slice of words. -/
import Derived.Test.YtejapeafepcacaaDoorOpen
import Derived.Test.YtejapeafepcacaaDoorCopy
import Derived.ChangeSlices
namespace Go.Proofs.YtejapeafepcacaaDoor
open Go.ChangeShapes Go.WideShapes Go.RowKit Go.Deep
theorem wf_u64 {n : Int} (h : (Lit.int .u64 n).wf = true) : 0 ≤ n ∧ n < 18446744073709551616 := by
  have h' : IntKind.u64.min ≤ n ∧ n ≤ IntKind.u64.max := by simpa [Lit.wf] using h
  have e1 : IntKind.u64.min = 0 := rfl
  have e2 : IntKind.u64.max = 18446744073709551615 := rfl
  omega
set_option maxRecDepth 100000 in
/-- A slice of words among the arguments: its words, and that they lie among the cells that were there. -/
theorem open_words {H : Type} {enc : TypeId × Value → H} {w : World} {base : Nat} {held : Bool} {r : Reach} {b0 : Nat} {v : Value} {d : DataW H} {p : List MemPlace} (hv : Value.okWide Tryd.prog w r b0 28 v)
    (h : DataW.Trod enc Tryd.prog w base (fun _ => true) held 28 v d p) (hlt : ∀ x ∈ p, x.block < w.heap.size) :
    ∃ A m c f, v = .slice A m c ∧ m ≤ c ∧ (∀ k, f k < 18446744073709551616) ∧ Lies w A m f := by
  obtain ⟨A, m, c, rfl⟩ := okWide_slice Tryd.underlying28 hv
  obtain ⟨fuel, hf⟩ := h
  rcases open_ints Tryd.underlying28 Tryd.underlying33 (by kernel_rfl) hf with ⟨h0, -⟩ | ⟨a, len, cap, zs, h0, -, hl, -, hzl, hx, hc, hw⟩
  · have : Value.slice A m c = .slice none 0 0 := by simpa [Value.cells] using h0
    cases this
    exact ⟨none, 0, 0, fun _ => 0, rfl, Nat.le_refl _, fun _ => by dsimp only; omega, .inl rfl⟩
  · have : Value.slice A m c = .slice (some a) len cap := by simpa [Value.cells] using h0
    obtain ⟨rfl, rfl, rfl⟩ : A = some a ∧ m = len ∧ c = cap := by simpa using this
    have hz : zs.length = c := by simpa using hzl
    refine ⟨some a, m, c, fun k => (zs.getD k 0).toNat, rfl, hl, fun k => ?_, ?_⟩
    · by_cases hk : k < zs.length
      · have := wf_u64 (hw (zs.getD k 0) (by rw [List.getD_eq_getElem?_getD, List.getElem?_eq_getElem hk]; exact List.getElem_mem hk))
        dsimp only
        omega
      · have : zs.getD k 0 = 0 := by rw [List.getD_eq_getElem?_getD, List.getElem?_eq_none (by omega)]; rfl
        dsimp only
        rw [this]; decide
    · by_cases h0 : m = 0
      · exact .inl h0
      · refine .inr ⟨a, rfl, ?_, fun k hk => ?_⟩
        · have hp : p = MemPlace.row a zs.length := (congrArg Prod.snd hx)
          have hm : MemPlace.cell a.block (a.off + 0) ∈ p := by
            rw [hp]; unfold MemPlace.row
            exact List.mem_map.2 ⟨0, List.mem_range.2 (by omega), rfl⟩
          exact hlt _ hm
        · have hk' : k < zs.length := by omega
          rw [hc k hk']
          have := wf_u64 (hw (zs.getD k 0) (by rw [List.getD_eq_getElem?_getD, List.getElem?_eq_getElem hk']; exact List.getElem_mem hk'))
          rw [show ((zs.getD k 0).toNat : Int) = zs.getD k 0 by omega]
end Go.Proofs.YtejapeafepcacaaDoor
