/- Arguments opened: a directory block, a slot, a geometry; five parameters. -/
import Derived.Test.YtejapeafepcacaaDoorBlockC
import Derived.Test.YtejapeafepcacaaDoorFrame
import Derived.Deep.Strs
import Derived.OpenShut
import Derived.Carry
import Derived.Lib.SmallJoins
import Derived.SevenTiedAt
namespace Go.Proofs.YtejapeafepcacaaDoor
open Go.ChangeShapes Go.WideShapes Go.RowKit Go.Deep
def cInt : Option Value → Int
  | some (.int _ n) => n
  | _ => 0
def cStr : Option Value → ByteArray
  | some (.string s) => s
  | _ => ⟨#[]⟩
theorem cells41 : Tryd.prog.cellsOf 41 = 31 := by kernel_rfl
theorem cells39 : Tryd.prog.cellsOf 39 = 30 := by kernel_rfl
theorem cells23 : Tryd.prog.cellsOf 23 = 3 := by kernel_rfl
theorem cells3 : Tryd.prog.cellsOf 3 = 1 := by kernel_rfl
theorem cells5 : Tryd.prog.cellsOf 5 = 1 := by kernel_rfl
theorem cells9 : Tryd.prog.cellsOf 9 = 1 := by kernel_rfl
theorem one_at {α : Type} {l : List α} {o : Nat} {x : α} (h : (l.drop o).take 1 = [x]) : l[o]? = some x := by
  have : ((l.drop o).take 1)[0]? = some x := by rw [h]; rfl
  rw [List.getElem?_take, if_pos (by omega), List.getElem?_drop] at this
  simpa using this
theorem sub_at {α : Type} {l : List α} {o n r : Nat} {x : α} (h : ((l.drop o).take n)[r]? = some x) : l[o + r]? = some x := by
  rw [List.getElem?_take] at h
  split at h
  · rw [List.getElem?_drop] at h; exact h
  · cases h
set_option maxRecDepth 100000 in
/-- A directory block among the arguments, opened: its cells, and what they are. -/
theorem open_dir {H : Type} {enc : TypeId × Value → H} {w : World} {base : Nat} {spare : Nat → Bool} {held : Bool} {r : Reach} {b0 : Nat} {v : Value} {d : DataW H} {p : List MemPlace}
    (hv : Value.okWide Tryd.prog w r b0 41 v) (h : DataW.Trod enc Tryd.prog w base spare held 41 v d p) : ∃ F next ino kind nm, v = .agg (dirOf F) ∧ CellsIs F next ino kind nm := by
  obtain ⟨cs, rfl, hsz⟩ := okWide_struct Tryd.underlying41 hv
  rw [cells41] at hsz
  obtain ⟨fuel, hf⟩ := h
  obtain ⟨y0, y1, n, -, -, h0, h1⟩ := trod_struct2 Tryd.underlying41 hf
  obtain ⟨next, e0, -, -⟩ := DataW.trod_int Tryd.underlying3 h0
  obtain ⟨xs, m, -, -, -, hxl, hel⟩ := DataW.trod_array Tryd.underlying39 h1
  have e0' : cs.toList[0]? = some (.int .i64 next) := one_at (o := 0) (by simpa [cells3, Value.cells] using e0)
  have hcell : ∀ k, k < 10 → ∃ (a c : Int) (s : ByteArray), cs.toList[1 + 3 * k]? = some (.int .i64 a) ∧ cs.toList[1 + 3 * k + 1]? = some (.int .u8 c) ∧ cs.toList[1 + 3 * k + 2]? = some (.string s) := by
    intro k hk
    have hx : xs[k]? = some xs[k] := List.getElem?_eq_getElem (by omega)
    have hk' := (hel k hk).trans hx
    obtain ⟨z0, z1, z2, m2, -, -, g0, g1, g2⟩ := trod_struct3 Tryd.underlying23 hk'
    obtain ⟨a, a0, -, -⟩ := DataW.trod_int Tryd.underlying3 g0
    obtain ⟨c, a1, -, -⟩ := DataW.trod_int Tryd.underlying5 g1
    obtain ⟨s, a2, -, -⟩ := DataW.trod_string Tryd.underlying9 g2
    simp only [cells3, cells5, cells9, cells23, cells39, Value.cells] at a0 a1 a2
    have b0 := sub_at (sub_at (one_at a0))
    have b1 := sub_at (sub_at (one_at a1))
    have b2 := sub_at (sub_at (one_at a2))
    refine ⟨a, c, s, ?_, ?_, ?_⟩
    · rw [← b0]; congr 1; omega
    · rw [← b1]; congr 1; omega
    · rw [← b2]; congr 1; omega
  refine ⟨fun j => cs.getD j undef, next, fun k => cInt cs[1 + 3 * k]?, fun k => cInt cs[1 + 3 * k + 1]?, fun k => cStr cs[1 + 3 * k + 2]?, ?_, ?_, fun k hk => ?_, fun k hk => ?_, fun k hk => ?_⟩
  · congr 1
    apply Array.ext_getElem?
    intro j
    by_cases hj : j < 31
    · rw [dirOf_get _ j hj, Array.getD_eq_getD_getElem?, Array.getElem?_eq_getElem (by omega)]; rfl
    · rw [Array.getElem?_eq_none (by omega), Array.getElem?_eq_none (by rw [dirOf_size]; omega)]
  · rw [Array.getElem?_toList] at e0'
    show cs.getD 0 undef = _
    rw [Array.getD_eq_getD_getElem?, e0']; rfl
  · obtain ⟨a, c, s, h1, h2, h3⟩ := hcell k hk
    rw [Array.getElem?_toList] at h1
    show cs.getD (1 + 3 * k) undef = _
    rw [Array.getD_eq_getD_getElem?, h1]; rfl
  · obtain ⟨a, c, s, h1, h2, h3⟩ := hcell k hk
    rw [Array.getElem?_toList] at h2
    show cs.getD (1 + 3 * k + 1) undef = _
    rw [Array.getD_eq_getD_getElem?, h2]; rfl
  · obtain ⟨a, c, s, h1, h2, h3⟩ := hcell k hk
    rw [Array.getElem?_toList] at h3
    show cs.getD (1 + 3 * k + 2) undef = _
    rw [Array.getD_eq_getD_getElem?, h3]; rfl
theorem wf_byte {n : Int} (h : (Lit.int .u8 n).wf = true) : 0 ≤ n ∧ n < 256 := by
  have h' : IntKind.u8.min ≤ n ∧ n ≤ IntKind.u8.max := by simpa [Lit.wf] using h
  have e1 : IntKind.u8.min = 0 := rfl
  have e2 : IntKind.u8.max = 255 := rfl
  omega
section
variable {H : Type} {enc : TypeId × Value → H} {w : World} {base : Nat} {spare : Nat → Bool} {held : Bool}
set_option maxRecDepth 100000 in
theorem open_slot {r : Reach} {b0 : Nat} {v : Value} {d : DataW H} {p : List MemPlace} (hv : Value.okWide Tryd.prog w r b0 23 v) (h : DataW.Trod enc Tryd.prog w base spare held 23 v d p) :
    ∃ a c s, v = .agg #[.int .i64 a, .int .u8 c, .string s] := by
  obtain ⟨c0, c1, c2, y0, y1, y2, m, rfl, -, -, hy0, hy1, hy2⟩ := Joins.open_agg3 Tryd.underlying23 (by kernel_rfl) (by kernel_rfl) hv h
  obtain ⟨ino, e0, -, -⟩ := DataW.trod_int Tryd.underlying3 hy0
  obtain ⟨kind, e1, -, -⟩ := DataW.trod_int Tryd.underlying5 hy1
  obtain ⟨s, e2, -, -⟩ := DataW.trod_string Tryd.underlying9 hy2
  simp at e0 e1 e2
  subst e0 e1 e2
  exact ⟨_, _, _, rfl⟩
set_option maxRecDepth 100000 in
theorem open_geom {r : Reach} {b0 : Nat} {v : Value} {d : DataW H} {p : List MemPlace} (hv : Value.okWide Tryd.prog w r b0 25 v) (h : DataW.Trod enc Tryd.prog w base spare held 25 v d p) :
    ∃ p i b, v = .agg #[.int .i64 p, .int .i64 i, .int .i64 b] := by
  obtain ⟨c0, c1, c2, y0, y1, y2, m, rfl, -, -, hy0, hy1, hy2⟩ := Joins.open_agg3 Tryd.underlying25 (by kernel_rfl) (by kernel_rfl) hv h
  obtain ⟨a, e0, -, -⟩ := DataW.trod_int Tryd.underlying3 hy0
  obtain ⟨b, e1, -, -⟩ := DataW.trod_int Tryd.underlying3 hy1
  obtain ⟨c, e2, -, -⟩ := DataW.trod_int Tryd.underlying3 hy2
  simp at e0 e1 e2
  subst e0 e1 e2
  exact ⟨_, _, _, rfl⟩
theorem trodAll_five {t0 t1 t2 t3 t4 : TypeId} {args : Array Value} {ds : List (DataW H)} {ps : List MemPlace} (h : DataW.TrodAll enc Tryd.prog w base spare held [t0, t1, t2, t3, t4] args.toList ds ps) :
    ∃ v0 v1 v2 v3 v4 d0 d1 d2 d3 d4 p0 p1 p2 p3 p4, args = #[v0, v1, v2, v3, v4] ∧ ds = [d0, d1, d2, d3, d4] ∧ DataW.Trod enc Tryd.prog w base spare held t0 v0 d0 p0 ∧ DataW.Trod enc Tryd.prog w base spare held t1 v1 d1 p1 ∧
      DataW.Trod enc Tryd.prog w base spare held t2 v2 d2 p2 ∧ DataW.Trod enc Tryd.prog w base spare held t3 v3 d3 p3 ∧ DataW.Trod enc Tryd.prog w base spare held t4 v4 d4 p4 := by
  obtain ⟨v0, vs0, d0, ds0, p0, q0, hargs, rfl, rfl, h0, r0⟩ := trodAll_cons h
  obtain ⟨v1, vs1, d1, ds1, p1, q1, rfl, rfl, rfl, h1, r1⟩ := trodAll_cons r0
  obtain ⟨v2, vs2, d2, ds2, p2, q2, rfl, rfl, rfl, h2, r2⟩ := trodAll_cons r1
  obtain ⟨v3, vs3, d3, ds3, p3, q3, rfl, rfl, rfl, h3, r3⟩ := trodAll_cons r2
  obtain ⟨v4, vs4, d4, ds4, p4, q4, rfl, rfl, rfl, h4, r4⟩ := trodAll_cons r3
  obtain ⟨rfl, rfl, rfl⟩ := trodAll_nil r4
  exact ⟨v0, v1, v2, v3, v4, d0, d1, d2, d3, d4, p0, p1, p2, p3, p4, by cases args; simp_all, rfl, h0, h1, h2, h3, h4⟩
end
end Go.Proofs.YtejapeafepcacaaDoor
