/- Arguments opened: a geometry, a plan; a slice of words. -/
import Derived.Test.YtimfnimcmfjjpaaLaw
import Derived.Deep.SlicePairs
import Derived.ChangeSlices
import Derived.Lib.SmallJoins
import Derived.OpenShut
import Derived.Carry
import Derived.RowKit
import Derived.RowKitTokens
import Derived.ChangeSame
import Derived.ChangeVars
import Derived.JoinedOf
namespace Go.Proofs.Ytimfnimcmfjjpaa
open Go.ChangeShapes Go.WideShapes Go.RowKit Go.Deep
theorem wf_u64 {n : Int} (h : (Lit.int .u64 n).wf = true) : 0 ≤ n ∧ n < 18446744073709551616 := by
  have h' : IntKind.u64.min ≤ n ∧ n ≤ IntKind.u64.max := by simpa [Lit.wf] using h
  have e1 : IntKind.u64.min = 0 := rfl
  have e2 : IntKind.u64.max = 18446744073709551615 := rfl
  omega
def iv : Value → Int
  | .int _ n => n
  | _ => 0
/-- The words of a list are words. -/
def Wf2 (n : Nat) (g : Nat → Int) : Prop := ∀ k, k < n → 0 ≤ g k ∧ g k < 18446744073709551616
section
variable {H : Type} {enc : TypeId × Value → H} {w : World} {base : Nat} {held : Bool}
set_option maxRecDepth 100000 in
theorem open_redos {fuel : Nat} {v : Value} {x : DataW H × List MemPlace} (h : DataW.trod enc Try.prog w base (fun _ => true) held fuel 25 [v] = some x) :
    ∃ A n c f g, v = .slice A n c ∧ PairsAt w A n f g ∧ Wf2 n g := by
  rcases open_slice_pairs Try.underlying25 Try.underlying71 (by kernel_rfl) rfl rfl (by kernel_rfl) (by kernel_rfl) h with ⟨h0, -⟩ | ⟨a, len, cap, m, n, V0, V1, D0, D1, P0, P1, hcs, -, hl, -, hm, -, hi⟩
  · obtain rfl : v = .slice none 0 0 := by simpa using h0
    exact ⟨none, 0, 0, fun _ => 0, fun _ => 0, rfl, .inl rfl, fun k hk => absurd hk (Nat.not_lt_zero _)⟩
  · obtain rfl : v = .slice (some a) len cap := by simpa using hcs
    rw [if_pos rfl] at hm
    have hk : ∀ k, k < len → w.cell? (a.add (k * 2)) = some (.int .i64 (iv (V0 k))) ∧ w.cell? (a.add (k * 2 + 1)) = some (.int .u64 (iv (V1 k))) ∧ (0 ≤ iv (V1 k) ∧ iv (V1 k) < 18446744073709551616) := by
      intro k hk
      obtain ⟨c0, c1, r0, r1⟩ := hi k (by omega)
      obtain ⟨z0, e0, -, -⟩ := DataW.trod_int Try.underlying3 r0
      obtain ⟨z1, e1, -, w1⟩ := DataW.trod_int Try.underlying51 r1
      simp at e0 e1
      rw [e0] at c0
      rw [e1] at c1
      rw [e0, e1]
      exact ⟨c0, c1, wf_u64 w1⟩
    refine ⟨some a, len, cap, fun k => iv (V0 k), fun k => iv (V1 k), rfl, ?_, fun k hk' => (hk k hk').2.2⟩
    by_cases h0 : len = 0
    · exact .inl h0
    · have hb := block_lt_of_cell (hk 0 (by omega)).1
      rw [block_of_add] at hb
      exact .inr ⟨a, rfl, hb, fun k hk' => ⟨(hk k hk').1, (hk k hk').2.1⟩⟩
set_option maxRecDepth 100000 in
theorem open_lines {fuel : Nat} {v : Value} {x : DataW H × List MemPlace} (h : DataW.trod enc Try.prog w base (fun _ => true) held fuel 26 [v] = some x) :
    ∃ A n c f, v = .slice A n c ∧ IntsAt w A n f := by
  rcases open_ints Try.underlying26 Try.underlying3 (by kernel_rfl) h with ⟨h0, -⟩ | ⟨a, len, cap, zs, h0, -, hl, -, hzl, -, hc, hw⟩
  · obtain rfl : v = .slice none 0 0 := by simpa using h0
    exact ⟨none, 0, 0, fun _ => 0, rfl, .inl rfl⟩
  · obtain rfl : v = .slice (some a) len cap := by simpa using h0
    have hz : zs.length = cap := by simpa using hzl
    refine ⟨some a, len, cap, fun k => zs.getD k 0, rfl, ?_⟩
    by_cases h0 : len = 0
    · exact .inl h0
    · have hb := block_lt_of_cell (hc 0 (by omega))
      rw [block_of_add] at hb
      exact .inr ⟨a, rfl, hb, fun k hk => hc k (by omega)⟩
set_option maxRecDepth 100000 in
/-- A plan among the arguments, opened. -/
theorem open_plan {r : Reach} {b0 : Nat} {v : Value} {d : DataW H} {p : List MemPlace} (hv : Value.okWide Try.prog w r b0 28 v) (h : DataW.Trod enc Try.prog w base (fun _ => true) held 28 v d p) :
    ∃ P : PlanD, v = .agg #[.int .i64 P.err, .int .i64 P.ino, .slice P.F.A P.F.n P.F.c, .slice P.L.A P.L.n P.L.c, .slice P.R.A P.R.n P.R.c, .slice P.D.A P.D.n P.D.c] ∧ PlanAt w P ∧ Wf2 P.F.n P.F.g ∧ Wf2 P.R.n P.R.g ∧ Wf2 P.D.n P.D.g := by
  obtain ⟨cs, rfl, hsz⟩ := okWide_struct Try.underlying28 hv
  rw [show Try.prog.cellsOf 28 = 6 by kernel_rfl] at hsz
  obtain ⟨l⟩ := cs
  match l, hsz with
  | [c0, c1, c2, c3, c4, c5], _ =>
    obtain ⟨fuel, hf⟩ := h
    obtain ⟨xs, n, -, -, -, hlen, hg⟩ := DataW.trod_struct Try.underlying28 hf
    have k24 : Try.prog.cellsOf 24 = 1 := by kernel_rfl
    have k3 : Try.prog.cellsOf 3 = 1 := by kernel_rfl
    have k25 : Try.prog.cellsOf 25 = 1 := by kernel_rfl
    have k26 : Try.prog.cellsOf 26 = 1 := by kernel_rfl
    match xs, hlen with
    | [y0, y1, y2, y3, y4, y5], _ =>
      have g0 : DataW.trod enc Try.prog w base (fun _ => true) held n 24 [c0] = some y0 := by simpa [Value.cells, k24] using hg 0 _ rfl
      have g1 : DataW.trod enc Try.prog w base (fun _ => true) held n 3 [c1] = some y1 := by simpa [Value.cells, k3] using hg 1 _ rfl
      have g2 : DataW.trod enc Try.prog w base (fun _ => true) held n 25 [c2] = some y2 := by simpa [Value.cells, k25] using hg 2 _ rfl
      have g3 : DataW.trod enc Try.prog w base (fun _ => true) held n 26 [c3] = some y3 := by simpa [Value.cells, k26] using hg 3 _ rfl
      have g4 : DataW.trod enc Try.prog w base (fun _ => true) held n 25 [c4] = some y4 := by simpa [Value.cells, k25] using hg 4 _ rfl
      have g5 : DataW.trod enc Try.prog w base (fun _ => true) held n 25 [c5] = some y5 := by simpa [Value.cells, k25] using hg 5 _ rfl
      obtain ⟨z0, e0, -, -⟩ := DataW.trod_int Try.underlying24 g0
      obtain ⟨z1, e1, -, -⟩ := DataW.trod_int Try.underlying3 g1
      obtain ⟨A2, n2, m2, f2, s2, e2, p2, u2⟩ := open_redos g2
      obtain ⟨A3, n3, m3, f3, e3, p3⟩ := open_lines g3
      obtain ⟨A4, n4, m4, f4, s4, e4, p4, u4⟩ := open_redos g4
      obtain ⟨A5, n5, m5, f5, s5, e5, p5, u5⟩ := open_redos g5
      simp at e0 e1
      subst e0 e1 e2 e3 e4 e5
      exact ⟨⟨z0, z1, ⟨A2, n2, m2, f2, s2⟩, ⟨A3, n3, m3, f3, fun _ => 0⟩, ⟨A4, n4, m4, f4, s4⟩, ⟨A5, n5, m5, f5, s5⟩⟩, rfl, ⟨p2, p3, p4, p5⟩, u2, u4, u5⟩
set_option maxRecDepth 100000 in
theorem open_geom {r : Reach} {b0 : Nat} {v : Value} {d : DataW H} {p : List MemPlace} (hv : Value.okWide Try.prog w r b0 23 v) (h : DataW.Trod enc Try.prog w base (fun _ => true) held 23 v d p) :
    ∃ p i b, v = .agg #[.int .i64 p, .int .i64 i, .int .i64 b] := by
  obtain ⟨c0, c1, c2, y0, y1, y2, m, rfl, -, -, hy0, hy1, hy2⟩ := Joins.open_agg3 Try.underlying23 (by kernel_rfl) (by kernel_rfl) hv h
  obtain ⟨a, e0, -, -⟩ := DataW.trod_int Try.underlying3 hy0
  obtain ⟨b, e1, -, -⟩ := DataW.trod_int Try.underlying3 hy1
  obtain ⟨c, e2, -, -⟩ := DataW.trod_int Try.underlying3 hy2
  simp at e0 e1 e2
  subst e0 e1 e2
  exact ⟨_, _, _, rfl⟩
end
theorem own : ownKnob Try.prog.godebug = none := by kernel_rfl
theorem laidOut : laidOutB Try.prog = true := by kernel_rfl
/-- What was read of arguments is read again where nothing that was there has turned. -/
theorem trodAll_below {H : Type} {enc : TypeId × Value → H} {P : Program} (hl : laidOutB P = true) {W W' : World} (hb : Below W.heap.size W W') :
    ∀ (ts : List TypeId) (vs : List Value) (ds : List (DataW H)) (ps : List MemPlace), (∀ t ∈ ts, P.readableRec t = true ∧ t < P.types.size) →
      DataW.TrodAll enc P W 0 (fun _ => true) true ts vs ds ps → (∀ x ∈ ps, x.block < W.heap.size) → DataW.TrodAll enc P W' 0 (fun b => decide (b < W.heap.size)) true ts vs ds ps
  | [], vs, ds, ps, _, h, _ => by
    cases vs <;> cases ds <;> simp [DataW.TrodAll] at h ⊢
    exact h
  | t :: ts, vs, ds, ps, hr, h, hlt => by
    obtain ⟨v, vs', d, ds', p, q, rfl, rfl, rfl, h0, hs⟩ := trodAll_cons h
    exact ⟨p, q, Below.trod hl (hr t (List.mem_cons_self ..)).1 (hr t (List.mem_cons_self ..)).2 h0 hb (fun x hx => hlt x (List.mem_append_left _ hx)),
      trodAll_below hl hb ts vs' ds' q (fun u hu => hr u (List.mem_cons_of_mem _ hu)) hs (fun x hx => hlt x (List.mem_append_right _ hx)), rfl⟩
end Go.Proofs.Ytimfnimcmfjjpaa
