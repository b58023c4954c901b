/- append onto nil of a slice of words: the copy, whether the slice is nil, empty or not. -/
import Derived.Test.YtejapeafepcacaaDoorWords
import Derived.Deep.AppendLies
namespace Go.Proofs.YtejapeafepcacaaDoor
open Go.RowKit
/-- The words that a slice holds. -/
def Lies (w : World) (A : Option Addr) (m : Nat) (f : Nat → Nat) : Prop := (m = 0) ∨ ∃ ad, A = some ad ∧ ad.block < w.heap.size ∧ ∀ k, k < m → w.cell? (ad.add k) = some (.int .u64 (f k : Nat))
/-- A slice of a block of its own, made behind w. -/
def Copied (w w' : World) (A : Option Addr) (m c : Nat) (f : Nat → Nat) : Prop := (m = 0 ∧ A = none ∧ c = 0) ∨ (0 < m ∧ ∃ g, A = some ⟨g, 0, none⟩ ∧ w.heap.size ≤ g ∧ g < w'.heap.size ∧ m ≤ c ∧ ∀ k, k < m → w'.cell? ⟨g, k, none⟩ = some (.int .u64 (f k : Nat)))
theorem run_append_words (w : World) (ty : TypeId) (A : Option Addr) (m c : Nat) (f : Nat → Nat) (hl : Lies w A m f) (hm : m ≤ 1000) :
    ∃ A' c' w', (Builtin.append_ #[28, 28] ty #[.slice none 0 0, .slice A m c]).run Tryd.prog w = .ok (.slice A' m c') w' ∧ Below w.heap.size w w' ∧ Copied w w' A' m c' f := by
  obtain ⟨i0, hi, hz0, hz1, hz2⟩ := info_parts u64_info
  by_cases h0 : m = 0
  · subst h0
    refine ⟨none, 0, w, ?_, Below.refl _ _, .inl ⟨rfl, rfl, rfl⟩⟩
    cases A with
    | none => simp [Builtin.append_, run_underlying Tryd.underlying28, sizeOf, typeInfo, hi, Builtin.lenOf, Builtin.firstCells]
    | some ad =>
      have := run_firstCells_some (P := Tryd.prog) w i0.size 0 ad 0 c [] (by simp) (by simp)
      simp [Builtin.append_, run_underlying Tryd.underlying28, sizeOf, typeInfo, hi, Builtin.lenOf, this]
  · rcases hl with hl | ⟨ad, rfl, -, hc⟩
    · exact absurd hl h0
    · obtain ⟨g, cap, w', hr, how, hgr, hat, hlt⟩ := run_append_lies (P := Tryd.prog) w 28 ty w.heap.size 33 i0 _ 1 8 Tryd.underlying28 hi hz0 hz1 hz2 rfl (by omega) (.slice none 0 0) 0 [] ⟨by simp, .inl ⟨rfl, rfl⟩⟩ ad m c
        ((List.range m).map fun k => .int .u64 (f k : Nat)) (by simp) (fun j u hj => by
          rw [List.getElem?_map] at hj
          cases hq : (List.range m)[j]? with
          | none => rw [hq] at hj; cases hj
          | some k =>
            rw [hq] at hj
            have hjk : j < m ∧ j = k := by
              have := List.getElem?_eq_some_iff.1 hq
              obtain ⟨h1, h2⟩ := this
              simp at h1 h2
              exact ⟨h1, h2⟩
            obtain ⟨hjm, rfl⟩ := hjk
            rw [hc j hjm]
            simpa using hj) (fun u hu => by
          obtain ⟨k, -, rfl⟩ := List.mem_map.1 hu
          simp [Value.oneCell']) (by omega) (by unfold maxLen; omega) (by omega) (Nat.le_refl _) w.heap.size rfl
      have hb := (Below.refl w.heap.size w).grown hgr (Nat.le_refl _) (by simp [Value.ownBlock])
      rw [Nat.zero_add, List.nil_append] at how
      rw [Nat.zero_add] at hr
      refine ⟨_, _, _, hr, hb, .inr ⟨by omega, g, rfl, ?_, hlt, ?_⟩⟩
      · rcases hat with h | h
        · simp [Value.ownBlock] at h
        · omega
      · rcases how.2 with ⟨h1, _⟩ | ⟨g', cap', cur, hv, _, hh, hn, _, hs, ht⟩
        · cases h1
        · simp only [Value.slice.injEq, Option.some.injEq, Addr.mk.injEq, and_true, true_and] at hv
          obtain ⟨rfl, rfl⟩ := hv
          refine ⟨hn, fun k hk => ?_⟩
          rw [cell_of_row w' g k cur 33 (0, 0) hh]
          have := congrArg (fun l : List Value => l[k]?) ht
          simpa [hk] using this
theorem step_append_words {ops : Array Oper} {o : Oper} {a : Act} {w : World} {K : Act → World → Prop} {Q : Exit → Act → World → Prop} {E : Prop} (hgd : o.guard = none) (s x : Operand)
    (ho : o.op = .call { callee := .builtin .append, args := #[s, x], argTypes := #[28, 28] }) (A : Option Addr) (m c : Nat) (f : Nat → Nat) (hs : a.eval s = .slice none 0 0) (hx : a.eval x = .slice A m c) (hl : Lies w A m f) (hm : m ≤ 1000)
    (h : ∀ A' c' w', Below w.heap.size w w' → Copied w w' A' m c' f → K (a.put o.dst (.slice A' m c')) w') : if Region.wanted o (yielded ops a.tmps) = true then Oper.wp Tryd.prog o a w K Q else E := by
  have hw : Region.wanted o (yielded ops a.tmps) = true := by simp [Region.wanted, hgd]
  rw [if_pos hw]
  obtain ⟨A', c', w', hr, h2, h3⟩ := run_append_words w o.type A m c f hl hm
  unfold Oper.wp execOp
  simp only [ho, resolve, invoke, builtin, Sem.run_bind, Sem.run_pure, Result.andThen_ok, List.map_toArray, List.map_cons, List.map_nil, hs, hx, hr]
  exact h A' c' w' h2 h3
theorem wpList_append_words {ops : Array Oper} {rest : List Oper} {o : Oper} {a : Act} {w : World} {Q : Exit → Act → World → Prop} (hgd : o.guard = none) (s x : Operand)
    (ho : o.op = .call { callee := .builtin .append, args := #[s, x], argTypes := #[28, 28] }) (A : Option Addr) (m c : Nat) (f : Nat → Nat) (hs : a.eval s = .slice none 0 0) (hx : a.eval x = .slice A m c) (hl : Lies w A m f) (hm : m ≤ 1000)
    (h : ∀ A' c' w', Below w.heap.size w w' → Copied w w' A' m c' f → wpList Tryd.prog ops Q rest (a.put o.dst (.slice A' m c')) w') : wpList Tryd.prog ops Q (o :: rest) a w :=
  wpList_plain hgd fun _ hK => by
    obtain ⟨A', c', w', hr, h2, h3⟩ := run_append_words w o.type A m c f hl hm
    unfold Oper.wp execOp
    simp only [ho, resolve, invoke, builtin, Sem.run_bind, Sem.run_pure, Result.andThen_ok, List.map_toArray, List.map_cons, List.map_nil, hs, hx, hr]
    exact hK _ _ (h A' c' w' h2 h3)
end Go.Proofs.YtejapeafepcacaaDoor
