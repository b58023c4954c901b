/- What the steps of a plan are, one by one: ahead of the show, the show, behind it. Plain. -/
import Derived.Test.YtimfnimcmfjjpaaOf
namespace Go.Proofs.Ytimfnimcmfjjpaa
open Go.RowKit
def Memb (X : Lst) (x : Int) : Prop := ∃ k, k < X.n ∧ X.f k = x
def preL (a : Int) (P : PlanD) : List Op3 := writtenL P.F.f P.F.g P.F.n ++ linesL P.L.f P.L.n ++ redoL a P.R.f P.R.g P.R.n
def midL (a : Int) (P : PlanD) : List Op3 := if P.R.n = 0 then [] else writtenL P.R.f P.R.g P.R.n ++ writtenL (fun _ => a) (fun _ => 0) 1
theorem stepsL_parts (a : Int) (P : PlanD) : stepsL a P = preL a P ++ [⟨4, 0, 0⟩] ++ midL a P ++ storesL P.D.f P.D.g P.D.n := rfl
def Low (o : Op3) : Prop := 0 ≤ o.a ∧ o.a < 1000000000
def OkA (P : PlanD) (o : Op3) : Prop := Low o ∧ o.k ≠ 4 ∧ (o.k = 1 → ¬ Memb P.R o.a ∧ ¬ Memb P.D o.a)
def OkB (P : PlanD) (o : Op3) : Prop := Low o ∧ o.k ≠ 4 ∧ (o.k = 1 → ¬ Memb P.F o.a ∧ ¬ Memb P.D o.a)
def OkC (P : PlanD) (o : Op3) : Prop := Low o ∧ o.k = 1 ∧ Memb P.D o.a ∧ ¬ Memb P.F o.a
/-- All places and lines of a plan are low. -/
def LowP (P : PlanD) : Prop := (∀ k, k < P.F.n → 0 ≤ P.F.f k ∧ P.F.f k < 100000) ∧ (∀ k, k < P.R.n → 0 ≤ P.R.f k ∧ P.R.f k < 100000) ∧ (∀ k, k < P.D.n → 0 ≤ P.D.f k ∧ P.D.f k < 100000) ∧ (∀ k, k < P.L.n → 0 ≤ P.L.f k ∧ P.L.f k < 100000)
theorem mem_stores {f g : Nat → Int} {m : Nat} {o : Op3} (h : o ∈ storesL f g m) : ∃ k, k < m ∧ o = ⟨1, f k, g k⟩ := by
  obtain ⟨k, hk, rfl⟩ := List.mem_map.1 h
  exact ⟨k, List.mem_range.1 hk, rfl⟩
theorem mem_lines {f : Nat → Int} {m : Nat} {o : Op3} (h : o ∈ linesL f m) : (∃ k, k < m ∧ o = ⟨2, f k, 0⟩) ∨ o = ⟨3, 0, 0⟩ := by
  unfold linesL at h
  split at h
  · cases h
  · rcases List.mem_append.1 h with h | h
    · obtain ⟨k, hk, rfl⟩ := List.mem_map.1 h
      exact .inl ⟨k, List.mem_range.1 hk, rfl⟩
    · exact .inr (by simpa using h)
theorem mem_lineL {f : Nat → Int} {m : Nat} {x : Int} : x ∈ lineL f m ↔ ∃ j, j < m ∧ f j / 8 = x := by
  unfold lineL
  rw [List.mem_mergeSort, List.mem_eraseDups, List.mem_map]
  exact ⟨fun ⟨j, hj, e⟩ => ⟨j, List.mem_range.1 hj, e⟩, fun ⟨j, hj, e⟩ => ⟨j, List.mem_range.2 hj, e⟩⟩
theorem mem_written {f g : Nat → Int} {m : Nat} {o : Op3} (h : o ∈ writtenL f g m) : (∃ k, k < m ∧ o = ⟨1, f k, g k⟩) ∨ (∃ k, k < m ∧ o = ⟨2, f k / 8, 0⟩) ∨ o = ⟨3, 0, 0⟩ := by
  unfold writtenL at h
  rcases List.mem_append.1 h with h | h
  · exact .inl (mem_stores h)
  · rcases mem_lines h with ⟨k, hk, rfl⟩ | rfl
    · have hm : (lineL f m).getD k 0 ∈ lineL f m := by
        rw [List.getD_eq_getElem?_getD, List.getElem?_eq_getElem hk]
        exact List.getElem_mem hk
      obtain ⟨j, hj, e⟩ := mem_lineL.1 hm
      exact .inr (.inl ⟨j, hj, by rw [e]⟩)
    · exact .inr (.inr rfl)
theorem written_end {f g : Nat → Int} {m : Nat} (h : 0 < m) : ∃ M, writtenL f g m = M ++ [⟨3, 0, 0⟩] := by
  unfold writtenL linesL
  rw [if_neg (by have := lineL_pos f h; omega), ← List.append_assoc]
  exact ⟨_, rfl⟩
theorem apart_memb {P : PlanD} {a : Int} (h : ApartP P a) {x : Int} : (Memb P.F x → ¬ Memb P.R x ∧ ¬ Memb P.D x) ∧ (Memb P.R x → ¬ Memb P.F x ∧ ¬ Memb P.D x) ∧ (Memb P.D x → ¬ Memb P.F x ∧ ¬ Memb P.R x) ∧ (a ≤ x → x < a + 136 → ¬ Memb P.F x ∧ ¬ Memb P.R x ∧ ¬ Memb P.D x) := by
  have no : ∀ i j, i < 3 → j < 3 → i ≠ j → Memb (lst P i) x → ¬ Memb (lst P j) x := by
    rintro i j hi hj hne ⟨k, hk, rfl⟩ ⟨l, hl, e⟩
    exact hne (h.2 i j k l hi hj hk hl e.symm)
  have sl : ∀ i, i < 3 → a ≤ x → x < a + 136 → ¬ Memb (lst P i) x := by
    rintro i hi h1 h2 ⟨k, hk, rfl⟩
    exact h.1 i k hi hk ⟨h1, h2⟩
  exact ⟨fun hF => ⟨no 0 1 (by omega) (by omega) (by omega) hF, no 0 2 (by omega) (by omega) (by omega) hF⟩,
    fun hR => ⟨no 1 0 (by omega) (by omega) (by omega) hR, no 1 2 (by omega) (by omega) (by omega) hR⟩,
    fun hD => ⟨no 2 0 (by omega) (by omega) (by omega) hD, no 2 1 (by omega) (by omega) (by omega) hD⟩,
    fun h1 h2 => ⟨sl 0 (by omega) h1 h2, sl 1 (by omega) h1 h2, sl 2 (by omega) h1 h2⟩⟩
theorem pre_ok {P : PlanD} {a : Int} (h : ApartP P a) (hl : LowP P) (ha : 0 ≤ a ∧ a < 100000) (hR : P.R.n ≤ 64) : ∀ o ∈ preL a P, OkA P o := by
  intro o ho
  unfold preL at ho
  rcases List.mem_append.1 ho with ho | ho
  · rcases List.mem_append.1 ho with ho | ho
    · rcases mem_written ho with ⟨k, hk, rfl⟩ | ⟨k, hk, rfl⟩ | rfl
      · have := hl.1 k hk
        exact ⟨⟨this.1, by show P.F.f k < _; omega⟩, by simp, fun _ => (apart_memb h).1 ⟨k, hk, rfl⟩⟩
      · have := hl.1 k hk
        exact ⟨⟨by show 0 ≤ P.F.f k / 8; omega, by show P.F.f k / 8 < _; omega⟩, by simp, fun e => by simp at e⟩
      · exact ⟨⟨by simp, by simp⟩, by simp, fun e => by simp at e⟩
    · rcases mem_lines ho with ⟨k, hk, rfl⟩ | rfl
      · have := hl.2.2.2 k hk
        exact ⟨⟨this.1, by show P.L.f k < _; omega⟩, by simp, fun e => by simp at e⟩
      · exact ⟨⟨by simp, by simp⟩, by simp, fun e => by simp at e⟩
  · unfold redoL at ho
    split at ho
    · cases ho
    · rcases List.mem_append.1 ho with ho | ho
      · rcases mem_written ho with ⟨k, hk, rfl⟩ | ⟨k, hk, rfl⟩ | rfl
        · exact ⟨⟨by show 0 ≤ a + 8 + (k : Int); omega, by show a + 8 + (k : Int) < _; omega⟩, by simp, fun _ => ((apart_memb h).2.2.2 (by show a ≤ a + 8 + (k : Int); omega) (by show a + 8 + (k : Int) < _; omega)).2⟩
        · exact ⟨⟨by show 0 ≤ (a + 8 + (k : Int)) / 8; omega, by show (a + 8 + (k : Int)) / 8 < _; omega⟩, by simp, fun e => by simp at e⟩
        · exact ⟨⟨by simp, by simp⟩, by simp, fun e => by simp at e⟩
      · rcases mem_written ho with ⟨k, hk, rfl⟩ | ⟨k, hk, rfl⟩ | rfl
        · exact ⟨⟨ha.1, by show a < _; omega⟩, by simp, fun _ => ((apart_memb h).2.2.2 (by show a ≤ a; omega) (by show a < _; omega)).2⟩
        · exact ⟨⟨by show 0 ≤ a / 8; omega, by show a / 8 < _; omega⟩, by simp, fun e => by simp at e⟩
        · exact ⟨⟨by simp, by simp⟩, by simp, fun e => by simp at e⟩
theorem mid_ok {P : PlanD} {a : Int} (h : ApartP P a) (hl : LowP P) (ha : 0 ≤ a ∧ a < 100000) : ∀ o ∈ midL a P, OkB P o := by
  intro o ho
  unfold midL at ho
  split at ho
  · cases ho
  · rcases List.mem_append.1 ho with ho | ho
    · rcases mem_written ho with ⟨k, hk, rfl⟩ | ⟨k, hk, rfl⟩ | rfl
      · have := hl.2.1 k hk
        exact ⟨⟨this.1, by show P.R.f k < _; omega⟩, by simp, fun _ => (apart_memb h).2.1 ⟨k, hk, rfl⟩⟩
      · have := hl.2.1 k hk
        exact ⟨⟨by show 0 ≤ P.R.f k / 8; omega, by show P.R.f k / 8 < _; omega⟩, by simp, fun e => by simp at e⟩
      · exact ⟨⟨by simp, by simp⟩, by simp, fun e => by simp at e⟩
    · rcases mem_written ho with ⟨k, hk, rfl⟩ | ⟨k, hk, rfl⟩ | rfl
      · have := (apart_memb h).2.2.2 (by show a ≤ a; omega) (by show a < _; omega)
        exact ⟨⟨ha.1, by show a < _; omega⟩, by simp, fun _ => ⟨this.1, this.2.2⟩⟩
      · exact ⟨⟨by show 0 ≤ a / 8; omega, by show a / 8 < _; omega⟩, by simp, fun e => by simp at e⟩
      · exact ⟨⟨by simp, by simp⟩, by simp, fun e => by simp at e⟩
theorem data_ok {P : PlanD} {a : Int} (h : ApartP P a) (hl : LowP P) : ∀ o ∈ storesL P.D.f P.D.g P.D.n, OkC P o := by
  intro o ho
  obtain ⟨k, hk, rfl⟩ := mem_stores ho
  have := hl.2.2.1 k hk
  exact ⟨⟨this.1, by show P.D.f k < _; omega⟩, rfl, ⟨k, hk, rfl⟩, ((apart_memb h).2.2.1 ⟨k, hk, rfl⟩).1⟩
theorem pre_end (a : Int) (P : PlanD) : ((preL a P).length = 0 ↔ P.F.n + P.L.n + P.R.n = 0) ∧ ∀ j (h : j + 1 = (preL a P).length), (preL a P)[j].k = 3 := by
  have last : ∀ M : List Op3, ∀ j (h : j + 1 = (M ++ [(⟨3, 0, 0⟩ : Op3)]).length), (M ++ [(⟨3, 0, 0⟩ : Op3)])[j].k = 3 := by
    intro M j h
    have : j = M.length := by simp at h; omega
    subst this
    simp
  have key : (preL a P = [] ∧ P.F.n + P.L.n + P.R.n = 0) ∨ (0 < P.F.n + P.L.n + P.R.n ∧ ∃ M, preL a P = M ++ [⟨3, 0, 0⟩]) := by
    unfold preL
    by_cases hR : P.R.n = 0
    · rw [show redoL a P.R.f P.R.g P.R.n = [] by unfold redoL; rw [if_pos hR], List.append_nil]
      by_cases hL : P.L.n = 0
      · rw [show linesL P.L.f P.L.n = [] by unfold linesL; rw [if_pos hL], List.append_nil]
        by_cases hF : P.F.n = 0
        · exact .inl ⟨by rw [hF]; simp [writtenL, storesL, linesL, lineL], by omega⟩
        · exact .inr ⟨by omega, written_end (by omega)⟩
      · refine .inr ⟨by omega, ?_⟩
        unfold linesL
        rw [if_neg hL, ← List.append_assoc]
        exact ⟨_, rfl⟩
    · refine .inr ⟨by omega, ?_⟩
      obtain ⟨M, hM⟩ := written_end (f := fun _ => a) (g := fun _ => (commitN P.R.f P.R.g P.R.n : Nat)) (m := 1) (by omega)
      unfold redoL
      rw [if_neg hR, hM, ← List.append_assoc, ← List.append_assoc]
      exact ⟨_, rfl⟩
  rcases key with ⟨h1, h2⟩ | ⟨h1, M, hM⟩
  · exact ⟨by rw [h1]; simpa using h2, fun j h => by have h' := h; rw [h1] at h'; simp at h'⟩
  · refine ⟨by rw [hM]; simp; omega, fun j h => ?_⟩
    have := last M j (by rw [← hM]; exact h)
    simpa [hM] using this
theorem steps_at {P : PlanD} {a : Int} (h : ApartP P a) (hl : LowP P) (ha : 0 ≤ a ∧ a < 100000) (hR : P.R.n ≤ 64) (i : Nat) (hi : i < (stepsL a P).length) :
    (i < (preL a P).length ∧ OkA P (stepsL a P)[i]) ∨ (i = (preL a P).length ∧ (stepsL a P)[i] = ⟨4, 0, 0⟩) ∨ ((preL a P).length < i ∧ i < (preL a P).length + 1 + (midL a P).length ∧ OkB P (stepsL a P)[i]) ∨ ((preL a P).length + 1 + (midL a P).length ≤ i ∧ OkC P (stepsL a P)[i]) := by
  have e := stepsL_parts a P
  have hA := pre_ok h hl ha hR
  have hB := mid_ok h hl ha
  have hC := data_ok h hl
  generalize stepsL a P = L at *
  generalize preL a P = A at *
  generalize midL a P = B at *
  generalize storesL P.D.f P.D.g P.D.n = C at *
  subst e
  simp only [List.length_append, List.length_cons, List.length_nil] at hi
  by_cases h1 : i < A.length
  · refine .inl ⟨h1, ?_⟩
    rw [List.getElem_append_left (by simp; omega), List.getElem_append_left (by simp; omega), List.getElem_append_left h1]
    exact hA _ (List.getElem_mem h1)
  · by_cases h2 : i = A.length
    · subst h2
      refine .inr (.inl ⟨rfl, ?_⟩)
      rw [List.getElem_append_left (by simp), List.getElem_append_left (by simp)]
      simp
    · by_cases h3 : i < A.length + 1 + B.length
      · refine .inr (.inr (.inl ⟨by omega, h3, ?_⟩))
        rw [List.getElem_append_left (by simp; omega), List.getElem_append_right (by simp; omega)]
        exact hB _ (List.getElem_mem _)
      · refine .inr (.inr (.inr ⟨by omega, ?_⟩))
        rw [List.getElem_append_right (by simp; omega)]
        exact hC _ (List.getElem_mem _)
theorem steps_before (a : Int) (P : PlanD) (j : Nat) (h : j + 1 = (preL a P).length) (hj : j < (stepsL a P).length) : (stepsL a P)[j].k = 3 := by
  have := (pre_end a P).2 j h
  have e : (stepsL a P)[j]? = (preL a P)[j]? := by
    rw [stepsL_parts, List.append_assoc, List.append_assoc, List.getElem?_append_left (by omega)]
  rw [List.getElem?_eq_getElem hj, List.getElem?_eq_getElem (by omega)] at e
  rw [Option.some.inj e]
  exact this
theorem stepsL_size (a : Int) (P : PlanD) : (stepsL a P).length = (preL a P).length + 1 + (midL a P).length + P.D.n := by
  rw [stepsL_parts]
  simp [storesL_len]
  omega
end Go.Proofs.Ytimfnimcmfjjpaa
