/- What a crash may find behind any beginning of the steps. Plain. -/
import Derived.Test.YtimfnimcmfjjpaaEnds
namespace Go.Proofs.Ytimfnimcmfjjpaa
open Go.RowKit
/-- A word that a crash may find. -/
def Poss (s : DevS) (x : Nat) (v : Int) : Prop := v = s.1 x ∨ ∃ p ∈ s.2, p.a = (x : Int) ∧ p.w = v
theorem fenceK_poss {x : Nat} : ∀ (L : List Pd) (K : Nat → Int), fenceK K L x = K x ∨ ∃ p ∈ L, p.a = (x : Int) ∧ p.w = fenceK K L x
  | [], _ => .inl rfl
  | p :: L, K => by
    have e : fenceK K (p :: L) = fenceK (if p.fl then updK K p.a p.w else K) L := rfl
    rw [e]
    rcases fenceK_poss L (if p.fl then updK K p.a p.w else K) with h | ⟨q, hq, h1, h2⟩
    · rw [h]
      cases hp : p.fl
      · exact .inl (by simp)
      · by_cases hx : (x : Int) = p.a
        · exact .inr ⟨p, by simp, hx.symm, by simp [updK, hx]⟩
        · exact .inl (by simp [updK, hx])
    · exact .inr ⟨q, by simp [hq], h1, h2⟩
theorem poss_step {s : DevS} {o : Op3} {x : Nat} {v : Int} (h : Poss (dstep s o) x v) : Poss s x v ∨ (o.k = 1 ∧ o.a = (x : Int) ∧ o.w = v) := by
  unfold dstep at h
  split at h
  · rename_i e
    rcases h with h | ⟨p, hp, h1, h2⟩
    · exact .inl (.inl h)
    · rcases List.mem_append.1 hp with hp | hp
      · exact .inl (.inr ⟨p, hp, h1, h2⟩)
      · obtain rfl : p = ⟨o.a, o.w, false⟩ := by simpa using hp
        exact .inr ⟨e, h1, h2⟩
  · split at h
    · rcases h with h | ⟨p, hp, h1, h2⟩
      · exact .inl (.inl h)
      · obtain ⟨q, hq, rfl⟩ := List.mem_map.1 hp
        exact .inl (.inr ⟨q, hq, h1, h2⟩)
    · split at h
      · rcases h with h | ⟨p, hp, h1, h2⟩
        · rcases fenceK_poss (x := x) s.2 s.1 with e | ⟨p, hp, h1, h2⟩
          · exact .inl (.inl (h.trans e))
          · exact .inl (.inr ⟨p, hp, h1, h2.trans h.symm⟩)
        · exact .inl (.inr ⟨p, (List.mem_filter.1 hp).1, h1, h2⟩)
      · exact .inl h
theorem poss_runs {x : Nat} {v : Int} : ∀ (T : List Op3) (s : DevS), Poss (druns s T) x v → Poss s x v ∨ ∃ o ∈ T, o.k = 1 ∧ o.a = (x : Int) ∧ o.w = v
  | [], _, h => .inl h
  | o :: T, s, h => by
    rcases poss_runs T (dstep s o) h with h | ⟨q, hq, h1⟩
    · rcases poss_step h with h | h
      · exact .inl h
      · exact .inr ⟨o, by simp, h⟩
    · exact .inr ⟨q, by simp [hq], h1⟩
theorem poss_from {K : Nat → Int} {x : Nat} {v : Int} {T : List Op3} (h : Poss (druns (K, []) T) x v) : v = K x ∨ ∃ o ∈ T, o.k = 1 ∧ o.a = (x : Int) ∧ o.w = v := by
  rcases poss_runs T (K, []) h with (h | ⟨p, hp, -⟩) | h
  · exact .inl h
  · cases hp
  · exact .inr h
/-- The words behind a crash. -/
def crashTo (K : Nat → Int) (L : List Pd) (keep : Nat → Bool) : Nat → Nat → Int
  | 0 => K
  | i + 1 => if keep i then updK (crashTo K L keep i) (L.getD i ⟨0, 0, false⟩).a (L.getD i ⟨0, 0, false⟩).w else crashTo K L keep i
theorem crash_poss {K : Nat → Int} {L : List Pd} {keep : Nat → Bool} {x : Nat} : ∀ i, i ≤ L.length → Poss (K, L) x (crashTo K L keep i x)
  | 0, _ => .inl rfl
  | i + 1, hi => by
    have hi' : i < L.length := hi
    have ih := crash_poss (K := K) (L := L) (keep := keep) (x := x) i (by omega)
    unfold crashTo
    split
    · have e : L.getD i ⟨0, 0, false⟩ = L[i] := by rw [List.getD_eq_getElem?_getD, List.getElem?_eq_getElem (by omega)]; rfl
      rw [e]
      unfold updK
      split
      · rename_i hx
        exact .inr ⟨L[i], List.getElem_mem hi', hx.symm, rfl⟩
      · exact ih
    · exact ih
theorem take_cases (A B : List Op3) (c : Nat) : (∃ c', (A ++ B).take c = A.take c') ∨ ∃ c', (A ++ B).take c = A ++ B.take c' := by
  by_cases h : c ≤ A.length
  · exact .inl ⟨c, List.take_append_of_le_length h⟩
  · exact .inr ⟨c - A.length, by rw [List.take_append, List.take_of_length_le (by omega)]⟩
/-- What a list says last of each place. -/
def Fin (X : Lst) (K : Nat → Int) : Prop := ∀ j x : Nat, j < X.n → X.f j = (x : Int) → (∀ i, j < i → i < X.n → X.f i ≠ X.f j) → K x = X.g j
theorem fin_self (X : Lst) (K : Nat → Int) : Fin X (setsK K X.f X.g X.n) := fun _ _ hj hx hl => setsK_last hj hx hl
theorem fin_poss {X : Lst} {K fw : Nat → Int} (h : Fin X K) (he : ∀ x : Nat, Memb X x → fw x = K x) : Fin X fw := fun j x hj hx hl => (he x ⟨j, hj, hx⟩).trans (h j x hj hx hl)
theorem fin_set {X : Lst} {K f g : Nat → Int} {m : Nat} (h : Fin X K) (hn : ∀ k, k < m → ¬ Memb X (f k)) : Fin X (setsK K f g m) := fin_poss h fun _ hx => setsK_other fun k hk e => hn k hk (e ▸ hx)
theorem from_written {K f g : Nat → Int} {m c x : Nat} {v : Int} (h : Poss (druns (K, []) ((writtenL f g m).take c)) x v) : v = K x ∨ ∃ k, k < m ∧ f k = (x : Int) ∧ g k = v := by
  rcases poss_from h with h | ⟨o, ho, h1, h2, h3⟩
  · exact .inl h
  · rcases mem_written (List.mem_of_mem_take ho) with ⟨k, hk, rfl⟩ | ⟨k, hk, rfl⟩ | rfl
    · exact .inr ⟨k, hk, h2, h3⟩
    · simp at h1
    · simp at h1
theorem from_stores {K f g : Nat → Int} {m c x : Nat} {v : Int} (h : Poss (druns (K, []) ((storesL f g m).take c)) x v) : v = K x ∨ ∃ k, k < m ∧ f k = (x : Int) ∧ g k = v := by
  rcases poss_from h with h | ⟨o, ho, h1, h2, h3⟩
  · exact .inl h
  · obtain ⟨k, hk, rfl⟩ := mem_stores (List.mem_of_mem_take ho)
    exact .inr ⟨k, hk, h2, h3⟩
def shownB (T : List Op3) : Bool := T.any fun o => o.k == 4
theorem shown_no {T : List Op3} (h : ∀ o ∈ T, o.k ≠ 4) : shownB T = false := by
  unfold shownB
  rw [List.any_eq_false]
  intro o ho
  simpa using h o ho
theorem written_no {f g : Nat → Int} {m : Nat} : ∀ o ∈ writtenL f g m, o.k ≠ 4 := fun o ho => by
  rcases mem_written ho with ⟨k, -, rfl⟩ | ⟨k, -, rfl⟩ | rfl <;> simp
theorem linesL_no {f : Nat → Int} {m : Nat} : ∀ o ∈ linesL f m, o.k ≠ 4 := fun o ho => by
  rcases mem_lines ho with ⟨k, -, rfl⟩ | rfl <;> simp
/-- The words that were found: nothing of Redo; or its whole list lies in the slot; or it is there. -/
def Found (P : PlanD) (a : Nat) (K fw : Nat → Int) (sh : Bool) : Prop :=
  (fw a = 0 ∧ sh = false ∧ ∀ x : Nat, Memb P.R x → fw x = K x) ∨ (0 < P.R.n ∧ fw a = (commitN P.R.f P.R.g P.R.n : Nat) ∧ (∀ j, j < 2 * P.R.n → fw (a + 8 + j) = (bodyF P.R.f P.R.g j : Nat)) ∧ Fin P.F fw) ∨ (fw a = 0 ∧ Fin P.F fw ∧ Fin P.R fw)
/-- .. and the others. -/
def Others (P : PlanD) (a : Nat) (K fw : Nat → Int) : Prop :=
  (∀ x : Nat, ¬ Memb P.F x → ¬ Memb P.R x → ¬ Memb P.D x → (x < a ∨ a + 136 ≤ x) → fw x = K x) ∧ ∀ x : Nat, Memb P.D x → fw x = K x ∨ ∃ k, k < P.D.n ∧ P.D.f k = (x : Int) ∧ P.D.g k = fw x
theorem mem_store {P : PlanD} {a : Nat} (hR : P.R.n ≤ 64) {o : Op3} (h : o ∈ stepsL a P) (h1 : o.k = 1) : Memb P.F o.a ∨ Memb P.R o.a ∨ ((a : Int) ≤ o.a ∧ o.a < (a : Int) + 136) ∨ ∃ k, k < P.D.n ∧ o = ⟨1, P.D.f k, P.D.g k⟩ := by
  have W : ∀ {f g : Nat → Int} {m : Nat}, o ∈ writtenL f g m → ∃ k, k < m ∧ o.a = f k := by
    intro f g m h
    rcases mem_written h with ⟨k, hk, rfl⟩ | ⟨k, hk, rfl⟩ | rfl
    · exact ⟨k, hk, rfl⟩
    · simp at h1
    · simp at h1
  unfold stepsL at h
  rcases List.mem_append.1 h with h | h
  · rcases List.mem_append.1 h with h | h
    · rcases List.mem_append.1 h with h | h
      · rcases List.mem_append.1 h with h | h
        · rcases List.mem_append.1 h with h | h
          · obtain ⟨k, hk, e⟩ := W h
            exact .inl ⟨k, hk, e.symm⟩
          · rcases mem_lines h with ⟨k, hk, rfl⟩ | rfl <;> simp at h1
        · unfold redoL at h
          split at h
          · cases h
          · rcases List.mem_append.1 h with h | h
            · obtain ⟨k, hk, e⟩ := W h
              exact .inr (.inr (.inl (by rw [e]; constructor <;> omega)))
            · obtain ⟨k, hk, e⟩ := W h
              exact .inr (.inr (.inl (by rw [e]; constructor <;> omega)))
      · obtain rfl : o = ⟨4, 0, 0⟩ := by simpa using h
        simp at h1
    · split at h
      · cases h
      · rcases List.mem_append.1 h with h | h
        · obtain ⟨k, hk, e⟩ := W h
          exact .inr (.inl ⟨k, hk, e.symm⟩)
        · obtain ⟨k, hk, e⟩ := W h
          exact .inr (.inr (.inl (by rw [e]; constructor <;> omega)))
  · obtain ⟨k, hk, rfl⟩ := mem_stores h
    exact .inr (.inr (.inr ⟨k, hk, rfl⟩))
theorem cut_others {P : PlanD} {a c : Nat} {K fw : Nat → Int} (h : ApartP P a) (hR : P.R.n ≤ 64) (hf : ∀ x, Poss (druns (K, []) ((stepsL a P).take c)) x (fw x)) : Others P a K fw := by
  constructor
  · intro x hF hR' hD hs
    rcases poss_from (hf x) with e | ⟨o, ho, h1, h2, h3⟩
    · exact e
    · rcases mem_store hR (List.mem_of_mem_take ho) h1 with m | m | m | ⟨k, hk, rfl⟩
      · exact absurd (h2 ▸ m) hF
      · exact absurd (h2 ▸ m) hR'
      · omega
      · exact absurd ⟨k, hk, h2⟩ hD
  · intro x hD
    rcases poss_from (hf x) with e | ⟨o, ho, h1, h2, h3⟩
    · exact .inl e
    · have ha := (apart_memb h).2.2.1 hD
      rcases mem_store hR (List.mem_of_mem_take ho) h1 with m | m | m | ⟨k, hk, rfl⟩
      · exact absurd (h2 ▸ m) ha.1
      · exact absurd (h2 ▸ m) ha.2
      · exact absurd hD ((apart_memb h).2.2.2 (by omega) (by omega)).2.2
      · exact .inr ⟨k, hk, h2, h3⟩
theorem slotw_no {P : PlanD} {a : Nat} (h : ApartP P a) {x : Nat} (h1 : a ≤ x) (h2 : x < a + 136) : ¬ Memb P.F x ∧ ¬ Memb P.R x ∧ ¬ Memb P.D x := (apart_memb h).2.2.2 (by omega) (by omega)
theorem cut_found {P : PlanD} {a c : Nat} {K fw : Nat → Int} (h : ApartP P a) (hR : P.R.n ≤ 64) (h0 : K a = 0) (hf : ∀ x, Poss (druns (K, []) ((stepsL a P).take c)) x (fw x)) : Found P a K fw (shownB ((stepsL a P).take c)) := by
  have sa := slotw_no h (x := a) (Nat.le_refl _) (by omega)
  by_cases hn : P.R.n = 0
  · have hs : stepsL a P = (writtenL P.F.f P.F.g P.F.n ++ linesL P.L.f P.L.n) ++ ([(⟨4, 0, 0⟩ : Op3)] ++ storesL P.D.f P.D.g P.D.n) := by
      unfold stepsL redoL
      rw [if_pos hn, if_pos hn]
      simp only [List.append_nil, List.append_assoc]
    have hd : druns (K, []) (writtenL P.F.f P.F.g P.F.n ++ linesL P.L.f P.L.n) = (setsK K P.F.f P.F.g P.F.n, []) := by rw [druns_append, druns_written, druns_lines0]
    have noR : ∀ x : Int, ¬ Memb P.R x := fun x ⟨k, hk, _⟩ => by omega
    rw [hs] at hf ⊢
    rcases take_cases (writtenL P.F.f P.F.g P.F.n ++ linesL P.L.f P.L.n) ([(⟨4, 0, 0⟩ : Op3)] ++ storesL P.D.f P.D.g P.D.n) c with ⟨c', e⟩ | ⟨c', e⟩
    · refine .inl ⟨?_, ?_, fun x hx => absurd hx (noR x)⟩
      · rw [e] at hf
        rcases poss_from (hf a) with e | ⟨o, ho, h1, h2, h3⟩
        · rw [e, h0]
        · have hF : Memb P.F o.a := by
            rcases List.mem_append.1 (List.mem_of_mem_take ho) with ho | ho
            · rcases mem_written ho with ⟨k, hk, rfl⟩ | ⟨k, hk, rfl⟩ | rfl
              · exact ⟨k, hk, rfl⟩
              · simp at h1
              · simp at h1
            · rcases mem_lines ho with ⟨k, hk, rfl⟩ | rfl <;> simp at h1
          exact absurd (h2 ▸ hF) sa.1
      · rw [e]
        refine shown_no fun o ho => ?_
        rcases List.mem_append.1 (List.mem_of_mem_take ho) with ho | ho
        · exact written_no o ho
        · exact linesL_no o ho
    · rw [e] at hf
      rw [druns_append, hd] at hf
      have key : ∀ x, fw x = setsK K P.F.f P.F.g P.F.n x ∨ Memb P.D x := fun x => by
        rcases poss_from (hf x) with e | ⟨o, ho, h1, h2, h3⟩
        · exact .inl e
        · rcases List.mem_append.1 (List.mem_of_mem_take ho) with ho | ho
          · obtain rfl : o = ⟨4, 0, 0⟩ := by simpa using ho
            simp at h1
          · obtain ⟨k, hk, rfl⟩ := mem_stores ho
            exact .inr ⟨k, hk, h2⟩
      refine .inr (.inr ⟨?_, ?_, fun j x hj => by omega⟩)
      · rcases key a with e | hD
        · rw [e, setsK_other (fun k hk e' => sa.1 ⟨k, hk, e'⟩), h0]
        · exact absurd hD sa.2.2
      · refine fin_poss (fin_self P.F K) fun x hx => ?_
        rcases key x with e | hD
        · exact e
        · exact absurd hD ((apart_memb h).1 hx).2
  · have hs : stepsL a P = (writtenL P.F.f P.F.g P.F.n ++ linesL P.L.f P.L.n ++ writtenL (fun j => a + 8 + j) (fun j => (bodyF P.R.f P.R.g j : Nat)) (2 * P.R.n)) ++ (writtenL (fun _ => a) (fun _ => (commitN P.R.f P.R.g P.R.n : Nat)) 1 ++ (([(⟨4, 0, 0⟩ : Op3)] ++ writtenL P.R.f P.R.g P.R.n) ++ (writtenL (fun _ => a) (fun _ => 0) 1 ++ storesL P.D.f P.D.g P.D.n))) := by
      unfold stepsL redoL
      rw [if_neg hn, if_neg hn]
      simp only [List.append_assoc]
    have hdA : druns (K, []) (writtenL P.F.f P.F.g P.F.n ++ linesL P.L.f P.L.n ++ writtenL (fun j => a + 8 + j) (fun j => (bodyF P.R.f P.R.g j : Nat)) (2 * P.R.n)) = (setsK (setsK K P.F.f P.F.g P.F.n) (fun j => a + 8 + j) (fun j => (bodyF P.R.f P.R.g j : Nat)) (2 * P.R.n), []) := by
      rw [druns_append, druns_append, druns_written, druns_lines0, druns_written]
    have slF : ∀ y : Int, (a : Int) ≤ y → y < (a : Int) + 136 → ¬ Memb P.F y := fun y h1 h2 => ((apart_memb h).2.2.2 h1 h2).1
    have F1 : Fin P.F (setsK (setsK K P.F.f P.F.g P.F.n) (fun j => a + 8 + j) (fun j => (bodyF P.R.f P.R.g j : Nat)) (2 * P.R.n)) := fin_set (fin_self _ _) fun k hk => slF _ (by omega) (by omega)
    have b1 : ∀ j, j < 2 * P.R.n → setsK (setsK K P.F.f P.F.g P.F.n) (fun j => a + 8 + j) (fun j => (bodyF P.R.f P.R.g j : Nat)) (2 * P.R.n) (a + 8 + j) = (bodyF P.R.f P.R.g j : Nat) := fun j hj => by
      rw [setsK_last (j := j) hj (by push_cast; rfl) (fun i h1 h2 e => by omega)]
    have a1 : setsK (setsK K P.F.f P.F.g P.F.n) (fun j => a + 8 + j) (fun j => (bodyF P.R.f P.R.g j : Nat)) (2 * P.R.n) a = 0 := by
      rw [setsK_other (fun k hk e => by omega), setsK_other (fun k hk e => sa.1 ⟨k, hk, e⟩), h0]
    have r1 : ∀ x : Nat, Memb P.R x → setsK (setsK K P.F.f P.F.g P.F.n) (fun j => a + 8 + j) (fun j => (bodyF P.R.f P.R.g j : Nat)) (2 * P.R.n) x = K x := fun x hx => by
      rw [setsK_other (x := x) (fun k hk e => ((apart_memb h (x := (a : Int) + 8 + k)).2.2.2 (by omega) (by omega)).2.1 (by have e' : (a : Int) + 8 + k = x := e; rw [e']; exact hx)), setsK_other (fun k hk e => ((apart_memb h).2.1 hx).1 ⟨k, hk, e⟩)]
    generalize hK1 : setsK (setsK K P.F.f P.F.g P.F.n) (fun j => a + 8 + j) (fun j => (bodyF P.R.f P.R.g j : Nat)) (2 * P.R.n) = K1 at hdA F1 b1 a1 r1
    have hdB : druns (K1, []) (writtenL (fun _ => a) (fun _ => (commitN P.R.f P.R.g P.R.n : Nat)) 1) = (setsK K1 (fun _ => a) (fun _ => (commitN P.R.f P.R.g P.R.n : Nat)) 1, []) := druns_written _ _ _ _
    have F2 : Fin P.F (setsK K1 (fun _ => a) (fun _ => (commitN P.R.f P.R.g P.R.n : Nat)) 1) := fin_set F1 fun k hk => slF _ (by omega) (by omega)
    have b2 : ∀ j, j < 2 * P.R.n → setsK K1 (fun _ => a) (fun _ => (commitN P.R.f P.R.g P.R.n : Nat)) 1 (a + 8 + j) = (bodyF P.R.f P.R.g j : Nat) := fun j hj => by
      rw [setsK_other (fun k hk e => by omega), b1 j hj]
    have a2 : setsK K1 (fun _ => a) (fun _ => (commitN P.R.f P.R.g P.R.n : Nat)) 1 a = (commitN P.R.f P.R.g P.R.n : Nat) := setsK_last (j := 0) (by omega) rfl (fun i h1 h2 => by omega)
    generalize hK2 : setsK K1 (fun _ => (a : Int)) (fun _ => (commitN P.R.f P.R.g P.R.n : Nat)) 1 = K2 at hdB F2 b2 a2
    have hdC : druns (K2, []) ([(⟨4, 0, 0⟩ : Op3)] ++ writtenL P.R.f P.R.g P.R.n) = (setsK K2 P.R.f P.R.g P.R.n, []) := by
      rw [druns_append]
      exact druns_written _ _ _ _
    have slR : ∀ y : Nat, a ≤ y → y < a + 136 → ∀ k, k < P.R.n → P.R.f k ≠ (y : Int) := fun y h1 h2 k hk e => (slotw_no h h1 h2).2.1 ⟨k, hk, e⟩
    have F3 : Fin P.F (setsK K2 P.R.f P.R.g P.R.n) := fin_set F2 fun k hk => ((apart_memb h).2.1 ⟨k, hk, rfl⟩).1
    have R3 : Fin P.R (setsK K2 P.R.f P.R.g P.R.n) := fin_self _ _
    have b3 : ∀ j, j < 2 * P.R.n → setsK K2 P.R.f P.R.g P.R.n (a + 8 + j) = (bodyF P.R.f P.R.g j : Nat) := fun j hj => by
      rw [setsK_other (slR _ (by omega) (by omega)), b2 j hj]
    have a3 : setsK K2 P.R.f P.R.g P.R.n a = (commitN P.R.f P.R.g P.R.n : Nat) := by rw [setsK_other (slR _ (by omega) (by omega)), a2]
    generalize hK3 : setsK K2 P.R.f P.R.g P.R.n = K3 at hdC F3 R3 b3 a3
    have hdE : druns (K3, []) (writtenL (fun _ => a) (fun _ => 0) 1) = (setsK K3 (fun _ => a) (fun _ => 0) 1, []) := druns_written _ _ _ _
    have F4 : Fin P.F (setsK K3 (fun _ => a) (fun _ => 0) 1) := fin_set F3 fun k hk => slF _ (by omega) (by omega)
    have R4 : Fin P.R (setsK K3 (fun _ => a) (fun _ => 0) 1) := fin_set R3 fun k hk => ((apart_memb h (x := (a : Int))).2.2.2 (by omega) (by omega)).2.1
    have a4 : setsK K3 (fun _ => a) (fun _ => 0) 1 a = 0 := setsK_last (j := 0) (by omega) rfl (fun i h1 h2 => by omega)
    generalize hK4 : setsK K3 (fun _ => (a : Int)) (fun _ => 0) 1 = K4 at hdE F4 R4 a4
    clear hK1 hK2 hK3 hK4
    rw [hs] at hf ⊢
    rcases take_cases (writtenL P.F.f P.F.g P.F.n ++ linesL P.L.f P.L.n ++ writtenL (fun j => a + 8 + j) (fun j => (bodyF P.R.f P.R.g j : Nat)) (2 * P.R.n)) (writtenL (fun _ => a) (fun _ => (commitN P.R.f P.R.g P.R.n : Nat)) 1 ++ (([(⟨4, 0, 0⟩ : Op3)] ++ writtenL P.R.f P.R.g P.R.n) ++ (writtenL (fun _ => a) (fun _ => 0) 1 ++ storesL P.D.f P.D.g P.D.n))) c with ⟨c', e⟩ | ⟨c', e⟩
    · rw [e] at hf ⊢
      have key : ∀ x : Nat, (∀ k, k < 2 * P.R.n → x ≠ a + 8 + k) → ¬ Memb P.F x → fw x = K x := fun x hs hF => by
        rcases poss_from (hf x) with e | ⟨o, ho, h1, h2, h3⟩
        · exact e
        · rcases List.mem_append.1 (List.mem_of_mem_take ho) with ho | ho
          · rcases List.mem_append.1 ho with ho | ho
            · rcases mem_written ho with ⟨k, hk, rfl⟩ | ⟨k, hk, rfl⟩ | rfl
              · exact absurd (show Memb P.F x from ⟨k, hk, h2⟩) hF
              · simp at h1
              · simp at h1
            · rcases mem_lines ho with ⟨k, hk, rfl⟩ | rfl <;> simp at h1
          · rcases mem_written ho with ⟨k, hk, rfl⟩ | ⟨k, hk, rfl⟩ | rfl
            · have h2' : (a : Int) + 8 + k = x := h2
              exact absurd (by omega) (hs k hk)
            · simp at h1
            · simp at h1
      refine .inl ⟨?_, shown_no fun o ho => ?_, fun x hx => ?_⟩
      · rw [key a (fun k _ => by omega) sa.1, h0]
      · rcases List.mem_append.1 (List.mem_of_mem_take ho) with ho | ho
        · rcases List.mem_append.1 ho with ho | ho
          · exact written_no o ho
          · exact linesL_no o ho
        · exact written_no o ho
      · exact key x (fun k hk e => (slotw_no h (x := x) (by omega) (by omega)).2.1 hx) ((apart_memb h).2.1 hx).1
    · rw [e] at hf ⊢
      simp only [druns_append] at hdA
      have hf' : ∀ x, Poss (druns (K1, []) ((writtenL (fun _ => a) (fun _ => (commitN P.R.f P.R.g P.R.n : Nat)) 1 ++ (([(⟨4, 0, 0⟩ : Op3)] ++ writtenL P.R.f P.R.g P.R.n) ++ (writtenL (fun _ => a) (fun _ => 0) 1 ++ storesL P.D.f P.D.g P.D.n))).take c')) x (fw x) := fun x => by
        have := hf x
        rw [druns_append] at this
        simp only [druns_append] at this
        rw [hdA] at this
        exact this
      clear hf
      rcases take_cases (writtenL (fun _ => a) (fun _ => (commitN P.R.f P.R.g P.R.n : Nat)) 1) (([(⟨4, 0, 0⟩ : Op3)] ++ writtenL P.R.f P.R.g P.R.n) ++ (writtenL (fun _ => a) (fun _ => 0) 1 ++ storesL P.D.f P.D.g P.D.n)) c' with ⟨c2, e2⟩ | ⟨c2, e2⟩
      · rw [e2] at hf' ⊢
        have key : ∀ x : Nat, fw x = K1 x ∨ (x = a ∧ fw x = (commitN P.R.f P.R.g P.R.n : Nat)) := fun x => by
          rcases from_written (hf' x) with e | ⟨k, hk, h1, h2⟩
          · exact .inl e
          · exact .inr ⟨by have h1' : (a : Int) = x := h1; omega, h2.symm⟩
        have key' : ∀ x : Nat, x ≠ a → fw x = K1 x := fun x hx => (key x).resolve_right fun hr => hx hr.1
        rcases key a with ea | ⟨-, ea⟩
        · refine .inl ⟨by rw [ea, a1], shown_no fun o ho => ?_, fun x hx => ?_⟩
          · rcases List.mem_append.1 ho with ho | ho
            · rcases List.mem_append.1 ho with ho | ho
              · rcases List.mem_append.1 ho with ho | ho
                · exact written_no o ho
                · exact linesL_no o ho
              · exact written_no o ho
            · exact written_no o (List.mem_of_mem_take ho)
          · rw [key' x (fun e => sa.2.1 (e ▸ hx)), r1 x hx]
        · refine .inr (.inl ⟨by omega, ea, fun j hj => by rw [key' _ (by omega), b1 j hj], fin_poss F1 fun x hx => key' x fun e => sa.1 (e ▸ hx)⟩)
      · rw [e2] at hf' ⊢
        have hf2 : ∀ x, Poss (druns (K2, []) ((([(⟨4, 0, 0⟩ : Op3)] ++ writtenL P.R.f P.R.g P.R.n) ++ (writtenL (fun _ => a) (fun _ => 0) 1 ++ storesL P.D.f P.D.g P.D.n)).take c2)) x (fw x) := fun x => by
          have := hf' x
          rw [druns_append, hdB] at this
          exact this
        clear hf'
        rcases take_cases ([(⟨4, 0, 0⟩ : Op3)] ++ writtenL P.R.f P.R.g P.R.n) (writtenL (fun _ => a) (fun _ => 0) 1 ++ storesL P.D.f P.D.g P.D.n) c2 with ⟨c3, e3⟩ | ⟨c3, e3⟩
        · rw [e3] at hf2
          have key : ∀ x : Nat, ¬ Memb P.R x → fw x = K2 x := fun x hx => by
            rcases poss_from (hf2 x) with e | ⟨o, ho, h1, h2, h3⟩
            · exact e
            · rcases List.mem_append.1 (List.mem_of_mem_take ho) with ho | ho
              · obtain rfl : o = ⟨4, 0, 0⟩ := by simpa using ho
                simp at h1
              · rcases mem_written ho with ⟨k, hk, rfl⟩ | ⟨k, hk, rfl⟩ | rfl
                · exact absurd ⟨k, hk, h2⟩ hx
                · simp at h1
                · simp at h1
          exact .inr (.inl ⟨by omega, by rw [key a sa.2.1, a2], fun j hj => by rw [key _ (slotw_no h (by omega) (by omega)).2.1, b2 j hj], fin_poss F2 fun x hx => key x ((apart_memb h).1 hx).1⟩)
        · rw [e3] at hf2
          have hf3 : ∀ x, Poss (druns (K3, []) ((writtenL (fun _ => a) (fun _ => 0) 1 ++ storesL P.D.f P.D.g P.D.n).take c3)) x (fw x) := fun x => by
            have := hf2 x
            rw [druns_append, hdC] at this
            exact this
          clear hf2
          rcases take_cases (writtenL (fun _ => a) (fun _ => 0) 1) (storesL P.D.f P.D.g P.D.n) c3 with ⟨c4, e4⟩ | ⟨c4, e4⟩
          · rw [e4] at hf3
            have key : ∀ x : Nat, fw x = K3 x ∨ (x = a ∧ fw x = 0) := fun x => by
              rcases from_written (hf3 x) with e | ⟨k, hk, h1, h2⟩
              · exact .inl e
              · exact .inr ⟨by have h1' : (a : Int) = x := h1; omega, h2.symm⟩
            have key' : ∀ x : Nat, x ≠ a → fw x = K3 x := fun x hx => (key x).resolve_right fun hr => hx hr.1
            have fF : Fin P.F fw := fin_poss F3 fun x hx => key' x fun e => sa.1 (e ▸ hx)
            rcases key a with ea | ⟨-, ea⟩
            · exact .inr (.inl ⟨by omega, by rw [ea, a3], fun j hj => by rw [key' _ (by omega), b3 j hj], fF⟩)
            · exact .inr (.inr ⟨ea, fF, fin_poss R3 fun x hx => key' x fun e => sa.2.1 (e ▸ hx)⟩)
          · rw [e4] at hf3
            have hf4 : ∀ x, Poss (druns (K4, []) ((storesL P.D.f P.D.g P.D.n).take c4)) x (fw x) := fun x => by
              have := hf3 x
              rw [druns_append, hdE] at this
              exact this
            have key : ∀ x : Nat, ¬ Memb P.D x → fw x = K4 x := fun x hx => by
              rcases from_stores (hf4 x) with e | ⟨k, hk, h1, -⟩
              · exact e
              · exact absurd ⟨k, hk, h1⟩ hx
            exact .inr (.inr ⟨by rw [key a sa.2.2, a4], fin_poss F4 fun x hx => key x ((apart_memb h).1 hx).2, fin_poss R4 fun x hx => key x ((apart_memb h).2.1 hx).2⟩)
/-- What is there in the end: Redo wholly, and then Fresh; or nothing of Redo. -/
def WholeOk (P : PlanD) (a : Nat) (K fw : Nat → Int) (sh : Bool) : Prop := Others P a K fw ∧ ((sh = false ∧ ∀ x : Nat, Memb P.R x → fw x = K x) ∨ (Fin P.F fw ∧ Fin P.R fw))
theorem whole_applied {P : PlanD} {a : Nat} {K fw : Nat → Int} {sh : Bool} (h : ApartP P a) (ho : Others P a K fw) (hF : Fin P.F fw) : WholeOk P a K (setsK fw P.R.f P.R.g P.R.n) sh := by
  refine ⟨⟨fun x h1 h2 h3 h4 => ?_, fun x hD => ?_⟩, .inr ⟨fin_set hF fun k hk => ((apart_memb h).2.1 ⟨k, hk, rfl⟩).1, fin_self _ _⟩⟩
  · rw [setsK_other fun k hk e => h2 ⟨k, hk, e⟩]
    exact ho.1 x h1 h2 h3 h4
  · rw [setsK_other fun k hk e => ((apart_memb h).2.2.1 hD).2 ⟨k, hk, e⟩]
    exact ho.2 x hD
end Go.Proofs.Ytimfnimcmfjjpaa
