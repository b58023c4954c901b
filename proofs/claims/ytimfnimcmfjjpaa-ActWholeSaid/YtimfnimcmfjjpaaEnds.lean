/- What a device is behind all steps of a plan. Plain. -/
import Derived.Test.YtimfnimcmfjjpaaDMade
namespace Go.Proofs.Ytimfnimcmfjjpaa
open Go.RowKit
/-- The words set, one behind the other. -/
def setsK (K : Nat → Int) (f g : Nat → Int) (m : Nat) : Nat → Int := (List.range m).foldl (fun K k => updK K (f k) (g k)) K
theorem setsK_succ (K : Nat → Int) (f g : Nat → Int) (m : Nat) : setsK K f g (m + 1) = updK (setsK K f g m) (f m) (g m) := by
  unfold setsK
  rw [List.range_succ, List.foldl_append]
  rfl
theorem setsK_other {K f g : Nat → Int} {x : Nat} : ∀ {m : Nat}, (∀ k, k < m → f k ≠ (x : Int)) → setsK K f g m x = K x
  | 0, _ => rfl
  | m + 1, h => by
    rw [setsK_succ]
    unfold updK
    rw [if_neg (fun e => h m (by omega) e.symm)]
    exact setsK_other fun k hk => h k (by omega)
theorem setsK_last {K f g : Nat → Int} {x j : Nat} : ∀ {m : Nat}, j < m → f j = (x : Int) → (∀ i, j < i → i < m → f i ≠ f j) → setsK K f g m x = g j
  | 0, h, _, _ => absurd h (Nat.not_lt_zero _)
  | m + 1, h, e, hl => by
    rw [setsK_succ]
    unfold updK
    by_cases hj : j = m
    · subst hj
      rw [if_pos e.symm]
    · rw [if_neg (fun e' => hl m (by omega) (by omega) (by rw [← e', e]))]
      exact setsK_last (by omega) e fun i h1 h2 => hl i h1 (by omega)
theorem druns_append (s : DevS) (A B : List Op3) : druns s (A ++ B) = druns (druns s A) B := List.foldl_append ..
def pends (f g : Nat → Int) (m : Nat) : List Pd := (List.range m).map fun k => ⟨f k, g k, false⟩
theorem pends_succ (f g : Nat → Int) (m : Nat) : pends f g (m + 1) = pends f g m ++ [⟨f m, g m, false⟩] := by simp [pends, List.range_succ]
theorem druns_stores (K : Nat → Int) (L : List Pd) (f g : Nat → Int) : ∀ m, druns (K, L) (storesL f g m) = (K, L ++ pends f g m)
  | 0 => by simp [storesL, pends, druns]
  | m + 1 => by
    rw [storesL_succ, druns_append, druns_stores K L f g m, pends_succ, ← List.append_assoc]
    rfl
def flushed (f : Nat → Int) (n : Nat) (p : Pd) : Pd := ⟨p.a, p.w, p.fl || (List.range n).any fun k => p.a / 8 == f k⟩
theorem druns_flush (K : Nat → Int) (L : List Pd) (f : Nat → Int) : ∀ n, druns (K, L) (flushL f n) = (K, L.map (flushed f n))
  | 0 => by
    show (K, L) = _
    have : flushed f 0 = id := by funext p; cases p; simp [flushed]
    rw [this, List.map_id]
  | n + 1 => by
    rw [flushL_succ, druns_append, druns_flush K L f n]
    show (K, (L.map (flushed f n)).map (flush1 (f n))) = _
    rw [List.map_map]
    have : flush1 (f n) ∘ flushed f n = flushed f (n + 1) := by
      funext p
      simp [flush1, flushed, List.range_succ, List.any_append, Bool.or_assoc]
    rw [this]
theorem druns_fence (s : DevS) : druns s [⟨3, 0, 0⟩] = (fenceK s.1 s.2, restL s.2) := rfl
theorem druns_lines0 (K : Nat → Int) (f : Nat → Int) (n : Nat) : druns (K, []) (linesL f n) = (K, []) := by
  unfold linesL
  split
  · rfl
  · rw [druns_append, druns_flush]
    rfl
theorem druns_written (K : Nat → Int) (f g : Nat → Int) (m : Nat) : druns (K, []) (writtenL f g m) = (setsK K f g m, []) := by
  unfold writtenL
  rw [druns_append, druns_stores, List.nil_append]
  by_cases h0 : m = 0
  · subst h0
    show druns (K, []) (linesL _ _) = _
    rw [druns_lines0]
    rfl
  · have hp := lineL_pos f (show 0 < m by omega)
    unfold linesL
    rw [if_neg (by omega), druns_append, druns_flush, druns_fence]
    have hall : (pends f g m).map (flushed (fun k => (lineL f m).getD k 0) (lineL f m).length) = (List.range m).map fun k => ⟨f k, g k, true⟩ := by
      unfold pends
      rw [List.map_map]
      apply List.map_congr_left
      intro k hk
      have hk' := List.mem_range.1 hk
      have hm : f k / 8 ∈ lineL f m := mem_lineL.2 ⟨k, hk', rfl⟩
      obtain ⟨i, hi, e⟩ := List.mem_iff_getElem.1 hm
      have : ((List.range (lineL f m).length).any fun i => f k / 8 == (lineL f m).getD i 0) = true := by
        rw [List.any_eq_true]
        refine ⟨i, List.mem_range.2 hi, ?_⟩
        rw [List.getD_eq_getElem?_getD, List.getElem?_eq_getElem hi, e]
        simp
      simp only [Function.comp, flushed, this, Bool.or_true]
    show (fenceK K _, restL _) = _
    rw [hall]
    have h1 : restL ((List.range m).map fun k => (⟨f k, g k, true⟩ : Pd)) = [] := by
      unfold restL
      rw [List.filter_eq_nil_iff]
      intro p hp
      obtain ⟨k, -, rfl⟩ := List.mem_map.1 hp
      simp
    have h2 : fenceK K ((List.range m).map fun k => (⟨f k, g k, true⟩ : Pd)) = setsK K f g m := by
      unfold fenceK setsK
      rw [List.foldl_map]
      rfl
    rw [h1, h2]
/-- The words behind all steps. -/
def finK (a : Int) (P : PlanD) (K : Nat → Int) : Nat → Int :=
  if P.R.n = 0 then setsK K P.F.f P.F.g P.F.n else
    setsK (setsK (setsK (setsK (setsK K P.F.f P.F.g P.F.n) (fun j => a + 8 + j) (fun j => (bodyF P.R.f P.R.g j : Nat)) (2 * P.R.n)) (fun _ => a) (fun _ => (commitN P.R.f P.R.g P.R.n : Nat)) 1) P.R.f P.R.g P.R.n) (fun _ => a) (fun _ => 0) 1
theorem druns_all (a : Int) (P : PlanD) (K : Nat → Int) : druns (K, []) (stepsL a P) = (finK a P K, pends P.D.f P.D.g P.D.n) := by
  have sh : ∀ K, druns (K, []) [⟨4, 0, 0⟩] = (K, []) := fun _ => rfl
  unfold stepsL redoL finK
  by_cases h0 : P.R.n = 0
  · rw [if_pos h0, if_pos h0, if_pos h0, List.append_nil, List.append_nil]
    simp only [druns_append, druns_written, druns_lines0, sh, druns_stores, List.nil_append]
  · rw [if_neg h0, if_neg h0, if_neg h0]
    simp only [druns_append, druns_written, druns_lines0, sh, druns_stores, List.nil_append]
theorem memb_ne {P : PlanD} {a : Int} (h : ApartP P a) {x : Int} (hs : a ≤ x ∧ x < a + 136) : (∀ k, k < P.F.n → P.F.f k ≠ x) ∧ (∀ k, k < P.R.n → P.R.f k ≠ x) ∧ (∀ k, k < P.D.n → P.D.f k ≠ x) := by
  have := (apart_memb h).2.2.2 hs.1 hs.2
  exact ⟨fun k hk e => this.1 ⟨k, hk, e⟩, fun k hk e => this.2.1 ⟨k, hk, e⟩, fun k hk e => this.2.2 ⟨k, hk, e⟩⟩
theorem fin_slot {a x : Nat} {P : PlanD} {K : Nat → Int} (h : ApartP P a) (hx : x = a) (h0 : K x = 0) : finK a P K x = 0 := by
  subst hx
  unfold finK
  split
  · rw [setsK_other (memb_ne h ⟨by omega, by omega⟩).1, h0]
  · exact setsK_last (j := 0) (by omega) rfl (fun i h1 h2 => by omega)
theorem fin_redo {a : Int} {x j : Nat} {P : PlanD} {K : Nat → Int} (h : ApartP P a) (hj : j < P.R.n) (hx : P.R.f j = (x : Int)) (hl : ∀ i, j < i → i < P.R.n → P.R.f i ≠ P.R.f j) : finK a P K x = P.R.g j := by
  unfold finK
  rw [if_neg (by omega), setsK_other (fun k _ e => (memb_ne h (x := a) ⟨by omega, by omega⟩).2.1 j hj (by rw [hx]; exact e.symm)), setsK_last hj hx hl]
theorem fin_fresh {a : Int} {x j : Nat} {P : PlanD} {K : Nat → Int} (h : ApartP P a) (hR : P.R.n ≤ 64) (hj : j < P.F.n) (hx : P.F.f j = (x : Int)) (hl : ∀ i, j < i → i < P.F.n → P.F.f i ≠ P.F.f j) : finK a P K x = P.F.g j := by
  have hs : ∀ y : Int, a ≤ y → y < a + 136 → y ≠ (x : Int) := fun y h1 h2 e => (memb_ne h ⟨h1, h2⟩).1 j hj (by rw [hx]; exact e.symm)
  unfold finK
  split
  · exact setsK_last hj hx hl
  · rw [setsK_other (fun k _ => hs a (by omega) (by omega)), setsK_other (fun k hk e => ((apart_memb h).1 ⟨j, hj, hx⟩).1 ⟨k, hk, e⟩), setsK_other (fun k _ => hs a (by omega) (by omega)),
      setsK_other (fun k hk => hs (a + 8 + k) (by omega) (by omega)), setsK_last hj hx hl]
theorem nodup_le : ∀ (A B : List Int), A.Nodup → (∀ x ∈ A, x ∈ B) → A.length ≤ B.length
  | [], _, _, _ => by simp
  | x :: r, B, hn, hs => by
    have hx := hs x (by simp)
    have hr := nodup_le r (B.erase x) (List.nodup_cons.1 hn).2 (fun y hy => by
      have hne : y ≠ x := fun e => (List.nodup_cons.1 hn).1 (e ▸ hy)
      exact (List.mem_erase_of_ne hne).2 (hs y (by simp [hy])))
    rw [List.length_erase_of_mem hx] at hr
    have := List.length_pos_of_mem hx
    simp only [List.length_cons]
    omega
theorem lineL_nodup (f : Nat → Int) (m : Nat) : (lineL f m).Nodup := by
  unfold lineL
  exact (List.mergeSort_perm _ _).nodup_iff.2 (nodup_eraseDups _ _ (Nat.le_refl _))
theorem lineL_le (f : Nat → Int) (m : Nat) : (lineL f m).length ≤ m := by
  have := nodup_le (lineL f m) ((List.range m).map fun k => f k / 8) (lineL_nodup f m) (fun x hx => by
    obtain ⟨j, hj, e⟩ := mem_lineL.1 hx
    exact List.mem_map.2 ⟨j, List.mem_range.2 hj, e⟩)
  simpa using this
theorem lineL_row (b : Int) (n : Nat) (hn : 0 < n) : (lineL (fun j => b + j) (2 * n)).length ≤ n + 1 := by
  have := nodup_le (lineL (fun j => b + j) (2 * n)) ((List.range (n + 1)).map fun i : Nat => b / 8 + (i : Int)) (lineL_nodup _ _) (fun x hx => by
    obtain ⟨j, hj, e⟩ := mem_lineL.1 hx
    refine List.mem_map.2 ⟨(x - b / 8).toNat, List.mem_range.2 ?_, ?_⟩ <;> omega)
  simpa using this
theorem linesL_le (f : Nat → Int) (n : Nat) : (linesL f n).length ≤ n + 1 := by
  unfold linesL
  split
  · simp
  · simp [flushL]
theorem writtenL_le (f g : Nat → Int) (m : Nat) : (writtenL f g m).length ≤ m + (lineL f m).length + 1 := by
  unfold writtenL
  have := linesL_le (fun k => (lineL f m).getD k 0) (lineL f m).length
  rw [List.length_append, storesL_len]
  omega
theorem steps_bound (a : Int) (P : PlanD) : (stepsL a P).length ≤ 2 * P.F.n + P.L.n + 5 * P.R.n + P.D.n + 13 := by
  have h1 := writtenL_le P.F.f P.F.g P.F.n
  have h2 := lineL_le P.F.f P.F.n
  have h3 := linesL_le P.L.f P.L.n
  have h4 := writtenL_le P.R.f P.R.g P.R.n
  have h5 := lineL_le P.R.f P.R.n
  have h6 := writtenL_le (fun _ => a) (fun _ => 0) 1
  have h7 := lineL_le (fun _ => a) 1
  have h8 := writtenL_le (fun _ => a) (fun _ => (commitN P.R.f P.R.g P.R.n : Nat)) 1
  have h9 := writtenL_le (fun j => a + 8 + j) (fun j => (bodyF P.R.f P.R.g j : Nat)) (2 * P.R.n)
  unfold stepsL redoL
  by_cases h0 : P.R.n = 0
  · rw [if_pos h0, if_pos h0]
    simp only [List.length_append, List.length_cons, List.length_nil, storesL_len]
    omega
  · have h10 := lineL_row (a + 8) P.R.n (by omega)
    rw [if_neg h0, if_neg h0]
    simp only [List.length_append, List.length_cons, List.length_nil, storesL_len]
    omega
/-- All places and lines of a plan are the device's. -/
def InP (P : PlanD) (N : Nat) : Prop := (∀ k, k < P.F.n → 0 ≤ P.F.f k ∧ P.F.f k < (N : Int)) ∧ (∀ k, k < P.R.n → 0 ≤ P.R.f k ∧ P.R.f k < (N : Int)) ∧ (∀ k, k < P.D.n → 0 ≤ P.D.f k ∧ P.D.f k < (N : Int)) ∧ ∀ k, k < P.L.n → 0 ≤ P.L.f k ∧ P.L.f k < (N : Int) / 8
theorem err_in {p i b s : Int} {P : PlanD} (h : errE p i b s P = 0) : ∃ N a : Nat, 8 * linesN p i b = (N : Int) ∧ slotAt i s = (a : Int) ∧ N % 8 = 0 ∧ N ≤ 32768 ∧ a + 136 ≤ N ∧ InP P N := by
  obtain ⟨h1, h2, h3, h4⟩ := errE_zero h
  obtain ⟨g1, g2, g3, g4, g5, g6⟩ := gok_iff.1 h1
  have hf : farP P (linesN p i b) = false := by
    unfold mayE at h4
    split at h4
    · simp at h4
    · rename_i hno
      cases e : farP P (linesN p i b)
      · rfl
      · exact absurd (.inr e) hno
  unfold farP at hf
  simp only [Bool.or_eq_false_iff] at hf
  obtain ⟨⟨⟨f1, f2⟩, f3⟩, f4⟩ := hf
  have hl : 0 ≤ linesN p i b := by unfold linesN; omega
  obtain ⟨M, hM⟩ := Int.eq_ofNat_of_zero_le hl
  have ha : 0 ≤ slotAt i s := by unfold slotAt; omega
  obtain ⟨a, hA⟩ := Int.eq_ofNat_of_zero_le ha
  rw [hM] at f1 f2 f3 f4
  refine ⟨8 * M, a, by rw [hM]; omega, hA, by omega, ?_, ?_, fun k hk => ?_, fun k hk => ?_, fun k hk => ?_, fun k hk => ?_⟩
  · unfold linesN at hM; omega
  · unfold linesN at hM; unfold slotAt at hA; omega
  · have := farB_false.1 f1 k hk; omega
  · have := farB_false.1 f2 k hk; omega
  · have := farB_false.1 f3 k hk; omega
  · have := farB_false.1 f4 k hk; omega
theorem written_in {f g : Nat → Int} {m N : Nat} (hN : N % 8 = 0) (h : ∀ k, k < m → 0 ≤ f k ∧ f k < (N : Int)) : ∀ o ∈ writtenL f g m, StepOk N o := by
  intro o ho
  rcases mem_written ho with ⟨k, hk, rfl⟩ | ⟨k, hk, rfl⟩ | rfl
  · have := h k hk
    exact .inl ⟨rfl, this⟩
  · have := h k hk
    refine .inr (.inl ⟨rfl, ?_, ?_⟩)
    · show 0 ≤ f k / 8; omega
    · show f k / 8 < (N : Int) / 8; omega
  · exact .inr (.inr (.inl rfl))
theorem steps_in {P : PlanD} {a N : Nat} (hN : N % 8 = 0) (ha : a + 136 ≤ N) (hR : P.R.n ≤ 64) (h : InP P N) : ∀ o ∈ stepsL a P, StepOk N o := by
  intro o ho
  have one : ∀ g : Nat → Int, ∀ o ∈ writtenL (fun _ => (a : Int)) g 1, StepOk N o := fun g => written_in hN (fun k _ => ⟨by show (0 : Int) ≤ a; omega, by show (a : Int) < N; omega⟩)
  unfold stepsL at ho
  rcases List.mem_append.1 ho with ho | ho
  · rcases List.mem_append.1 ho with ho | ho
    · rcases List.mem_append.1 ho with ho | ho
      · rcases List.mem_append.1 ho with ho | ho
        · rcases List.mem_append.1 ho with ho | ho
          · exact written_in hN h.1 o ho
          · rcases mem_lines ho with ⟨k, hk, rfl⟩ | rfl
            · exact .inr (.inl ⟨rfl, h.2.2.2 k hk⟩)
            · exact .inr (.inr (.inl rfl))
        · unfold redoL at ho
          split at ho
          · cases ho
          · rcases List.mem_append.1 ho with ho | ho
            · exact written_in hN (fun k hk => ⟨by show (0 : Int) ≤ a + 8 + (k : Int); omega, by show a + 8 + (k : Int) < (N : Int); omega⟩) o ho
            · exact one _ o ho
      · obtain rfl : o = ⟨4, 0, 0⟩ := by simpa using ho
        exact .inr (.inr (.inr rfl))
    · split at ho
      · cases ho
      · rcases List.mem_append.1 ho with ho | ho
        · exact written_in hN h.2.1 o ho
        · exact one _ o ho
  · obtain ⟨k, hk, rfl⟩ := mem_stores ho
    exact .inl ⟨rfl, h.2.2.1 k hk⟩
end Go.Proofs.Ytimfnimcmfjjpaa
