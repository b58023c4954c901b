/- of: what entries of a list say of each place; apart. -/
import Derived.Test.YtimfnimcmfjjpaaOpenP
import Derived.StillTailTactics
import Derived.Maps.OwnSet
namespace Go.Proofs.Ytimfnimcmfjjpaa
open Go.RowKit Go.Maps
/-- The map holds, of the first k entries, the last word of each place. -/
def MapOf (D : DataW Unit) (f g : Nat → Int) (k : Nat) : Prop := IsMap D ∧ (∀ x, has D (.int .i64 x) = true ↔ ∃ j, j < k ∧ f j = x) ∧
  ∀ j, j < k → (∀ i, j < i → i < k → f i ≠ f j) → ∀ z, D.atKey (.int .i64 (f j)) z = .lit (.int .u64 (g j))
theorem MapOf.start (f g : Nat → Int) : MapOf (.map []) f g 0 := ⟨⟨_, rfl⟩, fun x => by simp [has_eq], fun j hj => absurd hj (Nat.not_lt_zero _)⟩
theorem MapOf.put {D : DataW Unit} {f g : Nat → Int} {k : Nat} (h : MapOf D f g k) : MapOf (D.put (.int .i64 (f k)) (.lit (.int .u64 (g k)))) f g (k + 1) := by
  obtain ⟨h1, h2, h3⟩ := h
  refine ⟨h1.put _ _, fun x => ?_, fun j hj hlast z => ?_⟩
  · by_cases hx : x = f k
    · subst hx
      rw [has_put_same h1 (show WideAt.IsKeyLit (.int .i64 (f k)) from trivial)]
      exact ⟨fun _ => ⟨k, by omega, rfl⟩, fun _ => rfl⟩
    · rw [has_put_other (by intro e; exact hx (by simpa using e)), h2 x]
      exact ⟨fun ⟨j, hj, e⟩ => ⟨j, by omega, e⟩, fun ⟨j, hj, e⟩ => ⟨j, by
        by_cases hjk : j = k
        · subst hjk; exact absurd e.symm hx
        · omega, e⟩⟩
  · by_cases hjk : j = k
    · subst hjk
      exact atKey_put_same h1 (show WideAt.IsKeyLit (.int .i64 (f j)) from trivial) _ z
    · have hne : f k ≠ f j := hlast k (by omega) (by omega)
      rw [atKey_put_other (by intro e; exact hne (by simpa using e.symm))]
      exact h3 j (by omega) (fun i hi hik => hlast i hi (by omega)) z
theorem wf_word {n : Int} (h : 0 ≤ n ∧ n < 18446744073709551616) : (Lit.int .u64 n).wf = true := by
  simp [Lit.wf, show IntKind.u64.min = 0 from rfl, show IntKind.u64.max = 18446744073709551615 from rfl]
  omega
set_option maxHeartbeats 2000000 in
set_option maxRecDepth 100000 in
theorem of_any (A : Option Addr) (m c : Nat) (f g : Nat → Int) (w : World) (hm : m ≤ 1000) (hp : PairsAt w A m f g) (hf : ∀ k, k < m → 0 ≤ f k ∧ f k < 1000000000) (hg : Wf2 m g) :
    Calls Try.prog 24 #[.slice A m c] w fun e w' => ∃ D, e = .returned (.map (some w.heap.size)) ∧ w'.ownsMap Try.prog 3 (plainElem Try.prog 51) w.heap.size m D ∧ MapOf D f g m ∧ Below w.heap.size w w' := by
  have HP := hid hp
  have Hf := hid hf
  have Hg := hid hg
  clear hp hf hg
  have hmm := @run_makeMap Try.prog
  go_enter Try.func24, Try.ntmps24
  go_wp2
  clear hmm
  go_loopw [4] (fun i wr => ∃ (k : Nat) (D : DataW Unit), k ≤ m ∧ i = .int .i64 k ∧ wr.ownsMap Try.prog 3 (plainElem Try.prog 51) w.heap.size k D ∧ MapOf D f g k ∧ Below w.heap.size w wr) (fun i _ => m - (intOf i).toNat)
  case atStart => exact ⟨0, _, by omega, rfl, World.ownsMap_made _ _ _ _, MapOf.start f g, (Below.refl _ _).alloc (Nat.le_refl _) _⟩
  case round =>
    obtain ⟨k, D, hk, rfl, hown, hD, hB⟩ := hrel
    have HD := hid hD
    have HB := hid hB
    have Hown := hid hown
    clear hD hB hown
    by_cases hlt : k < m
    · have hlt' : (k : Int) < (m : Int) := by omega
      have h0k : (0 : Int) ≤ (k : Int) := by omega
      have hfk := Hf.out k hlt
      have Hgk := hid (Hg.out k hlt)
      obtain ⟨ad, rfl, hadl, hc⟩ : ∃ ad, A = some ad ∧ ad.block < wr.heap.size ∧ wr.cell? (ad.add (k * 2)) = some (.int .i64 (f k)) ∧ wr.cell? (ad.add (k * 2 + 1)) = some (.int .u64 (g k)) := by
        rcases pairs_below HP.out HB.out with h0 | ⟨ad, e, hl1, hc⟩
        · omega
        · exact ⟨ad, e, hl1, (hc k hlt).1, (hc k hlt).2⟩
      obtain ⟨c0, c1⟩ := hc
      have c1' : wr.cell? ⟨(ad.add (k * 2)).block, (ad.add (k * 2)).off + 1, none⟩ = some (.int .u64 (g k)) := by rw [← add_lit (ad.add (k * 2)) 1 (by omega), Addr.add_add]; exact c1
      clear c1
      have hkey : keyOf Try.prog 3 (.int .i64 (f k)) = some (.int .i64 (f k)) := keyOf_int_mk Try.underlying3 (WalkArith.wf_i64 (by omega))
      go_wp2
      refine wp_region_still_tail 11 (by kernel_rfl) (by kernel_rfl) ?_
      simp only [List.take_succ_cons, List.take_zero, List.drop_succ_cons, List.drop_zero]
      repeat still_step
      refine wpStill_nil ?_
      change wpList _ _ _ _ _ wr.drew
      refine wpList_mapUpdate_own _ rfl _ _ _ 66 rfl 3 51 law3 Try.underlying66 _ w.heap.size k _ rfl Hown.out.drew (by unfold maxLen; omega) _ _ _ rfl rfl hkey _ [] (plainElem_int Try.underlying51 (wf_word Hgk.out)) ?_
      intro w2 hown2 hgrow2
      go_wp2
      go_roundw
      case rel => exact ⟨k + 1, _, by omega, by go_num, hown2, HD.out.put, HB.out.drew.grown hgrow2 (by have := HB.out.size; simpa using this) (fun j hj => by cases hj; exact Nat.le_refl _)⟩
      case measure => simp [intOf]; omega
    · obtain rfl : m = k := by omega
      go_wp2
      go_ret
      exact ⟨_, rfl, Hown.out, HD.out, HB.out⟩
/-- The three lists of a plan. -/
def lst (P : PlanD) (i : Nat) : Lst := if i = 0 then P.F else if i = 1 then P.R else P.D
/-- No place stands in a slot's words, and none in two of the lists. -/
def ApartP (P : PlanD) (a : Int) : Prop := (∀ i k, i < 3 → k < (lst P i).n → ¬ (a ≤ (lst P i).f k ∧ (lst P i).f k < a + 136)) ∧
  ∀ i j k l, i < 3 → j < 3 → k < (lst P i).n → l < (lst P j).n → (lst P i).f k = (lst P j).f l → i = j
/-- Told: lists ahead of i, and of that one the first k. -/
def Told (P : PlanD) (i k i' k' : Nat) : Prop := i' < 3 ∧ k' < (lst P i').n ∧ (i' < i ∨ i' = i ∧ k' < k)
def Named (P : PlanD) (a : Int) (D : DataW Unit) (i k : Nat) : Prop := IsMap D ∧ (∀ x, ∃ v : Int, D.atKey (.int .i64 x) (.lit (.int .i64 0)) = .lit (.int .i64 v)) ∧
  ∀ i' k', Told P i k i' k' → ¬ (a ≤ (lst P i').f k' ∧ (lst P i').f k' < a + 136) ∧ D.atKey (.int .i64 ((lst P i').f k')) (.lit (.int .i64 0)) = .lit (.int .i64 ((i' : Int) + 1))
theorem Named.start (P : PlanD) (a : Int) : Named P a (.map []) 0 0 := ⟨⟨_, rfl⟩, fun x => ⟨0, rfl⟩, fun i' k' h => by have := h.2.2; omega⟩
theorem Named.next {P : PlanD} {a : Int} {D : DataW Unit} {i : Nat} (h : Named P a D i (lst P i).n) : Named P a D (i + 1) 0 := ⟨h.1, h.2.1, fun i' k' ht => h.2.2 i' k' ⟨ht.1, ht.2.1, by
  have := ht.2.2
  by_cases e : i' = i
  · subst e; exact .inr ⟨rfl, ht.2.1⟩
  · exact .inl (by omega)⟩⟩
theorem Named.put {P : PlanD} {a : Int} {D : DataW Unit} {i k : Nat} (h : Named P a D i k) (hi : i < 3) (hk : k < (lst P i).n) (hs : ¬ (a ≤ (lst P i).f k ∧ (lst P i).f k < a + 136))
    (hv : ∀ v : Int, D.atKey (.int .i64 ((lst P i).f k)) (.lit (.int .i64 0)) = .lit (.int .i64 v) → v = 0 ∨ v = (i : Int) + 1) : Named P a (D.put (.int .i64 ((lst P i).f k)) (.lit (.int .i64 ((i : Int) + 1)))) i (k + 1) := by
  obtain ⟨h1, h2, h3⟩ := h
  have hlit : WideAt.IsKeyLit (.int .i64 ((lst P i).f k)) := trivial
  refine ⟨h1.put _ _, fun x => ?_, fun i' k' ht => ?_⟩
  · by_cases hx : x = (lst P i).f k
    · subst hx
      exact ⟨_, atKey_put_same h1 hlit _ _⟩
    · obtain ⟨v, e⟩ := h2 x
      exact ⟨v, by rw [atKey_put_other (by intro e; exact hx (by simpa using e))]; exact e⟩
  · by_cases hn : i' = i ∧ k' = k
    · obtain ⟨rfl, rfl⟩ := hn
      exact ⟨hs, atKey_put_same h1 hlit _ _⟩
    · have ht' : Told P i k i' k' := ⟨ht.1, ht.2.1, by have := ht.2.2; omega⟩
      obtain ⟨a1, a2⟩ := h3 i' k' ht'
      refine ⟨a1, ?_⟩
      by_cases hx : (lst P i').f k' = (lst P i).f k
      · rw [hx] at a2 ⊢
        rw [atKey_put_same h1 hlit]
        rcases hv _ a2 with h0 | h0
        · omega
        · rw [h0]
      · rw [atKey_put_other (by intro e; exact hx (by simpa using e))]
        exact a2
theorem Named.put' {P : PlanD} {a : Int} {D : DataW Unit} {i k : Nat} {X : Lst} (h : Named P a D i k) (hX : X = lst P i) (hi : i < 3) (hk : k < X.n) (hs : ¬ (a ≤ X.f k ∧ X.f k < a + 136))
    (hv : ∀ v : Int, D.atKey (.int .i64 (X.f k)) (.lit (.int .i64 0)) = .lit (.int .i64 v) → v = 0 ∨ v = (i : Int) + 1) : Named P a (D.put (.int .i64 (X.f k)) (.lit (.int .i64 ((i : Int) + 1)))) i (k + 1) := by
  subst hX
  exact h.put hi hk hs hv
theorem Named.apart {P : PlanD} {a : Int} {D : DataW Unit} (h : Named P a D 3 0) : ApartP P a := by
  refine ⟨fun i k hi hk => (h.2.2 i k ⟨hi, hk, .inl hi⟩).1, fun i j k l hi hj hk hl e => ?_⟩
  have e1 := (h.2.2 i k ⟨hi, hk, .inl hi⟩).2
  have e2 := (h.2.2 j l ⟨hj, hl, .inl hj⟩).2
  rw [e, e2] at e1
  have : (j : Int) + 1 = (i : Int) + 1 := by simpa using e1
  omega
def SomeB (p : Prop) (w : World) (e : Ending) (w' : World) : Prop := ∃ r, e = .returned (.bool r) ∧ (r = true → p) ∧ Below w.heap.size w w'
theorem zero99 (w : World) : (zeroValue 3).run Try.prog w = .ok (.int .i64 0) w := by kernel_rfl
set_option maxHeartbeats 4000000 in
set_option maxRecDepth 100000 in
theorem apart_any (P : PlanD) (a : Int) (w : World) (ha : 0 ≤ a ∧ a ≤ 100000) (hs : P.small) (hp : PlanAt w P) (hf : ∀ i k, i < 3 → k < (lst P i).n → 0 ≤ (lst P i).f k ∧ (lst P i).f k < 1000000000) :
    Calls Try.prog 16 #[.agg #[.int .i64 P.err, .int .i64 P.ino, .slice P.F.A P.F.n P.F.c, .slice P.L.A P.L.n P.L.c, .slice P.R.A P.R.n P.R.c, .slice P.D.A P.D.n P.D.c], .int .i64 a] w (SomeB (ApartP P a) w) := by
  have HS := hid hs
  have Hf := hid hf
  have HL : Hid (∀ i, i < 3 → (lst P i).n ≤ 1000) := fun i hi => by
    obtain ⟨s1, s2, s3, s4⟩ := hs
    unfold lst
    split
    · exact s1
    · split
      · exact s3
      · exact s4
  have HPi : Hid (∀ i, i < 3 → PairsAt w (lst P i).A (lst P i).n (lst P i).f (lst P i).g) := fun i hi => by
    unfold lst
    split
    · exact hp.1
    · split
      · exact hp.2.2.1
      · exact hp.2.2.2
  clear hs hp hf
  have hmm := @run_makeMap Try.prog
  go_enter Try.func16, Try.ntmps16
  go_wp2
  clear hmm
  go_loopw [7, 8, 9] (fun i _ _ wr => ∃ (k n : Nat) (D : DataW Unit), k ≤ 3 ∧ n ≤ 1000 * k ∧ i = .int .i64 k ∧ wr.ownsMap Try.prog 3 (plainElem Try.prog 3) (w.heap.size + 1) n D ∧ Named P a D k 0 ∧ wr.heap[w.heap.size + 1 + 1]? = some (.cells #[.slice P.F.A P.F.n P.F.c, .slice P.R.A P.R.n P.R.c, .slice P.D.A P.D.n P.D.c] 25 (0, 0)) ∧ Below w.heap.size w wr) (fun i _ _ _ => 3 - (intOf i).toNat)
  case atStart =>
    refine ⟨0, 0, _, by omega, by omega, rfl, ?_, Named.start P a, ?_, ?_⟩
    · have := (World.ownsMap_made (H := Unit) (w.alloc (.cells #[.int .i64 P.err, .int .i64 P.ino, .slice P.F.A P.F.n P.F.c, .slice P.L.A P.L.n P.L.c, .slice P.R.A P.R.n P.R.c, .slice P.D.A P.D.n P.D.c] 28)) Try.prog 3 (plainElem Try.prog 3)).alloc (.cells #[.slice P.F.A P.F.n P.F.c, .slice P.R.A P.R.n P.R.c, .slice P.D.A P.D.n P.D.c] 25)
      rw [World.size_alloc] at this
      exact this
    · have := heap_alloc_last ((w.alloc (.cells #[.int .i64 P.err, .int .i64 P.ino, .slice P.F.A P.F.n P.F.c, .slice P.L.A P.L.n P.L.c, .slice P.R.A P.R.n P.R.c, .slice P.D.A P.D.n P.D.c] 28)).alloc (.map #[] 0)) (.cells #[.slice P.F.A P.F.n P.F.c, .slice P.R.A P.R.n P.R.c, .slice P.D.A P.D.n P.D.c] 25)
      rw [World.size_alloc, World.size_alloc] at this
      exact this
    · exact (((Below.refl _ _).alloc (Nat.le_refl _) _).alloc (by simp) _).alloc (by simp; omega) _
  case round =>
    obtain ⟨i, n, D, hi, hn, rfl, hown, hD, h3, hB⟩ := hrel
    have Hown := hid hown
    have HD := hid hD
    have H3 := hid h3
    have HB := hid hB
    clear hown hD h3 hB
    by_cases hlt : i < 3
    · have hlt' : (i : Int) < 3 := by omega
      have hX := HL.out i hlt
      obtain ⟨X, hXe⟩ : ∃ X, X = lst P i := ⟨_, rfl⟩
      have HX := hid hXe
      rw [← hXe] at hX
      clear hXe
      go_wp2
      obtain ⟨wo, rfl⟩ : ∃ wo : World, wo = wr := ⟨_, rfl⟩
      go_loopw [8, 9] (fun j _ wr => ∃ (k n : Nat) (D : DataW Unit), k ≤ X.n ∧ n ≤ 1000 * i + k ∧ j = .int .i64 k ∧ wr.ownsMap Try.prog 3 (plainElem Try.prog 3) (w.heap.size + 1) n D ∧ Named P a D i k ∧ wr.heap[w.heap.size + 1 + 1]? = some (.cells #[.slice P.F.A P.F.n P.F.c, .slice P.R.A P.R.n P.R.c, .slice P.D.A P.D.n P.D.c] 25 (0, 0)) ∧ Below w.heap.size w wr) (fun j _ _ => X.n - (intOf j).toNat)
      case atStart => exact ⟨0, n, D, by omega, by omega, rfl, Hown.out, HD.out, H3.out, HB.out⟩
      case round =>
        obtain ⟨k, n2, D2, hk, hn2, rfl, hown2, hD2, h32, hB2⟩ := hrel
        have Hown2 := hid hown2
        have HD2 := hid hD2
        have H32 := hid h32
        have HB2 := hid hB2
        clear hown2 hD2 h32 hB2
        have cL : wr.cell? ⟨w.heap.size + 1 + 1, i, none⟩ = some (.slice X.A X.n X.c) := by
          rw [cell_of_row wr (w.heap.size + 1 + 1) i _ 25 (0, 0) H32.out, HX.out]
          have : i = 0 ∨ i = 1 ∨ i = 2 := by omega
          rcases this with rfl | rfl | rfl <;> rfl
        by_cases hkn : k < X.n
        · have hkn' : (k : Int) < (X.n : Int) := by omega
          have hkl : k < (lst P i).n := by rw [← HX.out]; exact hkn
          have hfk := Hf.out i k hlt hkl
          rw [← HX.out] at hfk
          obtain ⟨ad, hA, hadl, hc⟩ : ∃ ad, X.A = some ad ∧ ad.block < wr.heap.size ∧ wr.cell? (ad.add (k * 2)) = some (.int .i64 (X.f k)) := by
            have hp := pairs_below (HPi.out i hlt) HB2.out
            rw [← HX.out] at hp
            rcases hp with h0 | ⟨ad, e, hl1, hc⟩
            · omega
            · exact ⟨ad, e, hl1, (hc k hkn).1⟩
          rw [hA] at cL
          have hkey : keyOf Try.prog 3 (.int .i64 (X.f k)) = some (.int .i64 (X.f k)) := keyOf_int_mk Try.underlying3 (WalkArith.wf_i64 (by omega))
          obtain ⟨v, hrun, hv, -⟩ := Hown2.out.lookup_int law3 Try.underlying99 Try.underlying3 (zero99 _) hkey
          have Hv := hid hv
          clear hA hv
          by_cases hin : a ≤ X.f k ∧ X.f k < a + 136
          · obtain ⟨i1, i2⟩ := hin
            have d1 : decide (a ≤ X.f k) = true := decide_eq_true i1
            have d2 : decide (X.f k < a + 136) = true := decide_eq_true i2
            go_wp2
            go_ret
            exact ⟨false, rfl, fun h => (by cases h), HB2.out⟩
          · by_cases i1 : a ≤ X.f k
            · have i2 : ¬ X.f k < a + 136 := fun h => hin ⟨i1, h⟩
              have d1 : decide (a ≤ X.f k) = true := decide_eq_true i1
              have d2 : decide (X.f k < a + 136) = false := decide_eq_false i2
              by_cases hv0 : v = 0
              · have e0 : (v == 0) = true := by simpa using hv0
                have e0' : (v != 0) = false := by simp [bne, e0]
                have Hv0 := hid hv0
                clear hv0
                go_wp2_with (at_mapUpdate; refine wpList_mapUpdate_own _ rfl _ _ _ 99 rfl 3 3 law3 Try.underlying99 _ (w.heap.size + 1) n2 _ rfl Hown2.out (by unfold maxLen; omega) _ _ _ rfl rfl hkey _ [] (plainElem_int Try.underlying3 (WalkArith.wf_i64 (by omega))) ?_; intro w2 hown3 hgrow3; have Hown3 := hid hown3; have Hg3 := hid hgrow3; clear hown3 hgrow3)
                go_roundw
                case rel => exact ⟨k + 1, n2 + 1, _, by omega, by omega, by go_num, Hown3.out, by have e := HD2.out.put hlt hkl (by rw [← HX.out]; exact hin) (fun u hu => by rw [← HX.out] at hu; have : u = v := (by simpa using hu.symm.trans Hv.out); exact .inl (this.trans Hv0.out)); rw [← HX.out] at e; exact e, (Hg3.out.block _ (lt_of_block H32.out) (by simp)).trans H32.out, HB2.out.grown Hg3.out HB2.out.size (fun j hj => by cases hj; exact Nat.le_succ _)⟩
                case measure => simp [intOf]; omega
              · have e0 : (v == 0) = false := by simpa using hv0
                have e0' : (v != 0) = true := by simp [bne, e0]
                by_cases hvi : v = (i : Int) + 1
                · have e1 : (v == (i : Int) + 1) = true := by simpa using hvi
                  have e1' : (v != (i : Int) + 1) = false := by simp [bne, e1]
                  have Hvi := hid hvi
                  clear hvi hv0
                  go_wp2_with (at_mapUpdate; refine wpList_mapUpdate_own _ rfl _ _ _ 99 rfl 3 3 law3 Try.underlying99 _ (w.heap.size + 1) n2 _ rfl Hown2.out (by unfold maxLen; omega) _ _ _ rfl rfl hkey _ [] (plainElem_int Try.underlying3 (WalkArith.wf_i64 (by omega))) ?_; intro w2 hown3 hgrow3; have Hown3 := hid hown3; have Hg3 := hid hgrow3; clear hown3 hgrow3)
                  go_roundw
                  case rel => exact ⟨k + 1, n2 + 1, _, by omega, by omega, by go_num, Hown3.out, by have e := HD2.out.put hlt hkl (by rw [← HX.out]; exact hin) (fun u hu => by rw [← HX.out] at hu; have : u = v := (by simpa using hu.symm.trans Hv.out); exact .inr (this.trans Hvi.out)); rw [← HX.out] at e; exact e, (Hg3.out.block _ (lt_of_block H32.out) (by simp)).trans H32.out, HB2.out.grown Hg3.out HB2.out.size (fun j hj => by cases hj; exact Nat.le_succ _)⟩
                  case measure => simp [intOf]; omega
                · have e1 : (v == (i : Int) + 1) = false := by simpa using hvi
                  have e1' : (v != (i : Int) + 1) = true := by simp [bne, e1]
                  clear hvi hv0
                  go_wp2
                  go_ret
                  exact ⟨false, rfl, fun h => (by cases h), HB2.out⟩
            · have d1 : decide (a ≤ X.f k) = false := decide_eq_false i1
              by_cases hv0 : v = 0
              · have e0 : (v == 0) = true := by simpa using hv0
                have e0' : (v != 0) = false := by simp [bne, e0]
                have Hv0 := hid hv0
                clear hv0
                go_wp2_with (at_mapUpdate; refine wpList_mapUpdate_own _ rfl _ _ _ 99 rfl 3 3 law3 Try.underlying99 _ (w.heap.size + 1) n2 _ rfl Hown2.out (by unfold maxLen; omega) _ _ _ rfl rfl hkey _ [] (plainElem_int Try.underlying3 (WalkArith.wf_i64 (by omega))) ?_; intro w2 hown3 hgrow3; have Hown3 := hid hown3; have Hg3 := hid hgrow3; clear hown3 hgrow3)
                go_roundw
                case rel => exact ⟨k + 1, n2 + 1, _, by omega, by omega, by go_num, Hown3.out, by have e := HD2.out.put hlt hkl (by rw [← HX.out]; exact hin) (fun u hu => by rw [← HX.out] at hu; have : u = v := (by simpa using hu.symm.trans Hv.out); exact .inl (this.trans Hv0.out)); rw [← HX.out] at e; exact e, (Hg3.out.block _ (lt_of_block H32.out) (by simp)).trans H32.out, HB2.out.grown Hg3.out HB2.out.size (fun j hj => by cases hj; exact Nat.le_succ _)⟩
                case measure => simp [intOf]; omega
              · have e0 : (v == 0) = false := by simpa using hv0
                have e0' : (v != 0) = true := by simp [bne, e0]
                by_cases hvi : v = (i : Int) + 1
                · have e1 : (v == (i : Int) + 1) = true := by simpa using hvi
                  have e1' : (v != (i : Int) + 1) = false := by simp [bne, e1]
                  have Hvi := hid hvi
                  clear hvi hv0
                  go_wp2_with (at_mapUpdate; refine wpList_mapUpdate_own _ rfl _ _ _ 99 rfl 3 3 law3 Try.underlying99 _ (w.heap.size + 1) n2 _ rfl Hown2.out (by unfold maxLen; omega) _ _ _ rfl rfl hkey _ [] (plainElem_int Try.underlying3 (WalkArith.wf_i64 (by omega))) ?_; intro w2 hown3 hgrow3; have Hown3 := hid hown3; have Hg3 := hid hgrow3; clear hown3 hgrow3)
                  go_roundw
                  case rel => exact ⟨k + 1, n2 + 1, _, by omega, by omega, by go_num, Hown3.out, by have e := HD2.out.put hlt hkl (by rw [← HX.out]; exact hin) (fun u hu => by rw [← HX.out] at hu; have : u = v := (by simpa using hu.symm.trans Hv.out); exact .inr (this.trans Hvi.out)); rw [← HX.out] at e; exact e, (Hg3.out.block _ (lt_of_block H32.out) (by simp)).trans H32.out, HB2.out.grown Hg3.out HB2.out.size (fun j hj => by cases hj; exact Nat.le_succ _)⟩
                  case measure => simp [intOf]; omega
                · have e1 : (v == (i : Int) + 1) = false := by simpa using hvi
                  have e1' : (v != (i : Int) + 1) = true := by simp [bne, e1]
                  clear hvi hv0
                  go_wp2
                  go_ret
                  exact ⟨false, rfl, fun h => (by cases h), HB2.out⟩
        · obtain rfl : k = X.n := by omega
          have HN := hid (show Named P a D2 (i + 1) 0 from Named.next (by rw [← HX.out]; exact HD2.out))
          go_wp2
          go_roundw
          case rel => exact ⟨i + 1, n2, D2, by omega, by omega, by go_num, Hown2.out, HN.out, H32.out, HB2.out⟩
          case measure => simp [intOf]; omega
    · obtain rfl : i = 3 := by omega
      go_wp2
      go_ret
      exact ⟨true, rfl, fun _ => HD.out.apart, HB.out⟩
end Go.Proofs.Ytimfnimcmfjjpaa
