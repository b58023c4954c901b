/- A plan in memory of its own. -/
import Derived.Test.YtimfnimcmfjjpaaLawA
namespace Go.Proofs.Ytimfnimcmfjjpaa
open Go.RowKit
/-- A slice's block is none that was there. -/
def Fresh (A : Option Addr) (k : Nat) : Prop := ∀ ad, A = some ad → k ≤ ad.block
theorem pairs_set {w : World} {A : Option Addr} {m k : Nat} {f g : Nat → Int} (hp : PairsAt w A m f g) (hA : Fresh A k) (p : Addr) (hk : p.block < k) (v : Value) : PairsAt (w.setCell p v) A m f g := by
  rcases hp with h0 | ⟨ad, rfl, hlt, hc⟩
  · exact .inl h0
  · have hne := hA ad rfl
    have H : ∀ a : Addr, a.block = ad.block → (w.setCell p v).cell? a = w.cell? a := fun a ha => World.cell?_of_block (setCell_heap w p v a.block (by omega))
    exact .inr ⟨ad, rfl, by simpa using hlt, fun j hj => ⟨(H _ (block_of_add _ _)).trans (hc j hj).1, (H _ (block_of_add _ _)).trans (hc j hj).2⟩⟩
theorem ints_set {w : World} {A : Option Addr} {m k : Nat} {f : Nat → Int} (hp : IntsAt w A m f) (hA : Fresh A k) (p : Addr) (hk : p.block < k) (v : Value) : IntsAt (w.setCell p v) A m f := by
  rcases hp with h0 | ⟨ad, rfl, hlt, hc⟩
  · exact .inl h0
  · have hne := hA ad rfl
    have H : ∀ a : Addr, a.block = ad.block → (w.setCell p v).cell? a = w.cell? a := fun a ha => World.cell?_of_block (setCell_heap w p v a.block (by omega))
    exact .inr ⟨ad, rfl, by simpa using hlt, fun j hj => (H _ (block_of_add _ _)).trans (hc j hj)⟩
theorem int_info : (Try.prog.info? 3).map (fun i => (i.zero, i.size, i.bytes)) = some (some (.int .i64 0), 1, 8) := by kernel_rfl
theorem run_append_pairs (w : World) (ty : TypeId) (A : Option Addr) (m c : Nat) (f g : Nat → Int) (hl : PairsAt w A m f g) (hm : m ≤ 1000) :
    ∃ A' c' w', (Builtin.append_ #[25, 25] ty #[.slice none 0 0, .slice A m c]).run Try.prog w = .ok (.slice A' m c') w' ∧ Below w.heap.size w w' ∧ PairsAt w' A' m f g ∧ Fresh A' w.heap.size := by
  obtain ⟨i0, hi, hz0, hz1, hz2⟩ := info_parts redo_info
  by_cases h0 : m = 0
  · subst h0
    refine ⟨none, 0, w, ?_, Below.refl _ _, .inl rfl, fun ad e => by cases e⟩
    cases A with
    | none => simp [Builtin.append_, run_underlying Try.underlying25, sizeOf, typeInfo, hi, Builtin.lenOf, Builtin.firstCells]
    | some ad =>
      have := run_firstCells_some (P := Try.prog) w i0.size 0 ad 0 c [] (by simp) (by simp)
      simp [Builtin.append_, run_underlying Try.underlying25, sizeOf, typeInfo, hi, Builtin.lenOf, this]
  · rcases hl with hl | ⟨ad, rfl, -, hc⟩
    · exact absurd hl h0
    · obtain ⟨q, cap, w', hr, how, hgr, hat, hlt⟩ := run_append_lies (P := Try.prog) w 25 ty w.heap.size 71 i0 _ 2 16 Try.underlying25 hi hz0 hz1 hz2 rfl (by omega) (.slice none 0 0) 0 [] ⟨by simp, .inl ⟨rfl, rfl⟩⟩ ad m c
        (pairsV f g m) (by rw [pairsV_len]; omega) (fun j u hj => by
          have hjl : j < 2 * m := by rw [← pairsV_len f g m]; exact (List.getElem?_eq_some_iff.1 hj).1
          obtain ⟨g1, g2⟩ := pairsV_get f g m (j / 2) (by omega)
          obtain ⟨d1, d2⟩ := hc (j / 2) (by omega)
          rcases Nat.mod_two_eq_zero_or_one j with h | h
          · have e : j = j / 2 * 2 := by omega
            rw [e] at hj ⊢
            rw [g1] at hj
            rw [d1, hj]
          · have e : j = j / 2 * 2 + 1 := by omega
            rw [e] at hj ⊢
            rw [g2] at hj
            rw [d2, hj]) (fun u hu => by
          obtain ⟨k, -, hk⟩ := List.mem_flatMap.1 hu
          simp at hk
          rcases hk with rfl | rfl <;> rfl) (by omega) (by unfold maxLen; omega) (by omega) (Nat.le_refl _) w.heap.size rfl
      have hb := (Below.refl w.heap.size w).grown hgr (Nat.le_refl _) (by simp [Value.ownBlock])
      rw [Nat.zero_add, List.nil_append] at how
      rw [Nat.zero_add] at hr
      obtain ⟨A2, c2, e, hP, hF⟩ := pairs_of_own how
      rw [e] at hr
      exact ⟨_, _, _, hr, hb, hP, hF⟩
theorem run_append_ints (w : World) (ty : TypeId) (A : Option Addr) (m c : Nat) (f : Nat → Int) (hl : IntsAt w A m f) (hm : m ≤ 1000) :
    ∃ A' c' w', (Builtin.append_ #[26, 26] ty #[.slice none 0 0, .slice A m c]).run Try.prog w = .ok (.slice A' m c') w' ∧ Below w.heap.size w w' ∧ IntsAt w' A' m f ∧ Fresh A' w.heap.size := by
  obtain ⟨i0, hi, hz0, hz1, hz2⟩ := info_parts int_info
  by_cases h0 : m = 0
  · subst h0
    refine ⟨none, 0, w, ?_, Below.refl _ _, .inl rfl, fun ad e => by cases e⟩
    cases A with
    | none => simp [Builtin.append_, run_underlying Try.underlying26, sizeOf, typeInfo, hi, Builtin.lenOf, Builtin.firstCells]
    | some ad =>
      have := run_firstCells_some (P := Try.prog) w i0.size 0 ad 0 c [] (by simp) (by simp)
      simp [Builtin.append_, run_underlying Try.underlying26, sizeOf, typeInfo, hi, Builtin.lenOf, this]
  · rcases hl with hl | ⟨ad, rfl, -, hc⟩
    · exact absurd hl h0
    · obtain ⟨q, cap, w', hr, how, hgr, hat, hlt⟩ := run_append_lies (P := Try.prog) w 26 ty w.heap.size 3 i0 _ 1 8 Try.underlying26 hi hz0 hz1 hz2 rfl (by omega) (.slice none 0 0) 0 [] ⟨by simp, .inl ⟨rfl, rfl⟩⟩ ad m c
        (((List.range m).map f).map (Value.int .i64)) (by simp) (fun j u hj => by
          have hjl : j < m := by have := (List.getElem?_eq_some_iff.1 hj).1; simpa using this
          rw [hc j hjl]
          simpa [hjl] using hj) (fun u hu => by
          obtain ⟨k, -, rfl⟩ := List.mem_map.1 hu
          rfl) (by omega) (by unfold maxLen; omega) (by omega) (Nat.le_refl _) w.heap.size rfl
      have hb := (Below.refl w.heap.size w).grown hgr (Nat.le_refl _) (by simp [Value.ownBlock])
      rw [Nat.zero_add, List.nil_append] at how
      rw [Nat.zero_add] at hr
      have hI := ints_of_own how
      refine ⟨_, _, _, hr, hb, ?_, fun ad e => ?_⟩
      rotate_left
      · cases e
        rcases hat with h | h
        · simp [Value.ownBlock] at h
        · exact Nat.le_of_eq h.symm
      rcases hI with h1 | ⟨ad', e, h1, h2⟩
      · exact absurd h1 h0
      · exact .inr ⟨ad', e, h1, fun k hk => by rw [h2 k hk]; simp [List.getD_eq_getElem?_getD, hk]⟩
theorem wpList_copy_pairs {ops : Array Oper} {rest : List Oper} {o : Oper} {a : Act} {w : World} {Q : Exit → Act → World → Prop} (hgd : o.guard = none) (s x : Operand)
    (ho : o.op = .call { callee := .builtin .append, args := #[s, x], argTypes := #[25, 25] }) (A : Option Addr) (m c : Nat) (f g : Nat → Int) (hs : a.eval s = .slice none 0 0) (hx : a.eval x = .slice A m c) (hl : PairsAt w A m f g) (hm : m ≤ 1000)
    (h : ∀ A' c' w', Below w.heap.size w w' → PairsAt w' A' m f g → Fresh A' w.heap.size → wpList Try.prog ops Q rest (a.put o.dst (.slice A' m c')) w') : wpList Try.prog ops Q (o :: rest) a w :=
  wpList_plain hgd fun _ hK => by
    obtain ⟨A', c', w', hr, h2, h3, h4⟩ := run_append_pairs w o.type A m c f g hl hm
    unfold Oper.wp execOp
    simp only [ho, resolve, invoke, builtin, Sem.run_bind, Sem.run_pure, Result.andThen_ok, List.map_toArray, List.map_cons, List.map_nil, hs, hx, hr]
    exact hK _ _ (h A' c' w' h2 h3 h4)
theorem wpList_copy_ints {ops : Array Oper} {rest : List Oper} {o : Oper} {a : Act} {w : World} {Q : Exit → Act → World → Prop} (hgd : o.guard = none) (s x : Operand)
    (ho : o.op = .call { callee := .builtin .append, args := #[s, x], argTypes := #[26, 26] }) (A : Option Addr) (m c : Nat) (f : Nat → Int) (hs : a.eval s = .slice none 0 0) (hx : a.eval x = .slice A m c) (hl : IntsAt w A m f) (hm : m ≤ 1000)
    (h : ∀ A' c' w', Below w.heap.size w w' → IntsAt w' A' m f → Fresh A' w.heap.size → wpList Try.prog ops Q rest (a.put o.dst (.slice A' m c')) w') : wpList Try.prog ops Q (o :: rest) a w :=
  wpList_plain hgd fun _ hK => by
    obtain ⟨A', c', w', hr, h2, h3, h4⟩ := run_append_ints w o.type A m c f hl hm
    unfold Oper.wp execOp
    simp only [ho, resolve, invoke, builtin, Sem.run_bind, Sem.run_pure, Result.andThen_ok, List.map_toArray, List.map_cons, List.map_nil, hs, hx, hr]
    exact hK _ _ (h A' c' w' h2 h3 h4)
theorem new2 (w : World) (o o2 : Obj) : ((w.alloc o).alloc o2).heap[w.heap.size + 1]? = some o2 := by
  have := heap_alloc_last (w.alloc o) o2
  rw [World.size_alloc] at this
  exact this
theorem frozen_row {w : World} {S t : Nat} {cs : Array Value} (h : w.heap[S]? = some (.cells cs t (0, 0))) (o : Nat) : w.frozen? ⟨S, o, none⟩ = false := by
  simp [World.frozen?, h]
theorem set_row {w : World} {S t : Nat} {cs : Array Value} (h : w.heap[S]? = some (.cells cs t (0, 0))) (o : Nat) (v : Value) : (w.setCell ⟨S, o, none⟩ v).heap[S]? = some (.cells (cs.setIfInBounds o v) t (0, 0)) := by
  simp [World.setCell, Array.getElem?_modify, h]
/-- The same plan, elsewhere. -/
def SamePlan (P P2 : PlanD) : Prop := P2.err = P.err ∧ P2.ino = P.ino ∧ (P2.F.n = P.F.n ∧ P2.F.f = P.F.f ∧ P2.F.g = P.F.g) ∧ (P2.L.n = P.L.n ∧ P2.L.f = P.L.f) ∧ (P2.R.n = P.R.n ∧ P2.R.f = P.R.f ∧ P2.R.g = P.R.g) ∧ (P2.D.n = P.D.n ∧ P2.D.f = P.D.f ∧ P2.D.g = P.D.g)
set_option maxHeartbeats 2000000 in
set_option maxRecDepth 100000 in
theorem copied_any (P : PlanD) (w : World) (hs : P.small) (hp : PlanAt w P) :
    Calls Try.prog 9 #[.agg #[.int .i64 P.err, .int .i64 P.ino, .slice P.F.A P.F.n P.F.c, .slice P.L.A P.L.n P.L.c, .slice P.R.A P.R.n P.R.c, .slice P.D.A P.D.n P.D.c]] w fun e w' => ∃ P2, e = .returned (.agg #[.int .i64 P2.err, .int .i64 P2.ino, .slice P2.F.A P2.F.n P2.F.c, .slice P2.L.A P2.L.n P2.L.c, .slice P2.R.A P2.R.n P2.R.c, .slice P2.D.A P2.D.n P2.D.c]) ∧ SamePlan P P2 ∧ PlanAt w' P2 ∧ Below w.heap.size w w' := by
  obtain ⟨s1, s2, s3, s4⟩ := hs
  have HP := hid hp
  have D0 := hid (show Below w.heap.size w ((w.alloc (.cells #[.int .i64 P.err, .int .i64 P.ino, .slice P.F.A P.F.n P.F.c, .slice P.L.A P.L.n P.L.c, .slice P.R.A P.R.n P.R.c, .slice P.D.A P.D.n P.D.c] 28)).alloc (.cells #[.int .i64 0, .int .i64 0, .slice none 0 0, .slice none 0 0, .slice none 0 0, .slice none 0 0] 28)) from ((Below.refl _ _).alloc (Nat.le_refl _) _).alloc (by simp) _)
  clear hp
  go_enter Try.func9, Try.ntmps9
  go_wp2_with (first
    | (at_builtin; refine wpList_copy_pairs rfl (.const (.slice none 0 0)) (.tmp 4) rfl P.F.A P.F.n P.F.c P.F.f P.F.g rfl rfl (pairs_below HP.out.1 D0.out) (by omega) ?_; intro A1 c1 w1 hb hp1 hf1; have Hp1 := hid hp1; have Hf1 : Hid (Fresh A1 (w.heap.size + 1 + 1)) := fun ad e => Nat.le_trans (by simp) (hf1 ad e); clear hp1 hf1; have hz1 : w.heap.size < w1.heap.size := Nat.lt_of_lt_of_le (by simp; omega) hb.size; have e10 : w1.cell? ⟨w.heap.size, 0, none⟩ = some (.int .i64 P.err) := (hb.cell (p := ⟨w.heap.size, 0, none⟩) (by simp; omega)).trans (by simp); have e11 : w1.cell? ⟨w.heap.size, 1, none⟩ = some (.int .i64 P.ino) := (hb.cell (p := ⟨w.heap.size, 1, none⟩) (by simp; omega)).trans (by simp); have e12 : w1.cell? ⟨w.heap.size, 2, none⟩ = some (.slice P.F.A P.F.n P.F.c) := (hb.cell (p := ⟨w.heap.size, 2, none⟩) (by simp; omega)).trans (by simp); have e13 : w1.cell? ⟨w.heap.size, 3, none⟩ = some (.slice P.L.A P.L.n P.L.c) := (hb.cell (p := ⟨w.heap.size, 3, none⟩) (by simp; omega)).trans (by simp); have e14 : w1.cell? ⟨w.heap.size, 4, none⟩ = some (.slice P.R.A P.R.n P.R.c) := (hb.cell (p := ⟨w.heap.size, 4, none⟩) (by simp; omega)).trans (by simp); have e15 : w1.cell? ⟨w.heap.size, 5, none⟩ = some (.slice P.D.A P.D.n P.D.c) := (hb.cell (p := ⟨w.heap.size, 5, none⟩) (by simp; omega)).trans (by simp); have fr1 : ∀ o, w1.frozen? ⟨w.heap.size, o, none⟩ = false := fun o => (hb.frozen (p := ⟨w.heap.size, o, none⟩) (by simp; omega)).trans ((by simp)); have D1 := hid ((D0.out.trans (hb.mono D0.out.size)).setCell (p := ⟨w.heap.size, 2, none⟩) (Nat.le_refl _) (.slice A1 P.F.n c1)); have hy1 : w.heap.size + 1 < w1.heap.size := Nat.lt_of_lt_of_le (by simp) hb.size; have R1 := hid ((hb.block (w.heap.size + 1) (by simp)).trans (new2 w _ _)); have F1 := hid hb; clear hb)
    | (at_builtin; refine wpList_copy_pairs rfl (.const (.slice none 0 0)) (.tmp 8) rfl P.R.A P.R.n P.R.c P.R.f P.R.g rfl rfl (pairs_below HP.out.2.2.1 D1.out) (by omega) ?_; intro A2 c2 w2 hb hp2 hf2; have Hp2 := hid hp2; have Hf2 : Hid (Fresh A2 (w.heap.size + 1 + 1)) := fun ad e => Nat.le_trans (by simp; omega) (hf2 ad e); clear hp2 hf2; have hz2 : w.heap.size < w2.heap.size := Nat.lt_of_lt_of_le (by simp; exact hz1) hb.size; have e20 : w2.cell? ⟨w.heap.size, 0, none⟩ = some (.int .i64 P.err) := (hb.cell (p := ⟨w.heap.size, 0, none⟩) (by simp; exact hz1)).trans (by rw [World.cell?_setCell_other _ _ _ _ (by simp)]; exact e10); have e21 : w2.cell? ⟨w.heap.size, 1, none⟩ = some (.int .i64 P.ino) := (hb.cell (p := ⟨w.heap.size, 1, none⟩) (by simp; exact hz1)).trans (by rw [World.cell?_setCell_other _ _ _ _ (by simp)]; exact e11); have e22 : w2.cell? ⟨w.heap.size, 2, none⟩ = some (.slice A1 P.F.n c1) := (hb.cell (p := ⟨w.heap.size, 2, none⟩) (by simp; exact hz1)).trans (by exact World.cell?_setCell_same' _ _ _ (by rw [e12]; rfl)); have e23 : w2.cell? ⟨w.heap.size, 3, none⟩ = some (.slice P.L.A P.L.n P.L.c) := (hb.cell (p := ⟨w.heap.size, 3, none⟩) (by simp; exact hz1)).trans (by rw [World.cell?_setCell_other _ _ _ _ (by simp)]; exact e13); have e24 : w2.cell? ⟨w.heap.size, 4, none⟩ = some (.slice P.R.A P.R.n P.R.c) := (hb.cell (p := ⟨w.heap.size, 4, none⟩) (by simp; exact hz1)).trans (by rw [World.cell?_setCell_other _ _ _ _ (by simp)]; exact e14); have e25 : w2.cell? ⟨w.heap.size, 5, none⟩ = some (.slice P.D.A P.D.n P.D.c) := (hb.cell (p := ⟨w.heap.size, 5, none⟩) (by simp; exact hz1)).trans (by rw [World.cell?_setCell_other _ _ _ _ (by simp)]; exact e15); have fr2 : ∀ o, w2.frozen? ⟨w.heap.size, o, none⟩ = false := fun o => (hb.frozen (p := ⟨w.heap.size, o, none⟩) (by simp; exact hz1)).trans ((by rw [World.frozen?_setCell]; exact fr1 o)); have D2 := hid ((D1.out.trans (hb.mono D1.out.size)).setCell (p := ⟨w.heap.size, 4, none⟩) (Nat.le_refl _) (.slice A2 P.R.n c2)); have hy2 : w.heap.size + 1 < w2.heap.size := Nat.lt_of_lt_of_le (by simp; exact hy1) hb.size; have R2 := hid ((hb.block (w.heap.size + 1) (by simp; exact hy1)).trans ((setCell_heap _ _ _ _ (by simp)).trans R1.out)); have F2 := hid hb; clear hb e10 e11 e12 e13 e14 e15 fr1)
    | (at_builtin; refine wpList_copy_pairs rfl (.const (.slice none 0 0)) (.tmp 12) rfl P.D.A P.D.n P.D.c P.D.f P.D.g rfl rfl (pairs_below HP.out.2.2.2 D2.out) (by omega) ?_; intro A3 c3 w3 hb hp3 hf3; have Hp3 := hid hp3; have Hf3 : Hid (Fresh A3 (w.heap.size + 1 + 1)) := fun ad e => Nat.le_trans (by simp; omega) (hf3 ad e); clear hp3 hf3; have hz3 : w.heap.size < w3.heap.size := Nat.lt_of_lt_of_le (by simp; exact hz2) hb.size; have e30 : w3.cell? ⟨w.heap.size, 0, none⟩ = some (.int .i64 P.err) := (hb.cell (p := ⟨w.heap.size, 0, none⟩) (by simp; exact hz2)).trans (by rw [World.cell?_setCell_other _ _ _ _ (by simp)]; exact e20); have e31 : w3.cell? ⟨w.heap.size, 1, none⟩ = some (.int .i64 P.ino) := (hb.cell (p := ⟨w.heap.size, 1, none⟩) (by simp; exact hz2)).trans (by rw [World.cell?_setCell_other _ _ _ _ (by simp)]; exact e21); have e32 : w3.cell? ⟨w.heap.size, 2, none⟩ = some (.slice A1 P.F.n c1) := (hb.cell (p := ⟨w.heap.size, 2, none⟩) (by simp; exact hz2)).trans (by rw [World.cell?_setCell_other _ _ _ _ (by simp)]; exact e22); have e33 : w3.cell? ⟨w.heap.size, 3, none⟩ = some (.slice P.L.A P.L.n P.L.c) := (hb.cell (p := ⟨w.heap.size, 3, none⟩) (by simp; exact hz2)).trans (by rw [World.cell?_setCell_other _ _ _ _ (by simp)]; exact e23); have e34 : w3.cell? ⟨w.heap.size, 4, none⟩ = some (.slice A2 P.R.n c2) := (hb.cell (p := ⟨w.heap.size, 4, none⟩) (by simp; exact hz2)).trans (by exact World.cell?_setCell_same' _ _ _ (by rw [e24]; rfl)); have e35 : w3.cell? ⟨w.heap.size, 5, none⟩ = some (.slice P.D.A P.D.n P.D.c) := (hb.cell (p := ⟨w.heap.size, 5, none⟩) (by simp; exact hz2)).trans (by rw [World.cell?_setCell_other _ _ _ _ (by simp)]; exact e25); have fr3 : ∀ o, w3.frozen? ⟨w.heap.size, o, none⟩ = false := fun o => (hb.frozen (p := ⟨w.heap.size, o, none⟩) (by simp; exact hz2)).trans ((by rw [World.frozen?_setCell]; exact fr2 o)); have D3 := hid ((D2.out.trans (hb.mono D2.out.size)).setCell (p := ⟨w.heap.size, 5, none⟩) (Nat.le_refl _) (.slice A3 P.D.n c3)); have hy3 : w.heap.size + 1 < w3.heap.size := Nat.lt_of_lt_of_le (by simp; exact hy2) hb.size; have R3 := hid ((hb.block (w.heap.size + 1) (by simp; exact hy2)).trans ((setCell_heap _ _ _ _ (by simp)).trans R2.out)); have F3 := hid hb; clear hb e20 e21 e22 e23 e24 e25 fr2)
    | (at_builtin; refine wpList_copy_ints rfl (.const (.slice none 0 0)) (.tmp 16) rfl P.L.A P.L.n P.L.c P.L.f rfl rfl (ints_below HP.out.2.1 D3.out) (by omega) ?_; intro A4 c4 w4 hb hp4 hf4; have Hp4 := hid hp4; have Hf4 : Hid (Fresh A4 (w.heap.size + 1 + 1)) := fun ad e => Nat.le_trans (by simp; omega) (hf4 ad e); clear hp4 hf4; have hz4 : w.heap.size < w4.heap.size := Nat.lt_of_lt_of_le (by simp; exact hz3) hb.size; have e40 : w4.cell? ⟨w.heap.size, 0, none⟩ = some (.int .i64 P.err) := (hb.cell (p := ⟨w.heap.size, 0, none⟩) (by simp; exact hz3)).trans (by rw [World.cell?_setCell_other _ _ _ _ (by simp)]; exact e30); have e41 : w4.cell? ⟨w.heap.size, 1, none⟩ = some (.int .i64 P.ino) := (hb.cell (p := ⟨w.heap.size, 1, none⟩) (by simp; exact hz3)).trans (by rw [World.cell?_setCell_other _ _ _ _ (by simp)]; exact e31); have e42 : w4.cell? ⟨w.heap.size, 2, none⟩ = some (.slice A1 P.F.n c1) := (hb.cell (p := ⟨w.heap.size, 2, none⟩) (by simp; exact hz3)).trans (by rw [World.cell?_setCell_other _ _ _ _ (by simp)]; exact e32); have e43 : w4.cell? ⟨w.heap.size, 3, none⟩ = some (.slice P.L.A P.L.n P.L.c) := (hb.cell (p := ⟨w.heap.size, 3, none⟩) (by simp; exact hz3)).trans (by rw [World.cell?_setCell_other _ _ _ _ (by simp)]; exact e33); have e44 : w4.cell? ⟨w.heap.size, 4, none⟩ = some (.slice A2 P.R.n c2) := (hb.cell (p := ⟨w.heap.size, 4, none⟩) (by simp; exact hz3)).trans (by rw [World.cell?_setCell_other _ _ _ _ (by simp)]; exact e34); have e45 : w4.cell? ⟨w.heap.size, 5, none⟩ = some (.slice A3 P.D.n c3) := (hb.cell (p := ⟨w.heap.size, 5, none⟩) (by simp; exact hz3)).trans (by exact World.cell?_setCell_same' _ _ _ (by rw [e35]; rfl)); have fr4 : ∀ o, w4.frozen? ⟨w.heap.size, o, none⟩ = false := fun o => (hb.frozen (p := ⟨w.heap.size, o, none⟩) (by simp; exact hz3)).trans ((by rw [World.frozen?_setCell]; exact fr3 o)); have D4 := hid ((D3.out.trans (hb.mono D3.out.size)).setCell (p := ⟨w.heap.size, 3, none⟩) (Nat.le_refl _) (.slice A4 P.L.n c4)); have hy4 : w.heap.size + 1 < w4.heap.size := Nat.lt_of_lt_of_le (by simp; exact hy3) hb.size; have R4 := hid ((hb.block (w.heap.size + 1) (by simp; exact hy3)).trans ((setCell_heap _ _ _ _ (by simp)).trans R3.out)); have r0 : w4.cell? ⟨w.heap.size + 1, 0, none⟩ = some (.int .i64 0) := cell_of_row w4 (w.heap.size + 1) 0 _ 28 (0, 0) R4.out; have r1 : w4.cell? ⟨w.heap.size + 1, 1, none⟩ = some (.int .i64 0) := cell_of_row w4 (w.heap.size + 1) 1 _ 28 (0, 0) R4.out; have r2 : w4.cell? ⟨w.heap.size + 1, 2, none⟩ = some (.slice none 0 0) := cell_of_row w4 (w.heap.size + 1) 2 _ 28 (0, 0) R4.out; have r3 : w4.cell? ⟨w.heap.size + 1, 3, none⟩ = some (.slice none 0 0) := cell_of_row w4 (w.heap.size + 1) 3 _ 28 (0, 0) R4.out; have r4 : w4.cell? ⟨w.heap.size + 1, 4, none⟩ = some (.slice none 0 0) := cell_of_row w4 (w.heap.size + 1) 4 _ 28 (0, 0) R4.out; have r5 : w4.cell? ⟨w.heap.size + 1, 5, none⟩ = some (.slice none 0 0) := cell_of_row w4 (w.heap.size + 1) 5 _ 28 (0, 0) R4.out; have rf : ∀ o, w4.frozen? ⟨w.heap.size + 1, o, none⟩ = false := fun o => frozen_row R4.out o; have F4 := hid hb; clear hb e30 e31 e32 e33 e34 e35 fr3))
  have fin : ∀ WF : World, WF.heap[w.heap.size + 1]? = some (.cells #[(.int .i64 P.err), (.int .i64 P.ino), (.slice A1 P.F.n c1), (.slice A4 P.L.n c4), (.slice A2 P.R.n c2), (.slice A3 P.D.n c3)] 28 (0, 0)) → WF.cell? ⟨w.heap.size + 1, 0, none⟩ = some (.int .i64 P.err) ∧ WF.cell? ⟨w.heap.size + 1, 1, none⟩ = some (.int .i64 P.ino) ∧ WF.cell? ⟨w.heap.size + 1, 2, none⟩ = some (.slice A1 P.F.n c1) ∧ WF.cell? ⟨w.heap.size + 1, 3, none⟩ = some (.slice A4 P.L.n c4) ∧ WF.cell? ⟨w.heap.size + 1, 4, none⟩ = some (.slice A2 P.R.n c2) ∧ WF.cell? ⟨w.heap.size + 1, 5, none⟩ = some (.slice A3 P.D.n c3) := fun WF h => ⟨cell_of_row WF (w.heap.size + 1) 0 _ 28 (0, 0) h, cell_of_row WF (w.heap.size + 1) 1 _ 28 (0, 0) h, cell_of_row WF (w.heap.size + 1) 2 _ 28 (0, 0) h, cell_of_row WF (w.heap.size + 1) 3 _ 28 (0, 0) h, cell_of_row WF (w.heap.size + 1) 4 _ 28 (0, 0) h, cell_of_row WF (w.heap.size + 1) 5 _ 28 (0, 0) h⟩
  have hWF : (((((((w4.setCell ⟨w.heap.size, 3, none⟩ (.slice A4 P.L.n c4)).setCell ⟨w.heap.size + 1, 0, none⟩ (.int .i64 P.err)).setCell ⟨w.heap.size + 1, 1, none⟩ (.int .i64 P.ino)).setCell ⟨w.heap.size + 1, 2, none⟩ (.slice A1 P.F.n c1)).setCell ⟨w.heap.size + 1, 3, none⟩ (.slice A4 P.L.n c4)).setCell ⟨w.heap.size + 1, 4, none⟩ (.slice A2 P.R.n c2)).setCell ⟨w.heap.size + 1, 5, none⟩ (.slice A3 P.D.n c3)).heap[w.heap.size + 1]? = some (.cells #[(.int .i64 P.err), (.int .i64 P.ino), (.slice A1 P.F.n c1), (.slice A4 P.L.n c4), (.slice A2 P.R.n c2), (.slice A3 P.D.n c3)] 28 (0, 0)) := by
    have h0 := (setCell_heap w4 ⟨w.heap.size, 3, none⟩ (.slice A4 P.L.n c4) (w.heap.size + 1) (by simp)).trans R4.out
    exact set_row (set_row (set_row (set_row (set_row (set_row h0 0 _) 1 _) 2 _) 3 _) 4 _) 5 _
  have hb4 : Below w.heap.size w (((((((w4.setCell ⟨w.heap.size, 3, none⟩ (.slice A4 P.L.n c4)).setCell ⟨w.heap.size + 1, 0, none⟩ (.int .i64 P.err)).setCell ⟨w.heap.size + 1, 1, none⟩ (.int .i64 P.ino)).setCell ⟨w.heap.size + 1, 2, none⟩ (.slice A1 P.F.n c1)).setCell ⟨w.heap.size + 1, 3, none⟩ (.slice A4 P.L.n c4)).setCell ⟨w.heap.size + 1, 4, none⟩ (.slice A2 P.R.n c2)).setCell ⟨w.heap.size + 1, 5, none⟩ (.slice A3 P.D.n c3)) := (((((D4.out.setCell (p := ⟨w.heap.size + 1, 0, none⟩) (by simp) _).setCell (p := ⟨w.heap.size + 1, 1, none⟩) (by simp) _).setCell (p := ⟨w.heap.size + 1, 2, none⟩) (by simp) _).setCell (p := ⟨w.heap.size + 1, 3, none⟩) (by simp) _).setCell (p := ⟨w.heap.size + 1, 4, none⟩) (by simp) _).setCell (p := ⟨w.heap.size + 1, 5, none⟩) (by simp) _
  have hP2 : PlanAt (((((((w4.setCell ⟨w.heap.size, 3, none⟩ (.slice A4 P.L.n c4)).setCell ⟨w.heap.size + 1, 0, none⟩ (.int .i64 P.err)).setCell ⟨w.heap.size + 1, 1, none⟩ (.int .i64 P.ino)).setCell ⟨w.heap.size + 1, 2, none⟩ (.slice A1 P.F.n c1)).setCell ⟨w.heap.size + 1, 3, none⟩ (.slice A4 P.L.n c4)).setCell ⟨w.heap.size + 1, 4, none⟩ (.slice A2 P.R.n c2)).setCell ⟨w.heap.size + 1, 5, none⟩ (.slice A3 P.D.n c3)) ⟨P.err, P.ino, ⟨A1, P.F.n, c1, P.F.f, P.F.g⟩, ⟨A4, P.L.n, c4, P.L.f, P.L.g⟩, ⟨A2, P.R.n, c2, P.R.f, P.R.g⟩, ⟨A3, P.D.n, c3, P.D.f, P.D.g⟩⟩ := ⟨(pairs_set (pairs_set (pairs_set (pairs_set (pairs_set (pairs_set (pairs_set (pairs_below (pairs_set (pairs_below (pairs_set (pairs_below (pairs_set Hp1.out Hf1.out _ (by dsimp only; omega) _) F2.out) Hf1.out _ (by dsimp only; omega) _) F3.out) Hf1.out _ (by dsimp only; omega) _) F4.out) Hf1.out _ (by dsimp only; omega) _) Hf1.out _ (by dsimp only; omega) _) Hf1.out _ (by dsimp only; omega) _) Hf1.out _ (by dsimp only; omega) _) Hf1.out _ (by dsimp only; omega) _) Hf1.out _ (by dsimp only; omega) _) Hf1.out _ (by dsimp only; omega) _), (ints_set (ints_set (ints_set (ints_set (ints_set (ints_set (ints_set Hp4.out Hf4.out _ (by dsimp only; omega) _) Hf4.out _ (by dsimp only; omega) _) Hf4.out _ (by dsimp only; omega) _) Hf4.out _ (by dsimp only; omega) _) Hf4.out _ (by dsimp only; omega) _) Hf4.out _ (by dsimp only; omega) _) Hf4.out _ (by dsimp only; omega) _), (pairs_set (pairs_set (pairs_set (pairs_set (pairs_set (pairs_set (pairs_set (pairs_below (pairs_set (pairs_below (pairs_set Hp2.out Hf2.out _ (by dsimp only; omega) _) F3.out) Hf2.out _ (by dsimp only; omega) _) F4.out) Hf2.out _ (by dsimp only; omega) _) Hf2.out _ (by dsimp only; omega) _) Hf2.out _ (by dsimp only; omega) _) Hf2.out _ (by dsimp only; omega) _) Hf2.out _ (by dsimp only; omega) _) Hf2.out _ (by dsimp only; omega) _) Hf2.out _ (by dsimp only; omega) _), (pairs_set (pairs_set (pairs_set (pairs_set (pairs_set (pairs_set (pairs_set (pairs_below (pairs_set Hp3.out Hf3.out _ (by dsimp only; omega) _) F4.out) Hf3.out _ (by dsimp only; omega) _) Hf3.out _ (by dsimp only; omega) _) Hf3.out _ (by dsimp only; omega) _) Hf3.out _ (by dsimp only; omega) _) Hf3.out _ (by dsimp only; omega) _) Hf3.out _ (by dsimp only; omega) _) Hf3.out _ (by dsimp only; omega) _)⟩
  generalize (((((((w4.setCell ⟨w.heap.size, 3, none⟩ (.slice A4 P.L.n c4)).setCell ⟨w.heap.size + 1, 0, none⟩ (.int .i64 P.err)).setCell ⟨w.heap.size + 1, 1, none⟩ (.int .i64 P.ino)).setCell ⟨w.heap.size + 1, 2, none⟩ (.slice A1 P.F.n c1)).setCell ⟨w.heap.size + 1, 3, none⟩ (.slice A4 P.L.n c4)).setCell ⟨w.heap.size + 1, 4, none⟩ (.slice A2 P.R.n c2)).setCell ⟨w.heap.size + 1, 5, none⟩ (.slice A3 P.D.n c3)) = WF at hWF hb4 hP2 ⊢
  obtain ⟨s0, s1', s2', s3', s4', s5⟩ := fin WF hWF
  refine bodyPost_ret (v := .agg #[.int .i64 P.err, .int .i64 P.ino, .slice A1 P.F.n c1, .slice A4 P.L.n c4, .slice A2 P.R.n c2, .slice A3 P.D.n c3]) (by simp [results, Try.results9, go_sem, s0, s1', s2', s3', s4', s5]) rfl ?_
  exact ⟨⟨P.err, P.ino, ⟨A1, P.F.n, c1, P.F.f, P.F.g⟩, ⟨A4, P.L.n, c4, P.L.f, P.L.g⟩, ⟨A2, P.R.n, c2, P.R.f, P.R.g⟩, ⟨A3, P.D.n, c3, P.D.f, P.D.g⟩⟩, rfl, ⟨rfl, rfl, ⟨rfl, rfl, rfl⟩, ⟨rfl, rfl⟩, ⟨rfl, rfl, rfl⟩, ⟨rfl, rfl, rfl⟩⟩, hP2, hb4⟩
end Go.Proofs.Ytimfnimcmfjjpaa
