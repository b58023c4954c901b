/- act: the row of steps that a receiver holds, and what 'put' does to it. -/
import Derived.Test.YtimfnimcmfjjpaaProg
import Derived.WalkKit
import Derived.WalkLawsBesides
import Derived.Handy
import Derived.Deep.Draws
import Derived.Deep.OwnRows
import Derived.Deep.AppendLies
import Derived.Deep.RegionHeld3
import Derived.Lib.Walk
import Derived.Deep.WholeRow
namespace Go.Proofs.Ytimfnimcmfjjpaa
open Go.RowKit
theorem hid {p : Prop} (h : p) : Hid p := h
theorem above {w : World} {a : Addr} {v : Value} {w' : World} (hb : Below w.heap.size w w') (h : w.cell? a = some v) : w'.cell? a = some v := (hb.cell (block_lt_of_cell h)).trans h
theorem above_row {w w' : World} {g t n : Nat} {F : Nat → Value} (hb : Below w.heap.size w w') (h : w.rowIs g t n F) : w'.rowIs g t n F := h.of_block (hb.block g h.lt)
/-- One step. -/
structure Op3 where
  k : Int
  a : Int
  w : Int
def Op3.cells (o : Op3) : List Value := [.int .u8 o.k, .int .i64 o.a, .int .u64 o.w]
def opsL (L : List Op3) : List Value := L.flatMap Op3.cells
theorem opsL_len : ∀ L : List Op3, (opsL L).length = L.length * 3
  | [] => rfl
  | o :: r => by
    have h := opsL_len r
    unfold opsL at h ⊢
    rw [List.flatMap_cons, List.length_append, h, List.length_cons]
    simp [Op3.cells]; omega
/-- The block S holds a row of steps; R is the block in which they lie, if there is one. -/
def StepsAt (w : World) (S : Nat) (R : Option Nat) (L : List Op3) : Prop := ∃ v, w.heap[S]? = some (.cells #[v] 82 (0, 0)) ∧ w.ownsRow 0 53 3 v L.length (opsL L) ∧ v.ownBlock = R ∧ R ≠ some S
/-- Nothing has turned but the block S, the row R, and new blocks. -/
def Kept (w w' : World) (S : Nat) (R R' : Option Nat) : Prop := w'.os = w.os ∧ w'.tape = w.tape ∧ w'.output = w.output ∧ w.heap.size ≤ w'.heap.size ∧ (∀ k, k < w.heap.size → k ≠ S → R ≠ some k → w'.heap[k]? = w.heap[k]?) ∧ (R' = R ∨ ∃ b, R' = some b ∧ w.heap.size ≤ b)
theorem Kept.trans {w w1 w2 : World} {S : Nat} {R R1 R2 : Option Nat} (h : Kept w w1 S R R1) (h' : Kept w1 w2 S R1 R2) : Kept w w2 S R R2 := by
  obtain ⟨a1, a2, a3, a4, a5, a6⟩ := h
  obtain ⟨b1, b2, b3, b4, b5, b6⟩ := h'
  refine ⟨b1.trans a1, b2.trans a2, b3.trans a3, Nat.le_trans a4 b4, fun k hk hS hR => ?_, ?_⟩
  · rw [b5 k (by omega) hS (fun e => ?_), a5 k hk hS hR]
    rcases a6 with h | ⟨b, hb, hle⟩
    · exact hR (h ▸ e)
    · rw [hb] at e; cases e; omega
  · rcases b6 with h | ⟨b, hb, hle⟩
    · rw [h]; exact a6
    · exact .inr ⟨b, hb, by omega⟩
theorem Kept.refl (w : World) (S : Nat) (R : Option Nat) : Kept w w S R R := ⟨rfl, rfl, rfl, Nat.le_refl _, fun _ _ _ _ => rfl, .inl rfl⟩
theorem Kept.below {w w' : World} {S b : Nat} {R R' : Option Nat} (h : Kept w w' S R R') (hS : b ≤ S) (hR : ∀ k, R = some k → b ≤ k) (hb : b ≤ w.heap.size) : Below b w w' :=
  ⟨h.1, h.2.1, h.2.2.1, h.2.2.2.1, fun k hk => h.2.2.2.2.1 k (by omega) (by omega) (fun e => by have := hR k e; omega)⟩
theorem row3 (W : World) (t : TypeId) (a b c : Value) (F : Nat → Value) (h0 : F 0 = a) (h1 : F 1 = b) (h2 : F 2 = c) : (W.alloc (.cells #[a, b, c] t)).rowIs W.heap.size t 3 F :=
  World.rowIs_alloc W #[a, b, c] t F (fun i hi => match i, hi with
    | 0, _ => by rw [h0]; rfl
    | 1, _ => by rw [h1]; rfl
    | 2, _ => by rw [h2]; rfl)
theorem heap_alloc_lt (w : World) (o : Obj) {k : Nat} (h : k < w.heap.size) : (w.alloc o).heap[k]? = w.heap[k]? := ((Below.refl w.heap.size w).alloc (Nat.le_refl _) o).block k h
theorem setCell_heap (w : World) (a : Addr) (v : Value) (k : Nat) (h : k ≠ a.block) : (w.setCell a v).heap[k]? = w.heap[k]? := by
  simp only [World.setCell, Array.getElem?_modify]
  rw [if_neg (fun e => h e.symm)]
theorem own_lt {w : World} {B e size n : Nat} {v : Value} {xs : List Value} (h : w.ownsRow B e size v n xs) {q : Nat} (hq : v.ownBlock = some q) : q < w.heap.size := by
  rcases h.2 with ⟨rfl, -⟩ | ⟨g, cap, cur, rfl, -, hg, -⟩
  · simp [Value.ownBlock] at hq
  · simp [Value.ownBlock] at hq; rw [← hq]; exact (Array.getElem?_eq_some_iff.1 hg).1
theorem opsL_snoc (L : List Op3) (o : Op3) : opsL (L ++ [o]) = opsL L ++ o.cells := by simp [opsL]
theorem frozen_one {w : World} {S t : Nat} {v : Value} (h : w.heap[S]? = some (.cells #[v] t (0, 0))) : w.frozen? ⟨S, 0, none⟩ = false := by
  unfold World.frozen?
  rw [h]
  rfl
theorem owns_below {W W' : World} {B e size n : Nat} {v : Value} {xs : List Value} (h : W.ownsRow B e size v n xs) (hb : Below W.heap.size W W') : W'.ownsRow B e size v n xs := by
  refine ⟨h.1, ?_⟩
  rcases h.2 with h0 | ⟨g, cap, cur, hv, hB, hg, r⟩
  · exact .inl h0
  · have hlt : g < W.heap.size := (Array.getElem?_eq_some_iff.1 hg).1
    exact .inr ⟨g, cap, cur, hv, hB, by rw [hb.block g hlt]; exact hg, r⟩
theorem op_info : (Try.prog.info? 53).map (fun i => (i.zero, i.size, i.bytes)) = some (some (.agg #[.int .u8 0, .int .i64 0, .int .u64 0]), 3, 24) := by kernel_rfl
theorem setCell_one {w : World} {S t : Nat} {v u : Value} {fr : Nat × Nat} (h : w.heap[S]? = some (.cells #[v] t fr)) : (w.setCell ⟨S, 0, none⟩ u).heap[S]? = some (.cells #[u] t fr) := by
  simp [World.setCell, Array.getElem?_modify, h]

set_option maxHeartbeats 1000000 in
set_option maxRecDepth 100000 in
theorem put_any (S : Nat) (R : Option Nat) (L : List Op3) (o : Op3) (w : World) (h : StepsAt w S R L) (hl : L.length ≤ 1000000) :
    Calls Try.prog 33 #[.pointer (some ⟨S, 0, none⟩), .agg #[.int .u8 o.k, .int .i64 o.a, .int .u64 o.w]] w fun e w' => e = .returned (.tuple #[]) ∧ ∃ R', StepsAt w' S R' (L ++ [o]) ∧ Kept w w' S R R' := by
  obtain ⟨v, hS, hown, hv, hRS⟩ := h
  obtain ⟨i0, hi, hz0, hz1, hz2⟩ := info_parts op_info
  have HI := hid hi
  have HZ := hid (And.intro hz0 (And.intro hz1 hz2))
  have hSlt : S < w.heap.size := (Array.getElem?_eq_some_iff.1 hS).1
  clear hi hz0 hz1 hz2
  go_enter Try.func33, Try.ntmps33
  go_wp2_with fail
  have hS0 : (w.alloc (.cells #[.int .u8 o.k, .int .i64 o.a, .int .u64 o.w] 53)).drew.heap[S]? = some (.cells #[v] 82 (0, 0)) := by show (w.alloc (.cells #[.int .u8 o.k, .int .i64 o.a, .int .u64 o.w] 53)).heap[S]? = _; rw [heap_alloc_lt w _ hSlt]; exact hS
  have rB := row3 w 53 (.int .u8 o.k) (.int .i64 o.a) (.int .u64 o.w) (fun j => if j = 0 then .int .u8 o.k else if j = 1 then .int .i64 o.a else .int .u64 o.w) rfl rfl rfl
  have gz0 : (w.alloc (.cells #[.int .u8 o.k, .int .i64 o.a, .int .u64 o.w] 53)).drew.cell? ⟨w.heap.size, 0, none⟩ = some (.int .u8 o.k) ∧ (w.alloc (.cells #[.int .u8 o.k, .int .i64 o.a, .int .u64 o.w] 53)).drew.cell? ⟨w.heap.size, 1, none⟩ = some (.int .i64 o.a) ∧ (w.alloc (.cells #[.int .u8 o.k, .int .i64 o.a, .int .u64 o.w] 53)).drew.cell? ⟨w.heap.size, 2, none⟩ = some (.int .u64 o.w) := ⟨rB.cell (by omega), rB.cell (i := 1) (by omega), rB.cell (i := 2) (by omega)⟩
  have gz1 : ((w.alloc (.cells #[.int .u8 o.k, .int .i64 o.a, .int .u64 o.w] 53)).alloc (.cells #[.int .u8 o.k, .int .i64 o.a, .int .u64 o.w] 53)).drew.cell? ⟨w.heap.size, 0, none⟩ = some (.int .u8 o.k) ∧ ((w.alloc (.cells #[.int .u8 o.k, .int .i64 o.a, .int .u64 o.w] 53)).alloc (.cells #[.int .u8 o.k, .int .i64 o.a, .int .u64 o.w] 53)).drew.cell? ⟨w.heap.size, 1, none⟩ = some (.int .i64 o.a) ∧ ((w.alloc (.cells #[.int .u8 o.k, .int .i64 o.a, .int .u64 o.w] 53)).alloc (.cells #[.int .u8 o.k, .int .i64 o.a, .int .u64 o.w] 53)).drew.cell? ⟨w.heap.size, 2, none⟩ = some (.int .u64 o.w) := ⟨(World.cell?_alloc_lt _ _ ⟨w.heap.size, 0, none⟩ (by simp)).trans gz0.1, (World.cell?_alloc_lt _ _ ⟨w.heap.size, 1, none⟩ (by simp)).trans gz0.2.1, (World.cell?_alloc_lt _ _ ⟨w.heap.size, 2, none⟩ (by simp)).trans gz0.2.2⟩
  have hS1 : ((w.alloc (.cells #[.int .u8 o.k, .int .i64 o.a, .int .u64 o.w] 53)).alloc (.cells #[.int .u8 o.k, .int .i64 o.a, .int .u64 o.w] 53)).drew.heap[S]? = some (.cells #[v] 82 (0, 0)) := by show ((w.alloc (.cells #[.int .u8 o.k, .int .i64 o.a, .int .u64 o.w] 53)).alloc (.cells #[.int .u8 o.k, .int .i64 o.a, .int .u64 o.w] 53)).heap[S]? = _; rw [heap_alloc_lt _ _ (by simp; omega), heap_alloc_lt w _ hSlt]; exact hS
  have hvl : ∀ q, v.ownBlock = some q → q < w.heap.size := fun q hq => own_lt hown hq
  have hN1 : ((w.alloc (.cells #[.int .u8 o.k, .int .i64 o.a, .int .u64 o.w] 53)).alloc (.cells #[.int .u8 o.k, .int .i64 o.a, .int .u64 o.w] 53)).drew.heap[w.heap.size + 1]? = some (.cells #[.int .u8 o.k, .int .i64 o.a, .int .u64 o.w] 53 (0, 0)) := by
    have := heap_alloc_last (w.alloc (.cells #[.int .u8 o.k, .int .i64 o.a, .int .u64 o.w] 53)) (.cells #[.int .u8 o.k, .int .i64 o.a, .int .u64 o.w] 53)
    rw [show (w.alloc (.cells #[.int .u8 o.k, .int .i64 o.a, .int .u64 o.w] 53)).heap.size = w.heap.size + 1 by simp] at this
    exact this
  refine wp_region_held_drew (S := fun w' => w'.cell? ⟨w.heap.size, 0, none⟩ = some (.int .u8 o.k) ∧ w'.cell? ⟨w.heap.size, 1, none⟩ = some (.int .i64 o.a) ∧ w'.cell? ⟨w.heap.size, 2, none⟩ = some (.int .u64 o.w)) (by kernel_rfl) gz0 (fun hHeld => ?_)
  refine wpAnyH_take (i := 0) (oi := Oper.mk (some 4) _ _ _ _ _) (v := ?v5) rfl (by kernel_rfl) (by kernel_rfl) (by kernel_rfl) (fun _ _ _ h => h) (Or.inl ⟨by rfl, ?y5⟩) (by assumption) ?_
  case y5 => (intro w hSw; (try dsimp only at hSw); go_simp; first | done | with_reducible rfl)
  (try simp only [Act.put, List.setIfInBounds_toArray, List.set_cons_zero, List.set_cons_succ])
  refine wpAnyH_take (i := 1) (oi := Oper.mk (some 5) _ _ _ _ _) (v := ?v6) rfl (by kernel_rfl) (by kernel_rfl) (by kernel_rfl) (fun _ _ _ h => h) (Or.inl ⟨by rfl, ?y6⟩) (by assumption) ?_
  case y6 => (intro w hSw; (try dsimp only at hSw); go_simp; first | done | with_reducible rfl)
  (try simp only [Act.put, List.setIfInBounds_toArray, List.set_cons_zero, List.set_cons_succ])
  refine wpAnyH_take (i := 2) (oi := Oper.mk (some 6) _ _ _ _ _) (v := ?v7) rfl (by kernel_rfl) (by kernel_rfl) (by kernel_rfl) (fun _ _ _ h => h) (Or.inl ⟨by rfl, ?y7⟩) (by assumption) ?_
  case y7 => (intro w hSw; (try dsimp only at hSw); go_simp; first | done | with_reducible rfl)
  (try simp only [Act.put, List.setIfInBounds_toArray, List.set_cons_zero, List.set_cons_succ])
  refine wpAnyH_take (i := 3) (oi := Oper.mk (some 7) _ _ _ _ _) (v := ?v8) rfl (by kernel_rfl) (by kernel_rfl) (by kernel_rfl) (fun _ _ _ h => h) (Or.inl ⟨by rfl, ?y8⟩) (by assumption) ?_
  case y8 => (intro w hSw; (try dsimp only at hSw); go_simp; first | done | with_reducible rfl)
  (try simp only [Act.put, List.setIfInBounds_toArray, List.set_cons_zero, List.set_cons_succ])
  refine wpAnyH_take (i := 5) (oi := Oper.mk (some 9) _ _ _ _ _) (v := ?v9) rfl (by kernel_rfl) (by kernel_rfl) (by kernel_rfl) (fun _ _ _ h => h) (Or.inl ⟨by rfl, ?y9⟩) (by assumption) ?_
  case y9 => (intro w hSw; (try dsimp only at hSw); go_simp; first | done | with_reducible rfl)
  (try simp only [Act.put, List.setIfInBounds_toArray, List.set_cons_zero, List.set_cons_succ])
  refine wpAnyH_ready (rs := [4, 6]) (by kernel_rfl) (by simp) ?_
  refine AllReadyH.cons (o := Oper.mk (some 8) _ _ _ _ _) rfl (fun K hK => ?_) ?_
  · have c0 : (w.alloc (.cells #[.int .u8 o.k, .int .i64 o.a, .int .u64 o.w] 53)).drew.cell? ⟨S, 0, none⟩ = some v := cell_of_row _ S 0 #[v] 82 (0, 0) hS0
    go_simp
    refine hK.out _ _ gz0 (fun hHeld => ?_)
    clear hK K
    (try simp only [Act.put, List.setIfInBounds_toArray, List.set_cons_zero, List.set_cons_succ])
    refine wpAnyH_ready (rs := [6]) (by kernel_rfl) (by simp) ?_
    refine AllReadyH.cons (o := Oper.mk (some 10) _ _ _ _ _) rfl (fun K hK => ?_) ?_
    · go_simp
      refine hK.out _ _ gz1 (fun hHeld => ?_)
      clear hK K
      (try simp only [Act.put, List.setIfInBounds_toArray, List.set_cons_zero, List.set_cons_succ])
      refine wpAnyH_ready (rs := [7]) (by kernel_rfl) (by simp) ?_
      refine AllReadyH.cons (o := Oper.mk (some 11) _ _ _ _ _) rfl (fun K hK => ?_) ?_
      · refine step_append_lies _ (by rfl) (.tmp 8) (.tmp 10) 32 (by rfl) 0 53 i0 _ 3 24 Try.underlying32 HI.out HZ.out.1 HZ.out.2.1 HZ.out.2.2 rfl (by omega) v L.length (opsL L) (by rfl) (owns_below hown (Below.alloc (Below.alloc (Below.refl _ _) (Nat.le_refl _) (.cells #[.int .u8 o.k, .int .i64 o.a, .int .u64 o.w] 53)) (by simp) (.cells #[.int .u8 o.k, .int .i64 o.a, .int .u64 o.w] 53)).drew) ⟨w.heap.size + 1, 0, none⟩ 1 1 o.cells (by rfl) rfl (World.news_of_block (w := ((w.alloc (.cells #[.int .u8 o.k, .int .i64 o.a, .int .u64 o.w] 53)).alloc (.cells #[.int .u8 o.k, .int .i64 o.a, .int .u64 o.w] 53)).drew) hN1) (by simp [Op3.cells, Value.oneCell']) (by omega) (by unfold maxLen; omega) (by omega) (Nat.zero_le _) _ rfl ?_
        intro g cap W2 hown2 hgrow hat hlt2
        have hS2 : W2.heap[S]? = some (.cells #[v] 82 (0, 0)) := (hgrow.block S (by simp; omega) (fun e => hRS (hv.symm.trans e.symm))).trans hS1
        have gz2 : W2.cell? ⟨w.heap.size, 0, none⟩ = some (.int .u8 o.k) ∧ W2.cell? ⟨w.heap.size, 1, none⟩ = some (.int .i64 o.a) ∧ W2.cell? ⟨w.heap.size, 2, none⟩ = some (.int .u64 o.w) := by
          have hb0 := hgrow.block w.heap.size (by simp; omega) (fun e => by have := hvl _ e.symm; omega)
          exact ⟨(World.cell?_of_block (a := ⟨w.heap.size, 0, none⟩) hb0).trans gz1.1, (World.cell?_of_block (a := ⟨w.heap.size, 1, none⟩) hb0).trans gz1.2.1, (World.cell?_of_block (a := ⟨w.heap.size, 2, none⟩) hb0).trans gz1.2.2⟩
        refine hK.out _ _ gz2 (fun hHeld => ?_)
        clear hK K
        (try simp only [Act.put, List.setIfInBounds_toArray, List.set_cons_zero, List.set_cons_succ])
        refine wpAnyH_take (i := 8) (oi := Oper.mk (some 12) _ _ _ _ _) (v := ?v1) rfl (by kernel_rfl) (by kernel_rfl) (by kernel_rfl) (fun _ _ _ h => h) (Or.inl ⟨by rfl, ?y1⟩) (by assumption) ?_
        case y1 => (intro w hSw; (try dsimp only at hSw); go_simp; first | done | with_reducible rfl)
        (try simp only [Act.put, List.setIfInBounds_toArray, List.set_cons_zero, List.set_cons_succ])
        refine wpAnyH_take (i := 9) (oi := Oper.mk (some 13) _ _ _ _ _) (v := ?v2) rfl (by kernel_rfl) (by kernel_rfl) (by kernel_rfl) (fun _ _ _ h => h) (Or.inl ⟨by rfl, ?y2⟩) (by assumption) ?_
        case y2 => (intro w hSw; (try dsimp only at hSw); go_simp; first | done | with_reducible rfl)
        (try simp only [Act.put, List.setIfInBounds_toArray, List.set_cons_zero, List.set_cons_succ])
        refine wpAnyH_ready (rs := [10]) (by kernel_rfl) (by simp) ?_
        refine AllReadyH.cons (o := Oper.mk none _ _ _ _ _) rfl (fun K hK => ?_) ?_
        · have c2 : W2.cell? ⟨S, 0, none⟩ = some v := cell_of_row W2 S 0 #[v] 82 (0, 0) hS2
          have f2 : W2.frozen? ⟨S, 0, none⟩ = false := frozen_one hS2
          go_simp
          refine hK.out _ _ ⟨(World.cell?_setCell_other _ _ _ _ (by simp <;> omega)).trans gz2.1, (World.cell?_setCell_other _ _ _ _ (by simp <;> omega)).trans gz2.2.1, (World.cell?_setCell_other _ _ _ _ (by simp <;> omega)).trans gz2.2.2⟩ (fun hHeld => ?_)
          clear hK K
          (try simp only [Act.put])
          refine wpAnyH_done (by kernel_rfl) ?_ _
          have hgS : g ≠ S := by
            rcases hat with h | h
            · exact fun e => hRS (by rw [← hv, h, e])
            · have : g = w.heap.size + 1 + 1 := by rw [h]; simp
              omega
          go_wp2
          go_end0
          refine ⟨rfl, some g, ⟨_, setCell_one hS2, ?_, rfl, fun e => hgS (Option.some.inj e)⟩, ?_⟩
          · rw [List.length_append, opsL_snoc]
            refine ⟨hown2.1, hown2.2.imp id ?_⟩
            rintro ⟨g', cap', cur, hv', hB, hg, r⟩
            have hgg : g = g' := Option.some.inj (congrArg Value.ownBlock hv' : (some g : Option Nat) = some g')
            exact ⟨g', cap', cur, hv', hB, by rw [setCell_heap _ _ _ _ (by rw [← hgg]; exact hgS)]; exact hg, r⟩
          · have hK0 := hgrow.size
            refine ⟨hgrow.os, hgrow.tape, hgrow.output, ?_, fun k hk hkS hkR => ?_, ?_⟩
            · simp at hK0 ⊢
              omega
            · rw [setCell_heap _ _ _ _ hkS, hgrow.block k (by simp; omega) (fun e => hkR (hv.symm.trans e.symm))]
              show ((w.alloc (.cells #[.int .u8 o.k, .int .i64 o.a, .int .u64 o.w] 53)).alloc (.cells #[.int .u8 o.k, .int .i64 o.a, .int .u64 o.w] 53)).heap[k]? = _
              rw [heap_alloc_lt _ _ (by simp; omega), heap_alloc_lt w _ hk]
            · rcases hat with h | h
              · exact .inl (by rw [← hv, h])
              · exact .inr ⟨g, rfl, by rw [h]; simp; omega⟩
        exact AllReadyH.nil
      exact AllReadyH.nil
    exact AllReadyH.nil
  refine AllReadyH.cons (o := Oper.mk (some 10) _ _ _ _ _) rfl (fun K hK => ?_) ?_
  · go_simp
    refine hK.out _ _ gz1 (fun hHeld => ?_)
    clear hK K
    (try simp only [Act.put, List.setIfInBounds_toArray, List.set_cons_zero, List.set_cons_succ])
    have c0 : ((w.alloc (.cells #[.int .u8 o.k, .int .i64 o.a, .int .u64 o.w] 53)).alloc (.cells #[.int .u8 o.k, .int .i64 o.a, .int .u64 o.w] 53)).drew.cell? ⟨S, 0, none⟩ = some v := (World.cell?_alloc_lt _ _ ⟨S, 0, none⟩ (by simp; omega)).trans (cell_of_row _ S 0 #[v] 82 (0, 0) hS0)
    refine wpAnyH_ready (rs := [4]) (by kernel_rfl) (by simp) ?_
    refine AllReadyH.cons (o := Oper.mk (some 8) _ _ _ _ _) rfl (fun K hK => ?_) ?_
    · go_simp
      refine hK.out _ _ gz1 (fun hHeld => ?_)
      clear hK K
      (try simp only [Act.put, List.setIfInBounds_toArray, List.set_cons_zero, List.set_cons_succ])
      refine wpAnyH_ready (rs := [7]) (by kernel_rfl) (by simp) ?_
      refine AllReadyH.cons (o := Oper.mk (some 11) _ _ _ _ _) rfl (fun K hK => ?_) ?_
      · refine step_append_lies _ (by rfl) (.tmp 8) (.tmp 10) 32 (by rfl) 0 53 i0 _ 3 24 Try.underlying32 HI.out HZ.out.1 HZ.out.2.1 HZ.out.2.2 rfl (by omega) v L.length (opsL L) (by rfl) (owns_below hown (Below.alloc (Below.alloc (Below.refl _ _) (Nat.le_refl _) (.cells #[.int .u8 o.k, .int .i64 o.a, .int .u64 o.w] 53)) (by simp) (.cells #[.int .u8 o.k, .int .i64 o.a, .int .u64 o.w] 53)).drew) ⟨w.heap.size + 1, 0, none⟩ 1 1 o.cells (by rfl) rfl (World.news_of_block (w := ((w.alloc (.cells #[.int .u8 o.k, .int .i64 o.a, .int .u64 o.w] 53)).alloc (.cells #[.int .u8 o.k, .int .i64 o.a, .int .u64 o.w] 53)).drew) hN1) (by simp [Op3.cells, Value.oneCell']) (by omega) (by unfold maxLen; omega) (by omega) (Nat.zero_le _) _ rfl ?_
        intro g cap W2 hown2 hgrow hat hlt2
        have hS2 : W2.heap[S]? = some (.cells #[v] 82 (0, 0)) := (hgrow.block S (by simp; omega) (fun e => hRS (hv.symm.trans e.symm))).trans hS1
        have gz2 : W2.cell? ⟨w.heap.size, 0, none⟩ = some (.int .u8 o.k) ∧ W2.cell? ⟨w.heap.size, 1, none⟩ = some (.int .i64 o.a) ∧ W2.cell? ⟨w.heap.size, 2, none⟩ = some (.int .u64 o.w) := by
          have hb0 := hgrow.block w.heap.size (by simp; omega) (fun e => by have := hvl _ e.symm; omega)
          exact ⟨(World.cell?_of_block (a := ⟨w.heap.size, 0, none⟩) hb0).trans gz1.1, (World.cell?_of_block (a := ⟨w.heap.size, 1, none⟩) hb0).trans gz1.2.1, (World.cell?_of_block (a := ⟨w.heap.size, 2, none⟩) hb0).trans gz1.2.2⟩
        refine hK.out _ _ gz2 (fun hHeld => ?_)
        clear hK K
        (try simp only [Act.put, List.setIfInBounds_toArray, List.set_cons_zero, List.set_cons_succ])
        refine wpAnyH_take (i := 8) (oi := Oper.mk (some 12) _ _ _ _ _) (v := ?v3) rfl (by kernel_rfl) (by kernel_rfl) (by kernel_rfl) (fun _ _ _ h => h) (Or.inl ⟨by rfl, ?y3⟩) (by assumption) ?_
        case y3 => (intro w hSw; (try dsimp only at hSw); go_simp; first | done | with_reducible rfl)
        (try simp only [Act.put, List.setIfInBounds_toArray, List.set_cons_zero, List.set_cons_succ])
        refine wpAnyH_take (i := 9) (oi := Oper.mk (some 13) _ _ _ _ _) (v := ?v4) rfl (by kernel_rfl) (by kernel_rfl) (by kernel_rfl) (fun _ _ _ h => h) (Or.inl ⟨by rfl, ?y4⟩) (by assumption) ?_
        case y4 => (intro w hSw; (try dsimp only at hSw); go_simp; first | done | with_reducible rfl)
        (try simp only [Act.put, List.setIfInBounds_toArray, List.set_cons_zero, List.set_cons_succ])
        refine wpAnyH_ready (rs := [10]) (by kernel_rfl) (by simp) ?_
        refine AllReadyH.cons (o := Oper.mk none _ _ _ _ _) rfl (fun K hK => ?_) ?_
        · have c2 : W2.cell? ⟨S, 0, none⟩ = some v := cell_of_row W2 S 0 #[v] 82 (0, 0) hS2
          have f2 : W2.frozen? ⟨S, 0, none⟩ = false := frozen_one hS2
          go_simp
          refine hK.out _ _ ⟨(World.cell?_setCell_other _ _ _ _ (by simp <;> omega)).trans gz2.1, (World.cell?_setCell_other _ _ _ _ (by simp <;> omega)).trans gz2.2.1, (World.cell?_setCell_other _ _ _ _ (by simp <;> omega)).trans gz2.2.2⟩ (fun hHeld => ?_)
          clear hK K
          (try simp only [Act.put])
          refine wpAnyH_done (by kernel_rfl) ?_ _
          have hgS : g ≠ S := by
            rcases hat with h | h
            · exact fun e => hRS (by rw [← hv, h, e])
            · have : g = w.heap.size + 1 + 1 := by rw [h]; simp
              omega
          go_wp2
          go_end0
          refine ⟨rfl, some g, ⟨_, setCell_one hS2, ?_, rfl, fun e => hgS (Option.some.inj e)⟩, ?_⟩
          · rw [List.length_append, opsL_snoc]
            refine ⟨hown2.1, hown2.2.imp id ?_⟩
            rintro ⟨g', cap', cur, hv', hB, hg, r⟩
            have hgg : g = g' := Option.some.inj (congrArg Value.ownBlock hv' : (some g : Option Nat) = some g')
            exact ⟨g', cap', cur, hv', hB, by rw [setCell_heap _ _ _ _ (by rw [← hgg]; exact hgS)]; exact hg, r⟩
          · have hK0 := hgrow.size
            refine ⟨hgrow.os, hgrow.tape, hgrow.output, ?_, fun k hk hkS hkR => ?_, ?_⟩
            · simp at hK0 ⊢
              omega
            · rw [setCell_heap _ _ _ _ hkS, hgrow.block k (by simp; omega) (fun e => hkR (hv.symm.trans e.symm))]
              show ((w.alloc (.cells #[.int .u8 o.k, .int .i64 o.a, .int .u64 o.w] 53)).alloc (.cells #[.int .u8 o.k, .int .i64 o.a, .int .u64 o.w] 53)).heap[k]? = _
              rw [heap_alloc_lt _ _ (by simp; omega), heap_alloc_lt w _ hk]
            · rcases hat with h | h
              · exact .inl (by rw [← hv, h])
              · exact .inr ⟨g, rfl, by rw [h]; simp; omega⟩
        exact AllReadyH.nil
      exact AllReadyH.nil
    exact AllReadyH.nil
  exact AllReadyH.nil
end Go.Proofs.Ytimfnimcmfjjpaa
