/- ActShow: the walk. What was asked of each step, ahead of the show and behind it. -/
import Derived.Test.YtimfnimcmfjjpaaFacts
import Derived.Deep.RegionHeld3
import Derived.Deep.DeepCutAuto
namespace Go.Proofs.Ytimfnimcmfjjpaa
open Go.RowKit Go.Maps
theorem zero51 (w : World) : (zeroValue 51).run Try.prog w = .ok (.int .u64 0) w := by kernel_rfl
theorem err_low {p i b s : Int} {P : PlanD} (h : errE p i b s P = 0) : LowP P ∧ P.R.n ≤ 64 ∧ 0 ≤ slotAt i s ∧ slotAt i s < 100000 := by
  obtain ⟨h1, h2, h3, h4⟩ := errE_zero h
  obtain ⟨g1, g2, g3, g4, g5, g6⟩ := gok_iff.1 h1
  have hl : 8 * linesN p i b < 100000 := by unfold linesN; omega
  have hl' : linesN p i b < 100000 := by unfold linesN; omega
  unfold mayE at h4
  split at h4
  · simp at h4
  · rename_i hno
    split at h4
    · simp at h4
    · rename_i hR
      have hf : farP P (linesN p i b) = false := by
        cases e : farP P (linesN p i b)
        · rfl
        · exact absurd (.inr e) hno
      unfold farP at hf
      simp only [Bool.or_eq_false_iff] at hf
      obtain ⟨⟨⟨f1, f2⟩, f3⟩, f4⟩ := hf
      have low : ∀ (X : Lst) (L : Int), L < 100000 → farB X.f X.n L = false → ∀ k, k < X.n → 0 ≤ X.f k ∧ X.f k < 100000 := fun X L hL e k hk => by
        have := farB_false.1 e k hk
        omega
      refine ⟨⟨low _ _ hl f1, low _ _ hl f2, low _ _ hl f3, fun k hk => by have := farB_false.1 f4 k hk; omega⟩, by omega, ?_, ?_⟩ <;> unfold slotAt <;> omega
/-- A map of a list, in a block. -/
def MapAt (w : World) (b : Nat) (X : Lst) (D : DataW Unit) : Prop := w.ownsMap Try.prog 3 (plainElem Try.prog 51) b X.n D ∧ MapOf D X.f X.g X.n
theorem MapAt.below {w w' : World} {b : Nat} {X : Lst} {D : DataW Unit} (h : MapAt w b X D) (hb : Below w.heap.size w w') : MapAt w' b X D := by
  obtain ⟨⟨es, clock, hh, F, hs, hD⟩, hm⟩ := h
  exact ⟨⟨es, clock, (hb.block b (lt_of_block hh)).trans hh, F, hs, hD⟩, hm⟩
theorem MapAt.has {w : World} {b : Nat} {X : Lst} {D : DataW Unit} (h : MapAt w b X D) (x : Int) : Maps.has D (.int .i64 x) = true ↔ Memb X x := h.2.2.1 x
theorem MapAt.no {w : World} {b : Nat} {X : Lst} {D : DataW Unit} (h : MapAt w b X D) {x : Int} (hx : ¬ Memb X x) : Maps.has D (.int .i64 x) = false := by
  cases e : Maps.has D (.int .i64 x)
  · rfl
  · exact absurd ((h.has x).1 e) hx
theorem undrew {B : Nat} {w w' : World} (h : Below B w.drew w') : Below B w w' := ⟨h.os, h.tape, h.output, h.size, h.block⟩
def shN (n k : Nat) : Int := if n < k then 1 else 0
def laB (n k : Nat) : Bool := decide (n < k)
theorem lst_low {P : PlanD} (h : LowP P) : ∀ i k, i < 3 → k < (lst P i).n → 0 ≤ (lst P i).f k ∧ (lst P i).f k < 1000000000 := by
  have far : ∀ X : Lst, (∀ k, k < X.n → 0 ≤ X.f k ∧ X.f k < 100000) → ∀ k, k < X.n → 0 ≤ X.f k ∧ X.f k < 1000000000 := fun X hX k hk => by
    have := hX k hk
    omega
  intro i k hi
  unfold lst
  split
  · exact far _ h.1 k
  · split
    · exact far _ h.2.1 k
    · exact far _ h.2.2.1 k
theorem far_low {f : Nat → Int} {n : Nat} (h : ∀ k, k < n → 0 ≤ f k ∧ f k < 100000) : ∀ k, k < n → 0 ≤ f k ∧ f k < 1000000000 := fun k hk => by
  have := h k hk
  omega
/-- The steps in their row; what each is. -/
def RowAt (w : World) (q : Nat) (L : List Op3) : Prop := q < w.heap.size ∧ ∀ k (h : k < L.length), w.cell? ⟨q, k * 3, none⟩ = some (.int .u8 L[k].k) ∧ w.cell? ⟨q, k * 3 + 1, none⟩ = some (.int .i64 L[k].a) ∧ w.cell? ⟨q, k * 3 + 2, none⟩ = some (.int .u64 L[k].w)
theorem RowAt.below {w w' : World} {q : Nat} {L : List Op3} (h : RowAt w q L) (hb : Below w.heap.size w w') : RowAt w' q L := by
  have H : ∀ j, w'.cell? ⟨q, j, none⟩ = w.cell? ⟨q, j, none⟩ := fun j => hb.cell (p := ⟨q, j, none⟩) h.1
  exact ⟨Nat.lt_of_lt_of_le h.1 hb.size, fun k hk => by rw [H, H, H]; exact h.2 k hk⟩
theorem row_of_ops {w : World} {v : Value} {L : List Op3} (h : OpsAt w v L) (h0 : 0 < L.length) : ∃ q c n, v = .slice (some ⟨q, 0, none⟩) n c ∧ n = L.length ∧ RowAt w q L := by
  obtain ⟨A, c, rfl, h1 | ⟨q, rfl, h1, h2⟩⟩ := h
  · omega
  · exact ⟨q, c, _, rfl, rfl, h1, h2⟩
structure Phases (P : PlanD) (L : List Op3) (nA nC n : Nat) : Prop where
  len : n = L.length
  top : n ≤ 1000000
  ac : nA < nC
  cn : nC ≤ n
  none : nA = 0 ↔ P.F.n + P.L.n + P.R.n = 0
  at_ : ∀ j (h : j < L.length), (j < nA ∧ OkA P L[j]) ∨ (j = nA ∧ L[j] = ⟨4, 0, 0⟩) ∨ (nA < j ∧ j < nC ∧ OkB P L[j]) ∨ (nC ≤ j ∧ OkC P L[j])
  before : ∀ j (h : j < L.length), j + 1 = nA → L[j].k = 3
theorem phases {P : PlanD} {a : Int} (h : ApartP P a) (hl : LowP P) (ha : 0 ≤ a ∧ a < 100000) (hR : P.R.n ≤ 64) (hs : P.small) : ∃ nA nC, Phases P (stepsL a P) nA nC (stepsL a P).length := by
  have hz := stepsL_size a P
  exact ⟨(preL a P).length, (preL a P).length + 1 + (midL a P).length, rfl, Nat.le_trans (stepsL_len a P hs) (by omega), by omega, by omega, (pre_end a P).1, fun j hj => steps_at h hl ha hR j hj, fun j hj e => steps_before a P j e hj⟩
theorem shN_lo {n k : Nat} (h : ¬ n < k) : shN n k = 0 := if_neg h
theorem shN_hi {n k : Nat} (h : n < k) : shN n k = 1 := if_pos h
theorem laB_lo {n k : Nat} (h : ¬ n < k) : laB n k = false := decide_eq_false h
theorem laB_hi {n k : Nat} (h : n < k) : laB n k = true := decide_eq_true h
set_option maxHeartbeats 4000000 in
set_option maxRecDepth 100000 in
theorem show_large (p i b s : Int) (P : PlanD) (w : World) (h : largeB p i b P = true) :
    Calls Try.prog 6 #[.agg #[.int .i64 p, .int .i64 i, .int .i64 b], .int .i64 s, .agg #[.int .i64 P.err, .int .i64 P.ino, .slice P.F.A P.F.n P.F.c, .slice P.L.A P.L.n P.L.c, .slice P.R.A P.R.n P.R.c, .slice P.D.A P.D.n P.D.c]] w fun e w' => e = .returned (.bool true) ∧ Below w.heap.size w w' := by
  have H := hid h
  have b0 := hid (show Below w.heap.size w ((w.alloc (.cells #[.int .i64 p, .int .i64 i, .int .i64 b] 23)).alloc (.cells #[.int .i64 P.err, .int .i64 P.ino, .slice P.F.A P.F.n P.F.c, .slice P.L.A P.L.n P.L.c, .slice P.R.A P.R.n P.R.c, .slice P.D.A P.D.n P.D.c] 28)) from ((Below.refl _ _).alloc (Nat.le_refl _) _).alloc (by simp) _)
  clear h
  go_enter Try.func6, Try.ntmps6
  go_wp2_with (first
    | (go_at_call 7; refine (large_any p i b P _ true H.out).mono ?_; rintro e w1 ⟨rfl, hb⟩; have B1 := hid (b0.out.trans (hb.mono b0.out.size)); clear hb)
    | (go_at_call 8; refine (alive_any _).mono ?_; rintro e w2 ⟨rfl, hb⟩; have B2 := hid (B1.out.trans (hb.mono B1.out.size)); clear hb))
  go_ret
  exact ⟨rfl, B2.out⟩
set_option maxHeartbeats 4000000 in
set_option maxRecDepth 100000 in
theorem show_err (p i b s : Int) (P : PlanD) (w : World) (h : largeB p i b P = false) (hp : PlanAt w P) (v : Int) (hv : errE p i b s P = v) (he : v ≠ 0) :
    Calls Try.prog 6 #[.agg #[.int .i64 p, .int .i64 i, .int .i64 b], .int .i64 s, .agg #[.int .i64 P.err, .int .i64 P.ino, .slice P.F.A P.F.n P.F.c, .slice P.L.A P.L.n P.L.c, .slice P.R.A P.R.n P.R.c, .slice P.D.A P.D.n P.D.c]] w fun e w' => e = .returned (.bool true) ∧ Below w.heap.size w w' := by
  have HV := hid hv
  have hd : (v != 0) = true := by simpa using he
  have H := hid h
  have HP := hid hp
  obtain ⟨t1, t2, t3, t4, -⟩ := large_small h
  have hsm : P.small := ⟨by omega, by omega, by omega, by omega⟩
  have Hsm := hid hsm
  have b0 := hid (show Below w.heap.size w ((w.alloc (.cells #[.int .i64 p, .int .i64 i, .int .i64 b] 23)).alloc (.cells #[.int .i64 P.err, .int .i64 P.ino, .slice P.F.A P.F.n P.F.c, .slice P.L.A P.L.n P.L.c, .slice P.R.A P.R.n P.R.c, .slice P.D.A P.D.n P.D.c] 28)) from ((Below.refl _ _).alloc (Nat.le_refl _) _).alloc (by simp) _)
  have hsz : w.heap.size + 1 < ((w.alloc (.cells #[.int .i64 p, .int .i64 i, .int .i64 b] 23)).alloc (.cells #[.int .i64 P.err, .int .i64 P.ino, .slice P.F.A P.F.n P.F.c, .slice P.L.A P.L.n P.L.c, .slice P.R.A P.R.n P.R.c, .slice P.D.A P.D.n P.D.c] 28)).heap.size := by simp
  clear h hp hv hsm he
  go_enter Try.func6, Try.ntmps6
  go_wp2_with fail
  refine (large_any p i b P _ false H.out).mono ?_
  rintro e w1 ⟨rfl, hb⟩
  have B1 := hid (b0.out.trans (hb.mono b0.out.size))
  have Z1 : Hid (w.heap.size + 1 < w1.heap.size) := Nat.lt_of_lt_of_le hsz hb.size
  have g10 : w1.cell? ⟨w.heap.size, 0, none⟩ = some (.int .i64 p) := (hb.cell (p := ⟨w.heap.size, 0, none⟩) (Nat.lt_of_succ_lt hsz)).trans (by simp)
  have g11 : w1.cell? ⟨w.heap.size, 1, none⟩ = some (.int .i64 i) := (hb.cell (p := ⟨w.heap.size, 1, none⟩) (Nat.lt_of_succ_lt hsz)).trans (by simp)
  have g12 : w1.cell? ⟨w.heap.size, 2, none⟩ = some (.int .i64 b) := (hb.cell (p := ⟨w.heap.size, 2, none⟩) (Nat.lt_of_succ_lt hsz)).trans (by simp)
  have p10 : w1.cell? ⟨w.heap.size + 1, 0, none⟩ = some (.int .i64 P.err) := (hb.cell (p := ⟨w.heap.size + 1, 0, none⟩) hsz).trans (by simp)
  have p11 : w1.cell? ⟨w.heap.size + 1, 1, none⟩ = some (.int .i64 P.ino) := (hb.cell (p := ⟨w.heap.size + 1, 1, none⟩) hsz).trans (by simp)
  have p12 : w1.cell? ⟨w.heap.size + 1, 2, none⟩ = some (.slice P.F.A P.F.n P.F.c) := (hb.cell (p := ⟨w.heap.size + 1, 2, none⟩) hsz).trans (by simp)
  have p13 : w1.cell? ⟨w.heap.size + 1, 3, none⟩ = some (.slice P.L.A P.L.n P.L.c) := (hb.cell (p := ⟨w.heap.size + 1, 3, none⟩) hsz).trans (by simp)
  have p14 : w1.cell? ⟨w.heap.size + 1, 4, none⟩ = some (.slice P.R.A P.R.n P.R.c) := (hb.cell (p := ⟨w.heap.size + 1, 4, none⟩) hsz).trans (by simp)
  have p15 : w1.cell? ⟨w.heap.size + 1, 5, none⟩ = some (.slice P.D.A P.D.n P.D.c) := (hb.cell (p := ⟨w.heap.size + 1, 5, none⟩) hsz).trans (by simp)
  clear hb
  go_wp2_with fail
  refine (rmay_is p i b s P _ v Hsm.out (HP.out.below B1.out) HV.out).mono ?_
  rintro e w2 ⟨rfl, hb⟩
  have B2 := hid (B1.out.trans (hb.mono B1.out.size))
  clear hb
  go_wp2_with fail
  refine (alive_any _).mono ?_
  rintro e w3 ⟨rfl, hb⟩
  have B3 := hid (B2.out.trans (hb.mono B2.out.size))
  clear hb
  go_wp2
  go_ret
  exact ⟨rfl, B3.out⟩
set_option maxHeartbeats 16000000 in
set_option maxRecDepth 100000 in
theorem show_ok (p i b s : Int) (P : PlanD) (w : World) (h : largeB p i b P = false) (hp : PlanAt w P) (hw : P.wf) (hg : Wf2 P.F.n P.F.g ∧ Wf2 P.D.n P.D.g) (he : errE p i b s P = 0) :
    Calls Try.prog 6 #[.agg #[.int .i64 p, .int .i64 i, .int .i64 b], .int .i64 s, .agg #[.int .i64 P.err, .int .i64 P.ino, .slice P.F.A P.F.n P.F.c, .slice P.L.A P.L.n P.L.c, .slice P.R.A P.R.n P.R.c, .slice P.D.A P.D.n P.D.c]] w fun e w' => e = .returned (.bool true) ∧ Below w.heap.size w w' := by
  have HE := hid he
  have HW := hid hw
  have HG := hid hg
  have HL := hid (err_low he)
  have H := hid h
  have HP := hid hp
  have HK := hid (errE_zero he)
  obtain ⟨t1, t2, t3, t4, -⟩ := large_small h
  have hsm : P.small := ⟨by omega, by omega, by omega, by omega⟩
  have Hsm := hid hsm
  have b0 := hid (show Below w.heap.size w ((w.alloc (.cells #[.int .i64 p, .int .i64 i, .int .i64 b] 23)).alloc (.cells #[.int .i64 P.err, .int .i64 P.ino, .slice P.F.A P.F.n P.F.c, .slice P.L.A P.L.n P.L.c, .slice P.R.A P.R.n P.R.c, .slice P.D.A P.D.n P.D.c] 28)) from ((Below.refl _ _).alloc (Nat.le_refl _) _).alloc (by simp) _)
  have hsz : w.heap.size + 1 < ((w.alloc (.cells #[.int .i64 p, .int .i64 i, .int .i64 b] 23)).alloc (.cells #[.int .i64 P.err, .int .i64 P.ino, .slice P.F.A P.F.n P.F.c, .slice P.L.A P.L.n P.L.c, .slice P.R.A P.R.n P.R.c, .slice P.D.A P.D.n P.D.c] 28)).heap.size := by simp
  clear h hp he hw hg hsm
  go_enter Try.func6, Try.ntmps6
  go_wp2_with fail
  refine (large_any p i b P _ false H.out).mono ?_
  rintro e w1 ⟨rfl, hb⟩
  have B1 := hid (b0.out.trans (hb.mono b0.out.size))
  have Z1 : Hid (w.heap.size + 1 < w1.heap.size) := Nat.lt_of_lt_of_le hsz hb.size
  have g10 : w1.cell? ⟨w.heap.size, 0, none⟩ = some (.int .i64 p) := (hb.cell (p := ⟨w.heap.size, 0, none⟩) (Nat.lt_of_succ_lt hsz)).trans (by simp)
  have g11 : w1.cell? ⟨w.heap.size, 1, none⟩ = some (.int .i64 i) := (hb.cell (p := ⟨w.heap.size, 1, none⟩) (Nat.lt_of_succ_lt hsz)).trans (by simp)
  have g12 : w1.cell? ⟨w.heap.size, 2, none⟩ = some (.int .i64 b) := (hb.cell (p := ⟨w.heap.size, 2, none⟩) (Nat.lt_of_succ_lt hsz)).trans (by simp)
  have p10 : w1.cell? ⟨w.heap.size + 1, 0, none⟩ = some (.int .i64 P.err) := (hb.cell (p := ⟨w.heap.size + 1, 0, none⟩) hsz).trans (by simp)
  have p11 : w1.cell? ⟨w.heap.size + 1, 1, none⟩ = some (.int .i64 P.ino) := (hb.cell (p := ⟨w.heap.size + 1, 1, none⟩) hsz).trans (by simp)
  have p12 : w1.cell? ⟨w.heap.size + 1, 2, none⟩ = some (.slice P.F.A P.F.n P.F.c) := (hb.cell (p := ⟨w.heap.size + 1, 2, none⟩) hsz).trans (by simp)
  have p13 : w1.cell? ⟨w.heap.size + 1, 3, none⟩ = some (.slice P.L.A P.L.n P.L.c) := (hb.cell (p := ⟨w.heap.size + 1, 3, none⟩) hsz).trans (by simp)
  have p14 : w1.cell? ⟨w.heap.size + 1, 4, none⟩ = some (.slice P.R.A P.R.n P.R.c) := (hb.cell (p := ⟨w.heap.size + 1, 4, none⟩) hsz).trans (by simp)
  have p15 : w1.cell? ⟨w.heap.size + 1, 5, none⟩ = some (.slice P.D.A P.D.n P.D.c) := (hb.cell (p := ⟨w.heap.size + 1, 5, none⟩) hsz).trans (by simp)
  clear hb
  go_wp2_with fail
  refine (rmay_is p i b s P _ 0 Hsm.out (HP.out.below B1.out) HE.out).mono ?_
  rintro e w2 ⟨rfl, hb⟩
  have B2 := hid (B1.out.trans (hb.mono B1.out.size))
  have Z2 : Hid (w.heap.size + 1 < w2.heap.size) := Nat.lt_of_lt_of_le Z1.out hb.size
  have g20 : w2.cell? ⟨w.heap.size, 0, none⟩ = some (.int .i64 p) := (hb.cell (p := ⟨w.heap.size, 0, none⟩) (Nat.lt_of_succ_lt Z1.out)).trans g10
  have g21 : w2.cell? ⟨w.heap.size, 1, none⟩ = some (.int .i64 i) := (hb.cell (p := ⟨w.heap.size, 1, none⟩) (Nat.lt_of_succ_lt Z1.out)).trans g11
  have g22 : w2.cell? ⟨w.heap.size, 2, none⟩ = some (.int .i64 b) := (hb.cell (p := ⟨w.heap.size, 2, none⟩) (Nat.lt_of_succ_lt Z1.out)).trans g12
  have p20 : w2.cell? ⟨w.heap.size + 1, 0, none⟩ = some (.int .i64 P.err) := (hb.cell (p := ⟨w.heap.size + 1, 0, none⟩) Z1.out).trans p10
  have p21 : w2.cell? ⟨w.heap.size + 1, 1, none⟩ = some (.int .i64 P.ino) := (hb.cell (p := ⟨w.heap.size + 1, 1, none⟩) Z1.out).trans p11
  have p22 : w2.cell? ⟨w.heap.size + 1, 2, none⟩ = some (.slice P.F.A P.F.n P.F.c) := (hb.cell (p := ⟨w.heap.size + 1, 2, none⟩) Z1.out).trans p12
  have p23 : w2.cell? ⟨w.heap.size + 1, 3, none⟩ = some (.slice P.L.A P.L.n P.L.c) := (hb.cell (p := ⟨w.heap.size + 1, 3, none⟩) Z1.out).trans p13
  have p24 : w2.cell? ⟨w.heap.size + 1, 4, none⟩ = some (.slice P.R.A P.R.n P.R.c) := (hb.cell (p := ⟨w.heap.size + 1, 4, none⟩) Z1.out).trans p14
  have p25 : w2.cell? ⟨w.heap.size + 1, 5, none⟩ = some (.slice P.D.A P.D.n P.D.c) := (hb.cell (p := ⟨w.heap.size + 1, 5, none⟩) Z1.out).trans p15
  clear hb g10 g11 g12 p10 p11 p12 p13 p14 p15
  go_wp2_with fail
  refine (rplace_ok p i b s _ HK.out.1 HK.out.2.1 HK.out.2.2.1).mono ?_
  rintro e w3 ⟨rfl, hb⟩
  have B3 := hid (B2.out.trans (hb.mono B2.out.size))
  have Z3 : Hid (w.heap.size + 1 < w3.heap.size) := Nat.lt_of_lt_of_le Z2.out hb.size
  have g30 : w3.cell? ⟨w.heap.size, 0, none⟩ = some (.int .i64 p) := (hb.cell (p := ⟨w.heap.size, 0, none⟩) (Nat.lt_of_succ_lt Z2.out)).trans g20
  have g31 : w3.cell? ⟨w.heap.size, 1, none⟩ = some (.int .i64 i) := (hb.cell (p := ⟨w.heap.size, 1, none⟩) (Nat.lt_of_succ_lt Z2.out)).trans g21
  have g32 : w3.cell? ⟨w.heap.size, 2, none⟩ = some (.int .i64 b) := (hb.cell (p := ⟨w.heap.size, 2, none⟩) (Nat.lt_of_succ_lt Z2.out)).trans g22
  have p30 : w3.cell? ⟨w.heap.size + 1, 0, none⟩ = some (.int .i64 P.err) := (hb.cell (p := ⟨w.heap.size + 1, 0, none⟩) Z2.out).trans p20
  have p31 : w3.cell? ⟨w.heap.size + 1, 1, none⟩ = some (.int .i64 P.ino) := (hb.cell (p := ⟨w.heap.size + 1, 1, none⟩) Z2.out).trans p21
  have p32 : w3.cell? ⟨w.heap.size + 1, 2, none⟩ = some (.slice P.F.A P.F.n P.F.c) := (hb.cell (p := ⟨w.heap.size + 1, 2, none⟩) Z2.out).trans p22
  have p33 : w3.cell? ⟨w.heap.size + 1, 3, none⟩ = some (.slice P.L.A P.L.n P.L.c) := (hb.cell (p := ⟨w.heap.size + 1, 3, none⟩) Z2.out).trans p23
  have p34 : w3.cell? ⟨w.heap.size + 1, 4, none⟩ = some (.slice P.R.A P.R.n P.R.c) := (hb.cell (p := ⟨w.heap.size + 1, 4, none⟩) Z2.out).trans p24
  have p35 : w3.cell? ⟨w.heap.size + 1, 5, none⟩ = some (.slice P.D.A P.D.n P.D.c) := (hb.cell (p := ⟨w.heap.size + 1, 5, none⟩) Z2.out).trans p25
  clear hb g20 g21 g22 p20 p21 p22 p23 p24 p25
  go_wp2_with fail
  refine (apart_any P (slotAt i s) _ ⟨HL.out.2.2.1, Int.le_of_lt HL.out.2.2.2⟩ Hsm.out (HP.out.below B3.out) (lst_low HL.out.1)).mono ?_
  rintro e w4 ⟨r, rfl, hr, hb⟩
  have B4 := hid (B3.out.trans (hb.mono B3.out.size))
  have Z4 : Hid (w.heap.size + 1 < w4.heap.size) := Nat.lt_of_lt_of_le Z3.out hb.size
  have g40 : w4.cell? ⟨w.heap.size, 0, none⟩ = some (.int .i64 p) := (hb.cell (p := ⟨w.heap.size, 0, none⟩) (Nat.lt_of_succ_lt Z3.out)).trans g30
  have g41 : w4.cell? ⟨w.heap.size, 1, none⟩ = some (.int .i64 i) := (hb.cell (p := ⟨w.heap.size, 1, none⟩) (Nat.lt_of_succ_lt Z3.out)).trans g31
  have g42 : w4.cell? ⟨w.heap.size, 2, none⟩ = some (.int .i64 b) := (hb.cell (p := ⟨w.heap.size, 2, none⟩) (Nat.lt_of_succ_lt Z3.out)).trans g32
  have p40 : w4.cell? ⟨w.heap.size + 1, 0, none⟩ = some (.int .i64 P.err) := (hb.cell (p := ⟨w.heap.size + 1, 0, none⟩) Z3.out).trans p30
  have p41 : w4.cell? ⟨w.heap.size + 1, 1, none⟩ = some (.int .i64 P.ino) := (hb.cell (p := ⟨w.heap.size + 1, 1, none⟩) Z3.out).trans p31
  have p42 : w4.cell? ⟨w.heap.size + 1, 2, none⟩ = some (.slice P.F.A P.F.n P.F.c) := (hb.cell (p := ⟨w.heap.size + 1, 2, none⟩) Z3.out).trans p32
  have p43 : w4.cell? ⟨w.heap.size + 1, 3, none⟩ = some (.slice P.L.A P.L.n P.L.c) := (hb.cell (p := ⟨w.heap.size + 1, 3, none⟩) Z3.out).trans p33
  have p44 : w4.cell? ⟨w.heap.size + 1, 4, none⟩ = some (.slice P.R.A P.R.n P.R.c) := (hb.cell (p := ⟨w.heap.size + 1, 4, none⟩) Z3.out).trans p34
  have p45 : w4.cell? ⟨w.heap.size + 1, 5, none⟩ = some (.slice P.D.A P.D.n P.D.c) := (hb.cell (p := ⟨w.heap.size + 1, 5, none⟩) Z3.out).trans p35
  clear hb g30 g31 g32 p30 p31 p32 p33 p34 p35
  cases r
  · clear hr
    go_wp2_with fail
    refine (alive_any _).mono ?_
    rintro e w5 ⟨rfl, hb⟩
    have B5 := hid (B4.out.trans (hb.mono B4.out.size))
    clear hb
    go_wp2
    go_ret
    exact ⟨rfl, B5.out⟩
  · have HA := hid (hr rfl)
    clear hr
    go_wp2_with fail
    refine (steps_ok p i b s P _ Hsm.out (HP.out.below B4.out) HE.out (fun k hk => (HW.out k hk).1)).mono ?_
    rintro e w5 ⟨va, rfl, ho, hb⟩
    obtain ⟨nA, nC, ph⟩ := phases HA.out HL.out.1 HL.out.2.2 HL.out.2.1 Hsm.out
    obtain ⟨q, ca, n, rfl, hn, hrow⟩ := row_of_ops ho (by have := ph.ac; have := ph.cn; omega)
    rw [← hn] at ph
    have PH := hid ph
    have R5 := hid hrow
    clear ho hn ph hrow
    have B5 := hid (B4.out.trans (hb.mono B4.out.size))
    have Z5 : Hid (w.heap.size + 1 < w5.heap.size) := Nat.lt_of_lt_of_le Z4.out hb.size
    have p50 : w5.cell? ⟨w.heap.size + 1, 0, none⟩ = some (.int .i64 P.err) := (hb.cell (p := ⟨w.heap.size + 1, 0, none⟩) Z4.out).trans p40
    have p51 : w5.cell? ⟨w.heap.size + 1, 1, none⟩ = some (.int .i64 P.ino) := (hb.cell (p := ⟨w.heap.size + 1, 1, none⟩) Z4.out).trans p41
    have p52 : w5.cell? ⟨w.heap.size + 1, 2, none⟩ = some (.slice P.F.A P.F.n P.F.c) := (hb.cell (p := ⟨w.heap.size + 1, 2, none⟩) Z4.out).trans p42
    have p53 : w5.cell? ⟨w.heap.size + 1, 3, none⟩ = some (.slice P.L.A P.L.n P.L.c) := (hb.cell (p := ⟨w.heap.size + 1, 3, none⟩) Z4.out).trans p43
    have p54 : w5.cell? ⟨w.heap.size + 1, 4, none⟩ = some (.slice P.R.A P.R.n P.R.c) := (hb.cell (p := ⟨w.heap.size + 1, 4, none⟩) Z4.out).trans p44
    have p55 : w5.cell? ⟨w.heap.size + 1, 5, none⟩ = some (.slice P.D.A P.D.n P.D.c) := (hb.cell (p := ⟨w.heap.size + 1, 5, none⟩) Z4.out).trans p45
    clear hb g40 g41 g42 p40 p41 p42 p43 p44 p45
    have C := hid (show w5.cell? ⟨w.heap.size + 1, 2, none⟩ = some (.slice P.F.A P.F.n P.F.c) ∧ w5.cell? ⟨w.heap.size + 1, 4, none⟩ = some (.slice P.R.A P.R.n P.R.c) ∧ w5.cell? ⟨w.heap.size + 1, 5, none⟩ = some (.slice P.D.A P.D.n P.D.c) from ⟨p52, p54, p55⟩)
    have C5 := C
    have L5 := hid p53
    have Z := Z5
    have HPc := hid (HP.out.below B5.out)
    have Bc := hid (Below.refl w5.heap.size w5)
    clear p50 p51 p52 p53 p54 p55
    go_upto_region 9 with fail
    go_cut [11, 12, 13] (fun v11 v12 v13 wx => ∃ bF bR bD DF DR DD, v11 = .map (some bF) ∧ v12 = .map (some bR) ∧ v13 = .map (some bD) ∧ MapAt wx bF P.F DF ∧ MapAt wx bR P.R DR ∧ MapAt wx bD P.D DD ∧ Below w5.heap.size w5 wx)
    case first =>
      have k2 := C.out.1
      have k4 := C.out.2.1
      have k5 := C.out.2.2
      go_region_held3 (fun w' => w'.cell? ⟨w.heap.size + 1, 2, none⟩ = some (.slice P.F.A P.F.n P.F.c) ∧ w'.cell? ⟨w.heap.size + 1, 4, none⟩ = some (.slice P.R.A P.R.n P.R.c) ∧ w'.cell? ⟨w.heap.size + 1, 5, none⟩ = some (.slice P.D.A P.D.n P.D.c)) (first | exact C.out | go_keep)
        (first
          | (go_at_call_of 24 (Value.slice P.F.A P.F.n P.F.c); refine (of_any P.F.A P.F.n P.F.c P.F.f P.F.g _ Hsm.out.1 ?_ (far_low HL.out.1.1) HG.out.1).mono ?_; (exact HPc.out.1); rintro e w' ⟨DF, rfl, hown, hmap, hb⟩; (first | (replace hb := undrew hb) | skip); (first | (replace hb := undrew hb) | skip); have C := hid (show w'.cell? ⟨w.heap.size + 1, 2, none⟩ = some (.slice P.F.A P.F.n P.F.c) ∧ w'.cell? ⟨w.heap.size + 1, 4, none⟩ = some (.slice P.R.A P.R.n P.R.c) ∧ w'.cell? ⟨w.heap.size + 1, 5, none⟩ = some (.slice P.D.A P.D.n P.D.c) from ⟨(hb.cell (p := ⟨w.heap.size + 1, 2, none⟩) Z.out).trans C.out.1, (hb.cell (p := ⟨w.heap.size + 1, 4, none⟩) Z.out).trans C.out.2.1, (hb.cell (p := ⟨w.heap.size + 1, 5, none⟩) Z.out).trans C.out.2.2⟩); have Z := hid (show w.heap.size + 1 < w'.heap.size from Nat.lt_of_lt_of_le Z.out hb.size); have HPc := hid (HPc.out.below hb); have Bc := hid (Bc.out.trans (hb.mono Bc.out.size)); (try (have KF := hid (KF.out.below hb))); (try (have KR := hid (KR.out.below hb))); (try (have KD := hid (KD.out.below hb))); have KF := hid (show MapAt w' _ P.F DF from ⟨hown, hmap⟩); clear hb hown hmap)
          | (go_at_call_of 24 (Value.slice P.R.A P.R.n P.R.c); refine (of_any P.R.A P.R.n P.R.c P.R.f P.R.g _ Hsm.out.2.2.1 ?_ (far_low HL.out.1.2.1) HW.out).mono ?_; (exact HPc.out.2.2.1); rintro e w' ⟨DR, rfl, hown, hmap, hb⟩; (first | (replace hb := undrew hb) | skip); (first | (replace hb := undrew hb) | skip); have C := hid (show w'.cell? ⟨w.heap.size + 1, 2, none⟩ = some (.slice P.F.A P.F.n P.F.c) ∧ w'.cell? ⟨w.heap.size + 1, 4, none⟩ = some (.slice P.R.A P.R.n P.R.c) ∧ w'.cell? ⟨w.heap.size + 1, 5, none⟩ = some (.slice P.D.A P.D.n P.D.c) from ⟨(hb.cell (p := ⟨w.heap.size + 1, 2, none⟩) Z.out).trans C.out.1, (hb.cell (p := ⟨w.heap.size + 1, 4, none⟩) Z.out).trans C.out.2.1, (hb.cell (p := ⟨w.heap.size + 1, 5, none⟩) Z.out).trans C.out.2.2⟩); have Z := hid (show w.heap.size + 1 < w'.heap.size from Nat.lt_of_lt_of_le Z.out hb.size); have HPc := hid (HPc.out.below hb); have Bc := hid (Bc.out.trans (hb.mono Bc.out.size)); (try (have KF := hid (KF.out.below hb))); (try (have KR := hid (KR.out.below hb))); (try (have KD := hid (KD.out.below hb))); have KR := hid (show MapAt w' _ P.R DR from ⟨hown, hmap⟩); clear hb hown hmap)
          | (go_at_call_of 24 (Value.slice P.D.A P.D.n P.D.c); refine (of_any P.D.A P.D.n P.D.c P.D.f P.D.g _ Hsm.out.2.2.2 ?_ (far_low HL.out.1.2.2.1) HG.out.2).mono ?_; (exact HPc.out.2.2.2); rintro e w' ⟨DD, rfl, hown, hmap, hb⟩; (first | (replace hb := undrew hb) | skip); (first | (replace hb := undrew hb) | skip); have C := hid (show w'.cell? ⟨w.heap.size + 1, 2, none⟩ = some (.slice P.F.A P.F.n P.F.c) ∧ w'.cell? ⟨w.heap.size + 1, 4, none⟩ = some (.slice P.R.A P.R.n P.R.c) ∧ w'.cell? ⟨w.heap.size + 1, 5, none⟩ = some (.slice P.D.A P.D.n P.D.c) from ⟨(hb.cell (p := ⟨w.heap.size + 1, 2, none⟩) Z.out).trans C.out.1, (hb.cell (p := ⟨w.heap.size + 1, 4, none⟩) Z.out).trans C.out.2.1, (hb.cell (p := ⟨w.heap.size + 1, 5, none⟩) Z.out).trans C.out.2.2⟩); have Z := hid (show w.heap.size + 1 < w'.heap.size from Nat.lt_of_lt_of_le Z.out hb.size); have HPc := hid (HPc.out.below hb); have Bc := hid (Bc.out.trans (hb.mono Bc.out.size)); (try (have KF := hid (KF.out.below hb))); (try (have KR := hid (KR.out.below hb))); (try (have KD := hid (KD.out.below hb))); have KD := hid (show MapAt w' _ P.D DD from ⟨hown, hmap⟩); clear hb hown hmap))
      all_goals (go_wp2_with fail; go_meet; exact ⟨_, _, _, _, _, _, rfl, rfl, rfl, KF.out, KR.out, KD.out, Bc.out⟩)
    case rest =>
      obtain ⟨bF, bR, bD, DF, DR, DD, rfl, rfl, rfl, hF, hR, hD, hb⟩ := hcut
      have KF := hid hF
      have KR := hid hR
      have KD := hid hD
      have BC := hid (B5.out.trans (hb.mono B5.out.size))
      have RC := hid (R5.out.below hb)
      have ZC : Hid (w.heap.size + 1 < wc.heap.size) := Nat.lt_of_lt_of_le Z5.out hb.size
      have CC : Hid (wc.cell? ⟨w.heap.size + 1, 2, none⟩ = some (.slice P.F.A P.F.n P.F.c) ∧ wc.cell? ⟨w.heap.size + 1, 3, none⟩ = some (.slice P.L.A P.L.n P.L.c) ∧ wc.cell? ⟨w.heap.size + 1, 4, none⟩ = some (.slice P.R.A P.R.n P.R.c)) := ⟨(hb.cell (p := ⟨w.heap.size + 1, 2, none⟩) Z5.out).trans C5.out.1, (hb.cell (p := ⟨w.heap.size + 1, 3, none⟩) Z5.out).trans L5.out, (hb.cell (p := ⟨w.heap.size + 1, 4, none⟩) Z5.out).trans C5.out.2.1⟩
      clear hF hR hD hb
      go_wp2_with fail
      go_loopw [14, 15, 16, 17, 18, 19, 20, 21, 22, 23, 24, 25] (fun sh la iv _ _ _ _ _ _ _ _ _ wr => ∃ (k : Nat) (z : Int) (l : Bool), k ≤ n ∧ iv = .int .i64 k ∧ sh = .int .i64 z ∧ z = shN nA k ∧ la = .bool l ∧ l = laB nC k ∧ Below wc.heap.size wc wr) (fun _ _ iv _ _ _ _ _ _ _ _ _ _ => n - (intOf iv).toNat)
      case atStart => exact ⟨0, 0, false, by omega, rfl, rfl, (shN_lo (by omega)).symm, rfl, (laB_lo (by omega)).symm, Below.refl _ _⟩
      case round =>
        obtain ⟨k, z, l, hk, rfl, rfl, hsh, rfl, hla, hb⟩ := hrel
        have HBr := hid hb
        clear hb
        have hac := PH.out.ac
        have hcn := PH.out.cn
        have htop := PH.out.top
        by_cases hlt : k < n
        · have hkL : k < (stepsL (slotAt i s) P).length := by rw [← PH.out.len]; exact hlt
          have hlt' : (k : Int) < (n : Int) := by omega
          have h0k : (0 : Int) ≤ (k : Int) := by omega
          have MF := hid (KF.out.below HBr.out)
          have MR := hid (KR.out.below HBr.out)
          have MD := hid (KD.out.below HBr.out)
          have RR := hid (RC.out.below HBr.out)
          have hql := RR.out.1
          have hph := PH.out.at_ k hkL
          obtain ⟨c0, c1, c2⟩ := RR.out.2 k hkL
          generalize (stepsL (slotAt i s) P)[k] = o at hph c0 c1 c2
          rcases hph with hph | hph | hph | hph
          · obtain ⟨h1, ⟨l1, l2⟩, h4, himp⟩ := hph
            obtain rfl : z = 0 := by rw [hsh, shN_lo (by omega)]
            obtain rfl : l = false := by rw [hla, laB_lo (by omega)]
            clear hsh hla
            have hkey : keyOf Try.prog 3 (.int .i64 o.a) = some (.int .i64 o.a) := keyOf_int_mk Try.underlying3 (WalkArith.wf_i64 (by omega))
            by_cases hk1 : o.k = 1
            · have hR := MR.out.no (himp hk1).1
              have hD := MD.out.no (himp hk1).2
              clear himp h4
              have e1 : (o.k == 1) = true := by rw [hk1]; rfl
              have e4 : (o.k != 4) = true := by rw [hk1]; rfl
              clear hk1
              cases hF : Maps.has DF (.int .i64 o.a)
              · go_wp2_with (first
                  | (at_lookup; refine wpList_lookup_own_ok_int _ rfl (.tmp 84) (.tmp 86) 66 rfl 3 51 .u64 law3 Try.underlying66 Try.underlying51 (zero51 _) bF P.F.n DF rfl (MF.out.1.alloc _) _ _ rfl hkey ?_; intro cF hatF hwcF; clear hatF hwcF)
                  | (at_lookup; refine wpList_lookup_own_ok_int _ rfl (.tmp 91) (.tmp 93) 66 rfl 3 51 .u64 law3 Try.underlying66 Try.underlying51 (zero51 _) bR P.R.n DR rfl (MR.out.1.alloc _) _ _ rfl hkey ?_; intro cR hatR hwcR; clear hatR hwcR)
                  | (at_lookup; refine wpList_lookup_own_ok_int _ rfl (.tmp 98) (.tmp 100) 66 rfl 3 51 .u64 law3 Try.underlying66 Try.underlying51 (zero51 _) bD P.D.n DD rfl (MD.out.1.alloc _) _ _ rfl hkey ?_; intro cD hatD hwcD; clear hatD hwcD))
                go_roundw
                case rel => exact ⟨k + 1, _, _, by omega, by go_num, rfl, (shN_lo (by omega)).symm, rfl, (laB_lo (by omega)).symm, HBr.out.alloc HBr.out.size _⟩
                case measure => simp [intOf]; omega
              · go_wp2_with (first
                  | (at_lookup; refine wpList_lookup_own_ok_int _ rfl (.tmp 84) (.tmp 86) 66 rfl 3 51 .u64 law3 Try.underlying66 Try.underlying51 (zero51 _) bF P.F.n DF rfl (MF.out.1.alloc _) _ _ rfl hkey ?_; intro cF hatF hwcF; clear hatF hwcF)
                  | (at_lookup; refine wpList_lookup_own_ok_int _ rfl (.tmp 91) (.tmp 93) 66 rfl 3 51 .u64 law3 Try.underlying66 Try.underlying51 (zero51 _) bR P.R.n DR rfl (MR.out.1.alloc _) _ _ rfl hkey ?_; intro cR hatR hwcR; clear hatR hwcR)
                  | (at_lookup; refine wpList_lookup_own_ok_int _ rfl (.tmp 98) (.tmp 100) 66 rfl 3 51 .u64 law3 Try.underlying66 Try.underlying51 (zero51 _) bD P.D.n DD rfl (MD.out.1.alloc _) _ _ rfl hkey ?_; intro cD hatD hwcD; clear hatD hwcD))
                go_roundw
                case rel => exact ⟨k + 1, _, _, by omega, by go_num, rfl, (shN_lo (by omega)).symm, rfl, (laB_lo (by omega)).symm, HBr.out.alloc HBr.out.size _⟩
                case measure => simp [intOf]; omega
            · clear himp
              have e1 : (o.k == 1) = false := by simpa using hk1
              have e4 : (o.k != 4) = true := by simpa using h4
              clear hk1 h4
              go_wp2_with (first
                | (at_lookup; refine wpList_lookup_own_ok_int _ rfl (.tmp 84) (.tmp 86) 66 rfl 3 51 .u64 law3 Try.underlying66 Try.underlying51 (zero51 _) bF P.F.n DF rfl (MF.out.1.alloc _) _ _ rfl hkey ?_; intro cF hatF hwcF; clear hatF hwcF)
                | (at_lookup; refine wpList_lookup_own_ok_int _ rfl (.tmp 91) (.tmp 93) 66 rfl 3 51 .u64 law3 Try.underlying66 Try.underlying51 (zero51 _) bR P.R.n DR rfl (MR.out.1.alloc _) _ _ rfl hkey ?_; intro cR hatR hwcR; clear hatR hwcR)
                | (at_lookup; refine wpList_lookup_own_ok_int _ rfl (.tmp 98) (.tmp 100) 66 rfl 3 51 .u64 law3 Try.underlying66 Try.underlying51 (zero51 _) bD P.D.n DD rfl (MD.out.1.alloc _) _ _ rfl hkey ?_; intro cD hatD hwcD; clear hatD hwcD))
              go_roundw
              case rel => exact ⟨k + 1, _, _, by omega, by go_num, rfl, (shN_lo (by omega)).symm, rfl, (laB_lo (by omega)).symm, HBr.out.alloc HBr.out.size _⟩
              case measure => simp [intOf]; omega
          · obtain ⟨rfl, rfl⟩ := hph
            obtain rfl : z = 0 := by rw [hsh, shN_lo (by omega)]
            obtain rfl : l = false := by rw [hla, laB_lo (by omega)]
            clear hsh hla
            have hkey : keyOf Try.prog 3 (.int .i64 0) = some (.int .i64 0) := keyOf_int_mk Try.underlying3 (WalkArith.wf_i64 (by omega))
            dsimp only at c0 c1 c2
            have x2 := (HBr.out.cell (p := ⟨w.heap.size + 1, 2, none⟩) ZC.out).trans CC.out.1
            have x3 := (HBr.out.cell (p := ⟨w.heap.size + 1, 3, none⟩) ZC.out).trans CC.out.2.1
            have x4 := (HBr.out.cell (p := ⟨w.heap.size + 1, 4, none⟩) ZC.out).trans CC.out.2.2
            have xl := Nat.lt_of_lt_of_le ZC.out HBr.out.size
            have f1 := t1
            have f2 := t2
            have f4 := t4
            cases k with
            | zero =>
              have hz := PH.out.none.1 rfl
              have g0 : ¬ (0 : Int) < (P.F.n : Int) + (P.L.n : Int) + (P.R.n : Int) := by omega
              have g1 : decide ((0 : Int) < (P.F.n : Int) + (P.L.n : Int) + (P.R.n : Int)) = false := decide_eq_false g0
              go_wp2_with (first
                | (at_lookup; refine wpList_lookup_own_ok_int _ rfl (.tmp 84) (.tmp 86) 66 rfl 3 51 .u64 law3 Try.underlying66 Try.underlying51 (zero51 _) bF P.F.n DF rfl (MF.out.1.alloc _) _ _ rfl hkey ?_; intro cF hatF hwcF; clear hatF hwcF)
                | (at_lookup; refine wpList_lookup_own_ok_int _ rfl (.tmp 91) (.tmp 93) 66 rfl 3 51 .u64 law3 Try.underlying66 Try.underlying51 (zero51 _) bR P.R.n DR rfl (MR.out.1.alloc _) _ _ rfl hkey ?_; intro cR hatR hwcR; clear hatR hwcR)
                | (at_lookup; refine wpList_lookup_own_ok_int _ rfl (.tmp 98) (.tmp 100) 66 rfl 3 51 .u64 law3 Try.underlying66 Try.underlying51 (zero51 _) bD P.D.n DD rfl (MD.out.1.alloc _) _ _ rfl hkey ?_; intro cD hatD hwcD; clear hatD hwcD))
              go_roundw
              case rel => exact ⟨1, _, _, by omega, by go_num, rfl, (shN_hi (by omega)).symm, rfl, (laB_lo (by omega)).symm, HBr.out.alloc HBr.out.size _⟩
              case measure => simp [intOf]; omega
            | succ j =>
              have hz : 0 < P.F.n + P.L.n + P.R.n := by
                have := PH.out.none
                omega
              have g0 : (0 : Int) < (P.F.n : Int) + (P.L.n : Int) + (P.R.n : Int) := by omega
              have g1 : decide ((0 : Int) < (P.F.n : Int) + (P.L.n : Int) + (P.R.n : Int)) = true := decide_eq_true g0
              have hjL : j < (stepsL (slotAt i s) P).length := by omega
              have hj3 := PH.out.before j hjL rfl
              have y0 := (RR.out.2 j hjL).1
              rw [hj3] at y0
              clear hj3
              have hj0 : (0 : Int) ≤ (j : Int) := by omega
              have hjn : (j : Int) < (n : Int) := by omega
              go_wp2_with (first
                | (at_lookup; refine wpList_lookup_own_ok_int _ rfl (.tmp 84) (.tmp 86) 66 rfl 3 51 .u64 law3 Try.underlying66 Try.underlying51 (zero51 _) bF P.F.n DF rfl (MF.out.1.alloc _) _ _ rfl hkey ?_; intro cF hatF hwcF; clear hatF hwcF)
                | (at_lookup; refine wpList_lookup_own_ok_int _ rfl (.tmp 91) (.tmp 93) 66 rfl 3 51 .u64 law3 Try.underlying66 Try.underlying51 (zero51 _) bR P.R.n DR rfl (MR.out.1.alloc _) _ _ rfl hkey ?_; intro cR hatR hwcR; clear hatR hwcR)
                | (at_lookup; refine wpList_lookup_own_ok_int _ rfl (.tmp 98) (.tmp 100) 66 rfl 3 51 .u64 law3 Try.underlying66 Try.underlying51 (zero51 _) bD P.D.n DD rfl (MD.out.1.alloc _) _ _ rfl hkey ?_; intro cD hatD hwcD; clear hatD hwcD))
              go_roundw
              case rel => exact ⟨j + 1 + 1, _, _, by omega, by go_num, rfl, (shN_hi (by omega)).symm, rfl, (laB_lo (by omega)).symm, HBr.out.alloc HBr.out.size _⟩
              case measure => simp [intOf]; omega
          · obtain ⟨h1, h2, ⟨l1, l2⟩, h4, himp⟩ := hph
            obtain rfl : z = 1 := by rw [hsh, shN_hi (by omega)]
            obtain rfl : l = false := by rw [hla, laB_lo (by omega)]
            clear hsh hla
            have hkey : keyOf Try.prog 3 (.int .i64 o.a) = some (.int .i64 o.a) := keyOf_int_mk Try.underlying3 (WalkArith.wf_i64 (by omega))
            by_cases hk1 : o.k = 1
            · have hF := MF.out.no (himp hk1).1
              have hD := MD.out.no (himp hk1).2
              clear himp h4
              have e1 : (o.k == 1) = true := by rw [hk1]; rfl
              have e4 : (o.k != 4) = true := by rw [hk1]; rfl
              clear hk1
              cases hR : Maps.has DR (.int .i64 o.a)
              · go_wp2_with (first
                  | (at_lookup; refine wpList_lookup_own_ok_int _ rfl (.tmp 84) (.tmp 86) 66 rfl 3 51 .u64 law3 Try.underlying66 Try.underlying51 (zero51 _) bF P.F.n DF rfl (MF.out.1.alloc _) _ _ rfl hkey ?_; intro cF hatF hwcF; clear hatF hwcF)
                  | (at_lookup; refine wpList_lookup_own_ok_int _ rfl (.tmp 91) (.tmp 93) 66 rfl 3 51 .u64 law3 Try.underlying66 Try.underlying51 (zero51 _) bR P.R.n DR rfl (MR.out.1.alloc _) _ _ rfl hkey ?_; intro cR hatR hwcR; clear hatR hwcR)
                  | (at_lookup; refine wpList_lookup_own_ok_int _ rfl (.tmp 98) (.tmp 100) 66 rfl 3 51 .u64 law3 Try.underlying66 Try.underlying51 (zero51 _) bD P.D.n DD rfl (MD.out.1.alloc _) _ _ rfl hkey ?_; intro cD hatD hwcD; clear hatD hwcD))
                go_roundw
                case rel => exact ⟨k + 1, _, _, by omega, by go_num, rfl, (shN_hi (by omega)).symm, rfl, (laB_lo (by omega)).symm, HBr.out.alloc HBr.out.size _⟩
                case measure => simp [intOf]; omega
              · go_wp2_with (first
                  | (at_lookup; refine wpList_lookup_own_ok_int _ rfl (.tmp 84) (.tmp 86) 66 rfl 3 51 .u64 law3 Try.underlying66 Try.underlying51 (zero51 _) bF P.F.n DF rfl (MF.out.1.alloc _) _ _ rfl hkey ?_; intro cF hatF hwcF; clear hatF hwcF)
                  | (at_lookup; refine wpList_lookup_own_ok_int _ rfl (.tmp 91) (.tmp 93) 66 rfl 3 51 .u64 law3 Try.underlying66 Try.underlying51 (zero51 _) bR P.R.n DR rfl (MR.out.1.alloc _) _ _ rfl hkey ?_; intro cR hatR hwcR; clear hatR hwcR)
                  | (at_lookup; refine wpList_lookup_own_ok_int _ rfl (.tmp 98) (.tmp 100) 66 rfl 3 51 .u64 law3 Try.underlying66 Try.underlying51 (zero51 _) bD P.D.n DD rfl (MD.out.1.alloc _) _ _ rfl hkey ?_; intro cD hatD hwcD; clear hatD hwcD))
                go_roundw
                case rel => exact ⟨k + 1, _, _, by omega, by go_num, rfl, (shN_hi (by omega)).symm, rfl, (laB_lo (by omega)).symm, HBr.out.alloc HBr.out.size _⟩
                case measure => simp [intOf]; omega
            · clear himp
              have e1 : (o.k == 1) = false := by simpa using hk1
              have e4 : (o.k != 4) = true := by simpa using h4
              clear hk1 h4
              go_wp2_with (first
                | (at_lookup; refine wpList_lookup_own_ok_int _ rfl (.tmp 84) (.tmp 86) 66 rfl 3 51 .u64 law3 Try.underlying66 Try.underlying51 (zero51 _) bF P.F.n DF rfl (MF.out.1.alloc _) _ _ rfl hkey ?_; intro cF hatF hwcF; clear hatF hwcF)
                | (at_lookup; refine wpList_lookup_own_ok_int _ rfl (.tmp 91) (.tmp 93) 66 rfl 3 51 .u64 law3 Try.underlying66 Try.underlying51 (zero51 _) bR P.R.n DR rfl (MR.out.1.alloc _) _ _ rfl hkey ?_; intro cR hatR hwcR; clear hatR hwcR)
                | (at_lookup; refine wpList_lookup_own_ok_int _ rfl (.tmp 98) (.tmp 100) 66 rfl 3 51 .u64 law3 Try.underlying66 Try.underlying51 (zero51 _) bD P.D.n DD rfl (MD.out.1.alloc _) _ _ rfl hkey ?_; intro cD hatD hwcD; clear hatD hwcD))
              go_roundw
              case rel => exact ⟨k + 1, _, _, by omega, by go_num, rfl, (shN_hi (by omega)).symm, rfl, (laB_lo (by omega)).symm, HBr.out.alloc HBr.out.size _⟩
              case measure => simp [intOf]; omega
          · obtain ⟨h1, ⟨l1, l2⟩, hk1, hin, hno⟩ := hph
            obtain rfl : z = 1 := by rw [hsh, shN_hi (by have := PH.out.ac; omega)]
            clear hsh
            have hkey : keyOf Try.prog 3 (.int .i64 o.a) = some (.int .i64 o.a) := keyOf_int_mk Try.underlying3 (WalkArith.wf_i64 (by omega))
            have hF := MF.out.no hno
            have hD := (MD.out.has o.a).2 hin
            clear hno hin
            have e1 : (o.k == 1) = true := by rw [hk1]; rfl
            have e4 : (o.k != 4) = true := by rw [hk1]; rfl
            clear hk1
            by_cases hl : nC < k
            · obtain rfl : l = true := by rw [hla, laB_hi hl]
              clear hla
              cases hR : Maps.has DR (.int .i64 o.a)
              · go_wp2_with (first
                  | (at_lookup; refine wpList_lookup_own_ok_int _ rfl (.tmp 84) (.tmp 86) 66 rfl 3 51 .u64 law3 Try.underlying66 Try.underlying51 (zero51 _) bF P.F.n DF rfl (MF.out.1.alloc _) _ _ rfl hkey ?_; intro cF hatF hwcF; clear hatF hwcF)
                  | (at_lookup; refine wpList_lookup_own_ok_int _ rfl (.tmp 91) (.tmp 93) 66 rfl 3 51 .u64 law3 Try.underlying66 Try.underlying51 (zero51 _) bR P.R.n DR rfl (MR.out.1.alloc _) _ _ rfl hkey ?_; intro cR hatR hwcR; clear hatR hwcR)
                  | (at_lookup; refine wpList_lookup_own_ok_int _ rfl (.tmp 98) (.tmp 100) 66 rfl 3 51 .u64 law3 Try.underlying66 Try.underlying51 (zero51 _) bD P.D.n DD rfl (MD.out.1.alloc _) _ _ rfl hkey ?_; intro cD hatD hwcD; clear hatD hwcD))
                go_roundw
                case rel => exact ⟨k + 1, _, _, by omega, by go_num, rfl, (shN_hi (by have := PH.out.ac; omega)).symm, rfl, (laB_hi (by omega)).symm, HBr.out.alloc HBr.out.size _⟩
                case measure => simp [intOf]; omega
              · go_wp2_with (first
                  | (at_lookup; refine wpList_lookup_own_ok_int _ rfl (.tmp 84) (.tmp 86) 66 rfl 3 51 .u64 law3 Try.underlying66 Try.underlying51 (zero51 _) bF P.F.n DF rfl (MF.out.1.alloc _) _ _ rfl hkey ?_; intro cF hatF hwcF; clear hatF hwcF)
                  | (at_lookup; refine wpList_lookup_own_ok_int _ rfl (.tmp 91) (.tmp 93) 66 rfl 3 51 .u64 law3 Try.underlying66 Try.underlying51 (zero51 _) bR P.R.n DR rfl (MR.out.1.alloc _) _ _ rfl hkey ?_; intro cR hatR hwcR; clear hatR hwcR)
                  | (at_lookup; refine wpList_lookup_own_ok_int _ rfl (.tmp 98) (.tmp 100) 66 rfl 3 51 .u64 law3 Try.underlying66 Try.underlying51 (zero51 _) bD P.D.n DD rfl (MD.out.1.alloc _) _ _ rfl hkey ?_; intro cD hatD hwcD; clear hatD hwcD))
                go_roundw
                case rel => exact ⟨k + 1, _, _, by omega, by go_num, rfl, (shN_hi (by have := PH.out.ac; omega)).symm, rfl, (laB_hi (by omega)).symm, HBr.out.alloc HBr.out.size _⟩
                case measure => simp [intOf]; omega
            · obtain rfl : l = false := by rw [hla, laB_lo hl]
              clear hla
              cases hR : Maps.has DR (.int .i64 o.a)
              · go_wp2_with (first
                  | (at_lookup; refine wpList_lookup_own_ok_int _ rfl (.tmp 84) (.tmp 86) 66 rfl 3 51 .u64 law3 Try.underlying66 Try.underlying51 (zero51 _) bF P.F.n DF rfl (MF.out.1.alloc _) _ _ rfl hkey ?_; intro cF hatF hwcF; clear hatF hwcF)
                  | (at_lookup; refine wpList_lookup_own_ok_int _ rfl (.tmp 91) (.tmp 93) 66 rfl 3 51 .u64 law3 Try.underlying66 Try.underlying51 (zero51 _) bR P.R.n DR rfl (MR.out.1.alloc _) _ _ rfl hkey ?_; intro cR hatR hwcR; clear hatR hwcR)
                  | (at_lookup; refine wpList_lookup_own_ok_int _ rfl (.tmp 98) (.tmp 100) 66 rfl 3 51 .u64 law3 Try.underlying66 Try.underlying51 (zero51 _) bD P.D.n DD rfl (MD.out.1.alloc _) _ _ rfl hkey ?_; intro cD hatD hwcD; clear hatD hwcD))
                go_roundw
                case rel => exact ⟨k + 1, _, _, by omega, by go_num, rfl, (shN_hi (by have := PH.out.ac; omega)).symm, rfl, (laB_hi (by omega)).symm, HBr.out.alloc HBr.out.size _⟩
                case measure => simp [intOf]; omega
              · go_wp2_with (first
                  | (at_lookup; refine wpList_lookup_own_ok_int _ rfl (.tmp 84) (.tmp 86) 66 rfl 3 51 .u64 law3 Try.underlying66 Try.underlying51 (zero51 _) bF P.F.n DF rfl (MF.out.1.alloc _) _ _ rfl hkey ?_; intro cF hatF hwcF; clear hatF hwcF)
                  | (at_lookup; refine wpList_lookup_own_ok_int _ rfl (.tmp 91) (.tmp 93) 66 rfl 3 51 .u64 law3 Try.underlying66 Try.underlying51 (zero51 _) bR P.R.n DR rfl (MR.out.1.alloc _) _ _ rfl hkey ?_; intro cR hatR hwcR; clear hatR hwcR)
                  | (at_lookup; refine wpList_lookup_own_ok_int _ rfl (.tmp 98) (.tmp 100) 66 rfl 3 51 .u64 law3 Try.underlying66 Try.underlying51 (zero51 _) bD P.D.n DD rfl (MD.out.1.alloc _) _ _ rfl hkey ?_; intro cD hatD hwcD; clear hatD hwcD))
                go_roundw
                case rel => exact ⟨k + 1, _, _, by omega, by go_num, rfl, (shN_hi (by have := PH.out.ac; omega)).symm, rfl, (laB_hi (by omega)).symm, HBr.out.alloc HBr.out.size _⟩
                case measure => simp [intOf]; omega
        · obtain rfl : n = k := by omega
          have hnA : nA < n := by omega
          obtain rfl : z = 1 := by rw [hsh, shN_hi hnA]
          clear hsh hla
          go_wp2_with fail
          refine (alive_any _).mono ?_
          rintro e wf ⟨rfl, hb⟩
          have Bf := hid (BC.out.trans ((HBr.out.trans (hb.mono HBr.out.size)).mono BC.out.size))
          clear hb
          go_wp2
          go_ret
          exact ⟨rfl, Bf.out⟩
theorem show_any (p i b s : Int) (P : PlanD) (w : World) (hp : PlanAt w P) (hw : P.wf) (hg : Wf2 P.F.n P.F.g ∧ Wf2 P.D.n P.D.g) :
    Calls Try.prog 6 #[.agg #[.int .i64 p, .int .i64 i, .int .i64 b], .int .i64 s, .agg #[.int .i64 P.err, .int .i64 P.ino, .slice P.F.A P.F.n P.F.c, .slice P.L.A P.L.n P.L.c, .slice P.R.A P.R.n P.R.c, .slice P.D.A P.D.n P.D.c]] w fun e w' => e = .returned (.bool true) ∧ Below w.heap.size w w' := by
  cases h : largeB p i b P
  · by_cases he : errE p i b s P = 0
    · exact show_ok p i b s P w h hp hw hg he
    · exact show_err p i b s P w h hp _ rfl he
  · exact show_large p i b s P w h
end Go.Proofs.Ytimfnimcmfjjpaa
