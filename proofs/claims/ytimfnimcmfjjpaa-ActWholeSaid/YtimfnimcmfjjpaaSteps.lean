/- act.Steps: the steps of a plan. -/
import Derived.Test.YtimfnimcmfjjpaaRedo
namespace Go.Proofs.Ytimfnimcmfjjpaa
open Go.RowKit
/-- The steps of a plan, its slot at a place. -/
def stepsL (at_ : Int) (P : PlanD) : List Op3 :=
  writtenL P.F.f P.F.g P.F.n ++ linesL P.L.f P.L.n ++ redoL at_ P.R.f P.R.g P.R.n ++ [⟨4, 0, 0⟩] ++ (if P.R.n = 0 then [] else writtenL P.R.f P.R.g P.R.n ++ writtenL (fun _ => at_) (fun _ => 0) 1) ++ storesL P.D.f P.D.g P.D.n
/-- Steps that a slice holds. -/
def OpsAt (w : World) (v : Value) (L : List Op3) : Prop := ∃ A c, v = .slice A L.length c ∧ (L.length = 0 ∨ ∃ q, A = some ⟨q, 0, none⟩ ∧ q < w.heap.size ∧ ∀ k (h : k < L.length), w.cell? ⟨q, k * 3, none⟩ = some (.int .u8 L[k].k) ∧ w.cell? ⟨q, k * 3 + 1, none⟩ = some (.int .i64 L[k].a) ∧ w.cell? ⟨q, k * 3 + 2, none⟩ = some (.int .u64 L[k].w))
theorem OpsAt.below {w w' : World} {v : Value} {L : List Op3} (h : OpsAt w v L) (hb : Below w.heap.size w w') : OpsAt w' v L := by
  obtain ⟨A, c, rfl, h0 | ⟨q, rfl, hlt, hc⟩⟩ := h
  · exact ⟨_, _, rfl, .inl h0⟩
  · have H : ∀ j, w'.cell? ⟨q, j, none⟩ = w.cell? ⟨q, j, none⟩ := fun j => hb.cell (p := ⟨q, j, none⟩) hlt
    exact ⟨_, _, rfl, .inr ⟨q, rfl, Nat.lt_of_lt_of_le hlt hb.size, fun k hk => ⟨(H _).trans (hc k hk).1, (H _).trans (hc k hk).2.1, (H _).trans (hc k hk).2.2⟩⟩⟩
theorem opsL_get : ∀ (L : List Op3) (k : Nat) (h : k < L.length), (opsL L)[k * 3]? = some (.int .u8 L[k].k) ∧ (opsL L)[k * 3 + 1]? = some (.int .i64 L[k].a) ∧ (opsL L)[k * 3 + 2]? = some (.int .u64 L[k].w)
  | [], k, h => by simp at h
  | o :: r, 0, _ => ⟨rfl, rfl, rfl⟩
  | o :: r, k + 1, h => by
    have := opsL_get r k (by simpa using h)
    rw [show (k + 1) * 3 = k * 3 + 3 by omega, show k * 3 + 3 + 1 = k * 3 + 1 + 3 by omega, show k * 3 + 3 + 2 = k * 3 + 2 + 3 by omega]
    exact this
theorem ops_of_own {w : World} {B n : Nat} {v : Value} {L : List Op3} (hn : n = L.length) (h : w.ownsRow B 53 3 v n (opsL L)) : OpsAt w v L := by
  subst hn
  rcases h.2 with ⟨rfl, h0⟩ | ⟨q, cap, cur, rfl, hB, hg, -, -, -, ht⟩
  · exact ⟨none, 0, by rw [h0], .inl h0⟩
  · refine ⟨_, _, rfl, .inr ⟨_, rfl, (Array.getElem?_eq_some_iff.1 hg).1, fun k hk => ?_⟩⟩
    rw [cell_of_row w q (k * 3) cur 53 (0, 0) hg, cell_of_row w q (k * 3 + 1) cur 53 (0, 0) hg, cell_of_row w q (k * 3 + 2) cur 53 (0, 0) hg]
    obtain ⟨g1, g2, g3⟩ := opsL_get L k hk
    have h1 := congrArg (fun l : List Value => l[k * 3]?) ht
    have h2 := congrArg (fun l : List Value => l[k * 3 + 1]?) ht
    have h3 := congrArg (fun l : List Value => l[k * 3 + 2]?) ht
    rw [g1] at h1
    rw [g2] at h2
    rw [g3] at h3
    rw [List.getElem?_take_of_lt (by omega)] at h1 h2 h3
    exact ⟨by simpa using h1, by simpa using h2, by simpa using h3⟩
set_option maxHeartbeats 4000000 in
set_option maxRecDepth 100000 in
theorem steps_geom (p i b s : Int) (P : PlanD) (w : World) (h : gok p i b = false) :
    Calls Try.prog 10 #[.agg #[.int .i64 p, .int .i64 i, .int .i64 b], .int .i64 s, .agg #[.int .i64 P.err, .int .i64 P.ino, .slice P.F.A P.F.n P.F.c, .slice P.L.A P.L.n P.L.c, .slice P.R.A P.R.n P.R.c, .slice P.D.A P.D.n P.D.c]] w fun e w' => e = .returned (.tuple #[.slice none 0 0, .int .i64 2]) ∧ Below w.heap.size w w' := by
  have H := hid h
  clear h
  have b0 := hid (show Below w.heap.size w ((w.alloc (.cells #[.int .i64 p, .int .i64 i, .int .i64 b] 23)).alloc (.cells #[.int .i64 P.err, .int .i64 P.ino, .slice P.F.A P.F.n P.F.c, .slice P.L.A P.L.n P.L.c, .slice P.R.A P.R.n P.R.c, .slice P.D.A P.D.n P.D.c] 28)) from ((Below.refl _ _).alloc (Nat.le_refl _) _).alloc (by simp) _)
  have hsz : w.heap.size + 1 < ((w.alloc (.cells #[.int .i64 p, .int .i64 i, .int .i64 b] 23)).alloc (.cells #[.int .i64 P.err, .int .i64 P.ino, .slice P.F.A P.F.n P.F.c, .slice P.L.A P.L.n P.L.c, .slice P.R.A P.R.n P.R.c, .slice P.D.A P.D.n P.D.c] 28)).heap.size := by simp
  go_enter Try.func10, Try.ntmps10
  go_wp2_with fail
  refine (lines_no _ _ _ _ H.out).mono ?_
  rintro e w1 ⟨rfl, hb⟩
  have B1 := hid (b0.out.trans (hb.mono b0.out.size))
  have Z1 : Hid (w.heap.size + 1 < w1.heap.size) := Nat.lt_of_lt_of_le hsz hb.size
  have g10 : w1.cell? ⟨w.heap.size, 0, none⟩ = some (.int .i64 p) := (hb.cell (p := ⟨w.heap.size, 0, none⟩) (Nat.lt_of_succ_lt hsz)).trans (by simp)
  have g11 : w1.cell? ⟨w.heap.size, 1, none⟩ = some (.int .i64 i) := (hb.cell (p := ⟨w.heap.size, 1, none⟩) (Nat.lt_of_succ_lt hsz)).trans (by simp)
  have g12 : w1.cell? ⟨w.heap.size, 2, none⟩ = some (.int .i64 b) := (hb.cell (p := ⟨w.heap.size, 2, none⟩) (Nat.lt_of_succ_lt hsz)).trans (by simp)
  have p10 : w1.cell? ⟨w.heap.size + 1, 0, none⟩ = some (.int .i64 P.err) := (hb.cell (p := ⟨w.heap.size + 1, 0, none⟩) hsz).trans (by simp)
  have p11 : w1.cell? ⟨w.heap.size + 1, 1, none⟩ = some (.int .i64 P.ino) := (hb.cell (p := ⟨w.heap.size + 1, 1, none⟩) hsz).trans (by simp)
  have p12 : w1.cell? ⟨w.heap.size + 1, 2, none⟩ = some (.slice P.F.A P.F.n P.F.c) := (hb.cell (p := ⟨w.heap.size + 1, 2, none⟩) hsz).trans (by simp)
  have p13 : w1.cell? ⟨w.heap.size + 1, 3, none⟩ = some (.slice P.L.A P.L.n P.L.c) := (hb.cell (p := ⟨w.heap.size + 1, 3, none⟩) hsz).trans (by simp)
  have p14 : w1.cell? ⟨w.heap.size + 1, 4, none⟩ = some (.slice P.R.A P.R.n P.R.c) := (hb.cell (p := ⟨w.heap.size + 1, 4, none⟩) hsz).trans (by simp)
  have p15 : w1.cell? ⟨w.heap.size + 1, 5, none⟩ = some (.slice P.D.A P.D.n P.D.c) := (hb.cell (p := ⟨w.heap.size + 1, 5, none⟩) hsz).trans (by simp)
  clear hb
  go_wp2_with fail
  refine (slot_bad _ _ _ _ _ H.out).mono ?_
  rintro e w2 ⟨rfl, hb⟩
  have B2 := hid (B1.out.trans (hb.mono B1.out.size))
  have Z2 : Hid (w.heap.size + 1 < w2.heap.size) := Nat.lt_of_lt_of_le Z1.out hb.size
  have g20 : w2.cell? ⟨w.heap.size, 0, none⟩ = some (.int .i64 p) := (hb.cell (p := ⟨w.heap.size, 0, none⟩) (Nat.lt_of_succ_lt Z1.out)).trans g10
  have g21 : w2.cell? ⟨w.heap.size, 1, none⟩ = some (.int .i64 i) := (hb.cell (p := ⟨w.heap.size, 1, none⟩) (Nat.lt_of_succ_lt Z1.out)).trans g11
  have g22 : w2.cell? ⟨w.heap.size, 2, none⟩ = some (.int .i64 b) := (hb.cell (p := ⟨w.heap.size, 2, none⟩) (Nat.lt_of_succ_lt Z1.out)).trans g12
  have p20 : w2.cell? ⟨w.heap.size + 1, 0, none⟩ = some (.int .i64 P.err) := (hb.cell (p := ⟨w.heap.size + 1, 0, none⟩) Z1.out).trans p10
  have p21 : w2.cell? ⟨w.heap.size + 1, 1, none⟩ = some (.int .i64 P.ino) := (hb.cell (p := ⟨w.heap.size + 1, 1, none⟩) Z1.out).trans p11
  have p22 : w2.cell? ⟨w.heap.size + 1, 2, none⟩ = some (.slice P.F.A P.F.n P.F.c) := (hb.cell (p := ⟨w.heap.size + 1, 2, none⟩) Z1.out).trans p12
  have p23 : w2.cell? ⟨w.heap.size + 1, 3, none⟩ = some (.slice P.L.A P.L.n P.L.c) := (hb.cell (p := ⟨w.heap.size + 1, 3, none⟩) Z1.out).trans p13
  have p24 : w2.cell? ⟨w.heap.size + 1, 4, none⟩ = some (.slice P.R.A P.R.n P.R.c) := (hb.cell (p := ⟨w.heap.size + 1, 4, none⟩) Z1.out).trans p14
  have p25 : w2.cell? ⟨w.heap.size + 1, 5, none⟩ = some (.slice P.D.A P.D.n P.D.c) := (hb.cell (p := ⟨w.heap.size + 1, 5, none⟩) Z1.out).trans p15
  clear hb g10 g11 g12 p10 p11 p12 p13 p14 p15
  go_wp2_with fail
  go_ret2
  exact ⟨rfl, B2.out⟩
set_option maxHeartbeats 4000000 in
set_option maxRecDepth 100000 in
theorem steps_slot (p i b s : Int) (P : PlanD) (w : World) (h : gok p i b = true) (hs : s < 0 ∨ p ≤ s) :
    Calls Try.prog 10 #[.agg #[.int .i64 p, .int .i64 i, .int .i64 b], .int .i64 s, .agg #[.int .i64 P.err, .int .i64 P.ino, .slice P.F.A P.F.n P.F.c, .slice P.L.A P.L.n P.L.c, .slice P.R.A P.R.n P.R.c, .slice P.D.A P.D.n P.D.c]] w fun e w' => e = .returned (.tuple #[.slice none 0 0, .int .i64 2]) ∧ Below w.heap.size w w' := by
  have H := hid h
  clear h
  have b0 := hid (show Below w.heap.size w ((w.alloc (.cells #[.int .i64 p, .int .i64 i, .int .i64 b] 23)).alloc (.cells #[.int .i64 P.err, .int .i64 P.ino, .slice P.F.A P.F.n P.F.c, .slice P.L.A P.L.n P.L.c, .slice P.R.A P.R.n P.R.c, .slice P.D.A P.D.n P.D.c] 28)) from ((Below.refl _ _).alloc (Nat.le_refl _) _).alloc (by simp) _)
  have hsz : w.heap.size + 1 < ((w.alloc (.cells #[.int .i64 p, .int .i64 i, .int .i64 b] 23)).alloc (.cells #[.int .i64 P.err, .int .i64 P.ino, .slice P.F.A P.F.n P.F.c, .slice P.L.A P.L.n P.L.c, .slice P.R.A P.R.n P.R.c, .slice P.D.A P.D.n P.D.c] 28)).heap.size := by simp
  go_enter Try.func10, Try.ntmps10
  go_wp2_with fail
  refine (lines_yes _ _ _ _ H.out).mono ?_
  rintro e w1 ⟨rfl, hb⟩
  have B1 := hid (b0.out.trans (hb.mono b0.out.size))
  have Z1 : Hid (w.heap.size + 1 < w1.heap.size) := Nat.lt_of_lt_of_le hsz hb.size
  have g10 : w1.cell? ⟨w.heap.size, 0, none⟩ = some (.int .i64 p) := (hb.cell (p := ⟨w.heap.size, 0, none⟩) (Nat.lt_of_succ_lt hsz)).trans (by simp)
  have g11 : w1.cell? ⟨w.heap.size, 1, none⟩ = some (.int .i64 i) := (hb.cell (p := ⟨w.heap.size, 1, none⟩) (Nat.lt_of_succ_lt hsz)).trans (by simp)
  have g12 : w1.cell? ⟨w.heap.size, 2, none⟩ = some (.int .i64 b) := (hb.cell (p := ⟨w.heap.size, 2, none⟩) (Nat.lt_of_succ_lt hsz)).trans (by simp)
  have p10 : w1.cell? ⟨w.heap.size + 1, 0, none⟩ = some (.int .i64 P.err) := (hb.cell (p := ⟨w.heap.size + 1, 0, none⟩) hsz).trans (by simp)
  have p11 : w1.cell? ⟨w.heap.size + 1, 1, none⟩ = some (.int .i64 P.ino) := (hb.cell (p := ⟨w.heap.size + 1, 1, none⟩) hsz).trans (by simp)
  have p12 : w1.cell? ⟨w.heap.size + 1, 2, none⟩ = some (.slice P.F.A P.F.n P.F.c) := (hb.cell (p := ⟨w.heap.size + 1, 2, none⟩) hsz).trans (by simp)
  have p13 : w1.cell? ⟨w.heap.size + 1, 3, none⟩ = some (.slice P.L.A P.L.n P.L.c) := (hb.cell (p := ⟨w.heap.size + 1, 3, none⟩) hsz).trans (by simp)
  have p14 : w1.cell? ⟨w.heap.size + 1, 4, none⟩ = some (.slice P.R.A P.R.n P.R.c) := (hb.cell (p := ⟨w.heap.size + 1, 4, none⟩) hsz).trans (by simp)
  have p15 : w1.cell? ⟨w.heap.size + 1, 5, none⟩ = some (.slice P.D.A P.D.n P.D.c) := (hb.cell (p := ⟨w.heap.size + 1, 5, none⟩) hsz).trans (by simp)
  clear hb
  go_wp2_with fail
  refine (slot_no _ _ _ _ _ H.out hs).mono ?_
  rintro e w2 ⟨rfl, hb⟩
  have B2 := hid (B1.out.trans (hb.mono B1.out.size))
  have Z2 : Hid (w.heap.size + 1 < w2.heap.size) := Nat.lt_of_lt_of_le Z1.out hb.size
  have g20 : w2.cell? ⟨w.heap.size, 0, none⟩ = some (.int .i64 p) := (hb.cell (p := ⟨w.heap.size, 0, none⟩) (Nat.lt_of_succ_lt Z1.out)).trans g10
  have g21 : w2.cell? ⟨w.heap.size, 1, none⟩ = some (.int .i64 i) := (hb.cell (p := ⟨w.heap.size, 1, none⟩) (Nat.lt_of_succ_lt Z1.out)).trans g11
  have g22 : w2.cell? ⟨w.heap.size, 2, none⟩ = some (.int .i64 b) := (hb.cell (p := ⟨w.heap.size, 2, none⟩) (Nat.lt_of_succ_lt Z1.out)).trans g12
  have p20 : w2.cell? ⟨w.heap.size + 1, 0, none⟩ = some (.int .i64 P.err) := (hb.cell (p := ⟨w.heap.size + 1, 0, none⟩) Z1.out).trans p10
  have p21 : w2.cell? ⟨w.heap.size + 1, 1, none⟩ = some (.int .i64 P.ino) := (hb.cell (p := ⟨w.heap.size + 1, 1, none⟩) Z1.out).trans p11
  have p22 : w2.cell? ⟨w.heap.size + 1, 2, none⟩ = some (.slice P.F.A P.F.n P.F.c) := (hb.cell (p := ⟨w.heap.size + 1, 2, none⟩) Z1.out).trans p12
  have p23 : w2.cell? ⟨w.heap.size + 1, 3, none⟩ = some (.slice P.L.A P.L.n P.L.c) := (hb.cell (p := ⟨w.heap.size + 1, 3, none⟩) Z1.out).trans p13
  have p24 : w2.cell? ⟨w.heap.size + 1, 4, none⟩ = some (.slice P.R.A P.R.n P.R.c) := (hb.cell (p := ⟨w.heap.size + 1, 4, none⟩) Z1.out).trans p14
  have p25 : w2.cell? ⟨w.heap.size + 1, 5, none⟩ = some (.slice P.D.A P.D.n P.D.c) := (hb.cell (p := ⟨w.heap.size + 1, 5, none⟩) Z1.out).trans p15
  clear hb g10 g11 g12 p10 p11 p12 p13 p14 p15
  go_wp2_with fail
  go_ret2
  exact ⟨rfl, B2.out⟩
theorem linesN_le {p i b : Int} (h : gok p i b = true) : 0 ≤ linesN p i b ∧ linesN p i b ≤ 1300 := by
  have := gok_iff.1 h
  unfold linesN
  omega
theorem mayE_cases (P : PlanD) (l : Int) : mayE P l = 0 ∨ mayE P l = 2 ∨ mayE P l = 5 := by
  unfold mayE
  split
  · exact .inr (.inl rfl)
  · split
    · exact .inr (.inr rfl)
    · exact .inl rfl
theorem may_is (P : PlanD) (l v : Int) (w : World) (hl : 0 ≤ l ∧ l ≤ 100000) (hs : P.small) (hp : PlanAt w P) (hm : mayE P l = v) :
    Calls Try.prog 29 #[.agg #[.int .i64 P.err, .int .i64 P.ino, .slice P.F.A P.F.n P.F.c, .slice P.L.A P.L.n P.L.c, .slice P.R.A P.R.n P.R.c, .slice P.D.A P.D.n P.D.c], .int .i64 l] w fun e w' => e = .returned (.int .i64 v) ∧ Below w.heap.size w w' := by
  subst hm
  exact may_any P l w hl hs hp
set_option maxHeartbeats 4000000 in
set_option maxRecDepth 100000 in
theorem steps_may2 (p i b s : Int) (P : PlanD) (w : World) (h : gok p i b = true) (hs : 0 ≤ s) (hs2 : s < p) (hsm : P.small) (hp : PlanAt w P) (hm : mayE P (linesN p i b) = 2) :
    Calls Try.prog 10 #[.agg #[.int .i64 p, .int .i64 i, .int .i64 b], .int .i64 s, .agg #[.int .i64 P.err, .int .i64 P.ino, .slice P.F.A P.F.n P.F.c, .slice P.L.A P.L.n P.L.c, .slice P.R.A P.R.n P.R.c, .slice P.D.A P.D.n P.D.c]] w fun e w' => e = .returned (.tuple #[.slice none 0 0, .int .i64 2]) ∧ Below w.heap.size w w' := by
  have H := hid h
  have HP := hid hp
  have HM := hid hm
  clear h hp hm
  have b0 := hid (show Below w.heap.size w ((w.alloc (.cells #[.int .i64 p, .int .i64 i, .int .i64 b] 23)).alloc (.cells #[.int .i64 P.err, .int .i64 P.ino, .slice P.F.A P.F.n P.F.c, .slice P.L.A P.L.n P.L.c, .slice P.R.A P.R.n P.R.c, .slice P.D.A P.D.n P.D.c] 28)) from ((Below.refl _ _).alloc (Nat.le_refl _) _).alloc (by simp) _)
  have hsz : w.heap.size + 1 < ((w.alloc (.cells #[.int .i64 p, .int .i64 i, .int .i64 b] 23)).alloc (.cells #[.int .i64 P.err, .int .i64 P.ino, .slice P.F.A P.F.n P.F.c, .slice P.L.A P.L.n P.L.c, .slice P.R.A P.R.n P.R.c, .slice P.D.A P.D.n P.D.c] 28)).heap.size := by simp
  go_enter Try.func10, Try.ntmps10
  go_wp2_with fail
  refine (lines_yes _ _ _ _ H.out).mono ?_
  rintro e w1 ⟨rfl, hb⟩
  have B1 := hid (b0.out.trans (hb.mono b0.out.size))
  have Z1 : Hid (w.heap.size + 1 < w1.heap.size) := Nat.lt_of_lt_of_le hsz hb.size
  have g10 : w1.cell? ⟨w.heap.size, 0, none⟩ = some (.int .i64 p) := (hb.cell (p := ⟨w.heap.size, 0, none⟩) (Nat.lt_of_succ_lt hsz)).trans (by simp)
  have g11 : w1.cell? ⟨w.heap.size, 1, none⟩ = some (.int .i64 i) := (hb.cell (p := ⟨w.heap.size, 1, none⟩) (Nat.lt_of_succ_lt hsz)).trans (by simp)
  have g12 : w1.cell? ⟨w.heap.size, 2, none⟩ = some (.int .i64 b) := (hb.cell (p := ⟨w.heap.size, 2, none⟩) (Nat.lt_of_succ_lt hsz)).trans (by simp)
  have p10 : w1.cell? ⟨w.heap.size + 1, 0, none⟩ = some (.int .i64 P.err) := (hb.cell (p := ⟨w.heap.size + 1, 0, none⟩) hsz).trans (by simp)
  have p11 : w1.cell? ⟨w.heap.size + 1, 1, none⟩ = some (.int .i64 P.ino) := (hb.cell (p := ⟨w.heap.size + 1, 1, none⟩) hsz).trans (by simp)
  have p12 : w1.cell? ⟨w.heap.size + 1, 2, none⟩ = some (.slice P.F.A P.F.n P.F.c) := (hb.cell (p := ⟨w.heap.size + 1, 2, none⟩) hsz).trans (by simp)
  have p13 : w1.cell? ⟨w.heap.size + 1, 3, none⟩ = some (.slice P.L.A P.L.n P.L.c) := (hb.cell (p := ⟨w.heap.size + 1, 3, none⟩) hsz).trans (by simp)
  have p14 : w1.cell? ⟨w.heap.size + 1, 4, none⟩ = some (.slice P.R.A P.R.n P.R.c) := (hb.cell (p := ⟨w.heap.size + 1, 4, none⟩) hsz).trans (by simp)
  have p15 : w1.cell? ⟨w.heap.size + 1, 5, none⟩ = some (.slice P.D.A P.D.n P.D.c) := (hb.cell (p := ⟨w.heap.size + 1, 5, none⟩) hsz).trans (by simp)
  clear hb
  go_wp2_with fail
  refine (slot_yes _ _ _ _ _ H.out hs hs2).mono ?_
  rintro e w2 ⟨rfl, hb⟩
  have B2 := hid (B1.out.trans (hb.mono B1.out.size))
  have Z2 : Hid (w.heap.size + 1 < w2.heap.size) := Nat.lt_of_lt_of_le Z1.out hb.size
  have g20 : w2.cell? ⟨w.heap.size, 0, none⟩ = some (.int .i64 p) := (hb.cell (p := ⟨w.heap.size, 0, none⟩) (Nat.lt_of_succ_lt Z1.out)).trans g10
  have g21 : w2.cell? ⟨w.heap.size, 1, none⟩ = some (.int .i64 i) := (hb.cell (p := ⟨w.heap.size, 1, none⟩) (Nat.lt_of_succ_lt Z1.out)).trans g11
  have g22 : w2.cell? ⟨w.heap.size, 2, none⟩ = some (.int .i64 b) := (hb.cell (p := ⟨w.heap.size, 2, none⟩) (Nat.lt_of_succ_lt Z1.out)).trans g12
  have p20 : w2.cell? ⟨w.heap.size + 1, 0, none⟩ = some (.int .i64 P.err) := (hb.cell (p := ⟨w.heap.size + 1, 0, none⟩) Z1.out).trans p10
  have p21 : w2.cell? ⟨w.heap.size + 1, 1, none⟩ = some (.int .i64 P.ino) := (hb.cell (p := ⟨w.heap.size + 1, 1, none⟩) Z1.out).trans p11
  have p22 : w2.cell? ⟨w.heap.size + 1, 2, none⟩ = some (.slice P.F.A P.F.n P.F.c) := (hb.cell (p := ⟨w.heap.size + 1, 2, none⟩) Z1.out).trans p12
  have p23 : w2.cell? ⟨w.heap.size + 1, 3, none⟩ = some (.slice P.L.A P.L.n P.L.c) := (hb.cell (p := ⟨w.heap.size + 1, 3, none⟩) Z1.out).trans p13
  have p24 : w2.cell? ⟨w.heap.size + 1, 4, none⟩ = some (.slice P.R.A P.R.n P.R.c) := (hb.cell (p := ⟨w.heap.size + 1, 4, none⟩) Z1.out).trans p14
  have p25 : w2.cell? ⟨w.heap.size + 1, 5, none⟩ = some (.slice P.D.A P.D.n P.D.c) := (hb.cell (p := ⟨w.heap.size + 1, 5, none⟩) Z1.out).trans p15
  clear hb g10 g11 g12 p10 p11 p12 p13 p14 p15
  go_wp2_with fail
  refine (may_is P (linesN p i b) _ _ ⟨(linesN_le H.out).1, by have := (linesN_le H.out).2; omega⟩ hsm (HP.out.below B2.out) HM.out).mono ?_
  rintro e w3 ⟨rfl, hb⟩
  have B3 := hid (B2.out.trans (hb.mono B2.out.size))
  have Z3 : Hid (w.heap.size + 1 < w3.heap.size) := Nat.lt_of_lt_of_le Z2.out hb.size
  have p30 : w3.cell? ⟨w.heap.size + 1, 0, none⟩ = some (.int .i64 P.err) := (hb.cell (p := ⟨w.heap.size + 1, 0, none⟩) Z2.out).trans p20
  have p31 : w3.cell? ⟨w.heap.size + 1, 1, none⟩ = some (.int .i64 P.ino) := (hb.cell (p := ⟨w.heap.size + 1, 1, none⟩) Z2.out).trans p21
  have p32 : w3.cell? ⟨w.heap.size + 1, 2, none⟩ = some (.slice P.F.A P.F.n P.F.c) := (hb.cell (p := ⟨w.heap.size + 1, 2, none⟩) Z2.out).trans p22
  have p33 : w3.cell? ⟨w.heap.size + 1, 3, none⟩ = some (.slice P.L.A P.L.n P.L.c) := (hb.cell (p := ⟨w.heap.size + 1, 3, none⟩) Z2.out).trans p23
  have p34 : w3.cell? ⟨w.heap.size + 1, 4, none⟩ = some (.slice P.R.A P.R.n P.R.c) := (hb.cell (p := ⟨w.heap.size + 1, 4, none⟩) Z2.out).trans p24
  have p35 : w3.cell? ⟨w.heap.size + 1, 5, none⟩ = some (.slice P.D.A P.D.n P.D.c) := (hb.cell (p := ⟨w.heap.size + 1, 5, none⟩) Z2.out).trans p25
  clear hb g20 g21 g22 p20 p21 p22 p23 p24 p25
  go_wp2_with fail
  go_ret2
  exact ⟨rfl, B3.out⟩
set_option maxHeartbeats 4000000 in
set_option maxRecDepth 100000 in
theorem steps_may5 (p i b s : Int) (P : PlanD) (w : World) (h : gok p i b = true) (hs : 0 ≤ s) (hs2 : s < p) (hsm : P.small) (hp : PlanAt w P) (hm : mayE P (linesN p i b) = 5) :
    Calls Try.prog 10 #[.agg #[.int .i64 p, .int .i64 i, .int .i64 b], .int .i64 s, .agg #[.int .i64 P.err, .int .i64 P.ino, .slice P.F.A P.F.n P.F.c, .slice P.L.A P.L.n P.L.c, .slice P.R.A P.R.n P.R.c, .slice P.D.A P.D.n P.D.c]] w fun e w' => e = .returned (.tuple #[.slice none 0 0, .int .i64 5]) ∧ Below w.heap.size w w' := by
  have H := hid h
  have HP := hid hp
  have HM := hid hm
  clear h hp hm
  have b0 := hid (show Below w.heap.size w ((w.alloc (.cells #[.int .i64 p, .int .i64 i, .int .i64 b] 23)).alloc (.cells #[.int .i64 P.err, .int .i64 P.ino, .slice P.F.A P.F.n P.F.c, .slice P.L.A P.L.n P.L.c, .slice P.R.A P.R.n P.R.c, .slice P.D.A P.D.n P.D.c] 28)) from ((Below.refl _ _).alloc (Nat.le_refl _) _).alloc (by simp) _)
  have hsz : w.heap.size + 1 < ((w.alloc (.cells #[.int .i64 p, .int .i64 i, .int .i64 b] 23)).alloc (.cells #[.int .i64 P.err, .int .i64 P.ino, .slice P.F.A P.F.n P.F.c, .slice P.L.A P.L.n P.L.c, .slice P.R.A P.R.n P.R.c, .slice P.D.A P.D.n P.D.c] 28)).heap.size := by simp
  go_enter Try.func10, Try.ntmps10
  go_wp2_with fail
  refine (lines_yes _ _ _ _ H.out).mono ?_
  rintro e w1 ⟨rfl, hb⟩
  have B1 := hid (b0.out.trans (hb.mono b0.out.size))
  have Z1 : Hid (w.heap.size + 1 < w1.heap.size) := Nat.lt_of_lt_of_le hsz hb.size
  have g10 : w1.cell? ⟨w.heap.size, 0, none⟩ = some (.int .i64 p) := (hb.cell (p := ⟨w.heap.size, 0, none⟩) (Nat.lt_of_succ_lt hsz)).trans (by simp)
  have g11 : w1.cell? ⟨w.heap.size, 1, none⟩ = some (.int .i64 i) := (hb.cell (p := ⟨w.heap.size, 1, none⟩) (Nat.lt_of_succ_lt hsz)).trans (by simp)
  have g12 : w1.cell? ⟨w.heap.size, 2, none⟩ = some (.int .i64 b) := (hb.cell (p := ⟨w.heap.size, 2, none⟩) (Nat.lt_of_succ_lt hsz)).trans (by simp)
  have p10 : w1.cell? ⟨w.heap.size + 1, 0, none⟩ = some (.int .i64 P.err) := (hb.cell (p := ⟨w.heap.size + 1, 0, none⟩) hsz).trans (by simp)
  have p11 : w1.cell? ⟨w.heap.size + 1, 1, none⟩ = some (.int .i64 P.ino) := (hb.cell (p := ⟨w.heap.size + 1, 1, none⟩) hsz).trans (by simp)
  have p12 : w1.cell? ⟨w.heap.size + 1, 2, none⟩ = some (.slice P.F.A P.F.n P.F.c) := (hb.cell (p := ⟨w.heap.size + 1, 2, none⟩) hsz).trans (by simp)
  have p13 : w1.cell? ⟨w.heap.size + 1, 3, none⟩ = some (.slice P.L.A P.L.n P.L.c) := (hb.cell (p := ⟨w.heap.size + 1, 3, none⟩) hsz).trans (by simp)
  have p14 : w1.cell? ⟨w.heap.size + 1, 4, none⟩ = some (.slice P.R.A P.R.n P.R.c) := (hb.cell (p := ⟨w.heap.size + 1, 4, none⟩) hsz).trans (by simp)
  have p15 : w1.cell? ⟨w.heap.size + 1, 5, none⟩ = some (.slice P.D.A P.D.n P.D.c) := (hb.cell (p := ⟨w.heap.size + 1, 5, none⟩) hsz).trans (by simp)
  clear hb
  go_wp2_with fail
  refine (slot_yes _ _ _ _ _ H.out hs hs2).mono ?_
  rintro e w2 ⟨rfl, hb⟩
  have B2 := hid (B1.out.trans (hb.mono B1.out.size))
  have Z2 : Hid (w.heap.size + 1 < w2.heap.size) := Nat.lt_of_lt_of_le Z1.out hb.size
  have g20 : w2.cell? ⟨w.heap.size, 0, none⟩ = some (.int .i64 p) := (hb.cell (p := ⟨w.heap.size, 0, none⟩) (Nat.lt_of_succ_lt Z1.out)).trans g10
  have g21 : w2.cell? ⟨w.heap.size, 1, none⟩ = some (.int .i64 i) := (hb.cell (p := ⟨w.heap.size, 1, none⟩) (Nat.lt_of_succ_lt Z1.out)).trans g11
  have g22 : w2.cell? ⟨w.heap.size, 2, none⟩ = some (.int .i64 b) := (hb.cell (p := ⟨w.heap.size, 2, none⟩) (Nat.lt_of_succ_lt Z1.out)).trans g12
  have p20 : w2.cell? ⟨w.heap.size + 1, 0, none⟩ = some (.int .i64 P.err) := (hb.cell (p := ⟨w.heap.size + 1, 0, none⟩) Z1.out).trans p10
  have p21 : w2.cell? ⟨w.heap.size + 1, 1, none⟩ = some (.int .i64 P.ino) := (hb.cell (p := ⟨w.heap.size + 1, 1, none⟩) Z1.out).trans p11
  have p22 : w2.cell? ⟨w.heap.size + 1, 2, none⟩ = some (.slice P.F.A P.F.n P.F.c) := (hb.cell (p := ⟨w.heap.size + 1, 2, none⟩) Z1.out).trans p12
  have p23 : w2.cell? ⟨w.heap.size + 1, 3, none⟩ = some (.slice P.L.A P.L.n P.L.c) := (hb.cell (p := ⟨w.heap.size + 1, 3, none⟩) Z1.out).trans p13
  have p24 : w2.cell? ⟨w.heap.size + 1, 4, none⟩ = some (.slice P.R.A P.R.n P.R.c) := (hb.cell (p := ⟨w.heap.size + 1, 4, none⟩) Z1.out).trans p14
  have p25 : w2.cell? ⟨w.heap.size + 1, 5, none⟩ = some (.slice P.D.A P.D.n P.D.c) := (hb.cell (p := ⟨w.heap.size + 1, 5, none⟩) Z1.out).trans p15
  clear hb g10 g11 g12 p10 p11 p12 p13 p14 p15
  go_wp2_with fail
  refine (may_is P (linesN p i b) _ _ ⟨(linesN_le H.out).1, by have := (linesN_le H.out).2; omega⟩ hsm (HP.out.below B2.out) HM.out).mono ?_
  rintro e w3 ⟨rfl, hb⟩
  have B3 := hid (B2.out.trans (hb.mono B2.out.size))
  have Z3 : Hid (w.heap.size + 1 < w3.heap.size) := Nat.lt_of_lt_of_le Z2.out hb.size
  have p30 : w3.cell? ⟨w.heap.size + 1, 0, none⟩ = some (.int .i64 P.err) := (hb.cell (p := ⟨w.heap.size + 1, 0, none⟩) Z2.out).trans p20
  have p31 : w3.cell? ⟨w.heap.size + 1, 1, none⟩ = some (.int .i64 P.ino) := (hb.cell (p := ⟨w.heap.size + 1, 1, none⟩) Z2.out).trans p21
  have p32 : w3.cell? ⟨w.heap.size + 1, 2, none⟩ = some (.slice P.F.A P.F.n P.F.c) := (hb.cell (p := ⟨w.heap.size + 1, 2, none⟩) Z2.out).trans p22
  have p33 : w3.cell? ⟨w.heap.size + 1, 3, none⟩ = some (.slice P.L.A P.L.n P.L.c) := (hb.cell (p := ⟨w.heap.size + 1, 3, none⟩) Z2.out).trans p23
  have p34 : w3.cell? ⟨w.heap.size + 1, 4, none⟩ = some (.slice P.R.A P.R.n P.R.c) := (hb.cell (p := ⟨w.heap.size + 1, 4, none⟩) Z2.out).trans p24
  have p35 : w3.cell? ⟨w.heap.size + 1, 5, none⟩ = some (.slice P.D.A P.D.n P.D.c) := (hb.cell (p := ⟨w.heap.size + 1, 5, none⟩) Z2.out).trans p25
  clear hb g20 g21 g22 p20 p21 p22 p23 p24 p25
  go_wp2_with fail
  go_ret2
  exact ⟨rfl, B3.out⟩
theorem mayE_zero {P : PlanD} {l : Int} (h : mayE P l = 0) : ((∀ k, k < P.F.n → 0 ≤ P.F.f k ∧ P.F.f k < 8 * l) ∧ (∀ k, k < P.R.n → 0 ≤ P.R.f k ∧ P.R.f k < 8 * l) ∧ (∀ k, k < P.D.n → 0 ≤ P.D.f k ∧ P.D.f k < 8 * l) ∧ (∀ k, k < P.L.n → 0 ≤ P.L.f k ∧ P.L.f k < l)) ∧ P.R.n ≤ 64 := by
  unfold mayE at h
  split at h
  · cases h
  · rename_i hn
    split at h
    · cases h
    · rename_i h64
      have hf : farP P l = false := by
        cases hq : farP P l
        · rfl
        · exact absurd (.inr hq) hn
      unfold farP at hf
      simp only [Bool.or_eq_false_iff] at hf
      exact ⟨⟨farB_false.1 hf.1.1.1, farB_false.1 hf.1.1.2, farB_false.1 hf.1.2, farB_false.1 hf.2⟩, by omega⟩
theorem steps0 (w : World) : StepsAt (w.alloc (.cells #[.slice none 0 0] 82)) w.heap.size none [] := ⟨.slice none 0 0, heap_alloc_last w _, ⟨rfl, .inl ⟨rfl, rfl⟩⟩, rfl, by simp⟩
theorem Kept.far {W W' : World} {S : Nat} {R' : Option Nat} (h : Kept W W' S none R') (q : Nat) (hq : R' = some q) {z : Nat} (hz : z ≤ W.heap.size) : z ≤ q := by
  rcases h.2.2.2.2.2 with h | ⟨b, hb, hle⟩
  · rw [h] at hq; cases hq
  · rw [hb] at hq; cases hq; omega
theorem apart_pairs {w : World} {A : Option Addr} {m : Nat} {f g : Nat → Int} {R : Option Nat} (h : PairsAt w A m f g) (h0 : 0 < m) (hR : ∀ q, R = some q → w.heap.size ≤ q) : Apart A w.heap.size R := by
  rcases h with h | ⟨ad, rfl, hlt, -⟩
  · omega
  · intro ad' e
    cases e
    exact ⟨by omega, fun e => by have := hR _ e; omega⟩
theorem apart_ints {w : World} {A : Option Addr} {m : Nat} {f : Nat → Int} {R : Option Nat} (h : IntsAt w A m f) (h0 : 0 < m) (hR : ∀ q, R = some q → w.heap.size ≤ q) : Apart A w.heap.size R := by
  rcases h with h | ⟨ad, rfl, hlt, -⟩
  · omega
  · intro ad' e
    cases e
    exact ⟨by omega, fun e => by have := hR _ e; omega⟩
theorem linesL_len (f : Nat → Int) (m : Nat) : (linesL f m).length ≤ m + 1 := by
  unfold linesL flushL
  split <;> simp <;> omega
theorem redoL_len (a : Int) (f g : Nat → Int) (m : Nat) : (redoL a f g m).length ≤ 4 * m + 10 := by
  unfold redoL
  split
  · simp
  · have h1 := writtenL_len (fun j => a + 8 + j) (fun j => (bodyF f g j : Nat)) (2 * m)
    have h2 := writtenL_len (fun _ => a) (fun _ => (commitN f g m : Nat)) 1
    rw [List.length_append]
    omega
set_option maxHeartbeats 8000000 in
set_option maxRecDepth 100000 in
theorem steps_yes (p i b s : Int) (P : PlanD) (w : World) (h : gok p i b = true) (hs : 0 ≤ s) (hs2 : s < p) (hsm : P.small) (hp : PlanAt w P) (hm : mayE P (linesN p i b) = 0) (hg : ∀ k, k < P.R.n → 0 ≤ P.R.g k) :
    Calls Try.prog 10 #[.agg #[.int .i64 p, .int .i64 i, .int .i64 b], .int .i64 s, .agg #[.int .i64 P.err, .int .i64 P.ino, .slice P.F.A P.F.n P.F.c, .slice P.L.A P.L.n P.L.c, .slice P.R.A P.R.n P.R.c, .slice P.D.A P.D.n P.D.c]] w fun e w' => ∃ v, e = .returned (.tuple #[v, .int .i64 0]) ∧ OpsAt w' v (stepsL (slotAt i s) P) ∧ Below w.heap.size w w' := by
  obtain ⟨hno, h64⟩ := mayE_zero hm
  have H := hid h
  have HP := hid hp
  have HM := hid hm
  have HN := hid hno
  have HG := hid hg
  have Hle := hid (linesN_le h)
  obtain ⟨q1, q2, q3, q4, q5, q6⟩ := gok_iff.1 h
  have Hs1 := hsm.1
  have Hs2 := hsm.2.1
  have Hs3 := hsm.2.2.1
  have Hs4 := hsm.2.2.2
  have Hat : 0 ≤ slotAt i s ∧ slotAt i s ≤ 100000 := by unfold slotAt; omega
  clear h hp hm hno hg
  have b0 := hid (show Below w.heap.size w ((w.alloc (.cells #[.int .i64 p, .int .i64 i, .int .i64 b] 23)).alloc (.cells #[.int .i64 P.err, .int .i64 P.ino, .slice P.F.A P.F.n P.F.c, .slice P.L.A P.L.n P.L.c, .slice P.R.A P.R.n P.R.c, .slice P.D.A P.D.n P.D.c] 28)) from ((Below.refl _ _).alloc (Nat.le_refl _) _).alloc (by simp) _)
  have hsz : w.heap.size + 1 < ((w.alloc (.cells #[.int .i64 p, .int .i64 i, .int .i64 b] 23)).alloc (.cells #[.int .i64 P.err, .int .i64 P.ino, .slice P.F.A P.F.n P.F.c, .slice P.L.A P.L.n P.L.c, .slice P.R.A P.R.n P.R.c, .slice P.D.A P.D.n P.D.c] 28)).heap.size := by simp
  go_enter Try.func10, Try.ntmps10
  go_wp2_with fail
  refine (lines_yes _ _ _ _ H.out).mono ?_
  rintro e w1 ⟨rfl, hb⟩
  have B1 := hid (b0.out.trans (hb.mono b0.out.size))
  have Z1 : Hid (w.heap.size + 1 < w1.heap.size) := Nat.lt_of_lt_of_le hsz hb.size
  have g10 : w1.cell? ⟨w.heap.size, 0, none⟩ = some (.int .i64 p) := (hb.cell (p := ⟨w.heap.size, 0, none⟩) (Nat.lt_of_succ_lt hsz)).trans (by simp)
  have g11 : w1.cell? ⟨w.heap.size, 1, none⟩ = some (.int .i64 i) := (hb.cell (p := ⟨w.heap.size, 1, none⟩) (Nat.lt_of_succ_lt hsz)).trans (by simp)
  have g12 : w1.cell? ⟨w.heap.size, 2, none⟩ = some (.int .i64 b) := (hb.cell (p := ⟨w.heap.size, 2, none⟩) (Nat.lt_of_succ_lt hsz)).trans (by simp)
  have p10 : w1.cell? ⟨w.heap.size + 1, 0, none⟩ = some (.int .i64 P.err) := (hb.cell (p := ⟨w.heap.size + 1, 0, none⟩) hsz).trans (by simp)
  have p11 : w1.cell? ⟨w.heap.size + 1, 1, none⟩ = some (.int .i64 P.ino) := (hb.cell (p := ⟨w.heap.size + 1, 1, none⟩) hsz).trans (by simp)
  have p12 : w1.cell? ⟨w.heap.size + 1, 2, none⟩ = some (.slice P.F.A P.F.n P.F.c) := (hb.cell (p := ⟨w.heap.size + 1, 2, none⟩) hsz).trans (by simp)
  have p13 : w1.cell? ⟨w.heap.size + 1, 3, none⟩ = some (.slice P.L.A P.L.n P.L.c) := (hb.cell (p := ⟨w.heap.size + 1, 3, none⟩) hsz).trans (by simp)
  have p14 : w1.cell? ⟨w.heap.size + 1, 4, none⟩ = some (.slice P.R.A P.R.n P.R.c) := (hb.cell (p := ⟨w.heap.size + 1, 4, none⟩) hsz).trans (by simp)
  have p15 : w1.cell? ⟨w.heap.size + 1, 5, none⟩ = some (.slice P.D.A P.D.n P.D.c) := (hb.cell (p := ⟨w.heap.size + 1, 5, none⟩) hsz).trans (by simp)
  clear hb
  go_wp2_with fail
  refine (slot_yes _ _ _ _ _ H.out hs hs2).mono ?_
  rintro e w2 ⟨rfl, hb⟩
  have B2 := hid (B1.out.trans (hb.mono B1.out.size))
  have Z2 : Hid (w.heap.size + 1 < w2.heap.size) := Nat.lt_of_lt_of_le Z1.out hb.size
  have g20 : w2.cell? ⟨w.heap.size, 0, none⟩ = some (.int .i64 p) := (hb.cell (p := ⟨w.heap.size, 0, none⟩) (Nat.lt_of_succ_lt Z1.out)).trans g10
  have g21 : w2.cell? ⟨w.heap.size, 1, none⟩ = some (.int .i64 i) := (hb.cell (p := ⟨w.heap.size, 1, none⟩) (Nat.lt_of_succ_lt Z1.out)).trans g11
  have g22 : w2.cell? ⟨w.heap.size, 2, none⟩ = some (.int .i64 b) := (hb.cell (p := ⟨w.heap.size, 2, none⟩) (Nat.lt_of_succ_lt Z1.out)).trans g12
  have p20 : w2.cell? ⟨w.heap.size + 1, 0, none⟩ = some (.int .i64 P.err) := (hb.cell (p := ⟨w.heap.size + 1, 0, none⟩) Z1.out).trans p10
  have p21 : w2.cell? ⟨w.heap.size + 1, 1, none⟩ = some (.int .i64 P.ino) := (hb.cell (p := ⟨w.heap.size + 1, 1, none⟩) Z1.out).trans p11
  have p22 : w2.cell? ⟨w.heap.size + 1, 2, none⟩ = some (.slice P.F.A P.F.n P.F.c) := (hb.cell (p := ⟨w.heap.size + 1, 2, none⟩) Z1.out).trans p12
  have p23 : w2.cell? ⟨w.heap.size + 1, 3, none⟩ = some (.slice P.L.A P.L.n P.L.c) := (hb.cell (p := ⟨w.heap.size + 1, 3, none⟩) Z1.out).trans p13
  have p24 : w2.cell? ⟨w.heap.size + 1, 4, none⟩ = some (.slice P.R.A P.R.n P.R.c) := (hb.cell (p := ⟨w.heap.size + 1, 4, none⟩) Z1.out).trans p14
  have p25 : w2.cell? ⟨w.heap.size + 1, 5, none⟩ = some (.slice P.D.A P.D.n P.D.c) := (hb.cell (p := ⟨w.heap.size + 1, 5, none⟩) Z1.out).trans p15
  clear hb g10 g11 g12 p10 p11 p12 p13 p14 p15
  go_wp2_with fail
  refine (may_is P (linesN p i b) _ _ ⟨Hle.out.1, by have := Hle.out.2; omega⟩ hsm (HP.out.below B2.out) HM.out).mono ?_
  rintro e w3 ⟨rfl, hb⟩
  have B3 := hid (B2.out.trans (hb.mono B2.out.size))
  have Z3 : Hid (w.heap.size + 1 < w3.heap.size) := Nat.lt_of_lt_of_le Z2.out hb.size
  have p30 : w3.cell? ⟨w.heap.size + 1, 0, none⟩ = some (.int .i64 P.err) := (hb.cell (p := ⟨w.heap.size + 1, 0, none⟩) Z2.out).trans p20
  have p31 : w3.cell? ⟨w.heap.size + 1, 1, none⟩ = some (.int .i64 P.ino) := (hb.cell (p := ⟨w.heap.size + 1, 1, none⟩) Z2.out).trans p21
  have p32 : w3.cell? ⟨w.heap.size + 1, 2, none⟩ = some (.slice P.F.A P.F.n P.F.c) := (hb.cell (p := ⟨w.heap.size + 1, 2, none⟩) Z2.out).trans p22
  have p33 : w3.cell? ⟨w.heap.size + 1, 3, none⟩ = some (.slice P.L.A P.L.n P.L.c) := (hb.cell (p := ⟨w.heap.size + 1, 3, none⟩) Z2.out).trans p23
  have p34 : w3.cell? ⟨w.heap.size + 1, 4, none⟩ = some (.slice P.R.A P.R.n P.R.c) := (hb.cell (p := ⟨w.heap.size + 1, 4, none⟩) Z2.out).trans p24
  have p35 : w3.cell? ⟨w.heap.size + 1, 5, none⟩ = some (.slice P.D.A P.D.n P.D.c) := (hb.cell (p := ⟨w.heap.size + 1, 5, none⟩) Z2.out).trans p25
  clear hb g20 g21 g22 p20 p21 p22 p23 p24 p25
  have C3 : Hid (w3.cell? ⟨w.heap.size + 1, 2, none⟩ = some (.slice P.F.A P.F.n P.F.c) ∧ w3.cell? ⟨w.heap.size + 1, 3, none⟩ = some (.slice P.L.A P.L.n P.L.c) ∧ w3.cell? ⟨w.heap.size + 1, 4, none⟩ = some (.slice P.R.A P.R.n P.R.c) ∧ w3.cell? ⟨w.heap.size + 1, 5, none⟩ = some (.slice P.D.A P.D.n P.D.c)) := ⟨p32, p33, p34, p35⟩
  have HP3 := hid (HP.out.below B3.out)
  have HS0 := hid (steps0 w3)
  have HA := hid (Below.alloc (Below.refl w3.heap.size w3) (Nat.le_refl _) (.cells #[.slice none 0 0] 82))
  have K0 := hid (Kept.refl (w3.alloc (.cells #[.slice none 0 0] 82)) w3.heap.size none)
  clear p30 p31 p32 p33 p34 p35
  have p32 : (w3.alloc (.cells #[.slice none 0 0] 82)).cell? ⟨w.heap.size + 1, 2, none⟩ = some (.slice P.F.A P.F.n P.F.c) := (HA.out.cell (p := ⟨w.heap.size + 1, 2, none⟩) Z3.out).trans C3.out.1
  go_wp2_with fail
  have n1 := writtenL_len P.F.f P.F.g P.F.n
  have n2 := linesL_len P.L.f P.L.n
  have n3 := redoL_len (slotAt i s) P.R.f P.R.g P.R.n
  have n4 := writtenL_len P.R.f P.R.g P.R.n
  have n5 := writtenL_len (fun _ => slotAt i s) (fun _ => 0) 1
  refine (written_any w3.heap.size none [] P.F.A P.F.n P.F.c P.F.f P.F.g _ HS0.out (pairs_below HP3.out.1 HA.out) (fun h0 => apart_pairs HP3.out.1 h0 (fun q hq => by cases hq)) (by simp; omega) (fun k hk => ⟨(HN.out.1 k hk).1, by have := (HN.out.1 k hk).2; have := Hle.out; omega⟩)).mono ?_
  rintro e w4 ⟨rfl, Rw4, hst, hke⟩
  have Tw4 := hid hst
  have Kw4 := hid (K0.out.trans hke)
  have Bw4 := hid (HA.out.trans ((Kw4.out.below (b := w3.heap.size) (Nat.le_refl _) (fun k hk => by cases hk) (by simp))))
  clear hst hke
  clear p32
  have p43 : w4.cell? ⟨w.heap.size + 1, 3, none⟩ = some (.slice P.L.A P.L.n P.L.c) := (Bw4.out.cell (p := ⟨w.heap.size + 1, 3, none⟩) Z3.out).trans C3.out.2.1
  go_wp2_with fail
  refine (lines_any w3.heap.size Rw4 ([] ++ writtenL P.F.f P.F.g P.F.n) P.L.A P.L.n P.L.c P.L.f _ Tw4.out (ints_below HP3.out.2.1 Bw4.out) (fun h0 => apart_ints HP3.out.2.1 h0 (fun q hq => Kw4.out.far q hq (by simp))) (by (try simp only [List.length_append]); (try simp only [List.length_cons]); (try simp only [List.length_nil]); omega)).mono ?_
  rintro e w5 ⟨rfl, Rw5, hst, hke⟩
  have Tw5 := hid hst
  have Kw5 := hid (Kw4.out.trans hke)
  have Bw5 := hid (HA.out.trans ((Kw5.out.below (b := w3.heap.size) (Nat.le_refl _) (fun k hk => by cases hk) (by simp))))
  clear hst hke
  clear p43
  have p54 : w5.cell? ⟨w.heap.size + 1, 4, none⟩ = some (.slice P.R.A P.R.n P.R.c) := (Bw5.out.cell (p := ⟨w.heap.size + 1, 4, none⟩) Z3.out).trans C3.out.2.2.1
  go_wp2_with fail
  refine (redo_any w3.heap.size Rw5 (([] ++ writtenL P.F.f P.F.g P.F.n) ++ linesL P.L.f P.L.n) (slotAt i s) P.R.A P.R.n P.R.c P.R.f P.R.g _ Tw5.out (pairs_below HP3.out.2.2.1 Bw5.out) Hat h64 (by (try simp only [List.length_append]); (try simp only [List.length_cons]); (try simp only [List.length_nil]); omega) (fun k hk => ⟨(HN.out.2.1 k hk).1, by have := (HN.out.2.1 k hk).2; have := Hle.out; omega⟩) HG.out).mono ?_
  rintro e w6 ⟨rfl, Rw6, hst, hke⟩
  have Tw6 := hid hst
  have Kw6 := hid (Kw5.out.trans hke)
  have Bw6 := hid (HA.out.trans ((Kw6.out.below (b := w3.heap.size) (Nat.le_refl _) (fun k hk => by cases hk) (by simp))))
  clear hst hke
  clear p54
  go_wp2_with fail
  refine (put_any w3.heap.size Rw6 ((([] ++ writtenL P.F.f P.F.g P.F.n) ++ linesL P.L.f P.L.n) ++ redoL (slotAt i s) P.R.f P.R.g P.R.n) ⟨4, 0, 0⟩ _ Tw6.out (by (try simp only [List.length_append]); (try simp only [List.length_cons]); (try simp only [List.length_nil]); omega)).mono ?_
  rintro e w7 ⟨rfl, Rw7, hst, hke⟩
  have Tw7 := hid hst
  have Kw7 := hid (Kw6.out.trans hke)
  have Bw7 := hid (HA.out.trans ((Kw7.out.below (b := w3.heap.size) (Nat.le_refl _) (fun k hk => by cases hk) (by simp))))
  clear hst hke
  have p74 : w7.cell? ⟨w.heap.size + 1, 4, none⟩ = some (.slice P.R.A P.R.n P.R.c) := (Bw7.out.cell (p := ⟨w.heap.size + 1, 4, none⟩) Z3.out).trans C3.out.2.2.1
  by_cases hR0 : P.R.n = 0
  · have hz : ¬ (0 : Int) < (P.R.n : Int) := by omega
    have p75 : w7.cell? ⟨w.heap.size + 1, 5, none⟩ = some (.slice P.D.A P.D.n P.D.c) := (Bw7.out.cell (p := ⟨w.heap.size + 1, 5, none⟩) Z3.out).trans C3.out.2.2.2
    go_wp2_with fail
    refine (stores_any w3.heap.size Rw7 (((([] ++ writtenL P.F.f P.F.g P.F.n) ++ linesL P.L.f P.L.n) ++ redoL (slotAt i s) P.R.f P.R.g P.R.n) ++ [(⟨4, 0, 0⟩ : Op3)]) P.D.A P.D.n P.D.c P.D.f P.D.g _ Tw7.out (pairs_below HP3.out.2.2.2 Bw7.out) (fun h0 => apart_pairs HP3.out.2.2.2 h0 (fun q hq => Kw7.out.far q hq (by simp))) (by (try simp only [List.length_append]); (try simp only [List.length_cons]); (try simp only [List.length_nil]); omega)).mono ?_
    rintro e w9 ⟨rfl, R9, hst, hke⟩
    have T9 := hid hst
    have K9 := hid (Kw7.out.trans hke)
    clear hst hke p75
    obtain ⟨v9, hS9, how9, -, -⟩ := T9.out
    have c9 : w9.cell? ⟨w3.heap.size, 0, none⟩ = some v9 := cell_of_row w9 w3.heap.size 0 #[v9] 82 (0, 0) hS9
    have Ho9 := hid how9
    clear hS9 how9
    go_wp2
    go_ret2
    refine ⟨v9, rfl, ?_, B3.out.trans ((HA.out.trans (K9.out.below (b := w3.heap.size) (Nat.le_refl _) (fun k hk => by cases hk) (by simp))).mono B3.out.size)⟩
    have e := ops_of_own rfl Ho9.out
    unfold stepsL
    rw [if_pos hR0, List.append_nil]
    exact e
  · have hz : (0 : Int) < (P.R.n : Int) := by omega
    go_wp2_with fail
    refine (written_any w3.heap.size Rw7 (((([] ++ writtenL P.F.f P.F.g P.F.n) ++ linesL P.L.f P.L.n) ++ redoL (slotAt i s) P.R.f P.R.g P.R.n) ++ [(⟨4, 0, 0⟩ : Op3)]) P.R.A P.R.n P.R.c P.R.f P.R.g _ Tw7.out (pairs_below HP3.out.2.2.1 Bw7.out) (fun h0 => apart_pairs HP3.out.2.2.1 h0 (fun q hq => Kw7.out.far q hq (by simp))) (by (try simp only [List.length_append]); (try simp only [List.length_cons]); (try simp only [List.length_nil]); omega) (fun k hk => ⟨(HN.out.2.1 k hk).1, by have := (HN.out.2.1 k hk).2; have := Hle.out; omega⟩)).mono ?_
    rintro e w8 ⟨rfl, Rw8, hst, hke⟩
    have Tw8 := hid hst
    have Kw8 := hid (Kw7.out.trans hke)
    have Bw8 := hid (HA.out.trans ((Kw8.out.below (b := w3.heap.size) (Nat.le_refl _) (fun k hk => by cases hk) (by simp))))
    clear hst hke
    clear p74
    have ba := (Below.refl w8.heap.size w8).alloc (Nat.le_refl _) (.cells #[.int .i64 (slotAt i s), .int .u64 0] 71)
    have hSl8 : w3.heap.size < w8.heap.size := by obtain ⟨v0, hS, -⟩ := Tw8.out; exact (Array.getElem?_eq_some_iff.1 hS).1
    have hRl8 : ∀ q, Rw8 = some q → q < w8.heap.size := fun q hq => by obtain ⟨v0, -, ho, hv0, -⟩ := Tw8.out; exact own_lt ho (hv0.trans hq)
    have Hw := hid (written_any w3.heap.size Rw8 ((((([] ++ writtenL P.F.f P.F.g P.F.n) ++ linesL P.L.f P.L.n) ++ redoL (slotAt i s) P.R.f P.R.g P.R.n) ++ [(⟨4, 0, 0⟩ : Op3)]) ++ writtenL P.R.f P.R.g P.R.n) (some ⟨w8.heap.size, 0, none⟩) 1 1 (fun _ => slotAt i s) (fun _ => 0) _ (Tw8.out.below ba) (pairs_one w8 (slotAt i s) 0 71 _ _ rfl rfl) (fun _ ad e => by cases e; exact ⟨fun e2 => by have : w8.heap.size = w3.heap.size := e2; omega, fun e2 => by have := hRl8 _ e2; have h9 : w8.heap.size < w8.heap.size := this; omega⟩) (by (try simp only [List.length_append]); (try simp only [List.length_cons]); (try simp only [List.length_nil]); omega) (fun _ _ => by omega))
    have Ka := hid (Kw8.out.trans (Kept.of_below w3.heap.size Rw8 ba))
    clear ba hRl8
    go_wp2_with fail
    refine (Hw.out).mono ?_
    rintro e wa ⟨rfl, Rwa, hst, hke⟩
    have Twa := hid hst
    have Kwa := hid (Ka.out.trans hke)
    have Bwa := hid (HA.out.trans ((Kwa.out.below (b := w3.heap.size) (Nat.le_refl _) (fun k hk => by cases hk) (by simp))))
    clear hst hke
    have pa5 : wa.cell? ⟨w.heap.size + 1, 5, none⟩ = some (.slice P.D.A P.D.n P.D.c) := (Bwa.out.cell (p := ⟨w.heap.size + 1, 5, none⟩) Z3.out).trans C3.out.2.2.2
    go_wp2_with fail
    refine (stores_any w3.heap.size Rwa (((((([] ++ writtenL P.F.f P.F.g P.F.n) ++ linesL P.L.f P.L.n) ++ redoL (slotAt i s) P.R.f P.R.g P.R.n) ++ [(⟨4, 0, 0⟩ : Op3)]) ++ writtenL P.R.f P.R.g P.R.n) ++ writtenL (fun _ => slotAt i s) (fun _ => 0) 1) P.D.A P.D.n P.D.c P.D.f P.D.g _ Twa.out (pairs_below HP3.out.2.2.2 Bwa.out) (fun h0 => apart_pairs HP3.out.2.2.2 h0 (fun q hq => Kwa.out.far q hq (by simp))) (by (try simp only [List.length_append]); (try simp only [List.length_cons]); (try simp only [List.length_nil]); omega)).mono ?_
    rintro e w9 ⟨rfl, R9, hst, hke⟩
    have T9 := hid hst
    have K9 := hid (Kwa.out.trans hke)
    clear hst hke pa5
    obtain ⟨v9, hS9, how9, -, -⟩ := T9.out
    have c9 : w9.cell? ⟨w3.heap.size, 0, none⟩ = some v9 := cell_of_row w9 w3.heap.size 0 #[v9] 82 (0, 0) hS9
    have Ho9 := hid how9
    clear hS9 how9
    go_wp2
    go_ret2
    refine ⟨v9, rfl, ?_, B3.out.trans ((HA.out.trans (K9.out.below (b := w3.heap.size) (Nat.le_refl _) (fun k hk => by cases hk) (by simp))).mono B3.out.size)⟩
    have e := ops_of_own rfl Ho9.out
    unfold stepsL
    rw [if_neg hR0]
    rw [← List.append_assoc]
    exact e
end Go.Proofs.Ytimfnimcmfjjpaa
