/- ActSteps: the walk. -/
import Derived.Test.YtimfnimcmfjjpaaCopied
namespace Go.Proofs.Ytimfnimcmfjjpaa
open Go.RowKit
theorem steps_err (p i b s : Int) (P : PlanD) (w : World) (v : Int) (hsm : P.small) (hp : PlanAt w P) (hv : errE p i b s P = v) (h0 : v ≠ 0) :
    Calls Try.prog 10 #[.agg #[.int .i64 p, .int .i64 i, .int .i64 b], .int .i64 s, .agg #[.int .i64 P.err, .int .i64 P.ino, .slice P.F.A P.F.n P.F.c, .slice P.L.A P.L.n P.L.c, .slice P.R.A P.R.n P.R.c, .slice P.D.A P.D.n P.D.c]] w fun e w' => e = .returned (.tuple #[.slice none 0 0, .int .i64 v]) ∧ Below w.heap.size w w' := by
  unfold errE at hv
  cases h : gok p i b
  · rw [if_neg (by simp [h])] at hv
    subst hv
    exact steps_geom p i b s P w h
  · by_cases hs : 0 ≤ s ∧ s < p
    · rw [if_pos ⟨h, hs⟩] at hv
      rcases mayE_cases P (linesN p i b) with hm | hm | hm
      · exact absurd (hv.symm.trans hm) h0
      · rw [hm] at hv
        subst hv
        exact steps_may2 p i b s P w h hs.1 hs.2 hsm hp hm
      · rw [hm] at hv
        subst hv
        exact steps_may5 p i b s P w h hs.1 hs.2 hsm hp hm
    · rw [if_neg (fun h1 => hs h1.2)] at hv
      subst hv
      exact steps_slot p i b s P w h (by omega)
theorem steps_ok (p i b s : Int) (P : PlanD) (w : World) (hsm : P.small) (hp : PlanAt w P) (hv : errE p i b s P = 0) (hg : ∀ k, k < P.R.n → 0 ≤ P.R.g k) :
    Calls Try.prog 10 #[.agg #[.int .i64 p, .int .i64 i, .int .i64 b], .int .i64 s, .agg #[.int .i64 P.err, .int .i64 P.ino, .slice P.F.A P.F.n P.F.c, .slice P.L.A P.L.n P.L.c, .slice P.R.A P.R.n P.R.c, .slice P.D.A P.D.n P.D.c]] w fun e w' => ∃ v, e = .returned (.tuple #[v, .int .i64 0]) ∧ OpsAt w' v (stepsL (slotAt i s) P) ∧ Below w.heap.size w w' := by
  obtain ⟨h1, h2, h3, h4⟩ := errE_zero hv
  exact steps_yes p i b s P w h1 h2 h3 hsm hp h4 hg
theorem stepsL_len (a : Int) (P : PlanD) (hs : P.small) : (stepsL a P).length ≤ 100000 := by
  obtain ⟨s1, s2, s3, s4⟩ := hs
  have n1 := writtenL_len P.F.f P.F.g P.F.n
  have n2 := linesL_len P.L.f P.L.n
  have n3 := redoL_len a P.R.f P.R.g P.R.n
  have n4 := writtenL_len P.R.f P.R.g P.R.n
  have n5 := writtenL_len (fun _ => a) (fun _ => 0) 1
  have n6 := storesL_len P.D.f P.D.g P.D.n
  unfold stepsL
  split <;> simp only [List.length_append, List.length_cons, List.length_nil] <;> omega
/-- The words of Redo are words. -/
def PlanD.wf (P : PlanD) : Prop := ∀ k, k < P.R.n → 0 ≤ P.R.g k ∧ P.R.g k < 18446744073709551616
set_option maxHeartbeats 2000000 in
set_option maxRecDepth 100000 in
theorem law_large (p i b s : Int) (P : PlanD) (w : World) (h : largeB p i b P = true) :
    Calls Try.prog 3 #[.agg #[.int .i64 p, .int .i64 i, .int .i64 b], .int .i64 s, .agg #[.int .i64 P.err, .int .i64 P.ino, .slice P.F.A P.F.n P.F.c, .slice P.L.A P.L.n P.L.c, .slice P.R.A P.R.n P.R.c, .slice P.D.A P.D.n P.D.c]] w fun e w' => e = .returned (.bool true) ∧ Below w.heap.size w w' := by
  have H := hid h
  have b0 := hid (show Below w.heap.size w ((w.alloc (.cells #[.int .i64 p, .int .i64 i, .int .i64 b] 23)).alloc (.cells #[.int .i64 P.err, .int .i64 P.ino, .slice P.F.A P.F.n P.F.c, .slice P.L.A P.L.n P.L.c, .slice P.R.A P.R.n P.R.c, .slice P.D.A P.D.n P.D.c] 28)) from ((Below.refl _ _).alloc (Nat.le_refl _) _).alloc (by simp) _)
  clear h
  go_enter Try.func3, Try.ntmps3
  go_wp2_with (first
    | (go_at_call 7; refine (large_any p i b P _ true H.out).mono ?_; rintro e w1 ⟨rfl, hb⟩; have B1 := hid (b0.out.trans (hb.mono b0.out.size)); clear hb)
    | (go_at_call 8; refine (alive_any _).mono ?_; rintro e w2 ⟨rfl, hb⟩; have B2 := hid (B1.out.trans (hb.mono B1.out.size)); clear hb))
  go_ret
  exact ⟨rfl, B2.out⟩
set_option maxHeartbeats 8000000 in
set_option maxRecDepth 100000 in
theorem law_err (p i b s : Int) (P : PlanD) (w : World) (h : largeB p i b P = false) (hp : PlanAt w P) (hw : P.wf) (he : errE p i b s P ≠ 0) :
    Calls Try.prog 3 #[.agg #[.int .i64 p, .int .i64 i, .int .i64 b], .int .i64 s, .agg #[.int .i64 P.err, .int .i64 P.ino, .slice P.F.A P.F.n P.F.c, .slice P.L.A P.L.n P.L.c, .slice P.R.A P.R.n P.R.c, .slice P.D.A P.D.n P.D.c]] w fun e w' => e = .returned (.bool true) ∧ Below w.heap.size w w' := by
  have HE := hid he
  clear he
  have H := hid h
  have HP := hid hp
  have HW := hid hw
  obtain ⟨t1, t2, t3, t4, -⟩ := large_small h
  have hsm : P.small := ⟨by omega, by omega, by omega, by omega⟩
  have Hsm := hid hsm
  have b0 := hid (show Below w.heap.size w ((w.alloc (.cells #[.int .i64 p, .int .i64 i, .int .i64 b] 23)).alloc (.cells #[.int .i64 P.err, .int .i64 P.ino, .slice P.F.A P.F.n P.F.c, .slice P.L.A P.L.n P.L.c, .slice P.R.A P.R.n P.R.c, .slice P.D.A P.D.n P.D.c] 28)) from ((Below.refl _ _).alloc (Nat.le_refl _) _).alloc (by simp) _)
  have hsz : w.heap.size + 1 < ((w.alloc (.cells #[.int .i64 p, .int .i64 i, .int .i64 b] 23)).alloc (.cells #[.int .i64 P.err, .int .i64 P.ino, .slice P.F.A P.F.n P.F.c, .slice P.L.A P.L.n P.L.c, .slice P.R.A P.R.n P.R.c, .slice P.D.A P.D.n P.D.c] 28)).heap.size := by simp
  clear h hp hw hsm
  go_enter Try.func3, Try.ntmps3
  go_wp2_with fail
  refine (large_any p i b P _ false H.out).mono ?_
  rintro e w1 ⟨rfl, hb⟩
  have B1 := hid (b0.out.trans (hb.mono b0.out.size))
  have Z1 : Hid (w.heap.size + 1 < w1.heap.size) := Nat.lt_of_lt_of_le hsz hb.size
  have g10 : w1.cell? ⟨w.heap.size, 0, none⟩ = some (.int .i64 p) := (hb.cell (p := ⟨w.heap.size, 0, none⟩) (Nat.lt_of_succ_lt hsz)).trans (by simp)
  have g11 : w1.cell? ⟨w.heap.size, 1, none⟩ = some (.int .i64 i) := (hb.cell (p := ⟨w.heap.size, 1, none⟩) (Nat.lt_of_succ_lt hsz)).trans (by simp)
  have g12 : w1.cell? ⟨w.heap.size, 2, none⟩ = some (.int .i64 b) := (hb.cell (p := ⟨w.heap.size, 2, none⟩) (Nat.lt_of_succ_lt hsz)).trans (by simp)
  have p10 : w1.cell? ⟨w.heap.size + 1, 0, none⟩ = some (.int .i64 P.err) := (hb.cell (p := ⟨w.heap.size + 1, 0, none⟩) hsz).trans (by simp)
  have p11 : w1.cell? ⟨w.heap.size + 1, 1, none⟩ = some (.int .i64 P.ino) := (hb.cell (p := ⟨w.heap.size + 1, 1, none⟩) hsz).trans (by simp)
  have p12 : w1.cell? ⟨w.heap.size + 1, 2, none⟩ = some (.slice P.F.A P.F.n P.F.c) := (hb.cell (p := ⟨w.heap.size + 1, 2, none⟩) hsz).trans (by simp)
  have p13 : w1.cell? ⟨w.heap.size + 1, 3, none⟩ = some (.slice P.L.A P.L.n P.L.c) := (hb.cell (p := ⟨w.heap.size + 1, 3, none⟩) hsz).trans (by simp)
  have p14 : w1.cell? ⟨w.heap.size + 1, 4, none⟩ = some (.slice P.R.A P.R.n P.R.c) := (hb.cell (p := ⟨w.heap.size + 1, 4, none⟩) hsz).trans (by simp)
  have p15 : w1.cell? ⟨w.heap.size + 1, 5, none⟩ = some (.slice P.D.A P.D.n P.D.c) := (hb.cell (p := ⟨w.heap.size + 1, 5, none⟩) hsz).trans (by simp)
  clear hb
  go_wp2_with fail
  refine (copied_any P _ Hsm.out (HP.out.below B1.out)).mono ?_
  rintro e w2 ⟨P2, rfl, hsame, hp2, hb⟩
  obtain ⟨er, no, ⟨AF, nF, cF, fF, gF⟩, ⟨AL, nL, cL, fL, gL⟩, ⟨AR, nR, cR, fR, gR⟩, ⟨AD, nD, cD, fD, gD⟩⟩ := P2
  obtain ⟨e1, e2, ⟨e3, e4, e5⟩, ⟨e6, e7⟩, ⟨e8, e9, e10⟩, ⟨e11, e12, e13⟩⟩ := hsame
  dsimp only at e1 e2 e3 e4 e5 e6 e7 e8 e9 e10 e11 e12 e13
  subst e1 e2 e3 e4 e5 e6 e7 e8 e9 e10 e11 e12 e13
  have HP2 := hid hp2
  have B2 := hid (B1.out.trans (hb.mono B1.out.size))
  have Z2 : Hid (w.heap.size + 1 < w2.heap.size) := Nat.lt_of_lt_of_le Z1.out hb.size
  have g20 : w2.cell? ⟨w.heap.size, 0, none⟩ = some (.int .i64 p) := (hb.cell (p := ⟨w.heap.size, 0, none⟩) (Nat.lt_of_succ_lt Z1.out)).trans g10
  have g21 : w2.cell? ⟨w.heap.size, 1, none⟩ = some (.int .i64 i) := (hb.cell (p := ⟨w.heap.size, 1, none⟩) (Nat.lt_of_succ_lt Z1.out)).trans g11
  have g22 : w2.cell? ⟨w.heap.size, 2, none⟩ = some (.int .i64 b) := (hb.cell (p := ⟨w.heap.size, 2, none⟩) (Nat.lt_of_succ_lt Z1.out)).trans g12
  have p20 : w2.cell? ⟨w.heap.size + 1, 0, none⟩ = some (.int .i64 P.err) := (hb.cell (p := ⟨w.heap.size + 1, 0, none⟩) Z1.out).trans p10
  have p21 : w2.cell? ⟨w.heap.size + 1, 1, none⟩ = some (.int .i64 P.ino) := (hb.cell (p := ⟨w.heap.size + 1, 1, none⟩) Z1.out).trans p11
  have p22 : w2.cell? ⟨w.heap.size + 1, 2, none⟩ = some (.slice P.F.A P.F.n P.F.c) := (hb.cell (p := ⟨w.heap.size + 1, 2, none⟩) Z1.out).trans p12
  have p23 : w2.cell? ⟨w.heap.size + 1, 3, none⟩ = some (.slice P.L.A P.L.n P.L.c) := (hb.cell (p := ⟨w.heap.size + 1, 3, none⟩) Z1.out).trans p13
  have p24 : w2.cell? ⟨w.heap.size + 1, 4, none⟩ = some (.slice P.R.A P.R.n P.R.c) := (hb.cell (p := ⟨w.heap.size + 1, 4, none⟩) Z1.out).trans p14
  have p25 : w2.cell? ⟨w.heap.size + 1, 5, none⟩ = some (.slice P.D.A P.D.n P.D.c) := (hb.cell (p := ⟨w.heap.size + 1, 5, none⟩) Z1.out).trans p15
  clear hb hp2 g10 g11 g12 p10 p11 p12 p13 p14 p15
  have ba := hid ((Below.refl w2.heap.size w2).alloc (Nat.le_refl _) (.cells #[.int .i64 P.err, .int .i64 P.ino, .slice AF P.F.n cF, .slice AL P.L.n cL, .slice AR P.R.n cR, .slice AD P.D.n cD] 28))
  have za := hid (show w2.heap.size < (w2.alloc (.cells #[.int .i64 P.err, .int .i64 P.ino, .slice AF P.F.n cF, .slice AL P.L.n cL, .slice AR P.R.n cR, .slice AD P.D.n cD] 28)).heap.size by simp)
  have HPa := hid (HP2.out.below ba.out)
  have Ba := hid (B2.out.alloc B2.out.size (.cells #[.int .i64 P.err, .int .i64 P.ino, .slice AF P.F.n cF, .slice AL P.L.n cL, .slice AR P.R.n cR, .slice AD P.D.n cD] 28))
  have Za : Hid (w.heap.size + 1 < (w2.alloc (.cells #[.int .i64 P.err, .int .i64 P.ino, .slice AF P.F.n cF, .slice AL P.L.n cL, .slice AR P.R.n cR, .slice AD P.D.n cD] 28)).heap.size) := Nat.lt_trans Z2.out za.out
  have ga0 : (w2.alloc (.cells #[.int .i64 P.err, .int .i64 P.ino, .slice AF P.F.n cF, .slice AL P.L.n cL, .slice AR P.R.n cR, .slice AD P.D.n cD] 28)).cell? ⟨w.heap.size, 0, none⟩ = some (.int .i64 p) := (ba.out.cell (p := ⟨w.heap.size, 0, none⟩) (Nat.lt_of_succ_lt Z2.out)).trans g20
  have ga1 : (w2.alloc (.cells #[.int .i64 P.err, .int .i64 P.ino, .slice AF P.F.n cF, .slice AL P.L.n cL, .slice AR P.R.n cR, .slice AD P.D.n cD] 28)).cell? ⟨w.heap.size, 1, none⟩ = some (.int .i64 i) := (ba.out.cell (p := ⟨w.heap.size, 1, none⟩) (Nat.lt_of_succ_lt Z2.out)).trans g21
  have ga2 : (w2.alloc (.cells #[.int .i64 P.err, .int .i64 P.ino, .slice AF P.F.n cF, .slice AL P.L.n cL, .slice AR P.R.n cR, .slice AD P.D.n cD] 28)).cell? ⟨w.heap.size, 2, none⟩ = some (.int .i64 b) := (ba.out.cell (p := ⟨w.heap.size, 2, none⟩) (Nat.lt_of_succ_lt Z2.out)).trans g22
  have pa0 : (w2.alloc (.cells #[.int .i64 P.err, .int .i64 P.ino, .slice AF P.F.n cF, .slice AL P.L.n cL, .slice AR P.R.n cR, .slice AD P.D.n cD] 28)).cell? ⟨w.heap.size + 1, 0, none⟩ = some (.int .i64 P.err) := (ba.out.cell (p := ⟨w.heap.size + 1, 0, none⟩) Z2.out).trans p20
  have pa1 : (w2.alloc (.cells #[.int .i64 P.err, .int .i64 P.ino, .slice AF P.F.n cF, .slice AL P.L.n cL, .slice AR P.R.n cR, .slice AD P.D.n cD] 28)).cell? ⟨w.heap.size + 1, 1, none⟩ = some (.int .i64 P.ino) := (ba.out.cell (p := ⟨w.heap.size + 1, 1, none⟩) Z2.out).trans p21
  have pa2 : (w2.alloc (.cells #[.int .i64 P.err, .int .i64 P.ino, .slice AF P.F.n cF, .slice AL P.L.n cL, .slice AR P.R.n cR, .slice AD P.D.n cD] 28)).cell? ⟨w.heap.size + 1, 2, none⟩ = some (.slice P.F.A P.F.n P.F.c) := (ba.out.cell (p := ⟨w.heap.size + 1, 2, none⟩) Z2.out).trans p22
  have pa3 : (w2.alloc (.cells #[.int .i64 P.err, .int .i64 P.ino, .slice AF P.F.n cF, .slice AL P.L.n cL, .slice AR P.R.n cR, .slice AD P.D.n cD] 28)).cell? ⟨w.heap.size + 1, 3, none⟩ = some (.slice P.L.A P.L.n P.L.c) := (ba.out.cell (p := ⟨w.heap.size + 1, 3, none⟩) Z2.out).trans p23
  have pa4 : (w2.alloc (.cells #[.int .i64 P.err, .int .i64 P.ino, .slice AF P.F.n cF, .slice AL P.L.n cL, .slice AR P.R.n cR, .slice AD P.D.n cD] 28)).cell? ⟨w.heap.size + 1, 4, none⟩ = some (.slice P.R.A P.R.n P.R.c) := (ba.out.cell (p := ⟨w.heap.size + 1, 4, none⟩) Z2.out).trans p24
  have pa5 : (w2.alloc (.cells #[.int .i64 P.err, .int .i64 P.ino, .slice AF P.F.n cF, .slice AL P.L.n cL, .slice AR P.R.n cR, .slice AD P.D.n cD] 28)).cell? ⟨w.heap.size + 1, 5, none⟩ = some (.slice P.D.A P.D.n P.D.c) := (ba.out.cell (p := ⟨w.heap.size + 1, 5, none⟩) Z2.out).trans p25
  clear g20 g21 g22 p20 p21 p22 p23 p24 p25
  go_wp2_with fail
  refine (steps_err p i b s ⟨P.err, P.ino, ⟨AF, P.F.n, cF, P.F.f, P.F.g⟩, ⟨AL, P.L.n, cL, P.L.f, gL⟩, ⟨AR, P.R.n, cR, P.R.f, P.R.g⟩, ⟨AD, P.D.n, cD, P.D.f, P.D.g⟩⟩ _ (errE p i b s P) Hsm.out HPa.out rfl HE.out).mono ?_
  rintro e w3 ⟨rfl, hb⟩
  have B3 := hid (Ba.out.trans (hb.mono Ba.out.size))
  have Z3 : Hid (w.heap.size + 1 < w3.heap.size) := Nat.lt_of_lt_of_le Za.out hb.size
  have Y3 : Hid (w2.heap.size < w3.heap.size) := Nat.lt_of_lt_of_le za.out hb.size
  have HP3 := hid (HPa.out.below hb)
  have g30 : w3.cell? ⟨w.heap.size, 0, none⟩ = some (.int .i64 p) := (hb.cell (p := ⟨w.heap.size, 0, none⟩) (Nat.lt_of_succ_lt Za.out)).trans ga0
  have g31 : w3.cell? ⟨w.heap.size, 1, none⟩ = some (.int .i64 i) := (hb.cell (p := ⟨w.heap.size, 1, none⟩) (Nat.lt_of_succ_lt Za.out)).trans ga1
  have g32 : w3.cell? ⟨w.heap.size, 2, none⟩ = some (.int .i64 b) := (hb.cell (p := ⟨w.heap.size, 2, none⟩) (Nat.lt_of_succ_lt Za.out)).trans ga2
  have p30 : w3.cell? ⟨w.heap.size + 1, 0, none⟩ = some (.int .i64 P.err) := (hb.cell (p := ⟨w.heap.size + 1, 0, none⟩) Za.out).trans pa0
  have p31 : w3.cell? ⟨w.heap.size + 1, 1, none⟩ = some (.int .i64 P.ino) := (hb.cell (p := ⟨w.heap.size + 1, 1, none⟩) Za.out).trans pa1
  have p32 : w3.cell? ⟨w.heap.size + 1, 2, none⟩ = some (.slice P.F.A P.F.n P.F.c) := (hb.cell (p := ⟨w.heap.size + 1, 2, none⟩) Za.out).trans pa2
  have p33 : w3.cell? ⟨w.heap.size + 1, 3, none⟩ = some (.slice P.L.A P.L.n P.L.c) := (hb.cell (p := ⟨w.heap.size + 1, 3, none⟩) Za.out).trans pa3
  have p34 : w3.cell? ⟨w.heap.size + 1, 4, none⟩ = some (.slice P.R.A P.R.n P.R.c) := (hb.cell (p := ⟨w.heap.size + 1, 4, none⟩) Za.out).trans pa4
  have p35 : w3.cell? ⟨w.heap.size + 1, 5, none⟩ = some (.slice P.D.A P.D.n P.D.c) := (hb.cell (p := ⟨w.heap.size + 1, 5, none⟩) Za.out).trans pa5
  have o30 : w3.cell? ⟨w2.heap.size, 0, none⟩ = some (.int .i64 P.err) := (hb.cell (p := ⟨w2.heap.size, 0, none⟩) za.out).trans (by simp)
  have o31 : w3.cell? ⟨w2.heap.size, 1, none⟩ = some (.int .i64 P.ino) := (hb.cell (p := ⟨w2.heap.size, 1, none⟩) za.out).trans (by simp)
  have o32 : w3.cell? ⟨w2.heap.size, 2, none⟩ = some (.slice AF P.F.n cF) := (hb.cell (p := ⟨w2.heap.size, 2, none⟩) za.out).trans (by simp)
  have o33 : w3.cell? ⟨w2.heap.size, 3, none⟩ = some (.slice AL P.L.n cL) := (hb.cell (p := ⟨w2.heap.size, 3, none⟩) za.out).trans (by simp)
  have o34 : w3.cell? ⟨w2.heap.size, 4, none⟩ = some (.slice AR P.R.n cR) := (hb.cell (p := ⟨w2.heap.size, 4, none⟩) za.out).trans (by simp)
  have o35 : w3.cell? ⟨w2.heap.size, 5, none⟩ = some (.slice AD P.D.n cD) := (hb.cell (p := ⟨w2.heap.size, 5, none⟩) za.out).trans (by simp)
  clear hb ga0 ga1 ga2 pa0 pa1 pa2 pa3 pa4 pa5
  go_wp2_with fail
  refine (rsteps_no p i b s P _ (errE p i b s P) Hsm.out (HP.out.below B3.out) rfl (by rw [beq_eq_false_iff_ne]; exact HE.out)).mono ?_
  rintro e w4 ⟨rfl, hb⟩
  have B4 := hid (B3.out.trans (hb.mono B3.out.size))
  have Z4 : Hid (w.heap.size + 1 < w4.heap.size) := Nat.lt_of_lt_of_le Z3.out hb.size
  have Y4 : Hid (w2.heap.size < w4.heap.size) := Nat.lt_of_lt_of_le Y3.out hb.size
  have HP4 := hid (HP3.out.below hb)
  have p40 : w4.cell? ⟨w.heap.size + 1, 0, none⟩ = some (.int .i64 P.err) := (hb.cell (p := ⟨w.heap.size + 1, 0, none⟩) Z3.out).trans p30
  have p41 : w4.cell? ⟨w.heap.size + 1, 1, none⟩ = some (.int .i64 P.ino) := (hb.cell (p := ⟨w.heap.size + 1, 1, none⟩) Z3.out).trans p31
  have p42 : w4.cell? ⟨w.heap.size + 1, 2, none⟩ = some (.slice P.F.A P.F.n P.F.c) := (hb.cell (p := ⟨w.heap.size + 1, 2, none⟩) Z3.out).trans p32
  have p43 : w4.cell? ⟨w.heap.size + 1, 3, none⟩ = some (.slice P.L.A P.L.n P.L.c) := (hb.cell (p := ⟨w.heap.size + 1, 3, none⟩) Z3.out).trans p33
  have p44 : w4.cell? ⟨w.heap.size + 1, 4, none⟩ = some (.slice P.R.A P.R.n P.R.c) := (hb.cell (p := ⟨w.heap.size + 1, 4, none⟩) Z3.out).trans p34
  have p45 : w4.cell? ⟨w.heap.size + 1, 5, none⟩ = some (.slice P.D.A P.D.n P.D.c) := (hb.cell (p := ⟨w.heap.size + 1, 5, none⟩) Z3.out).trans p35
  have o40 : w4.cell? ⟨w2.heap.size, 0, none⟩ = some (.int .i64 P.err) := (hb.cell (p := ⟨w2.heap.size, 0, none⟩) Y3.out).trans o30
  have o41 : w4.cell? ⟨w2.heap.size, 1, none⟩ = some (.int .i64 P.ino) := (hb.cell (p := ⟨w2.heap.size, 1, none⟩) Y3.out).trans o31
  have o42 : w4.cell? ⟨w2.heap.size, 2, none⟩ = some (.slice AF P.F.n cF) := (hb.cell (p := ⟨w2.heap.size, 2, none⟩) Y3.out).trans o32
  have o43 : w4.cell? ⟨w2.heap.size, 3, none⟩ = some (.slice AL P.L.n cL) := (hb.cell (p := ⟨w2.heap.size, 3, none⟩) Y3.out).trans o33
  have o44 : w4.cell? ⟨w2.heap.size, 4, none⟩ = some (.slice AR P.R.n cR) := (hb.cell (p := ⟨w2.heap.size, 4, none⟩) Y3.out).trans o34
  have o45 : w4.cell? ⟨w2.heap.size, 5, none⟩ = some (.slice AD P.D.n cD) := (hb.cell (p := ⟨w2.heap.size, 5, none⟩) Y3.out).trans o35
  clear hb g30 g31 g32 p30 p31 p32 p33 p34 p35 o30 o31 o32 o33 o34 o35
  go_wp2_with fail
  refine (same_ops (.slice none 0 0) (.slice none 0 0) [] _ (by simp) ⟨none, 0, rfl, .inl rfl⟩ ⟨none, 0, rfl, .inl rfl⟩).mono ?_
  rintro e w5 ⟨rfl, hb⟩
  have B5 := hid (B4.out.trans (hb.mono B4.out.size))
  have Z5 : Hid (w.heap.size + 1 < w5.heap.size) := Nat.lt_of_lt_of_le Z4.out hb.size
  have Y5 : Hid (w2.heap.size < w5.heap.size) := Nat.lt_of_lt_of_le Y4.out hb.size
  have HP5 := hid (HP4.out.below hb)
  have CP5 : Hid (w5.cell? ⟨w.heap.size + 1, 2, none⟩ = some (.slice P.F.A P.F.n P.F.c) ∧ w5.cell? ⟨w.heap.size + 1, 3, none⟩ = some (.slice P.L.A P.L.n P.L.c) ∧ w5.cell? ⟨w.heap.size + 1, 4, none⟩ = some (.slice P.R.A P.R.n P.R.c) ∧ w5.cell? ⟨w.heap.size + 1, 5, none⟩ = some (.slice P.D.A P.D.n P.D.c)) := ⟨(hb.cell (p := ⟨w.heap.size + 1, 2, none⟩) Z4.out).trans p42, (hb.cell (p := ⟨w.heap.size + 1, 3, none⟩) Z4.out).trans p43, (hb.cell (p := ⟨w.heap.size + 1, 4, none⟩) Z4.out).trans p44, (hb.cell (p := ⟨w.heap.size + 1, 5, none⟩) Z4.out).trans p45⟩
  have CO5 : Hid (w5.cell? ⟨w2.heap.size, 2, none⟩ = some (.slice AF P.F.n cF) ∧ w5.cell? ⟨w2.heap.size, 3, none⟩ = some (.slice AL P.L.n cL) ∧ w5.cell? ⟨w2.heap.size, 4, none⟩ = some (.slice AR P.R.n cR) ∧ w5.cell? ⟨w2.heap.size, 5, none⟩ = some (.slice AD P.D.n cD)) := ⟨(hb.cell (p := ⟨w2.heap.size, 2, none⟩) Y4.out).trans o42, (hb.cell (p := ⟨w2.heap.size, 3, none⟩) Y4.out).trans o43, (hb.cell (p := ⟨w2.heap.size, 4, none⟩) Y4.out).trans o44, (hb.cell (p := ⟨w2.heap.size, 5, none⟩) Y4.out).trans o45⟩
  clear hb p40 p41 p42 p43 p44 p45 o40 o41 o42 o43 o44 o45
  go_wp2_with fail
  go_loopw [12] (fun j wr => ∃ k : Nat, k ≤ P.L.n ∧ j = .int .i64 k ∧ Below w5.heap.size w5 wr) (fun j _ => P.L.n - (intOf j).toNat)
  case atStart => exact ⟨0, by omega, rfl, Below.refl _ _⟩
  case round =>
    obtain ⟨k, hk, rfl, hb⟩ := hrel
    have Hb := hid hb
    clear hb
    have c3 := (Hb.out.cell (p := ⟨w.heap.size + 1, 3, none⟩) Z5.out).trans CP5.out.2.1
    have d3 := (Hb.out.cell (p := ⟨w2.heap.size, 3, none⟩) Y5.out).trans CO5.out.2.1
    by_cases hlt : k < P.L.n
    · have hlt' : (k : Int) < (P.L.n : Int) := by omega
      have h0k : (0 : Int) ≤ (k : Int) := by omega
      obtain ⟨ad, hA, hadl, hc⟩ : ∃ ad, P.L.A = some ad ∧ ad.block < wr.heap.size ∧ ∀ k, k < P.L.n → wr.cell? (ad.add k) = some (.int .i64 (P.L.f k)) := by
        rcases ints_below (HP.out.below B5.out).2.1 Hb.out with h0 | h1
        · omega
        · exact h1
      obtain ⟨bd, hB, hbdl, hd⟩ : ∃ ad, AL = some ad ∧ ad.block < wr.heap.size ∧ ∀ k, k < P.L.n → wr.cell? (ad.add k) = some (.int .i64 (P.L.f k)) := by
        rcases ints_below HP5.out.2.1 Hb.out with h0 | h1
        · exact absurd h0 (by show ¬ P.L.n = 0; omega)
        · exact h1
      have k0 := hc k hlt
      have k1 := hd k hlt
      rw [hA] at c3
      rw [hB] at d3
      clear hc hd hA hB
      go_wp2
      go_quiet (fail)
      go_wp2
      go_roundw
      case rel => exact ⟨k + 1, by omega, by go_num, below_drewN Hb.out _⟩
      case measure => simp [intOf]; omega
    · have c2 := (Hb.out.cell (p := ⟨w.heap.size + 1, 2, none⟩) Z5.out).trans CP5.out.1
      have d2 := (Hb.out.cell (p := ⟨w2.heap.size, 2, none⟩) Y5.out).trans CO5.out.1
      have B6 := hid (B5.out.trans (Hb.out.mono B5.out.size))
      have HP6 := hid (HP5.out.below Hb.out)
      go_wp2_with fail
      refine (same_redo AF P.F.A P.F.n cF P.F.c P.F.f P.F.g _ (by omega) HP6.out.1 (HP.out.below B6.out).1).mono ?_
      rintro e w7 ⟨rfl, hb⟩
      have B7 := hid (B6.out.trans (hb.mono B6.out.size))
      have HP7 := hid (HP6.out.below hb)
      have Hb7 := hid (Hb.out.trans (hb.mono Hb.out.size))
      clear hb
      clear c2 d2 c3 d3
      have c7 := (Hb7.out.cell (p := ⟨w.heap.size + 1, 4, none⟩) Z5.out).trans CP5.out.2.2.1
      have d7 := (Hb7.out.cell (p := ⟨w2.heap.size, 4, none⟩) Y5.out).trans CO5.out.2.2.1
      go_wp2_with fail
      refine (same_redo AR P.R.A P.R.n cR P.R.c P.R.f P.R.g _ (by omega) HP7.out.2.2.1 (HP.out.below B7.out).2.2.1).mono ?_
      rintro e w8 ⟨rfl, hb⟩
      have B8 := hid (B7.out.trans (hb.mono B7.out.size))
      have HP8 := hid (HP7.out.below hb)
      have Hb8 := hid (Hb7.out.trans (hb.mono Hb7.out.size))
      clear hb
      clear c7 d7
      have c8 := (Hb8.out.cell (p := ⟨w.heap.size + 1, 5, none⟩) Z5.out).trans CP5.out.2.2.2
      have d8 := (Hb8.out.cell (p := ⟨w2.heap.size, 5, none⟩) Y5.out).trans CO5.out.2.2.2
      go_wp2_with fail
      refine (same_redo AD P.D.A P.D.n cD P.D.c P.D.f P.D.g _ (by omega) HP8.out.2.2.2 (HP.out.below B8.out).2.2.2).mono ?_
      rintro e w9 ⟨rfl, hb⟩
      have B9 := hid (B8.out.trans (hb.mono B8.out.size))
      have HP9 := hid (HP8.out.below hb)
      have Hb9 := hid (Hb8.out.trans (hb.mono Hb8.out.size))
      clear hb
      clear c8 d8
      go_wp2_with fail
      refine (alive_any _).mono ?_
      rintro e wf ⟨rfl, hb⟩
      have Bf := hid (B9.out.trans (hb.mono B9.out.size))
      clear hb
      go_wp2
      go_ret
      exact ⟨rfl, Bf.out⟩
set_option maxHeartbeats 8000000 in
set_option maxRecDepth 100000 in
theorem law_ok (p i b s : Int) (P : PlanD) (w : World) (h : largeB p i b P = false) (hp : PlanAt w P) (hw : P.wf) (he : errE p i b s P = 0) :
    Calls Try.prog 3 #[.agg #[.int .i64 p, .int .i64 i, .int .i64 b], .int .i64 s, .agg #[.int .i64 P.err, .int .i64 P.ino, .slice P.F.A P.F.n P.F.c, .slice P.L.A P.L.n P.L.c, .slice P.R.A P.R.n P.R.c, .slice P.D.A P.D.n P.D.c]] w fun e w' => e = .returned (.bool true) ∧ Below w.heap.size w w' := by
  have HE := hid he
  clear he
  have H := hid h
  have HP := hid hp
  have HW := hid hw
  obtain ⟨t1, t2, t3, t4, -⟩ := large_small h
  have hsm : P.small := ⟨by omega, by omega, by omega, by omega⟩
  have Hsm := hid hsm
  have b0 := hid (show Below w.heap.size w ((w.alloc (.cells #[.int .i64 p, .int .i64 i, .int .i64 b] 23)).alloc (.cells #[.int .i64 P.err, .int .i64 P.ino, .slice P.F.A P.F.n P.F.c, .slice P.L.A P.L.n P.L.c, .slice P.R.A P.R.n P.R.c, .slice P.D.A P.D.n P.D.c] 28)) from ((Below.refl _ _).alloc (Nat.le_refl _) _).alloc (by simp) _)
  have hsz : w.heap.size + 1 < ((w.alloc (.cells #[.int .i64 p, .int .i64 i, .int .i64 b] 23)).alloc (.cells #[.int .i64 P.err, .int .i64 P.ino, .slice P.F.A P.F.n P.F.c, .slice P.L.A P.L.n P.L.c, .slice P.R.A P.R.n P.R.c, .slice P.D.A P.D.n P.D.c] 28)).heap.size := by simp
  clear h hp hw hsm
  go_enter Try.func3, Try.ntmps3
  go_wp2_with fail
  refine (large_any p i b P _ false H.out).mono ?_
  rintro e w1 ⟨rfl, hb⟩
  have B1 := hid (b0.out.trans (hb.mono b0.out.size))
  have Z1 : Hid (w.heap.size + 1 < w1.heap.size) := Nat.lt_of_lt_of_le hsz hb.size
  have g10 : w1.cell? ⟨w.heap.size, 0, none⟩ = some (.int .i64 p) := (hb.cell (p := ⟨w.heap.size, 0, none⟩) (Nat.lt_of_succ_lt hsz)).trans (by simp)
  have g11 : w1.cell? ⟨w.heap.size, 1, none⟩ = some (.int .i64 i) := (hb.cell (p := ⟨w.heap.size, 1, none⟩) (Nat.lt_of_succ_lt hsz)).trans (by simp)
  have g12 : w1.cell? ⟨w.heap.size, 2, none⟩ = some (.int .i64 b) := (hb.cell (p := ⟨w.heap.size, 2, none⟩) (Nat.lt_of_succ_lt hsz)).trans (by simp)
  have p10 : w1.cell? ⟨w.heap.size + 1, 0, none⟩ = some (.int .i64 P.err) := (hb.cell (p := ⟨w.heap.size + 1, 0, none⟩) hsz).trans (by simp)
  have p11 : w1.cell? ⟨w.heap.size + 1, 1, none⟩ = some (.int .i64 P.ino) := (hb.cell (p := ⟨w.heap.size + 1, 1, none⟩) hsz).trans (by simp)
  have p12 : w1.cell? ⟨w.heap.size + 1, 2, none⟩ = some (.slice P.F.A P.F.n P.F.c) := (hb.cell (p := ⟨w.heap.size + 1, 2, none⟩) hsz).trans (by simp)
  have p13 : w1.cell? ⟨w.heap.size + 1, 3, none⟩ = some (.slice P.L.A P.L.n P.L.c) := (hb.cell (p := ⟨w.heap.size + 1, 3, none⟩) hsz).trans (by simp)
  have p14 : w1.cell? ⟨w.heap.size + 1, 4, none⟩ = some (.slice P.R.A P.R.n P.R.c) := (hb.cell (p := ⟨w.heap.size + 1, 4, none⟩) hsz).trans (by simp)
  have p15 : w1.cell? ⟨w.heap.size + 1, 5, none⟩ = some (.slice P.D.A P.D.n P.D.c) := (hb.cell (p := ⟨w.heap.size + 1, 5, none⟩) hsz).trans (by simp)
  clear hb
  go_wp2_with fail
  refine (copied_any P _ Hsm.out (HP.out.below B1.out)).mono ?_
  rintro e w2 ⟨P2, rfl, hsame, hp2, hb⟩
  obtain ⟨er, no, ⟨AF, nF, cF, fF, gF⟩, ⟨AL, nL, cL, fL, gL⟩, ⟨AR, nR, cR, fR, gR⟩, ⟨AD, nD, cD, fD, gD⟩⟩ := P2
  obtain ⟨e1, e2, ⟨e3, e4, e5⟩, ⟨e6, e7⟩, ⟨e8, e9, e10⟩, ⟨e11, e12, e13⟩⟩ := hsame
  dsimp only at e1 e2 e3 e4 e5 e6 e7 e8 e9 e10 e11 e12 e13
  subst e1 e2 e3 e4 e5 e6 e7 e8 e9 e10 e11 e12 e13
  have HP2 := hid hp2
  have B2 := hid (B1.out.trans (hb.mono B1.out.size))
  have Z2 : Hid (w.heap.size + 1 < w2.heap.size) := Nat.lt_of_lt_of_le Z1.out hb.size
  have g20 : w2.cell? ⟨w.heap.size, 0, none⟩ = some (.int .i64 p) := (hb.cell (p := ⟨w.heap.size, 0, none⟩) (Nat.lt_of_succ_lt Z1.out)).trans g10
  have g21 : w2.cell? ⟨w.heap.size, 1, none⟩ = some (.int .i64 i) := (hb.cell (p := ⟨w.heap.size, 1, none⟩) (Nat.lt_of_succ_lt Z1.out)).trans g11
  have g22 : w2.cell? ⟨w.heap.size, 2, none⟩ = some (.int .i64 b) := (hb.cell (p := ⟨w.heap.size, 2, none⟩) (Nat.lt_of_succ_lt Z1.out)).trans g12
  have p20 : w2.cell? ⟨w.heap.size + 1, 0, none⟩ = some (.int .i64 P.err) := (hb.cell (p := ⟨w.heap.size + 1, 0, none⟩) Z1.out).trans p10
  have p21 : w2.cell? ⟨w.heap.size + 1, 1, none⟩ = some (.int .i64 P.ino) := (hb.cell (p := ⟨w.heap.size + 1, 1, none⟩) Z1.out).trans p11
  have p22 : w2.cell? ⟨w.heap.size + 1, 2, none⟩ = some (.slice P.F.A P.F.n P.F.c) := (hb.cell (p := ⟨w.heap.size + 1, 2, none⟩) Z1.out).trans p12
  have p23 : w2.cell? ⟨w.heap.size + 1, 3, none⟩ = some (.slice P.L.A P.L.n P.L.c) := (hb.cell (p := ⟨w.heap.size + 1, 3, none⟩) Z1.out).trans p13
  have p24 : w2.cell? ⟨w.heap.size + 1, 4, none⟩ = some (.slice P.R.A P.R.n P.R.c) := (hb.cell (p := ⟨w.heap.size + 1, 4, none⟩) Z1.out).trans p14
  have p25 : w2.cell? ⟨w.heap.size + 1, 5, none⟩ = some (.slice P.D.A P.D.n P.D.c) := (hb.cell (p := ⟨w.heap.size + 1, 5, none⟩) Z1.out).trans p15
  clear hb hp2 g10 g11 g12 p10 p11 p12 p13 p14 p15
  have ba := hid ((Below.refl w2.heap.size w2).alloc (Nat.le_refl _) (.cells #[.int .i64 P.err, .int .i64 P.ino, .slice AF P.F.n cF, .slice AL P.L.n cL, .slice AR P.R.n cR, .slice AD P.D.n cD] 28))
  have za := hid (show w2.heap.size < (w2.alloc (.cells #[.int .i64 P.err, .int .i64 P.ino, .slice AF P.F.n cF, .slice AL P.L.n cL, .slice AR P.R.n cR, .slice AD P.D.n cD] 28)).heap.size by simp)
  have HPa := hid (HP2.out.below ba.out)
  have Ba := hid (B2.out.alloc B2.out.size (.cells #[.int .i64 P.err, .int .i64 P.ino, .slice AF P.F.n cF, .slice AL P.L.n cL, .slice AR P.R.n cR, .slice AD P.D.n cD] 28))
  have Za : Hid (w.heap.size + 1 < (w2.alloc (.cells #[.int .i64 P.err, .int .i64 P.ino, .slice AF P.F.n cF, .slice AL P.L.n cL, .slice AR P.R.n cR, .slice AD P.D.n cD] 28)).heap.size) := Nat.lt_trans Z2.out za.out
  have ga0 : (w2.alloc (.cells #[.int .i64 P.err, .int .i64 P.ino, .slice AF P.F.n cF, .slice AL P.L.n cL, .slice AR P.R.n cR, .slice AD P.D.n cD] 28)).cell? ⟨w.heap.size, 0, none⟩ = some (.int .i64 p) := (ba.out.cell (p := ⟨w.heap.size, 0, none⟩) (Nat.lt_of_succ_lt Z2.out)).trans g20
  have ga1 : (w2.alloc (.cells #[.int .i64 P.err, .int .i64 P.ino, .slice AF P.F.n cF, .slice AL P.L.n cL, .slice AR P.R.n cR, .slice AD P.D.n cD] 28)).cell? ⟨w.heap.size, 1, none⟩ = some (.int .i64 i) := (ba.out.cell (p := ⟨w.heap.size, 1, none⟩) (Nat.lt_of_succ_lt Z2.out)).trans g21
  have ga2 : (w2.alloc (.cells #[.int .i64 P.err, .int .i64 P.ino, .slice AF P.F.n cF, .slice AL P.L.n cL, .slice AR P.R.n cR, .slice AD P.D.n cD] 28)).cell? ⟨w.heap.size, 2, none⟩ = some (.int .i64 b) := (ba.out.cell (p := ⟨w.heap.size, 2, none⟩) (Nat.lt_of_succ_lt Z2.out)).trans g22
  have pa0 : (w2.alloc (.cells #[.int .i64 P.err, .int .i64 P.ino, .slice AF P.F.n cF, .slice AL P.L.n cL, .slice AR P.R.n cR, .slice AD P.D.n cD] 28)).cell? ⟨w.heap.size + 1, 0, none⟩ = some (.int .i64 P.err) := (ba.out.cell (p := ⟨w.heap.size + 1, 0, none⟩) Z2.out).trans p20
  have pa1 : (w2.alloc (.cells #[.int .i64 P.err, .int .i64 P.ino, .slice AF P.F.n cF, .slice AL P.L.n cL, .slice AR P.R.n cR, .slice AD P.D.n cD] 28)).cell? ⟨w.heap.size + 1, 1, none⟩ = some (.int .i64 P.ino) := (ba.out.cell (p := ⟨w.heap.size + 1, 1, none⟩) Z2.out).trans p21
  have pa2 : (w2.alloc (.cells #[.int .i64 P.err, .int .i64 P.ino, .slice AF P.F.n cF, .slice AL P.L.n cL, .slice AR P.R.n cR, .slice AD P.D.n cD] 28)).cell? ⟨w.heap.size + 1, 2, none⟩ = some (.slice P.F.A P.F.n P.F.c) := (ba.out.cell (p := ⟨w.heap.size + 1, 2, none⟩) Z2.out).trans p22
  have pa3 : (w2.alloc (.cells #[.int .i64 P.err, .int .i64 P.ino, .slice AF P.F.n cF, .slice AL P.L.n cL, .slice AR P.R.n cR, .slice AD P.D.n cD] 28)).cell? ⟨w.heap.size + 1, 3, none⟩ = some (.slice P.L.A P.L.n P.L.c) := (ba.out.cell (p := ⟨w.heap.size + 1, 3, none⟩) Z2.out).trans p23
  have pa4 : (w2.alloc (.cells #[.int .i64 P.err, .int .i64 P.ino, .slice AF P.F.n cF, .slice AL P.L.n cL, .slice AR P.R.n cR, .slice AD P.D.n cD] 28)).cell? ⟨w.heap.size + 1, 4, none⟩ = some (.slice P.R.A P.R.n P.R.c) := (ba.out.cell (p := ⟨w.heap.size + 1, 4, none⟩) Z2.out).trans p24
  have pa5 : (w2.alloc (.cells #[.int .i64 P.err, .int .i64 P.ino, .slice AF P.F.n cF, .slice AL P.L.n cL, .slice AR P.R.n cR, .slice AD P.D.n cD] 28)).cell? ⟨w.heap.size + 1, 5, none⟩ = some (.slice P.D.A P.D.n P.D.c) := (ba.out.cell (p := ⟨w.heap.size + 1, 5, none⟩) Z2.out).trans p25
  clear g20 g21 g22 p20 p21 p22 p23 p24 p25
  go_wp2_with fail
  refine (steps_ok p i b s ⟨P.err, P.ino, ⟨AF, P.F.n, cF, P.F.f, P.F.g⟩, ⟨AL, P.L.n, cL, P.L.f, gL⟩, ⟨AR, P.R.n, cR, P.R.f, P.R.g⟩, ⟨AD, P.D.n, cD, P.D.f, P.D.g⟩⟩ _ Hsm.out HPa.out HE.out (fun k hk => (HW.out k hk).1)).mono ?_
  rintro e w3 ⟨va, rfl, ho, hb⟩
  have OA := hid ho
  clear ho
  have B3 := hid (Ba.out.trans (hb.mono Ba.out.size))
  have Z3 : Hid (w.heap.size + 1 < w3.heap.size) := Nat.lt_of_lt_of_le Za.out hb.size
  have Y3 : Hid (w2.heap.size < w3.heap.size) := Nat.lt_of_lt_of_le za.out hb.size
  have HP3 := hid (HPa.out.below hb)
  have g30 : w3.cell? ⟨w.heap.size, 0, none⟩ = some (.int .i64 p) := (hb.cell (p := ⟨w.heap.size, 0, none⟩) (Nat.lt_of_succ_lt Za.out)).trans ga0
  have g31 : w3.cell? ⟨w.heap.size, 1, none⟩ = some (.int .i64 i) := (hb.cell (p := ⟨w.heap.size, 1, none⟩) (Nat.lt_of_succ_lt Za.out)).trans ga1
  have g32 : w3.cell? ⟨w.heap.size, 2, none⟩ = some (.int .i64 b) := (hb.cell (p := ⟨w.heap.size, 2, none⟩) (Nat.lt_of_succ_lt Za.out)).trans ga2
  have p30 : w3.cell? ⟨w.heap.size + 1, 0, none⟩ = some (.int .i64 P.err) := (hb.cell (p := ⟨w.heap.size + 1, 0, none⟩) Za.out).trans pa0
  have p31 : w3.cell? ⟨w.heap.size + 1, 1, none⟩ = some (.int .i64 P.ino) := (hb.cell (p := ⟨w.heap.size + 1, 1, none⟩) Za.out).trans pa1
  have p32 : w3.cell? ⟨w.heap.size + 1, 2, none⟩ = some (.slice P.F.A P.F.n P.F.c) := (hb.cell (p := ⟨w.heap.size + 1, 2, none⟩) Za.out).trans pa2
  have p33 : w3.cell? ⟨w.heap.size + 1, 3, none⟩ = some (.slice P.L.A P.L.n P.L.c) := (hb.cell (p := ⟨w.heap.size + 1, 3, none⟩) Za.out).trans pa3
  have p34 : w3.cell? ⟨w.heap.size + 1, 4, none⟩ = some (.slice P.R.A P.R.n P.R.c) := (hb.cell (p := ⟨w.heap.size + 1, 4, none⟩) Za.out).trans pa4
  have p35 : w3.cell? ⟨w.heap.size + 1, 5, none⟩ = some (.slice P.D.A P.D.n P.D.c) := (hb.cell (p := ⟨w.heap.size + 1, 5, none⟩) Za.out).trans pa5
  have o30 : w3.cell? ⟨w2.heap.size, 0, none⟩ = some (.int .i64 P.err) := (hb.cell (p := ⟨w2.heap.size, 0, none⟩) za.out).trans (by simp)
  have o31 : w3.cell? ⟨w2.heap.size, 1, none⟩ = some (.int .i64 P.ino) := (hb.cell (p := ⟨w2.heap.size, 1, none⟩) za.out).trans (by simp)
  have o32 : w3.cell? ⟨w2.heap.size, 2, none⟩ = some (.slice AF P.F.n cF) := (hb.cell (p := ⟨w2.heap.size, 2, none⟩) za.out).trans (by simp)
  have o33 : w3.cell? ⟨w2.heap.size, 3, none⟩ = some (.slice AL P.L.n cL) := (hb.cell (p := ⟨w2.heap.size, 3, none⟩) za.out).trans (by simp)
  have o34 : w3.cell? ⟨w2.heap.size, 4, none⟩ = some (.slice AR P.R.n cR) := (hb.cell (p := ⟨w2.heap.size, 4, none⟩) za.out).trans (by simp)
  have o35 : w3.cell? ⟨w2.heap.size, 5, none⟩ = some (.slice AD P.D.n cD) := (hb.cell (p := ⟨w2.heap.size, 5, none⟩) za.out).trans (by simp)
  clear hb ga0 ga1 ga2 pa0 pa1 pa2 pa3 pa4 pa5
  go_wp2_with fail
  refine (rsteps_yes p i b s P _ Hsm.out (HP.out.below B3.out) HE.out HW.out).mono ?_
  rintro e w4 ⟨vb, rfl, ho, hb⟩
  have OB := hid ho
  have OA4 := hid (OA.out.below hb)
  clear ho
  have B4 := hid (B3.out.trans (hb.mono B3.out.size))
  have Z4 : Hid (w.heap.size + 1 < w4.heap.size) := Nat.lt_of_lt_of_le Z3.out hb.size
  have Y4 : Hid (w2.heap.size < w4.heap.size) := Nat.lt_of_lt_of_le Y3.out hb.size
  have HP4 := hid (HP3.out.below hb)
  have p40 : w4.cell? ⟨w.heap.size + 1, 0, none⟩ = some (.int .i64 P.err) := (hb.cell (p := ⟨w.heap.size + 1, 0, none⟩) Z3.out).trans p30
  have p41 : w4.cell? ⟨w.heap.size + 1, 1, none⟩ = some (.int .i64 P.ino) := (hb.cell (p := ⟨w.heap.size + 1, 1, none⟩) Z3.out).trans p31
  have p42 : w4.cell? ⟨w.heap.size + 1, 2, none⟩ = some (.slice P.F.A P.F.n P.F.c) := (hb.cell (p := ⟨w.heap.size + 1, 2, none⟩) Z3.out).trans p32
  have p43 : w4.cell? ⟨w.heap.size + 1, 3, none⟩ = some (.slice P.L.A P.L.n P.L.c) := (hb.cell (p := ⟨w.heap.size + 1, 3, none⟩) Z3.out).trans p33
  have p44 : w4.cell? ⟨w.heap.size + 1, 4, none⟩ = some (.slice P.R.A P.R.n P.R.c) := (hb.cell (p := ⟨w.heap.size + 1, 4, none⟩) Z3.out).trans p34
  have p45 : w4.cell? ⟨w.heap.size + 1, 5, none⟩ = some (.slice P.D.A P.D.n P.D.c) := (hb.cell (p := ⟨w.heap.size + 1, 5, none⟩) Z3.out).trans p35
  have o40 : w4.cell? ⟨w2.heap.size, 0, none⟩ = some (.int .i64 P.err) := (hb.cell (p := ⟨w2.heap.size, 0, none⟩) Y3.out).trans o30
  have o41 : w4.cell? ⟨w2.heap.size, 1, none⟩ = some (.int .i64 P.ino) := (hb.cell (p := ⟨w2.heap.size, 1, none⟩) Y3.out).trans o31
  have o42 : w4.cell? ⟨w2.heap.size, 2, none⟩ = some (.slice AF P.F.n cF) := (hb.cell (p := ⟨w2.heap.size, 2, none⟩) Y3.out).trans o32
  have o43 : w4.cell? ⟨w2.heap.size, 3, none⟩ = some (.slice AL P.L.n cL) := (hb.cell (p := ⟨w2.heap.size, 3, none⟩) Y3.out).trans o33
  have o44 : w4.cell? ⟨w2.heap.size, 4, none⟩ = some (.slice AR P.R.n cR) := (hb.cell (p := ⟨w2.heap.size, 4, none⟩) Y3.out).trans o34
  have o45 : w4.cell? ⟨w2.heap.size, 5, none⟩ = some (.slice AD P.D.n cD) := (hb.cell (p := ⟨w2.heap.size, 5, none⟩) Y3.out).trans o35
  clear hb g30 g31 g32 p30 p31 p32 p33 p34 p35 o30 o31 o32 o33 o34 o35
  go_wp2_with fail
  refine (same_ops va vb (stepsL (slotAt i s) P) _ (Nat.le_trans (stepsL_len (slotAt i s) P Hsm.out) (by omega)) OA4.out OB.out).mono ?_
  rintro e w5 ⟨rfl, hb⟩
  have B5 := hid (B4.out.trans (hb.mono B4.out.size))
  have Z5 : Hid (w.heap.size + 1 < w5.heap.size) := Nat.lt_of_lt_of_le Z4.out hb.size
  have Y5 : Hid (w2.heap.size < w5.heap.size) := Nat.lt_of_lt_of_le Y4.out hb.size
  have HP5 := hid (HP4.out.below hb)
  have CP5 : Hid (w5.cell? ⟨w.heap.size + 1, 2, none⟩ = some (.slice P.F.A P.F.n P.F.c) ∧ w5.cell? ⟨w.heap.size + 1, 3, none⟩ = some (.slice P.L.A P.L.n P.L.c) ∧ w5.cell? ⟨w.heap.size + 1, 4, none⟩ = some (.slice P.R.A P.R.n P.R.c) ∧ w5.cell? ⟨w.heap.size + 1, 5, none⟩ = some (.slice P.D.A P.D.n P.D.c)) := ⟨(hb.cell (p := ⟨w.heap.size + 1, 2, none⟩) Z4.out).trans p42, (hb.cell (p := ⟨w.heap.size + 1, 3, none⟩) Z4.out).trans p43, (hb.cell (p := ⟨w.heap.size + 1, 4, none⟩) Z4.out).trans p44, (hb.cell (p := ⟨w.heap.size + 1, 5, none⟩) Z4.out).trans p45⟩
  have CO5 : Hid (w5.cell? ⟨w2.heap.size, 2, none⟩ = some (.slice AF P.F.n cF) ∧ w5.cell? ⟨w2.heap.size, 3, none⟩ = some (.slice AL P.L.n cL) ∧ w5.cell? ⟨w2.heap.size, 4, none⟩ = some (.slice AR P.R.n cR) ∧ w5.cell? ⟨w2.heap.size, 5, none⟩ = some (.slice AD P.D.n cD)) := ⟨(hb.cell (p := ⟨w2.heap.size, 2, none⟩) Y4.out).trans o42, (hb.cell (p := ⟨w2.heap.size, 3, none⟩) Y4.out).trans o43, (hb.cell (p := ⟨w2.heap.size, 4, none⟩) Y4.out).trans o44, (hb.cell (p := ⟨w2.heap.size, 5, none⟩) Y4.out).trans o45⟩
  clear hb p40 p41 p42 p43 p44 p45 o40 o41 o42 o43 o44 o45
  go_wp2_with fail
  go_loopw [12] (fun j wr => ∃ k : Nat, k ≤ P.L.n ∧ j = .int .i64 k ∧ Below w5.heap.size w5 wr) (fun j _ => P.L.n - (intOf j).toNat)
  case atStart => exact ⟨0, by omega, rfl, Below.refl _ _⟩
  case round =>
    obtain ⟨k, hk, rfl, hb⟩ := hrel
    have Hb := hid hb
    clear hb
    have c3 := (Hb.out.cell (p := ⟨w.heap.size + 1, 3, none⟩) Z5.out).trans CP5.out.2.1
    have d3 := (Hb.out.cell (p := ⟨w2.heap.size, 3, none⟩) Y5.out).trans CO5.out.2.1
    by_cases hlt : k < P.L.n
    · have hlt' : (k : Int) < (P.L.n : Int) := by omega
      have h0k : (0 : Int) ≤ (k : Int) := by omega
      obtain ⟨ad, hA, hadl, hc⟩ : ∃ ad, P.L.A = some ad ∧ ad.block < wr.heap.size ∧ ∀ k, k < P.L.n → wr.cell? (ad.add k) = some (.int .i64 (P.L.f k)) := by
        rcases ints_below (HP.out.below B5.out).2.1 Hb.out with h0 | h1
        · omega
        · exact h1
      obtain ⟨bd, hB, hbdl, hd⟩ : ∃ ad, AL = some ad ∧ ad.block < wr.heap.size ∧ ∀ k, k < P.L.n → wr.cell? (ad.add k) = some (.int .i64 (P.L.f k)) := by
        rcases ints_below HP5.out.2.1 Hb.out with h0 | h1
        · exact absurd h0 (by show ¬ P.L.n = 0; omega)
        · exact h1
      have k0 := hc k hlt
      have k1 := hd k hlt
      rw [hA] at c3
      rw [hB] at d3
      clear hc hd hA hB
      go_wp2
      go_quiet (fail)
      go_wp2
      go_roundw
      case rel => exact ⟨k + 1, by omega, by go_num, below_drewN Hb.out _⟩
      case measure => simp [intOf]; omega
    · have c2 := (Hb.out.cell (p := ⟨w.heap.size + 1, 2, none⟩) Z5.out).trans CP5.out.1
      have d2 := (Hb.out.cell (p := ⟨w2.heap.size, 2, none⟩) Y5.out).trans CO5.out.1
      have B6 := hid (B5.out.trans (Hb.out.mono B5.out.size))
      have HP6 := hid (HP5.out.below Hb.out)
      go_wp2_with fail
      refine (same_redo AF P.F.A P.F.n cF P.F.c P.F.f P.F.g _ (by omega) HP6.out.1 (HP.out.below B6.out).1).mono ?_
      rintro e w7 ⟨rfl, hb⟩
      have B7 := hid (B6.out.trans (hb.mono B6.out.size))
      have HP7 := hid (HP6.out.below hb)
      have Hb7 := hid (Hb.out.trans (hb.mono Hb.out.size))
      clear hb
      clear c2 d2 c3 d3
      have c7 := (Hb7.out.cell (p := ⟨w.heap.size + 1, 4, none⟩) Z5.out).trans CP5.out.2.2.1
      have d7 := (Hb7.out.cell (p := ⟨w2.heap.size, 4, none⟩) Y5.out).trans CO5.out.2.2.1
      go_wp2_with fail
      refine (same_redo AR P.R.A P.R.n cR P.R.c P.R.f P.R.g _ (by omega) HP7.out.2.2.1 (HP.out.below B7.out).2.2.1).mono ?_
      rintro e w8 ⟨rfl, hb⟩
      have B8 := hid (B7.out.trans (hb.mono B7.out.size))
      have HP8 := hid (HP7.out.below hb)
      have Hb8 := hid (Hb7.out.trans (hb.mono Hb7.out.size))
      clear hb
      clear c7 d7
      have c8 := (Hb8.out.cell (p := ⟨w.heap.size + 1, 5, none⟩) Z5.out).trans CP5.out.2.2.2
      have d8 := (Hb8.out.cell (p := ⟨w2.heap.size, 5, none⟩) Y5.out).trans CO5.out.2.2.2
      go_wp2_with fail
      refine (same_redo AD P.D.A P.D.n cD P.D.c P.D.f P.D.g _ (by omega) HP8.out.2.2.2 (HP.out.below B8.out).2.2.2).mono ?_
      rintro e w9 ⟨rfl, hb⟩
      have B9 := hid (B8.out.trans (hb.mono B8.out.size))
      have HP9 := hid (HP8.out.below hb)
      have Hb9 := hid (Hb8.out.trans (hb.mono Hb8.out.size))
      clear hb
      clear c8 d8
      go_wp2_with fail
      refine (alive_any _).mono ?_
      rintro e wf ⟨rfl, hb⟩
      have Bf := hid (B9.out.trans (hb.mono B9.out.size))
      clear hb
      go_wp2
      go_ret
      exact ⟨rfl, Bf.out⟩
theorem law_any (p i b s : Int) (P : PlanD) (w : World) (hp : PlanAt w P) (hw : P.wf) :
    Calls Try.prog 3 #[.agg #[.int .i64 p, .int .i64 i, .int .i64 b], .int .i64 s, .agg #[.int .i64 P.err, .int .i64 P.ino, .slice P.F.A P.F.n P.F.c, .slice P.L.A P.L.n P.L.c, .slice P.R.A P.R.n P.R.c, .slice P.D.A P.D.n P.D.c]] w fun e w' => e = .returned (.bool true) ∧ Below w.heap.size w w' := by
  cases h : largeB p i b P
  · by_cases he : errE p i b s P = 0
    · exact law_ok p i b s P w h hp hw he
    · exact law_err p i b s P w h hp hw he
  · exact law_large p i b s P w h
end Go.Proofs.Ytimfnimcmfjjpaa
