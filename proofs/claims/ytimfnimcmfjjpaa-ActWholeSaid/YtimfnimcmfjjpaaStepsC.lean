/- act.Steps once more: what it hands back has room for what it holds. -/
import Derived.Test.YtimfnimcmfjjpaaLaw
namespace Go.Proofs.Ytimfnimcmfjjpaa
open Go.RowKit
theorem cap_of_own {w : World} {B n : Nat} {v : Value} {xs : List Value} (h : w.ownsRow B 53 3 v n xs) : ∃ A n c, v = .slice A n c ∧ n ≤ c := by
  rcases h.2 with ⟨rfl, -⟩ | ⟨q, cap, cur, rfl, -, -, hc, -⟩
  · exact ⟨_, _, _, rfl, Nat.le_refl _⟩
  · exact ⟨_, _, _, rfl, hc⟩
set_option maxHeartbeats 8000000 in
set_option maxRecDepth 100000 in
theorem steps_yesC (p i b s : Int) (P : PlanD) (w : World) (h : gok p i b = true) (hs : 0 ≤ s) (hs2 : s < p) (hsm : P.small) (hp : PlanAt w P) (hm : mayE P (linesN p i b) = 0) (hg : ∀ k, k < P.R.n → 0 ≤ P.R.g k) :
    Calls Try.prog 10 #[.agg #[.int .i64 p, .int .i64 i, .int .i64 b], .int .i64 s, .agg #[.int .i64 P.err, .int .i64 P.ino, .slice P.F.A P.F.n P.F.c, .slice P.L.A P.L.n P.L.c, .slice P.R.A P.R.n P.R.c, .slice P.D.A P.D.n P.D.c]] w fun e w' => ∃ v, e = .returned (.tuple #[v, .int .i64 0]) ∧ (OpsAt w' v (stepsL (slotAt i s) P) ∧ ∃ A n c, v = .slice A n c ∧ n ≤ c) ∧ Below w.heap.size w w' := by
  obtain ⟨hno, h64⟩ := mayE_zero hm
  have H := hid h
  have HP := hid hp
  have HM := hid hm
  have HN := hid hno
  have HG := hid hg
  have Hle := hid (linesN_le h)
  obtain ⟨q1, q2, q3, q4, q5, q6⟩ := gok_iff.1 h
  have Hs1 := hsm.1
  have Hs2 := hsm.2.1
  have Hs3 := hsm.2.2.1
  have Hs4 := hsm.2.2.2
  have Hat : 0 ≤ slotAt i s ∧ slotAt i s ≤ 100000 := by unfold slotAt; omega
  clear h hp hm hno hg
  have b0 := hid (show Below w.heap.size w ((w.alloc (.cells #[.int .i64 p, .int .i64 i, .int .i64 b] 23)).alloc (.cells #[.int .i64 P.err, .int .i64 P.ino, .slice P.F.A P.F.n P.F.c, .slice P.L.A P.L.n P.L.c, .slice P.R.A P.R.n P.R.c, .slice P.D.A P.D.n P.D.c] 28)) from ((Below.refl _ _).alloc (Nat.le_refl _) _).alloc (by simp) _)
  have hsz : w.heap.size + 1 < ((w.alloc (.cells #[.int .i64 p, .int .i64 i, .int .i64 b] 23)).alloc (.cells #[.int .i64 P.err, .int .i64 P.ino, .slice P.F.A P.F.n P.F.c, .slice P.L.A P.L.n P.L.c, .slice P.R.A P.R.n P.R.c, .slice P.D.A P.D.n P.D.c] 28)).heap.size := by simp
  go_enter Try.func10, Try.ntmps10
  go_wp2_with fail
  refine (lines_yes _ _ _ _ H.out).mono ?_
  rintro e w1 ⟨rfl, hb⟩
  have B1 := hid (b0.out.trans (hb.mono b0.out.size))
  have Z1 : Hid (w.heap.size + 1 < w1.heap.size) := Nat.lt_of_lt_of_le hsz hb.size
  have g10 : w1.cell? ⟨w.heap.size, 0, none⟩ = some (.int .i64 p) := (hb.cell (p := ⟨w.heap.size, 0, none⟩) (Nat.lt_of_succ_lt hsz)).trans (by simp)
  have g11 : w1.cell? ⟨w.heap.size, 1, none⟩ = some (.int .i64 i) := (hb.cell (p := ⟨w.heap.size, 1, none⟩) (Nat.lt_of_succ_lt hsz)).trans (by simp)
  have g12 : w1.cell? ⟨w.heap.size, 2, none⟩ = some (.int .i64 b) := (hb.cell (p := ⟨w.heap.size, 2, none⟩) (Nat.lt_of_succ_lt hsz)).trans (by simp)
  have p10 : w1.cell? ⟨w.heap.size + 1, 0, none⟩ = some (.int .i64 P.err) := (hb.cell (p := ⟨w.heap.size + 1, 0, none⟩) hsz).trans (by simp)
  have p11 : w1.cell? ⟨w.heap.size + 1, 1, none⟩ = some (.int .i64 P.ino) := (hb.cell (p := ⟨w.heap.size + 1, 1, none⟩) hsz).trans (by simp)
  have p12 : w1.cell? ⟨w.heap.size + 1, 2, none⟩ = some (.slice P.F.A P.F.n P.F.c) := (hb.cell (p := ⟨w.heap.size + 1, 2, none⟩) hsz).trans (by simp)
  have p13 : w1.cell? ⟨w.heap.size + 1, 3, none⟩ = some (.slice P.L.A P.L.n P.L.c) := (hb.cell (p := ⟨w.heap.size + 1, 3, none⟩) hsz).trans (by simp)
  have p14 : w1.cell? ⟨w.heap.size + 1, 4, none⟩ = some (.slice P.R.A P.R.n P.R.c) := (hb.cell (p := ⟨w.heap.size + 1, 4, none⟩) hsz).trans (by simp)
  have p15 : w1.cell? ⟨w.heap.size + 1, 5, none⟩ = some (.slice P.D.A P.D.n P.D.c) := (hb.cell (p := ⟨w.heap.size + 1, 5, none⟩) hsz).trans (by simp)
  clear hb
  go_wp2_with fail
  refine (slot_yes _ _ _ _ _ H.out hs hs2).mono ?_
  rintro e w2 ⟨rfl, hb⟩
  have B2 := hid (B1.out.trans (hb.mono B1.out.size))
  have Z2 : Hid (w.heap.size + 1 < w2.heap.size) := Nat.lt_of_lt_of_le Z1.out hb.size
  have g20 : w2.cell? ⟨w.heap.size, 0, none⟩ = some (.int .i64 p) := (hb.cell (p := ⟨w.heap.size, 0, none⟩) (Nat.lt_of_succ_lt Z1.out)).trans g10
  have g21 : w2.cell? ⟨w.heap.size, 1, none⟩ = some (.int .i64 i) := (hb.cell (p := ⟨w.heap.size, 1, none⟩) (Nat.lt_of_succ_lt Z1.out)).trans g11
  have g22 : w2.cell? ⟨w.heap.size, 2, none⟩ = some (.int .i64 b) := (hb.cell (p := ⟨w.heap.size, 2, none⟩) (Nat.lt_of_succ_lt Z1.out)).trans g12
  have p20 : w2.cell? ⟨w.heap.size + 1, 0, none⟩ = some (.int .i64 P.err) := (hb.cell (p := ⟨w.heap.size + 1, 0, none⟩) Z1.out).trans p10
  have p21 : w2.cell? ⟨w.heap.size + 1, 1, none⟩ = some (.int .i64 P.ino) := (hb.cell (p := ⟨w.heap.size + 1, 1, none⟩) Z1.out).trans p11
  have p22 : w2.cell? ⟨w.heap.size + 1, 2, none⟩ = some (.slice P.F.A P.F.n P.F.c) := (hb.cell (p := ⟨w.heap.size + 1, 2, none⟩) Z1.out).trans p12
  have p23 : w2.cell? ⟨w.heap.size + 1, 3, none⟩ = some (.slice P.L.A P.L.n P.L.c) := (hb.cell (p := ⟨w.heap.size + 1, 3, none⟩) Z1.out).trans p13
  have p24 : w2.cell? ⟨w.heap.size + 1, 4, none⟩ = some (.slice P.R.A P.R.n P.R.c) := (hb.cell (p := ⟨w.heap.size + 1, 4, none⟩) Z1.out).trans p14
  have p25 : w2.cell? ⟨w.heap.size + 1, 5, none⟩ = some (.slice P.D.A P.D.n P.D.c) := (hb.cell (p := ⟨w.heap.size + 1, 5, none⟩) Z1.out).trans p15
  clear hb g10 g11 g12 p10 p11 p12 p13 p14 p15
  go_wp2_with fail
  refine (may_is P (linesN p i b) _ _ ⟨Hle.out.1, by have := Hle.out.2; omega⟩ hsm (HP.out.below B2.out) HM.out).mono ?_
  rintro e w3 ⟨rfl, hb⟩
  have B3 := hid (B2.out.trans (hb.mono B2.out.size))
  have Z3 : Hid (w.heap.size + 1 < w3.heap.size) := Nat.lt_of_lt_of_le Z2.out hb.size
  have p30 : w3.cell? ⟨w.heap.size + 1, 0, none⟩ = some (.int .i64 P.err) := (hb.cell (p := ⟨w.heap.size + 1, 0, none⟩) Z2.out).trans p20
  have p31 : w3.cell? ⟨w.heap.size + 1, 1, none⟩ = some (.int .i64 P.ino) := (hb.cell (p := ⟨w.heap.size + 1, 1, none⟩) Z2.out).trans p21
  have p32 : w3.cell? ⟨w.heap.size + 1, 2, none⟩ = some (.slice P.F.A P.F.n P.F.c) := (hb.cell (p := ⟨w.heap.size + 1, 2, none⟩) Z2.out).trans p22
  have p33 : w3.cell? ⟨w.heap.size + 1, 3, none⟩ = some (.slice P.L.A P.L.n P.L.c) := (hb.cell (p := ⟨w.heap.size + 1, 3, none⟩) Z2.out).trans p23
  have p34 : w3.cell? ⟨w.heap.size + 1, 4, none⟩ = some (.slice P.R.A P.R.n P.R.c) := (hb.cell (p := ⟨w.heap.size + 1, 4, none⟩) Z2.out).trans p24
  have p35 : w3.cell? ⟨w.heap.size + 1, 5, none⟩ = some (.slice P.D.A P.D.n P.D.c) := (hb.cell (p := ⟨w.heap.size + 1, 5, none⟩) Z2.out).trans p25
  clear hb g20 g21 g22 p20 p21 p22 p23 p24 p25
  have C3 : Hid (w3.cell? ⟨w.heap.size + 1, 2, none⟩ = some (.slice P.F.A P.F.n P.F.c) ∧ w3.cell? ⟨w.heap.size + 1, 3, none⟩ = some (.slice P.L.A P.L.n P.L.c) ∧ w3.cell? ⟨w.heap.size + 1, 4, none⟩ = some (.slice P.R.A P.R.n P.R.c) ∧ w3.cell? ⟨w.heap.size + 1, 5, none⟩ = some (.slice P.D.A P.D.n P.D.c)) := ⟨p32, p33, p34, p35⟩
  have HP3 := hid (HP.out.below B3.out)
  have HS0 := hid (steps0 w3)
  have HA := hid (Below.alloc (Below.refl w3.heap.size w3) (Nat.le_refl _) (.cells #[.slice none 0 0] 82))
  have K0 := hid (Kept.refl (w3.alloc (.cells #[.slice none 0 0] 82)) w3.heap.size none)
  clear p30 p31 p32 p33 p34 p35
  have p32 : (w3.alloc (.cells #[.slice none 0 0] 82)).cell? ⟨w.heap.size + 1, 2, none⟩ = some (.slice P.F.A P.F.n P.F.c) := (HA.out.cell (p := ⟨w.heap.size + 1, 2, none⟩) Z3.out).trans C3.out.1
  go_wp2_with fail
  have n1 := writtenL_len P.F.f P.F.g P.F.n
  have n2 := linesL_len P.L.f P.L.n
  have n3 := redoL_len (slotAt i s) P.R.f P.R.g P.R.n
  have n4 := writtenL_len P.R.f P.R.g P.R.n
  have n5 := writtenL_len (fun _ => slotAt i s) (fun _ => 0) 1
  refine (written_any w3.heap.size none [] P.F.A P.F.n P.F.c P.F.f P.F.g _ HS0.out (pairs_below HP3.out.1 HA.out) (fun h0 => apart_pairs HP3.out.1 h0 (fun q hq => by cases hq)) (by simp; omega) (fun k hk => ⟨(HN.out.1 k hk).1, by have := (HN.out.1 k hk).2; have := Hle.out; omega⟩)).mono ?_
  rintro e w4 ⟨rfl, Rw4, hst, hke⟩
  have Tw4 := hid hst
  have Kw4 := hid (K0.out.trans hke)
  have Bw4 := hid (HA.out.trans ((Kw4.out.below (b := w3.heap.size) (Nat.le_refl _) (fun k hk => by cases hk) (by simp))))
  clear hst hke
  clear p32
  have p43 : w4.cell? ⟨w.heap.size + 1, 3, none⟩ = some (.slice P.L.A P.L.n P.L.c) := (Bw4.out.cell (p := ⟨w.heap.size + 1, 3, none⟩) Z3.out).trans C3.out.2.1
  go_wp2_with fail
  refine (lines_any w3.heap.size Rw4 ([] ++ writtenL P.F.f P.F.g P.F.n) P.L.A P.L.n P.L.c P.L.f _ Tw4.out (ints_below HP3.out.2.1 Bw4.out) (fun h0 => apart_ints HP3.out.2.1 h0 (fun q hq => Kw4.out.far q hq (by simp))) (by (try simp only [List.length_append]); (try simp only [List.length_cons]); (try simp only [List.length_nil]); omega)).mono ?_
  rintro e w5 ⟨rfl, Rw5, hst, hke⟩
  have Tw5 := hid hst
  have Kw5 := hid (Kw4.out.trans hke)
  have Bw5 := hid (HA.out.trans ((Kw5.out.below (b := w3.heap.size) (Nat.le_refl _) (fun k hk => by cases hk) (by simp))))
  clear hst hke
  clear p43
  have p54 : w5.cell? ⟨w.heap.size + 1, 4, none⟩ = some (.slice P.R.A P.R.n P.R.c) := (Bw5.out.cell (p := ⟨w.heap.size + 1, 4, none⟩) Z3.out).trans C3.out.2.2.1
  go_wp2_with fail
  refine (redo_any w3.heap.size Rw5 (([] ++ writtenL P.F.f P.F.g P.F.n) ++ linesL P.L.f P.L.n) (slotAt i s) P.R.A P.R.n P.R.c P.R.f P.R.g _ Tw5.out (pairs_below HP3.out.2.2.1 Bw5.out) Hat h64 (by (try simp only [List.length_append]); (try simp only [List.length_cons]); (try simp only [List.length_nil]); omega) (fun k hk => ⟨(HN.out.2.1 k hk).1, by have := (HN.out.2.1 k hk).2; have := Hle.out; omega⟩) HG.out).mono ?_
  rintro e w6 ⟨rfl, Rw6, hst, hke⟩
  have Tw6 := hid hst
  have Kw6 := hid (Kw5.out.trans hke)
  have Bw6 := hid (HA.out.trans ((Kw6.out.below (b := w3.heap.size) (Nat.le_refl _) (fun k hk => by cases hk) (by simp))))
  clear hst hke
  clear p54
  go_wp2_with fail
  refine (put_any w3.heap.size Rw6 ((([] ++ writtenL P.F.f P.F.g P.F.n) ++ linesL P.L.f P.L.n) ++ redoL (slotAt i s) P.R.f P.R.g P.R.n) ⟨4, 0, 0⟩ _ Tw6.out (by (try simp only [List.length_append]); (try simp only [List.length_cons]); (try simp only [List.length_nil]); omega)).mono ?_
  rintro e w7 ⟨rfl, Rw7, hst, hke⟩
  have Tw7 := hid hst
  have Kw7 := hid (Kw6.out.trans hke)
  have Bw7 := hid (HA.out.trans ((Kw7.out.below (b := w3.heap.size) (Nat.le_refl _) (fun k hk => by cases hk) (by simp))))
  clear hst hke
  have p74 : w7.cell? ⟨w.heap.size + 1, 4, none⟩ = some (.slice P.R.A P.R.n P.R.c) := (Bw7.out.cell (p := ⟨w.heap.size + 1, 4, none⟩) Z3.out).trans C3.out.2.2.1
  by_cases hR0 : P.R.n = 0
  · have hz : ¬ (0 : Int) < (P.R.n : Int) := by omega
    have p75 : w7.cell? ⟨w.heap.size + 1, 5, none⟩ = some (.slice P.D.A P.D.n P.D.c) := (Bw7.out.cell (p := ⟨w.heap.size + 1, 5, none⟩) Z3.out).trans C3.out.2.2.2
    go_wp2_with fail
    refine (stores_any w3.heap.size Rw7 (((([] ++ writtenL P.F.f P.F.g P.F.n) ++ linesL P.L.f P.L.n) ++ redoL (slotAt i s) P.R.f P.R.g P.R.n) ++ [(⟨4, 0, 0⟩ : Op3)]) P.D.A P.D.n P.D.c P.D.f P.D.g _ Tw7.out (pairs_below HP3.out.2.2.2 Bw7.out) (fun h0 => apart_pairs HP3.out.2.2.2 h0 (fun q hq => Kw7.out.far q hq (by simp))) (by (try simp only [List.length_append]); (try simp only [List.length_cons]); (try simp only [List.length_nil]); omega)).mono ?_
    rintro e w9 ⟨rfl, R9, hst, hke⟩
    have T9 := hid hst
    have K9 := hid (Kw7.out.trans hke)
    clear hst hke p75
    obtain ⟨v9, hS9, how9, -, -⟩ := T9.out
    have c9 : w9.cell? ⟨w3.heap.size, 0, none⟩ = some v9 := cell_of_row w9 w3.heap.size 0 #[v9] 82 (0, 0) hS9
    have Ho9 := hid how9
    clear hS9 how9
    go_wp2
    go_ret2
    refine ⟨v9, rfl, ?_, B3.out.trans ((HA.out.trans (K9.out.below (b := w3.heap.size) (Nat.le_refl _) (fun k hk => by cases hk) (by simp))).mono B3.out.size)⟩
    refine ⟨?_, cap_of_own Ho9.out⟩
    have e := ops_of_own rfl Ho9.out
    unfold stepsL
    rw [if_pos hR0, List.append_nil]
    exact e
  · have hz : (0 : Int) < (P.R.n : Int) := by omega
    go_wp2_with fail
    refine (written_any w3.heap.size Rw7 (((([] ++ writtenL P.F.f P.F.g P.F.n) ++ linesL P.L.f P.L.n) ++ redoL (slotAt i s) P.R.f P.R.g P.R.n) ++ [(⟨4, 0, 0⟩ : Op3)]) P.R.A P.R.n P.R.c P.R.f P.R.g _ Tw7.out (pairs_below HP3.out.2.2.1 Bw7.out) (fun h0 => apart_pairs HP3.out.2.2.1 h0 (fun q hq => Kw7.out.far q hq (by simp))) (by (try simp only [List.length_append]); (try simp only [List.length_cons]); (try simp only [List.length_nil]); omega) (fun k hk => ⟨(HN.out.2.1 k hk).1, by have := (HN.out.2.1 k hk).2; have := Hle.out; omega⟩)).mono ?_
    rintro e w8 ⟨rfl, Rw8, hst, hke⟩
    have Tw8 := hid hst
    have Kw8 := hid (Kw7.out.trans hke)
    have Bw8 := hid (HA.out.trans ((Kw8.out.below (b := w3.heap.size) (Nat.le_refl _) (fun k hk => by cases hk) (by simp))))
    clear hst hke
    clear p74
    have ba := (Below.refl w8.heap.size w8).alloc (Nat.le_refl _) (.cells #[.int .i64 (slotAt i s), .int .u64 0] 71)
    have hSl8 : w3.heap.size < w8.heap.size := by obtain ⟨v0, hS, -⟩ := Tw8.out; exact (Array.getElem?_eq_some_iff.1 hS).1
    have hRl8 : ∀ q, Rw8 = some q → q < w8.heap.size := fun q hq => by obtain ⟨v0, -, ho, hv0, -⟩ := Tw8.out; exact own_lt ho (hv0.trans hq)
    have Hw := hid (written_any w3.heap.size Rw8 ((((([] ++ writtenL P.F.f P.F.g P.F.n) ++ linesL P.L.f P.L.n) ++ redoL (slotAt i s) P.R.f P.R.g P.R.n) ++ [(⟨4, 0, 0⟩ : Op3)]) ++ writtenL P.R.f P.R.g P.R.n) (some ⟨w8.heap.size, 0, none⟩) 1 1 (fun _ => slotAt i s) (fun _ => 0) _ (Tw8.out.below ba) (pairs_one w8 (slotAt i s) 0 71 _ _ rfl rfl) (fun _ ad e => by cases e; exact ⟨fun e2 => by have : w8.heap.size = w3.heap.size := e2; omega, fun e2 => by have := hRl8 _ e2; have h9 : w8.heap.size < w8.heap.size := this; omega⟩) (by (try simp only [List.length_append]); (try simp only [List.length_cons]); (try simp only [List.length_nil]); omega) (fun _ _ => by omega))
    have Ka := hid (Kw8.out.trans (Kept.of_below w3.heap.size Rw8 ba))
    clear ba hRl8
    go_wp2_with fail
    refine (Hw.out).mono ?_
    rintro e wa ⟨rfl, Rwa, hst, hke⟩
    have Twa := hid hst
    have Kwa := hid (Ka.out.trans hke)
    have Bwa := hid (HA.out.trans ((Kwa.out.below (b := w3.heap.size) (Nat.le_refl _) (fun k hk => by cases hk) (by simp))))
    clear hst hke
    have pa5 : wa.cell? ⟨w.heap.size + 1, 5, none⟩ = some (.slice P.D.A P.D.n P.D.c) := (Bwa.out.cell (p := ⟨w.heap.size + 1, 5, none⟩) Z3.out).trans C3.out.2.2.2
    go_wp2_with fail
    refine (stores_any w3.heap.size Rwa (((((([] ++ writtenL P.F.f P.F.g P.F.n) ++ linesL P.L.f P.L.n) ++ redoL (slotAt i s) P.R.f P.R.g P.R.n) ++ [(⟨4, 0, 0⟩ : Op3)]) ++ writtenL P.R.f P.R.g P.R.n) ++ writtenL (fun _ => slotAt i s) (fun _ => 0) 1) P.D.A P.D.n P.D.c P.D.f P.D.g _ Twa.out (pairs_below HP3.out.2.2.2 Bwa.out) (fun h0 => apart_pairs HP3.out.2.2.2 h0 (fun q hq => Kwa.out.far q hq (by simp))) (by (try simp only [List.length_append]); (try simp only [List.length_cons]); (try simp only [List.length_nil]); omega)).mono ?_
    rintro e w9 ⟨rfl, R9, hst, hke⟩
    have T9 := hid hst
    have K9 := hid (Kwa.out.trans hke)
    clear hst hke pa5
    obtain ⟨v9, hS9, how9, -, -⟩ := T9.out
    have c9 : w9.cell? ⟨w3.heap.size, 0, none⟩ = some v9 := cell_of_row w9 w3.heap.size 0 #[v9] 82 (0, 0) hS9
    have Ho9 := hid how9
    clear hS9 how9
    go_wp2
    go_ret2
    refine ⟨v9, rfl, ?_, B3.out.trans ((HA.out.trans (K9.out.below (b := w3.heap.size) (Nat.le_refl _) (fun k hk => by cases hk) (by simp))).mono B3.out.size)⟩
    refine ⟨?_, cap_of_own Ho9.out⟩
    have e := ops_of_own rfl Ho9.out
    unfold stepsL
    rw [if_neg hR0]
    rw [← List.append_assoc]
    exact e
theorem steps_okC (p i b s : Int) (P : PlanD) (w : World) (hsm : P.small) (hp : PlanAt w P) (hv : errE p i b s P = 0) (hg : ∀ k, k < P.R.n → 0 ≤ P.R.g k) :
    Calls Try.prog 10 #[.agg #[.int .i64 p, .int .i64 i, .int .i64 b], .int .i64 s, .agg #[.int .i64 P.err, .int .i64 P.ino, .slice P.F.A P.F.n P.F.c, .slice P.L.A P.L.n P.L.c, .slice P.R.A P.R.n P.R.c, .slice P.D.A P.D.n P.D.c]] w fun e w' => ∃ v, e = .returned (.tuple #[v, .int .i64 0]) ∧ (OpsAt w' v (stepsL (slotAt i s) P) ∧ ∃ A n c, v = .slice A n c ∧ n ≤ c) ∧ Below w.heap.size w w' := by
  obtain ⟨h1, h2, h3, h4⟩ := errE_zero hv
  exact steps_yesC p i b s P w h1 h2 h3 hsm hp h4 hg
end Go.Proofs.Ytimfnimcmfjjpaa
