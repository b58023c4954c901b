/- The law's helpers: Same of two rows of steps, or of entries; Large; copied. -/
import Derived.Test.YtimfnimcmfjjpaaRStepsB
namespace Go.Proofs.Ytimfnimcmfjjpaa
open Go.RowKit
theorem below_drewN {B : Nat} {w w' : World} (h : Below B w w') (n : Nat) : Below B w (w'.drewN n) := ⟨h.os, h.tape, h.output, h.size, h.block⟩
set_option maxHeartbeats 1000000 in
set_option maxRecDepth 100000 in
theorem same_ops (va vb : Value) (L : List Op3) (w : World) (hl : L.length ≤ 1000000) (ha : OpsAt w va L) (hb : OpsAt w vb L) :
    Calls Try.prog 12 #[va, vb] w fun e w' => e = .returned (.bool true) ∧ Below w.heap.size w w' := by
  obtain ⟨A, ca, rfl, ha⟩ := ha
  obtain ⟨B, cb, rfl, hb⟩ := hb
  obtain ⟨n, hn⟩ : ∃ n, n = L.length := ⟨_, rfl⟩
  rw [← hn] at hl ⊢
  have Ha := hid ha
  have Hb := hid hb
  have HN := hid hn
  clear ha hb hn
  go_enter Try.func12, Try.ntmps12
  go_wp2
  go_loopw [5] (fun v wr => ∃ k : Nat, k ≤ n ∧ v = .int .i64 k ∧ Below w.heap.size w wr) (fun v _ => n - (intOf v).toNat)
  case atStart => exact ⟨0, by omega, rfl, Below.refl _ _⟩
  case round =>
    obtain ⟨k, hk, rfl, hB⟩ := hrel
    have HB := hid hB
    clear hB
    by_cases hlt : k < n
    · have hkL : k < L.length := by rw [← HN.out]; exact hlt
      obtain ⟨q, rfl, hql, hqc⟩ : ∃ q, A = some ⟨q, 0, none⟩ ∧ q < w.heap.size ∧ (w.cell? ⟨q, k * 3, none⟩ = some (.int .u8 L[k].k) ∧ w.cell? ⟨q, k * 3 + 1, none⟩ = some (.int .i64 L[k].a) ∧ w.cell? ⟨q, k * 3 + 2, none⟩ = some (.int .u64 L[k].w)) := by
        rcases Ha.out with h0 | ⟨q, e, h1, h2⟩
        · omega
        · exact ⟨q, e, h1, h2 k hkL⟩
      obtain ⟨q2, rfl, hql2, hqc2⟩ : ∃ q, B = some ⟨q, 0, none⟩ ∧ q < w.heap.size ∧ (w.cell? ⟨q, k * 3, none⟩ = some (.int .u8 L[k].k) ∧ w.cell? ⟨q, k * 3 + 1, none⟩ = some (.int .i64 L[k].a) ∧ w.cell? ⟨q, k * 3 + 2, none⟩ = some (.int .u64 L[k].w)) := by
        rcases Hb.out with h0 | ⟨q, e, h1, h2⟩
        · omega
        · exact ⟨q, e, h1, h2 k hkL⟩
      generalize L[k] = o at hqc hqc2
      have a0 := (HB.out.cell (p := ⟨q, k * 3, none⟩) hql).trans hqc.1
      have a1 := (HB.out.cell (p := ⟨q, k * 3 + 1, none⟩) hql).trans hqc.2.1
      have a2 := (HB.out.cell (p := ⟨q, k * 3 + 2, none⟩) hql).trans hqc.2.2
      have b0 := (HB.out.cell (p := ⟨q2, k * 3, none⟩) hql2).trans hqc2.1
      have b1 := (HB.out.cell (p := ⟨q2, k * 3 + 1, none⟩) hql2).trans hqc2.2.1
      have b2 := (HB.out.cell (p := ⟨q2, k * 3 + 2, none⟩) hql2).trans hqc2.2.2
      clear hqc hqc2
      have hlt' : (k : Int) < (n : Int) := by omega
      have h0k : (0 : Int) ≤ (k : Int) := by omega
      go_wp2
      go_quiet (fail)
      go_wp2
      go_roundw
      case rel => exact ⟨k + 1, by omega, by go_num, below_drewN HB.out _⟩
      case measure => simp [intOf]; omega
    · obtain rfl : n = k := by omega
      go_wp2
      go_ret
      exact ⟨rfl, HB.out⟩
set_option maxHeartbeats 1000000 in
set_option maxRecDepth 100000 in
theorem same_redo (A B : Option Addr) (n ca cb : Nat) (f g : Nat → Int) (w : World) (hl : n ≤ 1000000) (ha : PairsAt w A n f g) (hb : PairsAt w B n f g) :
    Calls Try.prog 13 #[.slice A n ca, .slice B n cb] w fun e w' => e = .returned (.bool true) ∧ Below w.heap.size w w' := by
  have Ha := hid ha
  have Hb := hid hb
  clear ha hb
  go_enter Try.func13, Try.ntmps13
  go_wp2
  go_loopw [5] (fun v wr => ∃ k : Nat, k ≤ n ∧ v = .int .i64 k ∧ Below w.heap.size w wr) (fun v _ => n - (intOf v).toNat)
  case atStart => exact ⟨0, by omega, rfl, Below.refl _ _⟩
  case round =>
    obtain ⟨k, hk, rfl, hB⟩ := hrel
    have HB := hid hB
    clear hB
    by_cases hlt : k < n
    · obtain ⟨ad, rfl, hal, ha⟩ : ∃ ad, A = some ad ∧ ad.block < wr.heap.size ∧ (wr.cell? (ad.add (k * 2)) = some (.int .i64 (f k)) ∧ wr.cell? (ad.add (k * 2 + 1)) = some (.int .u64 (g k))) := by
        rcases pairs_below Ha.out HB.out with h0 | ⟨ad, e, h1, h2⟩
        · omega
        · exact ⟨ad, e, h1, h2 k hlt⟩
      obtain ⟨bd, rfl, hbl, hb⟩ : ∃ ad, B = some ad ∧ ad.block < wr.heap.size ∧ (wr.cell? (ad.add (k * 2)) = some (.int .i64 (f k)) ∧ wr.cell? (ad.add (k * 2 + 1)) = some (.int .u64 (g k))) := by
        rcases pairs_below Hb.out HB.out with h0 | ⟨ad, e, h1, h2⟩
        · omega
        · exact ⟨ad, e, h1, h2 k hlt⟩
      obtain ⟨a0, a1⟩ := ha
      obtain ⟨b0, b1⟩ := hb
      have a1' : wr.cell? ⟨(ad.add (k * 2)).block, (ad.add (k * 2)).off + 1, none⟩ = some (.int .u64 (g k)) := by rw [← add_lit (ad.add (k * 2)) 1 (by omega), Addr.add_add]; exact a1
      have b1' : wr.cell? ⟨(bd.add (k * 2)).block, (bd.add (k * 2)).off + 1, none⟩ = some (.int .u64 (g k)) := by rw [← add_lit (bd.add (k * 2)) 1 (by omega), Addr.add_add]; exact b1
      clear a1 b1
      have hlt' : (k : Int) < (n : Int) := by omega
      have h0k : (0 : Int) ≤ (k : Int) := by omega
      go_wp2
      go_quiet (fail)
      go_wp2
      go_roundw
      case rel => exact ⟨k + 1, by omega, by go_num, below_drewN HB.out _⟩
      case measure => simp [intOf]; omega
    · obtain rfl : n = k := by omega
      go_wp2
      go_ret
      exact ⟨rfl, HB.out⟩
/-- More than a statement looks at. -/
def largeB (p i b : Int) (P : PlanD) : Bool := decide (200 < P.F.n) || decide (200 < P.R.n) || decide (200 < P.D.n) || decide (200 < P.L.n) || (gok p i b && decide (40 < b))
set_option maxHeartbeats 1000000 in
set_option maxRecDepth 100000 in
theorem large_F (p i b : Int) (P : PlanD) (w : World)  (hF : 200 < P.F.n) :
    Calls Try.prog 7 #[.agg #[.int .i64 p, .int .i64 i, .int .i64 b], .agg #[.int .i64 P.err, .int .i64 P.ino, .slice P.F.A P.F.n P.F.c, .slice P.L.A P.L.n P.L.c, .slice P.R.A P.R.n P.R.c, .slice P.D.A P.D.n P.D.c]] w fun e w' => e = .returned (.bool true) ∧ Below w.heap.size w w' := by
  have b0 := hid (show Below w.heap.size w ((w.alloc (.cells #[.int .i64 p, .int .i64 i, .int .i64 b] 23)).alloc (.cells #[.int .i64 P.err, .int .i64 P.ino, .slice P.F.A P.F.n P.F.c, .slice P.L.A P.L.n P.L.c, .slice P.R.A P.R.n P.R.c, .slice P.D.A P.D.n P.D.c] 28)) from ((Below.refl _ _).alloc (Nat.le_refl _) _).alloc (by simp) _)
  have hsz : w.heap.size + 1 < ((w.alloc (.cells #[.int .i64 p, .int .i64 i, .int .i64 b] 23)).alloc (.cells #[.int .i64 P.err, .int .i64 P.ino, .slice P.F.A P.F.n P.F.c, .slice P.L.A P.L.n P.L.c, .slice P.R.A P.R.n P.R.c, .slice P.D.A P.D.n P.D.c] 28)).heap.size := by simp
  have zF : (200 : Int) < (P.F.n : Int) := by omega
  go_enter Try.func7, Try.ntmps7
  go_wp2_with fail
  go_ret
  exact ⟨rfl, b0.out⟩
set_option maxHeartbeats 1000000 in
set_option maxRecDepth 100000 in
theorem large_R (p i b : Int) (P : PlanD) (w : World) (hF : ¬ 200 < P.F.n) (hR : 200 < P.R.n) :
    Calls Try.prog 7 #[.agg #[.int .i64 p, .int .i64 i, .int .i64 b], .agg #[.int .i64 P.err, .int .i64 P.ino, .slice P.F.A P.F.n P.F.c, .slice P.L.A P.L.n P.L.c, .slice P.R.A P.R.n P.R.c, .slice P.D.A P.D.n P.D.c]] w fun e w' => e = .returned (.bool true) ∧ Below w.heap.size w w' := by
  have b0 := hid (show Below w.heap.size w ((w.alloc (.cells #[.int .i64 p, .int .i64 i, .int .i64 b] 23)).alloc (.cells #[.int .i64 P.err, .int .i64 P.ino, .slice P.F.A P.F.n P.F.c, .slice P.L.A P.L.n P.L.c, .slice P.R.A P.R.n P.R.c, .slice P.D.A P.D.n P.D.c] 28)) from ((Below.refl _ _).alloc (Nat.le_refl _) _).alloc (by simp) _)
  have hsz : w.heap.size + 1 < ((w.alloc (.cells #[.int .i64 p, .int .i64 i, .int .i64 b] 23)).alloc (.cells #[.int .i64 P.err, .int .i64 P.ino, .slice P.F.A P.F.n P.F.c, .slice P.L.A P.L.n P.L.c, .slice P.R.A P.R.n P.R.c, .slice P.D.A P.D.n P.D.c] 28)).heap.size := by simp
  have zF : ¬ (200 : Int) < (P.F.n : Int) := by omega
  have zR : (200 : Int) < (P.R.n : Int) := by omega
  go_enter Try.func7, Try.ntmps7
  go_wp2_with fail
  go_ret
  exact ⟨rfl, b0.out⟩
set_option maxHeartbeats 1000000 in
set_option maxRecDepth 100000 in
theorem large_D (p i b : Int) (P : PlanD) (w : World) (hF : ¬ 200 < P.F.n) (hR : ¬ 200 < P.R.n) (hD : 200 < P.D.n) :
    Calls Try.prog 7 #[.agg #[.int .i64 p, .int .i64 i, .int .i64 b], .agg #[.int .i64 P.err, .int .i64 P.ino, .slice P.F.A P.F.n P.F.c, .slice P.L.A P.L.n P.L.c, .slice P.R.A P.R.n P.R.c, .slice P.D.A P.D.n P.D.c]] w fun e w' => e = .returned (.bool true) ∧ Below w.heap.size w w' := by
  have b0 := hid (show Below w.heap.size w ((w.alloc (.cells #[.int .i64 p, .int .i64 i, .int .i64 b] 23)).alloc (.cells #[.int .i64 P.err, .int .i64 P.ino, .slice P.F.A P.F.n P.F.c, .slice P.L.A P.L.n P.L.c, .slice P.R.A P.R.n P.R.c, .slice P.D.A P.D.n P.D.c] 28)) from ((Below.refl _ _).alloc (Nat.le_refl _) _).alloc (by simp) _)
  have hsz : w.heap.size + 1 < ((w.alloc (.cells #[.int .i64 p, .int .i64 i, .int .i64 b] 23)).alloc (.cells #[.int .i64 P.err, .int .i64 P.ino, .slice P.F.A P.F.n P.F.c, .slice P.L.A P.L.n P.L.c, .slice P.R.A P.R.n P.R.c, .slice P.D.A P.D.n P.D.c] 28)).heap.size := by simp
  have zF : ¬ (200 : Int) < (P.F.n : Int) := by omega
  have zR : ¬ (200 : Int) < (P.R.n : Int) := by omega
  have zD : (200 : Int) < (P.D.n : Int) := by omega
  go_enter Try.func7, Try.ntmps7
  go_wp2_with fail
  go_ret
  exact ⟨rfl, b0.out⟩
set_option maxHeartbeats 1000000 in
set_option maxRecDepth 100000 in
theorem large_L (p i b : Int) (P : PlanD) (w : World) (hF : ¬ 200 < P.F.n) (hR : ¬ 200 < P.R.n) (hD : ¬ 200 < P.D.n) (hL : 200 < P.L.n) :
    Calls Try.prog 7 #[.agg #[.int .i64 p, .int .i64 i, .int .i64 b], .agg #[.int .i64 P.err, .int .i64 P.ino, .slice P.F.A P.F.n P.F.c, .slice P.L.A P.L.n P.L.c, .slice P.R.A P.R.n P.R.c, .slice P.D.A P.D.n P.D.c]] w fun e w' => e = .returned (.bool true) ∧ Below w.heap.size w w' := by
  have b0 := hid (show Below w.heap.size w ((w.alloc (.cells #[.int .i64 p, .int .i64 i, .int .i64 b] 23)).alloc (.cells #[.int .i64 P.err, .int .i64 P.ino, .slice P.F.A P.F.n P.F.c, .slice P.L.A P.L.n P.L.c, .slice P.R.A P.R.n P.R.c, .slice P.D.A P.D.n P.D.c] 28)) from ((Below.refl _ _).alloc (Nat.le_refl _) _).alloc (by simp) _)
  have hsz : w.heap.size + 1 < ((w.alloc (.cells #[.int .i64 p, .int .i64 i, .int .i64 b] 23)).alloc (.cells #[.int .i64 P.err, .int .i64 P.ino, .slice P.F.A P.F.n P.F.c, .slice P.L.A P.L.n P.L.c, .slice P.R.A P.R.n P.R.c, .slice P.D.A P.D.n P.D.c] 28)).heap.size := by simp
  have zF : ¬ (200 : Int) < (P.F.n : Int) := by omega
  have zR : ¬ (200 : Int) < (P.R.n : Int) := by omega
  have zD : ¬ (200 : Int) < (P.D.n : Int) := by omega
  have zL : (200 : Int) < (P.L.n : Int) := by omega
  go_enter Try.func7, Try.ntmps7
  go_wp2_with fail
  go_ret
  exact ⟨rfl, b0.out⟩
set_option maxHeartbeats 1000000 in
set_option maxRecDepth 100000 in
theorem large_G (p i b : Int) (P : PlanD) (w : World) (hF : ¬ 200 < P.F.n) (hR : ¬ 200 < P.R.n) (hD : ¬ 200 < P.D.n) (hL : ¬ 200 < P.L.n) (r : Bool) (hr : (gok p i b && decide (40 < b)) = r) :
    Calls Try.prog 7 #[.agg #[.int .i64 p, .int .i64 i, .int .i64 b], .agg #[.int .i64 P.err, .int .i64 P.ino, .slice P.F.A P.F.n P.F.c, .slice P.L.A P.L.n P.L.c, .slice P.R.A P.R.n P.R.c, .slice P.D.A P.D.n P.D.c]] w fun e w' => e = .returned (.bool r) ∧ Below w.heap.size w w' := by
  have b0 := hid (show Below w.heap.size w ((w.alloc (.cells #[.int .i64 p, .int .i64 i, .int .i64 b] 23)).alloc (.cells #[.int .i64 P.err, .int .i64 P.ino, .slice P.F.A P.F.n P.F.c, .slice P.L.A P.L.n P.L.c, .slice P.R.A P.R.n P.R.c, .slice P.D.A P.D.n P.D.c] 28)) from ((Below.refl _ _).alloc (Nat.le_refl _) _).alloc (by simp) _)
  have hsz : w.heap.size + 1 < ((w.alloc (.cells #[.int .i64 p, .int .i64 i, .int .i64 b] 23)).alloc (.cells #[.int .i64 P.err, .int .i64 P.ino, .slice P.F.A P.F.n P.F.c, .slice P.L.A P.L.n P.L.c, .slice P.R.A P.R.n P.R.c, .slice P.D.A P.D.n P.D.c] 28)).heap.size := by simp
  have zF : ¬ (200 : Int) < (P.F.n : Int) := by omega
  have zR : ¬ (200 : Int) < (P.R.n : Int) := by omega
  have zD : ¬ (200 : Int) < (P.D.n : Int) := by omega
  have zL : ¬ (200 : Int) < (P.L.n : Int) := by omega
  have HR := hid hr
  clear hr
  cases hg : gok p i b
  · have Hg := hid hg
    clear hg
    go_enter Try.func7, Try.ntmps7
    go_wp2_with fail
    refine (gok_is p i b false _ Hg.out).mono ?_
    rintro e w1 ⟨rfl, hb⟩
    have B1 := hid (b0.out.trans (hb.mono b0.out.size))
    clear hb
    go_wp2_with fail
    go_ret
    have hR := HR.out
    rw [Hg.out] at hR
    exact ⟨ret_bool (by rw [← hR]; rfl), B1.out⟩
  · have Hg := hid hg
    clear hg
    go_enter Try.func7, Try.ntmps7
    go_wp2_with fail
    refine (gok_is p i b true _ Hg.out).mono ?_
    rintro e w1 ⟨rfl, hb⟩
    have B1 := hid (b0.out.trans (hb.mono b0.out.size))
    have g2 : w1.cell? ⟨w.heap.size, 2, none⟩ = some (.int .i64 b) := (hb.cell (p := ⟨w.heap.size, 2, none⟩) (Nat.lt_of_succ_lt hsz)).trans (by simp)
    clear hb
    go_wp2_with fail
    go_ret
    have hR := HR.out
    rw [Hg.out] at hR
    exact ⟨ret_bool (by rw [← hR]; rfl), B1.out⟩
theorem large_any (p i b : Int) (P : PlanD) (w : World) (r : Bool) (hr : largeB p i b P = r) :
    Calls Try.prog 7 #[.agg #[.int .i64 p, .int .i64 i, .int .i64 b], .agg #[.int .i64 P.err, .int .i64 P.ino, .slice P.F.A P.F.n P.F.c, .slice P.L.A P.L.n P.L.c, .slice P.R.A P.R.n P.R.c, .slice P.D.A P.D.n P.D.c]] w fun e w' => e = .returned (.bool r) ∧ Below w.heap.size w w' := by
  unfold largeB at hr
  by_cases hF : 200 < P.F.n
  · obtain rfl : true = r := by rw [← hr, decide_eq_true hF]; rfl
    exact large_F p i b P w hF
  · by_cases hR : 200 < P.R.n
    · obtain rfl : true = r := by rw [← hr, decide_eq_true hR, decide_eq_false hF]; rfl
      exact large_R p i b P w hF hR
    · by_cases hD : 200 < P.D.n
      · obtain rfl : true = r := by rw [← hr, decide_eq_true hD, decide_eq_false hF, decide_eq_false hR]; rfl
        exact large_D p i b P w hF hR hD
      · by_cases hL : 200 < P.L.n
        · obtain rfl : true = r := by rw [← hr, decide_eq_true hL, decide_eq_false hF, decide_eq_false hR, decide_eq_false hD]; rfl
          exact large_L p i b P w hF hR hD hL
        · refine large_G p i b P w hF hR hD hL r ?_
          rw [← hr, decide_eq_false hF, decide_eq_false hR, decide_eq_false hD, decide_eq_false hL]
          rfl
theorem large_small {p i b : Int} {P : PlanD} (h : largeB p i b P = false) : P.F.n ≤ 200 ∧ P.R.n ≤ 200 ∧ P.D.n ≤ 200 ∧ P.L.n ≤ 200 ∧ (gok p i b = true → b ≤ 40) := by
  unfold largeB at h
  simp only [Bool.or_eq_false_iff, decide_eq_false_iff_not] at h
  obtain ⟨⟨⟨⟨h1, h2⟩, h3⟩, h4⟩, h5⟩ := h
  refine ⟨by omega, by omega, by omega, by omega, fun hg => ?_⟩
  rw [hg] at h5
  simp at h5
  exact h5
end Go.Proofs.Ytimfnimcmfjjpaa
