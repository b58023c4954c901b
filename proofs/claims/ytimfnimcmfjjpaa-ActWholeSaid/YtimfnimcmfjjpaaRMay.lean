/- The document's answer: may a plan be done? -/
import Derived.Test.YtimfnimcmfjjpaaPlace
namespace Go.Proofs.Ytimfnimcmfjjpaa
open Go.RowKit
set_option maxHeartbeats 1000000 in
set_option maxRecDepth 100000 in
theorem inside_any (A : Option Addr) (m c : Nat) (f g : Nat → Int) (W : Int) (w : World) (hm : m ≤ 1000000) (hp : PairsAt w A m f g) :
    Calls Try.prog 40 #[.slice A m c, .int .i64 W] w fun e w' => e = .returned (.bool (!farB f m W)) ∧ w = w' := by
  have HP := hid hp
  clear hp
  go_enter Try.func40, Try.ntmps40
  go_wp2
  go_loop [5] (fun i => ∃ k : Nat, k ≤ m ∧ i = .int .i64 k ∧ ∀ j, j < k → 0 ≤ f j ∧ f j < W) (fun i => m - (intOf i).toNat)
  case atStart => exact ⟨0, by omega, rfl, fun j hj => by omega⟩
  case round =>
    obtain ⟨k, hk, rfl, hno⟩ := hrel
    have Hno := hid hno
    clear hno
    by_cases hlt : k < m
    · have hlt' : (k : Int) < (m : Int) := by omega
      obtain ⟨ad, rfl, hc⟩ : ∃ ad, A = some ad ∧ ∀ k, k < m → w.cell? (ad.add (k * 2)) = some (.int .i64 (f k)) := by
        rcases HP.out with h0 | ⟨ad, e, -, h⟩
        · omega
        · exact ⟨ad, e, fun k hk => (h k hk).1⟩
      have c0 := hc k hlt
      clear hc
      by_cases h0 : f k < 0
      · have Hf := hid (farB_true (L := W).2 ⟨k, hlt, .inl h0⟩)
        go_wp2
        go_ret
        exact ⟨by rw [Hf.out]; rfl, rfl⟩
      · by_cases h1 : W ≤ f k
        · have Hf := hid (farB_true.2 ⟨k, hlt, .inr h1⟩)
          go_wp2
          go_ret
          exact ⟨by rw [Hf.out]; rfl, rfl⟩
        · go_wp2
          go_round
          case rel => exact ⟨k + 1, by omega, by go_num, fun j hj => if h : j = k then by subst h; omega else Hno.out j (by omega)⟩
          case measure => simp [intOf]; omega
    · obtain rfl : m = k := by omega
      have Hf := hid (farB_false.2 Hno.out)
      go_wp2
      go_ret
      exact ⟨by rw [Hf.out]; rfl, rfl⟩
theorem inside_is (A : Option Addr) (m c : Nat) (f g : Nat → Int) (W : Int) (r : Bool) (w : World) (hm : m ≤ 1000000) (hp : PairsAt w A m f g) (hr : farB f m W = !r) :
    Calls Try.prog 40 #[.slice A m c, .int .i64 W] w fun e w' => e = .returned (.bool r) ∧ w = w' := by
  have := inside_any A m c f g W w hm hp
  rw [hr, Bool.not_not] at this
  exact this
def lastE (P : PlanD) (l : Int) : Int := if farB P.L.f P.L.n l = true then 2 else if 64 < P.R.n then 5 else 0
/-- The error of a plan: 0, if it may be done. -/
def errE (p i b s : Int) (P : PlanD) : Int := if gok p i b = true ∧ 0 ≤ s ∧ s < p then mayE P (linesN p i b) else 2
theorem rwords_ok (p i b : Int) (w : World) (h : gok p i b = true) :
    Calls Try.prog 35 #[.agg #[.int .i64 p, .int .i64 i, .int .i64 b]] w fun e w' => e = .returned (.int .i64 (8 * linesN p i b)) ∧ Below w.heap.size w w' := by
  obtain ⟨h1, h2, h3, h4, h5, h6⟩ := gok_iff.1 h
  obtain ⟨p', rfl⟩ := Int.eq_ofNat_of_zero_le (show 0 ≤ p by omega)
  obtain ⟨i', rfl⟩ := Int.eq_ofNat_of_zero_le (show 0 ≤ i by omega)
  obtain ⟨b', rfl⟩ := Int.eq_ofNat_of_zero_le (show 0 ≤ b by omega)
  refine (rwn_any p' i' b' w (by omega) (by omega) (by omega)).mono fun e w' ⟨he, hb⟩ => ⟨he.trans (ret_int ?_), hb⟩
  rw [spanOff_c]
  unfold linesN
  omega
theorem rplace_ok (p i b s : Int) (w : World) (h : gok p i b = true) (hs : 0 ≤ s) (hs2 : s < p) :
    Calls Try.prog 15 #[.agg #[.int .i64 p, .int .i64 i, .int .i64 b], .int .u8 4, .int .i64 s] w fun e w' => e = .returned (.tuple #[.int .i64 (slotAt i s), .bool true]) ∧ Below w.heap.size w w' := by
  obtain ⟨h1, h2, h3, h4, h5, h6⟩ := gok_iff.1 h
  obtain ⟨p', rfl⟩ := Int.eq_ofNat_of_zero_le (show 0 ≤ p by omega)
  obtain ⟨i', rfl⟩ := Int.eq_ofNat_of_zero_le (show 0 ≤ i by omega)
  obtain ⟨b', rfl⟩ := Int.eq_ofNat_of_zero_le (show 0 ≤ b by omega)
  obtain ⟨s', rfl⟩ := Int.eq_ofNat_of_zero_le hs
  refine (rplace_any p' i' b' s' w (by omega) (by omega) (by omega) (by omega)).mono fun e w' ⟨he, hb⟩ => ⟨he.trans ?_, hb⟩
  rw [show ((8 * (2 + i' + 17 * s') : Nat) : Int) = slotAt (i' : Int) (s' : Int) by unfold slotAt; omega]
theorem gok_is (p i b : Int) (r : Bool) (w : World) (h : gok p i b = r) :
    Calls Try.prog 25 #[.agg #[.int .i64 p, .int .i64 i, .int .i64 b]] w fun e w' => e = .returned (.bool r) ∧ Below w.heap.size w w' := by
  subst h
  exact rgeom_any p i b w
set_option maxHeartbeats 4000000 in
set_option maxRecDepth 100000 in
theorem rmay_geom (p i b s : Int) (P : PlanD) (w : World) (h : gok p i b = false) :
    Calls Try.prog 14 #[.agg #[.int .i64 p, .int .i64 i, .int .i64 b], .int .i64 s, .agg #[.int .i64 P.err, .int .i64 P.ino, .slice P.F.A P.F.n P.F.c, .slice P.L.A P.L.n P.L.c, .slice P.R.A P.R.n P.R.c, .slice P.D.A P.D.n P.D.c]] w fun e w' => e = .returned (.int .i64 2) ∧ Below w.heap.size w w' := by
  have H := hid h
  clear h
  have b0 := hid (show Below w.heap.size w ((w.alloc (.cells #[.int .i64 p, .int .i64 i, .int .i64 b] 23)).alloc (.cells #[.int .i64 P.err, .int .i64 P.ino, .slice P.F.A P.F.n P.F.c, .slice P.L.A P.L.n P.L.c, .slice P.R.A P.R.n P.R.c, .slice P.D.A P.D.n P.D.c] 28)) from ((Below.refl _ _).alloc (Nat.le_refl _) _).alloc (by simp) _)
  have hsz : w.heap.size + 1 < ((w.alloc (.cells #[.int .i64 p, .int .i64 i, .int .i64 b] 23)).alloc (.cells #[.int .i64 P.err, .int .i64 P.ino, .slice P.F.A P.F.n P.F.c, .slice P.L.A P.L.n P.L.c, .slice P.R.A P.R.n P.R.c, .slice P.D.A P.D.n P.D.c] 28)).heap.size := by simp
  go_enter Try.func14, Try.ntmps14
  go_wp2_with fail
  refine (gok_is p i b false _ H.out).mono ?_
  rintro e w1 ⟨rfl, hb⟩
  have B1 := hid (b0.out.trans (hb.mono b0.out.size))
  have Z1 : Hid (w.heap.size + 1 < w1.heap.size) := Nat.lt_of_lt_of_le hsz hb.size
  have g10 : w1.cell? ⟨w.heap.size, 0, none⟩ = some (.int .i64 p) := (hb.cell (p := ⟨w.heap.size, 0, none⟩) (Nat.lt_of_succ_lt hsz)).trans (by simp)
  have g11 : w1.cell? ⟨w.heap.size, 1, none⟩ = some (.int .i64 i) := (hb.cell (p := ⟨w.heap.size, 1, none⟩) (Nat.lt_of_succ_lt hsz)).trans (by simp)
  have g12 : w1.cell? ⟨w.heap.size, 2, none⟩ = some (.int .i64 b) := (hb.cell (p := ⟨w.heap.size, 2, none⟩) (Nat.lt_of_succ_lt hsz)).trans (by simp)
  have p10 : w1.cell? ⟨w.heap.size + 1, 0, none⟩ = some (.int .i64 P.err) := (hb.cell (p := ⟨w.heap.size + 1, 0, none⟩) hsz).trans (by simp)
  have p11 : w1.cell? ⟨w.heap.size + 1, 1, none⟩ = some (.int .i64 P.ino) := (hb.cell (p := ⟨w.heap.size + 1, 1, none⟩) hsz).trans (by simp)
  have p12 : w1.cell? ⟨w.heap.size + 1, 2, none⟩ = some (.slice P.F.A P.F.n P.F.c) := (hb.cell (p := ⟨w.heap.size + 1, 2, none⟩) hsz).trans (by simp)
  have p13 : w1.cell? ⟨w.heap.size + 1, 3, none⟩ = some (.slice P.L.A P.L.n P.L.c) := (hb.cell (p := ⟨w.heap.size + 1, 3, none⟩) hsz).trans (by simp)
  have p14 : w1.cell? ⟨w.heap.size + 1, 4, none⟩ = some (.slice P.R.A P.R.n P.R.c) := (hb.cell (p := ⟨w.heap.size + 1, 4, none⟩) hsz).trans (by simp)
  have p15 : w1.cell? ⟨w.heap.size + 1, 5, none⟩ = some (.slice P.D.A P.D.n P.D.c) := (hb.cell (p := ⟨w.heap.size + 1, 5, none⟩) hsz).trans (by simp)
  clear hb
  go_wp2_with fail
  go_ret
  exact ⟨rfl, B1.out⟩
set_option maxHeartbeats 4000000 in
set_option maxRecDepth 100000 in
theorem rmay_slot0 (p i b s : Int) (P : PlanD) (w : World) (h : gok p i b = true) (hs : s < 0) :
    Calls Try.prog 14 #[.agg #[.int .i64 p, .int .i64 i, .int .i64 b], .int .i64 s, .agg #[.int .i64 P.err, .int .i64 P.ino, .slice P.F.A P.F.n P.F.c, .slice P.L.A P.L.n P.L.c, .slice P.R.A P.R.n P.R.c, .slice P.D.A P.D.n P.D.c]] w fun e w' => e = .returned (.int .i64 2) ∧ Below w.heap.size w w' := by
  have H := hid h
  clear h
  have b0 := hid (show Below w.heap.size w ((w.alloc (.cells #[.int .i64 p, .int .i64 i, .int .i64 b] 23)).alloc (.cells #[.int .i64 P.err, .int .i64 P.ino, .slice P.F.A P.F.n P.F.c, .slice P.L.A P.L.n P.L.c, .slice P.R.A P.R.n P.R.c, .slice P.D.A P.D.n P.D.c] 28)) from ((Below.refl _ _).alloc (Nat.le_refl _) _).alloc (by simp) _)
  have hsz : w.heap.size + 1 < ((w.alloc (.cells #[.int .i64 p, .int .i64 i, .int .i64 b] 23)).alloc (.cells #[.int .i64 P.err, .int .i64 P.ino, .slice P.F.A P.F.n P.F.c, .slice P.L.A P.L.n P.L.c, .slice P.R.A P.R.n P.R.c, .slice P.D.A P.D.n P.D.c] 28)).heap.size := by simp
  go_enter Try.func14, Try.ntmps14
  go_wp2_with fail
  refine (gok_is p i b true _ H.out).mono ?_
  rintro e w1 ⟨rfl, hb⟩
  have B1 := hid (b0.out.trans (hb.mono b0.out.size))
  have Z1 : Hid (w.heap.size + 1 < w1.heap.size) := Nat.lt_of_lt_of_le hsz hb.size
  have g10 : w1.cell? ⟨w.heap.size, 0, none⟩ = some (.int .i64 p) := (hb.cell (p := ⟨w.heap.size, 0, none⟩) (Nat.lt_of_succ_lt hsz)).trans (by simp)
  have g11 : w1.cell? ⟨w.heap.size, 1, none⟩ = some (.int .i64 i) := (hb.cell (p := ⟨w.heap.size, 1, none⟩) (Nat.lt_of_succ_lt hsz)).trans (by simp)
  have g12 : w1.cell? ⟨w.heap.size, 2, none⟩ = some (.int .i64 b) := (hb.cell (p := ⟨w.heap.size, 2, none⟩) (Nat.lt_of_succ_lt hsz)).trans (by simp)
  have p10 : w1.cell? ⟨w.heap.size + 1, 0, none⟩ = some (.int .i64 P.err) := (hb.cell (p := ⟨w.heap.size + 1, 0, none⟩) hsz).trans (by simp)
  have p11 : w1.cell? ⟨w.heap.size + 1, 1, none⟩ = some (.int .i64 P.ino) := (hb.cell (p := ⟨w.heap.size + 1, 1, none⟩) hsz).trans (by simp)
  have p12 : w1.cell? ⟨w.heap.size + 1, 2, none⟩ = some (.slice P.F.A P.F.n P.F.c) := (hb.cell (p := ⟨w.heap.size + 1, 2, none⟩) hsz).trans (by simp)
  have p13 : w1.cell? ⟨w.heap.size + 1, 3, none⟩ = some (.slice P.L.A P.L.n P.L.c) := (hb.cell (p := ⟨w.heap.size + 1, 3, none⟩) hsz).trans (by simp)
  have p14 : w1.cell? ⟨w.heap.size + 1, 4, none⟩ = some (.slice P.R.A P.R.n P.R.c) := (hb.cell (p := ⟨w.heap.size + 1, 4, none⟩) hsz).trans (by simp)
  have p15 : w1.cell? ⟨w.heap.size + 1, 5, none⟩ = some (.slice P.D.A P.D.n P.D.c) := (hb.cell (p := ⟨w.heap.size + 1, 5, none⟩) hsz).trans (by simp)
  clear hb
  go_wp2_with fail
  go_ret
  exact ⟨rfl, B1.out⟩
set_option maxHeartbeats 4000000 in
set_option maxRecDepth 100000 in
theorem rmay_slot1 (p i b s : Int) (P : PlanD) (w : World) (h : gok p i b = true) (hs : 0 ≤ s) (hs2 : p ≤ s) :
    Calls Try.prog 14 #[.agg #[.int .i64 p, .int .i64 i, .int .i64 b], .int .i64 s, .agg #[.int .i64 P.err, .int .i64 P.ino, .slice P.F.A P.F.n P.F.c, .slice P.L.A P.L.n P.L.c, .slice P.R.A P.R.n P.R.c, .slice P.D.A P.D.n P.D.c]] w fun e w' => e = .returned (.int .i64 2) ∧ Below w.heap.size w w' := by
  have H := hid h
  clear h
  have b0 := hid (show Below w.heap.size w ((w.alloc (.cells #[.int .i64 p, .int .i64 i, .int .i64 b] 23)).alloc (.cells #[.int .i64 P.err, .int .i64 P.ino, .slice P.F.A P.F.n P.F.c, .slice P.L.A P.L.n P.L.c, .slice P.R.A P.R.n P.R.c, .slice P.D.A P.D.n P.D.c] 28)) from ((Below.refl _ _).alloc (Nat.le_refl _) _).alloc (by simp) _)
  have hsz : w.heap.size + 1 < ((w.alloc (.cells #[.int .i64 p, .int .i64 i, .int .i64 b] 23)).alloc (.cells #[.int .i64 P.err, .int .i64 P.ino, .slice P.F.A P.F.n P.F.c, .slice P.L.A P.L.n P.L.c, .slice P.R.A P.R.n P.R.c, .slice P.D.A P.D.n P.D.c] 28)).heap.size := by simp
  go_enter Try.func14, Try.ntmps14
  go_wp2_with fail
  refine (gok_is p i b true _ H.out).mono ?_
  rintro e w1 ⟨rfl, hb⟩
  have B1 := hid (b0.out.trans (hb.mono b0.out.size))
  have Z1 : Hid (w.heap.size + 1 < w1.heap.size) := Nat.lt_of_lt_of_le hsz hb.size
  have g10 : w1.cell? ⟨w.heap.size, 0, none⟩ = some (.int .i64 p) := (hb.cell (p := ⟨w.heap.size, 0, none⟩) (Nat.lt_of_succ_lt hsz)).trans (by simp)
  have g11 : w1.cell? ⟨w.heap.size, 1, none⟩ = some (.int .i64 i) := (hb.cell (p := ⟨w.heap.size, 1, none⟩) (Nat.lt_of_succ_lt hsz)).trans (by simp)
  have g12 : w1.cell? ⟨w.heap.size, 2, none⟩ = some (.int .i64 b) := (hb.cell (p := ⟨w.heap.size, 2, none⟩) (Nat.lt_of_succ_lt hsz)).trans (by simp)
  have p10 : w1.cell? ⟨w.heap.size + 1, 0, none⟩ = some (.int .i64 P.err) := (hb.cell (p := ⟨w.heap.size + 1, 0, none⟩) hsz).trans (by simp)
  have p11 : w1.cell? ⟨w.heap.size + 1, 1, none⟩ = some (.int .i64 P.ino) := (hb.cell (p := ⟨w.heap.size + 1, 1, none⟩) hsz).trans (by simp)
  have p12 : w1.cell? ⟨w.heap.size + 1, 2, none⟩ = some (.slice P.F.A P.F.n P.F.c) := (hb.cell (p := ⟨w.heap.size + 1, 2, none⟩) hsz).trans (by simp)
  have p13 : w1.cell? ⟨w.heap.size + 1, 3, none⟩ = some (.slice P.L.A P.L.n P.L.c) := (hb.cell (p := ⟨w.heap.size + 1, 3, none⟩) hsz).trans (by simp)
  have p14 : w1.cell? ⟨w.heap.size + 1, 4, none⟩ = some (.slice P.R.A P.R.n P.R.c) := (hb.cell (p := ⟨w.heap.size + 1, 4, none⟩) hsz).trans (by simp)
  have p15 : w1.cell? ⟨w.heap.size + 1, 5, none⟩ = some (.slice P.D.A P.D.n P.D.c) := (hb.cell (p := ⟨w.heap.size + 1, 5, none⟩) hsz).trans (by simp)
  clear hb
  go_wp2_with fail
  go_ret
  exact ⟨rfl, B1.out⟩
set_option maxHeartbeats 4000000 in
set_option maxRecDepth 100000 in
theorem rmay_err (p i b s : Int) (P : PlanD) (w : World) (h : gok p i b = true) (hs : 0 ≤ s) (hs2 : s < p) (he : P.err ≠ 0) :
    Calls Try.prog 14 #[.agg #[.int .i64 p, .int .i64 i, .int .i64 b], .int .i64 s, .agg #[.int .i64 P.err, .int .i64 P.ino, .slice P.F.A P.F.n P.F.c, .slice P.L.A P.L.n P.L.c, .slice P.R.A P.R.n P.R.c, .slice P.D.A P.D.n P.D.c]] w fun e w' => e = .returned (.int .i64 2) ∧ Below w.heap.size w w' := by
  have H := hid h
  have he' : (P.err == 0) = false := by simpa using he
  have he2 : (P.err != 0) = true := by simp [bne, he']
  clear h he
  have b0 := hid (show Below w.heap.size w ((w.alloc (.cells #[.int .i64 p, .int .i64 i, .int .i64 b] 23)).alloc (.cells #[.int .i64 P.err, .int .i64 P.ino, .slice P.F.A P.F.n P.F.c, .slice P.L.A P.L.n P.L.c, .slice P.R.A P.R.n P.R.c, .slice P.D.A P.D.n P.D.c] 28)) from ((Below.refl _ _).alloc (Nat.le_refl _) _).alloc (by simp) _)
  have hsz : w.heap.size + 1 < ((w.alloc (.cells #[.int .i64 p, .int .i64 i, .int .i64 b] 23)).alloc (.cells #[.int .i64 P.err, .int .i64 P.ino, .slice P.F.A P.F.n P.F.c, .slice P.L.A P.L.n P.L.c, .slice P.R.A P.R.n P.R.c, .slice P.D.A P.D.n P.D.c] 28)).heap.size := by simp
  go_enter Try.func14, Try.ntmps14
  go_wp2_with fail
  refine (gok_is p i b true _ H.out).mono ?_
  rintro e w1 ⟨rfl, hb⟩
  have B1 := hid (b0.out.trans (hb.mono b0.out.size))
  have Z1 : Hid (w.heap.size + 1 < w1.heap.size) := Nat.lt_of_lt_of_le hsz hb.size
  have g10 : w1.cell? ⟨w.heap.size, 0, none⟩ = some (.int .i64 p) := (hb.cell (p := ⟨w.heap.size, 0, none⟩) (Nat.lt_of_succ_lt hsz)).trans (by simp)
  have g11 : w1.cell? ⟨w.heap.size, 1, none⟩ = some (.int .i64 i) := (hb.cell (p := ⟨w.heap.size, 1, none⟩) (Nat.lt_of_succ_lt hsz)).trans (by simp)
  have g12 : w1.cell? ⟨w.heap.size, 2, none⟩ = some (.int .i64 b) := (hb.cell (p := ⟨w.heap.size, 2, none⟩) (Nat.lt_of_succ_lt hsz)).trans (by simp)
  have p10 : w1.cell? ⟨w.heap.size + 1, 0, none⟩ = some (.int .i64 P.err) := (hb.cell (p := ⟨w.heap.size + 1, 0, none⟩) hsz).trans (by simp)
  have p11 : w1.cell? ⟨w.heap.size + 1, 1, none⟩ = some (.int .i64 P.ino) := (hb.cell (p := ⟨w.heap.size + 1, 1, none⟩) hsz).trans (by simp)
  have p12 : w1.cell? ⟨w.heap.size + 1, 2, none⟩ = some (.slice P.F.A P.F.n P.F.c) := (hb.cell (p := ⟨w.heap.size + 1, 2, none⟩) hsz).trans (by simp)
  have p13 : w1.cell? ⟨w.heap.size + 1, 3, none⟩ = some (.slice P.L.A P.L.n P.L.c) := (hb.cell (p := ⟨w.heap.size + 1, 3, none⟩) hsz).trans (by simp)
  have p14 : w1.cell? ⟨w.heap.size + 1, 4, none⟩ = some (.slice P.R.A P.R.n P.R.c) := (hb.cell (p := ⟨w.heap.size + 1, 4, none⟩) hsz).trans (by simp)
  have p15 : w1.cell? ⟨w.heap.size + 1, 5, none⟩ = some (.slice P.D.A P.D.n P.D.c) := (hb.cell (p := ⟨w.heap.size + 1, 5, none⟩) hsz).trans (by simp)
  clear hb
  go_wp2_with fail
  go_ret
  exact ⟨rfl, B1.out⟩
set_option maxHeartbeats 4000000 in
set_option maxRecDepth 100000 in
theorem rmay_F (p i b s : Int) (P : PlanD) (w : World) (h : gok p i b = true) (hs : 0 ≤ s) (hs2 : s < p) (he : P.err = 0) (hsm : P.small) (hp : PlanAt w P) (h1 : farB P.F.f P.F.n (8 * linesN p i b) = true) :
    Calls Try.prog 14 #[.agg #[.int .i64 p, .int .i64 i, .int .i64 b], .int .i64 s, .agg #[.int .i64 P.err, .int .i64 P.ino, .slice P.F.A P.F.n P.F.c, .slice P.L.A P.L.n P.L.c, .slice P.R.A P.R.n P.R.c, .slice P.D.A P.D.n P.D.c]] w fun e w' => e = .returned (.int .i64 2) ∧ Below w.heap.size w w' := by
  have H := hid h
  have HP := hid hp
  have he' : (P.err == 0) = true := by simpa using he
  have he2 : (P.err != 0) = false := by simp [bne, he']
  have Hle := hid (linesN_le h)
  have hsn : decide (s < 0) = false := decide_eq_false (by omega)
  have hsp : decide (p ≤ s) = false := decide_eq_false (by omega)
  have hs1 := hsm.1
  have hs2' := hsm.2.1
  have hs3 := hsm.2.2.1
  have hs4 := hsm.2.2.2
  clear h he hp hsm
  have H1 := hid h1
  clear h1
  have b0 := hid (show Below w.heap.size w ((w.alloc (.cells #[.int .i64 p, .int .i64 i, .int .i64 b] 23)).alloc (.cells #[.int .i64 P.err, .int .i64 P.ino, .slice P.F.A P.F.n P.F.c, .slice P.L.A P.L.n P.L.c, .slice P.R.A P.R.n P.R.c, .slice P.D.A P.D.n P.D.c] 28)) from ((Below.refl _ _).alloc (Nat.le_refl _) _).alloc (by simp) _)
  have hsz : w.heap.size + 1 < ((w.alloc (.cells #[.int .i64 p, .int .i64 i, .int .i64 b] 23)).alloc (.cells #[.int .i64 P.err, .int .i64 P.ino, .slice P.F.A P.F.n P.F.c, .slice P.L.A P.L.n P.L.c, .slice P.R.A P.R.n P.R.c, .slice P.D.A P.D.n P.D.c] 28)).heap.size := by simp
  go_enter Try.func14, Try.ntmps14
  go_wp2_with fail
  refine (gok_is p i b true _ H.out).mono ?_
  rintro e w1 ⟨rfl, hb⟩
  have B1 := hid (b0.out.trans (hb.mono b0.out.size))
  have Z1 : Hid (w.heap.size + 1 < w1.heap.size) := Nat.lt_of_lt_of_le hsz hb.size
  have g10 : w1.cell? ⟨w.heap.size, 0, none⟩ = some (.int .i64 p) := (hb.cell (p := ⟨w.heap.size, 0, none⟩) (Nat.lt_of_succ_lt hsz)).trans (by simp)
  have g11 : w1.cell? ⟨w.heap.size, 1, none⟩ = some (.int .i64 i) := (hb.cell (p := ⟨w.heap.size, 1, none⟩) (Nat.lt_of_succ_lt hsz)).trans (by simp)
  have g12 : w1.cell? ⟨w.heap.size, 2, none⟩ = some (.int .i64 b) := (hb.cell (p := ⟨w.heap.size, 2, none⟩) (Nat.lt_of_succ_lt hsz)).trans (by simp)
  have p10 : w1.cell? ⟨w.heap.size + 1, 0, none⟩ = some (.int .i64 P.err) := (hb.cell (p := ⟨w.heap.size + 1, 0, none⟩) hsz).trans (by simp)
  have p11 : w1.cell? ⟨w.heap.size + 1, 1, none⟩ = some (.int .i64 P.ino) := (hb.cell (p := ⟨w.heap.size + 1, 1, none⟩) hsz).trans (by simp)
  have p12 : w1.cell? ⟨w.heap.size + 1, 2, none⟩ = some (.slice P.F.A P.F.n P.F.c) := (hb.cell (p := ⟨w.heap.size + 1, 2, none⟩) hsz).trans (by simp)
  have p13 : w1.cell? ⟨w.heap.size + 1, 3, none⟩ = some (.slice P.L.A P.L.n P.L.c) := (hb.cell (p := ⟨w.heap.size + 1, 3, none⟩) hsz).trans (by simp)
  have p14 : w1.cell? ⟨w.heap.size + 1, 4, none⟩ = some (.slice P.R.A P.R.n P.R.c) := (hb.cell (p := ⟨w.heap.size + 1, 4, none⟩) hsz).trans (by simp)
  have p15 : w1.cell? ⟨w.heap.size + 1, 5, none⟩ = some (.slice P.D.A P.D.n P.D.c) := (hb.cell (p := ⟨w.heap.size + 1, 5, none⟩) hsz).trans (by simp)
  clear hb
  go_wp2_with fail
  refine (rwords_ok p i b _ H.out).mono ?_
  rintro e w2 ⟨rfl, hb⟩
  have B2 := hid (B1.out.trans (hb.mono B1.out.size))
  have Z2 : Hid (w.heap.size + 1 < w2.heap.size) := Nat.lt_of_lt_of_le Z1.out hb.size
  have p22 : w2.cell? ⟨w.heap.size + 1, 2, none⟩ = some (.slice P.F.A P.F.n P.F.c) := (hb.cell (p := ⟨w.heap.size + 1, 2, none⟩) Z1.out).trans p12
  have p23 : w2.cell? ⟨w.heap.size + 1, 3, none⟩ = some (.slice P.L.A P.L.n P.L.c) := (hb.cell (p := ⟨w.heap.size + 1, 3, none⟩) Z1.out).trans p13
  have p24 : w2.cell? ⟨w.heap.size + 1, 4, none⟩ = some (.slice P.R.A P.R.n P.R.c) := (hb.cell (p := ⟨w.heap.size + 1, 4, none⟩) Z1.out).trans p14
  have p25 : w2.cell? ⟨w.heap.size + 1, 5, none⟩ = some (.slice P.D.A P.D.n P.D.c) := (hb.cell (p := ⟨w.heap.size + 1, 5, none⟩) Z1.out).trans p15
  have HP2 := hid (HP.out.below B2.out)
  clear hb g10 g11 g12 p10 p11 p12 p13 p14 p15
  go_wp2_with fail
  refine (inside_is P.F.A P.F.n P.F.c P.F.f P.F.g (8 * linesN p i b) false _ (by omega) HP2.out.1 H1.out).mono ?_
  rintro e w' ⟨rfl, rfl⟩
  go_wp2_with fail
  go_ret
  exact ⟨rfl, B2.out⟩
set_option maxHeartbeats 4000000 in
set_option maxRecDepth 100000 in
theorem rmay_R (p i b s : Int) (P : PlanD) (w : World) (h : gok p i b = true) (hs : 0 ≤ s) (hs2 : s < p) (he : P.err = 0) (hsm : P.small) (hp : PlanAt w P) (h1 : farB P.F.f P.F.n (8 * linesN p i b) = false) (h2 : farB P.R.f P.R.n (8 * linesN p i b) = true) :
    Calls Try.prog 14 #[.agg #[.int .i64 p, .int .i64 i, .int .i64 b], .int .i64 s, .agg #[.int .i64 P.err, .int .i64 P.ino, .slice P.F.A P.F.n P.F.c, .slice P.L.A P.L.n P.L.c, .slice P.R.A P.R.n P.R.c, .slice P.D.A P.D.n P.D.c]] w fun e w' => e = .returned (.int .i64 2) ∧ Below w.heap.size w w' := by
  have H := hid h
  have HP := hid hp
  have he' : (P.err == 0) = true := by simpa using he
  have he2 : (P.err != 0) = false := by simp [bne, he']
  have Hle := hid (linesN_le h)
  have hsn : decide (s < 0) = false := decide_eq_false (by omega)
  have hsp : decide (p ≤ s) = false := decide_eq_false (by omega)
  have hs1 := hsm.1
  have hs2' := hsm.2.1
  have hs3 := hsm.2.2.1
  have hs4 := hsm.2.2.2
  clear h he hp hsm
  have H1 := hid h1
  have H2 := hid h2
  clear h1 h2
  have b0 := hid (show Below w.heap.size w ((w.alloc (.cells #[.int .i64 p, .int .i64 i, .int .i64 b] 23)).alloc (.cells #[.int .i64 P.err, .int .i64 P.ino, .slice P.F.A P.F.n P.F.c, .slice P.L.A P.L.n P.L.c, .slice P.R.A P.R.n P.R.c, .slice P.D.A P.D.n P.D.c] 28)) from ((Below.refl _ _).alloc (Nat.le_refl _) _).alloc (by simp) _)
  have hsz : w.heap.size + 1 < ((w.alloc (.cells #[.int .i64 p, .int .i64 i, .int .i64 b] 23)).alloc (.cells #[.int .i64 P.err, .int .i64 P.ino, .slice P.F.A P.F.n P.F.c, .slice P.L.A P.L.n P.L.c, .slice P.R.A P.R.n P.R.c, .slice P.D.A P.D.n P.D.c] 28)).heap.size := by simp
  go_enter Try.func14, Try.ntmps14
  go_wp2_with fail
  refine (gok_is p i b true _ H.out).mono ?_
  rintro e w1 ⟨rfl, hb⟩
  have B1 := hid (b0.out.trans (hb.mono b0.out.size))
  have Z1 : Hid (w.heap.size + 1 < w1.heap.size) := Nat.lt_of_lt_of_le hsz hb.size
  have g10 : w1.cell? ⟨w.heap.size, 0, none⟩ = some (.int .i64 p) := (hb.cell (p := ⟨w.heap.size, 0, none⟩) (Nat.lt_of_succ_lt hsz)).trans (by simp)
  have g11 : w1.cell? ⟨w.heap.size, 1, none⟩ = some (.int .i64 i) := (hb.cell (p := ⟨w.heap.size, 1, none⟩) (Nat.lt_of_succ_lt hsz)).trans (by simp)
  have g12 : w1.cell? ⟨w.heap.size, 2, none⟩ = some (.int .i64 b) := (hb.cell (p := ⟨w.heap.size, 2, none⟩) (Nat.lt_of_succ_lt hsz)).trans (by simp)
  have p10 : w1.cell? ⟨w.heap.size + 1, 0, none⟩ = some (.int .i64 P.err) := (hb.cell (p := ⟨w.heap.size + 1, 0, none⟩) hsz).trans (by simp)
  have p11 : w1.cell? ⟨w.heap.size + 1, 1, none⟩ = some (.int .i64 P.ino) := (hb.cell (p := ⟨w.heap.size + 1, 1, none⟩) hsz).trans (by simp)
  have p12 : w1.cell? ⟨w.heap.size + 1, 2, none⟩ = some (.slice P.F.A P.F.n P.F.c) := (hb.cell (p := ⟨w.heap.size + 1, 2, none⟩) hsz).trans (by simp)
  have p13 : w1.cell? ⟨w.heap.size + 1, 3, none⟩ = some (.slice P.L.A P.L.n P.L.c) := (hb.cell (p := ⟨w.heap.size + 1, 3, none⟩) hsz).trans (by simp)
  have p14 : w1.cell? ⟨w.heap.size + 1, 4, none⟩ = some (.slice P.R.A P.R.n P.R.c) := (hb.cell (p := ⟨w.heap.size + 1, 4, none⟩) hsz).trans (by simp)
  have p15 : w1.cell? ⟨w.heap.size + 1, 5, none⟩ = some (.slice P.D.A P.D.n P.D.c) := (hb.cell (p := ⟨w.heap.size + 1, 5, none⟩) hsz).trans (by simp)
  clear hb
  go_wp2_with fail
  refine (rwords_ok p i b _ H.out).mono ?_
  rintro e w2 ⟨rfl, hb⟩
  have B2 := hid (B1.out.trans (hb.mono B1.out.size))
  have Z2 : Hid (w.heap.size + 1 < w2.heap.size) := Nat.lt_of_lt_of_le Z1.out hb.size
  have p22 : w2.cell? ⟨w.heap.size + 1, 2, none⟩ = some (.slice P.F.A P.F.n P.F.c) := (hb.cell (p := ⟨w.heap.size + 1, 2, none⟩) Z1.out).trans p12
  have p23 : w2.cell? ⟨w.heap.size + 1, 3, none⟩ = some (.slice P.L.A P.L.n P.L.c) := (hb.cell (p := ⟨w.heap.size + 1, 3, none⟩) Z1.out).trans p13
  have p24 : w2.cell? ⟨w.heap.size + 1, 4, none⟩ = some (.slice P.R.A P.R.n P.R.c) := (hb.cell (p := ⟨w.heap.size + 1, 4, none⟩) Z1.out).trans p14
  have p25 : w2.cell? ⟨w.heap.size + 1, 5, none⟩ = some (.slice P.D.A P.D.n P.D.c) := (hb.cell (p := ⟨w.heap.size + 1, 5, none⟩) Z1.out).trans p15
  have HP2 := hid (HP.out.below B2.out)
  clear hb g10 g11 g12 p10 p11 p12 p13 p14 p15
  go_wp2_with fail
  refine (inside_is P.F.A P.F.n P.F.c P.F.f P.F.g (8 * linesN p i b) true _ (by omega) HP2.out.1 H1.out).mono ?_
  rintro e w' ⟨rfl, rfl⟩
  go_wp2_with fail
  refine (inside_is P.R.A P.R.n P.R.c P.R.f P.R.g (8 * linesN p i b) false _ (by omega) HP2.out.2.2.1 H2.out).mono ?_
  rintro e w' ⟨rfl, rfl⟩
  go_wp2_with fail
  go_ret
  exact ⟨rfl, B2.out⟩
set_option maxHeartbeats 4000000 in
set_option maxRecDepth 100000 in
theorem rmay_D (p i b s : Int) (P : PlanD) (w : World) (h : gok p i b = true) (hs : 0 ≤ s) (hs2 : s < p) (he : P.err = 0) (hsm : P.small) (hp : PlanAt w P) (h1 : farB P.F.f P.F.n (8 * linesN p i b) = false) (h2 : farB P.R.f P.R.n (8 * linesN p i b) = false) (h3 : farB P.D.f P.D.n (8 * linesN p i b) = true) :
    Calls Try.prog 14 #[.agg #[.int .i64 p, .int .i64 i, .int .i64 b], .int .i64 s, .agg #[.int .i64 P.err, .int .i64 P.ino, .slice P.F.A P.F.n P.F.c, .slice P.L.A P.L.n P.L.c, .slice P.R.A P.R.n P.R.c, .slice P.D.A P.D.n P.D.c]] w fun e w' => e = .returned (.int .i64 2) ∧ Below w.heap.size w w' := by
  have H := hid h
  have HP := hid hp
  have he' : (P.err == 0) = true := by simpa using he
  have he2 : (P.err != 0) = false := by simp [bne, he']
  have Hle := hid (linesN_le h)
  have hsn : decide (s < 0) = false := decide_eq_false (by omega)
  have hsp : decide (p ≤ s) = false := decide_eq_false (by omega)
  have hs1 := hsm.1
  have hs2' := hsm.2.1
  have hs3 := hsm.2.2.1
  have hs4 := hsm.2.2.2
  clear h he hp hsm
  have H1 := hid h1
  have H2 := hid h2
  have H3 := hid h3
  clear h1 h2 h3
  have b0 := hid (show Below w.heap.size w ((w.alloc (.cells #[.int .i64 p, .int .i64 i, .int .i64 b] 23)).alloc (.cells #[.int .i64 P.err, .int .i64 P.ino, .slice P.F.A P.F.n P.F.c, .slice P.L.A P.L.n P.L.c, .slice P.R.A P.R.n P.R.c, .slice P.D.A P.D.n P.D.c] 28)) from ((Below.refl _ _).alloc (Nat.le_refl _) _).alloc (by simp) _)
  have hsz : w.heap.size + 1 < ((w.alloc (.cells #[.int .i64 p, .int .i64 i, .int .i64 b] 23)).alloc (.cells #[.int .i64 P.err, .int .i64 P.ino, .slice P.F.A P.F.n P.F.c, .slice P.L.A P.L.n P.L.c, .slice P.R.A P.R.n P.R.c, .slice P.D.A P.D.n P.D.c] 28)).heap.size := by simp
  go_enter Try.func14, Try.ntmps14
  go_wp2_with fail
  refine (gok_is p i b true _ H.out).mono ?_
  rintro e w1 ⟨rfl, hb⟩
  have B1 := hid (b0.out.trans (hb.mono b0.out.size))
  have Z1 : Hid (w.heap.size + 1 < w1.heap.size) := Nat.lt_of_lt_of_le hsz hb.size
  have g10 : w1.cell? ⟨w.heap.size, 0, none⟩ = some (.int .i64 p) := (hb.cell (p := ⟨w.heap.size, 0, none⟩) (Nat.lt_of_succ_lt hsz)).trans (by simp)
  have g11 : w1.cell? ⟨w.heap.size, 1, none⟩ = some (.int .i64 i) := (hb.cell (p := ⟨w.heap.size, 1, none⟩) (Nat.lt_of_succ_lt hsz)).trans (by simp)
  have g12 : w1.cell? ⟨w.heap.size, 2, none⟩ = some (.int .i64 b) := (hb.cell (p := ⟨w.heap.size, 2, none⟩) (Nat.lt_of_succ_lt hsz)).trans (by simp)
  have p10 : w1.cell? ⟨w.heap.size + 1, 0, none⟩ = some (.int .i64 P.err) := (hb.cell (p := ⟨w.heap.size + 1, 0, none⟩) hsz).trans (by simp)
  have p11 : w1.cell? ⟨w.heap.size + 1, 1, none⟩ = some (.int .i64 P.ino) := (hb.cell (p := ⟨w.heap.size + 1, 1, none⟩) hsz).trans (by simp)
  have p12 : w1.cell? ⟨w.heap.size + 1, 2, none⟩ = some (.slice P.F.A P.F.n P.F.c) := (hb.cell (p := ⟨w.heap.size + 1, 2, none⟩) hsz).trans (by simp)
  have p13 : w1.cell? ⟨w.heap.size + 1, 3, none⟩ = some (.slice P.L.A P.L.n P.L.c) := (hb.cell (p := ⟨w.heap.size + 1, 3, none⟩) hsz).trans (by simp)
  have p14 : w1.cell? ⟨w.heap.size + 1, 4, none⟩ = some (.slice P.R.A P.R.n P.R.c) := (hb.cell (p := ⟨w.heap.size + 1, 4, none⟩) hsz).trans (by simp)
  have p15 : w1.cell? ⟨w.heap.size + 1, 5, none⟩ = some (.slice P.D.A P.D.n P.D.c) := (hb.cell (p := ⟨w.heap.size + 1, 5, none⟩) hsz).trans (by simp)
  clear hb
  go_wp2_with fail
  refine (rwords_ok p i b _ H.out).mono ?_
  rintro e w2 ⟨rfl, hb⟩
  have B2 := hid (B1.out.trans (hb.mono B1.out.size))
  have Z2 : Hid (w.heap.size + 1 < w2.heap.size) := Nat.lt_of_lt_of_le Z1.out hb.size
  have p22 : w2.cell? ⟨w.heap.size + 1, 2, none⟩ = some (.slice P.F.A P.F.n P.F.c) := (hb.cell (p := ⟨w.heap.size + 1, 2, none⟩) Z1.out).trans p12
  have p23 : w2.cell? ⟨w.heap.size + 1, 3, none⟩ = some (.slice P.L.A P.L.n P.L.c) := (hb.cell (p := ⟨w.heap.size + 1, 3, none⟩) Z1.out).trans p13
  have p24 : w2.cell? ⟨w.heap.size + 1, 4, none⟩ = some (.slice P.R.A P.R.n P.R.c) := (hb.cell (p := ⟨w.heap.size + 1, 4, none⟩) Z1.out).trans p14
  have p25 : w2.cell? ⟨w.heap.size + 1, 5, none⟩ = some (.slice P.D.A P.D.n P.D.c) := (hb.cell (p := ⟨w.heap.size + 1, 5, none⟩) Z1.out).trans p15
  have HP2 := hid (HP.out.below B2.out)
  clear hb g10 g11 g12 p10 p11 p12 p13 p14 p15
  go_wp2_with fail
  refine (inside_is P.F.A P.F.n P.F.c P.F.f P.F.g (8 * linesN p i b) true _ (by omega) HP2.out.1 H1.out).mono ?_
  rintro e w' ⟨rfl, rfl⟩
  go_wp2_with fail
  refine (inside_is P.R.A P.R.n P.R.c P.R.f P.R.g (8 * linesN p i b) true _ (by omega) HP2.out.2.2.1 H2.out).mono ?_
  rintro e w' ⟨rfl, rfl⟩
  go_wp2_with fail
  refine (inside_is P.D.A P.D.n P.D.c P.D.f P.D.g (8 * linesN p i b) false _ (by omega) HP2.out.2.2.2 H3.out).mono ?_
  rintro e w' ⟨rfl, rfl⟩
  go_wp2_with fail
  go_ret
  exact ⟨rfl, B2.out⟩
set_option maxHeartbeats 4000000 in
set_option maxRecDepth 100000 in
theorem rmay_L (p i b s : Int) (P : PlanD) (w : World) (h : gok p i b = true) (hs : 0 ≤ s) (hs2 : s < p) (he : P.err = 0) (hsm : P.small) (hp : PlanAt w P) (h1 : farB P.F.f P.F.n (8 * linesN p i b) = false) (h2 : farB P.R.f P.R.n (8 * linesN p i b) = false) (h3 : farB P.D.f P.D.n (8 * linesN p i b) = false) :
    Calls Try.prog 14 #[.agg #[.int .i64 p, .int .i64 i, .int .i64 b], .int .i64 s, .agg #[.int .i64 P.err, .int .i64 P.ino, .slice P.F.A P.F.n P.F.c, .slice P.L.A P.L.n P.L.c, .slice P.R.A P.R.n P.R.c, .slice P.D.A P.D.n P.D.c]] w fun e w' => e = .returned (.int .i64 (lastE P (linesN p i b))) ∧ Below w.heap.size w w' := by
  have H := hid h
  have HP := hid hp
  have he' : (P.err == 0) = true := by simpa using he
  have he2 : (P.err != 0) = false := by simp [bne, he']
  have Hle := hid (linesN_le h)
  have hsn : decide (s < 0) = false := decide_eq_false (by omega)
  have hsp : decide (p ≤ s) = false := decide_eq_false (by omega)
  have hs1 := hsm.1
  have hs2' := hsm.2.1
  have hs3 := hsm.2.2.1
  have hs4 := hsm.2.2.2
  clear h he hp hsm
  have H1 := hid h1
  have H2 := hid h2
  have H3 := hid h3
  clear h1 h2 h3
  have b0 := hid (show Below w.heap.size w ((w.alloc (.cells #[.int .i64 p, .int .i64 i, .int .i64 b] 23)).alloc (.cells #[.int .i64 P.err, .int .i64 P.ino, .slice P.F.A P.F.n P.F.c, .slice P.L.A P.L.n P.L.c, .slice P.R.A P.R.n P.R.c, .slice P.D.A P.D.n P.D.c] 28)) from ((Below.refl _ _).alloc (Nat.le_refl _) _).alloc (by simp) _)
  have hsz : w.heap.size + 1 < ((w.alloc (.cells #[.int .i64 p, .int .i64 i, .int .i64 b] 23)).alloc (.cells #[.int .i64 P.err, .int .i64 P.ino, .slice P.F.A P.F.n P.F.c, .slice P.L.A P.L.n P.L.c, .slice P.R.A P.R.n P.R.c, .slice P.D.A P.D.n P.D.c] 28)).heap.size := by simp
  go_enter Try.func14, Try.ntmps14
  go_wp2_with fail
  refine (gok_is p i b true _ H.out).mono ?_
  rintro e w1 ⟨rfl, hb⟩
  have B1 := hid (b0.out.trans (hb.mono b0.out.size))
  have Z1 : Hid (w.heap.size + 1 < w1.heap.size) := Nat.lt_of_lt_of_le hsz hb.size
  have g10 : w1.cell? ⟨w.heap.size, 0, none⟩ = some (.int .i64 p) := (hb.cell (p := ⟨w.heap.size, 0, none⟩) (Nat.lt_of_succ_lt hsz)).trans (by simp)
  have g11 : w1.cell? ⟨w.heap.size, 1, none⟩ = some (.int .i64 i) := (hb.cell (p := ⟨w.heap.size, 1, none⟩) (Nat.lt_of_succ_lt hsz)).trans (by simp)
  have g12 : w1.cell? ⟨w.heap.size, 2, none⟩ = some (.int .i64 b) := (hb.cell (p := ⟨w.heap.size, 2, none⟩) (Nat.lt_of_succ_lt hsz)).trans (by simp)
  have p10 : w1.cell? ⟨w.heap.size + 1, 0, none⟩ = some (.int .i64 P.err) := (hb.cell (p := ⟨w.heap.size + 1, 0, none⟩) hsz).trans (by simp)
  have p11 : w1.cell? ⟨w.heap.size + 1, 1, none⟩ = some (.int .i64 P.ino) := (hb.cell (p := ⟨w.heap.size + 1, 1, none⟩) hsz).trans (by simp)
  have p12 : w1.cell? ⟨w.heap.size + 1, 2, none⟩ = some (.slice P.F.A P.F.n P.F.c) := (hb.cell (p := ⟨w.heap.size + 1, 2, none⟩) hsz).trans (by simp)
  have p13 : w1.cell? ⟨w.heap.size + 1, 3, none⟩ = some (.slice P.L.A P.L.n P.L.c) := (hb.cell (p := ⟨w.heap.size + 1, 3, none⟩) hsz).trans (by simp)
  have p14 : w1.cell? ⟨w.heap.size + 1, 4, none⟩ = some (.slice P.R.A P.R.n P.R.c) := (hb.cell (p := ⟨w.heap.size + 1, 4, none⟩) hsz).trans (by simp)
  have p15 : w1.cell? ⟨w.heap.size + 1, 5, none⟩ = some (.slice P.D.A P.D.n P.D.c) := (hb.cell (p := ⟨w.heap.size + 1, 5, none⟩) hsz).trans (by simp)
  clear hb
  go_wp2_with fail
  refine (rwords_ok p i b _ H.out).mono ?_
  rintro e w2 ⟨rfl, hb⟩
  have B2 := hid (B1.out.trans (hb.mono B1.out.size))
  have Z2 : Hid (w.heap.size + 1 < w2.heap.size) := Nat.lt_of_lt_of_le Z1.out hb.size
  have p22 : w2.cell? ⟨w.heap.size + 1, 2, none⟩ = some (.slice P.F.A P.F.n P.F.c) := (hb.cell (p := ⟨w.heap.size + 1, 2, none⟩) Z1.out).trans p12
  have p23 : w2.cell? ⟨w.heap.size + 1, 3, none⟩ = some (.slice P.L.A P.L.n P.L.c) := (hb.cell (p := ⟨w.heap.size + 1, 3, none⟩) Z1.out).trans p13
  have p24 : w2.cell? ⟨w.heap.size + 1, 4, none⟩ = some (.slice P.R.A P.R.n P.R.c) := (hb.cell (p := ⟨w.heap.size + 1, 4, none⟩) Z1.out).trans p14
  have p25 : w2.cell? ⟨w.heap.size + 1, 5, none⟩ = some (.slice P.D.A P.D.n P.D.c) := (hb.cell (p := ⟨w.heap.size + 1, 5, none⟩) Z1.out).trans p15
  have HP2 := hid (HP.out.below B2.out)
  clear hb g10 g11 g12 p10 p11 p12 p13 p14 p15
  go_wp2_with fail
  refine (inside_is P.F.A P.F.n P.F.c P.F.f P.F.g (8 * linesN p i b) true _ (by omega) HP2.out.1 H1.out).mono ?_
  rintro e w' ⟨rfl, rfl⟩
  go_wp2_with fail
  refine (inside_is P.R.A P.R.n P.R.c P.R.f P.R.g (8 * linesN p i b) true _ (by omega) HP2.out.2.2.1 H2.out).mono ?_
  rintro e w' ⟨rfl, rfl⟩
  go_wp2_with fail
  refine (inside_is P.D.A P.D.n P.D.c P.D.f P.D.g (8 * linesN p i b) true _ (by omega) HP2.out.2.2.2 H3.out).mono ?_
  rintro e w' ⟨rfl, rfl⟩
  go_wp2_with fail
  go_loop [8] (fun j => ∃ k : Nat, k ≤ P.L.n ∧ j = .int .i64 k ∧ ∀ j, j < k → 0 ≤ P.L.f j ∧ P.L.f j < linesN p i b) (fun j => P.L.n - (intOf j).toNat)
  case atStart => exact ⟨0, by omega, rfl, fun j hj => by omega⟩
  case round =>
    obtain ⟨k, hk, rfl, hno⟩ := hrel
    have Hno := hid hno
    have hl0 := Hle.out.1
    have hl1 := Hle.out.2
    clear hno
    by_cases hlt : k < P.L.n
    · have hlt' : (k : Int) < (P.L.n : Int) := by omega
      obtain ⟨ad, hA, hc⟩ : ∃ ad, P.L.A = some ad ∧ ∀ k, k < P.L.n → w2.cell? (ad.add k) = some (.int .i64 (P.L.f k)) := by
        rcases HP2.out.2.1 with h0 | ⟨ad, e, -, h⟩
        · omega
        · exact ⟨ad, e, h⟩
      have c0 := hc k hlt
      rw [hA] at p23
      clear hc hA
      by_cases h0 : P.L.f k < 0
      · have Hf := hid (farB_true (L := linesN p i b).2 ⟨k, hlt, .inl h0⟩)
        go_wp2
        go_ret
        exact ⟨by unfold lastE; rw [Hf.out]; rfl, B2.out⟩
      · by_cases h1 : linesN p i b ≤ P.L.f k
        · have Hf := hid (farB_true.2 ⟨k, hlt, .inr h1⟩)
          have h8 : 8 * linesN p i b / 8 ≤ P.L.f k := by omega
          go_wp2
          go_ret
          exact ⟨by unfold lastE; rw [Hf.out]; rfl, B2.out⟩
        · have h8 : ¬ 8 * linesN p i b / 8 ≤ P.L.f k := by omega
          go_wp2
          go_round
          case rel => exact ⟨k + 1, by omega, by go_num, fun j hj => if h : j = k then by subst h; omega else Hno.out j (by omega)⟩
          case measure => simp [intOf]; omega
    · have hkn : k = P.L.n := by omega
      have Hf := hid (farB_false.2 (hkn ▸ Hno.out))
      by_cases h64 : 64 < P.R.n
      · have h64' : (64 : Int) < (P.R.n : Int) := by omega
        go_wp2
        go_ret
        exact ⟨by unfold lastE; rw [Hf.out, if_neg (by simp), if_pos h64]; rfl, B2.out⟩
      · have h64' : ¬ (64 : Int) < (P.R.n : Int) := by omega
        go_wp2
        go_ret
        exact ⟨by unfold lastE; rw [Hf.out, if_neg (by simp), if_neg h64]; rfl, B2.out⟩
theorem rmay_any (p i b s : Int) (P : PlanD) (w : World) (hsm : P.small) (hp : PlanAt w P) :
    Calls Try.prog 14 #[.agg #[.int .i64 p, .int .i64 i, .int .i64 b], .int .i64 s, .agg #[.int .i64 P.err, .int .i64 P.ino, .slice P.F.A P.F.n P.F.c, .slice P.L.A P.L.n P.L.c, .slice P.R.A P.R.n P.R.c, .slice P.D.A P.D.n P.D.c]] w fun e w' => e = .returned (.int .i64 (errE p i b s P)) ∧ Below w.heap.size w w' := by
  unfold errE
  cases h : gok p i b
  · rw [if_neg (by simp)]
    exact rmay_geom p i b s P w h
  · by_cases hs : s < 0
    · rw [if_neg (by omega)]
      exact rmay_slot0 p i b s P w h hs
    · by_cases hs2 : p ≤ s
      · rw [if_neg (by omega)]
        exact rmay_slot1 p i b s P w h (by omega) hs2
      · rw [if_pos ⟨rfl, by omega, by omega⟩]
        unfold mayE
        by_cases he : P.err = 0
        · unfold farP
          cases h1 : farB P.F.f P.F.n (8 * linesN p i b)
          · cases h2 : farB P.R.f P.R.n (8 * linesN p i b)
            · cases h3 : farB P.D.f P.D.n (8 * linesN p i b)
              · have := rmay_L p i b s P w h (by omega) (by omega) he hsm hp h1 h2 h3
                unfold lastE at this
                simpa [he] using this
              · rw [if_pos (.inr rfl)]
                exact rmay_D p i b s P w h (by omega) (by omega) he hsm hp h1 h2 h3
            · rw [if_pos (.inr rfl)]
              exact rmay_R p i b s P w h (by omega) (by omega) he hsm hp h1 h2
          · rw [if_pos (.inr rfl)]
            exact rmay_F p i b s P w h (by omega) (by omega) he hsm hp h1
        · rw [if_pos (.inl he)]
          exact rmay_err p i b s P w h (by omega) (by omega) he
end Go.Proofs.Ytimfnimcmfjjpaa
