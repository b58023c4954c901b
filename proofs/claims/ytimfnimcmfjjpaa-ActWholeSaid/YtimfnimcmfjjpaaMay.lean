/- act.may: why a plan can't be done. -/
import Derived.Test.YtimfnimcmfjjpaaGeom
namespace Go.Proofs.Ytimfnimcmfjjpaa
open Go.RowKit
theorem ret_bool {a b : Bool} (h : a = b) : Ending.returned (.bool a) = .returned (.bool b) := by rw [h]
/-- Is one of numbers below 0, or from L on? -/
def farB (f : Nat → Int) (m : Nat) (L : Int) : Bool := (List.range m).any fun k => decide (f k < 0) || decide (L ≤ f k)
theorem farB_true {f : Nat → Int} {m : Nat} {L : Int} : farB f m L = true ↔ ∃ k, k < m ∧ (f k < 0 ∨ L ≤ f k) := by
  simp [farB]
theorem farB_false {f : Nat → Int} {m : Nat} {L : Int} : farB f m L = false ↔ ∀ k, k < m → 0 ≤ f k ∧ f k < L := by
  rw [← Bool.not_eq_true, farB_true]
  constructor
  · intro h k hk
    by_cases h1 : f k < 0
    · exact absurd ⟨k, hk, .inl h1⟩ h
    · by_cases h2 : L ≤ f k
      · exact absurd ⟨k, hk, .inr h2⟩ h
      · omega
  · rintro h ⟨k, hk, h1⟩
    have := h k hk
    omega
set_option maxHeartbeats 400000 in
set_option maxRecDepth 100000 in
theorem far_redo (B : Nat) (l a x : Int) (w : World) (hl : 0 ≤ l ∧ l ≤ 1000000) (hB : w.cell? ⟨B, 0, none⟩ = some (.int .i64 l)) :
    Calls Try.prog 52 #[.agg #[.int .i64 a, .int .u64 x], .pointer (some ⟨B, 0, none⟩)] w fun e w' => e = .returned (.bool (decide (a < 0) || decide (8 * l ≤ a))) ∧ Below w.heap.size w w' := by
  have hBl := block_lt_of_cell hB
  have hB1 : (w.alloc (.cells #[.int .i64 a, .int .u64 x] 71)).cell? ⟨B, 0, none⟩ = some (.int .i64 l) := (World.cell?_alloc_lt _ _ ⟨B, 0, none⟩ hBl).trans hB
  by_cases h0 : a < 0
  · go_enter Try.func52, Try.ntmps52
    go_wp2_with fail
    go_ret
    exact ⟨by simp, (Below.refl _ _).alloc (Nat.le_refl _) _⟩
  · go_enter Try.func52, Try.ntmps52
    go_wp2_with fail
    go_ret
    exact ⟨ret_bool (by rw [decide_eq_false (show ¬ a < 0 by omega), Bool.false_or]), (Below.refl _ _).alloc (Nat.le_refl _) _⟩
set_option maxHeartbeats 400000 in
set_option maxRecDepth 100000 in
theorem far_line (B : Nat) (l a : Int) (w : World) (hB : w.cell? ⟨B, 0, none⟩ = some (.int .i64 l)) :
    Calls Try.prog 55 #[.int .i64 a, .pointer (some ⟨B, 0, none⟩)] w fun e w' => e = .returned (.bool (decide (a < 0) || decide (l ≤ a))) ∧ w = w' := by
  by_cases h0 : a < 0
  · go_enter Try.func55, Try.ntmps55
    go_wp2_with fail
    go_ret
    exact ⟨by simp [h0], rfl⟩
  · go_enter Try.func55, Try.ntmps55
    go_wp2_with fail
    go_ret
    exact ⟨ret_bool (by rw [decide_eq_false (show ¬ a < 0 by omega), Bool.false_or]), rfl⟩
def SomeAt (P : Bool) (w : World) (e : Ending) (w' : World) : Prop := (∃ z : Int, e = .returned (.int .i64 z) ∧ decide (0 ≤ z) = P) ∧ Below w.heap.size w w'
theorem pairs_below {w w' : World} {A : Option Addr} {m : Nat} {f g : Nat → Int} (hp : PairsAt w A m f g) (hb : Below w.heap.size w w') : PairsAt w' A m f g := by
  rcases hp with h0 | ⟨ad, rfl, hlt, hc⟩
  · exact .inl h0
  · exact .inr ⟨ad, rfl, Nat.lt_of_lt_of_le hlt hb.size, fun k hk => ⟨(hb.cell (p := ad.add (k * 2)) (by rw [block_of_add]; exact hlt)).trans (hc k hk).1, (hb.cell (p := ad.add (k * 2 + 1)) (by rw [block_of_add]; exact hlt)).trans (hc k hk).2⟩⟩
theorem ints_below {w w' : World} {A : Option Addr} {m : Nat} {f : Nat → Int} (hp : IntsAt w A m f) (hb : Below w.heap.size w w') : IntsAt w' A m f := by
  rcases hp with h0 | ⟨ad, rfl, hlt, hc⟩
  · exact .inl h0
  · exact .inr ⟨ad, rfl, Nat.lt_of_lt_of_le hlt hb.size, fun k hk => (hb.cell (p := ad.add k) (by rw [block_of_add]; exact hlt)).trans (hc k hk)⟩
set_option maxHeartbeats 1000000 in
set_option maxRecDepth 100000 in
theorem index_redo (A : Option Addr) (m c : Nat) (f g : Nat → Int) (B : Nat) (l : Int) (w : World) (hl : 0 ≤ l ∧ l ≤ 1000000) (hm : m ≤ 1000000) (hp : PairsAt w A m f g) (hB : w.cell? ⟨B, 0, none⟩ = some (.int .i64 l)) :
    Calls Try.prog 64 #[.slice A m c, .func (.func 52) #[] #[.pointer (some ⟨B, 0, none⟩)]] w (SomeAt (farB f m (8 * l)) w) := by
  have HP := hid hp
  have HB := hid hB
  have hBl := block_lt_of_cell hB
  clear hp hB
  have eg : ∀ args w, (callFunc 52 args).run Try.prog w = .ok (.enter 52 args) w := enters_of Try.func52 (by kernel_rfl) rfl
  go_enter Try.func64, Try.ntmps64
  go_wp2
  go_loopw [5, 8] (fun _ i wr => ∃ (k : Nat), k ≤ m ∧ i = .int .i64 k ∧ (∀ j, j < k → 0 ≤ f j ∧ f j < (8 * l)) ∧ Below w.heap.size w wr) (fun _ i _ => m - (intOf i).toNat)
  case atStart => exact ⟨0, by omega, rfl, fun j hj => by omega, Below.refl _ _⟩
  case round =>
    obtain ⟨k, hk, rfl, hno, hb⟩ := hrel
    have Hno := hid hno
    have Hb := hid hb
    clear hno hb
    by_cases hlt : k < m
    · have hlt' : (k : Int) < (m : Int) := by omega
      obtain ⟨ad, rfl, hadl, hc⟩ : ∃ ad, A = some ad ∧ ad.block < wr.heap.size ∧ ∀ k, k < m → wr.cell? (ad.add (k * 2)) = some (.int .i64 (f k)) ∧ wr.cell? (ad.add (k * 2 + 1)) = some (.int .u64 (g k)) := by
        rcases pairs_below HP.out Hb.out with h0 | h1
        · omega
        · exact h1
      obtain ⟨c0, c1⟩ := hc k hlt
      have c1' : wr.cell? ⟨(ad.add (k * 2)).block, (ad.add (k * 2)).off + 1, none⟩ = some (.int .u64 (g k)) := by rw [← add_lit (ad.add (k * 2)) 1 (by omega), Addr.add_add]; exact c1
      clear hc c1
      have HB2 := hid ((Hb.out.cell (p := ⟨B, 0, none⟩) hBl).trans HB.out)
      by_cases hfar : f k < 0 ∨ (8 * l) ≤ f k
      · have hd : (decide (f k < 0) || decide ((8 * l) ≤ f k)) = true := by simpa using hfar
        have Hfar := hid (farB_true.2 ⟨k, hlt, hfar⟩)
        clear hfar
        go_wp2_with (go_at_fn 52; refine (far_redo B l (f k) (g k) _ hl HB2.out).mono ?_; rintro e w3 ⟨rfl, hb3⟩; have Hb3 := hid (Hb.out.trans (hb3.mono Hb.out.size)); clear hb3)
        go_ret
        exact ⟨⟨_, rfl, by rw [Hfar.out]; simp⟩, Hb3.out⟩
      · have hd : (decide (f k < 0) || decide ((8 * l) ≤ f k)) = false := by simpa using hfar
        have Hfar := hid hfar
        clear hfar
        go_wp2_with (go_at_fn 52; refine (far_redo B l (f k) (g k) _ hl HB2.out).mono ?_; rintro e w3 ⟨rfl, hb3⟩; have Hb3 := hid (Hb.out.trans (hb3.mono Hb.out.size)); clear hb3)
        go_roundw
        case rel => exact ⟨k + 1, by omega, by go_num, fun j hj => if h : j = k then by have := Hfar.out; subst h; omega else Hno.out j (by omega), Hb3.out⟩
        case measure => simp [intOf]; omega
    · have hkm : k = m := by omega
      subst hkm
      have Hfar := hid (farB_false.2 Hno.out)
      go_wp2
      go_ret
      exact ⟨⟨_, rfl, by rw [Hfar.out]; rfl⟩, Hb.out⟩
set_option maxHeartbeats 1000000 in
set_option maxRecDepth 100000 in
theorem index_line (A : Option Addr) (m c : Nat) (f : Nat → Int) (B : Nat) (l : Int) (w : World) (hm : m ≤ 1000000) (hp : IntsAt w A m f) (hB : w.cell? ⟨B, 0, none⟩ = some (.int .i64 l)) :
    Calls Try.prog 65 #[.slice A m c, .func (.func 55) #[] #[.pointer (some ⟨B, 0, none⟩)]] w (SomeAt (farB f m l) w) := by
  have HP := hid hp
  have HB := hid hB
  have hBl := block_lt_of_cell hB
  clear hp hB
  have eg : ∀ args w, (callFunc 55 args).run Try.prog w = .ok (.enter 55 args) w := enters_of Try.func55 (by kernel_rfl) rfl
  go_enter Try.func65, Try.ntmps65
  go_wp2
  go_loopw [5, 8] (fun _ i wr => ∃ (k : Nat), k ≤ m ∧ i = .int .i64 k ∧ (∀ j, j < k → 0 ≤ f j ∧ f j < l) ∧ Below w.heap.size w wr) (fun _ i _ => m - (intOf i).toNat)
  case atStart => exact ⟨0, by omega, rfl, fun j hj => by omega, Below.refl _ _⟩
  case round =>
    obtain ⟨k, hk, rfl, hno, hb⟩ := hrel
    have Hno := hid hno
    have Hb := hid hb
    clear hno hb
    by_cases hlt : k < m
    · have hlt' : (k : Int) < (m : Int) := by omega
      obtain ⟨ad, rfl, hadl, hc⟩ : ∃ ad, A = some ad ∧ ad.block < wr.heap.size ∧ ∀ k, k < m → wr.cell? (ad.add k) = some (.int .i64 (f k)) := by
        rcases ints_below HP.out Hb.out with h0 | h1
        · omega
        · exact h1
      have c0 := hc k hlt
      clear hc
      have HB2 := hid ((Hb.out.cell (p := ⟨B, 0, none⟩) hBl).trans HB.out)
      by_cases hfar : f k < 0 ∨ l ≤ f k
      · have hd : (decide (f k < 0) || decide (l ≤ f k)) = true := by simpa using hfar
        have Hfar := hid (farB_true.2 ⟨k, hlt, hfar⟩)
        clear hfar
        go_wp2_with (go_at_fn 55; refine (far_line B l (f k) _ HB2.out).mono ?_; rintro e w3 ⟨rfl, rfl⟩; have Hb3 := hid Hb.out)
        go_ret
        exact ⟨⟨_, rfl, by rw [Hfar.out]; simp⟩, Hb3.out⟩
      · have hd : (decide (f k < 0) || decide (l ≤ f k)) = false := by simpa using hfar
        have Hfar := hid hfar
        clear hfar
        go_wp2_with (go_at_fn 55; refine (far_line B l (f k) _ HB2.out).mono ?_; rintro e w3 ⟨rfl, rfl⟩; have Hb3 := hid Hb.out)
        go_roundw
        case rel => exact ⟨k + 1, by omega, by go_num, fun j hj => if h : j = k then by have := Hfar.out; subst h; omega else Hno.out j (by omega), Hb3.out⟩
        case measure => simp [intOf]; omega
    · have hkm : k = m := by omega
      subst hkm
      have Hfar := hid (farB_false.2 Hno.out)
      go_wp2
      go_ret
      exact ⟨⟨_, rfl, by rw [Hfar.out]; rfl⟩, Hb.out⟩
set_option maxHeartbeats 400000 in
theorem contains_redo (A : Option Addr) (m c : Nat) (f g : Nat → Int) (B : Nat) (l : Int) (w : World) (hl : 0 ≤ l ∧ l ≤ 1000000) (hm : m ≤ 1000000) (hp : PairsAt w A m f g) (hB : w.cell? ⟨B, 0, none⟩ = some (.int .i64 l)) :
    Calls Try.prog 53 #[.slice A m c, .func (.func 52) #[] #[.pointer (some ⟨B, 0, none⟩)]] w fun e w' => e = .returned (.bool (farB f m (8 * l))) ∧ Below w.heap.size w w' := by
  have H := hid (index_redo A m c f g B l w hl hm hp hB)
  clear hp hB
  go_enter Try.func53, Try.ntmps53
  go_wp2_with (go_at_call 64; refine (H.out).mono ?_; rintro e w1 ⟨⟨z, rfl, hz⟩, hb⟩)
  go_ret
  exact ⟨by rw [← hz]; rfl, hb⟩
set_option maxHeartbeats 400000 in
theorem contains_line (A : Option Addr) (m c : Nat) (f : Nat → Int) (B : Nat) (l : Int) (w : World) (hm : m ≤ 1000000) (hp : IntsAt w A m f) (hB : w.cell? ⟨B, 0, none⟩ = some (.int .i64 l)) :
    Calls Try.prog 54 #[.slice A m c, .func (.func 55) #[] #[.pointer (some ⟨B, 0, none⟩)]] w fun e w' => e = .returned (.bool (farB f m l)) ∧ Below w.heap.size w w' := by
  have H := hid (index_line A m c f B l w hm hp hB)
  clear hp hB
  go_enter Try.func54, Try.ntmps54
  go_wp2_with (go_at_call 65; refine (H.out).mono ?_; rintro e w1 ⟨⟨z, rfl, hz⟩, hb⟩)
  go_ret
  exact ⟨by rw [← hz]; rfl, hb⟩
/-- What a slice is, and the numbers in it. -/
structure Lst where
  A : Option Addr
  n : Nat
  c : Nat
  f : Nat → Int
  g : Nat → Int
/-- A plan: its Fresh, Lines, Redo, Data. -/
structure PlanD where
  err : Int
  ino : Int
  F : Lst
  L : Lst
  R : Lst
  D : Lst
def PlanAt (w : World) (P : PlanD) : Prop := PairsAt w P.F.A P.F.n P.F.f P.F.g ∧ IntsAt w P.L.A P.L.n P.L.f ∧ PairsAt w P.R.A P.R.n P.R.f P.R.g ∧ PairsAt w P.D.A P.D.n P.D.f P.D.g
theorem PlanAt.below {w w' : World} {P : PlanD} (h : PlanAt w P) (hb : Below w.heap.size w w') : PlanAt w' P := ⟨pairs_below h.1 hb, ints_below h.2.1 hb, pairs_below h.2.2.1 hb, pairs_below h.2.2.2 hb⟩
def PlanD.small (P : PlanD) : Prop := P.F.n ≤ 1000 ∧ P.L.n ≤ 1000 ∧ P.R.n ≤ 1000 ∧ P.D.n ≤ 1000
def farP (P : PlanD) (l : Int) : Bool := farB P.F.f P.F.n (8 * l) || farB P.R.f P.R.n (8 * l) || farB P.D.f P.D.n (8 * l) || farB P.L.f P.L.n l
def mayE (P : PlanD) (l : Int) : Int := if P.err ≠ 0 ∨ farP P l = true then 2 else if 64 < P.R.n then 5 else 0
set_option maxHeartbeats 4000000 in
set_option maxRecDepth 100000 in
theorem may_any (P : PlanD) (l : Int) (w : World) (hl : 0 ≤ l ∧ l ≤ 100000) (hs : P.small) (hp : PlanAt w P) :
    Calls Try.prog 29 #[.agg #[.int .i64 P.err, .int .i64 P.ino, .slice P.F.A P.F.n P.F.c, .slice P.L.A P.L.n P.L.c, .slice P.R.A P.R.n P.R.c, .slice P.D.A P.D.n P.D.c], .int .i64 l] w fun e w' => e = .returned (.int .i64 (mayE P l)) ∧ Below w.heap.size w w' := by
  obtain ⟨s1, s2, s3, s4⟩ := hs
  have HP := hid hp
  clear hp
  have b0 : Below w.heap.size w ((w.alloc (.cells #[.int .i64 P.err, .int .i64 P.ino, .slice P.F.A P.F.n P.F.c, .slice P.L.A P.L.n P.L.c, .slice P.R.A P.R.n P.R.c, .slice P.D.A P.D.n P.D.c] 28)).alloc (.cells #[.int .i64 l] 3)) := ((Below.refl _ _).alloc (Nat.le_refl _) _).alloc (by simp) _
  have b0' := hid b0
  have hsz : w.heap.size + 1 < ((w.alloc (.cells #[.int .i64 P.err, .int .i64 P.ino, .slice P.F.A P.F.n P.F.c, .slice P.L.A P.L.n P.L.c, .slice P.R.A P.R.n P.R.c, .slice P.D.A P.D.n P.D.c] 28)).alloc (.cells #[.int .i64 l] 3)).heap.size := by simp
  clear b0
  by_cases he : P.err = 0
  · have he' : (P.err == 0) = true := by simpa using he
    have He := hid he
    clear he
    cases h1 : farB P.F.f P.F.n (8 * l)
    · have H1 := hid h1
      clear h1
      cases h2 : farB P.R.f P.R.n (8 * l)
      · have H2 := hid h2
        clear h2
        cases h3 : farB P.D.f P.D.n (8 * l)
        · have H3 := hid h3
          clear h3
          cases h4 : farB P.L.f P.L.n l
          · have H4 := hid h4
            clear h4
            have hno : ¬ (P.err ≠ 0 ∨ farP P l = true) := by
              rintro (h | h)
              · exact h He.out
              · unfold farP at h; rw [H1.out, H2.out, H3.out, H4.out] at h; cases h
            by_cases h64 : 64 < P.R.n
            · have Hm := hid (show mayE P l = 5 by unfold mayE; rw [if_neg hno, if_pos h64])
              have h64' : (64 : Int) < (P.R.n : Int) := by omega
              clear hno
              go_enter Try.func29, Try.ntmps29
              go_wp2_with fail
              refine (contains_redo P.F.A P.F.n P.F.c P.F.f P.F.g _ l _ (by omega) (by omega) (pairs_below HP.out.1 b0'.out) (by simp)).mono ?_
              rw [H1.out]
              rintro e w1 ⟨rfl, hb⟩
              have B1 := b0'.out.trans (hb.mono b0'.out.size)
              obtain ⟨hc1, -⟩ := bcell hb
              have Z1 : Hid (w.heap.size + 1 < w1.heap.size) := Nat.lt_of_lt_of_le hsz hb.size
              have G1 : Hid (w1.cell? ⟨w.heap.size + 1, 0, none⟩ = some (.int .i64 l)) := (hb.cell (p := ⟨w.heap.size + 1, 0, none⟩) hsz).trans (by simp)
              have p13 : w1.cell? ⟨w.heap.size, 3, none⟩ = some (.slice P.L.A P.L.n P.L.c) := (hb.cell (p := ⟨w.heap.size, 3, none⟩) (Nat.lt_of_succ_lt hsz)).trans (by simp)
              have p14 : w1.cell? ⟨w.heap.size, 4, none⟩ = some (.slice P.R.A P.R.n P.R.c) := (hb.cell (p := ⟨w.heap.size, 4, none⟩) (Nat.lt_of_succ_lt hsz)).trans (by simp)
              have p15 : w1.cell? ⟨w.heap.size, 5, none⟩ = some (.slice P.D.A P.D.n P.D.c) := (hb.cell (p := ⟨w.heap.size, 5, none⟩) (Nat.lt_of_succ_lt hsz)).trans (by simp)
              clear hb hc1
              go_wp2_with fail
              refine (contains_redo P.R.A P.R.n P.R.c P.R.f P.R.g _ l _ (by omega) (by omega) (pairs_below HP.out.2.2.1 B1) G1.out).mono ?_
              rw [H2.out]
              rintro e w2 ⟨rfl, hb⟩
              have B2 := B1.trans (hb.mono B1.size)
              obtain ⟨hc2, -⟩ := bcell hb
              have Z2 : Hid (w.heap.size + 1 < w2.heap.size) := Nat.lt_of_lt_of_le Z1.out hb.size
              have G2 : Hid (w2.cell? ⟨w.heap.size + 1, 0, none⟩ = some (.int .i64 l)) := (hb.cell (p := ⟨w.heap.size + 1, 0, none⟩) Z1.out).trans G1.out
              have p23 : w2.cell? ⟨w.heap.size, 3, none⟩ = some (.slice P.L.A P.L.n P.L.c) := (hb.cell (p := ⟨w.heap.size, 3, none⟩) (Nat.lt_of_succ_lt Z1.out)).trans p13
              have p24 : w2.cell? ⟨w.heap.size, 4, none⟩ = some (.slice P.R.A P.R.n P.R.c) := (hb.cell (p := ⟨w.heap.size, 4, none⟩) (Nat.lt_of_succ_lt Z1.out)).trans p14
              have p25 : w2.cell? ⟨w.heap.size, 5, none⟩ = some (.slice P.D.A P.D.n P.D.c) := (hb.cell (p := ⟨w.heap.size, 5, none⟩) (Nat.lt_of_succ_lt Z1.out)).trans p15
              clear hb hc2 p13 p14 p15
              go_wp2_with fail
              refine (contains_redo P.D.A P.D.n P.D.c P.D.f P.D.g _ l _ (by omega) (by omega) (pairs_below HP.out.2.2.2 B2) G2.out).mono ?_
              rw [H3.out]
              rintro e w3 ⟨rfl, hb⟩
              have B3 := B2.trans (hb.mono B2.size)
              obtain ⟨hc3, -⟩ := bcell hb
              have Z3 : Hid (w.heap.size + 1 < w3.heap.size) := Nat.lt_of_lt_of_le Z2.out hb.size
              have G3 : Hid (w3.cell? ⟨w.heap.size + 1, 0, none⟩ = some (.int .i64 l)) := (hb.cell (p := ⟨w.heap.size + 1, 0, none⟩) Z2.out).trans G2.out
              have p33 : w3.cell? ⟨w.heap.size, 3, none⟩ = some (.slice P.L.A P.L.n P.L.c) := (hb.cell (p := ⟨w.heap.size, 3, none⟩) (Nat.lt_of_succ_lt Z2.out)).trans p23
              have p34 : w3.cell? ⟨w.heap.size, 4, none⟩ = some (.slice P.R.A P.R.n P.R.c) := (hb.cell (p := ⟨w.heap.size, 4, none⟩) (Nat.lt_of_succ_lt Z2.out)).trans p24
              have p35 : w3.cell? ⟨w.heap.size, 5, none⟩ = some (.slice P.D.A P.D.n P.D.c) := (hb.cell (p := ⟨w.heap.size, 5, none⟩) (Nat.lt_of_succ_lt Z2.out)).trans p25
              clear hb hc3 p23 p24 p25
              go_wp2_with fail
              refine (contains_line P.L.A P.L.n P.L.c P.L.f _ l _ (by omega) (ints_below HP.out.2.1 B3) G3.out).mono ?_
              rw [H4.out]
              rintro e w4 ⟨rfl, hb⟩
              have B4 := B3.trans (hb.mono B3.size)
              obtain ⟨hc4, -⟩ := bcell hb
              have Z4 : Hid (w.heap.size + 1 < w4.heap.size) := Nat.lt_of_lt_of_le Z3.out hb.size
              have G4 : Hid (w4.cell? ⟨w.heap.size + 1, 0, none⟩ = some (.int .i64 l)) := (hb.cell (p := ⟨w.heap.size + 1, 0, none⟩) Z3.out).trans G3.out
              have p43 : w4.cell? ⟨w.heap.size, 3, none⟩ = some (.slice P.L.A P.L.n P.L.c) := (hb.cell (p := ⟨w.heap.size, 3, none⟩) (Nat.lt_of_succ_lt Z3.out)).trans p33
              have p44 : w4.cell? ⟨w.heap.size, 4, none⟩ = some (.slice P.R.A P.R.n P.R.c) := (hb.cell (p := ⟨w.heap.size, 4, none⟩) (Nat.lt_of_succ_lt Z3.out)).trans p34
              have p45 : w4.cell? ⟨w.heap.size, 5, none⟩ = some (.slice P.D.A P.D.n P.D.c) := (hb.cell (p := ⟨w.heap.size, 5, none⟩) (Nat.lt_of_succ_lt Z3.out)).trans p35
              clear hb hc4 p33 p34 p35
              go_wp2
              go_ret
              exact ⟨ret_int Hm.out.symm, B4⟩
            · have Hm := hid (show mayE P l = 0 by unfold mayE; rw [if_neg hno, if_neg h64])
              have h64' : ¬ (64 : Int) < (P.R.n : Int) := by omega
              clear hno
              go_enter Try.func29, Try.ntmps29
              go_wp2_with fail
              refine (contains_redo P.F.A P.F.n P.F.c P.F.f P.F.g _ l _ (by omega) (by omega) (pairs_below HP.out.1 b0'.out) (by simp)).mono ?_
              rw [H1.out]
              rintro e w1 ⟨rfl, hb⟩
              have B1 := b0'.out.trans (hb.mono b0'.out.size)
              obtain ⟨hc1, -⟩ := bcell hb
              have Z1 : Hid (w.heap.size + 1 < w1.heap.size) := Nat.lt_of_lt_of_le hsz hb.size
              have G1 : Hid (w1.cell? ⟨w.heap.size + 1, 0, none⟩ = some (.int .i64 l)) := (hb.cell (p := ⟨w.heap.size + 1, 0, none⟩) hsz).trans (by simp)
              have p13 : w1.cell? ⟨w.heap.size, 3, none⟩ = some (.slice P.L.A P.L.n P.L.c) := (hb.cell (p := ⟨w.heap.size, 3, none⟩) (Nat.lt_of_succ_lt hsz)).trans (by simp)
              have p14 : w1.cell? ⟨w.heap.size, 4, none⟩ = some (.slice P.R.A P.R.n P.R.c) := (hb.cell (p := ⟨w.heap.size, 4, none⟩) (Nat.lt_of_succ_lt hsz)).trans (by simp)
              have p15 : w1.cell? ⟨w.heap.size, 5, none⟩ = some (.slice P.D.A P.D.n P.D.c) := (hb.cell (p := ⟨w.heap.size, 5, none⟩) (Nat.lt_of_succ_lt hsz)).trans (by simp)
              clear hb hc1
              go_wp2_with fail
              refine (contains_redo P.R.A P.R.n P.R.c P.R.f P.R.g _ l _ (by omega) (by omega) (pairs_below HP.out.2.2.1 B1) G1.out).mono ?_
              rw [H2.out]
              rintro e w2 ⟨rfl, hb⟩
              have B2 := B1.trans (hb.mono B1.size)
              obtain ⟨hc2, -⟩ := bcell hb
              have Z2 : Hid (w.heap.size + 1 < w2.heap.size) := Nat.lt_of_lt_of_le Z1.out hb.size
              have G2 : Hid (w2.cell? ⟨w.heap.size + 1, 0, none⟩ = some (.int .i64 l)) := (hb.cell (p := ⟨w.heap.size + 1, 0, none⟩) Z1.out).trans G1.out
              have p23 : w2.cell? ⟨w.heap.size, 3, none⟩ = some (.slice P.L.A P.L.n P.L.c) := (hb.cell (p := ⟨w.heap.size, 3, none⟩) (Nat.lt_of_succ_lt Z1.out)).trans p13
              have p24 : w2.cell? ⟨w.heap.size, 4, none⟩ = some (.slice P.R.A P.R.n P.R.c) := (hb.cell (p := ⟨w.heap.size, 4, none⟩) (Nat.lt_of_succ_lt Z1.out)).trans p14
              have p25 : w2.cell? ⟨w.heap.size, 5, none⟩ = some (.slice P.D.A P.D.n P.D.c) := (hb.cell (p := ⟨w.heap.size, 5, none⟩) (Nat.lt_of_succ_lt Z1.out)).trans p15
              clear hb hc2 p13 p14 p15
              go_wp2_with fail
              refine (contains_redo P.D.A P.D.n P.D.c P.D.f P.D.g _ l _ (by omega) (by omega) (pairs_below HP.out.2.2.2 B2) G2.out).mono ?_
              rw [H3.out]
              rintro e w3 ⟨rfl, hb⟩
              have B3 := B2.trans (hb.mono B2.size)
              obtain ⟨hc3, -⟩ := bcell hb
              have Z3 : Hid (w.heap.size + 1 < w3.heap.size) := Nat.lt_of_lt_of_le Z2.out hb.size
              have G3 : Hid (w3.cell? ⟨w.heap.size + 1, 0, none⟩ = some (.int .i64 l)) := (hb.cell (p := ⟨w.heap.size + 1, 0, none⟩) Z2.out).trans G2.out
              have p33 : w3.cell? ⟨w.heap.size, 3, none⟩ = some (.slice P.L.A P.L.n P.L.c) := (hb.cell (p := ⟨w.heap.size, 3, none⟩) (Nat.lt_of_succ_lt Z2.out)).trans p23
              have p34 : w3.cell? ⟨w.heap.size, 4, none⟩ = some (.slice P.R.A P.R.n P.R.c) := (hb.cell (p := ⟨w.heap.size, 4, none⟩) (Nat.lt_of_succ_lt Z2.out)).trans p24
              have p35 : w3.cell? ⟨w.heap.size, 5, none⟩ = some (.slice P.D.A P.D.n P.D.c) := (hb.cell (p := ⟨w.heap.size, 5, none⟩) (Nat.lt_of_succ_lt Z2.out)).trans p25
              clear hb hc3 p23 p24 p25
              go_wp2_with fail
              refine (contains_line P.L.A P.L.n P.L.c P.L.f _ l _ (by omega) (ints_below HP.out.2.1 B3) G3.out).mono ?_
              rw [H4.out]
              rintro e w4 ⟨rfl, hb⟩
              have B4 := B3.trans (hb.mono B3.size)
              obtain ⟨hc4, -⟩ := bcell hb
              have Z4 : Hid (w.heap.size + 1 < w4.heap.size) := Nat.lt_of_lt_of_le Z3.out hb.size
              have G4 : Hid (w4.cell? ⟨w.heap.size + 1, 0, none⟩ = some (.int .i64 l)) := (hb.cell (p := ⟨w.heap.size + 1, 0, none⟩) Z3.out).trans G3.out
              have p43 : w4.cell? ⟨w.heap.size, 3, none⟩ = some (.slice P.L.A P.L.n P.L.c) := (hb.cell (p := ⟨w.heap.size, 3, none⟩) (Nat.lt_of_succ_lt Z3.out)).trans p33
              have p44 : w4.cell? ⟨w.heap.size, 4, none⟩ = some (.slice P.R.A P.R.n P.R.c) := (hb.cell (p := ⟨w.heap.size, 4, none⟩) (Nat.lt_of_succ_lt Z3.out)).trans p34
              have p45 : w4.cell? ⟨w.heap.size, 5, none⟩ = some (.slice P.D.A P.D.n P.D.c) := (hb.cell (p := ⟨w.heap.size, 5, none⟩) (Nat.lt_of_succ_lt Z3.out)).trans p35
              clear hb hc4 p33 p34 p35
              go_wp2
              go_ret
              exact ⟨ret_int Hm.out.symm, B4⟩
          · have H4 := hid h4
            clear h4
            have Hm := hid (show mayE P l = 2 by unfold mayE farP; rw [if_pos (.inr (by simp [H1.out, H2.out, H3.out, H4.out]))])
            go_enter Try.func29, Try.ntmps29
            go_wp2_with fail
            refine (contains_redo P.F.A P.F.n P.F.c P.F.f P.F.g _ l _ (by omega) (by omega) (pairs_below HP.out.1 b0'.out) (by simp)).mono ?_
            rw [H1.out]
            rintro e w1 ⟨rfl, hb⟩
            have B1 := b0'.out.trans (hb.mono b0'.out.size)
            obtain ⟨hc1, -⟩ := bcell hb
            have Z1 : Hid (w.heap.size + 1 < w1.heap.size) := Nat.lt_of_lt_of_le hsz hb.size
            have G1 : Hid (w1.cell? ⟨w.heap.size + 1, 0, none⟩ = some (.int .i64 l)) := (hb.cell (p := ⟨w.heap.size + 1, 0, none⟩) hsz).trans (by simp)
            have p13 : w1.cell? ⟨w.heap.size, 3, none⟩ = some (.slice P.L.A P.L.n P.L.c) := (hb.cell (p := ⟨w.heap.size, 3, none⟩) (Nat.lt_of_succ_lt hsz)).trans (by simp)
            have p14 : w1.cell? ⟨w.heap.size, 4, none⟩ = some (.slice P.R.A P.R.n P.R.c) := (hb.cell (p := ⟨w.heap.size, 4, none⟩) (Nat.lt_of_succ_lt hsz)).trans (by simp)
            have p15 : w1.cell? ⟨w.heap.size, 5, none⟩ = some (.slice P.D.A P.D.n P.D.c) := (hb.cell (p := ⟨w.heap.size, 5, none⟩) (Nat.lt_of_succ_lt hsz)).trans (by simp)
            clear hb hc1
            go_wp2_with fail
            refine (contains_redo P.R.A P.R.n P.R.c P.R.f P.R.g _ l _ (by omega) (by omega) (pairs_below HP.out.2.2.1 B1) G1.out).mono ?_
            rw [H2.out]
            rintro e w2 ⟨rfl, hb⟩
            have B2 := B1.trans (hb.mono B1.size)
            obtain ⟨hc2, -⟩ := bcell hb
            have Z2 : Hid (w.heap.size + 1 < w2.heap.size) := Nat.lt_of_lt_of_le Z1.out hb.size
            have G2 : Hid (w2.cell? ⟨w.heap.size + 1, 0, none⟩ = some (.int .i64 l)) := (hb.cell (p := ⟨w.heap.size + 1, 0, none⟩) Z1.out).trans G1.out
            have p23 : w2.cell? ⟨w.heap.size, 3, none⟩ = some (.slice P.L.A P.L.n P.L.c) := (hb.cell (p := ⟨w.heap.size, 3, none⟩) (Nat.lt_of_succ_lt Z1.out)).trans p13
            have p24 : w2.cell? ⟨w.heap.size, 4, none⟩ = some (.slice P.R.A P.R.n P.R.c) := (hb.cell (p := ⟨w.heap.size, 4, none⟩) (Nat.lt_of_succ_lt Z1.out)).trans p14
            have p25 : w2.cell? ⟨w.heap.size, 5, none⟩ = some (.slice P.D.A P.D.n P.D.c) := (hb.cell (p := ⟨w.heap.size, 5, none⟩) (Nat.lt_of_succ_lt Z1.out)).trans p15
            clear hb hc2 p13 p14 p15
            go_wp2_with fail
            refine (contains_redo P.D.A P.D.n P.D.c P.D.f P.D.g _ l _ (by omega) (by omega) (pairs_below HP.out.2.2.2 B2) G2.out).mono ?_
            rw [H3.out]
            rintro e w3 ⟨rfl, hb⟩
            have B3 := B2.trans (hb.mono B2.size)
            obtain ⟨hc3, -⟩ := bcell hb
            have Z3 : Hid (w.heap.size + 1 < w3.heap.size) := Nat.lt_of_lt_of_le Z2.out hb.size
            have G3 : Hid (w3.cell? ⟨w.heap.size + 1, 0, none⟩ = some (.int .i64 l)) := (hb.cell (p := ⟨w.heap.size + 1, 0, none⟩) Z2.out).trans G2.out
            have p33 : w3.cell? ⟨w.heap.size, 3, none⟩ = some (.slice P.L.A P.L.n P.L.c) := (hb.cell (p := ⟨w.heap.size, 3, none⟩) (Nat.lt_of_succ_lt Z2.out)).trans p23
            have p34 : w3.cell? ⟨w.heap.size, 4, none⟩ = some (.slice P.R.A P.R.n P.R.c) := (hb.cell (p := ⟨w.heap.size, 4, none⟩) (Nat.lt_of_succ_lt Z2.out)).trans p24
            have p35 : w3.cell? ⟨w.heap.size, 5, none⟩ = some (.slice P.D.A P.D.n P.D.c) := (hb.cell (p := ⟨w.heap.size, 5, none⟩) (Nat.lt_of_succ_lt Z2.out)).trans p25
            clear hb hc3 p23 p24 p25
            go_wp2_with fail
            refine (contains_line P.L.A P.L.n P.L.c P.L.f _ l _ (by omega) (ints_below HP.out.2.1 B3) G3.out).mono ?_
            rw [H4.out]
            rintro e w4 ⟨rfl, hb⟩
            have B4 := B3.trans (hb.mono B3.size)
            obtain ⟨hc4, -⟩ := bcell hb
            have Z4 : Hid (w.heap.size + 1 < w4.heap.size) := Nat.lt_of_lt_of_le Z3.out hb.size
            have G4 : Hid (w4.cell? ⟨w.heap.size + 1, 0, none⟩ = some (.int .i64 l)) := (hb.cell (p := ⟨w.heap.size + 1, 0, none⟩) Z3.out).trans G3.out
            have p43 : w4.cell? ⟨w.heap.size, 3, none⟩ = some (.slice P.L.A P.L.n P.L.c) := (hb.cell (p := ⟨w.heap.size, 3, none⟩) (Nat.lt_of_succ_lt Z3.out)).trans p33
            have p44 : w4.cell? ⟨w.heap.size, 4, none⟩ = some (.slice P.R.A P.R.n P.R.c) := (hb.cell (p := ⟨w.heap.size, 4, none⟩) (Nat.lt_of_succ_lt Z3.out)).trans p34
            have p45 : w4.cell? ⟨w.heap.size, 5, none⟩ = some (.slice P.D.A P.D.n P.D.c) := (hb.cell (p := ⟨w.heap.size, 5, none⟩) (Nat.lt_of_succ_lt Z3.out)).trans p35
            clear hb hc4 p33 p34 p35
            go_wp2
            go_ret
            exact ⟨ret_int Hm.out.symm, B4⟩
        · have H3 := hid h3
          clear h3
          have Hm := hid (show mayE P l = 2 by unfold mayE farP; rw [if_pos (.inr (by simp [H1.out, H2.out, H3.out]))])
          go_enter Try.func29, Try.ntmps29
          go_wp2_with fail
          refine (contains_redo P.F.A P.F.n P.F.c P.F.f P.F.g _ l _ (by omega) (by omega) (pairs_below HP.out.1 b0'.out) (by simp)).mono ?_
          rw [H1.out]
          rintro e w1 ⟨rfl, hb⟩
          have B1 := b0'.out.trans (hb.mono b0'.out.size)
          obtain ⟨hc1, -⟩ := bcell hb
          have Z1 : Hid (w.heap.size + 1 < w1.heap.size) := Nat.lt_of_lt_of_le hsz hb.size
          have G1 : Hid (w1.cell? ⟨w.heap.size + 1, 0, none⟩ = some (.int .i64 l)) := (hb.cell (p := ⟨w.heap.size + 1, 0, none⟩) hsz).trans (by simp)
          have p13 : w1.cell? ⟨w.heap.size, 3, none⟩ = some (.slice P.L.A P.L.n P.L.c) := (hb.cell (p := ⟨w.heap.size, 3, none⟩) (Nat.lt_of_succ_lt hsz)).trans (by simp)
          have p14 : w1.cell? ⟨w.heap.size, 4, none⟩ = some (.slice P.R.A P.R.n P.R.c) := (hb.cell (p := ⟨w.heap.size, 4, none⟩) (Nat.lt_of_succ_lt hsz)).trans (by simp)
          have p15 : w1.cell? ⟨w.heap.size, 5, none⟩ = some (.slice P.D.A P.D.n P.D.c) := (hb.cell (p := ⟨w.heap.size, 5, none⟩) (Nat.lt_of_succ_lt hsz)).trans (by simp)
          clear hb hc1
          go_wp2_with fail
          refine (contains_redo P.R.A P.R.n P.R.c P.R.f P.R.g _ l _ (by omega) (by omega) (pairs_below HP.out.2.2.1 B1) G1.out).mono ?_
          rw [H2.out]
          rintro e w2 ⟨rfl, hb⟩
          have B2 := B1.trans (hb.mono B1.size)
          obtain ⟨hc2, -⟩ := bcell hb
          have Z2 : Hid (w.heap.size + 1 < w2.heap.size) := Nat.lt_of_lt_of_le Z1.out hb.size
          have G2 : Hid (w2.cell? ⟨w.heap.size + 1, 0, none⟩ = some (.int .i64 l)) := (hb.cell (p := ⟨w.heap.size + 1, 0, none⟩) Z1.out).trans G1.out
          have p23 : w2.cell? ⟨w.heap.size, 3, none⟩ = some (.slice P.L.A P.L.n P.L.c) := (hb.cell (p := ⟨w.heap.size, 3, none⟩) (Nat.lt_of_succ_lt Z1.out)).trans p13
          have p24 : w2.cell? ⟨w.heap.size, 4, none⟩ = some (.slice P.R.A P.R.n P.R.c) := (hb.cell (p := ⟨w.heap.size, 4, none⟩) (Nat.lt_of_succ_lt Z1.out)).trans p14
          have p25 : w2.cell? ⟨w.heap.size, 5, none⟩ = some (.slice P.D.A P.D.n P.D.c) := (hb.cell (p := ⟨w.heap.size, 5, none⟩) (Nat.lt_of_succ_lt Z1.out)).trans p15
          clear hb hc2 p13 p14 p15
          go_wp2_with fail
          refine (contains_redo P.D.A P.D.n P.D.c P.D.f P.D.g _ l _ (by omega) (by omega) (pairs_below HP.out.2.2.2 B2) G2.out).mono ?_
          rw [H3.out]
          rintro e w3 ⟨rfl, hb⟩
          have B3 := B2.trans (hb.mono B2.size)
          obtain ⟨hc3, -⟩ := bcell hb
          have Z3 : Hid (w.heap.size + 1 < w3.heap.size) := Nat.lt_of_lt_of_le Z2.out hb.size
          have G3 : Hid (w3.cell? ⟨w.heap.size + 1, 0, none⟩ = some (.int .i64 l)) := (hb.cell (p := ⟨w.heap.size + 1, 0, none⟩) Z2.out).trans G2.out
          have p33 : w3.cell? ⟨w.heap.size, 3, none⟩ = some (.slice P.L.A P.L.n P.L.c) := (hb.cell (p := ⟨w.heap.size, 3, none⟩) (Nat.lt_of_succ_lt Z2.out)).trans p23
          have p34 : w3.cell? ⟨w.heap.size, 4, none⟩ = some (.slice P.R.A P.R.n P.R.c) := (hb.cell (p := ⟨w.heap.size, 4, none⟩) (Nat.lt_of_succ_lt Z2.out)).trans p24
          have p35 : w3.cell? ⟨w.heap.size, 5, none⟩ = some (.slice P.D.A P.D.n P.D.c) := (hb.cell (p := ⟨w.heap.size, 5, none⟩) (Nat.lt_of_succ_lt Z2.out)).trans p25
          clear hb hc3 p23 p24 p25
          go_wp2
          go_ret
          exact ⟨ret_int Hm.out.symm, B3⟩
      · have H2 := hid h2
        clear h2
        have Hm := hid (show mayE P l = 2 by unfold mayE farP; rw [if_pos (.inr (by simp [H1.out, H2.out]))])
        go_enter Try.func29, Try.ntmps29
        go_wp2_with fail
        refine (contains_redo P.F.A P.F.n P.F.c P.F.f P.F.g _ l _ (by omega) (by omega) (pairs_below HP.out.1 b0'.out) (by simp)).mono ?_
        rw [H1.out]
        rintro e w1 ⟨rfl, hb⟩
        have B1 := b0'.out.trans (hb.mono b0'.out.size)
        obtain ⟨hc1, -⟩ := bcell hb
        have Z1 : Hid (w.heap.size + 1 < w1.heap.size) := Nat.lt_of_lt_of_le hsz hb.size
        have G1 : Hid (w1.cell? ⟨w.heap.size + 1, 0, none⟩ = some (.int .i64 l)) := (hb.cell (p := ⟨w.heap.size + 1, 0, none⟩) hsz).trans (by simp)
        have p13 : w1.cell? ⟨w.heap.size, 3, none⟩ = some (.slice P.L.A P.L.n P.L.c) := (hb.cell (p := ⟨w.heap.size, 3, none⟩) (Nat.lt_of_succ_lt hsz)).trans (by simp)
        have p14 : w1.cell? ⟨w.heap.size, 4, none⟩ = some (.slice P.R.A P.R.n P.R.c) := (hb.cell (p := ⟨w.heap.size, 4, none⟩) (Nat.lt_of_succ_lt hsz)).trans (by simp)
        have p15 : w1.cell? ⟨w.heap.size, 5, none⟩ = some (.slice P.D.A P.D.n P.D.c) := (hb.cell (p := ⟨w.heap.size, 5, none⟩) (Nat.lt_of_succ_lt hsz)).trans (by simp)
        clear hb hc1
        go_wp2_with fail
        refine (contains_redo P.R.A P.R.n P.R.c P.R.f P.R.g _ l _ (by omega) (by omega) (pairs_below HP.out.2.2.1 B1) G1.out).mono ?_
        rw [H2.out]
        rintro e w2 ⟨rfl, hb⟩
        have B2 := B1.trans (hb.mono B1.size)
        obtain ⟨hc2, -⟩ := bcell hb
        have Z2 : Hid (w.heap.size + 1 < w2.heap.size) := Nat.lt_of_lt_of_le Z1.out hb.size
        have G2 : Hid (w2.cell? ⟨w.heap.size + 1, 0, none⟩ = some (.int .i64 l)) := (hb.cell (p := ⟨w.heap.size + 1, 0, none⟩) Z1.out).trans G1.out
        have p23 : w2.cell? ⟨w.heap.size, 3, none⟩ = some (.slice P.L.A P.L.n P.L.c) := (hb.cell (p := ⟨w.heap.size, 3, none⟩) (Nat.lt_of_succ_lt Z1.out)).trans p13
        have p24 : w2.cell? ⟨w.heap.size, 4, none⟩ = some (.slice P.R.A P.R.n P.R.c) := (hb.cell (p := ⟨w.heap.size, 4, none⟩) (Nat.lt_of_succ_lt Z1.out)).trans p14
        have p25 : w2.cell? ⟨w.heap.size, 5, none⟩ = some (.slice P.D.A P.D.n P.D.c) := (hb.cell (p := ⟨w.heap.size, 5, none⟩) (Nat.lt_of_succ_lt Z1.out)).trans p15
        clear hb hc2 p13 p14 p15
        go_wp2
        go_ret
        exact ⟨ret_int Hm.out.symm, B2⟩
    · have H1 := hid h1
      clear h1
      have Hm := hid (show mayE P l = 2 by unfold mayE farP; rw [if_pos (.inr (by simp [H1.out]))])
      go_enter Try.func29, Try.ntmps29
      go_wp2_with fail
      refine (contains_redo P.F.A P.F.n P.F.c P.F.f P.F.g _ l _ (by omega) (by omega) (pairs_below HP.out.1 b0'.out) (by simp)).mono ?_
      rw [H1.out]
      rintro e w1 ⟨rfl, hb⟩
      have B1 := b0'.out.trans (hb.mono b0'.out.size)
      obtain ⟨hc1, -⟩ := bcell hb
      have Z1 : Hid (w.heap.size + 1 < w1.heap.size) := Nat.lt_of_lt_of_le hsz hb.size
      have G1 : Hid (w1.cell? ⟨w.heap.size + 1, 0, none⟩ = some (.int .i64 l)) := (hb.cell (p := ⟨w.heap.size + 1, 0, none⟩) hsz).trans (by simp)
      have p13 : w1.cell? ⟨w.heap.size, 3, none⟩ = some (.slice P.L.A P.L.n P.L.c) := (hb.cell (p := ⟨w.heap.size, 3, none⟩) (Nat.lt_of_succ_lt hsz)).trans (by simp)
      have p14 : w1.cell? ⟨w.heap.size, 4, none⟩ = some (.slice P.R.A P.R.n P.R.c) := (hb.cell (p := ⟨w.heap.size, 4, none⟩) (Nat.lt_of_succ_lt hsz)).trans (by simp)
      have p15 : w1.cell? ⟨w.heap.size, 5, none⟩ = some (.slice P.D.A P.D.n P.D.c) := (hb.cell (p := ⟨w.heap.size, 5, none⟩) (Nat.lt_of_succ_lt hsz)).trans (by simp)
      clear hb hc1
      go_wp2
      go_ret
      exact ⟨ret_int Hm.out.symm, B1⟩
  · have he' : (P.err == 0) = false := by simpa using he
    have Hm := hid (show mayE P l = 2 by unfold mayE; rw [if_pos (.inl he)])
    clear he
    go_enter Try.func29, Try.ntmps29
    go_wp2
    go_ret
    exact ⟨ret_int Hm.out.symm, b0'.out⟩
end Go.Proofs.Ytimfnimcmfjjpaa
