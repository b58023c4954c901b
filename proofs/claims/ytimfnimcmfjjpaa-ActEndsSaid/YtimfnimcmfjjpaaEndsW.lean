/- ActEnds: the walk. -/
import Derived.Test.YtimfnimcmfjjpaaEnds
import Derived.Deep.DeepCutAuto
import Derived.Maps.RangeWalk
namespace Go.Proofs.Ytimfnimcmfjjpaa
open Go.RowKit Go.Maps
theorem last_at (f : Nat → Int) (x : Int) : ∀ m, (∃ j, j < m ∧ f j = x) → ∃ j, j < m ∧ f j = x ∧ ∀ i, j < i → i < m → f i ≠ f j
  | 0, ⟨j, hj, _⟩ => absurd hj (Nat.not_lt_zero _)
  | m + 1, ⟨j, hj, e⟩ => by
    by_cases hm : f m = x
    · exact ⟨m, by omega, hm, fun i h1 h2 => by omega⟩
    · have hjm : j ≠ m := fun e' => hm (e' ▸ e)
      obtain ⟨j', h1, h2, h3⟩ := last_at f x m ⟨j, by omega, e⟩
      refine ⟨j', by omega, h2, fun i hi hi2 => ?_⟩
      by_cases him : i = m
      · subst him; rw [h2]; exact hm
      · exact h3 i hi (by omega)
theorem MapOf.entry {D : DataW Unit} {f g : Nat → Int} {m : Nat} {x c : Int} {z : DataW Unit} (h : MapOf D f g m) (hx : has D (.int .i64 x) = true) (hat : D.atKey (.int .i64 x) z = .lit (.int .u64 c)) :
    ∃ j, j < m ∧ f j = x ∧ (∀ i, j < i → i < m → f i ≠ f j) ∧ c = g j := by
  obtain ⟨j, h1, h2, h3⟩ := last_at f x m ((h.2.1 x).1 hx)
  refine ⟨j, h1, h2, h3, ?_⟩
  have := h.2.2 j h1 h3 z
  rw [h2, hat] at this
  simpa using this
set_option maxHeartbeats 8000000 in
set_option maxRecDepth 100000 in
theorem ends_large (p i b s : Int) (P : PlanD) (A : Option Addr) (m c : Nat) (w : World) (h : largeB p i b P = true) :
    Calls Try.prog 5 #[.agg #[.int .i64 p, .int .i64 i, .int .i64 b], .int .i64 s, .agg #[.int .i64 P.err, .int .i64 P.ino, .slice P.F.A P.F.n P.F.c, .slice P.L.A P.L.n P.L.c, .slice P.R.A P.R.n P.R.c, .slice P.D.A P.D.n P.D.c], .slice A m c] w fun e w' => e = .returned (.bool true) ∧ Below w.heap.size w w' := by
  have H := hid h
  have b0 := hid (show Below w.heap.size w ((w.alloc (.cells #[.int .i64 p, .int .i64 i, .int .i64 b] 23)).alloc (.cells #[.int .i64 P.err, .int .i64 P.ino, .slice P.F.A P.F.n P.F.c, .slice P.L.A P.L.n P.L.c, .slice P.R.A P.R.n P.R.c, .slice P.D.A P.D.n P.D.c] 28)) from ((Below.refl _ _).alloc (Nat.le_refl _) _).alloc (by simp) _)
  clear h
  go_enter Try.func5, Try.ntmps5
  go_wp2_with (first
    | (go_at_call 7; refine (large_any p i b P _ true H.out).mono ?_; rintro e w1 ⟨rfl, hb⟩; have B1 := hid (b0.out.trans (hb.mono b0.out.size)); clear hb)
    | (go_at_call 8; refine (alive_any _).mono ?_; rintro e w2 ⟨rfl, hb⟩; have B2 := hid (B1.out.trans (hb.mono B1.out.size)); clear hb))
  go_ret
  exact ⟨rfl, B2.out⟩
set_option maxHeartbeats 8000000 in
set_option maxRecDepth 100000 in
theorem ends_long (p i b s : Int) (P : PlanD) (A : Option Addr) (m c : Nat) (w : World) (h : largeB p i b P = false) (hm : 300 < m) :
    Calls Try.prog 5 #[.agg #[.int .i64 p, .int .i64 i, .int .i64 b], .int .i64 s, .agg #[.int .i64 P.err, .int .i64 P.ino, .slice P.F.A P.F.n P.F.c, .slice P.L.A P.L.n P.L.c, .slice P.R.A P.R.n P.R.c, .slice P.D.A P.D.n P.D.c], .slice A m c] w fun e w' => e = .returned (.bool true) ∧ Below w.heap.size w w' := by
  have H := hid h
  have hm' : (300 : Int) < (m : Int) := by omega
  have b0 := hid (show Below w.heap.size w ((w.alloc (.cells #[.int .i64 p, .int .i64 i, .int .i64 b] 23)).alloc (.cells #[.int .i64 P.err, .int .i64 P.ino, .slice P.F.A P.F.n P.F.c, .slice P.L.A P.L.n P.L.c, .slice P.R.A P.R.n P.R.c, .slice P.D.A P.D.n P.D.c] 28)) from ((Below.refl _ _).alloc (Nat.le_refl _) _).alloc (by simp) _)
  clear h
  go_enter Try.func5, Try.ntmps5
  go_wp2_with (first
    | (go_at_call 7; refine (large_any p i b P _ false H.out).mono ?_; rintro e w1 ⟨rfl, hb⟩; have B1 := hid (b0.out.trans (hb.mono b0.out.size)); clear hb)
    | (go_at_call 8; refine (alive_any _).mono ?_; rintro e w2 ⟨rfl, hb⟩; have B2 := hid (B1.out.trans (hb.mono B1.out.size)); clear hb))
  go_ret
  exact ⟨rfl, B2.out⟩
set_option maxHeartbeats 4000000 in
set_option maxRecDepth 100000 in
theorem ends_err (p i b s : Int) (P : PlanD) (A : Option Addr) (m c : Nat) (w : World) (h : largeB p i b P = false) (hm : m ≤ 300) (hp : PlanAt w P) (v : Int) (hv : errE p i b s P = v) (he : v ≠ 0) :
    Calls Try.prog 5 #[.agg #[.int .i64 p, .int .i64 i, .int .i64 b], .int .i64 s, .agg #[.int .i64 P.err, .int .i64 P.ino, .slice P.F.A P.F.n P.F.c, .slice P.L.A P.L.n P.L.c, .slice P.R.A P.R.n P.R.c, .slice P.D.A P.D.n P.D.c], .slice A m c] w fun e w' => e = .returned (.bool true) ∧ Below w.heap.size w w' := by
  have HV := hid hv
  have hd : (v != 0) = true := by simpa using he
  have H := hid h
  have HP := hid hp
  obtain ⟨t1, t2, t3, t4, -⟩ := large_small h
  have hsm : P.small := ⟨by omega, by omega, by omega, by omega⟩
  have Hsm := hid hsm
  have b0 := hid (show Below w.heap.size w ((w.alloc (.cells #[.int .i64 p, .int .i64 i, .int .i64 b] 23)).alloc (.cells #[.int .i64 P.err, .int .i64 P.ino, .slice P.F.A P.F.n P.F.c, .slice P.L.A P.L.n P.L.c, .slice P.R.A P.R.n P.R.c, .slice P.D.A P.D.n P.D.c] 28)) from ((Below.refl _ _).alloc (Nat.le_refl _) _).alloc (by simp) _)
  have hsz : w.heap.size + 1 < ((w.alloc (.cells #[.int .i64 p, .int .i64 i, .int .i64 b] 23)).alloc (.cells #[.int .i64 P.err, .int .i64 P.ino, .slice P.F.A P.F.n P.F.c, .slice P.L.A P.L.n P.L.c, .slice P.R.A P.R.n P.R.c, .slice P.D.A P.D.n P.D.c] 28)).heap.size := by simp
  clear h hp hv hsm he
  have hm' : ¬ (300 : Int) < (m : Int) := by omega
  go_enter Try.func5, Try.ntmps5
  go_wp2_with fail
  refine (large_any p i b P _ false H.out).mono ?_
  rintro e w1 ⟨rfl, hb⟩
  have B1 := hid (b0.out.trans (hb.mono b0.out.size))
  have Z1 : Hid (w.heap.size + 1 < w1.heap.size) := Nat.lt_of_lt_of_le hsz hb.size
  have g10 : w1.cell? ⟨w.heap.size, 0, none⟩ = some (.int .i64 p) := (hb.cell (p := ⟨w.heap.size, 0, none⟩) (Nat.lt_of_succ_lt hsz)).trans (by simp)
  have g11 : w1.cell? ⟨w.heap.size, 1, none⟩ = some (.int .i64 i) := (hb.cell (p := ⟨w.heap.size, 1, none⟩) (Nat.lt_of_succ_lt hsz)).trans (by simp)
  have g12 : w1.cell? ⟨w.heap.size, 2, none⟩ = some (.int .i64 b) := (hb.cell (p := ⟨w.heap.size, 2, none⟩) (Nat.lt_of_succ_lt hsz)).trans (by simp)
  have p10 : w1.cell? ⟨w.heap.size + 1, 0, none⟩ = some (.int .i64 P.err) := (hb.cell (p := ⟨w.heap.size + 1, 0, none⟩) hsz).trans (by simp)
  have p11 : w1.cell? ⟨w.heap.size + 1, 1, none⟩ = some (.int .i64 P.ino) := (hb.cell (p := ⟨w.heap.size + 1, 1, none⟩) hsz).trans (by simp)
  have p12 : w1.cell? ⟨w.heap.size + 1, 2, none⟩ = some (.slice P.F.A P.F.n P.F.c) := (hb.cell (p := ⟨w.heap.size + 1, 2, none⟩) hsz).trans (by simp)
  have p13 : w1.cell? ⟨w.heap.size + 1, 3, none⟩ = some (.slice P.L.A P.L.n P.L.c) := (hb.cell (p := ⟨w.heap.size + 1, 3, none⟩) hsz).trans (by simp)
  have p14 : w1.cell? ⟨w.heap.size + 1, 4, none⟩ = some (.slice P.R.A P.R.n P.R.c) := (hb.cell (p := ⟨w.heap.size + 1, 4, none⟩) hsz).trans (by simp)
  have p15 : w1.cell? ⟨w.heap.size + 1, 5, none⟩ = some (.slice P.D.A P.D.n P.D.c) := (hb.cell (p := ⟨w.heap.size + 1, 5, none⟩) hsz).trans (by simp)
  clear hb
  go_wp2_with fail
  refine (rmay_is p i b s P _ v Hsm.out (HP.out.below B1.out) HV.out).mono ?_
  rintro e w2 ⟨rfl, hb⟩
  have B2 := hid (B1.out.trans (hb.mono B1.out.size))
  clear hb
  go_wp2_with fail
  refine (alive_any _).mono ?_
  rintro e w3 ⟨rfl, hb⟩
  have B3 := hid (B2.out.trans (hb.mono B2.out.size))
  clear hb
  go_wp2
  go_ret
  exact ⟨rfl, B3.out⟩
theorem dev_form {w : World} {B d kB c n : Nat} {lv : Value} {K f g : Nat → Int} {D : Nat} (h : DevAt w B d kB c lv n K (pends f g D)) : ∃ A cap, lv = .slice A D cap := by
  have hl : (pends f g D).length = D := by simp [pends]
  rcases h.lvs with ⟨h1, h2⟩ | ⟨g', cap, h1, -⟩
  · have : D = 0 := by rw [← hl, h2]; rfl
    exact ⟨none, 0, by rw [h1, this]⟩
  · exact ⟨_, _, by rw [h1, hl]⟩
theorem fin_slot' {x : Nat} {z : Int} {P : PlanD} {K : Nat → Int} (h : ApartP P z) (hx : z = (x : Int)) (h0 : K x = 0) : finK z P K x = 0 := by
  subst hx
  exact fin_slot h rfl h0
theorem dev_word {w : World} {B d kB c n a : Nat} {lv : Value} {K : Nat → Int} {L : List Pd} (h : DevAt w B d kB c lv n K L) (ha : a < n) : w.cell? ⟨kB, a, none⟩ = some (.int .u64 (K a)) ∧ w.frozen? ⟨kB, a, none⟩ = false := by
  obtain ⟨cap, F, h1, h2, h3⟩ := h.kept
  exact ⟨(h2.cell (by omega)).trans (by rw [h3 a ha]), h2.frozen a⟩
set_option maxHeartbeats 16000000 in
set_option maxRecDepth 100000 in
theorem ends_ok (p i b s : Int) (P : PlanD) (A : Option Addr) (m c : Nat) (w : World) (BF : Nat → Int) (h : largeB p i b P = false) (hm : m ≤ 300) (hba : BaseAt w A m BF) (hp : PlanAt w P) (hw : P.wf) (hg : Wf2 P.F.n P.F.g ∧ Wf2 P.D.n P.D.g) (he : errE p i b s P = 0) :
    Calls Try.prog 5 #[.agg #[.int .i64 p, .int .i64 i, .int .i64 b], .int .i64 s, .agg #[.int .i64 P.err, .int .i64 P.ino, .slice P.F.A P.F.n P.F.c, .slice P.L.A P.L.n P.L.c, .slice P.R.A P.R.n P.R.c, .slice P.D.A P.D.n P.D.c], .slice A m c] w fun e w' => e = .returned (.bool true) ∧ Below w.heap.size w w' := by
  have HE := hid he
  have HW := hid hw
  have HG := hid hg
  have HL := hid (err_low he)
  have H := hid h
  have HP := hid hp
  have HK := hid (errE_zero he)
  have HBA := hid hba
  obtain ⟨N, a, hN, hA, hN8, hN3, haN, hIn⟩ := err_in he
  have HNe := hid hN
  have HAe := hid hA
  have HIn := hid hIn
  obtain ⟨t1, t2, t3, t4, -⟩ := large_small h
  have hsm : P.small := ⟨by omega, by omega, by omega, by omega⟩
  have Hsm := hid hsm
  have b0 := hid (show Below w.heap.size w ((w.alloc (.cells #[.int .i64 p, .int .i64 i, .int .i64 b] 23)).alloc (.cells #[.int .i64 P.err, .int .i64 P.ino, .slice P.F.A P.F.n P.F.c, .slice P.L.A P.L.n P.L.c, .slice P.R.A P.R.n P.R.c, .slice P.D.A P.D.n P.D.c] 28)) from ((Below.refl _ _).alloc (Nat.le_refl _) _).alloc (by simp) _)
  have hsz : w.heap.size + 1 < ((w.alloc (.cells #[.int .i64 p, .int .i64 i, .int .i64 b] 23)).alloc (.cells #[.int .i64 P.err, .int .i64 P.ino, .slice P.F.A P.F.n P.F.c, .slice P.L.A P.L.n P.L.c, .slice P.R.A P.R.n P.R.c, .slice P.D.A P.D.n P.D.c] 28)).heap.size := by simp
  clear h hp he hw hg hsm hba hN hA hIn
  have hm' : ¬ (300 : Int) < (m : Int) := by omega
  go_enter Try.func5, Try.ntmps5
  go_wp2_with fail
  refine (large_any p i b P _ false H.out).mono ?_
  rintro e w1 ⟨rfl, hb⟩
  have B1 := hid (b0.out.trans (hb.mono b0.out.size))
  have Z1 : Hid (w.heap.size + 1 < w1.heap.size) := Nat.lt_of_lt_of_le hsz hb.size
  have g10 : w1.cell? ⟨w.heap.size, 0, none⟩ = some (.int .i64 p) := (hb.cell (p := ⟨w.heap.size, 0, none⟩) (Nat.lt_of_succ_lt hsz)).trans (by simp)
  have g11 : w1.cell? ⟨w.heap.size, 1, none⟩ = some (.int .i64 i) := (hb.cell (p := ⟨w.heap.size, 1, none⟩) (Nat.lt_of_succ_lt hsz)).trans (by simp)
  have g12 : w1.cell? ⟨w.heap.size, 2, none⟩ = some (.int .i64 b) := (hb.cell (p := ⟨w.heap.size, 2, none⟩) (Nat.lt_of_succ_lt hsz)).trans (by simp)
  have p10 : w1.cell? ⟨w.heap.size + 1, 0, none⟩ = some (.int .i64 P.err) := (hb.cell (p := ⟨w.heap.size + 1, 0, none⟩) hsz).trans (by simp)
  have p11 : w1.cell? ⟨w.heap.size + 1, 1, none⟩ = some (.int .i64 P.ino) := (hb.cell (p := ⟨w.heap.size + 1, 1, none⟩) hsz).trans (by simp)
  have p12 : w1.cell? ⟨w.heap.size + 1, 2, none⟩ = some (.slice P.F.A P.F.n P.F.c) := (hb.cell (p := ⟨w.heap.size + 1, 2, none⟩) hsz).trans (by simp)
  have p13 : w1.cell? ⟨w.heap.size + 1, 3, none⟩ = some (.slice P.L.A P.L.n P.L.c) := (hb.cell (p := ⟨w.heap.size + 1, 3, none⟩) hsz).trans (by simp)
  have p14 : w1.cell? ⟨w.heap.size + 1, 4, none⟩ = some (.slice P.R.A P.R.n P.R.c) := (hb.cell (p := ⟨w.heap.size + 1, 4, none⟩) hsz).trans (by simp)
  have p15 : w1.cell? ⟨w.heap.size + 1, 5, none⟩ = some (.slice P.D.A P.D.n P.D.c) := (hb.cell (p := ⟨w.heap.size + 1, 5, none⟩) hsz).trans (by simp)
  clear hb
  go_wp2_with fail
  refine (rmay_is p i b s P _ 0 Hsm.out (HP.out.below B1.out) HE.out).mono ?_
  rintro e w2 ⟨rfl, hb⟩
  have B2 := hid (B1.out.trans (hb.mono B1.out.size))
  have Z2 : Hid (w.heap.size + 1 < w2.heap.size) := Nat.lt_of_lt_of_le Z1.out hb.size
  have g20 : w2.cell? ⟨w.heap.size, 0, none⟩ = some (.int .i64 p) := (hb.cell (p := ⟨w.heap.size, 0, none⟩) (Nat.lt_of_succ_lt Z1.out)).trans g10
  have g21 : w2.cell? ⟨w.heap.size, 1, none⟩ = some (.int .i64 i) := (hb.cell (p := ⟨w.heap.size, 1, none⟩) (Nat.lt_of_succ_lt Z1.out)).trans g11
  have g22 : w2.cell? ⟨w.heap.size, 2, none⟩ = some (.int .i64 b) := (hb.cell (p := ⟨w.heap.size, 2, none⟩) (Nat.lt_of_succ_lt Z1.out)).trans g12
  have p20 : w2.cell? ⟨w.heap.size + 1, 0, none⟩ = some (.int .i64 P.err) := (hb.cell (p := ⟨w.heap.size + 1, 0, none⟩) Z1.out).trans p10
  have p21 : w2.cell? ⟨w.heap.size + 1, 1, none⟩ = some (.int .i64 P.ino) := (hb.cell (p := ⟨w.heap.size + 1, 1, none⟩) Z1.out).trans p11
  have p22 : w2.cell? ⟨w.heap.size + 1, 2, none⟩ = some (.slice P.F.A P.F.n P.F.c) := (hb.cell (p := ⟨w.heap.size + 1, 2, none⟩) Z1.out).trans p12
  have p23 : w2.cell? ⟨w.heap.size + 1, 3, none⟩ = some (.slice P.L.A P.L.n P.L.c) := (hb.cell (p := ⟨w.heap.size + 1, 3, none⟩) Z1.out).trans p13
  have p24 : w2.cell? ⟨w.heap.size + 1, 4, none⟩ = some (.slice P.R.A P.R.n P.R.c) := (hb.cell (p := ⟨w.heap.size + 1, 4, none⟩) Z1.out).trans p14
  have p25 : w2.cell? ⟨w.heap.size + 1, 5, none⟩ = some (.slice P.D.A P.D.n P.D.c) := (hb.cell (p := ⟨w.heap.size + 1, 5, none⟩) Z1.out).trans p15
  clear hb g10 g11 g12 p10 p11 p12 p13 p14 p15
  go_wp2_with fail
  refine (rplace_ok p i b s _ HK.out.1 HK.out.2.1 HK.out.2.2.1).mono ?_
  rintro e w3 ⟨rfl, hb⟩
  have B3 := hid (B2.out.trans (hb.mono B2.out.size))
  have Z3 : Hid (w.heap.size + 1 < w3.heap.size) := Nat.lt_of_lt_of_le Z2.out hb.size
  have g30 : w3.cell? ⟨w.heap.size, 0, none⟩ = some (.int .i64 p) := (hb.cell (p := ⟨w.heap.size, 0, none⟩) (Nat.lt_of_succ_lt Z2.out)).trans g20
  have g31 : w3.cell? ⟨w.heap.size, 1, none⟩ = some (.int .i64 i) := (hb.cell (p := ⟨w.heap.size, 1, none⟩) (Nat.lt_of_succ_lt Z2.out)).trans g21
  have g32 : w3.cell? ⟨w.heap.size, 2, none⟩ = some (.int .i64 b) := (hb.cell (p := ⟨w.heap.size, 2, none⟩) (Nat.lt_of_succ_lt Z2.out)).trans g22
  have p30 : w3.cell? ⟨w.heap.size + 1, 0, none⟩ = some (.int .i64 P.err) := (hb.cell (p := ⟨w.heap.size + 1, 0, none⟩) Z2.out).trans p20
  have p31 : w3.cell? ⟨w.heap.size + 1, 1, none⟩ = some (.int .i64 P.ino) := (hb.cell (p := ⟨w.heap.size + 1, 1, none⟩) Z2.out).trans p21
  have p32 : w3.cell? ⟨w.heap.size + 1, 2, none⟩ = some (.slice P.F.A P.F.n P.F.c) := (hb.cell (p := ⟨w.heap.size + 1, 2, none⟩) Z2.out).trans p22
  have p33 : w3.cell? ⟨w.heap.size + 1, 3, none⟩ = some (.slice P.L.A P.L.n P.L.c) := (hb.cell (p := ⟨w.heap.size + 1, 3, none⟩) Z2.out).trans p23
  have p34 : w3.cell? ⟨w.heap.size + 1, 4, none⟩ = some (.slice P.R.A P.R.n P.R.c) := (hb.cell (p := ⟨w.heap.size + 1, 4, none⟩) Z2.out).trans p24
  have p35 : w3.cell? ⟨w.heap.size + 1, 5, none⟩ = some (.slice P.D.A P.D.n P.D.c) := (hb.cell (p := ⟨w.heap.size + 1, 5, none⟩) Z2.out).trans p25
  clear hb g20 g21 g22 p20 p21 p22 p23 p24 p25
  go_wp2_with fail
  refine (apart_any P (slotAt i s) _ ⟨HL.out.2.2.1, Int.le_of_lt HL.out.2.2.2⟩ Hsm.out (HP.out.below B3.out) (lst_low HL.out.1)).mono ?_
  rintro e w4 ⟨r, rfl, hr, hb⟩
  have B4 := hid (B3.out.trans (hb.mono B3.out.size))
  have Z4 : Hid (w.heap.size + 1 < w4.heap.size) := Nat.lt_of_lt_of_le Z3.out hb.size
  have g40 : w4.cell? ⟨w.heap.size, 0, none⟩ = some (.int .i64 p) := (hb.cell (p := ⟨w.heap.size, 0, none⟩) (Nat.lt_of_succ_lt Z3.out)).trans g30
  have g41 : w4.cell? ⟨w.heap.size, 1, none⟩ = some (.int .i64 i) := (hb.cell (p := ⟨w.heap.size, 1, none⟩) (Nat.lt_of_succ_lt Z3.out)).trans g31
  have g42 : w4.cell? ⟨w.heap.size, 2, none⟩ = some (.int .i64 b) := (hb.cell (p := ⟨w.heap.size, 2, none⟩) (Nat.lt_of_succ_lt Z3.out)).trans g32
  have p40 : w4.cell? ⟨w.heap.size + 1, 0, none⟩ = some (.int .i64 P.err) := (hb.cell (p := ⟨w.heap.size + 1, 0, none⟩) Z3.out).trans p30
  have p41 : w4.cell? ⟨w.heap.size + 1, 1, none⟩ = some (.int .i64 P.ino) := (hb.cell (p := ⟨w.heap.size + 1, 1, none⟩) Z3.out).trans p31
  have p42 : w4.cell? ⟨w.heap.size + 1, 2, none⟩ = some (.slice P.F.A P.F.n P.F.c) := (hb.cell (p := ⟨w.heap.size + 1, 2, none⟩) Z3.out).trans p32
  have p43 : w4.cell? ⟨w.heap.size + 1, 3, none⟩ = some (.slice P.L.A P.L.n P.L.c) := (hb.cell (p := ⟨w.heap.size + 1, 3, none⟩) Z3.out).trans p33
  have p44 : w4.cell? ⟨w.heap.size + 1, 4, none⟩ = some (.slice P.R.A P.R.n P.R.c) := (hb.cell (p := ⟨w.heap.size + 1, 4, none⟩) Z3.out).trans p34
  have p45 : w4.cell? ⟨w.heap.size + 1, 5, none⟩ = some (.slice P.D.A P.D.n P.D.c) := (hb.cell (p := ⟨w.heap.size + 1, 5, none⟩) Z3.out).trans p35
  clear hb g30 g31 g32 p30 p31 p32 p33 p34 p35
  cases r
  · clear hr
    go_wp2_with fail
    refine (alive_any _).mono ?_
    rintro e w5 ⟨rfl, hb⟩
    have B5 := hid (B4.out.trans (hb.mono B4.out.size))
    clear hb
    go_wp2
    go_ret
    exact ⟨rfl, B5.out⟩
  · have HAp := hid (hr rfl)
    clear hr
    go_wp2_with fail
    refine (steps_ok p i b s P _ Hsm.out (HP.out.below B4.out) HE.out (fun k hk => (HW.out k hk).1)).mono ?_
    rintro e w5 ⟨va, rfl, ho, hb⟩
    obtain ⟨nA, nC, ph⟩ := phases HAp.out HL.out.1 HL.out.2.2 HL.out.2.1 Hsm.out
    obtain ⟨q, ca, n, rfl, hn, hrow⟩ := row_of_ops ho (by have := ph.ac; have := ph.cn; omega)
    have hbd := steps_bound (slotAt i s) P
    rw [← hn] at hbd
    have HNn := hid hn
    have R5 := hid hrow
    clear ho hn ph hrow
    have B5 := hid (B4.out.trans (hb.mono B4.out.size))
    have Z5 : Hid (w.heap.size + 1 < w5.heap.size) := Nat.lt_of_lt_of_le Z4.out hb.size
    have g50 : w5.cell? ⟨w.heap.size, 0, none⟩ = some (.int .i64 p) := (hb.cell (p := ⟨w.heap.size, 0, none⟩) (Nat.lt_of_succ_lt Z4.out)).trans g40
    have g51 : w5.cell? ⟨w.heap.size, 1, none⟩ = some (.int .i64 i) := (hb.cell (p := ⟨w.heap.size, 1, none⟩) (Nat.lt_of_succ_lt Z4.out)).trans g41
    have g52 : w5.cell? ⟨w.heap.size, 2, none⟩ = some (.int .i64 b) := (hb.cell (p := ⟨w.heap.size, 2, none⟩) (Nat.lt_of_succ_lt Z4.out)).trans g42
    have p50 : w5.cell? ⟨w.heap.size + 1, 0, none⟩ = some (.int .i64 P.err) := (hb.cell (p := ⟨w.heap.size + 1, 0, none⟩) Z4.out).trans p40
    have p51 : w5.cell? ⟨w.heap.size + 1, 1, none⟩ = some (.int .i64 P.ino) := (hb.cell (p := ⟨w.heap.size + 1, 1, none⟩) Z4.out).trans p41
    have p52 : w5.cell? ⟨w.heap.size + 1, 2, none⟩ = some (.slice P.F.A P.F.n P.F.c) := (hb.cell (p := ⟨w.heap.size + 1, 2, none⟩) Z4.out).trans p42
    have p53 : w5.cell? ⟨w.heap.size + 1, 3, none⟩ = some (.slice P.L.A P.L.n P.L.c) := (hb.cell (p := ⟨w.heap.size + 1, 3, none⟩) Z4.out).trans p43
    have p54 : w5.cell? ⟨w.heap.size + 1, 4, none⟩ = some (.slice P.R.A P.R.n P.R.c) := (hb.cell (p := ⟨w.heap.size + 1, 4, none⟩) Z4.out).trans p44
    have p55 : w5.cell? ⟨w.heap.size + 1, 5, none⟩ = some (.slice P.D.A P.D.n P.D.c) := (hb.cell (p := ⟨w.heap.size + 1, 5, none⟩) Z4.out).trans p45
    clear hb g40 g41 g42 p40 p41 p42 p43 p44 p45
    have hbd1 : ¬ (2 * (P.F.n : Int) + (P.L.n : Int) + 5 * (P.R.n : Int) + (P.D.n : Int) + 13) < (n : Int) := by omega
    have hnb : (n : Int) ≤ 10000 := by omega
    have hd7 : decide ((2 * (P.F.n : Int) + (P.L.n : Int) + 5 * (P.R.n : Int) + (P.D.n : Int) + 13) < (n : Int)) = false := decide_eq_false hbd1
    go_wp2_with fail
    rw [HAe.out]
    refine (device_any A none m c 0 0 a 0 p i b BF _ (by omega) (HBA.out.below B5.out) HK.out.1 N HNe.out (by omega) hN8 hN3 (by omega)).mono ?_
    rintro e w6 ⟨d, kB, ck, K, rfl, hdv, hKa, hKw, hb⟩
    have HDV := hid hdv
    have HKa := hid hKa
    have HKw := hid hKw
    clear hdv hKa hKw
    have hb6 := hid hb
    have B6 := hid (B5.out.trans (hb.mono B5.out.size))
    have Z6 : Hid (w.heap.size + 1 < w6.heap.size) := Nat.lt_of_lt_of_le Z5.out hb.size
    have g60 : w6.cell? ⟨w.heap.size, 0, none⟩ = some (.int .i64 p) := (hb.cell (p := ⟨w.heap.size, 0, none⟩) (Nat.lt_of_succ_lt Z5.out)).trans g50
    have g61 : w6.cell? ⟨w.heap.size, 1, none⟩ = some (.int .i64 i) := (hb.cell (p := ⟨w.heap.size, 1, none⟩) (Nat.lt_of_succ_lt Z5.out)).trans g51
    have g62 : w6.cell? ⟨w.heap.size, 2, none⟩ = some (.int .i64 b) := (hb.cell (p := ⟨w.heap.size, 2, none⟩) (Nat.lt_of_succ_lt Z5.out)).trans g52
    have p60 : w6.cell? ⟨w.heap.size + 1, 0, none⟩ = some (.int .i64 P.err) := (hb.cell (p := ⟨w.heap.size + 1, 0, none⟩) Z5.out).trans p50
    have p61 : w6.cell? ⟨w.heap.size + 1, 1, none⟩ = some (.int .i64 P.ino) := (hb.cell (p := ⟨w.heap.size + 1, 1, none⟩) Z5.out).trans p51
    have p62 : w6.cell? ⟨w.heap.size + 1, 2, none⟩ = some (.slice P.F.A P.F.n P.F.c) := (hb.cell (p := ⟨w.heap.size + 1, 2, none⟩) Z5.out).trans p52
    have p63 : w6.cell? ⟨w.heap.size + 1, 3, none⟩ = some (.slice P.L.A P.L.n P.L.c) := (hb.cell (p := ⟨w.heap.size + 1, 3, none⟩) Z5.out).trans p53
    have p64 : w6.cell? ⟨w.heap.size + 1, 4, none⟩ = some (.slice P.R.A P.R.n P.R.c) := (hb.cell (p := ⟨w.heap.size + 1, 4, none⟩) Z5.out).trans p54
    have p65 : w6.cell? ⟨w.heap.size + 1, 5, none⟩ = some (.slice P.D.A P.D.n P.D.c) := (hb.cell (p := ⟨w.heap.size + 1, 5, none⟩) Z5.out).trans p55
    clear hb g50 g51 g52 p50 p51 p52 p53 p54 p55
    have R6 := hid (R5.out.below (hb6.out))
    have hq5 := hid R5.out.1
    have D0 := hid (show n ≤ 100000 by omega)
    have HDd := hid (show DevAt w6.drew w5.heap.size d kB ck (.slice none 0 0) N K [] from ⟨HDV.out.lo, HDV.out.mid, HDV.out.row, HDV.out.kept, HDV.out.own⟩)
    have R6d := hid (show RowAt w6.drew q (stepsL (slotAt i s) P) from ⟨R6.out.1, R6.out.2⟩)
    have hLn : (K, ([] : List Pd)).2.length + (stepsL (slotAt i s) P).length ≤ 100000 := by have := D0.out; have := HNn.out; show 0 + _ ≤ _; omega
    have HC := hid (done_any w5.heap.size d kB ck N _ (K, []) q ca n (stepsL (slotAt i s) P) _ HDd.out hq5.out R6d.out HNn.out hLn (by omega) (fun p hp => by cases hp) (by rw [HAe.out]; exact steps_in hN8 haN HL.out.2.1 HIn.out))
    clear hLn
    have HC2 : Hid (Calls Try.prog 19 #[.pointer (some ⟨d, 0, none⟩), .slice (some ⟨q, 0, none⟩) n ca] w6.drew fun e w7 => e = .returned (.bool true) ∧ ∃ A7 c7, DevAt w7 w5.heap.size d kB ck (.slice A7 P.D.n c7) N (finK (slotAt i s) P K) (pends P.D.f P.D.g P.D.n) ∧ w7.cell? ⟨d, 0, none⟩ = some (.slice (some ⟨kB, 0, none⟩) N ck) ∧ w7.cell? ⟨d, 1, none⟩ = some (.slice A7 P.D.n c7) ∧ w7.cell? ⟨kB, a, none⟩ = some (.int .u64 0) ∧ w7.cell? ⟨w.heap.size + 1, 5, none⟩ = some (.slice P.D.A P.D.n P.D.c) ∧ Below w5.heap.size w6 w7) := hid (HC.out.mono fun e w7 ⟨he, ⟨lv, hdv⟩, hb⟩ => by
      replace hb := undrew hb
      rw [druns_all] at hdv
      obtain ⟨A7, c7, rfl⟩ := dev_form hdv
      dsimp only at hdv
      have e0 := (dev_word hdv (show a < N by omega)).1
      rw [fin_slot' HAp.out HAe.out HKa.out] at e0
      exact ⟨he, A7, c7, hdv, hdv.cells.1, hdv.cells.2, e0, (hb.cell (p := ⟨w.heap.size + 1, 5, none⟩) Z5.out).trans p65, hb⟩)
    have C6 := hid (And.intro p62 (And.intro p64 p65))
    clear HC HDd R6d R6 D0 g60 g61 g62 p60 p61 p62 p63 p64 p65 hbd hbd1 hnb hd7 hm' hsz hN8 hN3
    go_upto_region 10 with fail
    have haN' : (a : Int) < (N : Int) := by omega
    have h0a : (0 : Int) ≤ (a : Int) := by omega
    go_cut [114] (fun v wx => v = .bool false ∧ (∃ lv', DevAt wx w5.heap.size d kB ck lv' N (finK (slotAt i s) P K) (pends P.D.f P.D.g P.D.n)) ∧ Below w5.heap.size w6 wx)
    case first =>
      have p65 := C6.out.2.2
      refine wp_region_noPanic ?_
      refine wp_region_held_drew (S := fun w' => w'.cell? ⟨w.heap.size + 1, 5, none⟩ = some (.slice P.D.A P.D.n P.D.c)) (by kernel_rfl) p65 (fun hHeld => ?_)
      refine wpAnyH_take (i := 0) (oi := Oper.mk (some 90) _ _ _ _ _) (v := ?v1) rfl (by kernel_rfl) (by kernel_rfl) (by kernel_rfl) (fun _ _ _ h => h) (Or.inl ⟨by rfl, ?y1⟩) (by assumption) ?_
      case y1 => (intro w hSw; (try dsimp only at hSw); go_simp; first | done | with_reducible rfl)
      (try simp only [Act.put, List.setIfInBounds_toArray, List.set_cons_zero, List.set_cons_succ])
      refine wpAnyH_take (i := 1) (oi := Oper.mk (some 91) _ _ _ _ _) (v := ?v2) rfl (by kernel_rfl) (by kernel_rfl) (by kernel_rfl) (fun _ _ _ h => h) (Or.inl ⟨by rfl, ?y2⟩) (by assumption) ?_
      case y2 => (intro w hSw; (try dsimp only at hSw); go_simp; first | done | with_reducible rfl)
      (try simp only [Act.put, List.setIfInBounds_toArray, List.set_cons_zero, List.set_cons_succ])
      refine wpAnyH_ready (rs := [2]) (by kernel_rfl) (by simp) ?_
      refine AllReadyH.cons (o := Oper.mk (some 92) _ _ _ _ _) rfl (fun K hK => ?_) AllReadyH.nil
      go_simp
      refine (HC2.out).mono ?_
      rintro e w7 ⟨rfl, A7, c7, hdv, d0, d1, e0, z5, hb⟩
      have DV7 := hid hdv
      have HB7 := hid hb
      clear hdv hb
      go_simp
      refine hK.out _ _ z5 (fun hHeld => ?_)
      clear hK K
      (try simp only [Act.put, List.setIfInBounds_toArray, List.set_cons_zero, List.set_cons_succ])
      refine wpAnyH_take (i := 3) (oi := Oper.mk (some 93) _ _ _ _ _) (v := ?v3) rfl (by kernel_rfl) (by kernel_rfl) (by kernel_rfl) (fun _ _ _ h => h) (Or.inl ⟨by rfl, ?y3⟩) (by assumption) ?_
      case y3 => (intro w hSw; (try dsimp only at hSw); go_simp; first | done | with_reducible rfl)
      (try simp only [Act.put, List.setIfInBounds_toArray, List.set_cons_zero, List.set_cons_succ])
      refine wpAnyH_take (i := 4) (oi := Oper.mk (some 94) _ _ _ _ _) (v := ?v4) rfl (by kernel_rfl) (by kernel_rfl) (by kernel_rfl) (fun _ _ _ h => h) (Or.inl ⟨by rfl, ?y4⟩) (by assumption) ?_
      case y4 => (intro w hSw; (try dsimp only at hSw); go_simp; first | done | with_reducible rfl)
      (try simp only [Act.put, List.setIfInBounds_toArray, List.set_cons_zero, List.set_cons_succ])
      refine wpAnyH_take (i := 5) (oi := Oper.mk (some 95) _ _ _ _ _) (v := ?v5) rfl (by kernel_rfl) (by kernel_rfl) (by kernel_rfl) (fun _ _ _ h => h) (Or.inl ⟨by rfl, ?y5⟩) (by assumption) ?_
      case y5 => (intro w hSw; (try dsimp only at hSw); go_simp; first | done | with_reducible rfl)
      (try simp only [Act.put, List.setIfInBounds_toArray, List.set_cons_zero, List.set_cons_succ])
      refine wpAnyH_take (i := 6) (oi := Oper.mk (some 96) _ _ _ _ _) (v := ?v6) rfl (by kernel_rfl) (by kernel_rfl) (by kernel_rfl) (fun _ _ _ h => h) (Or.inl ⟨by rfl, ?y6⟩) (by assumption) ?_
      case y6 => (intro w hSw; (try dsimp only at hSw); go_simp; first | done | with_reducible rfl)
      (try simp only [Act.put, List.setIfInBounds_toArray, List.set_cons_zero, List.set_cons_succ])
      refine wpAnyH_take (i := 7) (oi := Oper.mk (some 97) _ _ _ _ _) (v := ?v7) rfl (by kernel_rfl) (by kernel_rfl) (by kernel_rfl) (fun _ _ _ h => h) (Or.inl ⟨by rfl, ?y7⟩) (by assumption) ?_
      case y7 => (intro w hSw; (try dsimp only at hSw); go_simp; first | done | with_reducible rfl)
      (try simp only [Act.put, List.setIfInBounds_toArray, List.set_cons_zero, List.set_cons_succ])
      refine wpAnyH_take (i := 10) (oi := Oper.mk (some 100) _ _ _ _ _) (v := ?v8) rfl (by kernel_rfl) (by kernel_rfl) (by kernel_rfl) (fun _ _ _ h => h) (Or.inl ⟨by rfl, ?y8⟩) (by assumption) ?_
      case y8 => (intro w hSw; (try dsimp only at hSw); go_simp; first | done | with_reducible rfl)
      (try simp only [Act.put, List.setIfInBounds_toArray, List.set_cons_zero, List.set_cons_succ])
      refine wpAnyH_take (i := 11) (oi := Oper.mk (some 101) _ _ _ _ _) (v := ?v9) rfl (by kernel_rfl) (by kernel_rfl) (by kernel_rfl) (fun _ _ _ h => h) (Or.inl ⟨by rfl, ?y9⟩) (by assumption) ?_
      case y9 => (intro w hSw; (try dsimp only at hSw); go_simp; first | done | with_reducible rfl)
      (try simp only [Act.put, List.setIfInBounds_toArray, List.set_cons_zero, List.set_cons_succ])
      refine wpAnyH_take (i := 12) (oi := Oper.mk (some 102) _ _ _ _ _) (v := ?v10) rfl (by kernel_rfl) (by kernel_rfl) (by kernel_rfl) (fun _ _ _ h => h) (Or.inl ⟨by rfl, ?y10⟩) (by assumption) ?_
      case y10 => (intro w hSw; (try dsimp only at hSw); go_simp; first | done | with_reducible rfl)
      (try simp only [Act.put, List.setIfInBounds_toArray, List.set_cons_zero, List.set_cons_succ])
      refine wpAnyH_ready (rs := [8]) (by kernel_rfl) (by simp) ?_
      refine AllReadyH.cons (o := Oper.mk (some 98) _ _ _ _ _) rfl (fun K hK => ?_) AllReadyH.nil
      go_simp
      refine hK.out _ _ z5 (fun hHeld => ?_)
      clear hK K
      (try simp only [Act.put, List.setIfInBounds_toArray, List.set_cons_zero, List.set_cons_succ])
      refine wpAnyH_take (i := 9) (oi := Oper.mk (some 99) _ _ _ _ _) (v := ?v11) rfl (by kernel_rfl) (by kernel_rfl) (by kernel_rfl) (fun _ _ _ h => h) (Or.inl ⟨by rfl, ?y11⟩) (by assumption) ?_
      case y11 => (intro w hSw; (try dsimp only at hSw); go_simp; first | done | with_reducible rfl)
      (try simp only [Act.put, List.setIfInBounds_toArray, List.set_cons_zero, List.set_cons_succ])
      refine wpAnyH_take (i := 13) (oi := Oper.mk (some 103) _ _ _ _ _) (v := ?v12) rfl (by kernel_rfl) (by kernel_rfl) (by kernel_rfl) (fun _ _ _ h => h) (Or.inl ⟨by rfl, ?y12⟩) (by assumption) ?_
      case y12 => (intro w hSw; (try dsimp only at hSw); go_simp; first | done | with_reducible rfl)
      (try simp only [Act.put, List.setIfInBounds_toArray, List.set_cons_zero, List.set_cons_succ])
      refine wpAnyH_take (i := 14) (oi := Oper.mk (some 104) _ _ _ _ _) (v := ?v13) rfl (by kernel_rfl) (by kernel_rfl) (by kernel_rfl) (fun _ _ _ h => h) (Or.inl ⟨by rfl, ?y13⟩) (by assumption) ?_
      case y13 => (intro w hSw; (try dsimp only at hSw); go_simp; first | done | with_reducible rfl)
      (try simp only [Act.put, List.setIfInBounds_toArray, List.set_cons_zero, List.set_cons_succ])
      refine wpAnyH_take (i := 15) (oi := Oper.mk (some 105) _ _ _ _ _) (v := ?v14) rfl (by kernel_rfl) (by kernel_rfl) (by kernel_rfl) (fun _ _ _ h => h) (Or.inl ⟨by rfl, ?y14⟩) (by assumption) ?_
      case y14 => (intro w hSw; (try dsimp only at hSw); go_simp; first | done | with_reducible rfl)
      (try simp only [Act.put, List.setIfInBounds_toArray, List.set_cons_zero, List.set_cons_succ])
      refine wpAnyH_take (i := 16) (oi := Oper.mk (some 106) _ _ _ _ _) (v := ?v15) rfl (by kernel_rfl) (by kernel_rfl) (by kernel_rfl) (fun _ _ _ h => h) (Or.inl ⟨by rfl, ?y15⟩) (by assumption) ?_
      case y15 => (intro w hSw; (try dsimp only at hSw); go_simp; first | done | with_reducible rfl)
      (try simp only [Act.put, List.setIfInBounds_toArray, List.set_cons_zero, List.set_cons_succ])
      refine wpAnyH_take (i := 17) (oi := Oper.mk (some 107) _ _ _ _ _) (v := ?v16) rfl (by kernel_rfl) (by kernel_rfl) (by kernel_rfl) (fun _ _ _ h => h) (Or.inl ⟨by rfl, ?y16⟩) (by assumption) ?_
      case y16 => (intro w hSw; (try dsimp only at hSw); go_simp; first | done | with_reducible rfl)
      (try simp only [Act.put, List.setIfInBounds_toArray, List.set_cons_zero, List.set_cons_succ])
      refine wpAnyH_take (i := 18) (oi := Oper.mk (some 108) _ _ _ _ _) (v := ?v17) rfl (by kernel_rfl) (by kernel_rfl) (by kernel_rfl) (fun _ _ _ h => h) (Or.inl ⟨by rfl, ?y17⟩) (by assumption) ?_
      case y17 => (intro w hSw; (try dsimp only at hSw); go_simp; first | done | with_reducible rfl)
      (try simp only [Act.put, List.setIfInBounds_toArray, List.set_cons_zero, List.set_cons_succ])
      refine wpAnyH_take (i := 20) (oi := Oper.mk (some 110) _ _ _ _ _) (v := ?v18) rfl (by kernel_rfl) (by kernel_rfl) (by kernel_rfl) (fun _ _ _ h => h) (Or.inl ⟨by rfl, ?y18⟩) (by assumption) ?_
      case y18 => (intro w hSw; (try dsimp only at hSw); go_simp; first | done | with_reducible rfl)
      (try simp only [Act.put, List.setIfInBounds_toArray, List.set_cons_zero, List.set_cons_succ])
      refine wpAnyH_ready (rs := [19]) (by kernel_rfl) (by simp) ?_
      refine AllReadyH.cons (o := Oper.mk (some 109) _ _ _ _ _) rfl (fun K hK => ?_) AllReadyH.nil
      go_simp
      refine hK.out _ _ z5 (fun hHeld => ?_)
      clear hK K
      (try simp only [Act.put, List.setIfInBounds_toArray, List.set_cons_zero, List.set_cons_succ])
      refine wpAnyH_take (i := 21) (oi := Oper.mk (some 111) _ _ _ _ _) (v := ?v19) rfl (by kernel_rfl) (by kernel_rfl) (by kernel_rfl) (fun _ _ _ h => h) (Or.inl ⟨by rfl, ?y19⟩) (by assumption) ?_
      case y19 => (intro w hSw; (try dsimp only at hSw); go_simp; first | done | with_reducible rfl)
      (try simp only [Act.put, List.setIfInBounds_toArray, List.set_cons_zero, List.set_cons_succ])
      refine wpAnyH_ready (rs := [22]) (by kernel_rfl) (by simp) ?_
      refine AllReadyH.cons (o := Oper.mk (some 112) _ _ _ _ _) rfl (fun K hK => ?_) AllReadyH.nil
      go_simp
      refine hK.out _ _ z5 (fun hHeld => ?_)
      clear hK K
      (try simp only [Act.put, List.setIfInBounds_toArray, List.set_cons_zero, List.set_cons_succ])
      refine wpAnyH_take (i := 23) (oi := Oper.mk (some 113) _ _ _ _ _) (v := ?v20) rfl (by kernel_rfl) (by kernel_rfl) (by kernel_rfl) (fun _ _ _ h => h) (Or.inl ⟨by rfl, ?y20⟩) (by assumption) ?_
      case y20 => (intro w hSw; (try dsimp only at hSw); go_simp; first | done | with_reducible rfl)
      (try simp only [Act.put, List.setIfInBounds_toArray, List.set_cons_zero, List.set_cons_succ])
      refine wpAnyH_take (i := 24) (oi := Oper.mk (some 114) _ _ _ _ _) (v := ?v21) rfl (by kernel_rfl) (by kernel_rfl) (by kernel_rfl) (fun _ _ _ h => h) (Or.inl ⟨by rfl, ?y21⟩) (by assumption) ?_
      case y21 => (intro w hSw; (try dsimp only at hSw); go_simp; first | done | with_reducible rfl)
      (try simp only [Act.put, List.setIfInBounds_toArray, List.set_cons_zero, List.set_cons_succ])
      refine wpAnyH_done (by kernel_rfl) ?_ _
      refine NoPanic.normal ?_
      go_wp2_with fail
      go_meet
      exact ⟨rfl, ⟨_, DV7.out⟩, HB7.out⟩
    case rest =>
      obtain ⟨rfl, ⟨lv, hdv⟩, hb⟩ := hcut
      obtain ⟨A7, c7, rfl⟩ := dev_form hdv
      have DC0 := hid hdv
      have BC0 := hid (B6.out.trans (hb.mono B5.out.size))
      have ZC0 : Hid (w.heap.size + 1 < wc.heap.size) := Nat.lt_of_lt_of_le Z5.out DC0.out.size
      have XC0 := hid (show wc.cell? ⟨w.heap.size + 1, 2, none⟩ = some (.slice P.F.A P.F.n P.F.c) ∧ wc.cell? ⟨w.heap.size + 1, 4, none⟩ = some (.slice P.R.A P.R.n P.R.c) ∧ wc.cell? ⟨w.heap.size + 1, 5, none⟩ = some (.slice P.D.A P.D.n P.D.c) from ⟨(hb.cell (p := ⟨w.heap.size + 1, 2, none⟩) Z5.out).trans C6.out.1, (hb.cell (p := ⟨w.heap.size + 1, 4, none⟩) Z5.out).trans C6.out.2.1, (hb.cell (p := ⟨w.heap.size + 1, 5, none⟩) Z5.out).trans C6.out.2.2⟩)
      clear hdv hb
      have xR := XC0.out.2.1
      go_wp2_with (first
        | (go_at_call 24; refine (of_any P.R.A P.R.n P.R.c P.R.f P.R.g _ Hsm.out.2.2.1 (HP.out.below BC0.out).2.2.1 (far_low HL.out.1.2.1) HW.out).mono ?_; rintro e w8R ⟨DR, rfl, hown, hmap, hb⟩; have HO8R := hid hown; have HM8R := hid hmap; have HB8R := hid hb; clear hown hmap hb)
        | (at_range; refine wpList_range_own _ rfl _ 66 rfl 3 51 law3 Try.underlying66 _ wc.heap.size P.R.n DR rfl HO8R.out ?_; intro w0 hrg0 hg0 hs0))
      go_frame
      clear xR
      have HB0R := hid (HB8R.out.grown hg0 HB8R.out.size (fun j hj => by cases hj))
      have Hrg0R := hid hrg0
      obtain ⟨rR, hr⟩ : ∃ r, r = w8R.heap.size := ⟨_, rfl⟩
      rw [← hr] at Hrg0R ⊢
      have HrR := hid (show wc.heap.size ≤ rR by rw [hr]; exact HB8R.out.size)
      clear hrg0 hg0 hs0 hr
      go_loopw [14, 15] (fun _ _ wxR => ∃ (left : Lit → Bool) (cnt : Nat), wxR.ranges Try.prog 3 (plainElem Try.prog 51) wc.heap.size rR P.R.n DR left cnt ∧ (∀ kl, left kl = true → has DR kl = true) ∧ Below wc.heap.size wc wxR) (fun _ _ wxR => wxR.rangeLeft wc.heap.size rR)
      case atStart => exact ⟨_, _, Hrg0R.out, fun _ h => h, HB0R.out⟩
      case round =>
        rename World => wxR
        obtain ⟨leftR, cntR, hrg, hlf, hbx⟩ := hrel
        have HrgR := hid hrg
        have HlfR := hid hlf
        have HbxR := hid hbx
        clear hrg hlf hbx
        go_wp2_with (first
          | (at_next; refine wpList_next_ranges_ii _ rfl _ rfl 3 51 .i64 .u64 law3 Try.underlying3 Try.underlying51 wc.heap.size rR P.R.n _ _ _ rfl HrgR.out ?_ ?_)
          | fail)
        · intro _ _
          have DC1 := hid (DC0.out.below HbxR.out)
          have BC1 := hid (BC0.out.trans (HbxR.out.mono BC0.out.size))
          have ZC1 : Hid (w.heap.size + 1 < wxR.heap.size) := Nat.lt_of_lt_of_le ZC0.out HbxR.out.size
          have XC1 := hid (show wxR.cell? ⟨w.heap.size + 1, 2, none⟩ = some (.slice P.F.A P.F.n P.F.c) ∧ wxR.cell? ⟨w.heap.size + 1, 4, none⟩ = some (.slice P.R.A P.R.n P.R.c) ∧ wxR.cell? ⟨w.heap.size + 1, 5, none⟩ = some (.slice P.D.A P.D.n P.D.c) from ⟨(HbxR.out.cell (p := ⟨w.heap.size + 1, 2, none⟩) ZC0.out).trans XC0.out.1, (HbxR.out.cell (p := ⟨w.heap.size + 1, 4, none⟩) ZC0.out).trans XC0.out.2.1, (HbxR.out.cell (p := ⟨w.heap.size + 1, 5, none⟩) ZC0.out).trans XC0.out.2.2⟩)
          have xF := XC1.out.1
          go_wp2_with (first
            | (go_at_call 24; refine (of_any P.F.A P.F.n P.F.c P.F.f P.F.g _ Hsm.out.1 (HP.out.below BC1.out).1 (far_low HL.out.1.1) HG.out.1).mono ?_; rintro e w8F ⟨DF, rfl, hown, hmap, hb⟩; have HO8F := hid hown; have HM8F := hid hmap; have HB8F := hid hb; clear hown hmap hb)
            | (at_range; refine wpList_range_own _ rfl _ 66 rfl 3 51 law3 Try.underlying66 _ wxR.heap.size P.F.n DF rfl HO8F.out ?_; intro w0 hrg0 hg0 hs0))
          go_frame
          clear xF
          have HB0F := hid (HB8F.out.grown hg0 HB8F.out.size (fun j hj => by cases hj))
          have Hrg0F := hid hrg0
          obtain ⟨rF, hr⟩ : ∃ r, r = w8F.heap.size := ⟨_, rfl⟩
          rw [← hr] at Hrg0F ⊢
          have HrF := hid (show wxR.heap.size ≤ rF by rw [hr]; exact HB8F.out.size)
          clear hrg0 hg0 hs0 hr
          go_loopw [16, 17] (fun _ _ wxF => ∃ (left : Lit → Bool) (cnt : Nat), wxF.ranges Try.prog 3 (plainElem Try.prog 51) wxR.heap.size rF P.F.n DF left cnt ∧ (∀ kl, left kl = true → has DF kl = true) ∧ Below wxR.heap.size wxR wxF) (fun _ _ wxF => wxF.rangeLeft wxR.heap.size rF)
          case atStart => exact ⟨_, _, Hrg0F.out, fun _ h => h, HB0F.out⟩
          case round =>
            rename World => wxF
            obtain ⟨leftF, cntF, hrg, hlf, hbx⟩ := hrel
            have HrgF := hid hrg
            have HlfF := hid hlf
            have HbxF := hid hbx
            clear hrg hlf hbx
            go_wp2_with (first
              | (at_next; refine wpList_next_ranges_ii _ rfl _ rfl 3 51 .i64 .u64 law3 Try.underlying3 Try.underlying51 wxR.heap.size rF P.F.n _ _ _ rfl HrgF.out ?_ ?_)
              | fail)
            · intro _ _
              have DC2 := hid (DC1.out.below HbxF.out)
              have BC2 := hid (BC1.out.trans (HbxF.out.mono BC1.out.size))
              have ZC2 : Hid (w.heap.size + 1 < wxF.heap.size) := Nat.lt_of_lt_of_le ZC1.out HbxF.out.size
              have XC2 := hid (show wxF.cell? ⟨w.heap.size + 1, 2, none⟩ = some (.slice P.F.A P.F.n P.F.c) ∧ wxF.cell? ⟨w.heap.size + 1, 4, none⟩ = some (.slice P.R.A P.R.n P.R.c) ∧ wxF.cell? ⟨w.heap.size + 1, 5, none⟩ = some (.slice P.D.A P.D.n P.D.c) from ⟨(HbxF.out.cell (p := ⟨w.heap.size + 1, 2, none⟩) ZC1.out).trans XC1.out.1, (HbxF.out.cell (p := ⟨w.heap.size + 1, 4, none⟩) ZC1.out).trans XC1.out.2.1, (HbxF.out.cell (p := ⟨w.heap.size + 1, 5, none⟩) ZC1.out).trans XC1.out.2.2⟩)
              go_wp2_with fail
              go_loopw [18] (fun v wr => ∃ k : Nat, k ≤ P.D.n ∧ v = .int .i64 k ∧ Below wxF.heap.size wxF wr) (fun v _ => P.D.n - (intOf v).toNat)
              case atStart => exact ⟨0, by omega, rfl, Below.refl _ _⟩
              case round =>
                obtain ⟨k, hk, rfl, hb⟩ := hrel
                have HBr := hid hb
                have HDr := hid (DC2.out.below hb)
                have x5 := (hb.cell (p := ⟨w.heap.size + 1, 5, none⟩) ZC2.out).trans XC2.out.2.2
                have d1 := HDr.out.cells.2
                clear hb
                by_cases hlt : k < P.D.n
                · have hlt' : (k : Int) < (P.D.n : Int) := by omega
                  have h0k : (0 : Int) ≤ (k : Int) := by omega
                  have hln : (pends P.D.f P.D.g P.D.n).length = P.D.n := by simp [pends]
                  obtain ⟨g, rfl, hdg, hgl⟩ : ∃ g, A7 = some ⟨g, 0, none⟩ ∧ d < g ∧ g < wr.heap.size := by
                    rcases HDr.out.lvs with ⟨h1, h2⟩ | ⟨g, cap', h1, h2, h3⟩
                    · rw [h2] at hln; simp at hln; omega
                    · exact ⟨g, by simpa using congrArg (fun v => match v with | Value.slice A _ _ => A | _ => none) h1, h2, h3⟩
                  obtain ⟨x0, x1, -⟩ := pdsL_at (pends P.D.f P.D.g P.D.n) k (by omega)
                  have hgt : (pends P.D.f P.D.g P.D.n)[k]'(by omega) = ⟨P.D.f k, P.D.g k, false⟩ := by simp [pends]
                  rw [hgt] at x0 x1
                  have y0 := HDr.out.own.cells (g := g) rfl _ _ x0
                  have y1 := HDr.out.own.cells (g := g) rfl _ _ x1
                  rw [addz] at y0 y1
                  obtain ⟨ad, hA, hadl, hc⟩ : ∃ ad, P.D.A = some ad ∧ ad.block < wr.heap.size ∧ ∀ k, k < P.D.n → wr.cell? (ad.add (k * 2)) = some (.int .i64 (P.D.f k)) ∧ wr.cell? (ad.add (k * 2 + 1)) = some (.int .u64 (P.D.g k)) := by
                    rcases pairs_below (HP.out.below BC2.out).2.2.2 HBr.out with h0 | h1
                    · omega
                    · exact h1
                  rw [hA] at x5
                  obtain ⟨c0, c1⟩ := hc k hlt
                  have c1' : wr.cell? ⟨(ad.add (k * 2)).block, (ad.add (k * 2)).off + 1, none⟩ = some (.int .u64 (P.D.g k)) := by rw [← add_lit (ad.add (k * 2)) 1 (by omega), Addr.add_add]; exact c1
                  clear hc c1 x0 x1 hgt hln hA
                  dsimp only at y0 y1
                  go_upto_region 25 with fail
                  go_quiet (fail)
                  go_wp2
                  go_roundw
                  case rel => exact ⟨k + 1, by omega, by go_num, HBr.out.trans (undrewN (Below.refl _ _))⟩
                  case measure => simp [intOf]; omega
                · obtain rfl : P.D.n = k := by omega
                  go_wp2_with fail
                  refine (alive_any _).mono ?_
                  rintro e wf ⟨rfl, hb⟩
                  have Bf := hid (BC2.out.trans ((HBr.out.trans (hb.mono HBr.out.size)).mono BC2.out.size))
                  clear hb
                  go_wp2
                  go_ret
                  exact ⟨rfl, Bf.out⟩
            · intro x cv w1x cnt1 hwx hwc hlx hat hrg1 hlt1 hg1 hs1 hen
              obtain ⟨j, hj, hjx, hjl, rfl⟩ := HM8F.out.entry (HlfF.out _ hlx) (hat (.lit (.int .u64 0)))
              have hjn := HIn.out.1 j hj
              rw [hjx] at hjn
              obtain ⟨xn, rfl⟩ := Int.eq_ofNat_of_zero_le hjn.1
              have Hbx1 := hid (HbxF.out.grown hg1 HbxF.out.size (fun j hj => by cases hj; exact HrF.out))
              have Hrg1 := hid hrg1
              have Hlt1 := hid hlt1
              have xn1 : (xn : Int) < (N : Int) := hjn.2
              have xn0 : (0 : Int) ≤ (xn : Int) := hjn.1
              have HDx := hid (DC1.out.below Hbx1.out)
              obtain ⟨e0, -⟩ := dev_word HDx.out (show xn < N by omega)
              rw [fin_fresh HAp.out HL.out.2.1 hj hjx hjl] at e0
              have d0 := HDx.out.cells.1
              clear hwx hwc hlx hat hrg1 hlt1 hg1 hs1 hjn hjx hjl
              go_wp2
              go_roundw
              case rel => exact ⟨_, _, Hrg1.out, fun kl h => HlfF.out kl (by
                have h' := h
                simp only [Bool.and_eq_true] at h'
                exact h'.1), Hbx1.out⟩
              case measure => rw [Hrg1.out.left_eq, HrgF.out.left_eq]; exact Hlt1.out
        · intro x cv w1x cnt1 hwx hwc hlx hat hrg1 hlt1 hg1 hs1 hen
          obtain ⟨j, hj, hjx, hjl, rfl⟩ := HM8R.out.entry (HlfR.out _ hlx) (hat (.lit (.int .u64 0)))
          have hjn := HIn.out.2.1 j hj
          rw [hjx] at hjn
          obtain ⟨xn, rfl⟩ := Int.eq_ofNat_of_zero_le hjn.1
          have Hbx1 := hid (HbxR.out.grown hg1 HbxR.out.size (fun j hj => by cases hj; exact HrR.out))
          have Hrg1 := hid hrg1
          have Hlt1 := hid hlt1
          have xn1 : (xn : Int) < (N : Int) := hjn.2
          have xn0 : (0 : Int) ≤ (xn : Int) := hjn.1
          have HDx := hid (DC0.out.below Hbx1.out)
          obtain ⟨e0, -⟩ := dev_word HDx.out (show xn < N by omega)
          rw [fin_redo HAp.out hj hjx hjl] at e0
          have d0 := HDx.out.cells.1
          clear hwx hwc hlx hat hrg1 hlt1 hg1 hs1 hjn hjx hjl
          go_wp2
          go_roundw
          case rel => exact ⟨_, _, Hrg1.out, fun kl h => HlfR.out kl (by
            have h' := h
            simp only [Bool.and_eq_true] at h'
            exact h'.1), Hbx1.out⟩
          case measure => rw [Hrg1.out.left_eq, HrgR.out.left_eq]; exact Hlt1.out
theorem ends_any (p i b s : Int) (P : PlanD) (A : Option Addr) (m c : Nat) (BF : Nat → Int) (w : World) (hba : BaseAt w A m BF) (hp : PlanAt w P) (hw : P.wf) (hg : Wf2 P.F.n P.F.g ∧ Wf2 P.D.n P.D.g) :
    Calls Try.prog 5 #[.agg #[.int .i64 p, .int .i64 i, .int .i64 b], .int .i64 s, .agg #[.int .i64 P.err, .int .i64 P.ino, .slice P.F.A P.F.n P.F.c, .slice P.L.A P.L.n P.L.c, .slice P.R.A P.R.n P.R.c, .slice P.D.A P.D.n P.D.c], .slice A m c] w fun e w' => e = .returned (.bool true) ∧ Below w.heap.size w w' := by
  cases h : largeB p i b P
  · by_cases hm : 300 < m
    · exact ends_long p i b s P A m c w h hm
    · by_cases he : errE p i b s P = 0
      · exact ends_ok p i b s P A m c w BF h (by omega) hba hp hw hg he
      · exact ends_err p i b s P A m c w h (by omega) hp _ rfl he
  · exact ends_large p i b s P A m c w h
end Go.Proofs.Ytimfnimcmfjjpaa
