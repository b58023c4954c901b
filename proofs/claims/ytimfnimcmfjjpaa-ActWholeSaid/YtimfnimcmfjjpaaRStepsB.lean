/- The document's answer: the steps of a plan, where Redo has entries. -/
import Derived.Test.YtimfnimcmfjjpaaRSteps
namespace Go.Proofs.Ytimfnimcmfjjpaa
open Go.RowKit
set_option maxHeartbeats 8000000 in
set_option maxRecDepth 100000 in
theorem rsteps_01 (p i b s : Int) (P : PlanD) (w : World) (hsm : P.small) (hp : PlanAt w P) (hv : errE p i b s P = 0) (hg : ∀ k, k < P.R.n → 0 ≤ P.R.g k ∧ P.R.g k < 18446744073709551616) (hL : P.L.n = 0) (hR : 0 < P.R.n) :
    Calls Try.prog 11 #[.agg #[.int .i64 p, .int .i64 i, .int .i64 b], .int .i64 s, .agg #[.int .i64 P.err, .int .i64 P.ino, .slice P.F.A P.F.n P.F.c, .slice P.L.A P.L.n P.L.c, .slice P.R.A P.R.n P.R.c, .slice P.D.A P.D.n P.D.c]] w fun e w' => ∃ v, e = .returned (.tuple #[v, .int .i64 0]) ∧ OpsAt w' v (stepsL (slotAt i s) P) ∧ Below w.heap.size w w' := by
  obtain ⟨hgok, hs, hs2, hm⟩ := errE_zero hv
  obtain ⟨hno, h64⟩ := mayE_zero hm
  have HV := hid hv
  have H := hid hgok
  have HP := hid hp
  have HN := hid hno
  have HG := hid hg
  have Hle := hid (linesN_le hgok)
  have hl0 := (linesN_le hgok).1
  have hl1 := (linesN_le hgok).2
  obtain ⟨q1, q2, q3, q4, q5, q6⟩ := gok_iff.1 hgok
  have Hs1 := hsm.1
  have Hs2 := hsm.2.1
  have Hs3 := hsm.2.2.1
  have Hs4 := hsm.2.2.2
  have Hat : 0 ≤ slotAt i s ∧ slotAt i s + 136 ≤ 8 * linesN p i b := by unfold slotAt linesN; omega
  have n1 := writtenL_len P.F.f P.F.g P.F.n
  have n4 := writtenL_len P.R.f P.R.g P.R.n
  have n5 := writtenL_len (fun _ => slotAt i s) (fun _ => 0) 1
  have n6 := writtenL_len (fun _ => slotAt i s) (fun _ => (commitN P.R.f P.R.g P.R.n : Nat)) 1
  have n7 := writtenL_len (fun j => slotAt i s + 8 + j) (fun j => (bodyF P.R.f P.R.g j : Nat)) (2 * P.R.n)
  have n8 := storesL_len P.D.f P.D.g P.D.n
  have n9 : ∀ k, (flushL P.L.f k).length = k := fun k => by simp [flushL]
  have N9 := hid n9
  have N8 := hid n8
  have HL := hid hL
  have HR := hid hR
  clear hv hp hm hno hg hgok n9 n8 hL hR
  have b0 := hid (show Below w.heap.size w ((w.alloc (.cells #[.int .i64 p, .int .i64 i, .int .i64 b] 23)).alloc (.cells #[.int .i64 P.err, .int .i64 P.ino, .slice P.F.A P.F.n P.F.c, .slice P.L.A P.L.n P.L.c, .slice P.R.A P.R.n P.R.c, .slice P.D.A P.D.n P.D.c] 28)) from ((Below.refl _ _).alloc (Nat.le_refl _) _).alloc (by simp) _)
  have hsz : w.heap.size + 1 < ((w.alloc (.cells #[.int .i64 p, .int .i64 i, .int .i64 b] 23)).alloc (.cells #[.int .i64 P.err, .int .i64 P.ino, .slice P.F.A P.F.n P.F.c, .slice P.L.A P.L.n P.L.c, .slice P.R.A P.R.n P.R.c, .slice P.D.A P.D.n P.D.c] 28)).heap.size := by simp
  go_enter Try.func11, Try.ntmps11
  go_wp2_with fail
  refine (rmay_is p i b s P _ 0 hsm (HP.out.below b0.out) HV.out).mono ?_
  rintro e w1 ⟨rfl, hb⟩
  have B1 := hid (b0.out.trans (hb.mono b0.out.size))
  have Z1 : Hid (w.heap.size + 1 < w1.heap.size) := Nat.lt_of_lt_of_le hsz hb.size
  have g10 : w1.cell? ⟨w.heap.size, 0, none⟩ = some (.int .i64 p) := (hb.cell (p := ⟨w.heap.size, 0, none⟩) (Nat.lt_of_succ_lt hsz)).trans (by simp)
  have g11 : w1.cell? ⟨w.heap.size, 1, none⟩ = some (.int .i64 i) := (hb.cell (p := ⟨w.heap.size, 1, none⟩) (Nat.lt_of_succ_lt hsz)).trans (by simp)
  have g12 : w1.cell? ⟨w.heap.size, 2, none⟩ = some (.int .i64 b) := (hb.cell (p := ⟨w.heap.size, 2, none⟩) (Nat.lt_of_succ_lt hsz)).trans (by simp)
  have p10 : w1.cell? ⟨w.heap.size + 1, 0, none⟩ = some (.int .i64 P.err) := (hb.cell (p := ⟨w.heap.size + 1, 0, none⟩) hsz).trans (by simp)
  have p11 : w1.cell? ⟨w.heap.size + 1, 1, none⟩ = some (.int .i64 P.ino) := (hb.cell (p := ⟨w.heap.size + 1, 1, none⟩) hsz).trans (by simp)
  have p12 : w1.cell? ⟨w.heap.size + 1, 2, none⟩ = some (.slice P.F.A P.F.n P.F.c) := (hb.cell (p := ⟨w.heap.size + 1, 2, none⟩) hsz).trans (by simp)
  have p13 : w1.cell? ⟨w.heap.size + 1, 3, none⟩ = some (.slice P.L.A P.L.n P.L.c) := (hb.cell (p := ⟨w.heap.size + 1, 3, none⟩) hsz).trans (by simp)
  have p14 : w1.cell? ⟨w.heap.size + 1, 4, none⟩ = some (.slice P.R.A P.R.n P.R.c) := (hb.cell (p := ⟨w.heap.size + 1, 4, none⟩) hsz).trans (by simp)
  have p15 : w1.cell? ⟨w.heap.size + 1, 5, none⟩ = some (.slice P.D.A P.D.n P.D.c) := (hb.cell (p := ⟨w.heap.size + 1, 5, none⟩) hsz).trans (by simp)
  clear hb
  go_wp2_with fail
  refine (rwords_ok p i b _ H.out).mono ?_
  rintro e w2 ⟨rfl, hb⟩
  have B2 := hid (B1.out.trans (hb.mono B1.out.size))
  have Z2 : Hid (w.heap.size + 1 < w2.heap.size) := Nat.lt_of_lt_of_le Z1.out hb.size
  have g20 : w2.cell? ⟨w.heap.size, 0, none⟩ = some (.int .i64 p) := (hb.cell (p := ⟨w.heap.size, 0, none⟩) (Nat.lt_of_succ_lt Z1.out)).trans g10
  have g21 : w2.cell? ⟨w.heap.size, 1, none⟩ = some (.int .i64 i) := (hb.cell (p := ⟨w.heap.size, 1, none⟩) (Nat.lt_of_succ_lt Z1.out)).trans g11
  have g22 : w2.cell? ⟨w.heap.size, 2, none⟩ = some (.int .i64 b) := (hb.cell (p := ⟨w.heap.size, 2, none⟩) (Nat.lt_of_succ_lt Z1.out)).trans g12
  have p20 : w2.cell? ⟨w.heap.size + 1, 0, none⟩ = some (.int .i64 P.err) := (hb.cell (p := ⟨w.heap.size + 1, 0, none⟩) Z1.out).trans p10
  have p21 : w2.cell? ⟨w.heap.size + 1, 1, none⟩ = some (.int .i64 P.ino) := (hb.cell (p := ⟨w.heap.size + 1, 1, none⟩) Z1.out).trans p11
  have p22 : w2.cell? ⟨w.heap.size + 1, 2, none⟩ = some (.slice P.F.A P.F.n P.F.c) := (hb.cell (p := ⟨w.heap.size + 1, 2, none⟩) Z1.out).trans p12
  have p23 : w2.cell? ⟨w.heap.size + 1, 3, none⟩ = some (.slice P.L.A P.L.n P.L.c) := (hb.cell (p := ⟨w.heap.size + 1, 3, none⟩) Z1.out).trans p13
  have p24 : w2.cell? ⟨w.heap.size + 1, 4, none⟩ = some (.slice P.R.A P.R.n P.R.c) := (hb.cell (p := ⟨w.heap.size + 1, 4, none⟩) Z1.out).trans p14
  have p25 : w2.cell? ⟨w.heap.size + 1, 5, none⟩ = some (.slice P.D.A P.D.n P.D.c) := (hb.cell (p := ⟨w.heap.size + 1, 5, none⟩) Z1.out).trans p15
  clear hb g10 g11 g12 p10 p11 p12 p13 p14 p15
  go_wp2_with fail
  refine (rplace_ok p i b s _ H.out hs hs2).mono ?_
  rintro e w3 ⟨rfl, hb⟩
  have B3 := hid (B2.out.trans (hb.mono B2.out.size))
  have Z3 : Hid (w.heap.size + 1 < w3.heap.size) := Nat.lt_of_lt_of_le Z2.out hb.size
  have g30 : w3.cell? ⟨w.heap.size, 0, none⟩ = some (.int .i64 p) := (hb.cell (p := ⟨w.heap.size, 0, none⟩) (Nat.lt_of_succ_lt Z2.out)).trans g20
  have g31 : w3.cell? ⟨w.heap.size, 1, none⟩ = some (.int .i64 i) := (hb.cell (p := ⟨w.heap.size, 1, none⟩) (Nat.lt_of_succ_lt Z2.out)).trans g21
  have g32 : w3.cell? ⟨w.heap.size, 2, none⟩ = some (.int .i64 b) := (hb.cell (p := ⟨w.heap.size, 2, none⟩) (Nat.lt_of_succ_lt Z2.out)).trans g22
  have p30 : w3.cell? ⟨w.heap.size + 1, 0, none⟩ = some (.int .i64 P.err) := (hb.cell (p := ⟨w.heap.size + 1, 0, none⟩) Z2.out).trans p20
  have p31 : w3.cell? ⟨w.heap.size + 1, 1, none⟩ = some (.int .i64 P.ino) := (hb.cell (p := ⟨w.heap.size + 1, 1, none⟩) Z2.out).trans p21
  have p32 : w3.cell? ⟨w.heap.size + 1, 2, none⟩ = some (.slice P.F.A P.F.n P.F.c) := (hb.cell (p := ⟨w.heap.size + 1, 2, none⟩) Z2.out).trans p22
  have p33 : w3.cell? ⟨w.heap.size + 1, 3, none⟩ = some (.slice P.L.A P.L.n P.L.c) := (hb.cell (p := ⟨w.heap.size + 1, 3, none⟩) Z2.out).trans p23
  have p34 : w3.cell? ⟨w.heap.size + 1, 4, none⟩ = some (.slice P.R.A P.R.n P.R.c) := (hb.cell (p := ⟨w.heap.size + 1, 4, none⟩) Z2.out).trans p24
  have p35 : w3.cell? ⟨w.heap.size + 1, 5, none⟩ = some (.slice P.D.A P.D.n P.D.c) := (hb.cell (p := ⟨w.heap.size + 1, 5, none⟩) Z2.out).trans p25
  clear hb g20 g21 g22 p20 p21 p22 p23 p24 p25
  have C3 : Hid (w3.cell? ⟨w.heap.size + 1, 2, none⟩ = some (.slice P.F.A P.F.n P.F.c) ∧ w3.cell? ⟨w.heap.size + 1, 3, none⟩ = some (.slice P.L.A P.L.n P.L.c) ∧ w3.cell? ⟨w.heap.size + 1, 4, none⟩ = some (.slice P.R.A P.R.n P.R.c) ∧ w3.cell? ⟨w.heap.size + 1, 5, none⟩ = some (.slice P.D.A P.D.n P.D.c)) := ⟨p32, p33, p34, p35⟩
  have HP3 := hid (HP.out.below B3.out)
  clear g30 g31 g32 p30 p31 p33 p34 p35
  go_wp2_with fail
  refine (rwritten_ok (linesN p i b) Hle.out P.F.A P.F.n P.F.c P.F.f P.F.g _ (by omega) HP3.out.1 HN.out.1).mono ?_
  rintro e w4 ⟨v4, rfl, ho, hb⟩
  have O4 := hid (own_mono (Nat.le_refl _) ho)
  have B4 := hid hb
  clear ho hb p32
  go_wp2_with fail
  go_loopw [12, 13] (fun v j wr => ∃ k : Nat, k ≤ P.L.n ∧ j = .int .i64 k ∧ wr.ownsRow w3.heap.size 53 3 v (writtenL P.F.f P.F.g P.F.n ++ flushL P.L.f k).length (opsL (writtenL P.F.f P.F.g P.F.n ++ flushL P.L.f k)) ∧ Below w3.heap.size w3 wr) (fun _ j _ => P.L.n - (intOf j).toNat)
  case atStart => exact ⟨0, by omega, rfl, by simpa [flushL] using O4.out, B4.out⟩
  case round =>
    obtain ⟨k, hk, rfl, hown, hb⟩ := hrel
    have Ho := hid hown
    have Hb := hid hb
    clear hown hb
    have hkl := N9.out k
    have pr3 : wr.cell? ⟨w.heap.size + 1, 3, none⟩ = some (.slice P.L.A P.L.n P.L.c) := (Hb.out.cell (p := ⟨w.heap.size + 1, 3, none⟩) Z3.out).trans C3.out.2.1
    by_cases hlt : k < P.L.n
    · have hlt' : (k : Int) < (P.L.n : Int) := by omega
      obtain ⟨ad, hA, hadl, hc⟩ : ∃ ad, P.L.A = some ad ∧ ad.block < wr.heap.size ∧ ∀ k, k < P.L.n → wr.cell? (ad.add k) = some (.int .i64 (P.L.f k)) := by
        rcases ints_below HP3.out.2.1 Hb.out with h0 | h1
        · omega
        · exact h1
      have c0 := hc k hlt
      rw [hA] at pr3
      clear hc hA
      go_wp2_with (at_builtin; refine wpList_append_ops2 rfl (.tmp 44) (.tmp 51) rfl w3.heap.size _ (writtenL P.F.f P.F.g P.F.n ++ flushL P.L.f k) rfl (owns_below Ho.out ((Below.refl _ _).alloc (Nat.le_refl _) _)) (Nat.le_trans Hb.out.size (by simp)) _ [⟨2, P.L.f k, 0⟩] rfl (ops_one (heap_alloc_last wr _)) (by (try simp only [List.length_append]); (try simp only [List.length_cons]); (try simp only [List.length_nil]); (try rw [N9.out]); (try have := N8.out); (try have := HR.out); (try have := HL.out); omega) (by simp) ?_; intro v' w' ho' hb' _; have Ho' := hid ho'; have Hb' := hid ((Hb.out.alloc Hb.out.size _).trans hb'); clear ho' hb')
      go_roundw
      case rel =>
        refine ⟨k + 1, by omega, by go_num, ?_, Hb'.out⟩
        rw [flushL_succ, ← List.append_assoc]
        exact Ho'.out
      case measure => simp [intOf]; omega
    · have hkn : k = P.L.n := by omega
      clear hlt
      subst hkn
      have hrz : ((P.R.n : Int) == 0) = false := by rw [beq_eq_false_iff_ne]; have := HR.out; omega
      have hz : ¬ (0 : Int) < (P.L.n : Int) := by have := HL.out; omega
      have p54 : wr.cell? ⟨w.heap.size + 1, 4, none⟩ = some (.slice P.R.A P.R.n P.R.c) := (Hb.out.cell (p := ⟨w.heap.size + 1, 4, none⟩) Z3.out).trans C3.out.2.2.1
      have p55 : wr.cell? ⟨w.heap.size + 1, 5, none⟩ = some (.slice P.D.A P.D.n P.D.c) := (Hb.out.cell (p := ⟨w.heap.size + 1, 5, none⟩) Z3.out).trans C3.out.2.2.2
      have q54 := above5 wr (p := ⟨w.heap.size + 1, 4, none⟩) p54 (.cells #[.int .u8 4, .int .i64 0, .int .u64 0] 53)
      have q55 := above5 wr (p := ⟨w.heap.size + 1, 5, none⟩) p55 (.cells #[.int .u8 4, .int .i64 0, .int .u64 0] 53)
      obtain ⟨wo, rfl⟩ : ∃ wo : World, wo = wr := ⟨_, rfl⟩
      obtain ⟨hS, hhS⟩ : ∃ hS, hS = wo.heap.size := ⟨_, rfl⟩
      have HS := hid hhS
      have BA := hid ((Below.refl wo.heap.size wo).alloc (Nat.le_refl _) (.cells #[.int .u8 4, .int .i64 0, .int .u64 0] 53))
      have BW := hid (Hb.out.alloc Hb.out.size (.cells #[.int .u8 4, .int .i64 0, .int .u64 0] 53))
      have OA := hid (owns_below Ho.out BA.out)
      have SA := hid (heap_alloc_last wo (.cells #[.int .u8 4, .int .i64 0, .int .u64 0] 53))
      have VA := hid (own_fresh Ho.out)
      clear hhS
      go_wp2_with fail
      refine (rbody_any P.R.A P.R.n P.R.c P.R.f P.R.g _ (by omega) (pairs_below HP3.out.2.2.1 BW.out) (fun k hk => ⟨(HN.out.2.1 k hk).1, by have := (HN.out.2.1 k hk).2; omega⟩) (fun k hk => (HG.out k hk).1)).mono ?_
      rintro e wb ⟨vb, rfl, hob, hb⟩
      obtain ⟨Ab, cb, rfl, hWb⟩ := words_of_own (F := bodyF P.R.f P.R.g) hob
      have HWb := hid hWb
      have Bb := hid (BW.out.trans (hb.mono BW.out.size))
      have Ob := hid (owns_below OA.out hb)
      have Sb := hid ((hb.block _ (by simp)).trans SA.out)
      clear hob hWb hb
      go_wp2_with fail
      go_loopw [16, 17] (fun v j wr => ∃ k : Nat, k ≤ 2 * P.R.n ∧ j = .int .i64 k ∧ wr.ownsRow wb.heap.size 71 2 v k (pairsV (fun j => slotAt i s + 8 + j) (fun j => (bodyF P.R.f P.R.g j : Nat)) k) ∧ Below wb.heap.size wb wr) (fun _ j _ => 2 * P.R.n - (intOf j).toNat)
      case atStart => exact ⟨0, by omega, rfl, ⟨rfl, .inl ⟨rfl, rfl⟩⟩, Below.refl _ _⟩
      case round =>
        obtain ⟨k, hk, rfl, hown2, hb2⟩ := hrel
        have Hol := hid hown2
        have Hbl := hid hb2
        clear hown2 hb2
        by_cases hlt : k < 2 * P.R.n
        · have hlt' : (k : Int) < 2 * (P.R.n : Int) := by omega
          obtain ⟨ad, hA, hadl, hc⟩ : ∃ ad, Ab = some ad ∧ ad.block < wr.heap.size ∧ ∀ k, k < 2 * P.R.n → wr.cell? (ad.add k) = some (.int .u64 (bodyF P.R.f P.R.g k : Nat)) := by
            rcases HWb.out.below Hbl.out with h0 | h1
            · omega
            · exact h1
          have c0 := hc k hlt
          clear hc
          subst hA
          have hat0 : slotAt i s ≤ 20000 := by omega
          have hat1 := Hat.1
          go_wp2_with (at_builtin; refine wpList_append_pair rfl (.tmp 84) (.tmp 94) rfl wb.heap.size _ k _ rfl (owns_below Hol.out ((Below.refl _ _).alloc (Nat.le_refl _) _)) (Nat.le_trans Hbl.out.size (by simp)) wr.heap.size (slotAt i s + 8 + k) (bodyF P.R.f P.R.g k : Nat) 1 rfl (by simp) (by simp) (by omega) ?_; intro v2 w2' how2 hb2; have Ho2 := hid how2; have Hb2 := hid ((Hbl.out.alloc Hbl.out.size _).trans hb2); clear how2 hb2)
          go_roundw
          case rel =>
            refine ⟨k + 1, by omega, by go_num, ?_, Hb2.out⟩
            rw [pairsV_succ]
            exact Ho2.out
          case measure => simp [intOf]; omega
        · have hkn : k = 2 * P.R.n := by omega
          clear hlt
          subst hkn
          obtain ⟨A2, c2, rfl, hP, -⟩ := pairs_of_own Hol.out
          have HPl := hid hP
          have Bl := hid (Bb.out.trans (Hbl.out.mono Bb.out.size))
          have Ol := hid (owns_below Ob.out Hbl.out)
          have Sl := hid ((Hbl.out.block _ (lt_of_block Sb.out)).trans Sb.out)
          clear hP
          go_wp2_with fail
          refine (rwritten_ok (linesN p i b) Hle.out A2 (2 * P.R.n) c2 (fun j => slotAt i s + 8 + j) (fun j => (bodyF P.R.f P.R.g j : Nat)) _ (by omega) HPl.out (fun k hk => ⟨by have := Hat.1; omega, by have := Hat.2; omega⟩)).mono ?_
          rintro e wx1 ⟨vx1, rfl, hox, hb⟩
          have AX1 := hid (ops_of_own rfl hox)
          have OX1 := hid (owns_below Ol.out (hb))
          have BX1 := hid (Bl.out.trans ((hb).mono Bl.out.size))
          have SX1 := hid (((hb).block _ (lt_of_block Sl.out)).trans Sl.out)
          clear hox hb
          go_wp2_with (at_builtin; refine wpList_append_ops2 rfl (.tmp 96) (.tmp 99) rfl w3.heap.size _ (writtenL P.F.f P.F.g P.F.n ++ flushL P.L.f P.L.n) rfl OX1.out BX1.out.size _ (writtenL (fun j => slotAt i s + 8 + j) (fun j => (bodyF P.R.f P.R.g j : Nat)) (2 * P.R.n)) rfl AX1.out (by (try simp only [List.length_append]); (try simp only [List.length_cons]); (try simp only [List.length_nil]); (try rw [N9.out]); (try have := N8.out); (try have := HR.out); (try have := HL.out); omega) (by (try simp only [List.length_append]); (try simp only [List.length_cons]); (try simp only [List.length_nil]); (try rw [N9.out]); (try have := N8.out); (try have := HR.out); (try have := HL.out); omega) ?_; intro vy1 wy1 ho' hb' ha'; have OY1 := hid ho'; have BY1 := hid (BX1.out.trans hb'); have SY1 := hid ((ha' _ (lt_of_block SX1.out) VA.out).2.trans SX1.out); have VY1 := hid (ha' _ (lt_of_block SX1.out) VA.out).1; clear ho' hb' ha'; have pm4 : wy1.cell? ⟨w.heap.size + 1, 4, none⟩ = some (.slice P.R.A P.R.n P.R.c) := (BY1.out.cell (p := ⟨w.heap.size + 1, 4, none⟩) Z3.out).trans C3.out.2.2.1)
          refine (rcommit_any P.R.A P.R.n P.R.c P.R.f P.R.g _ h64 (pairs_below HP3.out.2.2.1 BY1.out) (fun k hk => ⟨(HN.out.2.1 k hk).1, by have := (HN.out.2.1 k hk).2; omega⟩) HG.out).mono ?_
          rintro e wc ⟨rfl, hb⟩
          have Bc := hid (BY1.out.trans (hb.mono BY1.out.size))
          have Oc := hid (owns_below OY1.out hb)
          have Sc := hid ((hb.block _ (lt_of_block SY1.out)).trans SY1.out)
          clear hb pm4
          go_wp2_with fail
          have ba2 := hid ((Below.refl wc.heap.size wc).alloc (Nat.le_refl _) (.cells #[.int .i64 (slotAt i s), .int .u64 ((commitN P.R.f P.R.g P.R.n : Nat) : Int)] 71))
          refine (rwritten_ok (linesN p i b) Hle.out (some ⟨wc.heap.size, 0, none⟩) 1 1 (fun _ => slotAt i s) (fun _ => ((commitN P.R.f P.R.g P.R.n : Nat) : Int)) _ (by omega) (pairs_one wc (slotAt i s) ((commitN P.R.f P.R.g P.R.n : Nat) : Int) 71 _ _ rfl rfl) (fun k hk => ⟨Hat.1, by have := Hat.2; omega⟩)).mono ?_
          rintro e wx2 ⟨vx2, rfl, hox, hb⟩
          have AX2 := hid (ops_of_own rfl hox)
          have bb2 := hid (ba2.out.trans (hb.mono (Nat.le_trans (Nat.le_refl _) ba2.out.size)))
          have OX2 := hid (owns_below Oc.out bb2.out)
          have BX2 := hid (Bc.out.trans (bb2.out.mono Bc.out.size))
          have SX2 := hid ((bb2.out.block _ (lt_of_block Sc.out)).trans Sc.out)
          clear hox hb
          go_wp2_with (first
            | (at_builtin; refine wpList_append_ops2 rfl (.tmp 101) (.tmp 109) rfl w3.heap.size _ ((writtenL P.F.f P.F.g P.F.n ++ flushL P.L.f P.L.n) ++ (writtenL (fun j => slotAt i s + 8 + j) (fun j => (bodyF P.R.f P.R.g j : Nat)) (2 * P.R.n))) rfl OX2.out BX2.out.size _ (writtenL (fun _ => slotAt i s) (fun _ => ((commitN P.R.f P.R.g P.R.n : Nat) : Int)) 1) rfl AX2.out (by (try simp only [List.length_append]); (try simp only [List.length_cons]); (try simp only [List.length_nil]); (try rw [N9.out]); (try have := N8.out); (try have := HR.out); (try have := HL.out); omega) (by (try simp only [List.length_append]); (try simp only [List.length_cons]); (try simp only [List.length_nil]); (try rw [N9.out]); (try have := N8.out); (try have := HR.out); (try have := HL.out); omega) ?_; intro vy2 wy2 ho' hb' ha'; have OY2 := hid ho'; have BY2 := hid (BX2.out.trans hb'); have SY2 := hid ((ha' _ (lt_of_block SX2.out) VY1.out).2.trans SX2.out); have VY2 := hid (ha' _ (lt_of_block SX2.out) VY1.out).1; clear ho' hb' ha'; have x0 : wy2.cell? ⟨wo.heap.size, 0, none⟩ = some (.int .u8 4) := cell_of_row _ _ 0 _ 53 (0, 0) SY2.out; have x1 : wy2.cell? ⟨wo.heap.size, 1, none⟩ = some (.int .i64 0) := cell_of_row _ _ 1 _ 53 (0, 0) SY2.out; have x2 : wy2.cell? ⟨wo.heap.size, 2, none⟩ = some (.int .u64 0) := cell_of_row _ _ 2 _ 53 (0, 0) SY2.out)
            | (at_builtin; refine wpList_append_ops2 rfl (.tmp 111) (.tmp 113) rfl w3.heap.size _ (((writtenL P.F.f P.F.g P.F.n ++ flushL P.L.f P.L.n) ++ (writtenL (fun j => slotAt i s + 8 + j) (fun j => (bodyF P.R.f P.R.g j : Nat)) (2 * P.R.n))) ++ (writtenL (fun _ => slotAt i s) (fun _ => ((commitN P.R.f P.R.g P.R.n : Nat) : Int)) 1)) rfl (owns_below OY2.out ((Below.refl _ _).alloc (Nat.le_refl _) _)) (Nat.le_trans BY2.out.size (by simp)) _ [(⟨4, 0, 0⟩ : Op3)] rfl (ops_one (heap_alloc_last wy2 _)) (by (try simp only [List.length_append]); (try simp only [List.length_cons]); (try simp only [List.length_nil]); (try rw [N9.out]); (try have := N8.out); (try have := HR.out); (try have := HL.out); omega) (by simp) ?_; intro vy3 wy3 ho' hb' ha'; have OY3 := hid ho'; have BY3 := hid ((BY2.out.alloc BY2.out.size _).trans hb'); clear ho' hb' ha' x0 x1 x2; have pn4 : wy3.cell? ⟨w.heap.size + 1, 4, none⟩ = some (.slice P.R.A P.R.n P.R.c) := (BY3.out.cell (p := ⟨w.heap.size + 1, 4, none⟩) Z3.out).trans C3.out.2.2.1))
          refine (rwritten_ok (linesN p i b) Hle.out P.R.A P.R.n P.R.c P.R.f P.R.g _ (by omega) (pairs_below HP3.out.2.2.1 BY3.out) HN.out.2.1).mono ?_
          rintro e wx4 ⟨vx4, rfl, hox, hb⟩
          have AX4 := hid (ops_of_own rfl hox)
          have OX4 := hid (owns_below OY3.out hb)
          have BX4 := hid (BY3.out.trans (hb.mono BY3.out.size))
          clear hox hb
          go_wp2_with (at_builtin; refine wpList_append_ops2 rfl (.tmp 115) (.tmp 119) rfl w3.heap.size _ ((((writtenL P.F.f P.F.g P.F.n ++ flushL P.L.f P.L.n) ++ (writtenL (fun j => slotAt i s + 8 + j) (fun j => (bodyF P.R.f P.R.g j : Nat)) (2 * P.R.n))) ++ (writtenL (fun _ => slotAt i s) (fun _ => ((commitN P.R.f P.R.g P.R.n : Nat) : Int)) 1)) ++ [(⟨4, 0, 0⟩ : Op3)]) rfl OX4.out BX4.out.size _ (writtenL P.R.f P.R.g P.R.n) rfl AX4.out (by (try simp only [List.length_append]); (try simp only [List.length_cons]); (try simp only [List.length_nil]); (try rw [N9.out]); (try have := N8.out); (try have := HR.out); (try have := HL.out); omega) (by (try simp only [List.length_append]); (try simp only [List.length_cons]); (try simp only [List.length_nil]); (try rw [N9.out]); (try have := N8.out); (try have := HR.out); (try have := HL.out); omega) ?_; intro vy4 wy4 ho' hb' _; have OY4 := hid ho'; have BY4 := hid (BX4.out.trans hb'); clear ho' hb'; clear pn4)
          have ba5 := hid ((Below.refl wy4.heap.size wy4).alloc (Nat.le_refl _) (.cells #[.int .i64 (slotAt i s), .int .u64 0] 71))
          refine (rwritten_ok (linesN p i b) Hle.out (some ⟨wy4.heap.size, 0, none⟩) 1 1 (fun _ => slotAt i s) (fun _ => 0) _ (by omega) (pairs_one wy4 (slotAt i s) 0 71 _ _ rfl rfl) (fun k hk => ⟨Hat.1, by have := Hat.2; omega⟩)).mono ?_
          rintro e wx5 ⟨vx5, rfl, hox, hb⟩
          have AX5 := hid (ops_of_own rfl hox)
          have bb5 := hid (ba5.out.trans (hb.mono (Nat.le_trans (Nat.le_refl _) ba5.out.size)))
          have OX5 := hid (owns_below OY4.out bb5.out)
          have BX5 := hid (BY4.out.trans (bb5.out.mono BY4.out.size))
          clear hox hb
          go_wp2_with (at_builtin; refine wpList_append_ops2 rfl (.tmp 121) (.tmp 126) rfl w3.heap.size _ (((((writtenL P.F.f P.F.g P.F.n ++ flushL P.L.f P.L.n) ++ (writtenL (fun j => slotAt i s + 8 + j) (fun j => (bodyF P.R.f P.R.g j : Nat)) (2 * P.R.n))) ++ (writtenL (fun _ => slotAt i s) (fun _ => ((commitN P.R.f P.R.g P.R.n : Nat) : Int)) 1)) ++ [(⟨4, 0, 0⟩ : Op3)]) ++ (writtenL P.R.f P.R.g P.R.n)) rfl OX5.out BX5.out.size _ (writtenL (fun _ => slotAt i s) (fun _ => 0) 1) rfl AX5.out (by (try simp only [List.length_append]); (try simp only [List.length_cons]); (try simp only [List.length_nil]); (try rw [N9.out]); (try have := N8.out); (try have := HR.out); (try have := HL.out); omega) (by (try simp only [List.length_append]); (try simp only [List.length_cons]); (try simp only [List.length_nil]); (try rw [N9.out]); (try have := N8.out); (try have := HR.out); (try have := HL.out); omega) ?_; intro vy5 wy5 ho' hb' _; have OY5 := hid ho'; have BY5 := hid (BX5.out.trans hb'); clear ho' hb'; have pz5 : wy5.cell? ⟨w.heap.size + 1, 5, none⟩ = some (.slice P.D.A P.D.n P.D.c) := (BY5.out.cell (p := ⟨w.heap.size + 1, 5, none⟩) Z3.out).trans C3.out.2.2.2)
          refine (rstores_any P.D.A P.D.n P.D.c P.D.f P.D.g _ (by omega) (pairs_below HP3.out.2.2.2 BY5.out)).mono ?_
          rintro e wz ⟨vz, rfl, ho', hb'⟩
          have AZ := hid (ops_of_own N8.out.symm ho')
          have OZ := hid (owns_below OY5.out hb')
          have BZ := hid (BY5.out.trans (hb'.mono BY5.out.size))
          clear ho' hb' pz5
          go_wp2_with (at_builtin; refine wpList_append_ops2 rfl (.tmp 128) (.tmp 131) rfl w3.heap.size _ ((((((writtenL P.F.f P.F.g P.F.n ++ flushL P.L.f P.L.n) ++ (writtenL (fun j => slotAt i s + 8 + j) (fun j => (bodyF P.R.f P.R.g j : Nat)) (2 * P.R.n))) ++ (writtenL (fun _ => slotAt i s) (fun _ => ((commitN P.R.f P.R.g P.R.n : Nat) : Int)) 1)) ++ [(⟨4, 0, 0⟩ : Op3)]) ++ (writtenL P.R.f P.R.g P.R.n)) ++ (writtenL (fun _ => slotAt i s) (fun _ => 0) 1)) rfl OZ.out BZ.out.size _ _ rfl AZ.out (by (try simp only [List.length_append]); (try simp only [List.length_cons]); (try simp only [List.length_nil]); (try rw [N9.out]); (try have := N8.out); (try have := HR.out); (try have := HL.out); omega) (by have := N8.out; omega) ?_; intro v8 w8 ho' hb' _; have O8 := hid ho'; have B8 := hid (BZ.out.trans hb'); clear ho' hb')
          go_ret2
          refine ⟨_, rfl, ?_, B3.out.trans (B8.out.mono B3.out.size)⟩
          have e := ops_of_own rfl O8.out
          unfold stepsL
          rw [show linesL P.L.f P.L.n = [] by unfold linesL; rw [if_pos HL.out]]
          have e0 : flushL P.L.f P.L.n = [] := by rw [HL.out]; rfl
          rw [e0] at e
          unfold redoL
          rw [if_neg (by have := HR.out; omega), if_neg (by have := HR.out; omega)]
          simpa using e
set_option maxHeartbeats 8000000 in
set_option maxRecDepth 100000 in
theorem rsteps_11 (p i b s : Int) (P : PlanD) (w : World) (hsm : P.small) (hp : PlanAt w P) (hv : errE p i b s P = 0) (hg : ∀ k, k < P.R.n → 0 ≤ P.R.g k ∧ P.R.g k < 18446744073709551616) (hL : 0 < P.L.n) (hR : 0 < P.R.n) :
    Calls Try.prog 11 #[.agg #[.int .i64 p, .int .i64 i, .int .i64 b], .int .i64 s, .agg #[.int .i64 P.err, .int .i64 P.ino, .slice P.F.A P.F.n P.F.c, .slice P.L.A P.L.n P.L.c, .slice P.R.A P.R.n P.R.c, .slice P.D.A P.D.n P.D.c]] w fun e w' => ∃ v, e = .returned (.tuple #[v, .int .i64 0]) ∧ OpsAt w' v (stepsL (slotAt i s) P) ∧ Below w.heap.size w w' := by
  obtain ⟨hgok, hs, hs2, hm⟩ := errE_zero hv
  obtain ⟨hno, h64⟩ := mayE_zero hm
  have HV := hid hv
  have H := hid hgok
  have HP := hid hp
  have HN := hid hno
  have HG := hid hg
  have Hle := hid (linesN_le hgok)
  have hl0 := (linesN_le hgok).1
  have hl1 := (linesN_le hgok).2
  obtain ⟨q1, q2, q3, q4, q5, q6⟩ := gok_iff.1 hgok
  have Hs1 := hsm.1
  have Hs2 := hsm.2.1
  have Hs3 := hsm.2.2.1
  have Hs4 := hsm.2.2.2
  have Hat : 0 ≤ slotAt i s ∧ slotAt i s + 136 ≤ 8 * linesN p i b := by unfold slotAt linesN; omega
  have n1 := writtenL_len P.F.f P.F.g P.F.n
  have n4 := writtenL_len P.R.f P.R.g P.R.n
  have n5 := writtenL_len (fun _ => slotAt i s) (fun _ => 0) 1
  have n6 := writtenL_len (fun _ => slotAt i s) (fun _ => (commitN P.R.f P.R.g P.R.n : Nat)) 1
  have n7 := writtenL_len (fun j => slotAt i s + 8 + j) (fun j => (bodyF P.R.f P.R.g j : Nat)) (2 * P.R.n)
  have n8 := storesL_len P.D.f P.D.g P.D.n
  have n9 : ∀ k, (flushL P.L.f k).length = k := fun k => by simp [flushL]
  have N9 := hid n9
  have N8 := hid n8
  have HL := hid hL
  have HR := hid hR
  clear hv hp hm hno hg hgok n9 n8 hL hR
  have b0 := hid (show Below w.heap.size w ((w.alloc (.cells #[.int .i64 p, .int .i64 i, .int .i64 b] 23)).alloc (.cells #[.int .i64 P.err, .int .i64 P.ino, .slice P.F.A P.F.n P.F.c, .slice P.L.A P.L.n P.L.c, .slice P.R.A P.R.n P.R.c, .slice P.D.A P.D.n P.D.c] 28)) from ((Below.refl _ _).alloc (Nat.le_refl _) _).alloc (by simp) _)
  have hsz : w.heap.size + 1 < ((w.alloc (.cells #[.int .i64 p, .int .i64 i, .int .i64 b] 23)).alloc (.cells #[.int .i64 P.err, .int .i64 P.ino, .slice P.F.A P.F.n P.F.c, .slice P.L.A P.L.n P.L.c, .slice P.R.A P.R.n P.R.c, .slice P.D.A P.D.n P.D.c] 28)).heap.size := by simp
  go_enter Try.func11, Try.ntmps11
  go_wp2_with fail
  refine (rmay_is p i b s P _ 0 hsm (HP.out.below b0.out) HV.out).mono ?_
  rintro e w1 ⟨rfl, hb⟩
  have B1 := hid (b0.out.trans (hb.mono b0.out.size))
  have Z1 : Hid (w.heap.size + 1 < w1.heap.size) := Nat.lt_of_lt_of_le hsz hb.size
  have g10 : w1.cell? ⟨w.heap.size, 0, none⟩ = some (.int .i64 p) := (hb.cell (p := ⟨w.heap.size, 0, none⟩) (Nat.lt_of_succ_lt hsz)).trans (by simp)
  have g11 : w1.cell? ⟨w.heap.size, 1, none⟩ = some (.int .i64 i) := (hb.cell (p := ⟨w.heap.size, 1, none⟩) (Nat.lt_of_succ_lt hsz)).trans (by simp)
  have g12 : w1.cell? ⟨w.heap.size, 2, none⟩ = some (.int .i64 b) := (hb.cell (p := ⟨w.heap.size, 2, none⟩) (Nat.lt_of_succ_lt hsz)).trans (by simp)
  have p10 : w1.cell? ⟨w.heap.size + 1, 0, none⟩ = some (.int .i64 P.err) := (hb.cell (p := ⟨w.heap.size + 1, 0, none⟩) hsz).trans (by simp)
  have p11 : w1.cell? ⟨w.heap.size + 1, 1, none⟩ = some (.int .i64 P.ino) := (hb.cell (p := ⟨w.heap.size + 1, 1, none⟩) hsz).trans (by simp)
  have p12 : w1.cell? ⟨w.heap.size + 1, 2, none⟩ = some (.slice P.F.A P.F.n P.F.c) := (hb.cell (p := ⟨w.heap.size + 1, 2, none⟩) hsz).trans (by simp)
  have p13 : w1.cell? ⟨w.heap.size + 1, 3, none⟩ = some (.slice P.L.A P.L.n P.L.c) := (hb.cell (p := ⟨w.heap.size + 1, 3, none⟩) hsz).trans (by simp)
  have p14 : w1.cell? ⟨w.heap.size + 1, 4, none⟩ = some (.slice P.R.A P.R.n P.R.c) := (hb.cell (p := ⟨w.heap.size + 1, 4, none⟩) hsz).trans (by simp)
  have p15 : w1.cell? ⟨w.heap.size + 1, 5, none⟩ = some (.slice P.D.A P.D.n P.D.c) := (hb.cell (p := ⟨w.heap.size + 1, 5, none⟩) hsz).trans (by simp)
  clear hb
  go_wp2_with fail
  refine (rwords_ok p i b _ H.out).mono ?_
  rintro e w2 ⟨rfl, hb⟩
  have B2 := hid (B1.out.trans (hb.mono B1.out.size))
  have Z2 : Hid (w.heap.size + 1 < w2.heap.size) := Nat.lt_of_lt_of_le Z1.out hb.size
  have g20 : w2.cell? ⟨w.heap.size, 0, none⟩ = some (.int .i64 p) := (hb.cell (p := ⟨w.heap.size, 0, none⟩) (Nat.lt_of_succ_lt Z1.out)).trans g10
  have g21 : w2.cell? ⟨w.heap.size, 1, none⟩ = some (.int .i64 i) := (hb.cell (p := ⟨w.heap.size, 1, none⟩) (Nat.lt_of_succ_lt Z1.out)).trans g11
  have g22 : w2.cell? ⟨w.heap.size, 2, none⟩ = some (.int .i64 b) := (hb.cell (p := ⟨w.heap.size, 2, none⟩) (Nat.lt_of_succ_lt Z1.out)).trans g12
  have p20 : w2.cell? ⟨w.heap.size + 1, 0, none⟩ = some (.int .i64 P.err) := (hb.cell (p := ⟨w.heap.size + 1, 0, none⟩) Z1.out).trans p10
  have p21 : w2.cell? ⟨w.heap.size + 1, 1, none⟩ = some (.int .i64 P.ino) := (hb.cell (p := ⟨w.heap.size + 1, 1, none⟩) Z1.out).trans p11
  have p22 : w2.cell? ⟨w.heap.size + 1, 2, none⟩ = some (.slice P.F.A P.F.n P.F.c) := (hb.cell (p := ⟨w.heap.size + 1, 2, none⟩) Z1.out).trans p12
  have p23 : w2.cell? ⟨w.heap.size + 1, 3, none⟩ = some (.slice P.L.A P.L.n P.L.c) := (hb.cell (p := ⟨w.heap.size + 1, 3, none⟩) Z1.out).trans p13
  have p24 : w2.cell? ⟨w.heap.size + 1, 4, none⟩ = some (.slice P.R.A P.R.n P.R.c) := (hb.cell (p := ⟨w.heap.size + 1, 4, none⟩) Z1.out).trans p14
  have p25 : w2.cell? ⟨w.heap.size + 1, 5, none⟩ = some (.slice P.D.A P.D.n P.D.c) := (hb.cell (p := ⟨w.heap.size + 1, 5, none⟩) Z1.out).trans p15
  clear hb g10 g11 g12 p10 p11 p12 p13 p14 p15
  go_wp2_with fail
  refine (rplace_ok p i b s _ H.out hs hs2).mono ?_
  rintro e w3 ⟨rfl, hb⟩
  have B3 := hid (B2.out.trans (hb.mono B2.out.size))
  have Z3 : Hid (w.heap.size + 1 < w3.heap.size) := Nat.lt_of_lt_of_le Z2.out hb.size
  have g30 : w3.cell? ⟨w.heap.size, 0, none⟩ = some (.int .i64 p) := (hb.cell (p := ⟨w.heap.size, 0, none⟩) (Nat.lt_of_succ_lt Z2.out)).trans g20
  have g31 : w3.cell? ⟨w.heap.size, 1, none⟩ = some (.int .i64 i) := (hb.cell (p := ⟨w.heap.size, 1, none⟩) (Nat.lt_of_succ_lt Z2.out)).trans g21
  have g32 : w3.cell? ⟨w.heap.size, 2, none⟩ = some (.int .i64 b) := (hb.cell (p := ⟨w.heap.size, 2, none⟩) (Nat.lt_of_succ_lt Z2.out)).trans g22
  have p30 : w3.cell? ⟨w.heap.size + 1, 0, none⟩ = some (.int .i64 P.err) := (hb.cell (p := ⟨w.heap.size + 1, 0, none⟩) Z2.out).trans p20
  have p31 : w3.cell? ⟨w.heap.size + 1, 1, none⟩ = some (.int .i64 P.ino) := (hb.cell (p := ⟨w.heap.size + 1, 1, none⟩) Z2.out).trans p21
  have p32 : w3.cell? ⟨w.heap.size + 1, 2, none⟩ = some (.slice P.F.A P.F.n P.F.c) := (hb.cell (p := ⟨w.heap.size + 1, 2, none⟩) Z2.out).trans p22
  have p33 : w3.cell? ⟨w.heap.size + 1, 3, none⟩ = some (.slice P.L.A P.L.n P.L.c) := (hb.cell (p := ⟨w.heap.size + 1, 3, none⟩) Z2.out).trans p23
  have p34 : w3.cell? ⟨w.heap.size + 1, 4, none⟩ = some (.slice P.R.A P.R.n P.R.c) := (hb.cell (p := ⟨w.heap.size + 1, 4, none⟩) Z2.out).trans p24
  have p35 : w3.cell? ⟨w.heap.size + 1, 5, none⟩ = some (.slice P.D.A P.D.n P.D.c) := (hb.cell (p := ⟨w.heap.size + 1, 5, none⟩) Z2.out).trans p25
  clear hb g20 g21 g22 p20 p21 p22 p23 p24 p25
  have C3 : Hid (w3.cell? ⟨w.heap.size + 1, 2, none⟩ = some (.slice P.F.A P.F.n P.F.c) ∧ w3.cell? ⟨w.heap.size + 1, 3, none⟩ = some (.slice P.L.A P.L.n P.L.c) ∧ w3.cell? ⟨w.heap.size + 1, 4, none⟩ = some (.slice P.R.A P.R.n P.R.c) ∧ w3.cell? ⟨w.heap.size + 1, 5, none⟩ = some (.slice P.D.A P.D.n P.D.c)) := ⟨p32, p33, p34, p35⟩
  have HP3 := hid (HP.out.below B3.out)
  clear g30 g31 g32 p30 p31 p33 p34 p35
  go_wp2_with fail
  refine (rwritten_ok (linesN p i b) Hle.out P.F.A P.F.n P.F.c P.F.f P.F.g _ (by omega) HP3.out.1 HN.out.1).mono ?_
  rintro e w4 ⟨v4, rfl, ho, hb⟩
  have O4 := hid (own_mono (Nat.le_refl _) ho)
  have B4 := hid hb
  clear ho hb p32
  go_wp2_with fail
  go_loopw [12, 13] (fun v j wr => ∃ k : Nat, k ≤ P.L.n ∧ j = .int .i64 k ∧ wr.ownsRow w3.heap.size 53 3 v (writtenL P.F.f P.F.g P.F.n ++ flushL P.L.f k).length (opsL (writtenL P.F.f P.F.g P.F.n ++ flushL P.L.f k)) ∧ Below w3.heap.size w3 wr) (fun _ j _ => P.L.n - (intOf j).toNat)
  case atStart => exact ⟨0, by omega, rfl, by simpa [flushL] using O4.out, B4.out⟩
  case round =>
    obtain ⟨k, hk, rfl, hown, hb⟩ := hrel
    have Ho := hid hown
    have Hb := hid hb
    clear hown hb
    have hkl := N9.out k
    have pr3 : wr.cell? ⟨w.heap.size + 1, 3, none⟩ = some (.slice P.L.A P.L.n P.L.c) := (Hb.out.cell (p := ⟨w.heap.size + 1, 3, none⟩) Z3.out).trans C3.out.2.1
    by_cases hlt : k < P.L.n
    · have hlt' : (k : Int) < (P.L.n : Int) := by omega
      obtain ⟨ad, hA, hadl, hc⟩ : ∃ ad, P.L.A = some ad ∧ ad.block < wr.heap.size ∧ ∀ k, k < P.L.n → wr.cell? (ad.add k) = some (.int .i64 (P.L.f k)) := by
        rcases ints_below HP3.out.2.1 Hb.out with h0 | h1
        · omega
        · exact h1
      have c0 := hc k hlt
      rw [hA] at pr3
      clear hc hA
      go_wp2_with (at_builtin; refine wpList_append_ops2 rfl (.tmp 44) (.tmp 51) rfl w3.heap.size _ (writtenL P.F.f P.F.g P.F.n ++ flushL P.L.f k) rfl (owns_below Ho.out ((Below.refl _ _).alloc (Nat.le_refl _) _)) (Nat.le_trans Hb.out.size (by simp)) _ [⟨2, P.L.f k, 0⟩] rfl (ops_one (heap_alloc_last wr _)) (by (try simp only [List.length_append]); (try simp only [List.length_cons]); (try simp only [List.length_nil]); (try rw [N9.out]); (try have := N8.out); (try have := HR.out); (try have := HL.out); omega) (by simp) ?_; intro v' w' ho' hb' _; have Ho' := hid ho'; have Hb' := hid ((Hb.out.alloc Hb.out.size _).trans hb'); clear ho' hb')
      go_roundw
      case rel =>
        refine ⟨k + 1, by omega, by go_num, ?_, Hb'.out⟩
        rw [flushL_succ, ← List.append_assoc]
        exact Ho'.out
      case measure => simp [intOf]; omega
    · have hkn : k = P.L.n := by omega
      clear hlt
      subst hkn
      have hrz : ((P.R.n : Int) == 0) = false := by rw [beq_eq_false_iff_ne]; have := HR.out; omega
      have hz : (0 : Int) < (P.L.n : Int) := by have := HL.out; omega
      go_wp2_with (at_builtin; refine wpList_append_ops2 rfl (.tmp 57) (.tmp 59) rfl w3.heap.size _ (writtenL P.F.f P.F.g P.F.n ++ flushL P.L.f P.L.n) rfl (owns_below Ho.out ((Below.refl _ _).alloc (Nat.le_refl _) _)) (Nat.le_trans Hb.out.size (by simp)) _ [⟨3, 0, 0⟩] rfl (ops_one (heap_alloc_last wr _)) (by (try simp only [List.length_append]); (try simp only [List.length_cons]); (try simp only [List.length_nil]); (try rw [N9.out]); (try have := N8.out); (try have := HR.out); (try have := HL.out); omega) (by simp) ?_; intro v5 w5 ho' hb' _; have O5 := hid ho'; have B5 := hid ((Hb.out.alloc Hb.out.size _).trans hb'); clear ho' hb' pr3; have p54 : w5.cell? ⟨w.heap.size + 1, 4, none⟩ = some (.slice P.R.A P.R.n P.R.c) := (B5.out.cell (p := ⟨w.heap.size + 1, 4, none⟩) Z3.out).trans C3.out.2.2.1; have p55 : w5.cell? ⟨w.heap.size + 1, 5, none⟩ = some (.slice P.D.A P.D.n P.D.c) := (B5.out.cell (p := ⟨w.heap.size + 1, 5, none⟩) Z3.out).trans C3.out.2.2.2; have q54 := above5 w5 (p := ⟨w.heap.size + 1, 4, none⟩) p54 (.cells #[.int .u8 4, .int .i64 0, .int .u64 0] 53); have q55 := above5 w5 (p := ⟨w.heap.size + 1, 5, none⟩) p55 (.cells #[.int .u8 4, .int .i64 0, .int .u64 0] 53))
      obtain ⟨hS, hhS⟩ : ∃ hS, hS = w5.heap.size := ⟨_, rfl⟩
      have HS := hid hhS
      have BA := hid ((Below.refl w5.heap.size w5).alloc (Nat.le_refl _) (.cells #[.int .u8 4, .int .i64 0, .int .u64 0] 53))
      have BW := hid (B5.out.alloc B5.out.size (.cells #[.int .u8 4, .int .i64 0, .int .u64 0] 53))
      have OA := hid (owns_below O5.out BA.out)
      have SA := hid (heap_alloc_last w5 (.cells #[.int .u8 4, .int .i64 0, .int .u64 0] 53))
      have VA := hid (own_fresh O5.out)
      clear hhS
      go_wp2_with fail
      refine (rbody_any P.R.A P.R.n P.R.c P.R.f P.R.g _ (by omega) (pairs_below HP3.out.2.2.1 BW.out) (fun k hk => ⟨(HN.out.2.1 k hk).1, by have := (HN.out.2.1 k hk).2; omega⟩) (fun k hk => (HG.out k hk).1)).mono ?_
      rintro e wb ⟨vb, rfl, hob, hb⟩
      obtain ⟨Ab, cb, rfl, hWb⟩ := words_of_own (F := bodyF P.R.f P.R.g) hob
      have HWb := hid hWb
      have Bb := hid (BW.out.trans (hb.mono BW.out.size))
      have Ob := hid (owns_below OA.out hb)
      have Sb := hid ((hb.block _ (by simp)).trans SA.out)
      clear hob hWb hb
      go_wp2_with fail
      go_loopw [16, 17] (fun v j wr => ∃ k : Nat, k ≤ 2 * P.R.n ∧ j = .int .i64 k ∧ wr.ownsRow wb.heap.size 71 2 v k (pairsV (fun j => slotAt i s + 8 + j) (fun j => (bodyF P.R.f P.R.g j : Nat)) k) ∧ Below wb.heap.size wb wr) (fun _ j _ => 2 * P.R.n - (intOf j).toNat)
      case atStart => exact ⟨0, by omega, rfl, ⟨rfl, .inl ⟨rfl, rfl⟩⟩, Below.refl _ _⟩
      case round =>
        obtain ⟨k, hk, rfl, hown2, hb2⟩ := hrel
        have Hol := hid hown2
        have Hbl := hid hb2
        clear hown2 hb2
        by_cases hlt : k < 2 * P.R.n
        · have hlt' : (k : Int) < 2 * (P.R.n : Int) := by omega
          obtain ⟨ad, hA, hadl, hc⟩ : ∃ ad, Ab = some ad ∧ ad.block < wr.heap.size ∧ ∀ k, k < 2 * P.R.n → wr.cell? (ad.add k) = some (.int .u64 (bodyF P.R.f P.R.g k : Nat)) := by
            rcases HWb.out.below Hbl.out with h0 | h1
            · omega
            · exact h1
          have c0 := hc k hlt
          clear hc
          subst hA
          have hat0 : slotAt i s ≤ 20000 := by omega
          have hat1 := Hat.1
          go_wp2_with (at_builtin; refine wpList_append_pair rfl (.tmp 84) (.tmp 94) rfl wb.heap.size _ k _ rfl (owns_below Hol.out ((Below.refl _ _).alloc (Nat.le_refl _) _)) (Nat.le_trans Hbl.out.size (by simp)) wr.heap.size (slotAt i s + 8 + k) (bodyF P.R.f P.R.g k : Nat) 1 rfl (by simp) (by simp) (by omega) ?_; intro v2 w2' how2 hb2; have Ho2 := hid how2; have Hb2 := hid ((Hbl.out.alloc Hbl.out.size _).trans hb2); clear how2 hb2)
          go_roundw
          case rel =>
            refine ⟨k + 1, by omega, by go_num, ?_, Hb2.out⟩
            rw [pairsV_succ]
            exact Ho2.out
          case measure => simp [intOf]; omega
        · have hkn : k = 2 * P.R.n := by omega
          clear hlt
          subst hkn
          obtain ⟨A2, c2, rfl, hP, -⟩ := pairs_of_own Hol.out
          have HPl := hid hP
          have Bl := hid (Bb.out.trans (Hbl.out.mono Bb.out.size))
          have Ol := hid (owns_below Ob.out Hbl.out)
          have Sl := hid ((Hbl.out.block _ (lt_of_block Sb.out)).trans Sb.out)
          clear hP
          go_wp2_with fail
          refine (rwritten_ok (linesN p i b) Hle.out A2 (2 * P.R.n) c2 (fun j => slotAt i s + 8 + j) (fun j => (bodyF P.R.f P.R.g j : Nat)) _ (by omega) HPl.out (fun k hk => ⟨by have := Hat.1; omega, by have := Hat.2; omega⟩)).mono ?_
          rintro e wx1 ⟨vx1, rfl, hox, hb⟩
          have AX1 := hid (ops_of_own rfl hox)
          have OX1 := hid (owns_below Ol.out (hb))
          have BX1 := hid (Bl.out.trans ((hb).mono Bl.out.size))
          have SX1 := hid (((hb).block _ (lt_of_block Sl.out)).trans Sl.out)
          clear hox hb
          go_wp2_with (at_builtin; refine wpList_append_ops2 rfl (.tmp 96) (.tmp 99) rfl w3.heap.size _ ((writtenL P.F.f P.F.g P.F.n ++ flushL P.L.f P.L.n) ++ [(⟨3, 0, 0⟩ : Op3)]) rfl OX1.out BX1.out.size _ (writtenL (fun j => slotAt i s + 8 + j) (fun j => (bodyF P.R.f P.R.g j : Nat)) (2 * P.R.n)) rfl AX1.out (by (try simp only [List.length_append]); (try simp only [List.length_cons]); (try simp only [List.length_nil]); (try rw [N9.out]); (try have := N8.out); (try have := HR.out); (try have := HL.out); omega) (by (try simp only [List.length_append]); (try simp only [List.length_cons]); (try simp only [List.length_nil]); (try rw [N9.out]); (try have := N8.out); (try have := HR.out); (try have := HL.out); omega) ?_; intro vy1 wy1 ho' hb' ha'; have OY1 := hid ho'; have BY1 := hid (BX1.out.trans hb'); have SY1 := hid ((ha' _ (lt_of_block SX1.out) VA.out).2.trans SX1.out); have VY1 := hid (ha' _ (lt_of_block SX1.out) VA.out).1; clear ho' hb' ha'; have pm4 : wy1.cell? ⟨w.heap.size + 1, 4, none⟩ = some (.slice P.R.A P.R.n P.R.c) := (BY1.out.cell (p := ⟨w.heap.size + 1, 4, none⟩) Z3.out).trans C3.out.2.2.1)
          refine (rcommit_any P.R.A P.R.n P.R.c P.R.f P.R.g _ h64 (pairs_below HP3.out.2.2.1 BY1.out) (fun k hk => ⟨(HN.out.2.1 k hk).1, by have := (HN.out.2.1 k hk).2; omega⟩) HG.out).mono ?_
          rintro e wc ⟨rfl, hb⟩
          have Bc := hid (BY1.out.trans (hb.mono BY1.out.size))
          have Oc := hid (owns_below OY1.out hb)
          have Sc := hid ((hb.block _ (lt_of_block SY1.out)).trans SY1.out)
          clear hb pm4
          go_wp2_with fail
          have ba2 := hid ((Below.refl wc.heap.size wc).alloc (Nat.le_refl _) (.cells #[.int .i64 (slotAt i s), .int .u64 ((commitN P.R.f P.R.g P.R.n : Nat) : Int)] 71))
          refine (rwritten_ok (linesN p i b) Hle.out (some ⟨wc.heap.size, 0, none⟩) 1 1 (fun _ => slotAt i s) (fun _ => ((commitN P.R.f P.R.g P.R.n : Nat) : Int)) _ (by omega) (pairs_one wc (slotAt i s) ((commitN P.R.f P.R.g P.R.n : Nat) : Int) 71 _ _ rfl rfl) (fun k hk => ⟨Hat.1, by have := Hat.2; omega⟩)).mono ?_
          rintro e wx2 ⟨vx2, rfl, hox, hb⟩
          have AX2 := hid (ops_of_own rfl hox)
          have bb2 := hid (ba2.out.trans (hb.mono (Nat.le_trans (Nat.le_refl _) ba2.out.size)))
          have OX2 := hid (owns_below Oc.out bb2.out)
          have BX2 := hid (Bc.out.trans (bb2.out.mono Bc.out.size))
          have SX2 := hid ((bb2.out.block _ (lt_of_block Sc.out)).trans Sc.out)
          clear hox hb
          go_wp2_with (first
            | (at_builtin; refine wpList_append_ops2 rfl (.tmp 101) (.tmp 109) rfl w3.heap.size _ (((writtenL P.F.f P.F.g P.F.n ++ flushL P.L.f P.L.n) ++ [(⟨3, 0, 0⟩ : Op3)]) ++ (writtenL (fun j => slotAt i s + 8 + j) (fun j => (bodyF P.R.f P.R.g j : Nat)) (2 * P.R.n))) rfl OX2.out BX2.out.size _ (writtenL (fun _ => slotAt i s) (fun _ => ((commitN P.R.f P.R.g P.R.n : Nat) : Int)) 1) rfl AX2.out (by (try simp only [List.length_append]); (try simp only [List.length_cons]); (try simp only [List.length_nil]); (try rw [N9.out]); (try have := N8.out); (try have := HR.out); (try have := HL.out); omega) (by (try simp only [List.length_append]); (try simp only [List.length_cons]); (try simp only [List.length_nil]); (try rw [N9.out]); (try have := N8.out); (try have := HR.out); (try have := HL.out); omega) ?_; intro vy2 wy2 ho' hb' ha'; have OY2 := hid ho'; have BY2 := hid (BX2.out.trans hb'); have SY2 := hid ((ha' _ (lt_of_block SX2.out) VY1.out).2.trans SX2.out); have VY2 := hid (ha' _ (lt_of_block SX2.out) VY1.out).1; clear ho' hb' ha'; have x0 : wy2.cell? ⟨w5.heap.size, 0, none⟩ = some (.int .u8 4) := cell_of_row _ _ 0 _ 53 (0, 0) SY2.out; have x1 : wy2.cell? ⟨w5.heap.size, 1, none⟩ = some (.int .i64 0) := cell_of_row _ _ 1 _ 53 (0, 0) SY2.out; have x2 : wy2.cell? ⟨w5.heap.size, 2, none⟩ = some (.int .u64 0) := cell_of_row _ _ 2 _ 53 (0, 0) SY2.out)
            | (at_builtin; refine wpList_append_ops2 rfl (.tmp 111) (.tmp 113) rfl w3.heap.size _ ((((writtenL P.F.f P.F.g P.F.n ++ flushL P.L.f P.L.n) ++ [(⟨3, 0, 0⟩ : Op3)]) ++ (writtenL (fun j => slotAt i s + 8 + j) (fun j => (bodyF P.R.f P.R.g j : Nat)) (2 * P.R.n))) ++ (writtenL (fun _ => slotAt i s) (fun _ => ((commitN P.R.f P.R.g P.R.n : Nat) : Int)) 1)) rfl (owns_below OY2.out ((Below.refl _ _).alloc (Nat.le_refl _) _)) (Nat.le_trans BY2.out.size (by simp)) _ [(⟨4, 0, 0⟩ : Op3)] rfl (ops_one (heap_alloc_last wy2 _)) (by (try simp only [List.length_append]); (try simp only [List.length_cons]); (try simp only [List.length_nil]); (try rw [N9.out]); (try have := N8.out); (try have := HR.out); (try have := HL.out); omega) (by simp) ?_; intro vy3 wy3 ho' hb' ha'; have OY3 := hid ho'; have BY3 := hid ((BY2.out.alloc BY2.out.size _).trans hb'); clear ho' hb' ha' x0 x1 x2; have pn4 : wy3.cell? ⟨w.heap.size + 1, 4, none⟩ = some (.slice P.R.A P.R.n P.R.c) := (BY3.out.cell (p := ⟨w.heap.size + 1, 4, none⟩) Z3.out).trans C3.out.2.2.1))
          refine (rwritten_ok (linesN p i b) Hle.out P.R.A P.R.n P.R.c P.R.f P.R.g _ (by omega) (pairs_below HP3.out.2.2.1 BY3.out) HN.out.2.1).mono ?_
          rintro e wx4 ⟨vx4, rfl, hox, hb⟩
          have AX4 := hid (ops_of_own rfl hox)
          have OX4 := hid (owns_below OY3.out hb)
          have BX4 := hid (BY3.out.trans (hb.mono BY3.out.size))
          clear hox hb
          go_wp2_with (at_builtin; refine wpList_append_ops2 rfl (.tmp 115) (.tmp 119) rfl w3.heap.size _ (((((writtenL P.F.f P.F.g P.F.n ++ flushL P.L.f P.L.n) ++ [(⟨3, 0, 0⟩ : Op3)]) ++ (writtenL (fun j => slotAt i s + 8 + j) (fun j => (bodyF P.R.f P.R.g j : Nat)) (2 * P.R.n))) ++ (writtenL (fun _ => slotAt i s) (fun _ => ((commitN P.R.f P.R.g P.R.n : Nat) : Int)) 1)) ++ [(⟨4, 0, 0⟩ : Op3)]) rfl OX4.out BX4.out.size _ (writtenL P.R.f P.R.g P.R.n) rfl AX4.out (by (try simp only [List.length_append]); (try simp only [List.length_cons]); (try simp only [List.length_nil]); (try rw [N9.out]); (try have := N8.out); (try have := HR.out); (try have := HL.out); omega) (by (try simp only [List.length_append]); (try simp only [List.length_cons]); (try simp only [List.length_nil]); (try rw [N9.out]); (try have := N8.out); (try have := HR.out); (try have := HL.out); omega) ?_; intro vy4 wy4 ho' hb' _; have OY4 := hid ho'; have BY4 := hid (BX4.out.trans hb'); clear ho' hb'; clear pn4)
          have ba5 := hid ((Below.refl wy4.heap.size wy4).alloc (Nat.le_refl _) (.cells #[.int .i64 (slotAt i s), .int .u64 0] 71))
          refine (rwritten_ok (linesN p i b) Hle.out (some ⟨wy4.heap.size, 0, none⟩) 1 1 (fun _ => slotAt i s) (fun _ => 0) _ (by omega) (pairs_one wy4 (slotAt i s) 0 71 _ _ rfl rfl) (fun k hk => ⟨Hat.1, by have := Hat.2; omega⟩)).mono ?_
          rintro e wx5 ⟨vx5, rfl, hox, hb⟩
          have AX5 := hid (ops_of_own rfl hox)
          have bb5 := hid (ba5.out.trans (hb.mono (Nat.le_trans (Nat.le_refl _) ba5.out.size)))
          have OX5 := hid (owns_below OY4.out bb5.out)
          have BX5 := hid (BY4.out.trans (bb5.out.mono BY4.out.size))
          clear hox hb
          go_wp2_with (at_builtin; refine wpList_append_ops2 rfl (.tmp 121) (.tmp 126) rfl w3.heap.size _ ((((((writtenL P.F.f P.F.g P.F.n ++ flushL P.L.f P.L.n) ++ [(⟨3, 0, 0⟩ : Op3)]) ++ (writtenL (fun j => slotAt i s + 8 + j) (fun j => (bodyF P.R.f P.R.g j : Nat)) (2 * P.R.n))) ++ (writtenL (fun _ => slotAt i s) (fun _ => ((commitN P.R.f P.R.g P.R.n : Nat) : Int)) 1)) ++ [(⟨4, 0, 0⟩ : Op3)]) ++ (writtenL P.R.f P.R.g P.R.n)) rfl OX5.out BX5.out.size _ (writtenL (fun _ => slotAt i s) (fun _ => 0) 1) rfl AX5.out (by (try simp only [List.length_append]); (try simp only [List.length_cons]); (try simp only [List.length_nil]); (try rw [N9.out]); (try have := N8.out); (try have := HR.out); (try have := HL.out); omega) (by (try simp only [List.length_append]); (try simp only [List.length_cons]); (try simp only [List.length_nil]); (try rw [N9.out]); (try have := N8.out); (try have := HR.out); (try have := HL.out); omega) ?_; intro vy5 wy5 ho' hb' _; have OY5 := hid ho'; have BY5 := hid (BX5.out.trans hb'); clear ho' hb'; have pz5 : wy5.cell? ⟨w.heap.size + 1, 5, none⟩ = some (.slice P.D.A P.D.n P.D.c) := (BY5.out.cell (p := ⟨w.heap.size + 1, 5, none⟩) Z3.out).trans C3.out.2.2.2)
          refine (rstores_any P.D.A P.D.n P.D.c P.D.f P.D.g _ (by omega) (pairs_below HP3.out.2.2.2 BY5.out)).mono ?_
          rintro e wz ⟨vz, rfl, ho', hb'⟩
          have AZ := hid (ops_of_own N8.out.symm ho')
          have OZ := hid (owns_below OY5.out hb')
          have BZ := hid (BY5.out.trans (hb'.mono BY5.out.size))
          clear ho' hb' pz5
          go_wp2_with (at_builtin; refine wpList_append_ops2 rfl (.tmp 128) (.tmp 131) rfl w3.heap.size _ (((((((writtenL P.F.f P.F.g P.F.n ++ flushL P.L.f P.L.n) ++ [(⟨3, 0, 0⟩ : Op3)]) ++ (writtenL (fun j => slotAt i s + 8 + j) (fun j => (bodyF P.R.f P.R.g j : Nat)) (2 * P.R.n))) ++ (writtenL (fun _ => slotAt i s) (fun _ => ((commitN P.R.f P.R.g P.R.n : Nat) : Int)) 1)) ++ [(⟨4, 0, 0⟩ : Op3)]) ++ (writtenL P.R.f P.R.g P.R.n)) ++ (writtenL (fun _ => slotAt i s) (fun _ => 0) 1)) rfl OZ.out BZ.out.size _ _ rfl AZ.out (by (try simp only [List.length_append]); (try simp only [List.length_cons]); (try simp only [List.length_nil]); (try rw [N9.out]); (try have := N8.out); (try have := HR.out); (try have := HL.out); omega) (by have := N8.out; omega) ?_; intro v8 w8 ho' hb' _; have O8 := hid ho'; have B8 := hid (BZ.out.trans hb'); clear ho' hb')
          go_ret2
          refine ⟨_, rfl, ?_, B3.out.trans (B8.out.mono B3.out.size)⟩
          have e := ops_of_own rfl O8.out
          unfold stepsL
          rw [show linesL P.L.f P.L.n = flushL P.L.f P.L.n ++ [⟨3, 0, 0⟩] by unfold linesL; rw [if_neg (by have := HL.out; omega)]]
          unfold redoL
          rw [if_neg (by have := HR.out; omega), if_neg (by have := HR.out; omega)]
          simpa using e
theorem rsteps_yes (p i b s : Int) (P : PlanD) (w : World) (hsm : P.small) (hp : PlanAt w P) (hv : errE p i b s P = 0) (hg : ∀ k, k < P.R.n → 0 ≤ P.R.g k ∧ P.R.g k < 18446744073709551616) :
    Calls Try.prog 11 #[.agg #[.int .i64 p, .int .i64 i, .int .i64 b], .int .i64 s, .agg #[.int .i64 P.err, .int .i64 P.ino, .slice P.F.A P.F.n P.F.c, .slice P.L.A P.L.n P.L.c, .slice P.R.A P.R.n P.R.c, .slice P.D.A P.D.n P.D.c]] w fun e w' => ∃ v, e = .returned (.tuple #[v, .int .i64 0]) ∧ OpsAt w' v (stepsL (slotAt i s) P) ∧ Below w.heap.size w w' := by
  by_cases hL : P.L.n = 0
  · by_cases hR : P.R.n = 0
    · exact rsteps_00 p i b s P w hsm hp hv hg hL hR
    · exact rsteps_01 p i b s P w hsm hp hv hg hL (by omega)
  · by_cases hR : P.R.n = 0
    · exact rsteps_10 p i b s P w hsm hp hv hg (by omega) hR
    · exact rsteps_11 p i b s P w hsm hp hv hg (by omega) (by omega)
end Go.Proofs.Ytimfnimcmfjjpaa
