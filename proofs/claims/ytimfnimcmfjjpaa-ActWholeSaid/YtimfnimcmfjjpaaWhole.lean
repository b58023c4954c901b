/- whole: the walk. What is there in the end is told as it is. -/
import Derived.Test.YtimfnimcmfjjpaaRApply
import Derived.Deep.RegionHeld3
import Derived.Deep.DeepCutAuto
import Derived.Deep.CutBlock
import Derived.Maps.RangeWalk
namespace Go.Proofs.Ytimfnimcmfjjpaa
open Go.RowKit Go.Maps
theorem last_of (f : Nat → Int) (x : Int) : ∀ m, (∃ j, j < m ∧ f j = x) → ∃ j, j < m ∧ f j = x ∧ ∀ i, j < i → i < m → f i ≠ f j
  | 0, ⟨j, hj, _⟩ => absurd hj (Nat.not_lt_zero _)
  | m + 1, ⟨j, hj, e⟩ => by
    by_cases hm : f m = x
    · exact ⟨m, by omega, hm, fun i h1 h2 => by omega⟩
    · have hjm : j ≠ m := fun e' => hm (e' ▸ e)
      obtain ⟨j', h1, h2, h3⟩ := last_of f x m ⟨j, by omega, e⟩
      refine ⟨j', by omega, h2, fun i hi hi2 => ?_⟩
      by_cases him : i = m
      · subst him; rw [h2]; exact hm
      · exact h3 i hi (by omega)
/-- An entry of a list's map: a place that the list names, and what it says last of it. -/
theorem MapOf.entryX {D : DataW Unit} {f g : Nat → Int} {m : Nat} {x c : Int} {z : DataW Unit} (h : MapOf D f g m) (hx : has D (.int .i64 x) = true) (hat : D.atKey (.int .i64 x) z = .lit (.int .u64 c)) :
    ∃ j, j < m ∧ f j = x ∧ (∀ i, j < i → i < m → f i ≠ f j) ∧ c = g j := by
  obtain ⟨j, h1, h2, h3⟩ := last_of f x m ((h.2.1 x).1 hx)
  refine ⟨j, h1, h2, h3, ?_⟩
  have := h.2.2 j h1 h3 z
  rw [h2, hat] at this
  simpa using this
theorem ranges_drewN {w : World} {k e : TypeId} {b r n cnt : Nat} {D : DataW Unit} {left : Lit → Bool} (h : w.ranges Try.prog k (plainElem Try.prog e) b r n D left cnt) (j : Nat) : (w.drewN j).ranges Try.prog k (plainElem Try.prog e) b r n D left cnt := h
theorem KeptAt.word {w : World} {b n x : Nat} {K : Nat → Int} (h : KeptAt w b n K) (hx : x < n) : w.cell? ⟨b, x, none⟩ = some (.int .u64 (K x)) := by
  obtain ⟨cap, F, h1, h2, h3⟩ := h
  exact (h2.cell (by omega)).trans (by rw [h3 x hx])
set_option maxHeartbeats 16000000 in
set_option maxRecDepth 100000 in
theorem whole_any (P : PlanD) (a n bw cw bf cf : Nat) (sh : Bool) (K fw : Nat → Int) (w : World) (hsm : P.small) (hl : LowP P) (hp : PlanAt w P) (hw : P.wf) (hg : Wf2 P.F.n P.F.g ∧ Wf2 P.D.n P.D.g) (hin : InP P n) (hn : n ≤ 32768) (ha : a + 136 ≤ n)
    (hk : KeptAt w bw n K) (hf : KeptAt w bf n fw) (hW : WholeOk P a K fw sh) :
    Calls Try.prog 23 #[.agg #[.int .i64 P.err, .int .i64 P.ino, .slice P.F.A P.F.n P.F.c, .slice P.L.A P.L.n P.L.c, .slice P.R.A P.R.n P.R.c, .slice P.D.A P.D.n P.D.c], .int .i64 (a : Int), .slice (some ⟨bw, 0, none⟩) n cw, .slice (some ⟨bf, 0, none⟩) n cf, .bool sh] w fun e w' => e = .returned (.bool true) ∧ Below w.heap.size w w' := by
  have Hsm := hid hsm
  have HL := hid hl
  have HP := hid hp
  have HWr := hid hw
  have HG := hid hg
  have HIn := hid hin
  have HKw := hid hk
  have HFw := hid hf
  have HW := hid hW
  clear hsm hl hp hw hg hin hk hf hW
  have hsz : w.heap.size < (w.alloc (.cells #[.int .i64 P.err, .int .i64 P.ino, .slice P.F.A P.F.n P.F.c, .slice P.L.A P.L.n P.L.c, .slice P.R.A P.R.n P.R.c, .slice P.D.A P.D.n P.D.c] 28)).heap.size := by simp
  have b0 := hid (show Below w.heap.size w (w.alloc (.cells #[.int .i64 P.err, .int .i64 P.ino, .slice P.F.A P.F.n P.F.c, .slice P.L.A P.L.n P.L.c, .slice P.R.A P.R.n P.R.c, .slice P.D.A P.D.n P.D.c] 28)) from (Below.refl _ _).alloc (Nat.le_refl _) _)
  have c0 := hid (show (w.alloc (.cells #[.int .i64 P.err, .int .i64 P.ino, .slice P.F.A P.F.n P.F.c, .slice P.L.A P.L.n P.L.c, .slice P.R.A P.R.n P.R.c, .slice P.D.A P.D.n P.D.c] 28)).cell? ⟨w.heap.size, 2, none⟩ = some (.slice P.F.A P.F.n P.F.c) ∧ (w.alloc (.cells #[.int .i64 P.err, .int .i64 P.ino, .slice P.F.A P.F.n P.F.c, .slice P.L.A P.L.n P.L.c, .slice P.R.A P.R.n P.R.c, .slice P.D.A P.D.n P.D.c] 28)).cell? ⟨w.heap.size, 4, none⟩ = some (.slice P.R.A P.R.n P.R.c) ∧ (w.alloc (.cells #[.int .i64 P.err, .int .i64 P.ino, .slice P.F.A P.F.n P.F.c, .slice P.L.A P.L.n P.L.c, .slice P.R.A P.R.n P.R.c, .slice P.D.A P.D.n P.D.c] 28)).cell? ⟨w.heap.size, 5, none⟩ = some (.slice P.D.A P.D.n P.D.c) from ⟨by simp, by simp, by simp⟩)
  go_enter Try.func23, Try.ntmps23
  go_upto_region 3 with fail
  generalize (w.alloc (Obj.cells #[.int .i64 P.err, .int .i64 P.ino, .slice P.F.A P.F.n P.F.c, .slice P.L.A P.L.n P.L.c, .slice P.R.A P.R.n P.R.c, .slice P.D.A P.D.n P.D.c] 28)) = w1 at hsz b0 c0 ⊢
  have C := c0
  have Z := hid hsz
  have HPc := hid (HP.out.below b0.out)
  have Bc := hid (Below.refl w1.heap.size w1)
  have Z1 := hid hsz
  clear hsz
  go_cut [11, 12, 13] (fun v11 v12 v13 wx => ∃ bF bR bD DF DR DD, v11 = .map (some bF) ∧ v12 = .map (some bR) ∧ v13 = .map (some bD) ∧ MapAt wx bF P.F DF ∧ MapAt wx bR P.R DR ∧ MapAt wx bD P.D DD ∧ Below w1.heap.size w1 wx)
  case first =>
    have k2 := C.out.1
    have k4 := C.out.2.1
    have k5 := C.out.2.2
    go_region_held3 (fun w' => w'.cell? ⟨w.heap.size, 2, none⟩ = some (.slice P.F.A P.F.n P.F.c) ∧ w'.cell? ⟨w.heap.size, 4, none⟩ = some (.slice P.R.A P.R.n P.R.c) ∧ w'.cell? ⟨w.heap.size, 5, none⟩ = some (.slice P.D.A P.D.n P.D.c)) (first | exact C.out | go_keep)
      (first
        | (go_at_call_of 24 (Value.slice P.F.A P.F.n P.F.c); refine (of_any P.F.A P.F.n P.F.c P.F.f P.F.g _ Hsm.out.1 ?_ (far_low HL.out.1) HG.out.1).mono ?_; (exact HPc.out.1); rintro e w' ⟨DF, rfl, hown, hmap, hb⟩; (first | (replace hb := undrew hb) | skip); (first | (replace hb := undrew hb) | skip); have C := hid (show w'.cell? ⟨w.heap.size, 2, none⟩ = some (.slice P.F.A P.F.n P.F.c) ∧ w'.cell? ⟨w.heap.size, 4, none⟩ = some (.slice P.R.A P.R.n P.R.c) ∧ w'.cell? ⟨w.heap.size, 5, none⟩ = some (.slice P.D.A P.D.n P.D.c) from ⟨(hb.cell (p := ⟨w.heap.size, 2, none⟩) Z.out).trans C.out.1, (hb.cell (p := ⟨w.heap.size, 4, none⟩) Z.out).trans C.out.2.1, (hb.cell (p := ⟨w.heap.size, 5, none⟩) Z.out).trans C.out.2.2⟩); have Z := hid (show w.heap.size < w'.heap.size from Nat.lt_of_lt_of_le Z.out hb.size); have HPc := hid (HPc.out.below hb); have Bc := hid (Bc.out.trans (hb.mono Bc.out.size)); (try (have KF := hid (KF.out.below hb))); (try (have KR := hid (KR.out.below hb))); (try (have KD := hid (KD.out.below hb))); have KF := hid (show MapAt w' _ P.F DF from ⟨hown, hmap⟩); clear hb hown hmap)
        | (go_at_call_of 24 (Value.slice P.R.A P.R.n P.R.c); refine (of_any P.R.A P.R.n P.R.c P.R.f P.R.g _ Hsm.out.2.2.1 ?_ (far_low HL.out.2.1) HWr.out).mono ?_; (exact HPc.out.2.2.1); rintro e w' ⟨DR, rfl, hown, hmap, hb⟩; (first | (replace hb := undrew hb) | skip); (first | (replace hb := undrew hb) | skip); have C := hid (show w'.cell? ⟨w.heap.size, 2, none⟩ = some (.slice P.F.A P.F.n P.F.c) ∧ w'.cell? ⟨w.heap.size, 4, none⟩ = some (.slice P.R.A P.R.n P.R.c) ∧ w'.cell? ⟨w.heap.size, 5, none⟩ = some (.slice P.D.A P.D.n P.D.c) from ⟨(hb.cell (p := ⟨w.heap.size, 2, none⟩) Z.out).trans C.out.1, (hb.cell (p := ⟨w.heap.size, 4, none⟩) Z.out).trans C.out.2.1, (hb.cell (p := ⟨w.heap.size, 5, none⟩) Z.out).trans C.out.2.2⟩); have Z := hid (show w.heap.size < w'.heap.size from Nat.lt_of_lt_of_le Z.out hb.size); have HPc := hid (HPc.out.below hb); have Bc := hid (Bc.out.trans (hb.mono Bc.out.size)); (try (have KF := hid (KF.out.below hb))); (try (have KR := hid (KR.out.below hb))); (try (have KD := hid (KD.out.below hb))); have KR := hid (show MapAt w' _ P.R DR from ⟨hown, hmap⟩); clear hb hown hmap)
        | (go_at_call_of 24 (Value.slice P.D.A P.D.n P.D.c); refine (of_any P.D.A P.D.n P.D.c P.D.f P.D.g _ Hsm.out.2.2.2 ?_ (far_low HL.out.2.2.1) HG.out.2).mono ?_; (exact HPc.out.2.2.2); rintro e w' ⟨DD, rfl, hown, hmap, hb⟩; (first | (replace hb := undrew hb) | skip); (first | (replace hb := undrew hb) | skip); have C := hid (show w'.cell? ⟨w.heap.size, 2, none⟩ = some (.slice P.F.A P.F.n P.F.c) ∧ w'.cell? ⟨w.heap.size, 4, none⟩ = some (.slice P.R.A P.R.n P.R.c) ∧ w'.cell? ⟨w.heap.size, 5, none⟩ = some (.slice P.D.A P.D.n P.D.c) from ⟨(hb.cell (p := ⟨w.heap.size, 2, none⟩) Z.out).trans C.out.1, (hb.cell (p := ⟨w.heap.size, 4, none⟩) Z.out).trans C.out.2.1, (hb.cell (p := ⟨w.heap.size, 5, none⟩) Z.out).trans C.out.2.2⟩); have Z := hid (show w.heap.size < w'.heap.size from Nat.lt_of_lt_of_le Z.out hb.size); have HPc := hid (HPc.out.below hb); have Bc := hid (Bc.out.trans (hb.mono Bc.out.size)); (try (have KF := hid (KF.out.below hb))); (try (have KR := hid (KR.out.below hb))); (try (have KD := hid (KD.out.below hb))); have KD := hid (show MapAt w' _ P.D DD from ⟨hown, hmap⟩); clear hb hown hmap))
    all_goals (go_wp2_with fail; go_meet; exact ⟨_, _, _, _, _, _, rfl, rfl, rfl, KF.out, KR.out, KD.out, Bc.out⟩)
  case rest =>
    obtain ⟨bF, bR, bD, DF, DR, DD, rfl, rfl, rfl, hF, hR, hD, hb⟩ := hcut
    have KF := hid hF
    have KR := hid hR
    have KD := hid hD
    have BC := hid (b0.out.trans (hb.mono b0.out.size))
    have ZC : Hid (w.heap.size < wc.heap.size) := Nat.lt_of_lt_of_le Z1.out hb.size
    have CC := hid (show wc.cell? ⟨w.heap.size, 5, none⟩ = some (.slice P.D.A P.D.n P.D.c) from (hb.cell (p := ⟨w.heap.size, 5, none⟩) Z1.out).trans c0.out.2.2)
    have HKc := hid (HKw.out.below BC.out)
    have HFc := hid (HFw.out.below BC.out)
    clear hF hR hD hb
    have BX1 := hid (Below.refl wc.heap.size wc)
    go_upto_block 0 with (at_range; refine wpList_range_own _ rfl _ 66 rfl 3 51 law3 Try.underlying66 _ bR P.R.n DR rfl KR.out.1 ?_; intro w0 hrg0 hg0 hs0)
    go_frame
    have HB01 := hid (BX1.out.grown hg0 BX1.out.size (fun j hj => by cases hj))
    obtain ⟨r1, hr⟩ : ∃ r, r = wc.heap.size := ⟨_, rfl⟩
    rw [← hr] at hrg0 ⊢
    have Hr1 := hid (show wc.heap.size ≤ r1 by rw [hr]; exact BX1.out.size)
    have Hrg01 := hid hrg0
    clear hrg0 hg0 hs0 hr
    go_cut [14, 15] (fun o f wx => ((o = .bool true ∧ (∃ z, f = .bool z) ∧ sh = false ∧ ∀ x : Nat, Memb P.R x → fw x = K x) ∨ ((∃ z, o = .bool z) ∧ f = .bool true ∧ Fin P.F fw)) ∧ Below wc.heap.size wc wx)
    case first =>
      rcases HW.out.2 with ⟨hsh, hro⟩ | ⟨hff, hrf⟩
      · as_aux_lemma =>
          have HSh := hid hsh
          have HRO := hid hro
          clear hsh hro
          go_wp2_with fail
          go_loopw [14, 15, 16, 17] (fun o f _ _ wx => ∃ (left : Lit → Bool) (cnt : Nat), wx.ranges Try.prog 3 (plainElem Try.prog 51) bR r1 P.R.n DR left cnt ∧ (∀ kl, left kl = true → has DR kl = true) ∧ Below wc.heap.size wc wx ∧ o = .bool true ∧ ∃ z, f = .bool z) (fun _ _ _ _ wx => wx.rangeLeft bR r1)
          case atStart => exact ⟨_, _, Hrg01.out, fun _ h => h, HB01.out, rfl, ⟨_, rfl⟩⟩
          case round =>
            obtain ⟨left, cnt, hrg, hlf, hbx, rfl, ⟨z, rfl⟩⟩ := hrel
            have Hrg := hid hrg
            have Hlf := hid hlf
            have Hbx := hid hbx
            clear hrg hlf hbx
            go_wp2_with (first
              | (at_next; refine wpList_next_ranges_ii _ rfl _ rfl 3 51 .i64 .u64 law3 Try.underlying3 Try.underlying51 bR r1 P.R.n _ _ _ rfl Hrg.out ?_ ?_)
              | fail)
            · intro _ _
              go_wp2_with fail
              go_meet
              exact ⟨.inl ⟨rfl, ⟨_, rfl⟩, HSh.out, HRO.out⟩, Hbx.out⟩
            · intro x cv w1x cnt1 hwx hwc hlx hat hrg1 hlt1 hg1 hs1 hen
              obtain ⟨j, hj, hjx, hjl, rfl⟩ := KR.out.2.entryX (Hlf.out _ hlx) (hat (.lit (.int .u64 0)))
              have hjn := HIn.out.2.1 j hj
              rw [hjx] at hjn
              obtain ⟨xn, rfl⟩ := Int.eq_ofNat_of_zero_le hjn.1
              have Hbx1 := hid (Hbx.out.grown hg1 Hbx.out.size (fun j hj => by cases hj; exact Hr1.out))
              have Hrg1 := hid hrg1
              have Hlt1 := hid hlt1
              have xn1 : (xn : Int) < (n : Int) := hjn.2
              have xn0 : (0 : Int) ≤ (xn : Int) := hjn.1
              have e0 := (HFc.out.below Hbx1.out).word (show xn < n by omega)
              have k0 := (HKc.out.below Hbx1.out).word (show xn < n by omega)
              have hmem : Memb P.R (xn : Int) := ⟨j, hj, hjx⟩
              rw [HRO.out xn hmem] at e0
              clear hwx hwc hlx hat hrg1 hlt1 hg1 hs1 hjn hjx hjl hmem
              cases z
              · as_aux_lemma =>
                  go_upto_region 8 with fail
                  go_quiet (fail)
                  go_wp2
                  go_roundw
                  case rel => exact ⟨_, _, ranges_drewN Hrg1.out _, fun kl h => Hlf.out kl (by
                    have h' := h
                    rw [Bool.and_eq_true] at h'
                    exact h'.1), below_drewN Hbx1.out _, rfl, ⟨_, rfl⟩⟩
                  case measure => rw [(ranges_drewN Hrg1.out _).left_eq, Hrg.out.left_eq]; exact Hlt1.out
              · as_aux_lemma =>
                  go_upto_region 8 with fail
                  go_quiet (fail)
                  go_wp2
                  go_roundw
                  case rel => exact ⟨_, _, ranges_drewN Hrg1.out _, fun kl h => Hlf.out kl (by
                    have h' := h
                    rw [Bool.and_eq_true] at h'
                    exact h'.1), below_drewN Hbx1.out _, rfl, ⟨_, rfl⟩⟩
                  case measure => rw [(ranges_drewN Hrg1.out _).left_eq, Hrg.out.left_eq]; exact Hlt1.out
      · as_aux_lemma =>
          have HFF := hid hff
          have HRF := hid hrf
          clear hff hrf
          go_wp2_with fail
          go_loopw [14, 15, 16, 17] (fun o f _ _ wx => ∃ (left : Lit → Bool) (cnt : Nat), wx.ranges Try.prog 3 (plainElem Try.prog 51) bR r1 P.R.n DR left cnt ∧ (∀ kl, left kl = true → has DR kl = true) ∧ Below wc.heap.size wc wx ∧ f = .bool true ∧ ∃ z, o = .bool z) (fun _ _ _ _ wx => wx.rangeLeft bR r1)
          case atStart => exact ⟨_, _, Hrg01.out, fun _ h => h, HB01.out, rfl, ⟨_, rfl⟩⟩
          case round =>
            obtain ⟨left, cnt, hrg, hlf, hbx, rfl, ⟨z, rfl⟩⟩ := hrel
            have Hrg := hid hrg
            have Hlf := hid hlf
            have Hbx := hid hbx
            clear hrg hlf hbx
            go_wp2_with (first
              | (at_next; refine wpList_next_ranges_ii _ rfl _ rfl 3 51 .i64 .u64 law3 Try.underlying3 Try.underlying51 bR r1 P.R.n _ _ _ rfl Hrg.out ?_ ?_)
              | fail)
            · intro _ _
              go_wp2_with fail
              go_meet
              exact ⟨.inr ⟨⟨_, rfl⟩, rfl, HFF.out⟩, Hbx.out⟩
            · intro x cv w1x cnt1 hwx hwc hlx hat hrg1 hlt1 hg1 hs1 hen
              obtain ⟨j, hj, hjx, hjl, rfl⟩ := KR.out.2.entryX (Hlf.out _ hlx) (hat (.lit (.int .u64 0)))
              have hjn := HIn.out.2.1 j hj
              rw [hjx] at hjn
              obtain ⟨xn, rfl⟩ := Int.eq_ofNat_of_zero_le hjn.1
              have Hbx1 := hid (Hbx.out.grown hg1 Hbx.out.size (fun j hj => by cases hj; exact Hr1.out))
              have Hrg1 := hid hrg1
              have Hlt1 := hid hlt1
              have xn1 : (xn : Int) < (n : Int) := hjn.2
              have xn0 : (0 : Int) ≤ (xn : Int) := hjn.1
              have e0 := (HFc.out.below Hbx1.out).word (show xn < n by omega)
              have k0 := (HKc.out.below Hbx1.out).word (show xn < n by omega)
              have hmem : Memb P.R (xn : Int) := ⟨j, hj, hjx⟩
              rw [HRF.out j xn hj hjx hjl] at e0
              clear hwx hwc hlx hat hrg1 hlt1 hg1 hs1 hjn hjx hjl hmem
              cases z
              · as_aux_lemma =>
                  go_upto_region 8 with fail
                  go_quiet (fail)
                  go_wp2
                  go_roundw
                  case rel => exact ⟨_, _, ranges_drewN Hrg1.out _, fun kl h => Hlf.out kl (by
                    have h' := h
                    rw [Bool.and_eq_true] at h'
                    exact h'.1), below_drewN Hbx1.out _, rfl, ⟨_, rfl⟩⟩
                  case measure => rw [(ranges_drewN Hrg1.out _).left_eq, Hrg.out.left_eq]; exact Hlt1.out
              · as_aux_lemma =>
                  go_upto_region 8 with fail
                  go_quiet (fail)
                  go_wp2
                  go_roundw
                  case rel => exact ⟨_, _, ranges_drewN Hrg1.out _, fun kl h => Hlf.out kl (by
                    have h' := h
                    rw [Bool.and_eq_true] at h'
                    exact h'.1), below_drewN Hbx1.out _, rfl, ⟨_, rfl⟩⟩
                  case measure => rw [(ranges_drewN Hrg1.out _).left_eq, Hrg.out.left_eq]; exact Hlt1.out
    case rest =>
      rename World => w2
      obtain ⟨hcase, hb⟩ := hcut
      have HCase := hid hcase
      have B2 := hid hb
      clear hcase hb
      go_upto_region 10 with fail
      go_cut [85] (fun v wx => v = .bool false ∧ wx = w2)
      case first => as_aux_lemma =>
        rcases HCase.out with ⟨rfl, ⟨z, rfl⟩, rfl, -⟩ | ⟨⟨z, rfl⟩, rfl, -⟩
        · cases z
          · go_wp2_with fail
            go_meet
            exact ⟨rfl, rfl⟩
          · go_wp2_with fail
            go_meet
            exact ⟨rfl, rfl⟩
        · cases z
          · cases sh
            · go_wp2_with fail
              go_meet
              exact ⟨rfl, rfl⟩
            · go_wp2_with fail
              go_meet
              exact ⟨rfl, rfl⟩
          · cases sh
            · go_wp2_with fail
              go_meet
              exact ⟨rfl, rfl⟩
            · go_wp2_with fail
              go_meet
              exact ⟨rfl, rfl⟩
      case rest =>
        rename World => w3
        obtain ⟨rfl, hw3⟩ := hcut
        subst hw3
        have BX2 := hid (show Below wc.heap.size wc w3 from B2.out)
        go_upto_block 2 with (at_range; refine wpList_range_own _ rfl _ 66 rfl 3 51 law3 Try.underlying66 _ bF P.F.n DF rfl (KF.out.below BX2.out).1 ?_; intro w0 hrg0 hg0 hs0)
        go_frame
        have HB02 := hid (BX2.out.grown hg0 BX2.out.size (fun j hj => by cases hj))
        obtain ⟨r2, hr⟩ : ∃ r, r = w3.heap.size := ⟨_, rfl⟩
        rw [← hr] at hrg0 ⊢
        have Hr2 := hid (show wc.heap.size ≤ r2 by rw [hr]; exact BX2.out.size)
        have Hrg02 := hid hrg0
        clear hrg0 hg0 hs0 hr
        go_cut [] (fun wx => Below wc.heap.size wc wx)
        case first =>
          rcases HCase.out with ⟨rfl, ⟨z, rfl⟩, rfl, -⟩ | ⟨⟨z, rfl⟩, rfl, hff⟩
          · as_aux_lemma =>
              go_wp2_with fail
              go_loopw [18, 19] (fun _ _ wx => ∃ (left : Lit → Bool) (cnt : Nat), wx.ranges Try.prog 3 (plainElem Try.prog 51) bF r2 P.F.n DF left cnt ∧ (∀ kl, left kl = true → has DF kl = true) ∧ Below wc.heap.size wc wx) (fun _ _ wx => wx.rangeLeft bF r2)
              case atStart => exact ⟨_, _, Hrg02.out, fun _ h => h, HB02.out⟩
              case round =>
                obtain ⟨left, cnt, hrg, hlf, hbx⟩ := hrel
                have Hrg := hid hrg
                have Hlf := hid hlf
                have Hbx := hid hbx
                clear hrg hlf hbx
                go_wp2_with (first
                  | (at_next; refine wpList_next_ranges_ii _ rfl _ rfl 3 51 .i64 .u64 law3 Try.underlying3 Try.underlying51 bF r2 P.F.n _ _ _ rfl Hrg.out ?_ ?_)
                  | fail)
                · intro _ _
                  go_wp2_with fail
                  go_meet
                  exact Hbx.out
                · intro x cv w1x cnt1 hwx hwc hlx hat hrg1 hlt1 hg1 hs1 hen
                  obtain ⟨j, hj, hjx, hjl, rfl⟩ := KF.out.2.entryX (Hlf.out _ hlx) (hat (.lit (.int .u64 0)))
                  have hjn := HIn.out.1 j hj
                  rw [hjx] at hjn
                  obtain ⟨xn, rfl⟩ := Int.eq_ofNat_of_zero_le hjn.1
                  have Hbx1 := hid (Hbx.out.grown hg1 Hbx.out.size (fun j hj => by cases hj; exact Hr2.out))
                  have Hrg1 := hid hrg1
                  have Hlt1 := hid hlt1
                  have xn1 : (xn : Int) < (n : Int) := hjn.2
                  have xn0 : (0 : Int) ≤ (xn : Int) := hjn.1
                  have e0 := (HFc.out.below Hbx1.out).word (show xn < n by omega)
                  have k0 := (HKc.out.below Hbx1.out).word (show xn < n by omega)
                  have hmem : Memb P.F (xn : Int) := ⟨j, hj, hjx⟩
                  clear hwx hwc hlx hat hrg1 hlt1 hg1 hs1 hjn hjx hjl hmem
                  go_wp2
                  go_roundw
                  case rel => exact ⟨_, _, Hrg1.out, fun kl h => Hlf.out kl (by
                    have h' := h
                    rw [Bool.and_eq_true] at h'
                    exact h'.1), Hbx1.out⟩
                  case measure => rw [Hrg1.out.left_eq, Hrg.out.left_eq]; exact Hlt1.out
          · have HFF := hid hff
            clear hff
            go_wp2_with fail
            go_loopw [18, 19] (fun _ _ wx => ∃ (left : Lit → Bool) (cnt : Nat), wx.ranges Try.prog 3 (plainElem Try.prog 51) bF r2 P.F.n DF left cnt ∧ (∀ kl, left kl = true → has DF kl = true) ∧ Below wc.heap.size wc wx) (fun _ _ wx => wx.rangeLeft bF r2)
            case atStart => exact ⟨_, _, Hrg02.out, fun _ h => h, HB02.out⟩
            case round =>
              obtain ⟨left, cnt, hrg, hlf, hbx⟩ := hrel
              have Hrg := hid hrg
              have Hlf := hid hlf
              have Hbx := hid hbx
              clear hrg hlf hbx
              go_wp2_with (first
                | (at_next; refine wpList_next_ranges_ii _ rfl _ rfl 3 51 .i64 .u64 law3 Try.underlying3 Try.underlying51 bF r2 P.F.n _ _ _ rfl Hrg.out ?_ ?_)
                | fail)
              · intro _ _
                go_wp2_with fail
                go_meet
                exact Hbx.out
              · intro x cv w1x cnt1 hwx hwc hlx hat hrg1 hlt1 hg1 hs1 hen
                obtain ⟨j, hj, hjx, hjl, rfl⟩ := KF.out.2.entryX (Hlf.out _ hlx) (hat (.lit (.int .u64 0)))
                have hjn := HIn.out.1 j hj
                rw [hjx] at hjn
                obtain ⟨xn, rfl⟩ := Int.eq_ofNat_of_zero_le hjn.1
                have Hbx1 := hid (Hbx.out.grown hg1 Hbx.out.size (fun j hj => by cases hj; exact Hr2.out))
                have Hrg1 := hid hrg1
                have Hlt1 := hid hlt1
                have xn1 : (xn : Int) < (n : Int) := hjn.2
                have xn0 : (0 : Int) ≤ (xn : Int) := hjn.1
                have e0 := (HFc.out.below Hbx1.out).word (show xn < n by omega)
                have k0 := (HKc.out.below Hbx1.out).word (show xn < n by omega)
                have hmem : Memb P.F (xn : Int) := ⟨j, hj, hjx⟩
                rw [HFF.out j xn hj hjx hjl] at e0
                clear hwx hwc hlx hat hrg1 hlt1 hg1 hs1 hjn hjx hjl hmem
                go_upto_region 15 with fail
                go_cut [105] (fun v wx => v = .bool false ∧ wx = w1x)
                case first =>
                  cases z
                  · cases sh
                    · as_aux_lemma =>
                        go_wp2_with fail
                        go_meet
                        exact ⟨rfl, rfl⟩
                    · as_aux_lemma =>
                        go_wp2_with fail
                        go_meet
                        exact ⟨rfl, rfl⟩
                  · cases sh
                    · as_aux_lemma =>
                        go_wp2_with fail
                        go_meet
                        exact ⟨rfl, rfl⟩
                    · as_aux_lemma =>
                        go_wp2_with fail
                        go_meet
                        exact ⟨rfl, rfl⟩
                case rest =>
                  rename World => w1y
                  obtain ⟨rfl, hy⟩ := hcut
                  subst hy
                  go_wp2
                  go_roundw
                  case rel => exact ⟨_, _, Hrg1.out, fun kl h => Hlf.out kl (by
                    have h' := h
                    rw [Bool.and_eq_true] at h'
                    exact h'.1), Hbx1.out⟩
                  case measure => rw [Hrg1.out.left_eq, Hrg.out.left_eq]; exact Hlt1.out
        case rest =>
          rename World => w4
          have B4 := hid hcut
          clear hcut
          go_wp2_with fail
          go_loopw [20, 21, 22, 23, 24, 25, 26] (fun v _ _ _ _ _ _ wr => ∃ k : Nat, k ≤ n ∧ v = .int .i64 k ∧ Below wc.heap.size wc wr) (fun v _ _ _ _ _ _ _ => n - (intOf v).toNat)
          case atStart => exact ⟨0, by omega, rfl, B4.out⟩
          case round =>
            rename World => w5
            obtain ⟨k, hk, rfl, hb⟩ := hrel
            have HBr := hid hb
            clear hb
            by_cases hlt : k < n
            · have hlt' : (k : Int) < (n : Int) := by omega
              have h0k : (0 : Int) ≤ (k : Int) := by omega
              have MF := hid (KF.out.below HBr.out)
              have MR := hid (KR.out.below HBr.out)
              have MD := hid (KD.out.below HBr.out)
              have e0 := (HFc.out.below HBr.out).word hlt
              have k0 := (HKc.out.below HBr.out).word hlt
              have hkey : keyOf Try.prog 3 (.int .i64 (k : Int)) = some (.int .i64 (k : Int)) := keyOf_int_mk Try.underlying3 (WalkArith.wf_i64 (by omega))
              have hwr : IntKind.i64.wrap ((a : Int) + 136) = (a : Int) + 136 := by rw [IntKind.wrap_i64]; omega
              go_upto_region 23 with (first
            | (at_lookup; refine wpList_lookup_own_ok_int _ rfl (.tmp 113) (.tmp 114) 66 rfl 3 51 .u64 law3 Try.underlying66 Try.underlying51 (zero51 _) bF P.F.n DF rfl MF.out.1 _ _ rfl hkey ?_; intro cF hatF hwcF; clear hatF hwcF)
            | (at_lookup; refine wpList_lookup_own_ok_int _ rfl (.tmp 119) (.tmp 120) 66 rfl 3 51 .u64 law3 Try.underlying66 Try.underlying51 (zero51 _) bR P.R.n DR rfl MR.out.1 _ _ rfl hkey ?_; intro cR hatR hwcR; clear hatR hwcR)
            | (at_lookup; refine wpList_lookup_own_ok_int _ rfl (.tmp 125) (.tmp 126) 66 rfl 3 51 .u64 law3 Try.underlying66 Try.underlying51 (zero51 _) bD P.D.n DD rfl MD.out.1 _ _ rfl hkey ?_; intro cD hatD hwcD; clear hatD hwcD))
              go_cut [22, 24, 26, 161] (fun _ _ _ v wx => v = .bool false ∧ Below wc.heap.size wc wx)
              case first => as_aux_lemma =>
                cases hF : Maps.has DF (.int .i64 (k : Int))
                · cases hR : Maps.has DR (.int .i64 (k : Int))
                  · cases hD : Maps.has DD (.int .i64 (k : Int))
                    · have hEq := hid (HW.out.1.1 k (fun hm => by rw [(MF.out.has k).2 hm] at hF; cases hF) (fun hm => by rw [(MR.out.has k).2 hm] at hR; cases hR) (fun hm => by rw [(MD.out.has k).2 hm] at hD; cases hD))
                      by_cases h1 : k < a
                      · rw [hEq.out (.inl h1)] at e0
                        have d1 : (k : Int) < (a : Int) := by omega
                        have d1' : decide ((k : Int) < (a : Int)) = true := decide_eq_true d1
                        clear hEq
                        as_aux_lemma =>
                          go_quiet (fail)
                          go_wp2_with fail
                          go_meet
                          exact ⟨rfl, below_drewN HBr.out _⟩
                      · have d1 : ¬ (k : Int) < (a : Int) := by omega
                        have d1' : decide ((k : Int) < (a : Int)) = false := decide_eq_false d1
                        by_cases h2 : a + 136 ≤ k
                        · rw [hEq.out (.inr h2)] at e0
                          have d2 : (a : Int) + 136 ≤ (k : Int) := by omega
                          have d2' : decide ((a : Int) + 136 ≤ (k : Int)) = true := decide_eq_true d2
                          clear hEq
                          as_aux_lemma =>
                            go_quiet (fail)
                            go_wp2_with fail
                            go_meet
                            exact ⟨rfl, below_drewN HBr.out _⟩
                        · have d2 : ¬ (a : Int) + 136 ≤ (k : Int) := by omega
                          have d2' : decide ((a : Int) + 136 ≤ (k : Int)) = false := decide_eq_false d2
                          clear hEq
                          as_aux_lemma =>
                            go_quiet (fail)
                            go_wp2_with fail
                            go_meet
                            exact ⟨rfl, below_drewN HBr.out _⟩
                    · as_aux_lemma =>
                        go_quiet (fail)
                        go_wp2_with fail
                        go_meet
                        exact ⟨rfl, below_drewN HBr.out _⟩
                  · as_aux_lemma =>
                      go_quiet (fail)
                      go_wp2_with fail
                      go_meet
                      exact ⟨rfl, below_drewN HBr.out _⟩
                · as_aux_lemma =>
                    go_quiet (fail)
                    go_wp2_with fail
                    go_meet
                    exact ⟨rfl, below_drewN HBr.out _⟩
              case rest =>
                rename World => w6
                obtain ⟨rfl, hb6⟩ := hcut
                have B6 := hid hb6
                clear hb6
                go_wp2
                go_roundw
                case rel => exact ⟨k + 1, by omega, by go_num, B6.out⟩
                case measure => simp [intOf]; omega
            · obtain rfl : n = k := by omega
              have hDn : P.D.n ≤ 1000 := Hsm.out.2.2.2
              go_wp2_with fail
              go_loopw [27, 28, 29, 30] (fun v _ _ _ wr => ∃ k : Nat, k ≤ P.D.n ∧ v = .int .i64 k ∧ Below wc.heap.size wc wr) (fun v _ _ _ _ => P.D.n - (intOf v).toNat)
              case atStart => exact ⟨0, by omega, rfl, HBr.out⟩
              case round =>
                rename World => w7
                obtain ⟨k, hk, rfl, hb⟩ := hrel
                have HB7 := hid hb
                have x5 := (hb.cell (p := ⟨w.heap.size, 5, none⟩) ZC.out).trans CC.out
                clear hb
                by_cases hlt : k < P.D.n
                · have hlt' : (k : Int) < (P.D.n : Int) := by omega
                  have h0k : (0 : Int) ≤ (k : Int) := by omega
                  obtain ⟨ad, hA, hadl, hc⟩ : ∃ ad, P.D.A = some ad ∧ ad.block < wc.heap.size ∧ ∀ k, k < P.D.n → wc.cell? (ad.add (k * 2)) = some (.int .i64 (P.D.f k)) ∧ wc.cell? (ad.add (k * 2 + 1)) = some (.int .u64 (P.D.g k)) := by
                    rcases (HP.out.below BC.out).2.2.2 with h0 | h1
                    · omega
                    · exact h1
                  have HAD := hid hA
                  have HADL := hid hadl
                  have HCC := hid hc
                  rw [hA] at x5
                  have c0 := (HB7.out.cell (p := ad.add (k * 2)) (by rw [block_of_add]; exact hadl)).trans (hc k hlt).1
                  have hdn := HIn.out.2.2.1 k hlt
                  have hX := hid (show ∃ x : Nat, P.D.f k = (x : Int) from ⟨(P.D.f k).toNat, by omega⟩)
                  obtain ⟨x, hx⟩ := hX.out
                  have HX := hid hx
                  rw [hx] at c0 hdn
                  have xn0 : (0 : Int) ≤ (x : Int) := by omega
                  have xn1 : (x : Int) < (n : Int) := hdn.2
                  have hxn : x < n := by omega
                  have e0 := (HFc.out.below HB7.out).word hxn
                  have k0 := (HKc.out.below HB7.out).word hxn
                  have HOr := hid (HW.out.1.2 x ⟨k, hlt, hx⟩)
                  clear hA hadl hc hdn hX hx
                  generalize hfx : fw x = fx at e0 HOr
                  generalize hkx : K x = kx at k0 HOr
                  go_wp2_with fail
                  go_loopw [29, 30] (fun b v wr => ∃ (z : Bool) (k2 : Nat), k2 ≤ P.D.n ∧ b = .bool z ∧ v = .int .i64 k2 ∧ Below wc.heap.size wc wr ∧ ((fx = kx ∨ ∃ k', k' < k2 ∧ P.D.f k' = (x : Int) ∧ P.D.g k' = fx) → z = true)) (fun _ v _ => P.D.n - (intOf v).toNat)
                  case atStart =>
                    refine ⟨_, 0, by omega, rfl, rfl, HB7.out, fun h => ?_⟩
                    rcases h with h | ⟨k', h, -⟩
                    · simp [h]
                    · omega
                  case round =>
                    rename World => w8
                    obtain ⟨z, k2, hk2, rfl, rfl, hb, hz⟩ := hrel
                    have HB8 := hid hb
                    have HZ := hid hz
                    have y5 := (hb.cell (p := ⟨w.heap.size, 5, none⟩) ZC.out).trans CC.out
                    rw [HAD.out] at y5
                    clear hb hz
                    by_cases hlt2 : k2 < P.D.n
                    · have hlt2' : (k2 : Int) < (P.D.n : Int) := by omega
                      have h0k2 : (0 : Int) ≤ (k2 : Int) := by omega
                      have b0c := (HB8.out.cell (p := ad.add (k * 2)) (by rw [block_of_add]; exact HADL.out)).trans (HCC.out k hlt).1
                      have q0 := (HB8.out.cell (p := ad.add (k2 * 2)) (by rw [block_of_add]; exact HADL.out)).trans (HCC.out k2 hlt2).1
                      have q1 := (HB8.out.cell (p := ad.add (k2 * 2 + 1)) (by rw [block_of_add]; exact HADL.out)).trans (HCC.out k2 hlt2).2
                      have q1' : w8.cell? ⟨(ad.add (k2 * 2)).block, (ad.add (k2 * 2)).off + 1, none⟩ = some (.int .u64 (P.D.g k2)) := by rw [← add_lit (ad.add (k2 * 2)) 1 (by omega), Addr.add_add]; exact q1
                      clear q1
                      rw [HX.out] at b0c
                      have HFG := hid (show ∀ y u : Int, P.D.f k2 = y → P.D.g k2 = u → (∃ k', k' < k2 + 1 ∧ P.D.f k' = (x : Int) ∧ P.D.g k' = fx) → (∃ k', k' < k2 ∧ P.D.f k' = (x : Int) ∧ P.D.g k' = fx) ∨ (y = (x : Int) ∧ u = fx) from fun y u hy hu ⟨k', h1, h2, h3⟩ => by
                        by_cases he : k' = k2
                        · subst he
                          exact .inr ⟨hy.symm.trans h2, hu.symm.trans h3⟩
                        · exact .inl ⟨k', by omega, h2, h3⟩)
                      have HFG2 := hid (HFG.out _ _ rfl rfl)
                      clear HFG
                      generalize P.D.f k2 = y at q0 HFG2
                      generalize P.D.g k2 = u at q1' HFG2
                      go_upto_block 9 with fail
                      go_cut [29] (fun b wx => (∃ z' : Bool, b = .bool z' ∧ ((fx = kx ∨ ∃ k', k' < k2 + 1 ∧ P.D.f k' = (x : Int) ∧ P.D.g k' = fx) → z' = true)) ∧ Below wc.heap.size wc wx)
                      case first =>
                        cases z
                        · have HNo := hid (show ∀ Q : Prop, (fx = kx ∨ ∃ k', k' < k2 ∧ P.D.f k' = (x : Int) ∧ P.D.g k' = fx) → Q from fun Q h => absurd (HZ.out h) (by simp))
                          by_cases hy : y = (x : Int)
                          · subst hy
                            by_cases hu : u = fx
                            · subst hu
                              as_aux_lemma =>
                                go_upto_region 33 with fail
                                go_quiet (fail)
                                go_wp2_with fail
                                go_meet
                                exact ⟨⟨true, rfl, fun _ => rfl⟩, below_drewN HB8.out _⟩
                            · have hu' : (u == fx) = false := by simpa using hu
                              as_aux_lemma =>
                                go_upto_region 33 with fail
                                go_quiet (fail)
                                go_wp2_with fail
                                go_meet
                                exact ⟨⟨false, rfl, fun h => by
                                  rcases h with h | h
                                  · exact HNo.out _ (.inl h)
                                  · rcases HFG2.out h with h | h
                                    · exact HNo.out _ (.inr h)
                                    · exact absurd h.2 hu⟩, below_drewN HB8.out _⟩
                          · have hy' : (y == (x : Int)) = false := by simpa using hy
                            as_aux_lemma =>
                              go_upto_region 33 with fail
                              go_quiet (fail)
                              go_wp2_with fail
                              go_meet
                              exact ⟨⟨false, rfl, fun h => by
                                rcases h with h | h
                                · exact HNo.out _ (.inl h)
                                · rcases HFG2.out h with h | h
                                  · exact HNo.out _ (.inr h)
                                  · exact absurd h.1 hy⟩, below_drewN HB8.out _⟩
                        · as_aux_lemma =>
                            go_upto_region 33 with fail
                            go_quiet (fail)
                            go_wp2_with fail
                            go_meet
                            exact ⟨⟨true, rfl, fun _ => rfl⟩, below_drewN HB8.out _⟩
                      case rest =>
                        rename World => w9
                        obtain ⟨⟨z', rfl, hz'⟩, hb9⟩ := hcut
                        have HZ' := hid hz'
                        have B9 := hid hb9
                        clear hz' hb9
                        go_wp2
                        go_roundw
                        case rel => exact ⟨z', k2 + 1, by omega, rfl, by go_num, B9.out, HZ'.out⟩
                        case measure => simp [intOf]; omega
                    · obtain rfl : P.D.n = k2 := by omega
                      obtain rfl : z = true := HZ.out (by
                        rcases HOr.out with h | ⟨j, h1, h2, h3⟩
                        · exact .inl h
                        · exact .inr ⟨j, h1, h2, h3⟩)
                      go_wp2
                      go_roundw
                      case rel => exact ⟨k + 1, by omega, by go_num, HB8.out⟩
                      case measure => simp [intOf]; omega
                · obtain rfl : P.D.n = k := by omega
                  go_wp2
                  go_ret
                  exact ⟨rfl, BC.out.trans (HB7.out.mono BC.out.size)⟩
end Go.Proofs.Ytimfnimcmfjjpaa
