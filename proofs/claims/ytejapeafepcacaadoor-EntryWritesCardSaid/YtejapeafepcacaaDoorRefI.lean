/- The document's answer: what words are read as, as a block: the loop. -/
import Derived.Test.YtejapeafepcacaaDoorRefH
namespace Go.Proofs.YtejapeafepcacaaDoor
open Go.RowKit
section
attribute [local irreducible] dirOf

set_option maxHeartbeats 4000000 in
set_option maxRecDepth 100000 in
theorem rread_go (ad : Addr) (cap : Nat) (f : Nat → Nat) (p i b : Int) (w : World) (h : gok p i b = true) (hlt : ad.block < w.heap.size) (hcap : 32 ≤ cap) (hf : ∀ k, f k < 18446744073709551616) (hcell : ∀ k, k < 32 → w.cell? (ad.add k) = some (.int .u64 (f k : Nat))) (hn : (f 0 % 4294967296 : Nat) ≤ b) (hh : f 0 / 4294967296 = 1145655857) (h1 : f 1 = 0) :
    Calls Tryd.prog 24 #[.slice (some ad) 32 cap, .agg #[.int .i64 p, .int .i64 i, .int .i64 b]] w fun e w' => (((∀ k, k < 10 → decB (slotAt f k) i = true) ∧ ∃ F, CellsIs F ((f 0 % 256 : Nat) : Int) (rIno f) (rKind f) (rNm f) ∧ e = .returned (.tuple #[.agg (dirOf F), .agg #[.int .i64 0, .int .i64 0]])) ∨
      ∃ k, k < 10 ∧ (∀ j, j < k → decB (slotAt f j) i = true) ∧ decB (slotAt f k) i = false ∧ e = .returned (.tuple #[.agg (dirOf zF), .agg #[.int .i64 ((2 + 3 * k : Nat) : Int), .int .i64 7]])) ∧ Below w.heap.size w w' := by
  go_enter Tryd.func24, Tryd.ntmps24
  go_wp2_with fail
  rw [zero_lit]
  refine (rgeom_any p i b _).mono ?_
  rintro e w1 ⟨rfl, hb⟩
  have hB := ((((Below.refl w.heap.size w).alloc (Nat.le_refl _) (.cells #[.int .i64 p, .int .i64 i, .int .i64 b] 25)).alloc (by simp) (.cells (dirOf zF) 41)).alloc (by simp; omega) (.cells #[.int .i64 0, .int .i64 0] 58)).trans (hb.mono (by simp; omega))
  have rZ := (row_dirOf (w.alloc (.cells #[.int .i64 p, .int .i64 i, .int .i64 b] 25)) zF).alloc (.cells #[.int .i64 0, .int .i64 0] 58)
  rw [show (w.alloc (.cells #[.int .i64 p, .int .i64 i, .int .i64 b] 25)).heap.size = w.heap.size + 1 by simp] at rZ
  have HrZ := hid (above_row hb rZ)
  have rG := ((row3 w 25 (.int .i64 p) (.int .i64 i) (.int .i64 b) (fun j => if j = 0 then .int .i64 p else if j = 1 then .int .i64 i else .int .i64 b) rfl rfl rfl).alloc (.cells (dirOf zF) 41)).alloc (.cells #[.int .i64 0, .int .i64 0] 58)
  have HrG := hid (above_row hb rG)
  have rT := row_pair ((w.alloc (.cells #[.int .i64 p, .int .i64 i, .int .i64 b] 25)).alloc (.cells (dirOf zF) 41)) 58 (.int .i64 0) (.int .i64 0) (fun _ => .int .i64 0) rfl rfl
  rw [show ((w.alloc (.cells #[.int .i64 p, .int .i64 i, .int .i64 b] 25)).alloc (.cells (dirOf zF) 41)).heap.size = w.heap.size + 2 by simp] at rT
  have HrT := hid (above_row hb rT)
  have HB := hid hB
  have hs1 : w.heap.size + 2 < w1.heap.size := by have := hb.size; simp at this; omega
  clear hb hB rZ rG rT
  have Hf := hid hf
  have Hcell := hid fun (k : Nat) (hk : k < 32) => (HB.out.cell (p := ad.add k) (by rw [block_of_add]; exact hlt)).trans (hcell k hk)
  clear hf hcell
  have c0 : w1.cell? ad = some (.int .u64 (f 0 : Nat)) := Hcell.out 0 (by omega)
  have c1 := Hcell.out 1 (by omega)
  rw [add_lit ad 1 (by omega)] at c1
  have gG := three _ _ _ _ HrG.out
  simp at gG
  have hb1 : 4 ≤ b ∧ b ≤ 255 := (gok_iff.1 h).2.2.2.2
  have hbw : IntKind.u64.wrap b = b := by rw [IntKind.wrap_u64]; omega
  have hf0 := Hf.out 0
  have hn8 : f 0 % 4294967296 = f 0 % 256 := by omega
  obtain ⟨nx, hnx⟩ : ∃ nx, nx = f 0 % 256 := ⟨_, rfl⟩
  have hnx' : ((f 0 : Int) % 256) = (nx : Nat) := by omega
  have e1 : IntKind.i64.wrap ((f 0 : Int).tmod 256) = (nx : Nat) := by rw [Int.tmod_eq_emod_of_nonneg (by omega), Go.IntWalk.i64_in _ (by omega)]; exact hnx'
  have e2 : (f 0 : Int).tmod 4294967296 = (nx : Nat) := by rw [Int.tmod_eq_emod_of_nonneg (by omega)]; omega
  have hnb : ¬ b < (nx : Int) := by omega
  have HH := hid fun W => rhead_any (nx : Int) (by omega) (by omega) W
  have hhd : headN (nx : Int) = nx + 4294967296 * 1145655857 := by unfold headN; omega
  obtain ⟨hd, hhd'⟩ : ∃ hd, hd = headN (nx : Int) := ⟨_, rfl⟩
  rw [← hhd'] at HH hhd
  have hne : ((f 0 : Int) != (hd : Int)) = false := by rw [bne_eq_false_iff_eq]; omega
  have Hnx := hid hnx
  have Hhd := hid hhd
  clear hn8 hnx hnx' hhd hhd' hn hh
  have h1' : ((f 1 : Int) != 0) = false := by rw [bne_eq_false_iff_eq]; omega
  rw [h]
  go_wp2_with fail
  refine wp_region_quiet_lit (by kernel_rfl) (by kernel_rfl) ?_
  repeat (quiet_step (fail))
  refine wpQuiet_step (fun K hK => ?_)
  go_simp
  apply Exists.intro
  refine ⟨fun _ => ?_, hK _ ?_⟩
  · refine Calls.quiet_of_same (v := .int .u64 (hd : Nat)) ?_
    refine (HH.out _).mono ?_
    rintro e w' ⟨rfl, rfl⟩
    exact ⟨rfl, rfl⟩
  clear hK K
  repeat (quiet_step (fail))
  refine wpQuiet_nil ?_
  intro _ hw'
  obtain ⟨nq, hw''⟩ := hw'
  subst hw''
  have bq := below_drewN (Below.refl w1.heap.size w1) nq
  have HrZ := hid (above_row bq HrZ.out)
  have HrT := hid (above_row bq HrT.out)
  have HrG := hid (above_row bq HrG.out)
  have HB := hid (HB.out.trans (bq.mono HB.out.size))
  have c0 := above bq c0
  have c1 := above bq c1
  have Hcell := hid fun (k : Nat) (hk : k < 32) => above bq (Hcell.out k hk)
  clear bq
  have hs1 : w.heap.size + 2 < (w1.drewN nq).heap.size := hs1
  generalize w1.drewN nq = w1 at *
  have Hh := hid h
  clear h1 gG
  have hnx2 : ((f 0 : Int) % 256) = (nx : Nat) := by have := Hnx.out; omega
  have hl31 : (#[.int .i64 0, .int .i64 0, .int .u8 0, .string ⟨#[]⟩, .int .i64 0, .int .u8 0, .string ⟨#[]⟩, .int .i64 0, .int .u8 0, .string ⟨#[]⟩, .int .i64 0, .int .u8 0, .string ⟨#[]⟩, .int .i64 0, .int .u8 0, .string ⟨#[]⟩, .int .i64 0, .int .u8 0, .string ⟨#[]⟩, .int .i64 0, .int .u8 0, .string ⟨#[]⟩, .int .i64 0, .int .u8 0, .string ⟨#[]⟩, .int .i64 0, .int .u8 0, .string ⟨#[]⟩, .int .i64 0, .int .u8 0, .string ⟨#[]⟩] : Array Value).size = (dirOf (nF (nx : Int))).size := by rw [dirOf_size]; rfl
  go_wp2_with (refine wpList_store_new (w := w1) rfl (.tmp 6) (.tmp 53) rfl #[.int .i64 0, .int .i64 0, .int .u8 0, .string ⟨#[]⟩, .int .i64 0, .int .u8 0, .string ⟨#[]⟩, .int .i64 0, .int .u8 0, .string ⟨#[]⟩, .int .i64 0, .int .u8 0, .string ⟨#[]⟩, .int .i64 0, .int .u8 0, .string ⟨#[]⟩, .int .i64 0, .int .u8 0, .string ⟨#[]⟩, .int .i64 0, .int .u8 0, .string ⟨#[]⟩, .int .i64 0, .int .u8 0, .string ⟨#[]⟩, .int .i64 0, .int .u8 0, .string ⟨#[]⟩, .int .i64 0, .int .u8 0, .string ⟨#[]⟩] (dirOf (nF (nx : Int))) rfl rfl (by rw [← next_lit]; rfl) hl31 (dirOf_size _) (nF_is _).one ?_)
  clear hl31
  clear c0 c1 hnx2 e1 e2 hne hf0 hnb hbw h1' HH Hhd hb1
  have hlt0 : ad.block < w1.heap.size := by have := HB.out.size; omega
  go_loopw [7] (fun v wr => ∃ k : Nat, k ≤ 10 ∧ v = .int .i64 k ∧ (∃ F, wr.rowIs w1.heap.size 41 31 F ∧ CellsIs F (nx : Int) (firstK (rIno f) 0 k) (firstK (rKind f) 0 k) (firstK (rNm f) ⟨#[]⟩ k)) ∧ wr.rowIs (w.heap.size + 1) 41 31 zF ∧ wr.rowIs (w.heap.size + 2) 58 2 (fun _ => .int .i64 0) ∧
      wr.rowIs w.heap.size 25 3 (fun j => if j = 0 then .int .i64 p else if j = 1 then .int .i64 i else .int .i64 b) ∧ (∀ j, j < k → decB (slotAt f j) i = true) ∧ Below w1.heap.size w1 wr) (fun v _ => 10 - (intOf v).toNat)
  case atStart => exact ⟨0, by omega, rfl, ⟨_, row_dirOf w1 _, nF_is _⟩, HrZ.out.alloc _, HrT.out.alloc _, HrG.out.alloc _, fun j hj => by omega, (Below.refl _ _).alloc (Nat.le_refl _) _⟩
  case round =>
    obtain ⟨k, hk, rfl, ⟨F, rB, hF⟩, rZ, rT, rG, hS, hBr⟩ := hrel
    have HrB := hid rB
    have HF := hid hF
    have HrZ := hid rZ
    have HrT := hid rT
    have HrG := hid rG
    have HS := hid hS
    have HBr := hid hBr
    have HB := hid (HB.out.trans (hBr.mono HB.out.size))
    have hrs := rB.lt
    have hws := rG.lt
    clear rB hF rZ rT rG hS hBr
    by_cases hlt10 : k < 10
    · have hk' : (k : Int) < 10 := by omega
      have hk9 : k ≤ 9 := by omega
      obtain ⟨o, ho⟩ : ∃ o : Nat, o = 2 + 3 * k := ⟨_, rfl⟩
      have hat : (2 : Int) + 3 * (k : Int) = (o : Int) := by omega
      have hat5 : (5 : Int) + 3 * (k : Int) = (o : Int) + 3 := by omega
      have e3 : ¬ cap = o := by omega
      have hc1 : (o : Int) + 3 ≤ (cap : Int) := by omega
      have hn0 : (0 : Int) ≤ (o : Int) + 3 := by omega
      have ht3 : ((o : Int) + 3).toNat = o + 3 := by omega
      have hw3 := Go.IntWalk.i64_in ((o : Int) + 3) (by omega)
      have hwk := Go.IntWalk.i64_in (3 * (k : Int)) (by omega)
      have hwo := Go.IntWalk.i64_in (o : Int) (by omega)
      have ho29 : o ≤ 29 := by omega
      have ho0 : ¬ o = 0 := by omega
      have Ho := hid ho
      obtain ⟨x0, x1, xs, y, hv, hd⟩ := rdec_two ad o f k p i b Hh.out Hf.out
      have Hv := hid hv
      have Hd := hid hd
      have hcap3 : 3 ≤ cap - o := by omega
      have HcB : Hid (∀ r, r < 3 → wr.cell? (ad.add (o + r)) = some (.int .u64 (slotAt f k r : Nat))) := hid fun r hr => by
        have := above HBr.out (Hcell.out (o + r) (by omega))
        rw [this, Ho.out]; rfl
      have hlr : ad.block < wr.heap.size := by have := HBr.out.size; omega
      clear ho hv hd
      obtain ⟨g0, g1, g2, -, -, -⟩ := three _ _ _ _ HrG.out
      simp at g0 g1 g2
      go_wp2_with fail
      go_cut [8, 9] (fun v8 v9 wx => ∃ gx, v8 = .pointer (some ⟨gx, 0, none⟩) ∧ v9 = .bool y ∧ wx.rowIs gx 23 3 (fun j => if j = 0 then .int .i64 x0 else if j = 1 then .int .u8 x1 else .string xs) ∧ Below wr.heap.size wr wx)
      case first =>
        go_region_held3 (fun w' => w'.cell? ⟨w.heap.size, 0, none⟩ = some (.int .i64 p) ∧ w'.cell? ⟨w.heap.size, 1, none⟩ = some (.int .i64 i) ∧ w'.cell? ⟨w.heap.size, 2, none⟩ = some (.int .i64 b))
          (first | (go_keep; done) | (refine ⟨?_, ?_, ?_⟩ <;> (go_keep; done)) | (go_split_ands; refine ⟨above hbx ?_, above hbx ?_, above hbx ?_⟩ <;> assumption) | exact ⟨(World.cell?_setCell_other _ _ _ _ (by simp <;> omega)).trans ((World.cell?_setCell_other _ _ _ _ (by simp <;> omega)).trans ((World.cell?_setCell_other _ _ _ _ (by simp <;> omega)).trans m0)), (World.cell?_setCell_other _ _ _ _ (by simp <;> omega)).trans ((World.cell?_setCell_other _ _ _ _ (by simp <;> omega)).trans ((World.cell?_setCell_other _ _ _ _ (by simp <;> omega)).trans m1)), (World.cell?_setCell_other _ _ _ _ (by simp <;> omega)).trans ((World.cell?_setCell_other _ _ _ _ (by simp <;> omega)).trans ((World.cell?_setCell_other _ _ _ _ (by simp <;> omega)).trans m2))⟩)
          (first | (go_at_call 23; refine (Hd.out _ (cap - o) ?_ hcap3 ?_).mono ?_; (first | exact hlr | (simp; omega)); (first | exact HcB.out | exact fun r hr => (World.cell?_alloc_lt _ _ _ (show (ad.add (o + r)).block < _ by rw [block_of_add]; exact hlr)).trans (HcB.out r hr)); rintro e w3 ⟨rfl, hbx⟩; have Hby := hid (by first | exact (Below.refl wr.heap.size wr).drew.trans hbx | exact ((Below.refl wr.heap.size wr).drew.alloc (Nat.le_refl _) (.cells #[.int .i64 0, .int .u8 0, .string ⟨#[]⟩] 23)).trans (hbx.mono (by simp)) : Below wr.heap.size wr w3); have m0 := above Hby.out g0; have m1 := above Hby.out g1; have m2 := above Hby.out g2; (try (obtain ⟨n0, n1, n2, fn0, fn1, fn2⟩ := three _ _ _ _ (above_row hbx (row3 wr 23 (.int .i64 0) (.int .u8 0) (.string ⟨#[]⟩) (fun j => if j = 0 then .int .i64 0 else if j = 1 then .int .u8 0 else .string ⟨#[]⟩) rfl rfl rfl)); simp at n0 n1 n2))))
        all_goals
          have hw3 := Hby.out.size
          go_wp2_with fail
          go_meet
          first
            | exact ⟨w3.heap.size, rfl, rfl, row3 w3 23 _ _ _ (fun j => if j = 0 then .int .i64 x0 else if j = 1 then .int .u8 x1 else .string xs) rfl rfl rfl, Hby.out.alloc Hby.out.size _⟩
            | exact ⟨wr.heap.size, rfl, rfl, set3 (above_row hbx (row3 wr 23 (.int .i64 0) (.int .u8 0) (.string ⟨#[]⟩) (fun j => if j = 0 then .int .i64 0 else if j = 1 then .int .u8 0 else .string ⟨#[]⟩) rfl rfl rfl)) _ _ _ (fun j => if j = 0 then .int .i64 x0 else if j = 1 then .int .u8 x1 else .string xs) rfl rfl rfl, below3 Hby.out (by omega) _ _ _⟩
      case rest =>
        obtain ⟨gx, rfl, rfl, rX, hB3⟩ := hcut
        have HrX := hid rX
        have HrB3 := hid (above_row hB3 HrB.out)
        have HrZ := hid (above_row hB3 HrZ.out)
        have HrT := hid (above_row hB3 HrT.out)
        have HrG := hid (above_row hB3 HrG.out)
        have HBr := hid (HBr.out.trans (hB3.mono HBr.out.size))
        have HB := hid (HB.out.trans (hB3.mono HB.out.size))
        have hw3 := hB3.size
        clear rX hB3 g0 g1 g2
        rcases Hv.out with ⟨hd, rfl, rfl, rfl, rfl⟩ | ⟨hd, rfl⟩
        · go_wp2_with (first
            | refine wpList_load3 rfl 79 rfl 23 (.tmp 8) rfl gx rfl (fun j => if j = 0 then .int .i64 (rIno f k) else if j = 1 then .int .u8 (rKind f k) else .string (rNm f k)) _ Tryd.underlying23 rfl info23 HrX.out ?_
            | refine wpList_store_slotW rfl (.tmp 81) (.tmp 79) rfl w1.heap.size k (rIno f k) (rKind f k) (rNm f k) HrB3.out hlt10 rfl rfl ?_)
          go_roundw
          case rel =>
            refine ⟨k + 1, by omega, by go_num, ⟨_, slotW_row HrB3.out k _ _ _, ?_⟩, slotW_far HrZ.out (by omega) k _ _ _, slotW_far HrT.out (by omega) k _ _ _, slotW_far HrG.out (by omega) k _ _ _, fun j hj => ?_, slotW_below HBr.out (Nat.le_refl _) k _ _ _⟩
            · rw [← firstK_upd, ← firstK_upd, ← firstK_upd]
              exact HF.out.slot k _ _ _
            · by_cases hjk : j = k
              · rw [hjk]; exact hd
              · exact HS.out j (by omega)
          case measure => simp [intOf]; omega
        · have Hdk := hid hd
          clear hd
          go_wp2_with (first
            | refine wpList_store41 rfl (.tmp 4) (.tmp 73) rfl (w.heap.size + 1) zF zF HrZ.out rfl (by rw [← zero_lit]; rfl) zF_is.one ?_
            | refine wpList_store58 rfl (.tmp 5) (.tmp 77) rfl (w.heap.size + 2) (fun _ => .int .i64 0) (.int .i64 (o : Int)) (.int .i64 7) (setRow_far (dirOf zF) HrT.out (show w.heap.size + 2 ≠ w.heap.size + 1 by omega)) rfl rfl (by simp [Value.oneCell']) ?_)
          have hl := run_block _ _ _ (setRow_far (g := w.heap.size + 1) (B := w.heap.size + 2) #[.int .i64 (o : Int), .int .i64 7] (setRow_row zF HrZ.out) (show w.heap.size + 1 ≠ w.heap.size + 2 by omega))
          have hl' := run_fault _ _ (.int .i64 (o : Int)) (.int .i64 7) _ rfl rfl (setRow_pair (.int .i64 (o : Int)) (.int .i64 7) (setRow_far (dirOf zF) HrT.out (show w.heap.size + 2 ≠ w.heap.size + 1 by omega)))
          try rw [Exit.noGoto_ret]
          refine bodyPost_ret (v := .tuple #[.agg (dirOf zF), .agg #[.int .i64 (o : Int), .int .i64 7]]) ?_ rfl ⟨.inr ⟨k, hlt10, HS.out, Hdk.out, ?_⟩, ?_⟩
          · exact results_two_cells Tryd.results24 _ Tryd.prog _ _ _ _ _ rfl rfl hl hl'
          · rw [Ho.out]; push_cast; rfl
          · exact (HB.out.trans (setRow_below (b := w.heap.size) (B := w.heap.size + 1) (by omega) _)).trans (setRow_below (b := w.heap.size) (B := w.heap.size + 2) (by omega) _)
    · have h10 : k = 10 := by omega
      subst h10
      go_wp2_with (first
        | refine wpList_load41 rfl 82 rfl (.tmp 6) rfl w1.heap.size rfl F HrB.out ?_
        | refine wpList_store41 rfl (.tmp 4) (.tmp 82) rfl (w.heap.size + 1) zF F HrZ.out rfl rfl HF.out.one ?_
        | refine wpList_store58 rfl (.tmp 5) (.tmp 83) rfl (w.heap.size + 2) (fun _ => .int .i64 0) (.int .i64 0) (.int .i64 0) (setRow_far (dirOf F) HrT.out (show w.heap.size + 2 ≠ w.heap.size + 1 by omega)) rfl rfl (by simp [Value.oneCell']) ?_)
      have hl := run_block _ _ _ (setRow_far (g := w.heap.size + 1) (B := w.heap.size + 2) #[.int .i64 0, .int .i64 0] (setRow_row F HrZ.out) (show w.heap.size + 1 ≠ w.heap.size + 2 by omega))
      have hl' := run_fault _ _ (.int .i64 0) (.int .i64 0) _ rfl rfl (setRow_pair (.int .i64 0) (.int .i64 0) (setRow_far (dirOf F) HrT.out (show w.heap.size + 2 ≠ w.heap.size + 1 by omega)))
      try rw [Exit.noGoto_ret]
      refine bodyPost_ret (v := .tuple #[.agg (dirOf F), .agg #[.int .i64 0, .int .i64 0]]) ?_ rfl ⟨.inl ⟨HS.out, F, ?_, rfl⟩, ?_⟩
      · exact results_two_cells Tryd.results24 _ Tryd.prog _ _ _ _ _ rfl rfl hl hl'
      · have := HF.out.congr (a' := rIno f) (c' := rKind f) (s' := rNm f) (fun k hk => by unfold firstK; rw [if_pos hk]) (fun k hk => by unfold firstK; rw [if_pos hk]) (fun k hk => by unfold firstK; rw [if_pos hk])
        rw [← Hnx.out]
        exact this
      · exact (HB.out.trans (setRow_below (b := w.heap.size) (B := w.heap.size + 1) (by omega) _)).trans (setRow_below (b := w.heap.size) (B := w.heap.size + 2) (by omega) _)
end

theorem rread_any (A : Option Addr) (m cap : Nat) (f : Nat → Nat) (p i b : Int) (w : World) (hmc : m ≤ cap) (hf : ∀ k, f k < 18446744073709551616) (hl : Lies w A m f) :
    Calls Tryd.prog 24 #[.slice A m cap, .agg #[.int .i64 p, .int .i64 i, .int .i64 b]] w fun e w' => (∃ F, ((readR m f p i b = none ∧ CellsIs F ((f 0 % 256 : Nat) : Int) (rIno f) (rKind f) (rNm f)) ∨ (readR m f p i b ≠ none ∧ F = zF)) ∧
      e = .returned (.tuple #[.agg (dirOf F), faultV (readR m f p i b)])) ∧ Below w.heap.size w w' := by
  cases hg : gok p i b
  · refine (rread_geom A m cap p i b w hg).mono ?_
    rintro e w' ⟨rfl, hb⟩
    exact ⟨⟨zF, .inr ⟨by rw [readR_geom hg]; simp, rfl⟩, by rw [readR_geom hg]; rfl⟩, hb⟩
  by_cases hm : m = 32
  · subst hm
    obtain ⟨ad, rfl, hlt, hcell⟩ : ∃ ad, A = some ad ∧ ad.block < w.heap.size ∧ ∀ k, k < 32 → w.cell? (ad.add k) = some (.int .u64 (f k : Nat)) := by
      rcases hl with h | h
      · cases h
      · exact h
    by_cases hn : (f 0 % 4294967296 : Nat) ≤ b
    · by_cases h0 : f 0 / 4294967296 = 1145655857
      · by_cases h1 : f 1 = 0
        · refine (rread_go ad cap f p i b w hg hlt hmc hf hcell hn h0 h1).mono ?_
          rintro e w' ⟨⟨hd, G, hG, rfl⟩ | ⟨k, hk, hlt, hd, rfl⟩, hb⟩
          · have hnone : readR 32 f p i b = none := by
              rw [readR_slots hg h0 hn h1, Option.map_eq_none_iff, List.find?_eq_none]
              intro k hk
              rw [hd k (List.mem_range.1 hk)]
              simp
            exact ⟨⟨G, .inl ⟨hnone, hG⟩, by rw [hnone]; rfl⟩, hb⟩
          · have hsome : readR 32 f p i b = some (2 + 3 * k, 7) := by
              rw [readR_slots hg h0 hn h1, List.find?_range_eq_some.2 ⟨by rw [hd]; rfl, List.mem_range.2 hk, fun j hj => by rw [hlt j hj]; rfl⟩]
              rfl
            exact ⟨⟨zF, .inr ⟨by rw [hsome]; simp, rfl⟩, by rw [hsome]; rfl⟩, hb⟩
        · refine (rread_one ad cap f p i b w hg hlt hf hcell hn h0 h1).mono ?_
          rintro e w' ⟨rfl, hb⟩
          exact ⟨⟨zF, .inr ⟨by rw [readR_one hg h0 hn h1]; simp, rfl⟩, by rw [readR_one hg h0 hn h1]; rfl⟩, hb⟩
      · refine (rread_mark ad cap f p i b w hg hlt hf hcell hn h0).mono ?_
        rintro e w' ⟨rfl, hb⟩
        exact ⟨⟨zF, .inr ⟨by rw [readR_form hg (.inr (.inl h0))]; simp, rfl⟩, by rw [readR_form hg (.inr (.inl h0))]; rfl⟩, hb⟩
    · refine (rread_next ad cap f p i b w hg hlt hf hcell (by omega)).mono ?_
      rintro e w' ⟨rfl, hb⟩
      exact ⟨⟨zF, .inr ⟨by rw [readR_form hg (.inr (.inr (by omega)))]; simp, rfl⟩, by rw [readR_form hg (.inr (.inr (by omega)))]; rfl⟩, hb⟩
  · refine (rread_len A m cap p i b w hg hm).mono ?_
    rintro e w' ⟨rfl, hb⟩
    exact ⟨⟨zF, .inr ⟨by rw [readR_form hg (.inl hm)]; simp, rfl⟩, by rw [readR_form hg (.inl hm)]; rfl⟩, hb⟩
end Go.Proofs.YtejapeafepcacaaDoor
