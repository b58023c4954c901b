/- EntryBack, the main case: the walk. -/
import Derived.Test.YtejapeafepcacaaDoorBackB
import Derived.Test.YtejapeafepcacaaDoorReadC
import Derived.Test.YtejapeafepcacaaDoorCopy
namespace Go.Proofs.YtejapeafepcacaaDoor
open Go.RowKit
theorem lies_above {w w' : World} {A : Option Addr} {m : Nat} {f : Nat → Nat} (hb : Below w.heap.size w w') (h : Lies w A m f) : Lies w' A m f := by
  rcases h with h | ⟨ad, rfl, hlt, hc⟩
  · exact .inl h
  · exact .inr ⟨ad, rfl, Nat.lt_of_lt_of_le hlt hb.size, fun k hk => (hb.cell (p := ad.add k) (by unfold Addr.add; split <;> exact hlt)).trans (hc k hk)⟩
theorem copied_read {w w' w'' : World} {A : Option Addr} {m c : Nat} {f : Nat → Nat} (h : Copied w w' A m c f) (hb : Below w'.heap.size w' w'') : m = 32 → ∃ g, A = some ⟨g, 0, none⟩ ∧ g < w''.heap.size ∧ 32 ≤ c ∧ ∀ k, k < 32 → w''.cell? ⟨g, k, none⟩ = some (.int .u64 (f k : Nat)) := by
  rintro rfl
  rcases h with ⟨h, -⟩ | ⟨-, g, rfl, -, hlt, hc, hk⟩
  · cases h
  · exact ⟨g, rfl, Nat.lt_of_lt_of_le hlt hb.size, hc, fun k hk' => (hb.cell (p := ⟨g, k, none⟩) hlt).trans (hk k hk')⟩
theorem keep3 {N B : Nat} {Z w : World} {x y z : Value} (hb : Below N Z w) (hlt : B < N) (h : Z.cell? ⟨B, 0, none⟩ = some x ∧ Z.cell? ⟨B, 1, none⟩ = some y ∧ Z.cell? ⟨B, 2, none⟩ = some z) :
    w.cell? ⟨B, 0, none⟩ = some x ∧ w.cell? ⟨B, 1, none⟩ = some y ∧ w.cell? ⟨B, 2, none⟩ = some z :=
  ⟨(hb.cell (p := ⟨B, 0, none⟩) hlt).trans h.1, (hb.cell (p := ⟨B, 1, none⟩) hlt).trans h.2.1, (hb.cell (p := ⟨B, 2, none⟩) hlt).trans h.2.2⟩
theorem read_one' {X : Nat → Value} {m : Nat} {f : Nat → Nat} {p i b : Int} (h : (readR m f p i b = none ∧ CellsIs X ((f 0 % 256 : Nat) : Int) (rIno f) (rKind f) (rNm f)) ∨ (readR m f p i b ≠ none ∧ X = zF)) : (dirOf X).all (·.oneCell') = true := by
  rcases h with ⟨-, h⟩ | ⟨-, rfl⟩
  · exact h.one
  · exact zF_is.one
attribute [local irreducible] dirOf

set_option maxHeartbeats 4000000 in
set_option maxRecDepth 100000 in
theorem back_main (a c : Int) (s : ByteArray) (F : Nat → Value) (next : Int) (ino kind : Nat → Int) (nm : Nat → ByteArray) (A : Option Addr) (m cp : Nat) (p i b : Int) (w : World) (hg : ErrType w) (hF : CellsIs F next ino kind nm) (hs0 : s.size ≤ 200) (hl : ∀ k, k < 10 → (nm k).size ≤ 200) (hm : m ≤ 100) (f : Nat → Nat) (hf : ∀ k, f k < 18446744073709551616) (hL : Lies w A m f) :
    Calls Tryd.prog 7 #[.agg #[.int .i64 a, .int .u8 c, .string s], .agg (dirOf F), .slice A m cp, .agg #[.int .i64 p, .int .i64 i, .int .i64 b]] w fun e w' => e = .returned (.bool true) ∧ Below w.heap.size w w' := by
  have Hg := hid (errType_alloc (errType_alloc (errType_alloc hg (.cells #[.int .i64 a, .int .u8 c, .string s] 23)) (.cells (dirOf F) 41)) (.cells #[.int .i64 p, .int .i64 i, .int .i64 b] 25))
  have HF := hid hF
  have e1 : (w.alloc (.cells #[.int .i64 a, .int .u8 c, .string s] 23)).heap.size = w.heap.size + 1 := by simp
  have e2 : ((w.alloc (.cells #[.int .i64 a, .int .u8 c, .string s] 23)).alloc (.cells (dirOf F) 41)).heap.size = w.heap.size + 1 + 1 := by simp
  have rC := (row_dirOf (w.alloc (.cells #[.int .i64 a, .int .u8 c, .string s] 23)) F).alloc (.cells #[.int .i64 p, .int .i64 i, .int .i64 b] 25)
  have rG := (row3 ((w.alloc (.cells #[.int .i64 a, .int .u8 c, .string s] 23)).alloc (.cells (dirOf F) 41)) 25 (.int .i64 p) (.int .i64 i) (.int .i64 b) (fun j => if j = 0 then .int .i64 p else if j = 1 then .int .i64 i else .int .i64 b) rfl rfl rfl)
  rw [e1] at rC
  rw [e2] at rG
  have HrC := hid rC
  have HrX := hid (((row3 w 23 (.int .i64 a) (.int .u8 c) (.string s) (fun j => if j = 0 then .int .i64 a else if j = 1 then .int .u8 c else .string s) rfl rfl rfl).alloc (.cells (dirOf F) 41)).alloc (.cells #[.int .i64 p, .int .i64 i, .int .i64 b] 25))
  have HrG := hid rG
  have HB0 := hid (Below.alloc (Below.alloc (Below.alloc (Below.refl w.heap.size w) (Nat.le_refl _) (.cells #[.int .i64 a, .int .u8 c, .string s] 23)) (by simp) (.cells (dirOf F) 41)) (by simp; omega) (.cells #[.int .i64 p, .int .i64 i, .int .i64 b] 25))
  clear hg hF rC rG e1 e2
  go_enter Tryd.func7, Tryd.ntmps7
  have hs : (s.size : Int) ≤ 200 := by omega
  have hm' : m ≤ 100 := hm
  have HL := hid hL
  have Hf := hid hf
  clear hL hf
  have hd : decide ((200 : Int) < (s.size : Int)) = false := by simp; omega
  have hm1 : (m : Int) ≤ 100 := by omega
  go_wp2_with (refine wpList_load41g 22 rfl (by rfl) (.tmp 5) rfl (w.heap.size + 1) rfl F HrC.out ?_)
  refine (long_any (dirOf F) next ino kind nm _ HF.out.dir).mono ?_
  rintro e w1 ⟨he, hb⟩
  have Hb1 := hid (HB0.out.trans (hb.mono HB0.out.size))
  have Hg1 := hid (errType_above Hg.out hb)
  have HrC1 := hid (above_row hb HrC.out)
  have HrX1 := hid (above_row hb HrX.out)
  have HrG1 := hid (above_row hb HrG.out)
  have hs1 : w.heap.size + 1 + 1 < w1.heap.size := by have := hb.size; simp at this; omega
  clear hb
  rcases he with ⟨rfl, k, hk, h⟩ | ⟨rfl, -⟩
  · exact absurd (hl k hk) (by omega)
  clear hl hm hs0
  go_wp2_with (first
    | refine wpList_load3 rfl 32 rfl 23 (.tmp 4) rfl (w.heap.size) rfl (fun j => if j = 0 then .int .i64 a else if j = 1 then .int .u8 c else .string s) _ Tryd.underlying23 rfl info23 HrX1.out ?_
    | refine wpList_load3 rfl 33 rfl 25 (.tmp 7) rfl (w.heap.size + 1 + 1) rfl (fun j => if j = 0 then .int .i64 p else if j = 1 then .int .i64 i else .int .i64 b) _ Tryd.underlying25 rfl info25 HrG1.out ?_)
  cases hmy : mayB a c s.data.toList p i b
  · refine (encode_no a c p i b s _ hmy).mono ?_
    rintro e w2 ⟨rfl, hb⟩
    have Hb2 := hid (Hb1.out.trans (hb.mono Hb1.out.size))
    have Hg2 := hid (errType_above Hg1.out hb)
    have HrC2 := hid (above_row hb HrC1.out)
    have HrG2 := hid (above_row hb HrG1.out)
    clear hb
    go_wp2_with (first
      | refine wpList_load41 rfl 59 rfl (.tmp 5) rfl (w.heap.size + 1) rfl F HrC2.out ?_
      | refine wpList_load3 rfl 60 rfl 25 (.tmp 7) rfl (w.heap.size + 1 + 1) rfl (fun j => if j = 0 then .int .i64 p else if j = 1 then .int .i64 i else .int .i64 b) _ Tryd.underlying25 rfl info25 HrG2.out ?_)
    cases hbb : blockB next ino kind nm p i b
    · refine (block_no (dirOf F) next p i b ino kind nm _ HF.out.dir hbb).mono ?_
      rintro e zz ⟨rfl, hb⟩
      have HrG7 := hid (above_row hb HrG2.out)
      have Hb7 := hid (Hb2.out.trans (hb.mono Hb2.out.size))
      have Hg7 := hid (errType_above Hg2.out hb)
      clear hb
      go_wp2_with fail
      have HLz := hid (lies_above Hb7.out HL.out)
      have hlt3 := HrG7.out.lt
      have gz := three _ _ _ _ HrG7.out
      replace gz := (⟨gz.1, gz.2.1, gz.2.2.1⟩ : zz.cell? ⟨(w.heap.size + 1 + 1), 0, none⟩ = some (.int .i64 p) ∧ zz.cell? ⟨(w.heap.size + 1 + 1), 1, none⟩ = some (.int .i64 i) ∧ zz.cell? ⟨(w.heap.size + 1 + 1), 2, none⟩ = some (.int .i64 b))
      go_cut [15, 16] (fun v15 v16 wx => ∃ gx X, v15 = .pointer (some ⟨gx, 0, none⟩) ∧ v16 = errV (readR m f p i b) ∧ wx.rowIs gx 41 31 X ∧ ((readR m f p i b = none ∧ CellsIs X ((f 0 % 256 : Nat) : Int) (rIno f) (rKind f) (rNm f)) ∨ (readR m f p i b ≠ none ∧ X = zF)) ∧
        wx.rowIs (w.heap.size + 1 + 1) 25 3 (fun j => if j = 0 then .int .i64 p else if j = 1 then .int .i64 i else .int .i64 b) ∧ ErrType wx ∧ Below w.heap.size w wx)
      case first =>
        have B0 := (Below.refl zz.heap.size zz).drew
        refine wp_region_held_drew (S := fun w' => w'.cell? ⟨(w.heap.size + 1 + 1), 0, none⟩ = some (.int .i64 p) ∧ w'.cell? ⟨(w.heap.size + 1 + 1), 1, none⟩ = some (.int .i64 i) ∧ w'.cell? ⟨(w.heap.size + 1 + 1), 2, none⟩ = some (.int .i64 b)) (by kernel_rfl) gz (fun hHeld => ?_)
        refine wpAnyH_take (i := 0) (oi := Oper.mk (some 80) _ _ _ _ _) (v := ?v13) rfl (by kernel_rfl) (by kernel_rfl) (by kernel_rfl) (fun _ _ _ h => h) (Or.inl ⟨by rfl, ?y13⟩) (by assumption) ?_
        case y13 => (intro w hSw; (try dsimp only at hSw); go_simp; first | done | with_reducible rfl)
        (try simp only [Act.put, List.setIfInBounds_toArray, List.set_cons_zero, List.set_cons_succ])
        refine wpAnyH_take (i := 2) (oi := Oper.mk (some 82) _ _ _ _ _) (v := ?v14) rfl (by kernel_rfl) (by kernel_rfl) (by kernel_rfl) (fun _ _ _ h => h) (Or.inl ⟨by rfl, ?y14⟩) (by assumption) ?_
        case y14 => (intro w hSw; (try dsimp only at hSw); go_simp; first | done | with_reducible rfl)
        (try simp only [Act.put, List.setIfInBounds_toArray, List.set_cons_zero, List.set_cons_succ])
        refine wpAnyH_ready (rs := [1, 7]) (by kernel_rfl) (by simp) ?_
        refine AllReadyH.cons (o := Oper.mk (some 81) _ _ _ _ _) rfl (fun K hK => ?_) ?_
        · refine step_append_words (by rfl) _ _ (by rfl) A m cp f (by rfl) (by rfl) (lies_above B0 HLz.out) (by omega) ?_
          intro A2 c2 W1 hbA hcp
          have B1 := B0.trans (hbA.mono B0.size)
          refine hK.out _ _ (keep3 B1 hlt3 gz) (fun hHeld => ?_)
          clear hK K
          (try simp only [Act.put, List.setIfInBounds_toArray, List.set_cons_zero, List.set_cons_succ])
          refine wpAnyH_ready (rs := [3, 7]) (by kernel_rfl) (by simp) ?_
          refine AllReadyH.cons (o := Oper.mk (some 83) _ _ _ _ _) rfl (fun K hK => ?_) ?_
          · go_simp
            refine (read_any A2 m c2 f p i b _ (errType_above Hg7.out B1) Hf.out (copied_read hcp (Below.refl _ _))).mono ?_
            rintro e W2 ⟨⟨X, hX1, rfl⟩, hbC⟩
            have B2 := B1.trans (hbC.mono B1.size)
            go_simp
            refine hK.out _ _ (keep3 B2 hlt3 gz) (fun hHeld => ?_)
            clear hK K
            (try simp only [Act.put, List.setIfInBounds_toArray, List.set_cons_zero, List.set_cons_succ])
            refine wpAnyH_take (i := 4) (oi := Oper.mk (some 79) _ _ _ _ _) (v := ?v1) rfl (by kernel_rfl) (by kernel_rfl) (by kernel_rfl) (fun _ _ _ h => h) (Or.inl ⟨by rfl, ?y1⟩) (by assumption) ?_
            case y1 => (intro w hSw; (try dsimp only at hSw); go_simp; first | done | with_reducible rfl)
            (try simp only [Act.put, List.setIfInBounds_toArray, List.set_cons_zero, List.set_cons_succ])
            refine wpAnyH_take (i := 5) (oi := Oper.mk (some 84) _ _ _ _ _) (v := ?v2) rfl (by kernel_rfl) (by kernel_rfl) (by kernel_rfl) (fun _ _ _ h => h) (Or.inl ⟨by rfl, ?y2⟩) (by assumption) ?_
            case y2 => (intro w hSw; (try dsimp only at hSw); go_simp; first | done | with_reducible rfl)
            (try simp only [Act.put, List.setIfInBounds_toArray, List.set_cons_zero, List.set_cons_succ])
            refine wpAnyH_take (i := 6) (oi := Oper.mk (some 85) _ _ _ _ _) (v := ?v3) rfl (by kernel_rfl) (by kernel_rfl) (by kernel_rfl) (fun _ _ _ h => h) (Or.inl ⟨by rfl, ?y3⟩) (by assumption) ?_
            case y3 => (intro w hSw; (try dsimp only at hSw); go_simp; first | done | with_reducible rfl)
            (try simp only [Act.put, List.setIfInBounds_toArray, List.set_cons_zero, List.set_cons_succ])
            refine wpAnyH_ready (rs := [7]) (by kernel_rfl) (by simp) ?_
            refine AllReadyH.cons (o := Oper.mk (some 15) _ _ _ _ _) rfl (fun K hK => ?_) ?_
            · go_simp
              rw [zero_lit]
              have rZ3 := row_dirOf (W2) zF
              have bZ3 := Below.alloc (Below.refl (W2).heap.size (W2)) (Nat.le_refl _) (.cells (dirOf zF) 41)
              have B3 := B2.trans (bZ3.mono B2.size)
              refine hK.out _ _ (keep3 B3 hlt3 gz) (fun hHeld => ?_)
              clear hK K
              (try simp only [Act.put, List.setIfInBounds_toArray, List.set_cons_zero, List.set_cons_succ])
              refine wpAnyH_ready (rs := [8]) (by kernel_rfl) (by simp) ?_
              refine AllReadyH.cons (o := Oper.mk none _ _ _ _ _) rfl (fun K hK => ?_) ?_
              · refine step_store41 (by rfl) (.tmp 15) (.tmp 84) (by rfl) (W2.heap.size) _ X (rZ3) (by rfl) (by rfl) (read_one' hX1) ?_
                have B4 := B3.trans (setRow_below (b := zz.heap.size) (B := W2.heap.size) B2.size (dirOf X))
                refine hK.out _ _ (keep3 B4 hlt3 gz) (fun hHeld => ?_)
                clear hK K
                (try simp only [Act.put])
                refine wpAnyH_take (i := 9) (oi := Oper.mk (some 16) _ _ _ _ _) (v := ?v4) rfl (by kernel_rfl) (by kernel_rfl) (by kernel_rfl) (fun _ _ _ h => h) (Or.inl ⟨by rfl, ?y4⟩) (by assumption) ?_
                case y4 => (intro w hSw; (try dsimp only at hSw); go_simp; first | done | with_reducible rfl)
                (try simp only [Act.put, List.setIfInBounds_toArray, List.set_cons_zero, List.set_cons_succ])
                refine wpAnyH_done (by kernel_rfl) ?_ _
                go_wp2_with fail
                go_meet
                exact ⟨W2.heap.size, X, rfl, rfl, setRow_row X (rZ3), hX1, above_row B4 HrG7.out, errType_above Hg7.out B4, Hb7.out.trans (B4.mono Hb7.out.size)⟩
              exact AllReadyH.nil
            exact AllReadyH.nil
          refine AllReadyH.cons (o := Oper.mk (some 15) _ _ _ _ _) rfl (fun K hK => ?_) ?_
          · go_simp
            rw [zero_lit]
            have rZ2 := row_dirOf (W1) zF
            have bZ2 := Below.alloc (Below.refl (W1).heap.size (W1)) (Nat.le_refl _) (.cells (dirOf zF) 41)
            have B2 := B1.trans (bZ2.mono B1.size)
            refine hK.out _ _ (keep3 B2 hlt3 gz) (fun hHeld => ?_)
            clear hK K
            (try simp only [Act.put, List.setIfInBounds_toArray, List.set_cons_zero, List.set_cons_succ])
            refine wpAnyH_ready (rs := [3]) (by kernel_rfl) (by simp) ?_
            refine AllReadyH.cons (o := Oper.mk (some 83) _ _ _ _ _) rfl (fun K hK => ?_) ?_
            · go_simp
              refine (read_any A2 m c2 f p i b _ (errType_above Hg7.out B2) Hf.out (copied_read hcp bZ2)).mono ?_
              rintro e W3 ⟨⟨X, hX1, rfl⟩, hbC⟩
              have B3 := B2.trans (hbC.mono B2.size)
              go_simp
              refine hK.out _ _ (keep3 B3 hlt3 gz) (fun hHeld => ?_)
              clear hK K
              (try simp only [Act.put, List.setIfInBounds_toArray, List.set_cons_zero, List.set_cons_succ])
              refine wpAnyH_take (i := 4) (oi := Oper.mk (some 79) _ _ _ _ _) (v := ?v5) rfl (by kernel_rfl) (by kernel_rfl) (by kernel_rfl) (fun _ _ _ h => h) (Or.inl ⟨by rfl, ?y5⟩) (by assumption) ?_
              case y5 => (intro w hSw; (try dsimp only at hSw); go_simp; first | done | with_reducible rfl)
              (try simp only [Act.put, List.setIfInBounds_toArray, List.set_cons_zero, List.set_cons_succ])
              refine wpAnyH_take (i := 5) (oi := Oper.mk (some 84) _ _ _ _ _) (v := ?v6) rfl (by kernel_rfl) (by kernel_rfl) (by kernel_rfl) (fun _ _ _ h => h) (Or.inl ⟨by rfl, ?y6⟩) (by assumption) ?_
              case y6 => (intro w hSw; (try dsimp only at hSw); go_simp; first | done | with_reducible rfl)
              (try simp only [Act.put, List.setIfInBounds_toArray, List.set_cons_zero, List.set_cons_succ])
              refine wpAnyH_take (i := 6) (oi := Oper.mk (some 85) _ _ _ _ _) (v := ?v7) rfl (by kernel_rfl) (by kernel_rfl) (by kernel_rfl) (fun _ _ _ h => h) (Or.inl ⟨by rfl, ?y7⟩) (by assumption) ?_
              case y7 => (intro w hSw; (try dsimp only at hSw); go_simp; first | done | with_reducible rfl)
              (try simp only [Act.put, List.setIfInBounds_toArray, List.set_cons_zero, List.set_cons_succ])
              refine wpAnyH_ready (rs := [8]) (by kernel_rfl) (by simp) ?_
              refine AllReadyH.cons (o := Oper.mk none _ _ _ _ _) rfl (fun K hK => ?_) ?_
              · refine step_store41 (by rfl) (.tmp 15) (.tmp 84) (by rfl) (W1.heap.size) _ X (above_row hbC rZ2) (by rfl) (by rfl) (read_one' hX1) ?_
                have B4 := B3.trans (setRow_below (b := zz.heap.size) (B := W1.heap.size) B1.size (dirOf X))
                refine hK.out _ _ (keep3 B4 hlt3 gz) (fun hHeld => ?_)
                clear hK K
                (try simp only [Act.put])
                refine wpAnyH_take (i := 9) (oi := Oper.mk (some 16) _ _ _ _ _) (v := ?v8) rfl (by kernel_rfl) (by kernel_rfl) (by kernel_rfl) (fun _ _ _ h => h) (Or.inl ⟨by rfl, ?y8⟩) (by assumption) ?_
                case y8 => (intro w hSw; (try dsimp only at hSw); go_simp; first | done | with_reducible rfl)
                (try simp only [Act.put, List.setIfInBounds_toArray, List.set_cons_zero, List.set_cons_succ])
                refine wpAnyH_done (by kernel_rfl) ?_ _
                go_wp2_with fail
                go_meet
                exact ⟨W1.heap.size, X, rfl, rfl, setRow_row X (above_row hbC rZ2), hX1, above_row B4 HrG7.out, errType_above Hg7.out B4, Hb7.out.trans (B4.mono Hb7.out.size)⟩
              exact AllReadyH.nil
            exact AllReadyH.nil
          exact AllReadyH.nil
        refine AllReadyH.cons (o := Oper.mk (some 15) _ _ _ _ _) rfl (fun K hK => ?_) ?_
        · go_simp
          rw [zero_lit]
          have rZ1 := row_dirOf (zz.drew) zF
          have bZ1 := Below.alloc (Below.refl (zz.drew).heap.size (zz.drew)) (Nat.le_refl _) (.cells (dirOf zF) 41)
          have B1 := B0.trans (bZ1.mono B0.size)
          refine hK.out _ _ (keep3 B1 hlt3 gz) (fun hHeld => ?_)
          clear hK K
          (try simp only [Act.put, List.setIfInBounds_toArray, List.set_cons_zero, List.set_cons_succ])
          refine wpAnyH_ready (rs := [1]) (by kernel_rfl) (by simp) ?_
          refine AllReadyH.cons (o := Oper.mk (some 81) _ _ _ _ _) rfl (fun K hK => ?_) ?_
          · refine step_append_words (by rfl) _ _ (by rfl) A m cp f (by rfl) (by rfl) (lies_above B1 HLz.out) (by omega) ?_
            intro A2 c2 W2 hbA hcp
            have B2 := B1.trans (hbA.mono B1.size)
            refine hK.out _ _ (keep3 B2 hlt3 gz) (fun hHeld => ?_)
            clear hK K
            (try simp only [Act.put, List.setIfInBounds_toArray, List.set_cons_zero, List.set_cons_succ])
            refine wpAnyH_ready (rs := [3]) (by kernel_rfl) (by simp) ?_
            refine AllReadyH.cons (o := Oper.mk (some 83) _ _ _ _ _) rfl (fun K hK => ?_) ?_
            · go_simp
              refine (read_any A2 m c2 f p i b _ (errType_above Hg7.out B2) Hf.out (copied_read hcp (Below.refl _ _))).mono ?_
              rintro e W3 ⟨⟨X, hX1, rfl⟩, hbC⟩
              have B3 := B2.trans (hbC.mono B2.size)
              go_simp
              refine hK.out _ _ (keep3 B3 hlt3 gz) (fun hHeld => ?_)
              clear hK K
              (try simp only [Act.put, List.setIfInBounds_toArray, List.set_cons_zero, List.set_cons_succ])
              refine wpAnyH_take (i := 4) (oi := Oper.mk (some 79) _ _ _ _ _) (v := ?v9) rfl (by kernel_rfl) (by kernel_rfl) (by kernel_rfl) (fun _ _ _ h => h) (Or.inl ⟨by rfl, ?y9⟩) (by assumption) ?_
              case y9 => (intro w hSw; (try dsimp only at hSw); go_simp; first | done | with_reducible rfl)
              (try simp only [Act.put, List.setIfInBounds_toArray, List.set_cons_zero, List.set_cons_succ])
              refine wpAnyH_take (i := 5) (oi := Oper.mk (some 84) _ _ _ _ _) (v := ?v10) rfl (by kernel_rfl) (by kernel_rfl) (by kernel_rfl) (fun _ _ _ h => h) (Or.inl ⟨by rfl, ?y10⟩) (by assumption) ?_
              case y10 => (intro w hSw; (try dsimp only at hSw); go_simp; first | done | with_reducible rfl)
              (try simp only [Act.put, List.setIfInBounds_toArray, List.set_cons_zero, List.set_cons_succ])
              refine wpAnyH_take (i := 6) (oi := Oper.mk (some 85) _ _ _ _ _) (v := ?v11) rfl (by kernel_rfl) (by kernel_rfl) (by kernel_rfl) (fun _ _ _ h => h) (Or.inl ⟨by rfl, ?y11⟩) (by assumption) ?_
              case y11 => (intro w hSw; (try dsimp only at hSw); go_simp; first | done | with_reducible rfl)
              (try simp only [Act.put, List.setIfInBounds_toArray, List.set_cons_zero, List.set_cons_succ])
              refine wpAnyH_ready (rs := [8]) (by kernel_rfl) (by simp) ?_
              refine AllReadyH.cons (o := Oper.mk none _ _ _ _ _) rfl (fun K hK => ?_) ?_
              · refine step_store41 (by rfl) (.tmp 15) (.tmp 84) (by rfl) (zz.drew.heap.size) _ X (above_row hbC (above_row hbA rZ1)) (by rfl) (by rfl) (read_one' hX1) ?_
                have B4 := B3.trans (setRow_below (b := zz.heap.size) (B := zz.drew.heap.size) B0.size (dirOf X))
                refine hK.out _ _ (keep3 B4 hlt3 gz) (fun hHeld => ?_)
                clear hK K
                (try simp only [Act.put])
                refine wpAnyH_take (i := 9) (oi := Oper.mk (some 16) _ _ _ _ _) (v := ?v12) rfl (by kernel_rfl) (by kernel_rfl) (by kernel_rfl) (fun _ _ _ h => h) (Or.inl ⟨by rfl, ?y12⟩) (by assumption) ?_
                case y12 => (intro w hSw; (try dsimp only at hSw); go_simp; first | done | with_reducible rfl)
                (try simp only [Act.put, List.setIfInBounds_toArray, List.set_cons_zero, List.set_cons_succ])
                refine wpAnyH_done (by kernel_rfl) ?_ _
                go_wp2_with fail
                go_meet
                exact ⟨zz.drew.heap.size, X, rfl, rfl, setRow_row X (above_row hbC (above_row hbA rZ1)), hX1, above_row B4 HrG7.out, errType_above Hg7.out B4, Hb7.out.trans (B4.mono Hb7.out.size)⟩
              exact AllReadyH.nil
            exact AllReadyH.nil
          exact AllReadyH.nil
        exact AllReadyH.nil
      case rest =>
        obtain ⟨gx, X, rfl, rfl, hrX, hX, hrG, hgx, hBx⟩ := hcut
        have HrX9 := hid hrX
        have HrG9 := hid hrG
        have Hg9 := hid hgx
        have Hb9 := hid hBx
        clear hrX hrG hgx hBx
        rcases hX with ⟨hn, hX⟩ | ⟨hn, rfl⟩
        · obtain ⟨hm32, hB32, hW32⟩ := readR_none hn
          rw [hn]
          have HX := hid hX
          have HW32 := hid hW32
          have HB32 := hid hB32
          clear hX hW32 hB32 hn
          subst hm32
          obtain ⟨ad, hA, hadl, hadc⟩ : ∃ ad, A = some ad ∧ ad.block < w.heap.size ∧ ∀ k, k < 32 → w.cell? (ad.add k) = some (.int .u64 (f k : Nat)) := by
            rcases HL.out with h | h
            · cases h
            · exact h
          subst hA
          have Hadl := hid hadl
          have Hadc := hid hadc
          clear hadl hadc
          simp only [errV]
          go_wp2_with (first
            | refine wpList_load41 rfl 95 rfl (.tmp 15) rfl gx rfl X HrX9.out ?_
            | refine wpList_load3 rfl 96 rfl 25 (.tmp 7) rfl (w.heap.size + 1 + 1) rfl (fun j => if j = 0 then .int .i64 p else if j = 1 then .int .i64 i else .int .i64 b) _ Tryd.underlying25 rfl info25 HrG9.out ?_)
          refine (block_yes (dirOf X) ((f 0 % 256 : Nat) : Int) p i b (rIno f) (rKind f) (rNm f) _ HX.out.dir HB32.out).mono ?_
          rintro e y1 ⟨g2, cap2, R2, rfl, hg2, hc2, hR2, hf2, hb⟩
          have Hb10 := hid (Hb9.out.trans (hb.mono Hb9.out.size))
          have Hg10 := hid (errType_above Hg9.out hb)
          have HR2 := hid hR2
          have Hf2 := hid hf2
          clear hb hR2 hf2
          have hs1 := same_go ⟨g2, 0, none⟩ ad 32 cap2 cp (fun j => (f j : Nat)) (fun j => (f j : Nat)) y1 (by omega) (fun j hj => by
            rw [show (⟨g2, 0, none⟩ : Addr).add j = ⟨g2, j, none⟩ by unfold Addr.add; split <;> simp_all, HR2.out.cell (by omega), Hf2.out j hj, HW32.out j hj]) (fun j hj => (Hb10.out.cell (p := ad.add j) (by unfold Addr.add; split <;> exact Hadl.out)).trans (Hadc.out j hj))
          have Hsame := hid (hs1.mono (R' := fun e y => e = .returned (.bool true) ∧ Below y1.heap.size y1 y) (fun e y h => ⟨h.1.trans (by rw [decide_eq_true (fun _ _ => rfl)]), h.2⟩))
          clear hs1
          go_wp2_with fail
          refine Hsame.out.mono ?_
          rintro e y2 ⟨rfl, hb⟩
          have Hb11 := hid (Hb10.out.trans (hb.mono Hb10.out.size))
          have Hg11 := hid (errType_above Hg10.out hb)
          clear hb Hsame
          go_wp2_with fail
          refine (alive_any _ Hg11.out).mono ?_
          rintro e y3 ⟨rfl, hb⟩
          have Hb12 := hid (Hb11.out.trans (hb.mono Hb11.out.size))
          clear hb
          go_wp2
          go_ret
          exact ⟨rfl, Hb12.out⟩
        · obtain ⟨ra, hra⟩ : ∃ ra, readR m f p i b = some ra := Option.ne_none_iff_exists'.1 hn
          obtain ⟨ra, re⟩ := ra
          rw [hra]
          clear hra hn
          simp only [errV]
          have hq41 : ∀ W, (binOp .eql 41 (.agg (dirOf zF)) (.agg #[.int .i64 0, .int .i64 0, .int .u8 0, .string ⟨#[]⟩, .int .i64 0, .int .u8 0, .string ⟨#[]⟩, .int .i64 0, .int .u8 0, .string ⟨#[]⟩, .int .i64 0, .int .u8 0, .string ⟨#[]⟩, .int .i64 0, .int .u8 0, .string ⟨#[]⟩, .int .i64 0, .int .u8 0, .string ⟨#[]⟩, .int .i64 0, .int .u8 0, .string ⟨#[]⟩, .int .i64 0, .int .u8 0, .string ⟨#[]⟩, .int .i64 0, .int .u8 0, .string ⟨#[]⟩, .int .i64 0, .int .u8 0, .string ⟨#[]⟩])).run Tryd.prog W = .ok (.bool true) W := fun W => by rw [zero_lit]; exact eq41 zF_is.dir W
          go_wp2_with (refine wpList_load41 rfl 88 rfl (.tmp 15) rfl gx rfl zF HrX9.out ?_)
          refine (alive_any _ Hg9.out).mono ?_
          rintro e y3 ⟨rfl, hb⟩
          have Hb12 := hid (Hb9.out.trans (hb.mono Hb9.out.size))
          clear hb
          go_wp2
          go_ret
          exact ⟨rfl, Hb12.out⟩
    · refine (block_yes (dirOf F) next p i b ino kind nm _ HF.out.dir hbb).mono ?_
      rintro e z1 ⟨g2, cap2, R2, rfl, hg2, hc2, hR2, hf2, hb⟩
      have HrC5 := hid (above_row hb HrC2.out)
      have HrG5 := hid (above_row hb HrG2.out)
      have Hb5 := hid (Hb2.out.trans (hb.mono Hb2.out.size))
      have Hg5 := hid (errType_above Hg2.out hb)
      have HR2 := hid hR2
      have Hf2 := hid hf2
      clear hb hR2 hf2
      go_wp2_with (refine wpList_load3 rfl 68 rfl 25 (.tmp 7) rfl (w.heap.size + 1 + 1) rfl (fun j => if j = 0 then .int .i64 p else if j = 1 then .int .i64 i else .int .i64 b) _ Tryd.underlying25 rfl info25 HrG5.out ?_)
      refine (read_block g2 cap2 next p i b ino kind nm _ Hg5.out hbb HR2.out.lt hc2 (fun k hk => by rw [HR2.out.cell (by omega), Hf2.out k hk]) HF.out).mono ?_
      rintro e z2 ⟨rfl, hb⟩
      have HrC6 := hid (above_row hb HrC5.out)
      have HrG6 := hid (above_row hb HrG5.out)
      have Hb6 := hid (Hb5.out.trans (hb.mono Hb5.out.size))
      have Hg6 := hid (errType_above Hg5.out hb)
      have hq41 := neq41 HF.out.dir
      clear hb
      have HrG7 := hid (HrG6.out.alloc (.cells (dirOf F) 41))
      have Hb7 := hid (Hb6.out.alloc Hb6.out.size (.cells (dirOf F) 41))
      have Hg7 := hid (errType_alloc Hg6.out (.cells (dirOf F) 41))
      go_wp2_with (first
        | refine wpList_store_new (w := z2) rfl (.tmp 13) (.tmp 70) rfl _ (dirOf F) rfl rfl rfl ?hc (dirOf_size F) HF.out.one ?_
        | refine wpList_load41 rfl 72 rfl (.tmp 13) rfl z2.heap.size rfl F (row_dirOf z2 F) ?_
        | refine wpList_load41 rfl 73 rfl (.tmp 5) rfl (w.heap.size + 1) rfl F (HrC6.out.alloc _) ?_)
      case hc => rw [dirOf_size]; rfl
      clear hq41
      generalize z2.alloc (.cells (dirOf F) 41) = zz at *
      have HLz := hid (lies_above Hb7.out HL.out)
      have hlt3 := HrG7.out.lt
      have gz := three _ _ _ _ HrG7.out
      replace gz := (⟨gz.1, gz.2.1, gz.2.2.1⟩ : zz.cell? ⟨(w.heap.size + 1 + 1), 0, none⟩ = some (.int .i64 p) ∧ zz.cell? ⟨(w.heap.size + 1 + 1), 1, none⟩ = some (.int .i64 i) ∧ zz.cell? ⟨(w.heap.size + 1 + 1), 2, none⟩ = some (.int .i64 b))
      go_cut [15, 16] (fun v15 v16 wx => ∃ gx X, v15 = .pointer (some ⟨gx, 0, none⟩) ∧ v16 = errV (readR m f p i b) ∧ wx.rowIs gx 41 31 X ∧ ((readR m f p i b = none ∧ CellsIs X ((f 0 % 256 : Nat) : Int) (rIno f) (rKind f) (rNm f)) ∨ (readR m f p i b ≠ none ∧ X = zF)) ∧
        wx.rowIs (w.heap.size + 1 + 1) 25 3 (fun j => if j = 0 then .int .i64 p else if j = 1 then .int .i64 i else .int .i64 b) ∧ ErrType wx ∧ Below w.heap.size w wx)
      case first =>
        have B0 := (Below.refl zz.heap.size zz).drew
        refine wp_region_held_drew (S := fun w' => w'.cell? ⟨(w.heap.size + 1 + 1), 0, none⟩ = some (.int .i64 p) ∧ w'.cell? ⟨(w.heap.size + 1 + 1), 1, none⟩ = some (.int .i64 i) ∧ w'.cell? ⟨(w.heap.size + 1 + 1), 2, none⟩ = some (.int .i64 b)) (by kernel_rfl) gz (fun hHeld => ?_)
        refine wpAnyH_take (i := 0) (oi := Oper.mk (some 80) _ _ _ _ _) (v := ?v27) rfl (by kernel_rfl) (by kernel_rfl) (by kernel_rfl) (fun _ _ _ h => h) (Or.inl ⟨by rfl, ?y27⟩) (by assumption) ?_
        case y27 => (intro w hSw; (try dsimp only at hSw); go_simp; first | done | with_reducible rfl)
        (try simp only [Act.put, List.setIfInBounds_toArray, List.set_cons_zero, List.set_cons_succ])
        refine wpAnyH_take (i := 2) (oi := Oper.mk (some 82) _ _ _ _ _) (v := ?v28) rfl (by kernel_rfl) (by kernel_rfl) (by kernel_rfl) (fun _ _ _ h => h) (Or.inl ⟨by rfl, ?y28⟩) (by assumption) ?_
        case y28 => (intro w hSw; (try dsimp only at hSw); go_simp; first | done | with_reducible rfl)
        (try simp only [Act.put, List.setIfInBounds_toArray, List.set_cons_zero, List.set_cons_succ])
        refine wpAnyH_ready (rs := [1, 7]) (by kernel_rfl) (by simp) ?_
        refine AllReadyH.cons (o := Oper.mk (some 81) _ _ _ _ _) rfl (fun K hK => ?_) ?_
        · refine step_append_words (by rfl) _ _ (by rfl) A m cp f (by rfl) (by rfl) (lies_above B0 HLz.out) (by omega) ?_
          intro A2 c2 W1 hbA hcp
          have B1 := B0.trans (hbA.mono B0.size)
          refine hK.out _ _ (keep3 B1 hlt3 gz) (fun hHeld => ?_)
          clear hK K
          (try simp only [Act.put, List.setIfInBounds_toArray, List.set_cons_zero, List.set_cons_succ])
          refine wpAnyH_ready (rs := [3, 7]) (by kernel_rfl) (by simp) ?_
          refine AllReadyH.cons (o := Oper.mk (some 83) _ _ _ _ _) rfl (fun K hK => ?_) ?_
          · go_simp
            refine (read_any A2 m c2 f p i b _ (errType_above Hg7.out B1) Hf.out (copied_read hcp (Below.refl _ _))).mono ?_
            rintro e W2 ⟨⟨X, hX1, rfl⟩, hbC⟩
            have B2 := B1.trans (hbC.mono B1.size)
            go_simp
            refine hK.out _ _ (keep3 B2 hlt3 gz) (fun hHeld => ?_)
            clear hK K
            (try simp only [Act.put, List.setIfInBounds_toArray, List.set_cons_zero, List.set_cons_succ])
            refine wpAnyH_take (i := 4) (oi := Oper.mk (some 79) _ _ _ _ _) (v := ?v15) rfl (by kernel_rfl) (by kernel_rfl) (by kernel_rfl) (fun _ _ _ h => h) (Or.inl ⟨by rfl, ?y15⟩) (by assumption) ?_
            case y15 => (intro w hSw; (try dsimp only at hSw); go_simp; first | done | with_reducible rfl)
            (try simp only [Act.put, List.setIfInBounds_toArray, List.set_cons_zero, List.set_cons_succ])
            refine wpAnyH_take (i := 5) (oi := Oper.mk (some 84) _ _ _ _ _) (v := ?v16) rfl (by kernel_rfl) (by kernel_rfl) (by kernel_rfl) (fun _ _ _ h => h) (Or.inl ⟨by rfl, ?y16⟩) (by assumption) ?_
            case y16 => (intro w hSw; (try dsimp only at hSw); go_simp; first | done | with_reducible rfl)
            (try simp only [Act.put, List.setIfInBounds_toArray, List.set_cons_zero, List.set_cons_succ])
            refine wpAnyH_take (i := 6) (oi := Oper.mk (some 85) _ _ _ _ _) (v := ?v17) rfl (by kernel_rfl) (by kernel_rfl) (by kernel_rfl) (fun _ _ _ h => h) (Or.inl ⟨by rfl, ?y17⟩) (by assumption) ?_
            case y17 => (intro w hSw; (try dsimp only at hSw); go_simp; first | done | with_reducible rfl)
            (try simp only [Act.put, List.setIfInBounds_toArray, List.set_cons_zero, List.set_cons_succ])
            refine wpAnyH_ready (rs := [7]) (by kernel_rfl) (by simp) ?_
            refine AllReadyH.cons (o := Oper.mk (some 15) _ _ _ _ _) rfl (fun K hK => ?_) ?_
            · go_simp
              rw [zero_lit]
              have rZ3 := row_dirOf (W2) zF
              have bZ3 := Below.alloc (Below.refl (W2).heap.size (W2)) (Nat.le_refl _) (.cells (dirOf zF) 41)
              have B3 := B2.trans (bZ3.mono B2.size)
              refine hK.out _ _ (keep3 B3 hlt3 gz) (fun hHeld => ?_)
              clear hK K
              (try simp only [Act.put, List.setIfInBounds_toArray, List.set_cons_zero, List.set_cons_succ])
              refine wpAnyH_ready (rs := [8]) (by kernel_rfl) (by simp) ?_
              refine AllReadyH.cons (o := Oper.mk none _ _ _ _ _) rfl (fun K hK => ?_) ?_
              · refine step_store41 (by rfl) (.tmp 15) (.tmp 84) (by rfl) (W2.heap.size) _ X (rZ3) (by rfl) (by rfl) (read_one' hX1) ?_
                have B4 := B3.trans (setRow_below (b := zz.heap.size) (B := W2.heap.size) B2.size (dirOf X))
                refine hK.out _ _ (keep3 B4 hlt3 gz) (fun hHeld => ?_)
                clear hK K
                (try simp only [Act.put])
                refine wpAnyH_take (i := 9) (oi := Oper.mk (some 16) _ _ _ _ _) (v := ?v18) rfl (by kernel_rfl) (by kernel_rfl) (by kernel_rfl) (fun _ _ _ h => h) (Or.inl ⟨by rfl, ?y18⟩) (by assumption) ?_
                case y18 => (intro w hSw; (try dsimp only at hSw); go_simp; first | done | with_reducible rfl)
                (try simp only [Act.put, List.setIfInBounds_toArray, List.set_cons_zero, List.set_cons_succ])
                refine wpAnyH_done (by kernel_rfl) ?_ _
                go_wp2_with fail
                go_meet
                exact ⟨W2.heap.size, X, rfl, rfl, setRow_row X (rZ3), hX1, above_row B4 HrG7.out, errType_above Hg7.out B4, Hb7.out.trans (B4.mono Hb7.out.size)⟩
              exact AllReadyH.nil
            exact AllReadyH.nil
          refine AllReadyH.cons (o := Oper.mk (some 15) _ _ _ _ _) rfl (fun K hK => ?_) ?_
          · go_simp
            rw [zero_lit]
            have rZ2 := row_dirOf (W1) zF
            have bZ2 := Below.alloc (Below.refl (W1).heap.size (W1)) (Nat.le_refl _) (.cells (dirOf zF) 41)
            have B2 := B1.trans (bZ2.mono B1.size)
            refine hK.out _ _ (keep3 B2 hlt3 gz) (fun hHeld => ?_)
            clear hK K
            (try simp only [Act.put, List.setIfInBounds_toArray, List.set_cons_zero, List.set_cons_succ])
            refine wpAnyH_ready (rs := [3]) (by kernel_rfl) (by simp) ?_
            refine AllReadyH.cons (o := Oper.mk (some 83) _ _ _ _ _) rfl (fun K hK => ?_) ?_
            · go_simp
              refine (read_any A2 m c2 f p i b _ (errType_above Hg7.out B2) Hf.out (copied_read hcp bZ2)).mono ?_
              rintro e W3 ⟨⟨X, hX1, rfl⟩, hbC⟩
              have B3 := B2.trans (hbC.mono B2.size)
              go_simp
              refine hK.out _ _ (keep3 B3 hlt3 gz) (fun hHeld => ?_)
              clear hK K
              (try simp only [Act.put, List.setIfInBounds_toArray, List.set_cons_zero, List.set_cons_succ])
              refine wpAnyH_take (i := 4) (oi := Oper.mk (some 79) _ _ _ _ _) (v := ?v19) rfl (by kernel_rfl) (by kernel_rfl) (by kernel_rfl) (fun _ _ _ h => h) (Or.inl ⟨by rfl, ?y19⟩) (by assumption) ?_
              case y19 => (intro w hSw; (try dsimp only at hSw); go_simp; first | done | with_reducible rfl)
              (try simp only [Act.put, List.setIfInBounds_toArray, List.set_cons_zero, List.set_cons_succ])
              refine wpAnyH_take (i := 5) (oi := Oper.mk (some 84) _ _ _ _ _) (v := ?v20) rfl (by kernel_rfl) (by kernel_rfl) (by kernel_rfl) (fun _ _ _ h => h) (Or.inl ⟨by rfl, ?y20⟩) (by assumption) ?_
              case y20 => (intro w hSw; (try dsimp only at hSw); go_simp; first | done | with_reducible rfl)
              (try simp only [Act.put, List.setIfInBounds_toArray, List.set_cons_zero, List.set_cons_succ])
              refine wpAnyH_take (i := 6) (oi := Oper.mk (some 85) _ _ _ _ _) (v := ?v21) rfl (by kernel_rfl) (by kernel_rfl) (by kernel_rfl) (fun _ _ _ h => h) (Or.inl ⟨by rfl, ?y21⟩) (by assumption) ?_
              case y21 => (intro w hSw; (try dsimp only at hSw); go_simp; first | done | with_reducible rfl)
              (try simp only [Act.put, List.setIfInBounds_toArray, List.set_cons_zero, List.set_cons_succ])
              refine wpAnyH_ready (rs := [8]) (by kernel_rfl) (by simp) ?_
              refine AllReadyH.cons (o := Oper.mk none _ _ _ _ _) rfl (fun K hK => ?_) ?_
              · refine step_store41 (by rfl) (.tmp 15) (.tmp 84) (by rfl) (W1.heap.size) _ X (above_row hbC rZ2) (by rfl) (by rfl) (read_one' hX1) ?_
                have B4 := B3.trans (setRow_below (b := zz.heap.size) (B := W1.heap.size) B1.size (dirOf X))
                refine hK.out _ _ (keep3 B4 hlt3 gz) (fun hHeld => ?_)
                clear hK K
                (try simp only [Act.put])
                refine wpAnyH_take (i := 9) (oi := Oper.mk (some 16) _ _ _ _ _) (v := ?v22) rfl (by kernel_rfl) (by kernel_rfl) (by kernel_rfl) (fun _ _ _ h => h) (Or.inl ⟨by rfl, ?y22⟩) (by assumption) ?_
                case y22 => (intro w hSw; (try dsimp only at hSw); go_simp; first | done | with_reducible rfl)
                (try simp only [Act.put, List.setIfInBounds_toArray, List.set_cons_zero, List.set_cons_succ])
                refine wpAnyH_done (by kernel_rfl) ?_ _
                go_wp2_with fail
                go_meet
                exact ⟨W1.heap.size, X, rfl, rfl, setRow_row X (above_row hbC rZ2), hX1, above_row B4 HrG7.out, errType_above Hg7.out B4, Hb7.out.trans (B4.mono Hb7.out.size)⟩
              exact AllReadyH.nil
            exact AllReadyH.nil
          exact AllReadyH.nil
        refine AllReadyH.cons (o := Oper.mk (some 15) _ _ _ _ _) rfl (fun K hK => ?_) ?_
        · go_simp
          rw [zero_lit]
          have rZ1 := row_dirOf (zz.drew) zF
          have bZ1 := Below.alloc (Below.refl (zz.drew).heap.size (zz.drew)) (Nat.le_refl _) (.cells (dirOf zF) 41)
          have B1 := B0.trans (bZ1.mono B0.size)
          refine hK.out _ _ (keep3 B1 hlt3 gz) (fun hHeld => ?_)
          clear hK K
          (try simp only [Act.put, List.setIfInBounds_toArray, List.set_cons_zero, List.set_cons_succ])
          refine wpAnyH_ready (rs := [1]) (by kernel_rfl) (by simp) ?_
          refine AllReadyH.cons (o := Oper.mk (some 81) _ _ _ _ _) rfl (fun K hK => ?_) ?_
          · refine step_append_words (by rfl) _ _ (by rfl) A m cp f (by rfl) (by rfl) (lies_above B1 HLz.out) (by omega) ?_
            intro A2 c2 W2 hbA hcp
            have B2 := B1.trans (hbA.mono B1.size)
            refine hK.out _ _ (keep3 B2 hlt3 gz) (fun hHeld => ?_)
            clear hK K
            (try simp only [Act.put, List.setIfInBounds_toArray, List.set_cons_zero, List.set_cons_succ])
            refine wpAnyH_ready (rs := [3]) (by kernel_rfl) (by simp) ?_
            refine AllReadyH.cons (o := Oper.mk (some 83) _ _ _ _ _) rfl (fun K hK => ?_) ?_
            · go_simp
              refine (read_any A2 m c2 f p i b _ (errType_above Hg7.out B2) Hf.out (copied_read hcp (Below.refl _ _))).mono ?_
              rintro e W3 ⟨⟨X, hX1, rfl⟩, hbC⟩
              have B3 := B2.trans (hbC.mono B2.size)
              go_simp
              refine hK.out _ _ (keep3 B3 hlt3 gz) (fun hHeld => ?_)
              clear hK K
              (try simp only [Act.put, List.setIfInBounds_toArray, List.set_cons_zero, List.set_cons_succ])
              refine wpAnyH_take (i := 4) (oi := Oper.mk (some 79) _ _ _ _ _) (v := ?v23) rfl (by kernel_rfl) (by kernel_rfl) (by kernel_rfl) (fun _ _ _ h => h) (Or.inl ⟨by rfl, ?y23⟩) (by assumption) ?_
              case y23 => (intro w hSw; (try dsimp only at hSw); go_simp; first | done | with_reducible rfl)
              (try simp only [Act.put, List.setIfInBounds_toArray, List.set_cons_zero, List.set_cons_succ])
              refine wpAnyH_take (i := 5) (oi := Oper.mk (some 84) _ _ _ _ _) (v := ?v24) rfl (by kernel_rfl) (by kernel_rfl) (by kernel_rfl) (fun _ _ _ h => h) (Or.inl ⟨by rfl, ?y24⟩) (by assumption) ?_
              case y24 => (intro w hSw; (try dsimp only at hSw); go_simp; first | done | with_reducible rfl)
              (try simp only [Act.put, List.setIfInBounds_toArray, List.set_cons_zero, List.set_cons_succ])
              refine wpAnyH_take (i := 6) (oi := Oper.mk (some 85) _ _ _ _ _) (v := ?v25) rfl (by kernel_rfl) (by kernel_rfl) (by kernel_rfl) (fun _ _ _ h => h) (Or.inl ⟨by rfl, ?y25⟩) (by assumption) ?_
              case y25 => (intro w hSw; (try dsimp only at hSw); go_simp; first | done | with_reducible rfl)
              (try simp only [Act.put, List.setIfInBounds_toArray, List.set_cons_zero, List.set_cons_succ])
              refine wpAnyH_ready (rs := [8]) (by kernel_rfl) (by simp) ?_
              refine AllReadyH.cons (o := Oper.mk none _ _ _ _ _) rfl (fun K hK => ?_) ?_
              · refine step_store41 (by rfl) (.tmp 15) (.tmp 84) (by rfl) (zz.drew.heap.size) _ X (above_row hbC (above_row hbA rZ1)) (by rfl) (by rfl) (read_one' hX1) ?_
                have B4 := B3.trans (setRow_below (b := zz.heap.size) (B := zz.drew.heap.size) B0.size (dirOf X))
                refine hK.out _ _ (keep3 B4 hlt3 gz) (fun hHeld => ?_)
                clear hK K
                (try simp only [Act.put])
                refine wpAnyH_take (i := 9) (oi := Oper.mk (some 16) _ _ _ _ _) (v := ?v26) rfl (by kernel_rfl) (by kernel_rfl) (by kernel_rfl) (fun _ _ _ h => h) (Or.inl ⟨by rfl, ?y26⟩) (by assumption) ?_
                case y26 => (intro w hSw; (try dsimp only at hSw); go_simp; first | done | with_reducible rfl)
                (try simp only [Act.put, List.setIfInBounds_toArray, List.set_cons_zero, List.set_cons_succ])
                refine wpAnyH_done (by kernel_rfl) ?_ _
                go_wp2_with fail
                go_meet
                exact ⟨zz.drew.heap.size, X, rfl, rfl, setRow_row X (above_row hbC (above_row hbA rZ1)), hX1, above_row B4 HrG7.out, errType_above Hg7.out B4, Hb7.out.trans (B4.mono Hb7.out.size)⟩
              exact AllReadyH.nil
            exact AllReadyH.nil
          exact AllReadyH.nil
        exact AllReadyH.nil
      case rest =>
        obtain ⟨gx, X, rfl, rfl, hrX, hX, hrG, hgx, hBx⟩ := hcut
        have HrX9 := hid hrX
        have HrG9 := hid hrG
        have Hg9 := hid hgx
        have Hb9 := hid hBx
        clear hrX hrG hgx hBx
        rcases hX with ⟨hn, hX⟩ | ⟨hn, rfl⟩
        · obtain ⟨hm32, hB32, hW32⟩ := readR_none hn
          rw [hn]
          have HX := hid hX
          have HW32 := hid hW32
          have HB32 := hid hB32
          clear hX hW32 hB32 hn
          subst hm32
          obtain ⟨ad, hA, hadl, hadc⟩ : ∃ ad, A = some ad ∧ ad.block < w.heap.size ∧ ∀ k, k < 32 → w.cell? (ad.add k) = some (.int .u64 (f k : Nat)) := by
            rcases HL.out with h | h
            · cases h
            · exact h
          subst hA
          have Hadl := hid hadl
          have Hadc := hid hadc
          clear hadl hadc
          simp only [errV]
          go_wp2_with (first
            | refine wpList_load41 rfl 95 rfl (.tmp 15) rfl gx rfl X HrX9.out ?_
            | refine wpList_load3 rfl 96 rfl 25 (.tmp 7) rfl (w.heap.size + 1 + 1) rfl (fun j => if j = 0 then .int .i64 p else if j = 1 then .int .i64 i else .int .i64 b) _ Tryd.underlying25 rfl info25 HrG9.out ?_)
          refine (block_yes (dirOf X) ((f 0 % 256 : Nat) : Int) p i b (rIno f) (rKind f) (rNm f) _ HX.out.dir HB32.out).mono ?_
          rintro e y1 ⟨g2, cap2, R2, rfl, hg2, hc2, hR2, hf2, hb⟩
          have Hb10 := hid (Hb9.out.trans (hb.mono Hb9.out.size))
          have Hg10 := hid (errType_above Hg9.out hb)
          have HR2 := hid hR2
          have Hf2 := hid hf2
          clear hb hR2 hf2
          have hs1 := same_go ⟨g2, 0, none⟩ ad 32 cap2 cp (fun j => (f j : Nat)) (fun j => (f j : Nat)) y1 (by omega) (fun j hj => by
            rw [show (⟨g2, 0, none⟩ : Addr).add j = ⟨g2, j, none⟩ by unfold Addr.add; split <;> simp_all, HR2.out.cell (by omega), Hf2.out j hj, HW32.out j hj]) (fun j hj => (Hb10.out.cell (p := ad.add j) (by unfold Addr.add; split <;> exact Hadl.out)).trans (Hadc.out j hj))
          have Hsame := hid (hs1.mono (R' := fun e y => e = .returned (.bool true) ∧ Below y1.heap.size y1 y) (fun e y h => ⟨h.1.trans (by rw [decide_eq_true (fun _ _ => rfl)]), h.2⟩))
          clear hs1
          go_wp2_with fail
          refine Hsame.out.mono ?_
          rintro e y2 ⟨rfl, hb⟩
          have Hb11 := hid (Hb10.out.trans (hb.mono Hb10.out.size))
          have Hg11 := hid (errType_above Hg10.out hb)
          clear hb Hsame
          go_wp2_with fail
          refine (alive_any _ Hg11.out).mono ?_
          rintro e y3 ⟨rfl, hb⟩
          have Hb12 := hid (Hb11.out.trans (hb.mono Hb11.out.size))
          clear hb
          go_wp2
          go_ret
          exact ⟨rfl, Hb12.out⟩
        · obtain ⟨ra, hra⟩ : ∃ ra, readR m f p i b = some ra := Option.ne_none_iff_exists'.1 hn
          obtain ⟨ra, re⟩ := ra
          rw [hra]
          clear hra hn
          simp only [errV]
          have hq41 : ∀ W, (binOp .eql 41 (.agg (dirOf zF)) (.agg #[.int .i64 0, .int .i64 0, .int .u8 0, .string ⟨#[]⟩, .int .i64 0, .int .u8 0, .string ⟨#[]⟩, .int .i64 0, .int .u8 0, .string ⟨#[]⟩, .int .i64 0, .int .u8 0, .string ⟨#[]⟩, .int .i64 0, .int .u8 0, .string ⟨#[]⟩, .int .i64 0, .int .u8 0, .string ⟨#[]⟩, .int .i64 0, .int .u8 0, .string ⟨#[]⟩, .int .i64 0, .int .u8 0, .string ⟨#[]⟩, .int .i64 0, .int .u8 0, .string ⟨#[]⟩, .int .i64 0, .int .u8 0, .string ⟨#[]⟩])).run Tryd.prog W = .ok (.bool true) W := fun W => by rw [zero_lit]; exact eq41 zF_is.dir W
          go_wp2_with (refine wpList_load41 rfl 88 rfl (.tmp 15) rfl gx rfl zF HrX9.out ?_)
          refine (alive_any _ Hg9.out).mono ?_
          rintro e y3 ⟨rfl, hb⟩
          have Hb12 := hid (Hb9.out.trans (hb.mono Hb9.out.size))
          clear hb
          go_wp2
          go_ret
          exact ⟨rfl, Hb12.out⟩
  · have hgs : gok p i b = true ∧ slotB a c s.data.toList i = true := by simpa [mayB] using hmy
    have hi64 := (gok_iff.1 hgs.1).2.2.2.1
    obtain ⟨s1, s2, s3, s4⟩ := dec_self a c i s.data.toList hi64 hgs.2
    have hwl : ∀ j, wordsF a c s.data.toList j < 18446744073709551616 := fun j => by
      rcases slotB_cases hgs.2 with ⟨e1, e2, e3⟩ | ⟨_, e2, _, e4, e5⟩
      · exact wordsF_lt' a c s.data.toList j (by omega) (by omega) (by rw [e3]; simp)
      · exact wordsF_lt' a c s.data.toList j (by omega) (by omega) (namedB_len e5).2
    have hmay := may_any a c p i b s
    rw [hmy] at hmay
    have Hmay := hid hmay
    have Hdec : Hid (∀ (W : World) (g : Nat), W.rowIs g 67 3 (fun j => .int .u64 (wordsF a c s.data.toList j : Nat)) → Calls Tryd.prog 10 #[.slice (some ⟨g, 0, none⟩) 3 3, .agg #[.int .i64 p, .int .i64 i, .int .i64 b]] W fun e w' => e = .returned (.tuple #[.agg #[.int .i64 a, .int .u8 c, .string s], .nilIface]) ∧ Below W.heap.size W w') := hid fun W g hr => by
      have h := decode_ok ⟨g, 0, none⟩ 3 (wordsF a c s.data.toList) p i b W hgs.1 hr.lt (by omega) hwl (fun r hr3 => by rw [Addr.add_mid, Nat.zero_add]; exact hr.cell hr3) s1
      rw [s2, s3, bytes_eq s _ s4] at h
      exact h
    clear hmay hwl s1 s2 s3 s4 hgs hi64
    refine (encode_yes a c p i b s _ hmy).mono ?_
    rintro e v1 ⟨g1, rfl, hg1, hR1, hb⟩
    have HrX2 := hid (above_row hb HrX1.out)
    have HrC2 := hid (above_row hb HrC1.out)
    have HrG2 := hid (above_row hb HrG1.out)
    have Hb2 := hid (Hb1.out.trans (hb.mono Hb1.out.size))
    have Hg2 := hid (errType_above Hg1.out hb)
    have HR1 := hid hR1
    clear hb hR1 hmy
    go_wp2_with (refine wpList_load3 rfl 41 rfl 25 (.tmp 7) rfl (w.heap.size + 1 + 1) rfl (fun j => if j = 0 then .int .i64 p else if j = 1 then .int .i64 i else .int .i64 b) _ Tryd.underlying25 rfl info25 HrG2.out ?_)
    refine (Hdec.out _ g1 HR1.out).mono ?_
    rintro e v2 ⟨rfl, hb⟩
    have rX3 := above_row hb HrX2.out
    have x3 := three _ _ _ _ (rX3.alloc (.cells #[.int .i64 a, .int .u8 c, .string s] 23))
    have y3 := three _ _ _ _ ((above_row hb HrG2.out).alloc (.cells #[.int .i64 a, .int .u8 c, .string s] 23))
    simp at x3 y3
    have HrX3 := hid rX3
    have HrC3 := hid (above_row hb HrC2.out)
    have HrG3 := hid (above_row hb HrG2.out)
    have Hb3 := hid (Hb2.out.trans (hb.mono Hb2.out.size))
    have Hg3 := hid (errType_above Hg2.out hb)
    have hq := neq_slot_yes a c s
    clear hb rX3
    go_wp2_with fail
    refine (Hmay.out _).mono ?_
    rintro e v3 ⟨rfl, hb⟩
    have HrC4 := hid (above_row hb (HrC3.out.alloc _))
    have HrG4 := hid (above_row hb (HrG3.out.alloc _))
    have Hb4 := hid ((Hb3.out.alloc Hb3.out.size _).trans (hb.mono (by have := Hb3.out.size; simp; omega)))
    have Hg4 := hid (errType_above (errType_alloc Hg3.out _) hb)
    clear hb x3 y3
    go_wp2_with (first
      | refine wpList_load41 rfl 59 rfl (.tmp 5) rfl (w.heap.size + 1) rfl F HrC4.out ?_
      | refine wpList_load3 rfl 60 rfl 25 (.tmp 7) rfl (w.heap.size + 1 + 1) rfl (fun j => if j = 0 then .int .i64 p else if j = 1 then .int .i64 i else .int .i64 b) _ Tryd.underlying25 rfl info25 HrG4.out ?_)
    cases hbb : blockB next ino kind nm p i b
    · refine (block_no (dirOf F) next p i b ino kind nm _ HF.out.dir hbb).mono ?_
      rintro e zz ⟨rfl, hb⟩
      have HrG7 := hid (above_row hb HrG4.out)
      have Hb7 := hid (Hb4.out.trans (hb.mono Hb4.out.size))
      have Hg7 := hid (errType_above Hg4.out hb)
      clear hb
      go_wp2_with fail
      have HLz := hid (lies_above Hb7.out HL.out)
      have hlt3 := HrG7.out.lt
      have gz := three _ _ _ _ HrG7.out
      replace gz := (⟨gz.1, gz.2.1, gz.2.2.1⟩ : zz.cell? ⟨(w.heap.size + 1 + 1), 0, none⟩ = some (.int .i64 p) ∧ zz.cell? ⟨(w.heap.size + 1 + 1), 1, none⟩ = some (.int .i64 i) ∧ zz.cell? ⟨(w.heap.size + 1 + 1), 2, none⟩ = some (.int .i64 b))
      go_cut [15, 16] (fun v15 v16 wx => ∃ gx X, v15 = .pointer (some ⟨gx, 0, none⟩) ∧ v16 = errV (readR m f p i b) ∧ wx.rowIs gx 41 31 X ∧ ((readR m f p i b = none ∧ CellsIs X ((f 0 % 256 : Nat) : Int) (rIno f) (rKind f) (rNm f)) ∨ (readR m f p i b ≠ none ∧ X = zF)) ∧
        wx.rowIs (w.heap.size + 1 + 1) 25 3 (fun j => if j = 0 then .int .i64 p else if j = 1 then .int .i64 i else .int .i64 b) ∧ ErrType wx ∧ Below w.heap.size w wx)
      case first =>
        have B0 := (Below.refl zz.heap.size zz).drew
        refine wp_region_held_drew (S := fun w' => w'.cell? ⟨(w.heap.size + 1 + 1), 0, none⟩ = some (.int .i64 p) ∧ w'.cell? ⟨(w.heap.size + 1 + 1), 1, none⟩ = some (.int .i64 i) ∧ w'.cell? ⟨(w.heap.size + 1 + 1), 2, none⟩ = some (.int .i64 b)) (by kernel_rfl) gz (fun hHeld => ?_)
        refine wpAnyH_take (i := 0) (oi := Oper.mk (some 80) _ _ _ _ _) (v := ?v41) rfl (by kernel_rfl) (by kernel_rfl) (by kernel_rfl) (fun _ _ _ h => h) (Or.inl ⟨by rfl, ?y41⟩) (by assumption) ?_
        case y41 => (intro w hSw; (try dsimp only at hSw); go_simp; first | done | with_reducible rfl)
        (try simp only [Act.put, List.setIfInBounds_toArray, List.set_cons_zero, List.set_cons_succ])
        refine wpAnyH_take (i := 2) (oi := Oper.mk (some 82) _ _ _ _ _) (v := ?v42) rfl (by kernel_rfl) (by kernel_rfl) (by kernel_rfl) (fun _ _ _ h => h) (Or.inl ⟨by rfl, ?y42⟩) (by assumption) ?_
        case y42 => (intro w hSw; (try dsimp only at hSw); go_simp; first | done | with_reducible rfl)
        (try simp only [Act.put, List.setIfInBounds_toArray, List.set_cons_zero, List.set_cons_succ])
        refine wpAnyH_ready (rs := [1, 7]) (by kernel_rfl) (by simp) ?_
        refine AllReadyH.cons (o := Oper.mk (some 81) _ _ _ _ _) rfl (fun K hK => ?_) ?_
        · refine step_append_words (by rfl) _ _ (by rfl) A m cp f (by rfl) (by rfl) (lies_above B0 HLz.out) (by omega) ?_
          intro A2 c2 W1 hbA hcp
          have B1 := B0.trans (hbA.mono B0.size)
          refine hK.out _ _ (keep3 B1 hlt3 gz) (fun hHeld => ?_)
          clear hK K
          (try simp only [Act.put, List.setIfInBounds_toArray, List.set_cons_zero, List.set_cons_succ])
          refine wpAnyH_ready (rs := [3, 7]) (by kernel_rfl) (by simp) ?_
          refine AllReadyH.cons (o := Oper.mk (some 83) _ _ _ _ _) rfl (fun K hK => ?_) ?_
          · go_simp
            refine (read_any A2 m c2 f p i b _ (errType_above Hg7.out B1) Hf.out (copied_read hcp (Below.refl _ _))).mono ?_
            rintro e W2 ⟨⟨X, hX1, rfl⟩, hbC⟩
            have B2 := B1.trans (hbC.mono B1.size)
            go_simp
            refine hK.out _ _ (keep3 B2 hlt3 gz) (fun hHeld => ?_)
            clear hK K
            (try simp only [Act.put, List.setIfInBounds_toArray, List.set_cons_zero, List.set_cons_succ])
            refine wpAnyH_take (i := 4) (oi := Oper.mk (some 79) _ _ _ _ _) (v := ?v29) rfl (by kernel_rfl) (by kernel_rfl) (by kernel_rfl) (fun _ _ _ h => h) (Or.inl ⟨by rfl, ?y29⟩) (by assumption) ?_
            case y29 => (intro w hSw; (try dsimp only at hSw); go_simp; first | done | with_reducible rfl)
            (try simp only [Act.put, List.setIfInBounds_toArray, List.set_cons_zero, List.set_cons_succ])
            refine wpAnyH_take (i := 5) (oi := Oper.mk (some 84) _ _ _ _ _) (v := ?v30) rfl (by kernel_rfl) (by kernel_rfl) (by kernel_rfl) (fun _ _ _ h => h) (Or.inl ⟨by rfl, ?y30⟩) (by assumption) ?_
            case y30 => (intro w hSw; (try dsimp only at hSw); go_simp; first | done | with_reducible rfl)
            (try simp only [Act.put, List.setIfInBounds_toArray, List.set_cons_zero, List.set_cons_succ])
            refine wpAnyH_take (i := 6) (oi := Oper.mk (some 85) _ _ _ _ _) (v := ?v31) rfl (by kernel_rfl) (by kernel_rfl) (by kernel_rfl) (fun _ _ _ h => h) (Or.inl ⟨by rfl, ?y31⟩) (by assumption) ?_
            case y31 => (intro w hSw; (try dsimp only at hSw); go_simp; first | done | with_reducible rfl)
            (try simp only [Act.put, List.setIfInBounds_toArray, List.set_cons_zero, List.set_cons_succ])
            refine wpAnyH_ready (rs := [7]) (by kernel_rfl) (by simp) ?_
            refine AllReadyH.cons (o := Oper.mk (some 15) _ _ _ _ _) rfl (fun K hK => ?_) ?_
            · go_simp
              rw [zero_lit]
              have rZ3 := row_dirOf (W2) zF
              have bZ3 := Below.alloc (Below.refl (W2).heap.size (W2)) (Nat.le_refl _) (.cells (dirOf zF) 41)
              have B3 := B2.trans (bZ3.mono B2.size)
              refine hK.out _ _ (keep3 B3 hlt3 gz) (fun hHeld => ?_)
              clear hK K
              (try simp only [Act.put, List.setIfInBounds_toArray, List.set_cons_zero, List.set_cons_succ])
              refine wpAnyH_ready (rs := [8]) (by kernel_rfl) (by simp) ?_
              refine AllReadyH.cons (o := Oper.mk none _ _ _ _ _) rfl (fun K hK => ?_) ?_
              · refine step_store41 (by rfl) (.tmp 15) (.tmp 84) (by rfl) (W2.heap.size) _ X (rZ3) (by rfl) (by rfl) (read_one' hX1) ?_
                have B4 := B3.trans (setRow_below (b := zz.heap.size) (B := W2.heap.size) B2.size (dirOf X))
                refine hK.out _ _ (keep3 B4 hlt3 gz) (fun hHeld => ?_)
                clear hK K
                (try simp only [Act.put])
                refine wpAnyH_take (i := 9) (oi := Oper.mk (some 16) _ _ _ _ _) (v := ?v32) rfl (by kernel_rfl) (by kernel_rfl) (by kernel_rfl) (fun _ _ _ h => h) (Or.inl ⟨by rfl, ?y32⟩) (by assumption) ?_
                case y32 => (intro w hSw; (try dsimp only at hSw); go_simp; first | done | with_reducible rfl)
                (try simp only [Act.put, List.setIfInBounds_toArray, List.set_cons_zero, List.set_cons_succ])
                refine wpAnyH_done (by kernel_rfl) ?_ _
                go_wp2_with fail
                go_meet
                exact ⟨W2.heap.size, X, rfl, rfl, setRow_row X (rZ3), hX1, above_row B4 HrG7.out, errType_above Hg7.out B4, Hb7.out.trans (B4.mono Hb7.out.size)⟩
              exact AllReadyH.nil
            exact AllReadyH.nil
          refine AllReadyH.cons (o := Oper.mk (some 15) _ _ _ _ _) rfl (fun K hK => ?_) ?_
          · go_simp
            rw [zero_lit]
            have rZ2 := row_dirOf (W1) zF
            have bZ2 := Below.alloc (Below.refl (W1).heap.size (W1)) (Nat.le_refl _) (.cells (dirOf zF) 41)
            have B2 := B1.trans (bZ2.mono B1.size)
            refine hK.out _ _ (keep3 B2 hlt3 gz) (fun hHeld => ?_)
            clear hK K
            (try simp only [Act.put, List.setIfInBounds_toArray, List.set_cons_zero, List.set_cons_succ])
            refine wpAnyH_ready (rs := [3]) (by kernel_rfl) (by simp) ?_
            refine AllReadyH.cons (o := Oper.mk (some 83) _ _ _ _ _) rfl (fun K hK => ?_) ?_
            · go_simp
              refine (read_any A2 m c2 f p i b _ (errType_above Hg7.out B2) Hf.out (copied_read hcp bZ2)).mono ?_
              rintro e W3 ⟨⟨X, hX1, rfl⟩, hbC⟩
              have B3 := B2.trans (hbC.mono B2.size)
              go_simp
              refine hK.out _ _ (keep3 B3 hlt3 gz) (fun hHeld => ?_)
              clear hK K
              (try simp only [Act.put, List.setIfInBounds_toArray, List.set_cons_zero, List.set_cons_succ])
              refine wpAnyH_take (i := 4) (oi := Oper.mk (some 79) _ _ _ _ _) (v := ?v33) rfl (by kernel_rfl) (by kernel_rfl) (by kernel_rfl) (fun _ _ _ h => h) (Or.inl ⟨by rfl, ?y33⟩) (by assumption) ?_
              case y33 => (intro w hSw; (try dsimp only at hSw); go_simp; first | done | with_reducible rfl)
              (try simp only [Act.put, List.setIfInBounds_toArray, List.set_cons_zero, List.set_cons_succ])
              refine wpAnyH_take (i := 5) (oi := Oper.mk (some 84) _ _ _ _ _) (v := ?v34) rfl (by kernel_rfl) (by kernel_rfl) (by kernel_rfl) (fun _ _ _ h => h) (Or.inl ⟨by rfl, ?y34⟩) (by assumption) ?_
              case y34 => (intro w hSw; (try dsimp only at hSw); go_simp; first | done | with_reducible rfl)
              (try simp only [Act.put, List.setIfInBounds_toArray, List.set_cons_zero, List.set_cons_succ])
              refine wpAnyH_take (i := 6) (oi := Oper.mk (some 85) _ _ _ _ _) (v := ?v35) rfl (by kernel_rfl) (by kernel_rfl) (by kernel_rfl) (fun _ _ _ h => h) (Or.inl ⟨by rfl, ?y35⟩) (by assumption) ?_
              case y35 => (intro w hSw; (try dsimp only at hSw); go_simp; first | done | with_reducible rfl)
              (try simp only [Act.put, List.setIfInBounds_toArray, List.set_cons_zero, List.set_cons_succ])
              refine wpAnyH_ready (rs := [8]) (by kernel_rfl) (by simp) ?_
              refine AllReadyH.cons (o := Oper.mk none _ _ _ _ _) rfl (fun K hK => ?_) ?_
              · refine step_store41 (by rfl) (.tmp 15) (.tmp 84) (by rfl) (W1.heap.size) _ X (above_row hbC rZ2) (by rfl) (by rfl) (read_one' hX1) ?_
                have B4 := B3.trans (setRow_below (b := zz.heap.size) (B := W1.heap.size) B1.size (dirOf X))
                refine hK.out _ _ (keep3 B4 hlt3 gz) (fun hHeld => ?_)
                clear hK K
                (try simp only [Act.put])
                refine wpAnyH_take (i := 9) (oi := Oper.mk (some 16) _ _ _ _ _) (v := ?v36) rfl (by kernel_rfl) (by kernel_rfl) (by kernel_rfl) (fun _ _ _ h => h) (Or.inl ⟨by rfl, ?y36⟩) (by assumption) ?_
                case y36 => (intro w hSw; (try dsimp only at hSw); go_simp; first | done | with_reducible rfl)
                (try simp only [Act.put, List.setIfInBounds_toArray, List.set_cons_zero, List.set_cons_succ])
                refine wpAnyH_done (by kernel_rfl) ?_ _
                go_wp2_with fail
                go_meet
                exact ⟨W1.heap.size, X, rfl, rfl, setRow_row X (above_row hbC rZ2), hX1, above_row B4 HrG7.out, errType_above Hg7.out B4, Hb7.out.trans (B4.mono Hb7.out.size)⟩
              exact AllReadyH.nil
            exact AllReadyH.nil
          exact AllReadyH.nil
        refine AllReadyH.cons (o := Oper.mk (some 15) _ _ _ _ _) rfl (fun K hK => ?_) ?_
        · go_simp
          rw [zero_lit]
          have rZ1 := row_dirOf (zz.drew) zF
          have bZ1 := Below.alloc (Below.refl (zz.drew).heap.size (zz.drew)) (Nat.le_refl _) (.cells (dirOf zF) 41)
          have B1 := B0.trans (bZ1.mono B0.size)
          refine hK.out _ _ (keep3 B1 hlt3 gz) (fun hHeld => ?_)
          clear hK K
          (try simp only [Act.put, List.setIfInBounds_toArray, List.set_cons_zero, List.set_cons_succ])
          refine wpAnyH_ready (rs := [1]) (by kernel_rfl) (by simp) ?_
          refine AllReadyH.cons (o := Oper.mk (some 81) _ _ _ _ _) rfl (fun K hK => ?_) ?_
          · refine step_append_words (by rfl) _ _ (by rfl) A m cp f (by rfl) (by rfl) (lies_above B1 HLz.out) (by omega) ?_
            intro A2 c2 W2 hbA hcp
            have B2 := B1.trans (hbA.mono B1.size)
            refine hK.out _ _ (keep3 B2 hlt3 gz) (fun hHeld => ?_)
            clear hK K
            (try simp only [Act.put, List.setIfInBounds_toArray, List.set_cons_zero, List.set_cons_succ])
            refine wpAnyH_ready (rs := [3]) (by kernel_rfl) (by simp) ?_
            refine AllReadyH.cons (o := Oper.mk (some 83) _ _ _ _ _) rfl (fun K hK => ?_) ?_
            · go_simp
              refine (read_any A2 m c2 f p i b _ (errType_above Hg7.out B2) Hf.out (copied_read hcp (Below.refl _ _))).mono ?_
              rintro e W3 ⟨⟨X, hX1, rfl⟩, hbC⟩
              have B3 := B2.trans (hbC.mono B2.size)
              go_simp
              refine hK.out _ _ (keep3 B3 hlt3 gz) (fun hHeld => ?_)
              clear hK K
              (try simp only [Act.put, List.setIfInBounds_toArray, List.set_cons_zero, List.set_cons_succ])
              refine wpAnyH_take (i := 4) (oi := Oper.mk (some 79) _ _ _ _ _) (v := ?v37) rfl (by kernel_rfl) (by kernel_rfl) (by kernel_rfl) (fun _ _ _ h => h) (Or.inl ⟨by rfl, ?y37⟩) (by assumption) ?_
              case y37 => (intro w hSw; (try dsimp only at hSw); go_simp; first | done | with_reducible rfl)
              (try simp only [Act.put, List.setIfInBounds_toArray, List.set_cons_zero, List.set_cons_succ])
              refine wpAnyH_take (i := 5) (oi := Oper.mk (some 84) _ _ _ _ _) (v := ?v38) rfl (by kernel_rfl) (by kernel_rfl) (by kernel_rfl) (fun _ _ _ h => h) (Or.inl ⟨by rfl, ?y38⟩) (by assumption) ?_
              case y38 => (intro w hSw; (try dsimp only at hSw); go_simp; first | done | with_reducible rfl)
              (try simp only [Act.put, List.setIfInBounds_toArray, List.set_cons_zero, List.set_cons_succ])
              refine wpAnyH_take (i := 6) (oi := Oper.mk (some 85) _ _ _ _ _) (v := ?v39) rfl (by kernel_rfl) (by kernel_rfl) (by kernel_rfl) (fun _ _ _ h => h) (Or.inl ⟨by rfl, ?y39⟩) (by assumption) ?_
              case y39 => (intro w hSw; (try dsimp only at hSw); go_simp; first | done | with_reducible rfl)
              (try simp only [Act.put, List.setIfInBounds_toArray, List.set_cons_zero, List.set_cons_succ])
              refine wpAnyH_ready (rs := [8]) (by kernel_rfl) (by simp) ?_
              refine AllReadyH.cons (o := Oper.mk none _ _ _ _ _) rfl (fun K hK => ?_) ?_
              · refine step_store41 (by rfl) (.tmp 15) (.tmp 84) (by rfl) (zz.drew.heap.size) _ X (above_row hbC (above_row hbA rZ1)) (by rfl) (by rfl) (read_one' hX1) ?_
                have B4 := B3.trans (setRow_below (b := zz.heap.size) (B := zz.drew.heap.size) B0.size (dirOf X))
                refine hK.out _ _ (keep3 B4 hlt3 gz) (fun hHeld => ?_)
                clear hK K
                (try simp only [Act.put])
                refine wpAnyH_take (i := 9) (oi := Oper.mk (some 16) _ _ _ _ _) (v := ?v40) rfl (by kernel_rfl) (by kernel_rfl) (by kernel_rfl) (fun _ _ _ h => h) (Or.inl ⟨by rfl, ?y40⟩) (by assumption) ?_
                case y40 => (intro w hSw; (try dsimp only at hSw); go_simp; first | done | with_reducible rfl)
                (try simp only [Act.put, List.setIfInBounds_toArray, List.set_cons_zero, List.set_cons_succ])
                refine wpAnyH_done (by kernel_rfl) ?_ _
                go_wp2_with fail
                go_meet
                exact ⟨zz.drew.heap.size, X, rfl, rfl, setRow_row X (above_row hbC (above_row hbA rZ1)), hX1, above_row B4 HrG7.out, errType_above Hg7.out B4, Hb7.out.trans (B4.mono Hb7.out.size)⟩
              exact AllReadyH.nil
            exact AllReadyH.nil
          exact AllReadyH.nil
        exact AllReadyH.nil
      case rest =>
        obtain ⟨gx, X, rfl, rfl, hrX, hX, hrG, hgx, hBx⟩ := hcut
        have HrX9 := hid hrX
        have HrG9 := hid hrG
        have Hg9 := hid hgx
        have Hb9 := hid hBx
        clear hrX hrG hgx hBx
        rcases hX with ⟨hn, hX⟩ | ⟨hn, rfl⟩
        · obtain ⟨hm32, hB32, hW32⟩ := readR_none hn
          rw [hn]
          have HX := hid hX
          have HW32 := hid hW32
          have HB32 := hid hB32
          clear hX hW32 hB32 hn
          subst hm32
          obtain ⟨ad, hA, hadl, hadc⟩ : ∃ ad, A = some ad ∧ ad.block < w.heap.size ∧ ∀ k, k < 32 → w.cell? (ad.add k) = some (.int .u64 (f k : Nat)) := by
            rcases HL.out with h | h
            · cases h
            · exact h
          subst hA
          have Hadl := hid hadl
          have Hadc := hid hadc
          clear hadl hadc
          simp only [errV]
          go_wp2_with (first
            | refine wpList_load41 rfl 95 rfl (.tmp 15) rfl gx rfl X HrX9.out ?_
            | refine wpList_load3 rfl 96 rfl 25 (.tmp 7) rfl (w.heap.size + 1 + 1) rfl (fun j => if j = 0 then .int .i64 p else if j = 1 then .int .i64 i else .int .i64 b) _ Tryd.underlying25 rfl info25 HrG9.out ?_)
          refine (block_yes (dirOf X) ((f 0 % 256 : Nat) : Int) p i b (rIno f) (rKind f) (rNm f) _ HX.out.dir HB32.out).mono ?_
          rintro e y1 ⟨g2, cap2, R2, rfl, hg2, hc2, hR2, hf2, hb⟩
          have Hb10 := hid (Hb9.out.trans (hb.mono Hb9.out.size))
          have Hg10 := hid (errType_above Hg9.out hb)
          have HR2 := hid hR2
          have Hf2 := hid hf2
          clear hb hR2 hf2
          have hs1 := same_go ⟨g2, 0, none⟩ ad 32 cap2 cp (fun j => (f j : Nat)) (fun j => (f j : Nat)) y1 (by omega) (fun j hj => by
            rw [show (⟨g2, 0, none⟩ : Addr).add j = ⟨g2, j, none⟩ by unfold Addr.add; split <;> simp_all, HR2.out.cell (by omega), Hf2.out j hj, HW32.out j hj]) (fun j hj => (Hb10.out.cell (p := ad.add j) (by unfold Addr.add; split <;> exact Hadl.out)).trans (Hadc.out j hj))
          have Hsame := hid (hs1.mono (R' := fun e y => e = .returned (.bool true) ∧ Below y1.heap.size y1 y) (fun e y h => ⟨h.1.trans (by rw [decide_eq_true (fun _ _ => rfl)]), h.2⟩))
          clear hs1
          go_wp2_with fail
          refine Hsame.out.mono ?_
          rintro e y2 ⟨rfl, hb⟩
          have Hb11 := hid (Hb10.out.trans (hb.mono Hb10.out.size))
          have Hg11 := hid (errType_above Hg10.out hb)
          clear hb Hsame
          go_wp2_with fail
          refine (alive_any _ Hg11.out).mono ?_
          rintro e y3 ⟨rfl, hb⟩
          have Hb12 := hid (Hb11.out.trans (hb.mono Hb11.out.size))
          clear hb
          go_wp2
          go_ret
          exact ⟨rfl, Hb12.out⟩
        · obtain ⟨ra, hra⟩ : ∃ ra, readR m f p i b = some ra := Option.ne_none_iff_exists'.1 hn
          obtain ⟨ra, re⟩ := ra
          rw [hra]
          clear hra hn
          simp only [errV]
          have hq41 : ∀ W, (binOp .eql 41 (.agg (dirOf zF)) (.agg #[.int .i64 0, .int .i64 0, .int .u8 0, .string ⟨#[]⟩, .int .i64 0, .int .u8 0, .string ⟨#[]⟩, .int .i64 0, .int .u8 0, .string ⟨#[]⟩, .int .i64 0, .int .u8 0, .string ⟨#[]⟩, .int .i64 0, .int .u8 0, .string ⟨#[]⟩, .int .i64 0, .int .u8 0, .string ⟨#[]⟩, .int .i64 0, .int .u8 0, .string ⟨#[]⟩, .int .i64 0, .int .u8 0, .string ⟨#[]⟩, .int .i64 0, .int .u8 0, .string ⟨#[]⟩, .int .i64 0, .int .u8 0, .string ⟨#[]⟩])).run Tryd.prog W = .ok (.bool true) W := fun W => by rw [zero_lit]; exact eq41 zF_is.dir W
          go_wp2_with (refine wpList_load41 rfl 88 rfl (.tmp 15) rfl gx rfl zF HrX9.out ?_)
          refine (alive_any _ Hg9.out).mono ?_
          rintro e y3 ⟨rfl, hb⟩
          have Hb12 := hid (Hb9.out.trans (hb.mono Hb9.out.size))
          clear hb
          go_wp2
          go_ret
          exact ⟨rfl, Hb12.out⟩
    · refine (block_yes (dirOf F) next p i b ino kind nm _ HF.out.dir hbb).mono ?_
      rintro e z1 ⟨g2, cap2, R2, rfl, hg2, hc2, hR2, hf2, hb⟩
      have HrC5 := hid (above_row hb HrC4.out)
      have HrG5 := hid (above_row hb HrG4.out)
      have Hb5 := hid (Hb4.out.trans (hb.mono Hb4.out.size))
      have Hg5 := hid (errType_above Hg4.out hb)
      have HR2 := hid hR2
      have Hf2 := hid hf2
      clear hb hR2 hf2
      go_wp2_with (refine wpList_load3 rfl 68 rfl 25 (.tmp 7) rfl (w.heap.size + 1 + 1) rfl (fun j => if j = 0 then .int .i64 p else if j = 1 then .int .i64 i else .int .i64 b) _ Tryd.underlying25 rfl info25 HrG5.out ?_)
      refine (read_block g2 cap2 next p i b ino kind nm _ Hg5.out hbb HR2.out.lt hc2 (fun k hk => by rw [HR2.out.cell (by omega), Hf2.out k hk]) HF.out).mono ?_
      rintro e z2 ⟨rfl, hb⟩
      have HrC6 := hid (above_row hb HrC5.out)
      have HrG6 := hid (above_row hb HrG5.out)
      have Hb6 := hid (Hb5.out.trans (hb.mono Hb5.out.size))
      have Hg6 := hid (errType_above Hg5.out hb)
      have hq41 := neq41 HF.out.dir
      clear hb
      have HrG7 := hid (HrG6.out.alloc (.cells (dirOf F) 41))
      have Hb7 := hid (Hb6.out.alloc Hb6.out.size (.cells (dirOf F) 41))
      have Hg7 := hid (errType_alloc Hg6.out (.cells (dirOf F) 41))
      go_wp2_with (first
        | refine wpList_store_new (w := z2) rfl (.tmp 13) (.tmp 70) rfl _ (dirOf F) rfl rfl rfl ?hc (dirOf_size F) HF.out.one ?_
        | refine wpList_load41 rfl 72 rfl (.tmp 13) rfl z2.heap.size rfl F (row_dirOf z2 F) ?_
        | refine wpList_load41 rfl 73 rfl (.tmp 5) rfl (w.heap.size + 1) rfl F (HrC6.out.alloc _) ?_)
      case hc => rw [dirOf_size]; rfl
      clear hq41
      generalize z2.alloc (.cells (dirOf F) 41) = zz at *
      have HLz := hid (lies_above Hb7.out HL.out)
      have hlt3 := HrG7.out.lt
      have gz := three _ _ _ _ HrG7.out
      replace gz := (⟨gz.1, gz.2.1, gz.2.2.1⟩ : zz.cell? ⟨(w.heap.size + 1 + 1), 0, none⟩ = some (.int .i64 p) ∧ zz.cell? ⟨(w.heap.size + 1 + 1), 1, none⟩ = some (.int .i64 i) ∧ zz.cell? ⟨(w.heap.size + 1 + 1), 2, none⟩ = some (.int .i64 b))
      go_cut [15, 16] (fun v15 v16 wx => ∃ gx X, v15 = .pointer (some ⟨gx, 0, none⟩) ∧ v16 = errV (readR m f p i b) ∧ wx.rowIs gx 41 31 X ∧ ((readR m f p i b = none ∧ CellsIs X ((f 0 % 256 : Nat) : Int) (rIno f) (rKind f) (rNm f)) ∨ (readR m f p i b ≠ none ∧ X = zF)) ∧
        wx.rowIs (w.heap.size + 1 + 1) 25 3 (fun j => if j = 0 then .int .i64 p else if j = 1 then .int .i64 i else .int .i64 b) ∧ ErrType wx ∧ Below w.heap.size w wx)
      case first =>
        have B0 := (Below.refl zz.heap.size zz).drew
        refine wp_region_held_drew (S := fun w' => w'.cell? ⟨(w.heap.size + 1 + 1), 0, none⟩ = some (.int .i64 p) ∧ w'.cell? ⟨(w.heap.size + 1 + 1), 1, none⟩ = some (.int .i64 i) ∧ w'.cell? ⟨(w.heap.size + 1 + 1), 2, none⟩ = some (.int .i64 b)) (by kernel_rfl) gz (fun hHeld => ?_)
        refine wpAnyH_take (i := 0) (oi := Oper.mk (some 80) _ _ _ _ _) (v := ?v55) rfl (by kernel_rfl) (by kernel_rfl) (by kernel_rfl) (fun _ _ _ h => h) (Or.inl ⟨by rfl, ?y55⟩) (by assumption) ?_
        case y55 => (intro w hSw; (try dsimp only at hSw); go_simp; first | done | with_reducible rfl)
        (try simp only [Act.put, List.setIfInBounds_toArray, List.set_cons_zero, List.set_cons_succ])
        refine wpAnyH_take (i := 2) (oi := Oper.mk (some 82) _ _ _ _ _) (v := ?v56) rfl (by kernel_rfl) (by kernel_rfl) (by kernel_rfl) (fun _ _ _ h => h) (Or.inl ⟨by rfl, ?y56⟩) (by assumption) ?_
        case y56 => (intro w hSw; (try dsimp only at hSw); go_simp; first | done | with_reducible rfl)
        (try simp only [Act.put, List.setIfInBounds_toArray, List.set_cons_zero, List.set_cons_succ])
        refine wpAnyH_ready (rs := [1, 7]) (by kernel_rfl) (by simp) ?_
        refine AllReadyH.cons (o := Oper.mk (some 81) _ _ _ _ _) rfl (fun K hK => ?_) ?_
        · refine step_append_words (by rfl) _ _ (by rfl) A m cp f (by rfl) (by rfl) (lies_above B0 HLz.out) (by omega) ?_
          intro A2 c2 W1 hbA hcp
          have B1 := B0.trans (hbA.mono B0.size)
          refine hK.out _ _ (keep3 B1 hlt3 gz) (fun hHeld => ?_)
          clear hK K
          (try simp only [Act.put, List.setIfInBounds_toArray, List.set_cons_zero, List.set_cons_succ])
          refine wpAnyH_ready (rs := [3, 7]) (by kernel_rfl) (by simp) ?_
          refine AllReadyH.cons (o := Oper.mk (some 83) _ _ _ _ _) rfl (fun K hK => ?_) ?_
          · go_simp
            refine (read_any A2 m c2 f p i b _ (errType_above Hg7.out B1) Hf.out (copied_read hcp (Below.refl _ _))).mono ?_
            rintro e W2 ⟨⟨X, hX1, rfl⟩, hbC⟩
            have B2 := B1.trans (hbC.mono B1.size)
            go_simp
            refine hK.out _ _ (keep3 B2 hlt3 gz) (fun hHeld => ?_)
            clear hK K
            (try simp only [Act.put, List.setIfInBounds_toArray, List.set_cons_zero, List.set_cons_succ])
            refine wpAnyH_take (i := 4) (oi := Oper.mk (some 79) _ _ _ _ _) (v := ?v43) rfl (by kernel_rfl) (by kernel_rfl) (by kernel_rfl) (fun _ _ _ h => h) (Or.inl ⟨by rfl, ?y43⟩) (by assumption) ?_
            case y43 => (intro w hSw; (try dsimp only at hSw); go_simp; first | done | with_reducible rfl)
            (try simp only [Act.put, List.setIfInBounds_toArray, List.set_cons_zero, List.set_cons_succ])
            refine wpAnyH_take (i := 5) (oi := Oper.mk (some 84) _ _ _ _ _) (v := ?v44) rfl (by kernel_rfl) (by kernel_rfl) (by kernel_rfl) (fun _ _ _ h => h) (Or.inl ⟨by rfl, ?y44⟩) (by assumption) ?_
            case y44 => (intro w hSw; (try dsimp only at hSw); go_simp; first | done | with_reducible rfl)
            (try simp only [Act.put, List.setIfInBounds_toArray, List.set_cons_zero, List.set_cons_succ])
            refine wpAnyH_take (i := 6) (oi := Oper.mk (some 85) _ _ _ _ _) (v := ?v45) rfl (by kernel_rfl) (by kernel_rfl) (by kernel_rfl) (fun _ _ _ h => h) (Or.inl ⟨by rfl, ?y45⟩) (by assumption) ?_
            case y45 => (intro w hSw; (try dsimp only at hSw); go_simp; first | done | with_reducible rfl)
            (try simp only [Act.put, List.setIfInBounds_toArray, List.set_cons_zero, List.set_cons_succ])
            refine wpAnyH_ready (rs := [7]) (by kernel_rfl) (by simp) ?_
            refine AllReadyH.cons (o := Oper.mk (some 15) _ _ _ _ _) rfl (fun K hK => ?_) ?_
            · go_simp
              rw [zero_lit]
              have rZ3 := row_dirOf (W2) zF
              have bZ3 := Below.alloc (Below.refl (W2).heap.size (W2)) (Nat.le_refl _) (.cells (dirOf zF) 41)
              have B3 := B2.trans (bZ3.mono B2.size)
              refine hK.out _ _ (keep3 B3 hlt3 gz) (fun hHeld => ?_)
              clear hK K
              (try simp only [Act.put, List.setIfInBounds_toArray, List.set_cons_zero, List.set_cons_succ])
              refine wpAnyH_ready (rs := [8]) (by kernel_rfl) (by simp) ?_
              refine AllReadyH.cons (o := Oper.mk none _ _ _ _ _) rfl (fun K hK => ?_) ?_
              · refine step_store41 (by rfl) (.tmp 15) (.tmp 84) (by rfl) (W2.heap.size) _ X (rZ3) (by rfl) (by rfl) (read_one' hX1) ?_
                have B4 := B3.trans (setRow_below (b := zz.heap.size) (B := W2.heap.size) B2.size (dirOf X))
                refine hK.out _ _ (keep3 B4 hlt3 gz) (fun hHeld => ?_)
                clear hK K
                (try simp only [Act.put])
                refine wpAnyH_take (i := 9) (oi := Oper.mk (some 16) _ _ _ _ _) (v := ?v46) rfl (by kernel_rfl) (by kernel_rfl) (by kernel_rfl) (fun _ _ _ h => h) (Or.inl ⟨by rfl, ?y46⟩) (by assumption) ?_
                case y46 => (intro w hSw; (try dsimp only at hSw); go_simp; first | done | with_reducible rfl)
                (try simp only [Act.put, List.setIfInBounds_toArray, List.set_cons_zero, List.set_cons_succ])
                refine wpAnyH_done (by kernel_rfl) ?_ _
                go_wp2_with fail
                go_meet
                exact ⟨W2.heap.size, X, rfl, rfl, setRow_row X (rZ3), hX1, above_row B4 HrG7.out, errType_above Hg7.out B4, Hb7.out.trans (B4.mono Hb7.out.size)⟩
              exact AllReadyH.nil
            exact AllReadyH.nil
          refine AllReadyH.cons (o := Oper.mk (some 15) _ _ _ _ _) rfl (fun K hK => ?_) ?_
          · go_simp
            rw [zero_lit]
            have rZ2 := row_dirOf (W1) zF
            have bZ2 := Below.alloc (Below.refl (W1).heap.size (W1)) (Nat.le_refl _) (.cells (dirOf zF) 41)
            have B2 := B1.trans (bZ2.mono B1.size)
            refine hK.out _ _ (keep3 B2 hlt3 gz) (fun hHeld => ?_)
            clear hK K
            (try simp only [Act.put, List.setIfInBounds_toArray, List.set_cons_zero, List.set_cons_succ])
            refine wpAnyH_ready (rs := [3]) (by kernel_rfl) (by simp) ?_
            refine AllReadyH.cons (o := Oper.mk (some 83) _ _ _ _ _) rfl (fun K hK => ?_) ?_
            · go_simp
              refine (read_any A2 m c2 f p i b _ (errType_above Hg7.out B2) Hf.out (copied_read hcp bZ2)).mono ?_
              rintro e W3 ⟨⟨X, hX1, rfl⟩, hbC⟩
              have B3 := B2.trans (hbC.mono B2.size)
              go_simp
              refine hK.out _ _ (keep3 B3 hlt3 gz) (fun hHeld => ?_)
              clear hK K
              (try simp only [Act.put, List.setIfInBounds_toArray, List.set_cons_zero, List.set_cons_succ])
              refine wpAnyH_take (i := 4) (oi := Oper.mk (some 79) _ _ _ _ _) (v := ?v47) rfl (by kernel_rfl) (by kernel_rfl) (by kernel_rfl) (fun _ _ _ h => h) (Or.inl ⟨by rfl, ?y47⟩) (by assumption) ?_
              case y47 => (intro w hSw; (try dsimp only at hSw); go_simp; first | done | with_reducible rfl)
              (try simp only [Act.put, List.setIfInBounds_toArray, List.set_cons_zero, List.set_cons_succ])
              refine wpAnyH_take (i := 5) (oi := Oper.mk (some 84) _ _ _ _ _) (v := ?v48) rfl (by kernel_rfl) (by kernel_rfl) (by kernel_rfl) (fun _ _ _ h => h) (Or.inl ⟨by rfl, ?y48⟩) (by assumption) ?_
              case y48 => (intro w hSw; (try dsimp only at hSw); go_simp; first | done | with_reducible rfl)
              (try simp only [Act.put, List.setIfInBounds_toArray, List.set_cons_zero, List.set_cons_succ])
              refine wpAnyH_take (i := 6) (oi := Oper.mk (some 85) _ _ _ _ _) (v := ?v49) rfl (by kernel_rfl) (by kernel_rfl) (by kernel_rfl) (fun _ _ _ h => h) (Or.inl ⟨by rfl, ?y49⟩) (by assumption) ?_
              case y49 => (intro w hSw; (try dsimp only at hSw); go_simp; first | done | with_reducible rfl)
              (try simp only [Act.put, List.setIfInBounds_toArray, List.set_cons_zero, List.set_cons_succ])
              refine wpAnyH_ready (rs := [8]) (by kernel_rfl) (by simp) ?_
              refine AllReadyH.cons (o := Oper.mk none _ _ _ _ _) rfl (fun K hK => ?_) ?_
              · refine step_store41 (by rfl) (.tmp 15) (.tmp 84) (by rfl) (W1.heap.size) _ X (above_row hbC rZ2) (by rfl) (by rfl) (read_one' hX1) ?_
                have B4 := B3.trans (setRow_below (b := zz.heap.size) (B := W1.heap.size) B1.size (dirOf X))
                refine hK.out _ _ (keep3 B4 hlt3 gz) (fun hHeld => ?_)
                clear hK K
                (try simp only [Act.put])
                refine wpAnyH_take (i := 9) (oi := Oper.mk (some 16) _ _ _ _ _) (v := ?v50) rfl (by kernel_rfl) (by kernel_rfl) (by kernel_rfl) (fun _ _ _ h => h) (Or.inl ⟨by rfl, ?y50⟩) (by assumption) ?_
                case y50 => (intro w hSw; (try dsimp only at hSw); go_simp; first | done | with_reducible rfl)
                (try simp only [Act.put, List.setIfInBounds_toArray, List.set_cons_zero, List.set_cons_succ])
                refine wpAnyH_done (by kernel_rfl) ?_ _
                go_wp2_with fail
                go_meet
                exact ⟨W1.heap.size, X, rfl, rfl, setRow_row X (above_row hbC rZ2), hX1, above_row B4 HrG7.out, errType_above Hg7.out B4, Hb7.out.trans (B4.mono Hb7.out.size)⟩
              exact AllReadyH.nil
            exact AllReadyH.nil
          exact AllReadyH.nil
        refine AllReadyH.cons (o := Oper.mk (some 15) _ _ _ _ _) rfl (fun K hK => ?_) ?_
        · go_simp
          rw [zero_lit]
          have rZ1 := row_dirOf (zz.drew) zF
          have bZ1 := Below.alloc (Below.refl (zz.drew).heap.size (zz.drew)) (Nat.le_refl _) (.cells (dirOf zF) 41)
          have B1 := B0.trans (bZ1.mono B0.size)
          refine hK.out _ _ (keep3 B1 hlt3 gz) (fun hHeld => ?_)
          clear hK K
          (try simp only [Act.put, List.setIfInBounds_toArray, List.set_cons_zero, List.set_cons_succ])
          refine wpAnyH_ready (rs := [1]) (by kernel_rfl) (by simp) ?_
          refine AllReadyH.cons (o := Oper.mk (some 81) _ _ _ _ _) rfl (fun K hK => ?_) ?_
          · refine step_append_words (by rfl) _ _ (by rfl) A m cp f (by rfl) (by rfl) (lies_above B1 HLz.out) (by omega) ?_
            intro A2 c2 W2 hbA hcp
            have B2 := B1.trans (hbA.mono B1.size)
            refine hK.out _ _ (keep3 B2 hlt3 gz) (fun hHeld => ?_)
            clear hK K
            (try simp only [Act.put, List.setIfInBounds_toArray, List.set_cons_zero, List.set_cons_succ])
            refine wpAnyH_ready (rs := [3]) (by kernel_rfl) (by simp) ?_
            refine AllReadyH.cons (o := Oper.mk (some 83) _ _ _ _ _) rfl (fun K hK => ?_) ?_
            · go_simp
              refine (read_any A2 m c2 f p i b _ (errType_above Hg7.out B2) Hf.out (copied_read hcp (Below.refl _ _))).mono ?_
              rintro e W3 ⟨⟨X, hX1, rfl⟩, hbC⟩
              have B3 := B2.trans (hbC.mono B2.size)
              go_simp
              refine hK.out _ _ (keep3 B3 hlt3 gz) (fun hHeld => ?_)
              clear hK K
              (try simp only [Act.put, List.setIfInBounds_toArray, List.set_cons_zero, List.set_cons_succ])
              refine wpAnyH_take (i := 4) (oi := Oper.mk (some 79) _ _ _ _ _) (v := ?v51) rfl (by kernel_rfl) (by kernel_rfl) (by kernel_rfl) (fun _ _ _ h => h) (Or.inl ⟨by rfl, ?y51⟩) (by assumption) ?_
              case y51 => (intro w hSw; (try dsimp only at hSw); go_simp; first | done | with_reducible rfl)
              (try simp only [Act.put, List.setIfInBounds_toArray, List.set_cons_zero, List.set_cons_succ])
              refine wpAnyH_take (i := 5) (oi := Oper.mk (some 84) _ _ _ _ _) (v := ?v52) rfl (by kernel_rfl) (by kernel_rfl) (by kernel_rfl) (fun _ _ _ h => h) (Or.inl ⟨by rfl, ?y52⟩) (by assumption) ?_
              case y52 => (intro w hSw; (try dsimp only at hSw); go_simp; first | done | with_reducible rfl)
              (try simp only [Act.put, List.setIfInBounds_toArray, List.set_cons_zero, List.set_cons_succ])
              refine wpAnyH_take (i := 6) (oi := Oper.mk (some 85) _ _ _ _ _) (v := ?v53) rfl (by kernel_rfl) (by kernel_rfl) (by kernel_rfl) (fun _ _ _ h => h) (Or.inl ⟨by rfl, ?y53⟩) (by assumption) ?_
              case y53 => (intro w hSw; (try dsimp only at hSw); go_simp; first | done | with_reducible rfl)
              (try simp only [Act.put, List.setIfInBounds_toArray, List.set_cons_zero, List.set_cons_succ])
              refine wpAnyH_ready (rs := [8]) (by kernel_rfl) (by simp) ?_
              refine AllReadyH.cons (o := Oper.mk none _ _ _ _ _) rfl (fun K hK => ?_) ?_
              · refine step_store41 (by rfl) (.tmp 15) (.tmp 84) (by rfl) (zz.drew.heap.size) _ X (above_row hbC (above_row hbA rZ1)) (by rfl) (by rfl) (read_one' hX1) ?_
                have B4 := B3.trans (setRow_below (b := zz.heap.size) (B := zz.drew.heap.size) B0.size (dirOf X))
                refine hK.out _ _ (keep3 B4 hlt3 gz) (fun hHeld => ?_)
                clear hK K
                (try simp only [Act.put])
                refine wpAnyH_take (i := 9) (oi := Oper.mk (some 16) _ _ _ _ _) (v := ?v54) rfl (by kernel_rfl) (by kernel_rfl) (by kernel_rfl) (fun _ _ _ h => h) (Or.inl ⟨by rfl, ?y54⟩) (by assumption) ?_
                case y54 => (intro w hSw; (try dsimp only at hSw); go_simp; first | done | with_reducible rfl)
                (try simp only [Act.put, List.setIfInBounds_toArray, List.set_cons_zero, List.set_cons_succ])
                refine wpAnyH_done (by kernel_rfl) ?_ _
                go_wp2_with fail
                go_meet
                exact ⟨zz.drew.heap.size, X, rfl, rfl, setRow_row X (above_row hbC (above_row hbA rZ1)), hX1, above_row B4 HrG7.out, errType_above Hg7.out B4, Hb7.out.trans (B4.mono Hb7.out.size)⟩
              exact AllReadyH.nil
            exact AllReadyH.nil
          exact AllReadyH.nil
        exact AllReadyH.nil
      case rest =>
        obtain ⟨gx, X, rfl, rfl, hrX, hX, hrG, hgx, hBx⟩ := hcut
        have HrX9 := hid hrX
        have HrG9 := hid hrG
        have Hg9 := hid hgx
        have Hb9 := hid hBx
        clear hrX hrG hgx hBx
        rcases hX with ⟨hn, hX⟩ | ⟨hn, rfl⟩
        · obtain ⟨hm32, hB32, hW32⟩ := readR_none hn
          rw [hn]
          have HX := hid hX
          have HW32 := hid hW32
          have HB32 := hid hB32
          clear hX hW32 hB32 hn
          subst hm32
          obtain ⟨ad, hA, hadl, hadc⟩ : ∃ ad, A = some ad ∧ ad.block < w.heap.size ∧ ∀ k, k < 32 → w.cell? (ad.add k) = some (.int .u64 (f k : Nat)) := by
            rcases HL.out with h | h
            · cases h
            · exact h
          subst hA
          have Hadl := hid hadl
          have Hadc := hid hadc
          clear hadl hadc
          simp only [errV]
          go_wp2_with (first
            | refine wpList_load41 rfl 95 rfl (.tmp 15) rfl gx rfl X HrX9.out ?_
            | refine wpList_load3 rfl 96 rfl 25 (.tmp 7) rfl (w.heap.size + 1 + 1) rfl (fun j => if j = 0 then .int .i64 p else if j = 1 then .int .i64 i else .int .i64 b) _ Tryd.underlying25 rfl info25 HrG9.out ?_)
          refine (block_yes (dirOf X) ((f 0 % 256 : Nat) : Int) p i b (rIno f) (rKind f) (rNm f) _ HX.out.dir HB32.out).mono ?_
          rintro e y1 ⟨g2, cap2, R2, rfl, hg2, hc2, hR2, hf2, hb⟩
          have Hb10 := hid (Hb9.out.trans (hb.mono Hb9.out.size))
          have Hg10 := hid (errType_above Hg9.out hb)
          have HR2 := hid hR2
          have Hf2 := hid hf2
          clear hb hR2 hf2
          have hs1 := same_go ⟨g2, 0, none⟩ ad 32 cap2 cp (fun j => (f j : Nat)) (fun j => (f j : Nat)) y1 (by omega) (fun j hj => by
            rw [show (⟨g2, 0, none⟩ : Addr).add j = ⟨g2, j, none⟩ by unfold Addr.add; split <;> simp_all, HR2.out.cell (by omega), Hf2.out j hj, HW32.out j hj]) (fun j hj => (Hb10.out.cell (p := ad.add j) (by unfold Addr.add; split <;> exact Hadl.out)).trans (Hadc.out j hj))
          have Hsame := hid (hs1.mono (R' := fun e y => e = .returned (.bool true) ∧ Below y1.heap.size y1 y) (fun e y h => ⟨h.1.trans (by rw [decide_eq_true (fun _ _ => rfl)]), h.2⟩))
          clear hs1
          go_wp2_with fail
          refine Hsame.out.mono ?_
          rintro e y2 ⟨rfl, hb⟩
          have Hb11 := hid (Hb10.out.trans (hb.mono Hb10.out.size))
          have Hg11 := hid (errType_above Hg10.out hb)
          clear hb Hsame
          go_wp2_with fail
          refine (alive_any _ Hg11.out).mono ?_
          rintro e y3 ⟨rfl, hb⟩
          have Hb12 := hid (Hb11.out.trans (hb.mono Hb11.out.size))
          clear hb
          go_wp2
          go_ret
          exact ⟨rfl, Hb12.out⟩
        · obtain ⟨ra, hra⟩ : ∃ ra, readR m f p i b = some ra := Option.ne_none_iff_exists'.1 hn
          obtain ⟨ra, re⟩ := ra
          rw [hra]
          clear hra hn
          simp only [errV]
          have hq41 : ∀ W, (binOp .eql 41 (.agg (dirOf zF)) (.agg #[.int .i64 0, .int .i64 0, .int .u8 0, .string ⟨#[]⟩, .int .i64 0, .int .u8 0, .string ⟨#[]⟩, .int .i64 0, .int .u8 0, .string ⟨#[]⟩, .int .i64 0, .int .u8 0, .string ⟨#[]⟩, .int .i64 0, .int .u8 0, .string ⟨#[]⟩, .int .i64 0, .int .u8 0, .string ⟨#[]⟩, .int .i64 0, .int .u8 0, .string ⟨#[]⟩, .int .i64 0, .int .u8 0, .string ⟨#[]⟩, .int .i64 0, .int .u8 0, .string ⟨#[]⟩, .int .i64 0, .int .u8 0, .string ⟨#[]⟩])).run Tryd.prog W = .ok (.bool true) W := fun W => by rw [zero_lit]; exact eq41 zF_is.dir W
          go_wp2_with (refine wpList_load41 rfl 88 rfl (.tmp 15) rfl gx rfl zF HrX9.out ?_)
          refine (alive_any _ Hg9.out).mono ?_
          rintro e y3 ⟨rfl, hb⟩
          have Hb12 := hid (Hb9.out.trans (hb.mono Hb9.out.size))
          clear hb
          go_wp2
          go_ret
          exact ⟨rfl, Hb12.out⟩
end Go.Proofs.YtejapeafepcacaaDoor
