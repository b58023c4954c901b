/- the chapter's examples. -/
import Derived.Test.YtimfnimcmfjjpaaSteps
import Derived.BigGuardPart
namespace Go.Proofs.Ytimfnimcmfjjpaa
open Go.RowKit
theorem small_any (w : World) : Calls Try.prog 26 #[] w fun e w' => e = .returned (.agg #[.int .i64 1, .int .i64 2, .int .i64 4]) ∧ Below w.heap.size w w' := by
  go_enter Try.func26, Try.ntmps26
  go_wp2
  exact bodyPost_ret (v := .agg #[.int .i64 1, .int .i64 2, .int .i64 4]) (by simp [results, Try.results26, go_sem]) rfl ⟨rfl, (Below.refl _ _).alloc (Nat.le_refl _) _⟩
theorem gok_small : gok 1 2 4 = true := by decide
def none_ : Lst := ⟨none, 0, 0, fun _ => 0, fun _ => 0⟩
def planN (e : Int) : PlanD := ⟨e, 0, none_, none_, none_, none_⟩
def planR (g : Nat) (a x : Int) : PlanD := ⟨0, 0, none_, none_, ⟨some ⟨g, 0, none⟩, 1, 1, fun _ => a, fun _ => x⟩, none_⟩
theorem planN_at (w : World) (e : Int) : PlanAt w (planN e) := ⟨.inl rfl, .inl rfl, .inl rfl, .inl rfl⟩
theorem planN_small (e : Int) : (planN e).small := ⟨Nat.zero_le _, Nat.zero_le _, Nat.zero_le _, Nat.zero_le _⟩
theorem planR_small (g : Nat) (a x : Int) : (planR g a x).small := ⟨Nat.zero_le _, Nat.zero_le _, show 1 ≤ 1000 by omega, Nat.zero_le _⟩
theorem planR_at (w : World) (a x : Int) : PlanAt (w.alloc (.cells #[.int .i64 a, .int .u64 x] 71)) (planR w.heap.size a x) := ⟨.inl rfl, .inl rfl, pairs_one w a x 71 _ _ rfl rfl, .inl rfl⟩
theorem may_N : mayE (planN 0) (linesN 1 2 4) = 0 := by decide
theorem may_Ne : mayE (planN 628) (linesN 1 2 4) = 2 := by decide
theorem may_R8 (g : Nat) : mayE (planR g 8 3) (linesN 1 2 4) = 0 := by
  unfold mayE
  rw [if_neg (show ¬ ((planR g 8 3).err ≠ 0 ∨ farP (planR g 8 3) (linesN 1 2 4) = true) from fun h => by
    rcases h with h | h
    · exact h rfl
    · exact absurd h (by unfold farP planR none_ linesN; simp [farB]))]
  rfl
theorem may_R296 (g : Nat) : mayE (planR g 296 3) (linesN 1 2 4) = 2 := by
  unfold mayE
  rw [if_pos (.inr (by unfold farP planR none_ linesN; simp [farB]))]
theorem line_one (f : Nat → Int) : lineL f 1 = [f 0 / 8] := by
  unfold lineL
  simp [List.eraseDups_cons]
theorem line_two (f : Nat → Int) (h : f 1 / 8 = f 0 / 8) : lineL f 2 = [f 0 / 8] := by
  unfold lineL
  rw [show (List.range 2).map (fun k => f k / 8) = [f 0 / 8, f 0 / 8] by simp [List.range_succ, h]]
  simp [List.eraseDups_cons]
theorem stepsN (a : Int) : stepsL a (planN 0) = [⟨4, 0, 0⟩] := by
  unfold stepsL
  simp [planN, none_, writtenL, storesL, linesL, lineL, redoL]
theorem stepsR (g : Nat) : ∃ c : Int, stepsL (slotAt 2 0) (planR g 8 3) = [⟨1, 40, 8⟩, ⟨1, 41, 3⟩, ⟨2, 5, 0⟩, ⟨3, 0, 0⟩, ⟨1, 32, c⟩, ⟨2, 4, 0⟩, ⟨3, 0, 0⟩, ⟨4, 0, 0⟩, ⟨1, 8, 3⟩, ⟨2, 1, 0⟩, ⟨3, 0, 0⟩, ⟨1, 32, 0⟩, ⟨2, 4, 0⟩, ⟨3, 0, 0⟩] := by
  refine ⟨(commitN (fun _ => 8) (fun _ => 3) 1 : Nat), ?_⟩
  have e0 : slotAt 2 0 = 32 := by decide
  have b0 : bodyF (fun _ => 8) (fun _ => 3) 0 = 8 := by decide
  have b1 : bodyF (fun _ => 8) (fun _ => 3) 1 = 3 := by decide
  unfold stepsL
  rw [e0]
  simp only [planR, none_, redoL]
  have w1 : writtenL (fun j => 32 + 8 + j) (fun j => (bodyF (fun _ => 8) (fun _ => 3) j : Nat)) (2 * 1) = [⟨1, 40, 8⟩, ⟨1, 41, 3⟩, ⟨2, 5, 0⟩, ⟨3, 0, 0⟩] := by
    unfold writtenL
    rw [line_two _ (by decide)]
    simp [storesL, linesL, flushL, List.range_succ, b0, b1]
  have w2 : ∀ (a x : Int), writtenL (fun _ => a) (fun _ => x) 1 = [⟨1, a, x⟩, ⟨2, a / 8, 0⟩, ⟨3, 0, 0⟩] := fun a x => by
    unfold writtenL
    rw [line_one]
    simp [storesL, linesL, flushL]
  have w0 : writtenL (fun _ => 0) (fun _ => 0) 0 = [] := by simp [writtenL, storesL, linesL, lineL]
  rw [w1, w2, w2, w2, w0]
  simp [linesL, storesL]
theorem ops_at {w : World} {v : Value} {L : List Op3} (n : Nat) (hn : L.length = n) (h0 : 0 < n) (h : OpsAt w v L) : ∃ q c, v = .slice (some ⟨q, 0, none⟩) n c ∧ q < w.heap.size ∧ ∀ k (h : k < L.length), w.cell? ⟨q, k * 3, none⟩ = some (.int .u8 L[k].k) ∧ w.cell? ⟨q, k * 3 + 1, none⟩ = some (.int .i64 L[k].a) ∧ w.cell? ⟨q, k * 3 + 2, none⟩ = some (.int .u64 L[k].w) := by
  obtain ⟨A, c, rfl, h1 | ⟨q, rfl, hlt, hc⟩⟩ := h
  · omega
  · exact ⟨q, c, by rw [hn], hlt, hc⟩
set_option maxHeartbeats 4000000 in
set_option maxRecDepth 100000 in
theorem alive_any (w : World) : Calls Try.prog 8 #[] w fun e w' => e = .returned (.bool true) ∧ Below w.heap.size w w' := by
  go_enter Try.func8, Try.ntmps8
  go_wp2_with fail
  refine (small_any _).mono ?_
  rintro e w1 ⟨rfl, hb⟩
  have B1 := hid hb
  clear hb
  go_wp2_with fail
  have HH := steps_yes 1 2 4 0 (planN 0) w1 gok_small (by omega) (by omega) (planN_small 0) (planN_at _ _) may_N (fun k hk => absurd hk (Nat.not_lt_zero _))
  refine HH.mono ?_
  rintro e w2 ⟨v2, rfl, ho, hb⟩
  rw [stepsN] at ho
  obtain ⟨q2, c2, rfl, hq2, hc2⟩ := ops_at 1 rfl (by omega) ho
  have B2 := hid (B1.out.trans (hb.mono B1.out.size))
  have C2 := hid hc2
  clear hb ho HH hc2
  go_wp2_with fail
  refine (small_any _).mono ?_
  rintro e w3 ⟨rfl, hb⟩
  have B3 := hid (B2.out.trans (hb.mono B2.out.size))
  have F2 := hid hb
  clear hb
  go_wp2_with fail
  have HH := steps_yes 1 2 4 0 (planR w3.heap.size 8 3) _ gok_small (by omega) (by omega) (planR_small _ _ _) (planR_at w3 8 3) (may_R8 _) (fun k hk => show (0 : Int) ≤ 3 by omega)
  refine HH.mono ?_
  rintro e w4 ⟨v4, rfl, ho, hb⟩
  obtain ⟨C, hC⟩ := stepsR w3.heap.size
  rw [hC] at ho
  obtain ⟨q4, c4, rfl, hq4, hc4⟩ := ops_at 14 rfl (by omega) ho
  have B4 := hid ((B3.out.alloc B3.out.size _).trans (hb.mono (Nat.le_trans B3.out.size (by simp))))
  have F3 := hid (F2.out.trans (((Below.refl _ _).alloc F2.out.size _).trans (hb.mono (Nat.le_trans F2.out.size (by simp)))))
  have C4 := hid hc4
  clear hb ho HH hc4 hC
  go_wp2_with fail
  refine (small_any _).mono ?_
  rintro e w5 ⟨rfl, hb⟩
  have B5 := hid (B4.out.trans (hb.mono B4.out.size))
  have F5 := hid (F3.out.trans (hb.mono F3.out.size))
  have G5 := hid hb
  clear hb
  go_wp2_with fail
  have HH := steps_may2 1 2 4 0 (planR w5.heap.size 296 3) _ gok_small (by omega) (by omega) (planR_small _ _ _) (planR_at w5 296 3) (may_R296 _)
  refine HH.mono ?_
  rintro e w6 ⟨rfl, hb⟩
  have B6 := hid ((B5.out.alloc B5.out.size _).trans (hb.mono (Nat.le_trans B5.out.size (by simp))))
  have F6 := hid (F5.out.trans (((Below.refl _ _).alloc F5.out.size _).trans (hb.mono (Nat.le_trans F5.out.size (by simp)))))
  have G6 := hid (G5.out.trans (((Below.refl _ _).alloc G5.out.size _).trans (hb.mono (Nat.le_trans G5.out.size (by simp)))))
  clear hb HH
  go_wp2_with fail
  refine (small_any _).mono ?_
  rintro e w7 ⟨rfl, hb⟩
  have B7 := hid (B6.out.trans (hb.mono B6.out.size))
  have F7 := hid (F6.out.trans (hb.mono F6.out.size))
  have G7 := hid (G6.out.trans (hb.mono G6.out.size))
  clear hb
  go_wp2_with fail
  have HH := steps_may2 1 2 4 0 (planN 628) w7 gok_small (by omega) (by omega) (planN_small _) (planN_at _ _) may_Ne
  refine HH.mono ?_
  rintro e w8 ⟨rfl, hb⟩
  have B8 := hid (B7.out.trans (hb.mono B7.out.size))
  have F8 := hid (F7.out.trans (hb.mono F7.out.size))
  have G8 := hid (G7.out.trans (hb.mono G7.out.size))
  clear hb HH
  have a0 := C2.out 0 (by decide)
  have x0 : w8.cell? ⟨q2, 0, none⟩ = some (.int .u8 4) := (F8.out.cell (p := ⟨q2, 0, none⟩) hq2).trans a0.1
  have x1 : w8.cell? ⟨q2, 1, none⟩ = some (.int .i64 0) := (F8.out.cell (p := ⟨q2, 1, none⟩) hq2).trans a0.2.1
  have x2 : w8.cell? ⟨q2, 2, none⟩ = some (.int .u64 0) := (F8.out.cell (p := ⟨q2, 2, none⟩) hq2).trans a0.2.2
  clear a0
  have b0 := C4.out 0 (show 0 < 14 by omega)
  have y0 : w8.cell? ⟨q4, 0, none⟩ = some (.int .u8 1) := (G8.out.cell (p := ⟨q4, 0, none⟩) hq4).trans b0.1
  have y1 : w8.cell? ⟨q4, 1, none⟩ = some (.int .i64 40) := (G8.out.cell (p := ⟨q4, 1, none⟩) hq4).trans b0.2.1
  have y2 : w8.cell? ⟨q4, 2, none⟩ = some (.int .u64 8) := (G8.out.cell (p := ⟨q4, 2, none⟩) hq4).trans b0.2.2
  clear b0
  have b2 := C4.out 2 (show 2 < 14 by omega)
  have y6 : w8.cell? ⟨q4, 6, none⟩ = some (.int .u8 2) := (G8.out.cell (p := ⟨q4, 6, none⟩) hq4).trans b2.1
  have y7 : w8.cell? ⟨q4, 7, none⟩ = some (.int .i64 5) := (G8.out.cell (p := ⟨q4, 7, none⟩) hq4).trans b2.2.1
  have y8 : w8.cell? ⟨q4, 8, none⟩ = some (.int .u64 0) := (G8.out.cell (p := ⟨q4, 8, none⟩) hq4).trans b2.2.2
  clear b2
  have b3 := C4.out 3 (show 3 < 14 by omega)
  have y9 : w8.cell? ⟨q4, 9, none⟩ = some (.int .u8 3) := (G8.out.cell (p := ⟨q4, 9, none⟩) hq4).trans b3.1
  clear b3
  have b4 := C4.out 4 (show 4 < 14 by omega)
  have y13 : w8.cell? ⟨q4, 13, none⟩ = some (.int .i64 32) := (G8.out.cell (p := ⟨q4, 13, none⟩) hq4).trans b4.2.1
  clear b4
  have b7 := C4.out 7 (show 7 < 14 by omega)
  have y21 : w8.cell? ⟨q4, 21, none⟩ = some (.int .u8 4) := (G8.out.cell (p := ⟨q4, 21, none⟩) hq4).trans b7.1
  clear b7
  have b8 := C4.out 8 (show 8 < 14 by omega)
  have y24 : w8.cell? ⟨q4, 24, none⟩ = some (.int .u8 1) := (G8.out.cell (p := ⟨q4, 24, none⟩) hq4).trans b8.1
  have y25 : w8.cell? ⟨q4, 25, none⟩ = some (.int .i64 8) := (G8.out.cell (p := ⟨q4, 25, none⟩) hq4).trans b8.2.1
  have y26 : w8.cell? ⟨q4, 26, none⟩ = some (.int .u64 3) := (G8.out.cell (p := ⟨q4, 26, none⟩) hq4).trans b8.2.2
  clear b8
  have b11 := C4.out 11 (show 11 < 14 by omega)
  have y33 : w8.cell? ⟨q4, 33, none⟩ = some (.int .u8 1) := (G8.out.cell (p := ⟨q4, 33, none⟩) hq4).trans b11.1
  have y34 : w8.cell? ⟨q4, 34, none⟩ = some (.int .i64 32) := (G8.out.cell (p := ⟨q4, 34, none⟩) hq4).trans b11.2.1
  have y35 : w8.cell? ⟨q4, 35, none⟩ = some (.int .u64 0) := (G8.out.cell (p := ⟨q4, 35, none⟩) hq4).trans b11.2.2
  clear b11
  have b13 := C4.out 13 (show 13 < 14 by omega)
  have y39 : w8.cell? ⟨q4, 39, none⟩ = some (.int .u8 3) := (G8.out.cell (p := ⟨q4, 39, none⟩) hq4).trans b13.1
  clear b13
  go_wp2_with fail
  go_ret
  exact ⟨rfl, B8.out⟩
end Go.Proofs.Ytimfnimcmfjjpaa
