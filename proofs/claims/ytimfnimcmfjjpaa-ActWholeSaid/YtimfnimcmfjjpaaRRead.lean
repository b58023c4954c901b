/- The reference's Read of a slot: none; or the list that lies in it. -/
import Derived.Test.YtimfnimcmfjjpaaDev
import Derived.Deep.RegionHeld3
import Derived.Deep.DeepCutAuto
import Derived.Deep.MidRow
namespace Go.Proofs.Ytimfnimcmfjjpaa
open Go.RowKit
/-- The 136 words of a slot. -/
def SlotIn (w : World) (A : Option Addr) (F : Nat → Int) : Prop := ∃ ad, A = some ad ∧ ad.block < w.heap.size ∧ ∀ k, k < 136 → w.cell? (ad.add k) = some (.int .u64 (F k))
theorem SlotIn.below {w w' : World} {A : Option Addr} {F : Nat → Int} (h : SlotIn w A F) (hb : Below w.heap.size w w') : SlotIn w' A F := by
  obtain ⟨ad, rfl, h1, h2⟩ := h
  exact ⟨ad, rfl, Nat.lt_of_lt_of_le h1 hb.size, fun k hk => (hb.cell (p := ad.add k) (by rw [block_of_add]; exact h1)).trans (h2 k hk)⟩
theorem pairs_drew {w : World} {A : Option Addr} {n : Nat} {f g : Nat → Int} (h : PairsAt w A n f g) : PairsAt w.drew A n f g := h
theorem Below.undrew' {B : Nat} {w w' : World} (h : Below B w.drew w') : Below B w w' := ⟨h.os, h.tape, h.output, h.size, h.block⟩
theorem pairs_set2 {w : World} {A : Option Addr} {n b o : Nat} {f g : Nat → Int} (h : PairsAt w A n f g) (hA : ∀ ad, A = some ad → ad.block ≠ b) (v : Value) : PairsAt (w.setCell ⟨b, o, none⟩ v) A n f g := by
  rcases h with h0 | ⟨ad, rfl, hl, hc⟩
  · exact .inl h0
  · have hne := hA ad rfl
    have far : ∀ j, (w.setCell ⟨b, o, none⟩ v).cell? (ad.add j) = w.cell? (ad.add j) := fun j => World.cell?_setCell_far _ _ _ _ (by rw [block_of_add]; exact fun e => hne e.symm)
    exact .inr ⟨ad, rfl, by simpa [World.setCell] using hl, fun k hk => by rw [far, far]; exact hc k hk⟩
theorem add_none (ad : Addr) : ad.add 0 = ad := by unfold Addr.add; rw [if_pos rfl]
theorem results_ttc {fn : Func} {t u c : Tmp} {ty : TypeId} (h : fn.results = #[.tmp t, .tmp u, .cell c ty]) (tmps : Array Value) (P : Program) (w : World) (ad : Addr) (v : Value) (hc : tmps.getD c undef = .pointer (some ad)) (hl : (loadVar ty ad).run P w = .ok v w) :
    (results fn tmps).run P w = .ok (.tuple #[tmps.getD t undef, tmps.getD u undef, v]) w := by
  rw [Array.getD_eq_getD_getElem?] at hc
  simp [results, h, hc, asAddr, hl]
theorem run_fault (w : World) (B : Nat) (x y : Value) (h0 : w.cell? ⟨B, 0, none⟩ = some x) (h1 : w.cell? ⟨B, 1, none⟩ = some y) : (loadVar 56 ⟨B, 0, none⟩).run Try.prog w = .ok (.agg #[x, y]) w := by
  have := run_loadVar_mid (P := Try.prog) w B 0 56 [x, y] _ (fun j v hj => by
    rw [Nat.zero_add]
    match j, hj with
    | 0, hj => rw [← Option.some.inj hj]; exact h0
    | 1, hj => rw [← Option.some.inj hj]; exact h1) Try.underlying56 rfl (by kernel_rfl)
  exact this
set_option maxHeartbeats 2000000 in
set_option maxRecDepth 100000 in
theorem rread_none (A : Option Addr) (c : Nat) (F : Nat → Int) (w : World) (h : SlotIn w A F) (h0 : F 0 = 0) :
    Calls Try.prog 21 #[.slice A 136 c] w fun e w' => e = .returned (.tuple #[.slice none 0 0, .bool false, .agg #[.int .i64 0, .int .i64 0]]) ∧ Below w.heap.size w w' := by
  obtain ⟨ad, rfl, hlt, hc⟩ := h
  have b0 := hid (((Below.refl w.heap.size w).alloc (Nat.le_refl _) (.cells #[.int .i64 0, .int .i64 0] 56)).alloc (by simp) (.cells #[.int .i64 0, .int .i64 7] 56))
  have c0 := (b0.out.cell (p := ad.add 0) hlt).trans (hc 0 (by omega))
  rw [h0, add_none] at c0
  clear hc h0 hlt
  go_enter Try.func21, Try.ntmps21
  go_wp2
  refine bodyPost_ret (results_ttc rfl _ Try.prog _ ⟨w.heap.size, 0, none⟩ _ rfl (run_fault _ _ (.int .i64 0) (.int .i64 0) (by simp) (by simp))) rfl ⟨rfl, b0.out⟩
theorem body_even (f g : Nat → Int) (k : Nat) (h : 0 ≤ f k) : ((bodyF f g (2 * k) : Nat) : Int) = f k := by
  unfold bodyF
  rw [if_pos (by omega), show 2 * k / 2 = k by omega]
  omega
theorem body_odd (f g : Nat → Int) (k : Nat) (h : 0 ≤ g k) : ((bodyF f g (2 * k + 1) : Nat) : Int) = g k := by
  unfold bodyF
  rw [if_neg (by omega), show (2 * k + 1) / 2 = k by omega]
  omega
theorem commit_rem (f g : Nat → Int) (n : Nat) (hn : n ≤ 64) : ((commitN f g n : Nat) : Int).tmod 256 = (n : Int) ∧ ((commitN f g n : Nat) : Int) ≠ 0 := by
  have e : commitN f g n = n + 20992 + crcOf (textW (bodyF f g) (8 * (2 * n))) * 4294967296 := rfl
  rw [e, Int.tmod_eq_emod_of_nonneg (by omega)]
  generalize crcOf (textW (bodyF f g) (8 * (2 * n))) = q
  omega
set_option maxHeartbeats 4000000 in
set_option maxRecDepth 100000 in
theorem rread_list (A : Option Addr) (c n : Nat) (F f g : Nat → Int) (w : World) (h : SlotIn w A F) (hn : n ≤ 64) (hf : ∀ k, k < n → 0 ≤ f k ∧ f k < 1048576) (hg : ∀ k, k < n → 0 ≤ g k ∧ g k < 18446744073709551616)
    (h0 : F 0 = (commitN f g n : Nat)) (hb : ∀ j, j < 2 * n → F (8 + j) = (bodyF f g j : Nat)) :
    Calls Try.prog 21 #[.slice A 136 c] w fun e w' => ∃ A' c', e = .returned (.tuple #[.slice A' n c', .bool true, .agg #[.int .i64 0, .int .i64 0]]) ∧ PairsAt w' A' n f g ∧ Below w.heap.size w w' := by
  obtain ⟨ad, rfl, hlt, hc⟩ := h
  have b0 := hid (((Below.refl w.heap.size w).alloc (Nat.le_refl _) (.cells #[.int .i64 0, .int .i64 0] 56)).alloc (by simp) (.cells #[.int .i64 0, .int .i64 7] 56))
  have Hc := hid (show ∀ k, k < n → w.cell? (ad.add (8 + 2 * k)) = some (.int .u64 (f k)) ∧ w.cell? (ad.add (8 + 2 * k + 1)) = some (.int .u64 (g k)) from fun k hk => by
    have e0 := hc (8 + 2 * k) (by omega)
    have e1 := hc (8 + 2 * k + 1) (by omega)
    rw [hb (2 * k) (by omega), body_even f g k (hf k hk).1] at e0
    rw [show 8 + 2 * k + 1 = 8 + (2 * k + 1) by omega, hb (2 * k + 1) (by omega), body_odd f g k (hg k hk).1] at e1
    exact ⟨e0, e1⟩)
  have HF := hid hf
  have HG := hid hg
  obtain ⟨hq, hz⟩ := commit_rem f g n hn
  have HCM := hid (fun (A : Option Addr) (c : Nat) (w : World) (hp : PairsAt w A n f g) => rcommit_any A n c f g w hn hp hf hg)
  have hcz := hc 0 (by omega)
  rw [h0, add_none] at hcz
  clear hc hb h0 hf hg
  generalize ((commitN f g n : Nat) : Int) = C at hq hz HCM hcz
  have Hcz := hid hcz
  have Hlt := hid hlt
  have c0 := (b0.out.cell (p := ad) hlt).trans hcz
  have hz' : (C == 0) = false := by simpa using hz
  have hn64 : ¬ (64 : Int) < (n : Int) := by omega
  have hwn : IntKind.i64.wrap (n : Int) = (n : Int) := by rw [IntKind.wrap_i64]; omega
  clear hcz hlt
  go_enter Try.func21, Try.ntmps21
  go_wp2
  clear hz' hz
  have rB0 := hid (heap_alloc_last w (.cells #[.int .i64 0, .int .i64 0] 56))
  generalize hW0 : (w.alloc (Obj.cells #[Value.int IntKind.i64 0, Value.int IntKind.i64 0] 56)).alloc (Obj.cells #[Value.int IntKind.i64 0, Value.int IntKind.i64 7] 56) = W0 at b0 c0 ⊢
  have HW0 := hid hW0
  have hsz0 := hid (show w.heap.size < W0.heap.size by rw [← hW0]; simp; omega)
  have hr0 := hid (show W0.heap[w.heap.size]? = some (.cells #[.int .i64 0, .int .i64 0] 56 (0, 0)) by rw [← hW0]; exact ((Below.refl (w.heap.size + 1) _).alloc (by simp) _).block _ (by omega) |>.trans (heap_alloc_last w _))
  clear hW0
  go_loopw [7, 8, 9] (fun v i _ wr => ∃ k : Nat, k ≤ n ∧ i = .int .i64 k ∧ wr.ownsRow W0.heap.size 71 2 v k (pairsV f g k) ∧ Below W0.heap.size W0 wr) (fun _ i _ _ => n - (intOf i).toNat)
  case atStart => exact ⟨0, by omega, rfl, ⟨rfl, .inl ⟨rfl, rfl⟩⟩, Below.refl _ _⟩
  case round =>
    obtain ⟨k, hk, rfl, hown, hb⟩ := hrel
    have Hown := hid hown
    have Hb := hid hb
    clear hown hb
    by_cases hlt : k < n
    · have hlt' : (k : Int) < (n : Int) := by omega
      have h0k : (0 : Int) ≤ (k : Int) := by omega
      have e0 := (Hb.out.cell (p := ad.add (8 + 2 * k)) (by rw [block_of_add]; exact Nat.lt_trans Hlt.out hsz0.out)).trans ((b0.out.cell (p := ad.add (8 + 2 * k)) (by rw [block_of_add]; exact Hlt.out)).trans (Hc.out k hlt).1)
      have e1 := (Hb.out.cell (p := ad.add (8 + 2 * k + 1)) (by rw [block_of_add]; exact Nat.lt_trans Hlt.out hsz0.out)).trans ((b0.out.cell (p := ad.add (8 + 2 * k + 1)) (by rw [block_of_add]; exact Hlt.out)).trans (Hc.out k hlt).2)
      rw [add_lit _ _ (by omega)] at e1
      have hf0 := (HF.out k hlt).1
      have hf1 : ¬ (1048576 : Int) ≤ f k := by have := (HF.out k hlt).2; omega
      have hwf : IntKind.i64.wrap (f k) = f k := by have := (HF.out k hlt).2; rw [IntKind.wrap_i64]; omega
      have t1 : IntKind.i64.wrap (2 * (k : Int)) = 2 * (k : Int) := by rw [IntKind.wrap_i64]; omega
      have t2 : IntKind.i64.wrap (8 + 2 * (k : Int)) = 8 + 2 * (k : Int) := by rw [IntKind.wrap_i64]; omega
      have t3 : IntKind.i64.wrap (8 + 2 * (k : Int) + 1) = 8 + 2 * (k : Int) + 1 := by rw [IntKind.wrap_i64]; omega
      have t4 : (8 + 2 * (k : Int)).toNat = 8 + 2 * k := by omega
      have t5 : (8 + 2 * (k : Int) + 1).toNat = 8 + 2 * k + 1 := by omega
      have t6 : (0 : Int) ≤ 8 + 2 * (k : Int) := by omega
      have t7 : 8 + 2 * (k : Int) < 136 := by omega
      have t8 : (0 : Int) ≤ 8 + 2 * (k : Int) + 1 := by omega
      have t9 : 8 + 2 * (k : Int) + 1 < 136 := by omega
      go_wp2_with (at_builtin; refine wpList_append_pair rfl (.tmp 42) (.tmp 53) rfl W0.heap.size _ k _ rfl (owns_below Hown.out ((Below.refl _ _).alloc (Nat.le_refl _) _)) (Nat.le_trans Hb.out.size (by simp)) wr.heap.size (f k) (g k) 1 rfl (by simp) (by simp) (by omega) ?_; intro v2 w2 how2 hb2; have Ho2 := hid how2; have Hb2 := hid ((Hb.out.alloc Hb.out.size _).trans hb2); clear how2 hb2)
      go_roundw
      case rel =>
        refine ⟨k + 1, by omega, by go_num, ?_, Hb2.out⟩
        rw [pairsV_succ]
        exact Ho2.out
      case measure => simp [intOf]; omega
    · obtain rfl : n = k := by omega
      obtain ⟨A2, c2, rfl, hP, hAB⟩ := pairs_of_own Hown.out
      have HP := hid hP
      have HAB := hid (show ∀ ad, A2 = some ad → ad.block ≠ w.heap.size from fun ad e e2 => by have := hAB ad e; have := hsz0.out; omega)
      have HC2 := hid (HCM.out A2 c2)
      clear hP hAB
      have z0 := (Hb.out.cell (p := ad) (Nat.lt_trans Hlt.out hsz0.out)).trans c0
      have Hb0 := hid (b0.out.trans (Hb.out.mono b0.out.size))
      have hr1 := hid ((Hb.out.block _ hsz0.out).trans hr0.out)
      have HPd := hid (pairs_drew HP.out)
      go_wp2
      go_region_held3 (fun w' => w'.cell? ad = some (.int .u64 C)) (first | exact z0 | exact z3)
        (first | (go_at_call 39; refine (HC2.out _ ?_).mono ?_; (exact HPd.out); rintro e w3 ⟨rfl, hb⟩; have HB3 := hid (Below.undrew' hb); have z3 := (HB3.out.cell (p := ad) (Nat.lt_of_lt_of_le Hlt.out Hb0.out.size)).trans z0; clear hb))
      all_goals
        have hr3 := (HB3.out.block _ (lt_of_block hr1.out)).trans hr1.out
        have q0 := cell_of_row _ _ 0 _ _ _ hr3
        have q1 := cell_of_row _ _ 1 _ _ _ hr3
        have f0 := frozen_row hr3 0
        have f1 := frozen_row hr3 1
        have HP3 := hid (pairs_below HP.out HB3.out)
        have BX := hid (Hb0.out.trans (HB3.out.mono Hb0.out.size))
        go_wp2
        have r0 : ((w3.setCell ⟨w.heap.size, 0, none⟩ (.int .i64 0)).setCell ⟨w.heap.size, 1, none⟩ (.int .i64 0)).cell? ⟨w.heap.size, 0, none⟩ = some (.int .i64 0) := by
          rw [World.cell?_setCell_other _ _ _ _ (by simp)]
          exact World.cell?_setCell_same _ _ _ q0
        have r1 : ((w3.setCell ⟨w.heap.size, 0, none⟩ (.int .i64 0)).setCell ⟨w.heap.size, 1, none⟩ (.int .i64 0)).cell? ⟨w.heap.size, 1, none⟩ = some (.int .i64 0) := by
          refine World.cell?_setCell_same _ _ _ ((World.cell?_setCell_other _ _ _ _ (by simp)).trans q1)
        refine bodyPost_ret (results_ttc rfl _ Try.prog _ ⟨w.heap.size, 0, none⟩ _ rfl (run_fault _ _ (.int .i64 0) (.int .i64 0) r0 r1)) rfl ⟨_, _, rfl, ?_, (BX.out.setCell (Nat.le_refl _) _).setCell (Nat.le_refl _) _⟩
        exact pairs_set2 (pairs_set2 HP3.out (fun ad e => HAB.out ad e) _) (fun ad e => HAB.out ad e) _
end Go.Proofs.Ytimfnimcmfjjpaa
