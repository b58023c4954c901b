/- The reference's Apply: a list is stored into a copy of words. -/
import Derived.Test.YtimfnimcmfjjpaaDCrash
namespace Go.Proofs.Ytimfnimcmfjjpaa
open Go.RowKit
set_option maxHeartbeats 2000000 in
set_option maxRecDepth 100000 in
theorem rapply_any (b n cap : Nat) (K : Nat → Int) (A : Option Addr) (m c : Nat) (f g : Nat → Int) (w : World) (hk : KeptAt w b n K) (h0 : 0 < n) (hn : n ≤ 1000000) (hm : m ≤ 1000) (hp : PairsAt w A m f g) (hf : ∀ k, k < m → 0 ≤ f k ∧ f k < (n : Int)) :
    Calls Try.prog 22 #[.slice (some ⟨b, 0, none⟩) n cap, .slice A m c] w fun e w' => ∃ b' c', e = .returned (.tuple #[.slice (some ⟨b', 0, none⟩) n c', .int .i64 0]) ∧ w.heap.size ≤ b' ∧ KeptAt w' b' n (setsK K f g m) ∧ Below w.heap.size w w' := by
  have HI := hid hk.wordsIn
  have HP := hid hp
  have HF := hid hf
  clear hk hp hf
  go_enter Try.func22, Try.ntmps22
  go_wp2
  go_loopw [6] (fun v wr => ∃ k : Nat, k ≤ m ∧ v = .int .i64 k ∧ Below w.heap.size w wr) (fun v _ => m - (intOf v).toNat)
  case atStart => exact ⟨0, by omega, rfl, Below.refl _ _⟩
  case round =>
    rename World => wx
    obtain ⟨k, hk, rfl, hb⟩ := hrel
    have Hb := hid hb
    clear hb
    by_cases hlt : k < m
    · have hlt' : (k : Int) < (m : Int) := by omega
      have h0k : (0 : Int) ≤ (k : Int) := by omega
      obtain ⟨ad, rfl, hadl, hc⟩ : ∃ ad, A = some ad ∧ ad.block < wx.heap.size ∧ wx.cell? (ad.add (k * 2)) = some (.int .i64 (f k)) := by
        rcases pairs_below HP.out Hb.out with h0 | ⟨ad, e, hl1, hc⟩
        · omega
        · exact ⟨ad, e, hl1, (hc k hlt).1⟩
      have f0 : ¬ f k < 0 := by have := HF.out k hlt; omega
      have f1 : ¬ (n : Int) ≤ f k := by have := HF.out k hlt; omega
      go_wp2
      go_roundw
      case rel => exact ⟨k + 1, by omega, by go_num, Hb.out⟩
      case measure => simp [intOf]; omega
    · obtain rfl : m = k := by omega
      have HIx := hid (HI.out.below Hb.out)
      go_wp2_with (at_builtin; refine wpList_copy_words rfl (.const (.slice none 0 0)) (.tmp 31) rfl _ n cap K rfl rfl HIx.out h0 hn ?_; intro c' w2 hb hk; have HB2 := hid hb; have HK2 := hid hk; clear hb hk)
      go_loopw [8] (fun v wr => ∃ k : Nat, k ≤ m ∧ v = .int .i64 k ∧ KeptAt wr wx.heap.size n (setsK K f g k) ∧ Below wx.heap.size wx wr) (fun v _ => m - (intOf v).toNat)
      case atStart => exact ⟨0, by omega, rfl, HK2.out, HB2.out⟩
      case round =>
        obtain ⟨k, hk, rfl, hkp, hb⟩ := hrel
        have HK := hid hkp
        have HB := hid hb
        clear hkp hb
        by_cases hlt : k < m
        · have hlt' : (k : Int) < (m : Int) := by omega
          have h0k : (0 : Int) ≤ (k : Int) := by omega
          obtain ⟨ad, rfl, hadl, c0, c1⟩ : ∃ ad, A = some ad ∧ ad.block < wr.heap.size ∧ wr.cell? (ad.add (k * 2)) = some (.int .i64 (f k)) ∧ wr.cell? (ad.add (k * 2 + 1)) = some (.int .u64 (g k)) := by
            rcases pairs_below (pairs_below HP.out Hb.out) HB.out with h0 | ⟨ad, e, hl1, hc⟩
            · omega
            · exact ⟨ad, e, hl1, (hc k hlt).1, (hc k hlt).2⟩
          have c1' : wr.cell? ⟨(ad.add (k * 2)).block, (ad.add (k * 2)).off + 1, none⟩ = some (.int .u64 (g k)) := by rw [← add_lit (ad.add (k * 2)) 1 (by omega), Addr.add_add]; exact c1
          clear c1
          have hfk := HF.out k hlt
          have HN := hid (setsK_succ K f g k)
          generalize f k = fk at c0 hfk HN
          obtain ⟨x, rfl⟩ := Int.eq_ofNat_of_zero_le hfk.1
          have hx1 : (x : Int) < (n : Int) := hfk.2
          have hx0 : (0 : Int) ≤ (x : Int) := by omega
          obtain ⟨ca, F, q1, q2, q3⟩ := HK.out
          have e0 := q2.cell (i := x) (by omega)
          have e1 := q2.frozen x
          clear q1 q2 q3 hfk
          go_wp2
          refine wp_region_still_tail 12 (by kernel_rfl) (by kernel_rfl) ?_
          simp only [List.take_succ_cons, List.take_zero, List.drop_succ_cons, List.drop_zero]
          repeat still_step
          refine wpStill_nil ?_
          change wpList _ _ _ _ _ wr.drew
          go_wp2
          go_roundw
          case rel =>
            have KX := HK.out.set (m := x) (g k)
            have BX := HB.out.setCell (p := ⟨wx.heap.size, x, none⟩) (Nat.le_refl _) (.int .u64 (g k))
            exact ⟨k + 1, by omega, by go_num, by rw [HN.out]; exact KX, ⟨BX.os, BX.tape, BX.output, BX.size, BX.block⟩⟩
          case measure => simp [intOf]; omega
        · obtain rfl : m = k := by omega
          go_wp2
          go_ret2
          exact ⟨_, c', rfl, Hb.out.size, HK.out, Hb.out.trans (HB.out.mono Hb.out.size)⟩
end Go.Proofs.Ytimfnimcmfjjpaa
