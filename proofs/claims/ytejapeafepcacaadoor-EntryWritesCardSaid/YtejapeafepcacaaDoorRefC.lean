/- The document's answers: the checksum bit by bit; May of a slot; Head. -/
import Derived.Test.YtejapeafepcacaaDoorRefB
import Derived.Test.YtejapeafepcacaaDoorBlockC
namespace Go.Proofs.YtejapeafepcacaaDoor
open Go.RowKit
theorem xor_full (c : Nat) (hc : c < 4294967296) : bits BinOp.xor IntKind.u32 (c : Int) 4294967295 = ((4294967295 - c : Nat) : Int) := by
  rw [show (4294967295 : Int) = ((4294967295 : Nat) : Int) from rfl, u32_xor_nat _ _ hc (by omega), Nat.xor_comm, not32 c hc]
theorem xor_poly (c : Nat) (hc : c < 4294967296) : bits BinOp.xor IntKind.u32 ((c : Int) / 2) 3988292384 = ((c / 2 ^^^ 3988292384 : Nat) : Int) := by
  rw [show (3988292384 : Int) = ((3988292384 : Nat) : Int) from rfl, show ((c : Int) / 2) = ((c / 2 : Nat) : Int) by omega, u32_xor_nat _ _ (by omega) (by omega)]
theorem step_odd {x : Nat} (h : x % 2 = 1) : crcStep x = x / 2 ^^^ 3988292384 := by unfold crcStep; rw [if_pos h]
theorem step_even {x : Nat} (h : ¬ x % 2 = 1) : crcStep x = x / 2 := by unfold crcStep; rw [if_neg h, Nat.xor_zero]
set_option maxHeartbeats 1000000 in
set_option maxRecDepth 100000 in
theorem rmore_any (c : Nat) (s : ByteArray) (hc : c < 4294967296) (hs : s.size ≤ 1000000) (w : World) :
    Calls Tryd.prog 43 #[.int .u32 (c : Int), .string s] w fun e w' => e = .returned (.int .u32 ((4294967295 - crcL (4294967295 - c) s.data.toList : Nat) : Int)) ∧ w = w' := by
  have hn := xor_full c hc
  have hd : 4294967295 - c < 4294967296 := by omega
  generalize 4294967295 - c = d at hn hd ⊢
  go_enter Tryd.func43, Tryd.ntmps43
  go_wp2
  clear hn
  go_loop [0, 5] (fun v i => ∃ k : Nat, k ≤ s.size ∧ i = .int .i64 k ∧ v = .int .u32 (crcL d (s.data.toList.take k) : Nat)) (fun _ i => s.size - (intOf i).toNat)
  case atStart => exact ⟨0, by omega, rfl, rfl⟩
  case round =>
    obtain ⟨k, hk, rfl, rfl⟩ := hrel
    have hl := crcL_lt (s.data.toList.take k) hd
    generalize hq : crcL d (s.data.toList.take k) = q at *
    have Hq := hid hq
    clear hq
    by_cases hlt : k < s.size
    · have hb := s[k].toNat_lt
      have Hs := hid (crcL_take d s k hlt)
      have hx := u32_xor_nat q s[k].toNat hl (by omega)
      have hxl : q ^^^ s[k].toNat < 4294967296 := Nat.xor_lt_two_pow (n := 32) (by omega) (by omega)
      go_wp2
      clear hx
      go_loop [0, 6] (fun v i => ∃ j : Nat, j ≤ 8 ∧ i = .int .i64 j ∧ v = .int .u32 (crcIter j (q ^^^ s[k].toNat) : Nat)) (fun _ i => 8 - (intOf i).toNat)
      case atStart => exact ⟨0, by omega, rfl, rfl⟩
      case round =>
        obtain ⟨j, hj, rfl, rfl⟩ := hrel
        have hl2 := crcIter_lt hxl j
        generalize hr : crcIter j (q ^^^ s[k].toNat) = r at *
        have Hr := hid hr
        clear hr
        by_cases hj8 : j < 8
        · by_cases ho : r % 2 = 1
          · have hp := xor_poly r hl2
            have hst := hid (step_odd ho)
            have ho' : (r : Int) % 2 = 1 := by omega
            go_wp2
            go_round
            case rel => exact ⟨j + 1, by omega, by go_num, by rw [crcIter, Hr.out, hst.out]⟩
            case measure => simp [intOf]; omega
          · have hst := hid (step_even ho)
            have ho' : (r : Int) % 2 = 0 := by omega
            go_wp2
            go_round
            case rel => exact ⟨j + 1, by omega, by go_num, by rw [crcIter, Hr.out, hst.out]; rfl⟩
            case measure => simp [intOf]; omega
        · have : j = 8 := by omega
          subst this
          go_wp2
          go_round
          case rel => exact ⟨k + 1, by omega, by go_num, by rw [Hs.out, Hq.out, Hr.out]⟩
          case measure => simp [intOf]; omega
    · have hn := xor_full q hl
      go_wp2
      go_ret
      have : k = s.size := by omega
      subst this
      rw [List.take_of_length_le (by simp)] at Hq
      exact ⟨by rw [Hq.out]; rfl, rfl⟩
set_option maxHeartbeats 400000 in
theorem rof_any (s : ByteArray) (hs : s.size ≤ 1000000) (w : World) :
    Calls Tryd.prog 35 #[.string s] w fun e w' => e = .returned (.int .u32 (crcOf s.data.toList : Nat)) ∧ w = w' := by
  have H := hid (rmore_any 0 s (by omega) hs)
  go_enter Tryd.func35, Tryd.ntmps35
  go_wp2_with (go_at_call 43; refine (H.out _).mono ?_; rintro e w' ⟨rfl, rfl⟩)
  go_ret
  exact ⟨rfl, rfl⟩
set_option maxHeartbeats 1000000 in
set_option maxRecDepth 100000 in
theorem rmay_any (ino kind p i b : Int) (s : ByteArray) (hs : s.size ≤ 1000000) (w : World) :
    Calls Tryd.prog 14 #[.agg #[.int .i64 ino, .int .u8 kind, .string s], .agg #[.int .i64 p, .int .i64 i, .int .i64 b]] w fun e w' => e = .returned (.bool (mayB ino kind s.data.toList p i b)) ∧ Below w.heap.size w w' := by
  go_enter Tryd.func14, Tryd.ntmps14
  go_wp2_with fail
  refine (rgeom_any p i b _).mono ?_
  rintro e w1 ⟨rfl, hb⟩
  obtain ⟨hc, hf⟩ := bcell hb
  have Hb := hid ((((Below.refl _ _).alloc (Nat.le_refl _) _).alloc (by simp) _).trans (hb.mono (by simp; omega)))
  clear hb
  cases hg : gok p i b
  · have hm : mayB ino kind s.data.toList p i b = false := by unfold mayB; rw [hg]; rfl
    go_wp2_with fail
    go_ret
    exact ⟨by rw [hm]; rfl, Hb.out⟩
  · have hm : mayB ino kind s.data.toList p i b = slotB ino kind s.data.toList i := by unfold mayB; rw [hg, Bool.true_and]
    have Hm := hid hm
    clear hm
    go_wp2_with (go_at_call 31; refine (rnamed_any _ _ hs).mono ?_; rintro e w2 ⟨rfl, rfl⟩)
    all_goals
      go_ret
      refine ⟨?_, Hb.out⟩
      rw [Hm.out]
      clear hc hf Hb Hm
      simp only [Lib.toList_data] at *
      show Ending.returned (Value.bool _) = _
      generalize s.data.toList = l at *
      first
        | (simp [slotB, *]; done)
        | (simp [slotB, *]; omega)
set_option maxHeartbeats 400000 in
set_option maxRecDepth 100000 in
theorem rhead_any (next : Int) (h0 : 0 ≤ next) (h1 : next ≤ 255) (w : World) :
    Calls Tryd.prog 19 #[.int .i64 next] w fun e w' => e = .returned (.int .u64 (headN next : Nat)) ∧ w = w' := by
  go_enter Tryd.func19, Tryd.ntmps19
  go_wp2
  go_ret
  refine ⟨ret_int ?_, rfl⟩
  unfold headN
  omega
end Go.Proofs.YtejapeafepcacaaDoor
