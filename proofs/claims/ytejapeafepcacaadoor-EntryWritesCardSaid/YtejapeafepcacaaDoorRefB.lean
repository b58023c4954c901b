/- The document's answers: the fields of a word, bit by bit; May of a slot; Head; the checksum. -/
import Derived.Test.YtejapeafepcacaaDoorRefA
namespace Go.Proofs.YtejapeafepcacaaDoor
open Go.RowKit
set_option maxHeartbeats 400000 in
set_option maxRecDepth 100000 in
theorem field8 (a : Nat) (ha : a ≤ 56) (w : World) :
    Calls Tryd.prog 52 #[.int .i64 (a : Nat), .int .i64 8] w fun e w' => e = .returned (.bool true) ∧ w = w' := by
  have h1 : (a : Int) ≤ 56 := by omega
  have h2 : (a : Int) ≤ 63 := by omega
  have h0 : (0 : Int) ≤ (a : Int) := by omega
  go_enter Tryd.func52, Tryd.ntmps52
  go_wp2
  go_ret
  exact ⟨rfl, rfl⟩
set_option maxHeartbeats 400000 in
set_option maxRecDepth 100000 in
theorem bit_any (x i : Nat) (z : Int) (hz : z = i) (hx : x < 18446744073709551616) (hi : i < 64) (w : World) :
    Calls Tryd.prog 53 #[.int .u64 (x : Nat), .int .i64 z] w fun e w' => e = .returned (.int .u64 ((x / 2 ^ i % 2 : Nat) : Int)) ∧ w = w' := by
  subst hz
  go_enter Tryd.func53, Tryd.ntmps53
  go_wp2
  go_ret
  refine ⟨ret_int ?_, rfl⟩
  rw [Int.tmod_eq_emod_of_nonneg (Int.ediv_nonneg (by omega) (by exact_mod_cast Nat.zero_le _))]
  push_cast
  rfl
theorem get_step (y n : Nat) (hn : n < 8) : y / 2 ^ n % 2 ^ (8 - n) = 2 * (y / 2 ^ (n + 1) % 2 ^ (8 - (n + 1))) + y / 2 ^ n % 2 := by
  have h1 : y / 2 ^ (n + 1) = y / 2 ^ n / 2 := by rw [Nat.div_div_eq_div_mul, Nat.pow_succ]
  rw [h1, show 8 - n = (8 - (n + 1)) + 1 by omega, Nat.pow_succ, Nat.mul_comm (2 ^ (8 - (n + 1))) 2, Nat.mod_mul]
  omega
set_option maxHeartbeats 400000 in
set_option maxRecDepth 100000 in
theorem get8 (x a : Nat) (z : Int) (hz : z = a) (hx : x < 18446744073709551616) (ha : a ≤ 56) (w : World) :
    Calls Tryd.prog 42 #[.int .u64 (x : Nat), .int .i64 z, .int .i64 8] w fun e w' => e = .returned (.tuple #[.int .u64 ((x / 2 ^ a % 256 : Nat) : Int), .int .i64 0]) ∧ w = w' := by
  subst hz
  go_enter Tryd.func42, Tryd.ntmps42
  go_wp2_with (go_at_call 52; refine (field8 a ha _).mono ?_; rintro e w' ⟨rfl, rfl⟩)
  go_loop [8, 9] (fun v i => ∃ n : Nat, n ≤ 8 ∧ i = .int .i64 ((n : Int) - 1) ∧ v = .int .u64 ((x / 2 ^ a / 2 ^ n % 2 ^ (8 - n) : Nat) : Int)) (fun _ i => (intOf i + 1).toNat)
  case atStart => exact ⟨8, by omega, rfl, by rw [Nat.pow_zero, Nat.mod_one]; rfl⟩
  case round =>
    obtain ⟨n, hn, rfl, rfl⟩ := hrel
    cases n with
    | succ n =>
      have hs := get_step (x / 2 ^ a) n (by omega)
      have hq : x / 2 ^ a / 2 ^ (n + 1) % 2 ^ (8 - (n + 1)) < 128 := by
        have h1 : x / 2 ^ a / 2 ^ (n + 1) % 2 ^ (8 - (n + 1)) < 2 ^ (8 - (n + 1)) := Nat.mod_lt _ (Nat.two_pow_pos _)
        have h2 : 2 ^ (8 - (n + 1)) ≤ 2 ^ 7 := Nat.pow_le_pow_right (by omega) (by omega)
        omega
      have hdd : x / 2 ^ (a + n) % 2 = x / 2 ^ a / 2 ^ n % 2 := by rw [Nat.pow_add, Nat.div_div_eq_div_mul]
      have hb : x / 2 ^ a / 2 ^ n % 2 < 2 := Nat.mod_lt _ (by omega)
      rw [show (((n + 1 : Nat) : Int) - 1) = (n : Int) by omega]
      generalize x / 2 ^ a / 2 ^ (n + 1) % 2 ^ (8 - (n + 1)) = q at hq hs ⊢
      generalize x / 2 ^ a / 2 ^ n % 2 = bb at hb hs hdd ⊢
      have Hs := hid hs
      have Hdd := hid hdd
      clear hs hdd
      go_wp2_with (go_at_call 53; refine (bit_any x (a + n) _ (by omega) hx (by omega) _).mono ?_; rintro e w' ⟨rfl, rfl⟩)
      go_round
      case rel => exact ⟨n, by omega, by go_num, by rw [Hs.out, ← Hdd.out]; push_cast; rfl⟩
      case measure => simp [intOf]
    | zero =>
      go_wp2
      go_ret2
      refine ⟨?_, rfl⟩
      simp
theorem bit_is (x i : Nat) (b : Nat) (z : Int) (hz : z = i) (hx : x < 18446744073709551616) (hi : i < 64) (hb : x / 2 ^ i % 2 = b) (w : World) :
    Calls Tryd.prog 53 #[.int .u64 (x : Nat), .int .i64 z] w fun e w' => e = .returned (.int .u64 (b : Nat)) ∧ w = w' := by
  subst hb
  exact bit_any x i z hz hx hi w
theorem put_hi (x a v n : Nat) (hx : x < 2 ^ a) (hn : a ≤ n) : (x + v * 2 ^ a) / 2 ^ n = v / 2 ^ (n - a) := by
  have h1 : 2 ^ n = 2 ^ a * 2 ^ (n - a) := by rw [← Nat.pow_add]; congr 1; omega
  rw [h1, ← Nat.div_div_eq_div_mul, Nat.add_mul_div_right _ _ (Nat.two_pow_pos a), Nat.div_eq_of_lt hx, Nat.zero_add]
theorem put_in (x a v n : Nat) (hx : x < 2 ^ a) (hn : a ≤ n) : v / 2 ^ (n - a) % 2 = (x + v * 2 ^ a) / 2 ^ n % 2 := by rw [put_hi x a v n hx hn]
theorem put_out (x a v n : Nat) (hx : x < 2 ^ a) (hv : v < 256) (hn : n < a ∨ a + 8 ≤ n) : x / 2 ^ n % 2 = (x + v * 2 ^ a) / 2 ^ n % 2 := by
  rcases hn with hn | hn
  · have h1 : v * 2 ^ a = (v * 2 ^ (a - n - 1)) * 2 * 2 ^ n := by
      rw [Nat.mul_assoc, Nat.mul_assoc, ← Nat.pow_add_one', ← Nat.pow_add]; congr 2; omega
    rw [h1, Nat.add_mul_div_right _ _ (Nat.two_pow_pos n)]
    omega
  · rw [put_hi x a v n hx (by omega), Nat.div_eq_of_lt (Nat.lt_of_lt_of_le hx (Nat.pow_le_pow_right (by omega) (by omega))),
      Nat.div_eq_of_lt (Nat.lt_of_lt_of_le hv (Nat.pow_le_pow_right (n := 2) (i := 8) (by omega) (by omega)))]
theorem put_lt (x a v : Nat) (hx : x < 2 ^ a) (hv : v < 256) (ha : a ≤ 56) : x + v * 2 ^ a < 18446744073709551616 := by
  have h1 : v * 2 ^ a ≤ 255 * 2 ^ a := Nat.mul_le_mul_right _ (by omega)
  have h2 : 2 ^ a ≤ 2 ^ 56 := Nat.pow_le_pow_right (by omega) ha
  omega
set_option maxHeartbeats 1000000 in
set_option maxRecDepth 100000 in
theorem put8 (x a v : Nat) (z u : Int) (hz : z = a) (hu : u = v) (hx : x < 2 ^ a) (hv : v < 256) (ha : a ≤ 56) (w : World) :
    Calls Tryd.prog 41 #[.int .u64 (x : Nat), .int .i64 z, .int .i64 8, .int .u64 u] w fun e w' => e = .returned (.tuple #[.int .u64 ((x + v * 2 ^ a : Nat) : Int), .int .i64 0]) ∧ w = w' := by
  subst hz hu
  have Hr := hid (put_lt x a v hx hv ha)
  have Hx := hid hx
  have hx64 : x < 18446744073709551616 := Nat.lt_of_lt_of_le hx (Nat.pow_le_pow_right (n := 2) (j := 64) (by omega) (by omega))
  clear hx
  obtain ⟨R, hR⟩ : ∃ R, R = x + v * 2 ^ a := ⟨_, rfl⟩
  have HR := hid hR
  rw [← hR] at Hr ⊢
  clear hR
  go_enter Tryd.func41, Tryd.ntmps41
  go_wp2_with (go_at_call 52; refine (field8 a ha _).mono ?_; rintro e w' ⟨rfl, rfl⟩)
  go_loop [10] (fun i => ∃ n : Nat, 8 ≤ n ∧ n ≤ 64 ∧ i = .int .i64 (n : Int)) (fun i => 64 - (intOf i).toNat)
  case atStart => exact ⟨8, by omega, by omega, rfl⟩
  case round =>
    obtain ⟨n, hn8, hn, rfl⟩ := hrel
    by_cases hlt : n < 64
    · go_wp2_with (go_at_call 53; refine (bit_is v n 0 _ rfl (by omega) hlt (by rw [Nat.div_eq_of_lt (Nat.lt_of_lt_of_le hv (Nat.pow_le_pow_right (n := 2) (i := 8) (by omega) (by omega)))]) _).mono ?_; rintro e w' ⟨rfl, rfl⟩)
      go_round
      case rel => exact ⟨n + 1, by omega, by omega, by go_num⟩
      case measure => simp [intOf]; omega
    · have : n = 64 := by omega
      subst this
      go_wp2
      go_loop [11, 12] (fun q i => ∃ n : Nat, n ≤ 64 ∧ i = .int .i64 ((n : Int) - 1) ∧ q = .int .u64 ((R / 2 ^ n : Nat) : Int)) (fun _ i => (intOf i + 1).toNat)
      case atStart => exact ⟨64, by omega, rfl, by rw [Nat.div_eq_of_lt (show R < 2 ^ 64 from Hr.out)]; rfl⟩
      case round =>
        obtain ⟨n, hn, rfl, rfl⟩ := hrel
        cases n with
        | succ n =>
          have hq : R / 2 ^ (n + 1) < 9223372036854775808 := by
            rw [Nat.pow_succ, ← Nat.div_div_eq_div_mul]
            have : R / 2 ^ n ≤ R := Nat.div_le_self _ _
            have := Hr.out
            omega
          have hs : R / 2 ^ n = 2 * (R / 2 ^ (n + 1)) + R / 2 ^ n % 2 := by
            rw [Nat.pow_succ, ← Nat.div_div_eq_div_mul]; omega
          have hb : R / 2 ^ n % 2 < 2 := Nat.mod_lt _ (by omega)
          obtain ⟨bb, hbb⟩ : ∃ bb, bb = R / 2 ^ n % 2 := ⟨_, rfl⟩
          rw [← hbb] at hb hs
          rw [show (((n + 1 : Nat) : Int) - 1) = (n : Int) by omega]
          have Hs := hid hs
          have Hbb := hid hbb
          clear hs hbb
          generalize R / 2 ^ (n + 1) = q at hq Hs ⊢
          by_cases hin : a ≤ n ∧ n < a + 8
          · obtain ⟨hi1, hi2⟩ := hin
            have hi3 : (n : Int) < (a : Int) + 8 := by omega
            go_wp2_with (first
              | (go_at_call 53; refine (bit_any x n _ rfl hx64 (by omega) _).mono ?_; rintro e w' ⟨rfl, rfl⟩)
              | (go_at_call 53; refine (bit_is v (n - a) bb _ (by omega) (by omega) (by omega) (by rw [Hbb.out, HR.out]; exact put_in x a v n Hx.out hi1) _).mono ?_; rintro e w' ⟨rfl, rfl⟩))
            go_round
            case rel => exact ⟨n, by omega, by go_num, by rw [Hs.out]; rfl⟩
            case measure => simp [intOf]
          · go_wp2_with (go_at_call 53; refine (bit_is x n bb _ rfl hx64 (by omega) (by rw [Hbb.out, HR.out]; exact put_out x a v n Hx.out hv (by omega)) _).mono ?_; rintro e w' ⟨rfl, rfl⟩)
            all_goals
              go_round
              case rel => exact ⟨n, by omega, by go_num, by rw [Hs.out]; rfl⟩
              case measure => simp [intOf]
        | zero =>
          go_wp2
          go_ret2
          refine ⟨?_, rfl⟩
          simp
end Go.Proofs.YtejapeafepcacaaDoor
