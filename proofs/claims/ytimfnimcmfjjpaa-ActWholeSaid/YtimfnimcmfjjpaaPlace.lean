/- The document's answer: Words, Place of a slot. -/
import Derived.Test.YtimfnimcmfjjpaaAll
namespace Go.Proofs.Ytimfnimcmfjjpaa
open Go.RowKit
/-- Regions that a slice holds. -/
theorem spans_at {w : World} {B i p n : Nat} {v : Value} (hn : 0 < n) (h : w.ownsRow B 98 4 v n (spansV i p n)) : ∃ q c, v = .slice (some ⟨q, 0, none⟩) n c ∧ q < w.heap.size ∧ ∀ k, k < n → w.cell? ⟨q, k * 4, none⟩ = some (.int .u8 (spanK i p k : Nat)) ∧ w.cell? ⟨q, k * 4 + 1, none⟩ = some (.int .i64 (spanN i p k : Nat)) ∧ w.cell? ⟨q, k * 4 + 3, none⟩ = some (.int .i64 (spanW i p k : Nat)) := by
  rcases h.2 with ⟨rfl, h0⟩ | ⟨q, cap, cur, rfl, hB, hg, -, -, -, ht⟩
  · omega
  · refine ⟨_, _, rfl, (Array.getElem?_eq_some_iff.1 hg).1, fun k hk => ?_⟩
    rw [cell_of_row w q (k * 4) cur 98 (0, 0) hg, cell_of_row w q (k * 4 + 1) cur 98 (0, 0) hg, cell_of_row w q (k * 4 + 3) cur 98 (0, 0) hg]
    obtain ⟨g1, g2, g3⟩ := spansV_get i p n k hk
    have h1 := congrArg (fun l : List Value => l[k * 4]?) ht
    have h2 := congrArg (fun l : List Value => l[k * 4 + 1]?) ht
    have h3 := congrArg (fun l : List Value => l[k * 4 + 3]?) ht
    rw [g1] at h1
    rw [g2] at h2
    rw [g3] at h3
    rw [List.getElem?_take_of_lt (by omega)] at h1 h2 h3
    exact ⟨by simpa using h1, by simpa using h2, by simpa using h3⟩
set_option maxHeartbeats 1000000 in
set_option maxRecDepth 100000 in
theorem rwn_any (p i b : Nat) (w : World) (hp : p ≤ 8) (hi : i ≤ 64) (hb : b ≤ 255) :
    Calls Try.prog 35 #[.agg #[.int .i64 (p : Int), .int .i64 (i : Int), .int .i64 (b : Int)]] w fun e w' => e = .returned (.int .i64 (spanOff i p (2 + i + p + b) : Nat)) ∧ Below w.heap.size w w' := by
  have b0 := hid ((Below.refl w.heap.size w).alloc (Nat.le_refl _) (.cells #[.int .i64 (p : Int), .int .i64 (i : Int), .int .i64 (b : Int)] 23))
  go_enter Try.func35, Try.ntmps35
  go_wp2_with fail
  refine (all_any p i b _ hp hi hb).mono ?_
  rintro e w1 ⟨v, rfl, hown, hbl⟩
  obtain ⟨q, c, rfl, hq, hc⟩ := spans_at (by omega) hown
  have B1 := hid (b0.out.trans (hbl.mono b0.out.size))
  obtain ⟨n, hn⟩ : ∃ n, n = 2 + i + p + b := ⟨_, rfl⟩
  rw [← hn] at hc ⊢
  have hnl : n ≤ 1000 := by omega
  have Hc := hid hc
  have HN := hid hn
  clear hown hbl hc hn
  go_wp2
  go_loop [4, 5] (fun v j => ∃ k : Nat, k ≤ n ∧ j = .int .i64 k ∧ v = .int .i64 (spanOff i p k : Nat)) (fun _ j => n - (intOf j).toNat)
  case atStart => exact ⟨0, by omega, rfl, rfl⟩
  case round =>
    obtain ⟨k, hk, rfl, rfl⟩ := hrel
    have hle := spanOff_le i p k
    by_cases hlt : k < n
    · have hlt' : (k : Int) < (n : Int) := by omega
      have hs := hid (show spanOff i p (k + 1) = spanOff i p k + spanW i p k from rfl)
      have hle2 := spanOff_le i p (k + 1)
      rw [hs.out] at hle2
      have c3 := (Hc.out k hlt).2.2
      generalize spanOff i p k = x at *
      go_wp2
      go_round
      case rel => exact ⟨k + 1, by omega, by go_num, by rw [hs.out]; go_num⟩
      case measure => simp [intOf]; omega
    · obtain rfl : n = k := by omega
      go_wp2
      go_ret
      exact ⟨by rw [← HN.out]; rfl, B1.out⟩
set_option maxHeartbeats 2000000 in
set_option maxRecDepth 100000 in
theorem rplace_any (p i b s : Nat) (w : World) (hp : p ≤ 8) (hi : i ≤ 64) (hb : b ≤ 255) (hs : s < p) :
    Calls Try.prog 15 #[.agg #[.int .i64 (p : Int), .int .i64 (i : Int), .int .i64 (b : Int)], .int .u8 4, .int .i64 (s : Int)] w fun e w' => e = .returned (.tuple #[.int .i64 (8 * (2 + i + 17 * s) : Nat), .bool true]) ∧ Below w.heap.size w w' := by
  have b0 := hid ((Below.refl w.heap.size w).alloc (Nat.le_refl _) (.cells #[.int .i64 (p : Int), .int .i64 (i : Int), .int .i64 (b : Int)] 23))
  go_enter Try.func15, Try.ntmps15
  go_wp2_with fail
  refine (all_any p i b _ hp hi hb).mono ?_
  rintro e w1 ⟨v, rfl, hown, hbl⟩
  obtain ⟨q, c, rfl, hq, hc⟩ := spans_at (by omega) hown
  have B1 := hid (b0.out.trans (hbl.mono b0.out.size))
  obtain ⟨n, hn⟩ : ∃ n, n = 2 + i + p + b := ⟨_, rfl⟩
  rw [← hn] at hc ⊢
  have hnl : n ≤ 1000 := by omega
  have hnl2 : 2 + i + s < n := by omega
  have Hc := hid hc
  clear hown hbl hc hn
  go_wp2
  go_loop [9, 10] (fun v j => ∃ k : Nat, k ≤ 2 + i + s ∧ j = .int .i64 k ∧ v = .int .i64 (spanOff i p k : Nat)) (fun _ j => n - (intOf j).toNat)
  case atStart => exact ⟨0, by omega, rfl, rfl⟩
  case round =>
    obtain ⟨k, hk, rfl, rfl⟩ := hrel
    have hlt' : (k : Int) < (n : Int) := by omega
    have hle := spanOff_le i p k
    obtain ⟨c0, c1, c3⟩ := Hc.out k (by omega)
    by_cases hlt : k < 2 + i + s
    · have hst := hid (show spanOff i p (k + 1) = spanOff i p k + spanW i p k from rfl)
      have hle2 := spanOff_le i p (k + 1)
      rw [hst.out] at hle2
      generalize spanOff i p k = x at *
      by_cases h4 : spanK i p k = 4
      · have hN : spanN i p k ≠ s := by
          unfold spanK at h4
          unfold spanN
          split at h4
          · omega
          · split at h4
            · omega
            · split at h4
              · omega
              · split at h4
                · rw [if_neg (by omega), if_neg (by omega), if_pos (by omega)]; omega
                · omega
        have hN' : ((spanN i p k : Int) == (s : Int)) = false := by rw [beq_eq_false_iff_ne]; omega
        rw [h4] at c0
        clear h4
        generalize spanN i p k = y at *
        generalize spanW i p k = z at *
        go_wp2
        go_round
        case rel => exact ⟨k + 1, by omega, by go_num, by rw [hst.out]; go_num⟩
        case measure => simp [intOf]; omega
      · have h4' : ((spanK i p k : Int) == 4) = false := by rw [beq_eq_false_iff_ne]; omega
        clear h4
        generalize spanK i p k = y at *
        generalize spanW i p k = z at *
        go_wp2
        go_round
        case rel => exact ⟨k + 1, by omega, by go_num, by rw [hst.out]; go_num⟩
        case measure => simp [intOf]; omega
    · obtain rfl : k = 2 + i + s := by omega
      have e0 : spanK i p (2 + i + s) = 4 := by unfold spanK; rw [if_neg (by omega), if_neg (by omega), if_neg (by omega), if_pos (by omega)]
      have e1 : spanN i p (2 + i + s) = s := by unfold spanN; rw [if_neg (by omega), if_neg (by omega), if_pos (by omega)]; omega
      have e2 : spanOff i p (2 + i + s) = 8 * (2 + i + 17 * s) := by rw [spanOff_b i p s (by omega)]; omega
      rw [e0] at c0
      rw [e1] at c1
      rw [e2]
      clear e0 e1 e2 hle
      go_wp2
      go_ret2
      exact ⟨rfl, B1.out⟩
end Go.Proofs.Ytimfnimcmfjjpaa
