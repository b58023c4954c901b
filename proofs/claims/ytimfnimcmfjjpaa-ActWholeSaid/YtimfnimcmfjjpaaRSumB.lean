/- The document's answer: the sum of words. -/
import Derived.Test.YtimfnimcmfjjpaaRSumA
namespace Go.Proofs.Ytimfnimcmfjjpaa
open Go.RowKit
theorem textW_word (f : Nat → Nat) (k : Nat) : textW f (8 * (k + 1)) = textW f (8 * k) ++ textW (fun _ => f k) 8 := by
  apply List.ext_getElem
  · simp [textW_length]; omega
  · intro i h1 h2
    rw [textW_length] at h1
    rw [textW_get]
    by_cases hi : i < 8 * k
    · rw [List.getElem_append_left (by rw [textW_length]; exact hi), textW_get]
    · rw [List.getElem_append_right (by rw [textW_length]; omega), textW_get]
      unfold textB
      rw [textW_length, show i / 8 = k by omega, show (i - 8 * k) % 8 = i % 8 by omega]
theorem crcOf_none (f : Nat → Nat) : crcOf (textW f (8 * 0)) = 0 := by simp [crcOf, crcL, textW]
set_option maxHeartbeats 1000000 in
set_option maxRecDepth 100000 in
theorem rwords_any (A : Option Addr) (m c : Nat) (f : Nat → Nat) (w : World) (hm : m ≤ 1000000) (hf : ∀ k, k < m → f k < 18446744073709551616) (hI : WordsAt w A m f) :
    Calls Try.prog 62 #[.slice A m c] w fun e w' => e = .returned (.int .u32 (crcOf (textW f (8 * m)) : Nat)) ∧ Below w.heap.size w w' := by
  have HI := hid hI
  have Hf := hid hf
  clear hI hf
  go_enter Try.func62, Try.ntmps62
  go_wp2
  go_loopw [3, 4, 5, 6] (fun v i _ _ wr => ∃ k : Nat, k ≤ m ∧ i = .int .i64 k ∧ v = .int .u32 (crcOf (textW f (8 * k)) : Nat) ∧ Below w.heap.size w wr) (fun _ i _ _ _ => m - (intOf i).toNat)
  case atStart => exact ⟨0, by omega, rfl, by rw [crcOf_none]; rfl, Below.refl _ _⟩
  case round =>
    obtain ⟨k, hk, rfl, rfl, hb⟩ := hrel
    have Hb := hid hb
    clear hb
    by_cases hlt : k < m
    · have hlt' : (k : Int) < (m : Int) := by omega
      obtain ⟨ad, rfl, hadl, hc⟩ : ∃ ad, A = some ad ∧ ad.block < wr.heap.size ∧ ∀ k, k < m → wr.cell? (ad.add k) = some (.int .u64 (f k : Nat)) := by
        rcases HI.out.below Hb.out with h0 | h1
        · omega
        · exact h1
      have c0 := hc k hlt
      clear hc
      have hcl := crcOf_lt (textW f (8 * k))
      have hcr : 4294967295 - crcL (4294967295 - crcOf (textW f (8 * k))) (textW (fun _ => f k) 8) = crcOf (textW f (8 * (k + 1))) := by
        have h1 := crcL_lt (textW f (8 * k)) (c := 4294967295) (by omega)
        unfold crcOf
        rw [show 4294967295 - (4294967295 - crcL 4294967295 (textW f (8 * k))) = crcL 4294967295 (textW f (8 * k)) by omega, textW_word, crcL_append]
      have Hcr := hid hcr
      clear hcr
      generalize crcOf (textW f (8 * k)) = q at hcl Hcr ⊢
      have hW : WordsAt (wr.alloc (.cells #[.int .u64 (f k : Nat)] 51)) (some ⟨wr.heap.size, 0, none⟩) 1 (fun _ => f k) := .inr ⟨_, rfl, by simp, fun j hj => by
        obtain rfl : j = 0 := by omega
        exact cell_of_row _ _ 0 _ 51 (0, 0) (heap_alloc_last wr _)⟩
      have HT := hid (rtext_any (some ⟨wr.heap.size, 0, none⟩) 1 1 8 8 rfl (fun _ => f k) _ (by omega) (by omega) (fun _ => Hf.out k hlt) (by omega) hW)
      clear hW
      go_wp2_with fail
      refine (HT.out).mono ?_
      rintro e w2 ⟨rfl, hb⟩
      have Hb2 := hid ((Hb.out.alloc Hb.out.size _).trans (hb.mono (Nat.le_trans Hb.out.size (by simp))))
      have HM := hid (rmore_any q ⟨(textW (fun _ => f k) 8).toArray⟩ hcl (by show (textW (fun _ => f k) 8).toArray.size ≤ _; simp [textW_length]) w2)
      clear hb
      go_wp2_with fail
      refine (HM.out).mono ?_
      rintro e w3 ⟨rfl, rfl⟩
      rw [Hcr.out]
      go_wp2
      go_roundw
      case rel => exact ⟨k + 1, by omega, by go_num, rfl, Hb2.out⟩
      case measure => simp [intOf]; omega
    · obtain rfl : k = m := by omega
      go_wp2
      go_ret
      exact ⟨rfl, Hb.out⟩
end Go.Proofs.Ytimfnimcmfjjpaa
