/- sum: a byte's step, the bytes of words as they come one by one, the sum of words. -/
import Derived.Test.YtimfnimcmfjjpaaMay
import Derived.Test.YtimfnimcmfjjpaaPlain
import Derived.RangeFuncNested
import Derived.RangeFuncBound
import Derived.RangeFuncCalls
import Derived.RangeFuncLeaves
import Derived.RangeFuncBox
import Derived.Shelf.Abstract
import Derived.Shelf.RegionOpen
import Derived.OwnWalkIn
import Derived.TacticsInMore
import Derived.LoopNIn
import Derived.LoopIn
namespace Go.Proofs.Ytimfnimcmfjjpaa
open Go.RowKit Go.Shelf
attribute [local go_sem] Oper.semAt_some
theorem on_bits (q : Nat) (hq : q < 4294967296) :
    bits BinOp.xor IntKind.u32 ((q : Int) / 2) (bits BinOp.and IntKind.u32 3988292384 (-bits BinOp.and IntKind.u32 (q : Int) 1 % 4294967296)) = ((crcStep q : Nat) : Int) := by
  have e1 : bits BinOp.and IntKind.u32 (q : Int) 1 = ((q % 2 : Nat) : Int) := by
    rw [show (1 : Int) = ((1 : Nat) : Int) from rfl, u32_and_nat q 1 hq (by omega), nat_mask1]
  have e2 : bits BinOp.and IntKind.u32 3988292384 (-((q % 2 : Nat) : Int) % 4294967296) = ((if q % 2 = 1 then 3988292384 else 0 : Nat) : Int) := by
    rcases Nat.mod_two_eq_zero_or_one q with h | h
    · rw [h]; rfl
    · rw [h]; rfl
  rw [e1, e2, show ((q : Int) / 2) = ((q / 2 : Nat) : Int) by omega, u32_xor_nat _ _ (by omega) (by split <;> omega)]
  rfl
set_option maxHeartbeats 400000 in
theorem on_any (c b : Nat) (hc : c < 4294967296) (hb : b < 256) (w : World) :
    Calls Try.prog 83 #[.int .u32 (c : Int), .int .u8 (b : Int)] w fun e w' => e = .returned (.int .u32 (crcIter 8 (c ^^^ b) : Nat)) ∧ w = w' := by
  have hx := u32_xor_nat c b hc (by omega)
  have hxl : c ^^^ b < 4294967296 := Nat.xor_lt_two_pow (n := 32) (by omega) (by omega)
  go_enter Try.func83, Try.ntmps83
  go_wp2
  clear hx
  go_loop [0, 9] (fun v i => ∃ k : Nat, k ≤ 8 ∧ i = .int .i64 k ∧ v = .int .u32 (crcIter k (c ^^^ b) : Nat)) (fun _ i => 8 - (intOf i).toNat)
  case atStart => exact ⟨0, by omega, rfl, rfl⟩
  case round =>
    obtain ⟨k, hk, rfl, rfl⟩ := hrel
    have hl := crcIter_lt hxl k
    generalize hq : crcIter k (c ^^^ b) = q at *
    have Hq := hid hq
    clear hq
    go_wp2
    · go_round
      case rel => exact ⟨k + 1, by omega, by go_num, by rw [on_bits q hl, crcIter, Hq.out]⟩
      case measure => simp [intOf]; omega
    · go_ret
      have : k = 8 := by omega
      subst this
      exact ⟨by rw [Hq.out]; rfl, rfl⟩
theorem not_bits (c : Nat) (hc : c < 4294967296) : bits BinOp.xor IntKind.u32 IntKind.u32.max (c : Int) = ((4294967295 - c : Nat) : Int) := by
  rw [show IntKind.u32.max = ((4294967295 : Nat) : Int) from rfl, u32_xor_nat _ _ (by omega) hc, not32 c hc]
theorem text_bits (a i : Nat) : (a : Int) / 2 ^ (8 * (i % 8)) % 256 = (((UInt8.ofNat (a / 2 ^ (8 * (i % 8)))).toNat : Nat) : Int) := by
  have e : ((a : Int) / 2 ^ (8 * (i % 8))) = ((a / 2 ^ (8 * (i % 8)) : Nat) : Int) := by push_cast; rfl
  rw [e]
  simp
theorem textW_succ (f : Nat → Nat) (n : Nat) : textW f (n + 1) = textW f n ++ [textB f n] := by simp [textW, List.range_succ]
theorem textB_int (f : Nat → Nat) (k j : Nat) (hj : j < 8) : ((textB f (8 * k + j)).toNat : Int) = (f k : Int) / 2 ^ (8 * j) % 256 := by
  have e1 : (8 * k + j) / 8 = k := by omega
  have e2 : (8 * k + j) % 8 = j := by omega
  unfold textB
  rw [e1, e2]
  have := text_bits (f k) j
  rw [Nat.mod_eq_of_lt hj] at this
  exact this.symm
theorem pre_text (f : Nat → Nat) {a b : Nat} (h : a ≤ b) : textW f a <+: textW f b := by
  obtain ⟨c, rfl⟩ := Nat.exists_eq_add_of_le h
  clear h
  induction c with
  | zero => exact List.prefix_refl _
  | succ c ih => exact ih.trans ⟨[textB f (a + c)], by rw [← textW_succ]; rfl⟩
set_option maxRecDepth 100000 in
set_option maxHeartbeats 2000000 in
theorem bytes1_in (F : Fence) (n : Nat) (h91 : F.fn 91) (hro : F.round = none) (hn : 1 ≤ n) (l Bs n₀ : Nat) (ad : Addr) (m cap : Nat) (f : Nat → Nat) (hm : m ≤ 1000000) (hb : ad.block < n₀) (J Jx : List UInt8 → World → Prop)
    (hY : ∀ pre x W, J pre W → pre.length < 8 * m → YieldAt F (n - 1) Try.prog l #[.int .u8 (x.toNat : Int)] W fun e W' =>
      (e = .returned (.bool true) ∧ J (pre ++ [x]) W' ∧ Below n₀ W W') ∨ (e = .returned (.bool false) ∧ Jx (pre ++ [x]) W'))
    (W : World) (hBs : W.cell? ⟨Bs, 0, none⟩ = some (.slice (some ad) m cap)) (hc : ∀ j, j < m → W.cell? (ad.add j) = some (.int .u64 (f j : Nat))) (h0 : J [] W) :
    CallsIn F n Try.prog 91 #[.func (.yield l) #[] #[], .pointer (some ⟨Bs, 0, none⟩)] W fun e W' => (∃ v, e = .returned v) ∧
      ((∃ ys, ys = textW f (8 * m) ∧ J ys W') ∨ (∃ pre, pre <+: textW f (8 * m) ∧ Jx pre W')) := by
  refine callsIn_of_wp Try.func91 rfl h91 ?_ hro
  simp only [Try.ntmps91, List.size_toArray, List.length_cons, List.length_nil, Nat.reduceAdd, Nat.reduceSub, Array.replicate_succ, Array.replicate_zero, List.push_toArray, List.append_toArray, List.nil_append, List.cons_append]
  have Hc := hid hc
  clear hc
  gi_wp2
  gi_loopw [4, 5, 8, 12] (fun _ _ i _ wr => ∃ k : Nat, k ≤ m ∧ i = .int .i64 k ∧ J (textW f (8 * k)) wr ∧ Below n₀ W wr)
    (fun _ _ i _ _ => m - (intOf i).toNat)
  case atStart => exact ⟨0, Nat.zero_le _, rfl, h0, Below.refl _ _⟩
  case round =>
    obtain ⟨k, hk, rfl, hJs, hnx⟩ := hrel
    have HJ := hid hJs
    have Hnx := hid hnx
    clear hJs hnx
    by_cases hlt : k < m
    · have hcx := (Hnx.out.cell (p := ad.add k) (by rw [block_of_add]; exact hb)).trans (Hc.out k hlt)
      gi_wp2
      obtain ⟨wo, rfl⟩ : ∃ wo : World, wo = wr := ⟨_, rfl⟩
      gi_loopw [5, 12] (fun _ i wr => ∃ j : Nat, j ≤ 8 ∧ i = .int .i64 j ∧ J (textW f (8 * k + j)) wr ∧ Below n₀ W wr) (fun _ i _ => 8 - (intOf i).toNat)
      case atStart => exact ⟨0, Nat.zero_le _, rfl, HJ.out, Hnx.out⟩
      case round =>
        obtain ⟨j, hj, rfl, hJs, hnx⟩ := hrel
        have HJ2 := hid hJs
        have Hnx2 := hid hnx
        clear hJs hnx
        by_cases hlj : j < 8
        · obtain ⟨fn, tmps, assign, body, hy, hR⟩ := hY _ (textB f (8 * k + j)) wr HJ2.out (by rw [textW_length]; omega)
          rw [textB_int f k j hlj] at hy
          have hlj2 : (j : Int) < 8 := by omega
          gi_wp2
          refine hR.mono ?_
          rintro e W3 (⟨rfl, hJ3, hk3⟩ | ⟨rfl, hJx3⟩)
          · have HJ3 := hid hJ3
            have Hk3 := hid hk3
            clear hJ3 hk3
            gi_wp2
            go_roundw
            case rel => exact ⟨j + 1, by omega, by go_num, by rw [← Nat.add_assoc, textW_succ]; exact HJ3.out, Hnx2.out.trans Hk3.out⟩
            case measure => simp [intOf]; omega
          · have HJx := hid hJx3
            clear hJx3
            gi_wp2
            refine bodyPost_ret (results_none rfl _ _ _) rfl ?_
            exact ⟨⟨_, rfl⟩, .inr ⟨_, by rw [← textW_succ]; exact pre_text f (by omega), HJx.out⟩⟩
        · obtain rfl : j = 8 := by omega
          gi_wp2
          go_roundw
          case rel => exact ⟨k + 1, by omega, by go_num, HJ2.out, Hnx2.out⟩
          case measure => simp [intOf]; omega
    · obtain rfl : k = m := by omega
      gi_wp2
      go_end0
      exact ⟨⟨_, rfl⟩, .inl ⟨_, rfl, HJ.out⟩⟩

set_option maxRecDepth 100000 in
set_option maxHeartbeats 2000000 in
theorem bytes0_in (F : Fence) (n : Nat) (h91 : F.fn 91) (hro : F.round = none) (l Bs cap : Nat) (A : Option Addr) (J : List UInt8 → World → Prop)
    (W : World) (hBs : W.cell? ⟨Bs, 0, none⟩ = some (.slice A 0 cap)) (h0 : J [] W) :
    CallsIn F n Try.prog 91 #[.func (.yield l) #[] #[], .pointer (some ⟨Bs, 0, none⟩)] W fun e W' => (∃ v, e = .returned v) ∧ J [] W' := by
  refine callsIn_of_wp Try.func91 rfl h91 ?_ hro
  simp only [Try.ntmps91, List.size_toArray, List.length_cons, List.length_nil, Nat.reduceAdd, Nat.reduceSub, Array.replicate_succ, Array.replicate_zero, List.push_toArray, List.append_toArray, List.nil_append, List.cons_append]
  gi_wp2
  gi_loopw [4, 5, 8, 12] (fun _ _ i _ wr => i = .int .i64 0 ∧ J [] wr) (fun _ _ _ _ _ => 0)
  case atStart => exact ⟨rfl, h0⟩
  case round =>
    obtain ⟨rfl, hJs⟩ := hrel
    gi_wp2
    go_end0
    exact ⟨⟨_, rfl⟩, hJs⟩
/-- Words that a slice holds. -/
def WordsAt (w : World) (A : Option Addr) (m : Nat) (f : Nat → Nat) : Prop := m = 0 ∨ ∃ ad, A = some ad ∧ ad.block < w.heap.size ∧ ∀ k, k < m → w.cell? (ad.add k) = some (.int .u64 (f k : Nat))
theorem WordsAt.below {w w' : World} {A : Option Addr} {m : Nat} {f : Nat → Nat} (hp : WordsAt w A m f) (hb : Below w.heap.size w w') : WordsAt w' A m f := by
  rcases hp with h0 | ⟨ad, rfl, hlt, hc⟩
  · exact .inl h0
  · exact .inr ⟨ad, rfl, Nat.lt_of_lt_of_le hlt hb.size, fun k hk => (hb.cell (p := ad.add k) (by rw [block_of_add]; exact hlt)).trans (hc k hk)⟩
theorem bytes_stops (F : Fence) (n : Nat) (h91 : F.fn 91) (hro : F.round = none) (hn : 1 ≤ n) (Bs : Nat) (A : Option Addr) (m cap : Nat) (f : Nat → Nat) (hm : m ≤ 1000000) (w0 w : World) (hle : w0.heap.size ≤ w.heap.size) (hBs : Bs < w.heap.size)
    (hc : w.cell? ⟨Bs, 0, none⟩ = some (.slice A m cap)) (hI : WordsAt w0 A m f) (hb : Below w0.heap.size w0 w) :
    SeqStopsK F n Try.prog 91 #[.pointer (some ⟨Bs, 0, none⟩)] (fun x : UInt8 => #[Value.int .u8 (x.toNat : Int)]) (Below w0.heap.size) (fun ys => ys = textW f (8 * m)) (fun pre => pre <+: textW f (8 * m)) (8 * m) w := fun l J Jx W hW _ _ hY h0 => by
  have hc' := (hW.cell (p := ⟨Bs, 0, none⟩) hBs).trans hc
  rcases hI with rfl | ⟨ad, rfl, hlt, hcs⟩
  · exact (bytes0_in F n h91 hro l Bs cap A J W hc' h0).mono fun e W' ⟨he, hj⟩ => ⟨he, .inl ⟨_, rfl, hj⟩⟩
  · exact bytes1_in F n h91 hro hn l Bs w0.heap.size ad m cap f hm hlt J Jx hY W hc' (fun j hj => (hW.cell (p := ad.add j) (by rw [block_of_add]; exact Nat.lt_of_lt_of_le hlt hle)).trans ((hb.cell (p := ad.add j) (by rw [block_of_add]; exact hlt)).trans (hcs j hj))) h0
theorem bytes_in (F : Fence) (n : Nat) (h82 : F.fn 82) (hro : F.round = none) (a : Option Addr) (len cap : Nat) (w : World) :
    CallsIn F n Try.prog 82 #[.slice a len cap] w fun e w' => e = .returned (.func (.func 91) #[] #[.pointer (some ⟨w.heap.size, 0, none⟩)]) ∧ w' = w.alloc (.cells #[.slice a len cap] 38) := by
  refine callsIn_of_wp Try.func82 rfl h82 ?_ hro
  simp only [Try.ntmps82, List.size_toArray, List.length_cons, List.length_nil, Nat.reduceAdd, Nat.reduceSub, Array.replicate_succ, Array.replicate_zero, List.push_toArray, List.append_toArray, List.nil_append, List.cons_append]
  gi_wp2
  go_ret
  exact ⟨rfl, rfl⟩
theorem crcL_snoc (c : Nat) (l : List UInt8) (b : UInt8) : crcL c (l ++ [b]) = crcIter 8 (crcL c l ^^^ b.toNat) := by rw [crcL_append]; rfl
set_option maxRecDepth 100000 in
set_option maxHeartbeats 4000000 in
theorem words_any (A : Option Addr) (m c : Nat) (f : Nat → Nat) (w : World) (hm : m ≤ 1000000) (hI : WordsAt w A m f) :
    Calls Try.prog 68 #[.slice A m c] w fun e w' => e = .returned (.int .u32 (crcOf (textW f (8 * m)) : Nat)) ∧ Below w.heap.size w w' := by
  refine (callsIn_wide (n := 3)).1 ?_
  refine callsIn_of_wp_marks Try.func68 rfl trivial ?_ rfl
  simp only [Try.ntmps68, List.size_toArray, List.length_cons, List.length_nil, Nat.reduceAdd, Nat.reduceSub, Array.replicate_succ, Array.replicate_zero, List.push_toArray, List.append_toArray, List.nil_append, List.cons_append]
  gi_wp2_with (refine ⟨trivial, ?_⟩; gi_at_call 82; refine (bytes_in Fence.wide _ trivial rfl _ _ _ _).mono ?_; rintro e w' ⟨rfl, rfl⟩)
  have bS := Boxed.new w 113 (.int .u32 4294967295)
  have bN := Boxed.new (w.alloc (.cells #[.int .u32 4294967295] 113)) 38 (.slice A m c)
  rw [World.size_alloc] at bN
  have hB0 : Below w.heap.size w ((w.alloc (.cells #[.int .u32 4294967295] 113)).alloc (.cells #[.slice A m c] 38)) := ((Below.refl _ w).alloc (Nat.le_refl _) _).alloc (by simp) _
  have Hc4 := hid (show crcL 4294967295 [] = 4294967295 from rfl)
  refine wpIn_rangeFunc_ownG rfl (by omega) (gf := 91) (lb := #[.pointer (some ⟨w.heap.size + 1, 0, none⟩)]) rfl trivial (enters_of Try.func91 (by kernel_rfl) rfl)
    (bytes_stops Fence.wide _ trivial rfl (by omega) (w.heap.size + 1) A m c f hm w _ (by simp; omega) (by simp) bN.cell hI hB0) belowK_t (belowK_b (by simp; omega)) (Below.refl _ _) (fun _ => rfl)
    (fun pre W => (W.cell? ⟨w.heap.size, 0, none⟩ = some (.int .u32 (crcL 4294967295 pre : Nat)) ∧ W.frozen? ⟨w.heap.size, 0, none⟩ = false) ∧ Below w.heap.size w W)
    (fun _ _ _ => False)
    (OwnFrom.and (Own.from (fun s A B row hs hg hr => ⟨cell_kept hs.1 hg hr, (frozen_kept hs.1 hg hr).trans hs.2⟩) _) (ownFrom_below (Nat.le_refl _) (by simp; omega)))
    (fun _ _ _ _ _ hs _ _ => hs)
    ⟨⟨(bS.alloc _).cell, (bS.alloc _).frozen⟩, hB0⟩
    (fun x => { tmps := #[.slice A m c, undef, .int .u32 0, .pointer (some ⟨w.heap.size, 0, none⟩), .int .u8 (x.toNat : Int), .slice A m c, .func (.func 91) #[] #[.pointer (some ⟨w.heap.size + 1, 0, none⟩)], .int .u8 (x.toNat : Int), undef, undef, undef, undef, undef], defers := [] }) ?assign ?body ?done ?stop
  case assign =>
    intro l x W K hK
    gi_wp2
    exact hK
  case body =>
    rintro l pre x W ⟨⟨hc, hf⟩, hB⟩ _
    have hlt : crcL 4294967295 pre < 4294967296 := crcL_lt pre (by omega)
    gi_wp2_with (refine ⟨trivial, ?_⟩; gi_at_call 83; refine (CallsIn.inRound l (callsIn_wide.2 (on_any (crcL 4294967295 pre) x.toNat hlt x.toNat_lt _))).mono ?_; rintro e w' ⟨rfl, rfl⟩)
    exact ⟨(KeepsOthers.setCell _ _ _).from _, (Below.refl w.heap.size W).setCell (p := ⟨w.heap.size, 0, none⟩) (Nat.le_refl _) _, ⟨by rw [crcL_snoc]; exact World.cell?_setCell_same' _ _ _ (by rw [hc]; rfl), by rw [World.frozen?_setCell]; exact hf⟩, hB.setCell (p := ⟨w.heap.size, 0, none⟩) (Nat.le_refl _) _⟩
  case done =>
    rintro D ys W hD rfl ⟨⟨hc, _⟩, hB⟩ hK
    have hn := not_bits (crcL 4294967295 (textW f (8 * m))) (crcL_lt _ (by omega))
    gi_wp2
    refine ⟨by simp, .inl ⟨_, _, rfl, run_takeDeferred hK, ?_⟩⟩
    exact ⟨_, results_tmp rfl _ _ _, by rfl, hB.trans (belowK_b (w := w) (Nat.le_refl _) W D _ _ (by simp at hD; omega) hK rfl rfl)⟩
  case stop =>
    rintro D c pre W _ _ h _
    exact h.elim
end Go.Proofs.Ytimfnimcmfjjpaa
