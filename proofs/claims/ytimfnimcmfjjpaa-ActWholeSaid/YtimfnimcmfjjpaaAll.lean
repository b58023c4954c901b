/- The document's answer: the regions of a geometry, how many words they have, and where a slot begins. -/
import Derived.Test.YtimfnimcmfjjpaaRSumB
namespace Go.Proofs.Ytimfnimcmfjjpaa
open Go.RowKit
def spanK (i p k : Nat) : Nat := if k = 0 then 1 else if k = 1 then 2 else if k < 2 + i then 3 else if k < 2 + i + p then 4 else 5
def spanN (i p k : Nat) : Nat := if k < 2 then 0 else if k < 2 + i then k - 1 else if k < 2 + i + p then k - 2 - i else k - 1 - i - p
def spanW (i p k : Nat) : Nat := if k < 2 + i then 8 else if k < 2 + i + p then 136 else 32
def spanC (i p k : Nat) : List Value := [.int .u8 (spanK i p k : Nat), .int .i64 (spanN i p k : Nat), .int .i64 0, .int .i64 (spanW i p k : Nat)]
def spansV (i p n : Nat) : List Value := (List.range n).flatMap (spanC i p)
theorem spansV_succ (i p n : Nat) : spansV i p (n + 1) = spansV i p n ++ spanC i p n := by simp [spansV, List.range_succ]
theorem spansV_len (i p : Nat) : ∀ n, (spansV i p n).length = 4 * n
  | 0 => rfl
  | n + 1 => by rw [spansV_succ, List.length_append, spansV_len i p n]; simp [spanC]; omega
theorem spansV_get (i p : Nat) : ∀ n k, k < n → (spansV i p n)[k * 4]? = some (.int .u8 (spanK i p k : Nat)) ∧ (spansV i p n)[k * 4 + 1]? = some (.int .i64 (spanN i p k : Nat)) ∧ (spansV i p n)[k * 4 + 3]? = some (.int .i64 (spanW i p k : Nat))
  | 0, _, h => by omega
  | n + 1, k, h => by
    rw [spansV_succ]
    have hl := spansV_len i p n
    by_cases hk : k < n
    · have := spansV_get i p n k hk
      rw [List.getElem?_append_left (by omega), List.getElem?_append_left (by omega), List.getElem?_append_left (by omega)]
      exact this
    · obtain rfl : k = n := by omega
      rw [List.getElem?_append_right (by omega), List.getElem?_append_right (by omega), List.getElem?_append_right (by omega)]
      exact ⟨by rw [show k * 4 - (spansV i p k).length = 0 by omega]; rfl, by rw [show k * 4 + 1 - (spansV i p k).length = 1 by omega]; rfl, by rw [show k * 4 + 3 - (spansV i p k).length = 3 by omega]; rfl⟩
def spanOff (i p : Nat) : Nat → Nat
  | 0 => 0
  | k + 1 => spanOff i p k + spanW i p k
theorem spanOff_a (i p : Nat) : ∀ k, k ≤ 2 + i → spanOff i p k = 8 * k
  | 0, _ => rfl
  | k + 1, h => by rw [spanOff, spanOff_a i p k (by omega)]; unfold spanW; rw [if_pos (by omega)]; omega
theorem spanOff_b (i p : Nat) : ∀ s, s ≤ p → spanOff i p (2 + i + s) = 8 * (2 + i) + 136 * s
  | 0, _ => spanOff_a i p _ (by omega)
  | s + 1, h => by rw [← Nat.add_assoc, spanOff, spanOff_b i p s (by omega)]; unfold spanW; rw [if_neg (by omega), if_pos (by omega)]; omega
theorem spanOff_c (i p : Nat) : ∀ b, spanOff i p (2 + i + p + b) = 8 * (2 + i) + 136 * p + 32 * b
  | 0 => spanOff_b i p p (Nat.le_refl _)
  | b + 1 => by rw [← Nat.add_assoc, spanOff, spanOff_c i p b]; unfold spanW; rw [if_neg (by omega), if_neg (by omega)]; omega
theorem spanOff_le (i p : Nat) : ∀ k, spanOff i p k ≤ 136 * k
  | 0 => by simp [spanOff]
  | k + 1 => by
    have := spanOff_le i p k
    rw [spanOff]
    unfold spanW
    split
    · omega
    · split <;> omega
theorem span_info : (Try.prog.info? 98).map (fun i => (i.zero, i.size, i.bytes)) = some (some (.agg #[.int .u8 0, .int .i64 0, .int .i64 0, .int .i64 0]), 4, 32) := by kernel_rfl
/-- One region appended to regions of one's own. -/
theorem wpList_append_span {ops : Array Oper} {rest : List Oper} {o : Oper} {a : Act} {w : World} {Q : Exit → Act → World → Prop} (hgd : o.guard = none) (s x : Operand)
    (ho : o.op = .call { callee := .builtin .append, args := #[s, x], argTypes := #[93, 93] }) (base : Nat) (v : Value) (n : Nat) (xs : List Value) (hs : a.eval s = v) (hown : w.ownsRow base 98 4 v n xs) (hbase : base ≤ w.heap.size)
    (B : Nat) (z1 z2 z3 z4 : Value) (h1 : z1.oneCell' = true) (h2 : z2.oneCell' = true) (h3 : z3.oneCell' = true) (h4 : z4.oneCell' = true) (c : Nat) (hx : a.eval x = .slice (some ⟨B, 0, none⟩) 1 c) (hc : w.heap[B]? = some (.cells #[z1, z2, z3, z4] 98 (0, 0))) (hn : n ≤ 1000000)
    (h : ∀ v' w', w'.ownsRow base 98 4 v' (n + 1) (xs ++ [z1, z2, z3, z4]) → Below base w w' → wpList Try.prog ops Q rest (a.put o.dst v') w') : wpList Try.prog ops Q (o :: rest) a w := by
  obtain ⟨i0, hi, hz0, hz1, hz2⟩ := info_parts span_info
  refine wpList_append_lies w hgd s x 93 ho base 98 i0 _ 4 32 Try.underlying93 hi hz0 hz1 hz2 rfl (by omega) v n xs hs hown ⟨B, 0, none⟩ 1 c [z1, z2, z3, z4] hx rfl (World.news_of_block hc) (by intro u hu; simp at hu; rcases hu with rfl | rfl | rfl | rfl <;> assumption) (by omega) (by unfold maxLen; omega) (by omega) hbase w.heap.size rfl ?_
  intro g cap w' how hgr hat hlt
  refine h _ _ how ((Below.refl base w).grown hgr hbase (fun k hk => ?_))
  rcases hown.2 with ⟨rfl, -⟩ | ⟨g', cap', cur, rfl, hb, -⟩
  · simp [Value.ownBlock] at hk
  · simp [Value.ownBlock] at hk; omega
theorem own_mono {w : World} {B B' e size n : Nat} {v : Value} {xs : List Value} (hB : B' ≤ B) (h : w.ownsRow B e size v n xs) : w.ownsRow B' e size v n xs := by
  refine ⟨h.1, h.2.imp id ?_⟩
  rintro ⟨g, cap, cur, hv, hb, r⟩
  exact ⟨g, cap, cur, hv, by omega, r⟩
theorem row0 (w : World) (p i b : Nat) : ((w.alloc (.cells #[.int .i64 (p : Int), .int .i64 (i : Int), .int .i64 (b : Int)] 23)).alloc (.cells #[.int .u8 1, .int .i64 0, .int .i64 0, .int .i64 8, .int .u8 2, .int .i64 0, .int .i64 0, .int .i64 8] 98)).ownsRow (w.heap.size + 1) 98 4 (.slice (some ⟨w.heap.size + 1, 0, none⟩) 2 2) (2 + 0) (spansV i p (2 + 0)) := by
  have h := World.ownsRow_lit (base := w.heap.size + 1) (e := 98) (size := 4) (w.alloc (.cells #[.int .i64 (p : Int), .int .i64 (i : Int), .int .i64 (b : Int)] 23)) #[.int .u8 1, .int .i64 0, .int .i64 0, .int .i64 8, .int .u8 2, .int .i64 0, .int .i64 0, .int .i64 8] 2 (by simp) (by unfold maxLen; omega) rfl
  rw [World.size_alloc] at h
  have e : spansV i p (2 + 0) = [.int .u8 1, .int .i64 0, .int .i64 0, .int .i64 8, .int .u8 2, .int .i64 0, .int .i64 0, .int .i64 8] := by
    simp [spansV, List.range_succ, spanC, spanK, spanN, spanW, show 1 < 2 + i by omega, show 0 < 2 + i by omega]
  rw [e]
  exact h
theorem size_one {w w' : World} {o : Obj} (h : Below (w.heap.size + 1) (w.alloc o) w') : w.heap.size + 1 ≤ w'.heap.size := by
  have := h.size
  rw [World.size_alloc] at this
  exact this
theorem spana {i p k : Nat} (h : k < i) : spanC i p (2 + k) = [.int .u8 3, .int .i64 ((k : Int) + 1), .int .i64 0, .int .i64 8] := by
  unfold spanC spanK spanN spanW
  rw [if_neg (by omega), if_neg (by omega), if_pos (by omega), if_neg (by omega), if_pos (by omega), if_pos (by omega), show 2 + k - 1 = k + 1 by omega]
  rfl
theorem spanb {i p k : Nat} (h : k < p) : spanC i p (2 + i + k) = [.int .u8 4, .int .i64 (k : Int), .int .i64 0, .int .i64 136] := by
  unfold spanC spanK spanN spanW
  rw [if_neg (by omega), if_neg (by omega), if_neg (by omega), if_pos (by omega), if_neg (by omega), if_neg (by omega), if_pos (by omega), if_neg (by omega), if_pos (by omega), show 2 + i + k - 2 - i = k by omega]
  rfl
theorem spanc {i p k : Nat} : spanC i p (2 + i + p + k) = [.int .u8 5, .int .i64 ((k : Int) + 1), .int .i64 0, .int .i64 32] := by
  unfold spanC spanK spanN spanW
  rw [if_neg (by omega), if_neg (by omega), if_neg (by omega), if_neg (by omega), if_neg (by omega), if_neg (by omega), if_neg (by omega), if_neg (by omega), if_neg (by omega), show 2 + i + p + k - 1 - i - p = k + 1 by omega]
  rfl
set_option maxHeartbeats 4000000 in
set_option maxRecDepth 100000 in
theorem all_any (p i b : Nat) (w : World) (hp : p ≤ 8) (hi : i ≤ 64) (hb : b ≤ 255) :
    Calls Try.prog 41 #[.agg #[.int .i64 (p : Int), .int .i64 (i : Int), .int .i64 (b : Int)]] w fun e w' => ∃ v, e = .returned v ∧ w'.ownsRow w.heap.size 98 4 v (2 + i + p + b) (spansV i p (2 + i + p + b)) ∧ Below w.heap.size w w' := by
  have b0 := hid ((Below.refl w.heap.size w).alloc (Nat.le_refl _) (.cells #[.int .i64 (p : Int), .int .i64 (i : Int), .int .i64 (b : Int)] 23))
  have b1 := hid ((Below.refl (w.heap.size + 1) (w.alloc (.cells #[.int .i64 (p : Int), .int .i64 (i : Int), .int .i64 (b : Int)] 23))).alloc (by simp) (.cells #[.int .u8 1, .int .i64 0, .int .i64 0, .int .i64 8, .int .u8 2, .int .i64 0, .int .i64 0, .int .i64 8] 98))
  go_enter Try.func41, Try.ntmps41
  go_wp2_with fail
  go_loopw [3, 4] (fun v c wr => ∃ k : Nat, k ≤ i ∧ c = .int .i64 ((k : Int) + 1) ∧ wr.ownsRow (w.heap.size + 1) 98 4 v (2 + k) (spansV i p (2 + k)) ∧ Below (w.heap.size + 1) (w.alloc (.cells #[.int .i64 (p : Int), .int .i64 (i : Int), .int .i64 (b : Int)] 23)) wr) (fun _ c _ => i + 1 - (intOf c).toNat)
  case atStart => exact ⟨0, by omega, rfl, row0 w p i b, b1.out⟩
  case round =>
    obtain ⟨k, hk, rfl, hown, hb⟩ := hrel
    have Hown := hid hown
    have Hb := hid hb
    have g1 : wr.cell? ⟨w.heap.size, 1, none⟩ = some (.int .i64 (i : Int)) := (hb.cell (p := ⟨w.heap.size, 1, none⟩) (by simp)).trans (by simp)
    clear hown hb
    by_cases hlt : k < i
    · have hlt' : (k : Int) + 1 ≤ (i : Int) := by omega
      go_wp2_with (at_builtin; refine wpList_append_span rfl (.tmp 18) (.tmp 22) rfl (w.heap.size + 1) _ (2 + k) _ rfl (owns_below Hown.out ((Below.refl _ _).alloc (Nat.le_refl _) _)) (Nat.le_trans (size_one Hb.out) (by simp)) wr.heap.size (.int .u8 3) (.int .i64 ((k : Int) + 1)) (.int .i64 0) (.int .i64 8) rfl rfl rfl rfl 1 rfl (heap_alloc_last wr _) (by omega) ?_; intro v2 w2 how2 hb2; have Ho2 := hid how2; have Hb2 := hid ((Hb.out.alloc (size_one Hb.out) _).trans hb2); clear how2 hb2)
      go_roundw
      case rel =>
        refine ⟨k + 1, by omega, by go_num, ?_, Hb2.out⟩
        rw [← Nat.add_assoc, spansV_succ, spana (i := i) (p := p) (k := k) (by omega)]
        exact Ho2.out
      case measure => simp [intOf]; omega
    · obtain rfl : i = k := by omega
      go_wp2
      go_loopw [3, 5] (fun v c wr => ∃ k : Nat, k ≤ p ∧ c = .int .i64 (k : Int) ∧ wr.ownsRow (w.heap.size + 1) 98 4 v (2 + i + k) (spansV i p (2 + i + k)) ∧ Below (w.heap.size + 1) (w.alloc (.cells #[.int .i64 (p : Int), .int .i64 (i : Int), .int .i64 (b : Int)] 23)) wr) (fun _ c _ => p + 1 - (intOf c).toNat)
      case atStart => exact ⟨0, by omega, rfl, Hown.out, Hb.out⟩
      case round =>
        obtain ⟨k, hk, rfl, hown, hb⟩ := hrel
        have Hown := hid hown
        have Hb := hid hb
        have g0 : wr.cell? ⟨w.heap.size, 0, none⟩ = some (.int .i64 (p : Int)) := (hb.cell (p := ⟨w.heap.size, 0, none⟩) (by simp)).trans (by simp)
        clear hown hb
        by_cases hlt : k < p
        · have hlt' : (k : Int) < (p : Int) := by omega
          go_wp2_with (at_builtin; refine wpList_append_span rfl (.tmp 30) (.tmp 34) rfl (w.heap.size + 1) _ (2 + i + k) _ rfl (owns_below Hown.out ((Below.refl _ _).alloc (Nat.le_refl _) _)) (Nat.le_trans (size_one Hb.out) (by simp)) wr.heap.size (.int .u8 4) (.int .i64 (k : Int)) (.int .i64 0) (.int .i64 136) rfl rfl rfl rfl 1 rfl (heap_alloc_last wr _) (by omega) ?_; intro v2 w2 how2 hb2; have Ho2 := hid how2; have Hb2 := hid ((Hb.out.alloc (size_one Hb.out) _).trans hb2); clear how2 hb2)
          go_roundw
          case rel =>
            refine ⟨k + 1, by omega, by go_num, ?_, Hb2.out⟩
            rw [← Nat.add_assoc, spansV_succ, spanb (i := i) (p := p) (k := k) (by omega)]
            exact Ho2.out
          case measure => simp [intOf]; omega
        · obtain rfl : p = k := by omega
          go_wp2
          go_loopw [3, 6] (fun v c wr => ∃ k : Nat, k ≤ b ∧ c = .int .i64 ((k : Int) + 1) ∧ wr.ownsRow (w.heap.size + 1) 98 4 v (2 + i + p + k) (spansV i p (2 + i + p + k)) ∧ Below (w.heap.size + 1) (w.alloc (.cells #[.int .i64 (p : Int), .int .i64 (i : Int), .int .i64 (b : Int)] 23)) wr) (fun _ c _ => b + 1 - (intOf c).toNat)
          case atStart => exact ⟨0, by omega, rfl, Hown.out, Hb.out⟩
          case round =>
            obtain ⟨k, hk, rfl, hown, hb⟩ := hrel
            have Hown := hid hown
            have Hb := hid hb
            have g2 : wr.cell? ⟨w.heap.size, 2, none⟩ = some (.int .i64 (b : Int)) := (hb.cell (p := ⟨w.heap.size, 2, none⟩) (by simp)).trans (by simp)
            clear hown hb
            by_cases hlt : k < b
            · have hlt' : (k : Int) + 1 ≤ (b : Int) := by omega
              go_wp2_with (at_builtin; refine wpList_append_span rfl (.tmp 42) (.tmp 46) rfl (w.heap.size + 1) _ (2 + i + p + k) _ rfl (owns_below Hown.out ((Below.refl _ _).alloc (Nat.le_refl _) _)) (Nat.le_trans (size_one Hb.out) (by simp)) wr.heap.size (.int .u8 5) (.int .i64 ((k : Int) + 1)) (.int .i64 0) (.int .i64 32) rfl rfl rfl rfl 1 rfl (heap_alloc_last wr _) (by omega) ?_; intro v2 w2 how2 hb2; have Ho2 := hid how2; have Hb2 := hid ((Hb.out.alloc (size_one Hb.out) _).trans hb2); clear how2 hb2)
              go_roundw
              case rel =>
                refine ⟨k + 1, by omega, by go_num, ?_, Hb2.out⟩
                rw [← Nat.add_assoc, spansV_succ, spanc (i := i) (p := p) (k := k) ]
                exact Ho2.out
              case measure => simp [intOf]; omega
            · obtain rfl : b = k := by omega
              go_wp2
              go_wp2
              go_ret
              exact ⟨_, rfl, own_mono (by omega) Hown.out, b0.out.trans (Hb.out.mono (by omega))⟩

end Go.Proofs.Ytimfnimcmfjjpaa
