/- The document's answers: Pack and Text. -/
import Derived.Test.YtejapeafepcacaaDoorRefC
import Derived.Test.YtejapeafepcacaaDoorCopy
import Derived.Test.YtejapeafepcacaaDoorFrame
namespace Go.Proofs.YtejapeafepcacaaDoor
open Go.RowKit
set_option maxHeartbeats 1000000 in
set_option maxRecDepth 100000 in
theorem rpack_any (s : ByteArray) (w : World) (hs : s.size ≤ 1000000) :
    Calls Tryd.prog 33 #[.string s] w fun e w' => e = .returned (.slice (some ⟨w.heap.size, 0, none⟩) ((s.size+7)/8) ((s.size+7)/8)) ∧ w'.rowIs w.heap.size 33 ((s.size+7)/8) (fun j => .int .u64 (wpack s.data.toList s.size j : Nat)) ∧ Below w.heap.size w w' := by
  have hmk := mk64 ((s.size+7)/8) ((s.size + 7 : Int) / 8) (by omega) (by omega)
  go_enter Tryd.func33, Tryd.ntmps33
  go_wp2
  clear hmk
  go_loopw [4] (fun i wr => ∃ k : Nat, k ≤ s.size ∧ i = .int .i64 k ∧ wr.rowIs w.heap.size 33 ((s.size+7)/8) (fun j => .int .u64 (wpack s.data.toList k j : Nat)) ∧ Below w.heap.size w wr) (fun i _ => s.size - (intOf i).toNat)
  case atStart =>
    refine ⟨0, by omega, rfl, (World.rowIs_made w (.int .u64 0) _ 33).congr (fun i hi => by rw [wpack_zero]; rfl), (Below.refl _ _).alloc (Nat.le_refl _) _⟩
  case round =>
    obtain ⟨k, hk, rfl, hrow, hb⟩ := hrel
    by_cases hlt : k < s.size
    · have hc := hrow.cell (i := k / 8) (by omega)
      have hf := hrow.frozen (k / 8)
      have Hrow := hid hrow
      have hwl := wpack_lt s.data.toList k (k / 8)
      have Hst := hid (fun j => wpack_step s.data.toList k j (by simpa using hlt))
      have Hr := hid (wpack_room s.data.toList k (by simpa using hk))
      have HB := hid hb
      have hw8 : IntKind.i64.wrap ((k : Int) / 8) = (k : Int) / 8 := Go.IntWalk.i64_in _ (by omega)
      have h7 : (k : Int) / 8 < ((s.size : Int) + 7) / 8 := by omega
      have h70 : 0 ≤ (k : Int) / 8 := by omega
      have h7n : ((k : Int) / 8).toNat = k / 8 := by omega
      have Hz : Hid (IntKind.i64.wrap (8 * (k : Int).tmod 8) = ((8 * (k % 8) : Nat) : Int)) := by
        rw [Int.tmod_eq_emod_of_nonneg (by omega), Go.IntWalk.i64_in _ (by omega)]
        exact (by omega : 8 * ((k : Int) % 8) = ((8 * (k % 8) : Nat) : Int))
      have Hu : Hid (IntKind.u64.wrap (s[k].toNat : Int) = ((s[k].toNat : Nat) : Int)) := by
        have := s[k].toNat_lt
        rw [IntKind.wrap_u64]
        exact (by omega : (s[k].toNat : Int) % 18446744073709551616 = s[k].toNat)
      have HP := hid (put8 (wpack s.data.toList k (k / 8)) (8 * (k % 8)) s[k].toNat _ _ Hz.out Hu.out Hr.out s[k].toNat_lt (by omega))
      clear hrow hb
      go_wp2
      refine wp_region_quiet_lit (by kernel_rfl) (by kernel_rfl) ?_
      repeat (quiet_step (fail))
      refine wpQuiet_step (fun K hK => ?_)
      go_simp
      apply Exists.intro
      refine ⟨fun _ => ?_, hK _ ?_⟩
      · refine Calls.quiet_of_same (v := .tuple #[.int .u64 ((wpack s.data.toList k (k / 8) + s[k].toNat * 2 ^ (8 * (k % 8)) : Nat) : Int), .int .i64 0]) ?_
        refine (HP.out _).mono ?_
        rintro e w' ⟨rfl, rfl⟩
        exact ⟨rfl, rfl⟩
      clear hK K
      repeat (quiet_step (fail))
      refine wpQuiet_nil ?_
      intro _ hw'
      obtain ⟨nq, hw''⟩ := hw'
      subst hw''
      go_wp2
      go_roundw
      case rel =>
        have hst := Hst.out (k / 8)
        rw [if_pos rfl] at hst
        have he : s.data.toList[k]'(by simpa using hlt) = s[k] := rfl
        rw [he] at hst
        refine ⟨k + 1, by omega, by go_num, ?_, ?_⟩
        · refine ((above_row (below_drewN (Below.refl wr.heap.size wr) nq) Hrow.out).set (k / 8) _).congr (fun j hj => ?_)
          have hs2 := Hst.out j
          by_cases hjk : j = k / 8
          · subst hjk
            rw [if_pos rfl, hst]
            push_cast
            rfl
          · rw [if_neg hjk] at hs2
            simp only [if_neg hjk, hs2]
        · exact (below_drewN HB.out nq).setCell (p := ⟨w.heap.size, k / 8, none⟩) (Nat.le_refl _) _
      case measure => simp [intOf]; omega
    · have : k = s.size := by omega
      subst this
      go_wp2
      go_ret
      exact ⟨rfl, hrow, hb⟩
/-- One byte appended to bytes of one's own. -/
theorem wpList_append_byte {ops : Array Oper} {rest : List Oper} {o : Oper} {a : Act} {w : World} {Q : Exit → Act → World → Prop} (hgd : o.guard = none) (s x : Operand)
    (ho : o.op = .call { callee := .builtin .append, args := #[s, x], argTypes := #[80, 80] }) (base : Nat) (v : Value) (n : Nat) (xs : List Value) (hs : a.eval s = v) (hown : w.ownsRow base 5 1 v n xs) (hbase : base ≤ w.heap.size)
    (B : Nat) (z : Int) (c : Nat) (hx : a.eval x = .slice (some ⟨B, 0, none⟩) 1 c) (hc : w.cell? ⟨B, 0, none⟩ = some (.int .u8 z)) (hn : n ≤ 1000000)
    (h : ∀ v' w', w'.ownsRow base 5 1 v' (n + 1) (xs ++ [.int .u8 z]) → Below base w w' → wpList Tryd.prog ops Q rest (a.put o.dst v') w') : wpList Tryd.prog ops Q (o :: rest) a w := by
  obtain ⟨i0, hi, hz0, hz1, hz2⟩ := info_parts u8_info
  refine wpList_append_lies w hgd s x 80 ho base 5 i0 _ 1 1 Tryd.underlying80 hi hz0 hz1 hz2 rfl (by omega) v n xs hs hown ⟨B, 0, none⟩ 1 c [.int .u8 z] hx rfl (fun j u hj => ?_) (by simp [Value.oneCell']) (by omega) (by unfold maxLen; omega) (by omega) hbase w.heap.size rfl ?_
  · match j, hj with
    | 0, hj => rw [show (⟨B, 0, none⟩ : Addr).add 0 = ⟨B, 0, none⟩ from rfl, hc]; simpa using hj
  · intro g cap w' how hgr hat hlt
    refine h _ _ how ((Below.refl base w).grown hgr hbase (fun k hk => ?_))
    rcases hown.2 with ⟨rfl, -⟩ | ⟨g', cap', cur, rfl, hb, -⟩
    · simp [Value.ownBlock] at hk
    · simp [Value.ownBlock] at hk; omega
theorem owns_below {W W' : World} {B e size n : Nat} {v : Value} {xs : List Value} (h : W.ownsRow B e size v n xs) (hb : Below W.heap.size W W') : W'.ownsRow B e size v n xs := by
  refine ⟨h.1, ?_⟩
  rcases h.2 with h0 | ⟨g, cap, cur, hv, hB, hg, r⟩
  · exact .inl h0
  · have hlt : g < W.heap.size := (Array.getElem?_eq_some_iff.1 hg).1
    exact .inr ⟨g, cap, cur, hv, hB, by rw [hb.block g hlt]; exact hg, r⟩
/-- Bytes of one's own, as a string. -/
theorem conv_own (W : World) (base : Nat) (v : Value) (n : Nat) (l : List UInt8) (hl : l.length = n) (h : W.ownsRow base 5 1 v n (l.map fun b => .int .u8 (b.toNat : Int))) : (convert 80 9 v).run Tryd.prog W = .ok (.string ⟨l.toArray⟩) W := by
  subst hl
  rcases h.2 with ⟨rfl, h0⟩ | ⟨g, cap, cur, rfl, -, hg, -, -, -, ht⟩
  · have : l = [] := List.eq_nil_of_length_eq_zero h0
    subst this
    rw [run_convert_bytes_string W 80 9 5 none 0 0 Tryd.underlying80 Tryd.underlying5 Tryd.underlying9]
    simp [Conv.bytesToString]
    rfl
  · refine run_convert_bytes_back W 80 9 5 ⟨g, 0, none⟩ cap l Tryd.underlying80 Tryd.underlying5 Tryd.underlying9 (fun j hj => ?_)
    have ha : (⟨g, 0, none⟩ : Addr).add j = ⟨g, j, none⟩ := by unfold Addr.add; by_cases h0 : j = 0 <;> simp [h0]
    rw [ha, cell_of_row W g j cur 5 (0, 0) hg]
    have := congrArg (fun l : List Value => l[j]?) ht
    simpa [hj] using this
set_option maxHeartbeats 1000000 in
set_option maxRecDepth 100000 in
theorem rtext_any (A : Option Addr) (m cap n : Nat) (z : Int) (hz : z = n) (f : Nat → Nat) (w : World) (hn : n ≤ 8 * m) (hn2 : n ≤ 1000000) (hf : ∀ k, f k < 18446744073709551616) (hm : m ≤ 1000000) (h : Lies w A m f) :
    Calls Tryd.prog 34 #[.slice A m cap, .int .i64 z] w fun e w' => e = .returned (.tuple #[.string ⟨(textW f n).toArray⟩, .int .i64 0]) ∧ Below w.heap.size w w' := by
  subst hz
  have h1 : ¬ ((n : Int) < 0) := by omega
  rcases Nat.eq_zero_or_pos n with h0 | h0
  · subst h0
    have hcv := conv_own w w.heap.size (.slice none 0 0) 0 [] rfl ⟨rfl, .inl ⟨rfl, rfl⟩⟩
    go_enter Tryd.func34, Tryd.ntmps34
    go_wp2
    refine wp_loop_rounds 1 ?_
    rw [rounds_succ]
    go_wp2
    go_ret2
    exact ⟨rfl, Below.refl _ _⟩
  · obtain ⟨ad, rfl, hlt0, hc⟩ : ∃ ad, A = some ad ∧ ad.block < w.heap.size ∧ ∀ k, k < m → w.cell? (ad.add k) = some (.int .u64 (f k : Nat)) := by
      rcases h with h | h
      · omega
      · exact h
    have h2 : (0 : Int) < (n : Int) := by omega
    have h3 : ¬ ((m : Int) ≤ ((n : Int) - 1) / 8) := by omega
    have Hc := hid hc
    clear hc h
    go_enter Tryd.func34, Tryd.ntmps34
    go_wp2
    go_loopw [6, 7] (fun v i wr => ∃ k : Nat, k ≤ n ∧ i = .int .i64 k ∧ wr.ownsRow w.heap.size 5 1 v k ((textW f k).map fun b => .int .u8 (b.toNat : Int)) ∧ Below w.heap.size w wr) (fun _ i _ => n - (intOf i).toNat)
    case atStart => exact ⟨0, by omega, rfl, ⟨rfl, .inl ⟨rfl, rfl⟩⟩, Below.refl _ _⟩
    case round =>
      obtain ⟨k, hk, rfl, hown, hb⟩ := hrel
      have Hown := hid hown
      have HB := hid hb
      by_cases hlt : k < n
      · have hc2 := (hb.cell (p := ad.add (k / 8)) (by rw [block_of_add]; exact hlt0)).trans (Hc.out (k / 8) (by omega))
        have hk8 : (k : Int) / 8 < (m : Int) := by omega
        clear hown hb
        go_wp2_with (first
          | (go_at_call 42; refine (get8 (f (k / 8)) (8 * (k % 8)) _ (by omega) (hf _) (by omega) _).mono ?_; rintro e w' ⟨rfl, rfl⟩)
          | (refine wpList_append_byte rfl (.tmp 41) (.tmp 44) rfl w.heap.size _ k _ rfl (owns_below Hown.out (Below.alloc (Below.refl _ _) (Nat.le_refl _) _)) (by have := HB.out.size; simp; omega) wr.heap.size ((f (k / 8) : Int) / 2 ^ (8 * (k % 8)) % 256) 1 rfl (cell_of_row _ _ 0 _ 5 (0, 0) (heap_alloc_last wr _)) (by omega) ?_; intro v2 w2 how2 hb2; have Ho2 := hid how2; have Hb2 := hid hb2; clear how2 hb2))
        go_roundw
        case rel =>
          refine ⟨k + 1, by omega, by go_num, ?_, ((HB.out.alloc HB.out.size _).trans Hb2.out)⟩
          have := Ho2.out
          rw [text_bits] at this
          unfold textW
          rw [List.range_succ, List.map_append, List.map_append]
          exact this
        case measure => simp [intOf]; omega
      · have : k = n := by omega
        subst this
        clear hown hb
        have hcv := conv_own wr w.heap.size _ k (textW f k) (textW_length f k) Hown.out
        go_wp2
        go_ret2
        exact ⟨rfl, HB.out⟩
set_option maxHeartbeats 400000 in
set_option maxRecDepth 100000 in
theorem rtext_far (A : Option Addr) (m cap n : Nat) (z : Int) (hz : z = n) (w : World) (hm : m ≤ 1000000) (hn : 8 * m < n) (hn2 : n ≤ 10000000) :
    Calls Tryd.prog 34 #[.slice A m cap, .int .i64 z] w fun e w' => e = .returned (.tuple #[.string ⟨#[]⟩, .int .i64 2]) ∧ w = w' := by
  subst hz
  have h1 : ¬ ((n : Int) < 0) := by omega
  have h2 : (0 : Int) < (n : Int) := by omega
  have h3 : (m : Int) ≤ ((n : Int) - 1) / 8 := by omega
  go_enter Tryd.func34, Tryd.ntmps34
  go_wp2
  go_ret2
  exact ⟨rfl, rfl⟩
end Go.Proofs.YtejapeafepcacaaDoor
