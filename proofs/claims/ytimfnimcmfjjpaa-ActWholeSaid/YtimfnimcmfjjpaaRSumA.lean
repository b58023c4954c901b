/- The document's answers: which geometries may be; bytes of words; the sum of words. -/
import Derived.Test.YtimfnimcmfjjpaaAlive
namespace Go.Proofs.Ytimfnimcmfjjpaa
open Go.RowKit
set_option maxHeartbeats 400000 in
set_option maxRecDepth 100000 in
theorem rgeom_any (p i b : Int) (w : World) :
    Calls Try.prog 25 #[.agg #[.int .i64 p, .int .i64 i, .int .i64 b]] w fun e w' => e = .returned (.bool (gok p i b)) ∧ Below w.heap.size w w' := by
  go_enter Try.func25, Try.ntmps25
  go_wp2
  all_goals
    go_ret
    refine ⟨?_, (Below.refl _ _).alloc (Nat.le_refl _) _⟩
    show Ending.returned (Value.bool _) = _
    first
      | (simp [gok, *]; done)
      | (simp [gok, *]; omega)
set_option maxHeartbeats 400000 in
set_option maxRecDepth 100000 in
theorem field8 (a : Nat) (ha : a ≤ 56) (w : World) :
    Calls Try.prog 92 #[.int .i64 (a : Nat), .int .i64 8] w fun e w' => e = .returned (.bool true) ∧ w = w' := by
  have h1 : (a : Int) ≤ 56 := by omega
  have h2 : (a : Int) ≤ 63 := by omega
  have h0 : (0 : Int) ≤ (a : Int) := by omega
  go_enter Try.func92, Try.ntmps92
  go_wp2
  go_ret
  exact ⟨rfl, rfl⟩
set_option maxHeartbeats 400000 in
set_option maxRecDepth 100000 in
theorem bit_any (x i : Nat) (z : Int) (hz : z = i) (hx : x < 18446744073709551616) (hi : i < 64) (w : World) :
    Calls Try.prog 93 #[.int .u64 (x : Nat), .int .i64 z] w fun e w' => e = .returned (.int .u64 ((x / 2 ^ i % 2 : Nat) : Int)) ∧ w = w' := by
  subst hz
  go_enter Try.func93, Try.ntmps93
  go_wp2
  go_ret
  refine ⟨ret_int ?_, rfl⟩
  rw [Int.tmod_eq_emod_of_nonneg (Int.ediv_nonneg (by omega) (by exact_mod_cast Nat.zero_le _))]
  push_cast
  rfl
theorem get_step (y n : Nat) (hn : n < 8) : y / 2 ^ n % 2 ^ (8 - n) = 2 * (y / 2 ^ (n + 1) % 2 ^ (8 - (n + 1))) + y / 2 ^ n % 2 := by
  have h1 : y / 2 ^ (n + 1) = y / 2 ^ n / 2 := by rw [Nat.div_div_eq_div_mul, Nat.pow_succ]
  rw [h1, show 8 - n = (8 - (n + 1)) + 1 by omega, Nat.pow_succ, Nat.mul_comm (2 ^ (8 - (n + 1))) 2, Nat.mod_mul]
  omega
set_option maxHeartbeats 400000 in
set_option maxRecDepth 100000 in
theorem get8 (x a : Nat) (z : Int) (hz : z = a) (hx : x < 18446744073709551616) (ha : a ≤ 56) (w : World) :
    Calls Try.prog 84 #[.int .u64 (x : Nat), .int .i64 z, .int .i64 8] w fun e w' => e = .returned (.tuple #[.int .u64 ((x / 2 ^ a % 256 : Nat) : Int), .int .i64 0]) ∧ w = w' := by
  subst hz
  go_enter Try.func84, Try.ntmps84
  go_wp2_with (go_at_call 92; refine (field8 a ha _).mono ?_; rintro e w' ⟨rfl, rfl⟩)
  go_loop [8, 9] (fun v i => ∃ n : Nat, n ≤ 8 ∧ i = .int .i64 ((n : Int) - 1) ∧ v = .int .u64 ((x / 2 ^ a / 2 ^ n % 2 ^ (8 - n) : Nat) : Int)) (fun _ i => (intOf i + 1).toNat)
  case atStart => exact ⟨8, by omega, rfl, by rw [Nat.pow_zero, Nat.mod_one]; rfl⟩
  case round =>
    obtain ⟨n, hn, rfl, rfl⟩ := hrel
    cases n with
    | succ n =>
      have hs := get_step (x / 2 ^ a) n (by omega)
      have hq : x / 2 ^ a / 2 ^ (n + 1) % 2 ^ (8 - (n + 1)) < 128 := by
        have h1 : x / 2 ^ a / 2 ^ (n + 1) % 2 ^ (8 - (n + 1)) < 2 ^ (8 - (n + 1)) := Nat.mod_lt _ (Nat.two_pow_pos _)
        have h2 : 2 ^ (8 - (n + 1)) ≤ 2 ^ 7 := Nat.pow_le_pow_right (by omega) (by omega)
        omega
      have hdd : x / 2 ^ (a + n) % 2 = x / 2 ^ a / 2 ^ n % 2 := by rw [Nat.pow_add, Nat.div_div_eq_div_mul]
      have hb : x / 2 ^ a / 2 ^ n % 2 < 2 := Nat.mod_lt _ (by omega)
      rw [show (((n + 1 : Nat) : Int) - 1) = (n : Int) by omega]
      generalize x / 2 ^ a / 2 ^ (n + 1) % 2 ^ (8 - (n + 1)) = q at hq hs ⊢
      generalize x / 2 ^ a / 2 ^ n % 2 = bb at hb hs hdd ⊢
      have Hs := hid hs
      have Hdd := hid hdd
      clear hs hdd
      go_wp2_with (go_at_call 93; refine (bit_any x (a + n) _ (by omega) hx (by omega) _).mono ?_; rintro e w' ⟨rfl, rfl⟩)
      go_round
      case rel => exact ⟨n, by omega, by go_num, by rw [Hs.out, ← Hdd.out]; push_cast; rfl⟩
      case measure => simp [intOf]
    | zero =>
      go_wp2
      go_ret2
      refine ⟨?_, rfl⟩
      simp
theorem u8_info : (Try.prog.info? 5).map (fun i => (i.zero, i.size, i.bytes)) = some (some (.int .u8 0), 1, 1) := by kernel_rfl
theorem crcL_take (c : Nat) (s : ByteArray) (k : Nat) (h : k < s.size) :
    crcL c (s.data.toList.take (k + 1)) = crcIter 8 (crcL c (s.data.toList.take k) ^^^ s[k].toNat) := by
  rw [List.take_succ_eq_append_getElem (by simpa using h), crcL_append]; rfl
theorem xor_full (c : Nat) (hc : c < 4294967296) : bits BinOp.xor IntKind.u32 (c : Int) 4294967295 = ((4294967295 - c : Nat) : Int) := by
  rw [show (4294967295 : Int) = ((4294967295 : Nat) : Int) from rfl, u32_xor_nat _ _ hc (by omega), Nat.xor_comm, not32 c hc]
theorem xor_poly (c : Nat) (hc : c < 4294967296) : bits BinOp.xor IntKind.u32 ((c : Int) / 2) 3988292384 = ((c / 2 ^^^ 3988292384 : Nat) : Int) := by
  rw [show (3988292384 : Int) = ((3988292384 : Nat) : Int) from rfl, show ((c : Int) / 2) = ((c / 2 : Nat) : Int) by omega, u32_xor_nat _ _ (by omega) (by omega)]
theorem step_odd {x : Nat} (h : x % 2 = 1) : crcStep x = x / 2 ^^^ 3988292384 := by unfold crcStep; rw [if_pos h]
theorem step_even {x : Nat} (h : ¬ x % 2 = 1) : crcStep x = x / 2 := by unfold crcStep; rw [if_neg h, Nat.xor_zero]
set_option maxHeartbeats 1000000 in
set_option maxRecDepth 100000 in
theorem rmore_any (c : Nat) (s : ByteArray) (hc : c < 4294967296) (hs : s.size ≤ 1000000) (w : World) :
    Calls Try.prog 70 #[.int .u32 (c : Int), .string s] w fun e w' => e = .returned (.int .u32 ((4294967295 - crcL (4294967295 - c) s.data.toList : Nat) : Int)) ∧ w = w' := by
  have hn := xor_full c hc
  have hd : 4294967295 - c < 4294967296 := by omega
  generalize 4294967295 - c = d at hn hd ⊢
  go_enter Try.func70, Try.ntmps70
  go_wp2
  clear hn
  go_loop [0, 5] (fun v i => ∃ k : Nat, k ≤ s.size ∧ i = .int .i64 k ∧ v = .int .u32 (crcL d (s.data.toList.take k) : Nat)) (fun _ i => s.size - (intOf i).toNat)
  case atStart => exact ⟨0, by omega, rfl, rfl⟩
  case round =>
    obtain ⟨k, hk, rfl, rfl⟩ := hrel
    have hl := crcL_lt (s.data.toList.take k) hd
    generalize hq : crcL d (s.data.toList.take k) = q at *
    have Hq := hid hq
    clear hq
    by_cases hlt : k < s.size
    · have hb := s[k].toNat_lt
      have Hs := hid (crcL_take d s k hlt)
      have hx := u32_xor_nat q s[k].toNat hl (by omega)
      have hxl : q ^^^ s[k].toNat < 4294967296 := Nat.xor_lt_two_pow (n := 32) (by omega) (by omega)
      go_wp2
      clear hx
      go_loop [0, 6] (fun v i => ∃ j : Nat, j ≤ 8 ∧ i = .int .i64 j ∧ v = .int .u32 (crcIter j (q ^^^ s[k].toNat) : Nat)) (fun _ i => 8 - (intOf i).toNat)
      case atStart => exact ⟨0, by omega, rfl, rfl⟩
      case round =>
        obtain ⟨j, hj, rfl, rfl⟩ := hrel
        have hl2 := crcIter_lt hxl j
        generalize hr : crcIter j (q ^^^ s[k].toNat) = r at *
        have Hr := hid hr
        clear hr
        by_cases hj8 : j < 8
        · by_cases ho : r % 2 = 1
          · have hp := xor_poly r hl2
            have hst := hid (step_odd ho)
            have ho' : (r : Int) % 2 = 1 := by omega
            go_wp2
            go_round
            case rel => exact ⟨j + 1, by omega, by go_num, by rw [crcIter, Hr.out, hst.out]⟩
            case measure => simp [intOf]; omega
          · have hst := hid (step_even ho)
            have ho' : (r : Int) % 2 = 0 := by omega
            go_wp2
            go_round
            case rel => exact ⟨j + 1, by omega, by go_num, by rw [crcIter, Hr.out, hst.out]; rfl⟩
            case measure => simp [intOf]; omega
        · have : j = 8 := by omega
          subst this
          go_wp2
          go_round
          case rel => exact ⟨k + 1, by omega, by go_num, by rw [Hs.out, Hq.out, Hr.out]⟩
          case measure => simp [intOf]; omega
    · have hn := xor_full q hl
      go_wp2
      go_ret
      have : k = s.size := by omega
      subst this
      rw [List.take_of_length_le (by simp)] at Hq
      exact ⟨by rw [Hq.out]; rfl, rfl⟩
/-- One byte appended to bytes of one's own. -/
theorem wpList_append_byte {ops : Array Oper} {rest : List Oper} {o : Oper} {a : Act} {w : World} {Q : Exit → Act → World → Prop} (hgd : o.guard = none) (s x : Operand)
    (ho : o.op = .call { callee := .builtin .append, args := #[s, x], argTypes := #[137, 137] }) (base : Nat) (v : Value) (n : Nat) (xs : List Value) (hs : a.eval s = v) (hown : w.ownsRow base 5 1 v n xs) (hbase : base ≤ w.heap.size)
    (B : Nat) (z : Int) (c : Nat) (hx : a.eval x = .slice (some ⟨B, 0, none⟩) 1 c) (hc : w.cell? ⟨B, 0, none⟩ = some (.int .u8 z)) (hn : n ≤ 1000000)
    (h : ∀ v' w', w'.ownsRow base 5 1 v' (n + 1) (xs ++ [.int .u8 z]) → Below base w w' → wpList Try.prog ops Q rest (a.put o.dst v') w') : wpList Try.prog ops Q (o :: rest) a w := by
  obtain ⟨i0, hi, hz0, hz1, hz2⟩ := info_parts u8_info
  refine wpList_append_lies w hgd s x 137 ho base 5 i0 _ 1 1 Try.underlying137 hi hz0 hz1 hz2 rfl (by omega) v n xs hs hown ⟨B, 0, none⟩ 1 c [.int .u8 z] hx rfl (fun j u hj => ?_) (by simp [Value.oneCell']) (by omega) (by unfold maxLen; omega) (by omega) hbase w.heap.size rfl ?_
  · match j, hj with
    | 0, hj => rw [show (⟨B, 0, none⟩ : Addr).add 0 = ⟨B, 0, none⟩ from rfl, hc]; simpa using hj
  · intro g cap w' how hgr hat hlt
    refine h _ _ how ((Below.refl base w).grown hgr hbase (fun k hk => ?_))
    rcases hown.2 with ⟨rfl, -⟩ | ⟨g', cap', cur, rfl, hb, -⟩
    · simp [Value.ownBlock] at hk
    · simp [Value.ownBlock] at hk; omega
/-- Bytes of one's own, as a string. -/
theorem conv_own (W : World) (base : Nat) (v : Value) (n : Nat) (l : List UInt8) (hl : l.length = n) (h : W.ownsRow base 5 1 v n (l.map fun b => .int .u8 (b.toNat : Int))) : (convert 137 9 v).run Try.prog W = .ok (.string ⟨l.toArray⟩) W := by
  subst hl
  rcases h.2 with ⟨rfl, h0⟩ | ⟨g, cap, cur, rfl, -, hg, -, -, -, ht⟩
  · have : l = [] := List.eq_nil_of_length_eq_zero h0
    subst this
    rw [run_convert_bytes_string W 137 9 5 none 0 0 Try.underlying137 Try.underlying5 Try.underlying9]
    simp [Conv.bytesToString]
    rfl
  · refine run_convert_bytes_back W 137 9 5 ⟨g, 0, none⟩ cap l Try.underlying137 Try.underlying5 Try.underlying9 (fun j hj => ?_)
    have ha : (⟨g, 0, none⟩ : Addr).add j = ⟨g, j, none⟩ := by unfold Addr.add; by_cases h0 : j = 0 <;> simp [h0]
    rw [ha, cell_of_row W g j cur 5 (0, 0) hg]
    have := congrArg (fun l : List Value => l[j]?) ht
    simpa [hj] using this
set_option maxHeartbeats 1000000 in
set_option maxRecDepth 100000 in
theorem rtext_any (A : Option Addr) (m cap n : Nat) (z : Int) (hz : z = n) (f : Nat → Nat) (w : World) (hn : n ≤ 8 * m) (hn2 : n ≤ 1000000) (hf : ∀ k, f k < 18446744073709551616) (hm : m ≤ 1000000) (h : WordsAt w A m f) :
    Calls Try.prog 69 #[.slice A m cap, .int .i64 z] w fun e w' => e = .returned (.tuple #[.string ⟨(textW f n).toArray⟩, .int .i64 0]) ∧ Below w.heap.size w w' := by
  subst hz
  have h1 : ¬ ((n : Int) < 0) := by omega
  rcases Nat.eq_zero_or_pos n with h0 | h0
  · subst h0
    have hcv := conv_own w w.heap.size (.slice none 0 0) 0 [] rfl ⟨rfl, .inl ⟨rfl, rfl⟩⟩
    go_enter Try.func69, Try.ntmps69
    go_wp2
    refine wp_loop_rounds 1 ?_
    rw [rounds_succ]
    go_wp2
    go_ret2
    exact ⟨rfl, Below.refl _ _⟩
  · obtain ⟨ad, rfl, hlt0, hc⟩ : ∃ ad, A = some ad ∧ ad.block < w.heap.size ∧ ∀ k, k < m → w.cell? (ad.add k) = some (.int .u64 (f k : Nat)) := by
      rcases h with h | h
      · omega
      · exact h
    have h2 : (0 : Int) < (n : Int) := by omega
    have h3 : ¬ ((m : Int) ≤ ((n : Int) - 1) / 8) := by omega
    have Hc := hid hc
    clear hc h
    go_enter Try.func69, Try.ntmps69
    go_wp2
    go_loopw [6, 7] (fun v i wr => ∃ k : Nat, k ≤ n ∧ i = .int .i64 k ∧ wr.ownsRow w.heap.size 5 1 v k ((textW f k).map fun b => .int .u8 (b.toNat : Int)) ∧ Below w.heap.size w wr) (fun _ i _ => n - (intOf i).toNat)
    case atStart => exact ⟨0, by omega, rfl, ⟨rfl, .inl ⟨rfl, rfl⟩⟩, Below.refl _ _⟩
    case round =>
      obtain ⟨k, hk, rfl, hown, hb⟩ := hrel
      have Hown := hid hown
      have HB := hid hb
      by_cases hlt : k < n
      · have hc2 := (hb.cell (p := ad.add (k / 8)) (by rw [block_of_add]; exact hlt0)).trans (Hc.out (k / 8) (by omega))
        have hk8 : (k : Int) / 8 < (m : Int) := by omega
        clear hown hb
        go_wp2_with (first
          | (go_at_call 84; refine (get8 (f (k / 8)) (8 * (k % 8)) _ (by omega) (hf _) (by omega) _).mono ?_; rintro e w' ⟨rfl, rfl⟩)
          | (refine wpList_append_byte rfl (.tmp 41) (.tmp 44) rfl w.heap.size _ k _ rfl (owns_below Hown.out (Below.alloc (Below.refl _ _) (Nat.le_refl _) _)) (by have := HB.out.size; simp; omega) wr.heap.size ((f (k / 8) : Int) / 2 ^ (8 * (k % 8)) % 256) 1 rfl (cell_of_row _ _ 0 _ 5 (0, 0) (heap_alloc_last wr _)) (by omega) ?_; intro v2 w2 how2 hb2; have Ho2 := hid how2; have Hb2 := hid hb2; clear how2 hb2))
        go_roundw
        case rel =>
          refine ⟨k + 1, by omega, by go_num, ?_, ((HB.out.alloc HB.out.size _).trans Hb2.out)⟩
          have := Ho2.out
          rw [text_bits] at this
          unfold textW
          rw [List.range_succ, List.map_append, List.map_append]
          exact this
        case measure => simp [intOf]; omega
      · have : k = n := by omega
        subst this
        clear hown hb
        have hcv := conv_own wr w.heap.size _ k (textW f k) (textW_length f k) Hown.out
        go_wp2
        go_ret2
        exact ⟨rfl, HB.out⟩
end Go.Proofs.Ytimfnimcmfjjpaa
