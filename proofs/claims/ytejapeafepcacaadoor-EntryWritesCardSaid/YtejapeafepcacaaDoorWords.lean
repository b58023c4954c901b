/- Walks of the packages word and sum: what Pack, Text, More, Of and strings.Contains at one byte return, and that they write only new memory. -/
import Derived.Test.YtejapeafepcacaaDoorProg
import Derived.Test.YtejapeafepcacaaDoorPlain
import Derived.WalkKit
import Derived.WalkSpells
import Derived.WalkLawsBesides
import Derived.Handy
import Derived.Deep.Draws
import Derived.Deep.OwnRows
import Derived.Deep.AppendLies
import Derived.Lib.Strings
import Derived.Lib.Slices
import Derived.Lib.Walk
import Derived.Lib.Bytealg
namespace Go.Proofs.YtejapeafepcacaaDoor
open Go.RowKit
theorem hid {p : Prop} (h : p) : Hid p := h
theorem ret_int {k : IntKind} {a b : Int} (h : a = b) : Ending.returned (.int k a) = .returned (.int k b) := by rw [h]

/-! ### sum -/
theorem on_bits (q : Nat) (hq : q < 4294967296) :
    bits BinOp.xor IntKind.u32 ((q : Int) / 2) (bits BinOp.and IntKind.u32 3988292384 (-bits BinOp.and IntKind.u32 (q : Int) 1 % 4294967296)) = ((crcStep q : Nat) : Int) := by
  have e1 : bits BinOp.and IntKind.u32 (q : Int) 1 = ((q % 2 : Nat) : Int) := by
    rw [show (1 : Int) = ((1 : Nat) : Int) from rfl, u32_and_nat q 1 hq (by omega), nat_mask1]
  have e2 : bits BinOp.and IntKind.u32 3988292384 (-((q % 2 : Nat) : Int) % 4294967296) = ((if q % 2 = 1 then 3988292384 else 0 : Nat) : Int) := by
    rcases Nat.mod_two_eq_zero_or_one q with h | h
    · rw [h]; rfl
    · rw [h]; rfl
  rw [e1, e2, show ((q : Int) / 2) = ((q / 2 : Nat) : Int) by omega, u32_xor_nat _ _ (by omega) (by split <;> omega)]
  rfl
set_option maxHeartbeats 400000 in
theorem on_any (c b : Nat) (hc : c < 4294967296) (hb : b < 256) (w : World) :
    Calls Tryd.prog 56 #[.int .u32 (c : Int), .int .u8 (b : Int)] w fun e w' => e = .returned (.int .u32 (crcIter 8 (c ^^^ b) : Nat)) ∧ w = w' := by
  have hx := u32_xor_nat c b hc (by omega)
  have hxl : c ^^^ b < 4294967296 := Nat.xor_lt_two_pow (n := 32) (by omega) (by omega)
  go_enter Tryd.func56, Tryd.ntmps56
  go_wp2
  clear hx
  go_loop [0, 9] (fun v i => ∃ k : Nat, k ≤ 8 ∧ i = .int .i64 k ∧ v = .int .u32 (crcIter k (c ^^^ b) : Nat)) (fun _ i => 8 - (intOf i).toNat)
  case atStart => exact ⟨0, by omega, rfl, rfl⟩
  case round =>
    obtain ⟨k, hk, rfl, rfl⟩ := hrel
    have hl := crcIter_lt hxl k
    generalize hq : crcIter k (c ^^^ b) = q at *
    have Hq := hid hq
    clear hq
    go_wp2
    · go_round
      case rel => exact ⟨k + 1, by omega, by go_num, by rw [on_bits q hl, crcIter, Hq.out]⟩
      case measure => simp [intOf]; omega
    · go_ret
      have : k = 8 := by omega
      subst this
      exact ⟨by rw [Hq.out]; rfl, rfl⟩
theorem not_bits (c : Nat) (hc : c < 4294967296) : bits BinOp.xor IntKind.u32 IntKind.u32.max (c : Int) = ((4294967295 - c : Nat) : Int) := by
  rw [show IntKind.u32.max = ((4294967295 : Nat) : Int) from rfl, u32_xor_nat _ _ (by omega) hc, not32 c hc]
theorem crcL_take (c : Nat) (s : ByteArray) (k : Nat) (h : k < s.size) :
    crcL c (s.data.toList.take (k + 1)) = crcIter 8 (crcL c (s.data.toList.take k) ^^^ s[k].toNat) := by
  rw [List.take_succ_eq_append_getElem (by simpa using h), crcL_append]; rfl
set_option maxHeartbeats 400000 in
theorem more_any (c : Nat) (s : ByteArray) (hc : c < 4294967296) (hs : s.size ≤ 1000000) (w : World) :
    Calls Tryd.prog 50 #[.int .u32 (c : Int), .string s] w fun e w' => e = .returned (.int .u32 ((4294967295 - crcL (4294967295 - c) s.data.toList : Nat) : Int)) ∧ w = w' := by
  have hn := not_bits c hc
  have hd : 4294967295 - c < 4294967296 := by omega
  generalize 4294967295 - c = d at hn hd ⊢
  go_enter Tryd.func50, Tryd.ntmps50
  go_wp2
  clear hn
  go_loop [0, 10] (fun v i => ∃ k : Nat, k ≤ s.size ∧ i = .int .i64 k ∧ v = .int .u32 (crcL d (s.data.toList.take k) : Nat)) (fun _ i => s.size - (intOf i).toNat)
  case atStart => exact ⟨0, by omega, rfl, rfl⟩
  case round =>
    obtain ⟨k, hk, rfl, rfl⟩ := hrel
    have hl := crcL_lt (s.data.toList.take k) hd
    generalize hq : crcL d (s.data.toList.take k) = q at *
    have Hq := hid hq
    clear hq
    by_cases hlt : k < s.size
    · have hb := s[k].toNat_lt
      have Hs := hid (crcL_take d s k hlt)
      go_wp2_with (go_at_call 56; refine (on_any q s[k].toNat hl hb _).mono ?_; rintro e w' ⟨rfl, rfl⟩)
      go_round
      case rel => exact ⟨k + 1, by omega, by go_num, by rw [Hs.out, Hq.out]⟩
      case measure => simp [intOf]; omega
    · have hn := not_bits q hl
      go_wp2
      go_ret
      have : k = s.size := by omega
      subst this
      rw [List.take_of_length_le (by simp)] at Hq
      exact ⟨by rw [Hq.out]; rfl, rfl⟩
set_option maxHeartbeats 400000 in
theorem of_any (s : ByteArray) (hs : s.size ≤ 1000000) (w : World) :
    Calls Tryd.prog 39 #[.string s] w fun e w' => e = .returned (.int .u32 (crcOf s.data.toList : Nat)) ∧ w = w' := by
  have H := hid (more_any 0 s (by omega) hs)
  go_enter Tryd.func39, Tryd.ntmps39
  go_wp2_with (go_at_call 50; refine (H.out _).mono ?_; rintro e w' ⟨rfl, rfl⟩)
  go_ret
  exact ⟨rfl, rfl⟩

/-! ### word -/
theorem u64_info : (Tryd.prog.info? 33).map (fun i => (i.zero, i.size, i.bytes)) = some (some (.int .u64 0), 1, 8) := by kernel_rfl
theorem u8_info : (Tryd.prog.info? 5).map (fun i => (i.zero, i.size, i.bytes)) = some (some (.int .u8 0), 1, 1) := by kernel_rfl
theorem mk64 (n : Nat) (z : Int) (hz : z = n) (hn : n ≤ 100000000) (W : World) :
    (Instr.makeSlice 28 (.int .i64 z) (.int .i64 z)).run Tryd.prog W = .ok (.slice (some ⟨W.heap.size, 0, none⟩) n n) (W.alloc (.cells (madeCells #[.int .u64 0] n) 33)) := by
  subst hz
  exact run_make_row' (P := Tryd.prog) 28 33 _ 8 Tryd.underlying28 u64_info rfl .i64 .i64 n (by omega) (by omega) W
theorem mk8 (n : Nat) (z : Int) (hz : z = n) (hn : n ≤ 100000000) (W : World) :
    (Instr.makeSlice 80 (.int .i64 z) (.int .i64 z)).run Tryd.prog W = .ok (.slice (some ⟨W.heap.size, 0, none⟩) n n) (W.alloc (.cells (madeCells #[.int .u8 0] n) 5)) := by
  subst hz
  exact run_make_row' (P := Tryd.prog) 80 5 _ 1 Tryd.underlying80 u8_info rfl .i64 .i64 n (by omega) (by omega) W
theorem pack_bits (a b i : Nat) (ha : a < 2 ^ (8 * (i % 8))) (hb : b < 256) (h64 : a + b * 2 ^ (8 * (i % 8)) < 18446744073709551616) :
    bits BinOp.or IntKind.u64 (a : Int) (IntKind.u64.wrap (IntKind.u64.wrap (b : Int) * 2 ^ (8 * (i % 8)))) = ((a + b * 2 ^ (8 * (i % 8)) : Nat) : Int) := by
  have e1 : IntKind.u64.wrap (b : Int) = (b : Int) := by rw [IntKind.wrap_u64]; omega
  have e2 : ((b : Int) * 2 ^ (8 * (i % 8))) = ((b * 2 ^ (8 * (i % 8)) : Nat) : Int) := by push_cast; rfl
  have e3 : IntKind.u64.wrap ((b * 2 ^ (8 * (i % 8)) : Nat) : Int) = ((b * 2 ^ (8 * (i % 8)) : Nat) : Int) := by rw [IntKind.wrap_u64]; omega
  rw [e1, e2, e3, u64_or_nat _ _ (by omega) (by omega), Nat.or_comm, nat_join (8 * (i % 8)) _ _ (by rw [Nat.mul_comm]; simp) ha, Nat.add_comm]
set_option maxHeartbeats 400000 in
set_option maxRecDepth 100000 in
theorem pack_any (s : ByteArray) (w : World) (hs : s.size ≤ 1000000) :
    Calls Tryd.prog 38 #[.string s] w fun e w' => e = .returned (.slice (some ⟨w.heap.size, 0, none⟩) ((s.size+7)/8) ((s.size+7)/8)) ∧ w'.rowIs w.heap.size 33 ((s.size+7)/8) (fun j => .int .u64 (wpack s.data.toList s.size j : Nat)) ∧ w'.heap.size = w.heap.size + 1 ∧ Below w.heap.size w w' := by
  have hmk := mk64 ((s.size+7)/8) ((s.size + 7 : Int) / 8) (by omega) (by omega)
  go_enter Tryd.func38, Tryd.ntmps38
  go_wp2
  clear hmk
  go_loopw [4, 12] (fun _ i wr => ∃ k : Nat, k ≤ s.size ∧ i = .int .i64 k ∧ wr.rowIs w.heap.size 33 ((s.size+7)/8) (fun j => .int .u64 (wpack s.data.toList k j : Nat)) ∧ wr.heap.size = w.heap.size + 1 ∧ Below w.heap.size w wr) (fun _ i _ => s.size - (intOf i).toNat)
  case atStart =>
    refine ⟨0, by omega, rfl, (World.rowIs_made w (.int .u64 0) _ 33).congr (fun i hi => by rw [wpack_zero]; rfl), by simp, (Below.refl _ _).alloc (Nat.le_refl _) _⟩
  case round =>
    obtain ⟨k, hk, rfl, hrow, hsz, hb⟩ := hrel
    by_cases hlt : k < s.size
    · have hc := hrow.cell (i := k / 8) (by omega)
      have hf := hrow.frozen (k / 8)
      have Hrow := hid hrow
      have Hsz := hid hsz
      have hwl := wpack_lt s.data.toList k (k / 8)
      have Hst := hid (fun j => wpack_step s.data.toList k j (by simpa using hlt))
      have Hl := hid (wpack_lt s.data.toList (k + 1) (k / 8))
      have Hr := hid (wpack_room s.data.toList k (by simpa using hk))
      clear hrow hsz
      go_wp2
      go_region
      go_wp2
      go_roundw
      case rel =>
        have hst := Hst.out (k / 8)
        rw [if_pos rfl] at hst
        have hl := Hl.out
        rw [hst] at hl
        have he : s.data.toList[k]'(by simpa using hlt) = s[k] := rfl
        rw [he] at hl hst
        refine ⟨k + 1, by omega, by go_num, ?_, ?_, ?_⟩
        · refine ((Hrow.out.set (k / 8) _).drew).congr (fun j hj => ?_)
          have hs2 := Hst.out j
          by_cases hjk : j = k / 8
          · subst hjk
            rw [if_pos rfl, hst, pack_bits _ _ k Hr.out s[k].toNat_lt hl]
          · rw [if_neg hjk] at hs2
            simp only [if_neg hjk, hs2]
        · simpa [World.setCell] using Hsz.out
        · exact (hb.setCell (p := ⟨w.heap.size, k / 8, none⟩) (Nat.le_refl _) _).drew
      case measure => simp [intOf]; omega
    · have hk' : k = s.size := by omega
      subst hk'
      go_wp2
      go_ret
      exact ⟨rfl, hrow, hsz, hb⟩
theorem block_of_add (a : Addr) (n : Nat) : (a.add n).block = a.block := by unfold Addr.add; split <;> rfl
theorem conv8 (W : World) (g n : Nat) (l : List UInt8) (hl : l.length = n) (h : W.rowIs g 5 n (fun j => .int .u8 ((l.getD j 0).toNat : Int))) :
    (convert 80 9 (.slice (some ⟨g, 0, none⟩) n n)).run Tryd.prog W = .ok (.string ⟨l.toArray⟩) W := by
  subst hl
  refine run_convert_bytes_back W 80 9 5 ⟨g, 0, none⟩ l.length l Tryd.underlying80 Tryd.underlying5 Tryd.underlying9 (fun j hj => ?_)
  have hc := h.cell (i := j) hj
  have ha : (⟨g, 0, none⟩ : Addr).add j = ⟨g, j, none⟩ := by unfold Addr.add; by_cases h0 : j = 0 <;> simp [h0]
  rw [ha, hc, List.getD_eq_getElem?_getD, List.getElem?_eq_getElem hj]
  rfl
theorem text_bits (a i : Nat) : (a : Int) / 2 ^ (8 * (i % 8)) % 256 = (((UInt8.ofNat (a / 2 ^ (8 * (i % 8)))).toNat : Nat) : Int) := by
  have e : ((a : Int) / 2 ^ (8 * (i % 8))) = ((a / 2 ^ (8 * (i % 8)) : Nat) : Int) := by push_cast; rfl
  rw [e]
  simp
set_option maxHeartbeats 400000 in
set_option maxRecDepth 100000 in
theorem text_some (ad : Addr) (m cap n : Nat) (f : Nat → Nat) (w : World) (hn : n ≤ 8 * m) (hm : m ≤ 1000000) (hb0 : ad.block < w.heap.size)
    (hc : ∀ k, k < m → w.cell? (ad.add k) = some (.int .u64 (f k : Nat))) :
    Calls Tryd.prog 30 #[.slice (some ad) m cap, .int .i64 (n : Int)] w fun e w' => e = .returned (.tuple #[.string ⟨(textW f n).toArray⟩, .int .i64 0]) ∧ Below w.heap.size w w' := by
  have hmk := mk8 n n rfl (by omega)
  have h1 : ¬ ((n : Int) < 0) := by omega
  have h2 : ¬ ((m : Int) < (n : Int) / 8) := by omega
  have h3 : ¬ (8 * (m : Int) < (n : Int)) := by omega
  have Hc := hid hc
  clear hc
  go_enter Tryd.func30, Tryd.ntmps30
  go_wp2
  clear hmk
  go_loopw [7, 28] (fun _ i wr => ∃ k : Nat, k ≤ n ∧ i = .int .i64 k ∧ wr.rowIs w.heap.size 5 n (fun j => .int .u8 (if j < k then (textB f j).toNat else 0 : Nat)) ∧ Below w.heap.size w wr) (fun _ i _ => n - (intOf i).toNat)
  case atStart =>
    exact ⟨0, by omega, rfl, (World.rowIs_made w (.int .u8 0) _ 5).congr (fun i hi => by simp), (Below.refl _ _).alloc (Nat.le_refl _) _⟩
  case round =>
    obtain ⟨k, hk, rfl, hrow, hb⟩ := hrel
    by_cases hlt : k < n
    · have hc := hrow.cell (i := k) hlt
      have hf := hrow.frozen k
      have hc2 := (hb.cell (p := ad.add (k / 8)) (by rw [block_of_add]; exact hb0)).trans (Hc.out (k / 8) (by omega))
      have Hrow := hid hrow
      clear hrow
      go_wp2
      go_roundw
      case rel =>
        refine ⟨k + 1, by omega, by go_num, ?_, hb.setCell (p := ⟨w.heap.size, k, none⟩) (Nat.le_refl _) _⟩
        refine (Hrow.out.set k _).congr (fun j hj => ?_)
        by_cases hjk : j = k
        · subst hjk
          rw [if_pos rfl, if_pos (by omega), text_bits]
          rfl
        · by_cases hlk : j < k
          · simp only [if_neg hjk, if_pos hlk, if_pos (show j < k + 1 by omega)]
          · simp only [if_neg hjk, if_neg hlk, if_neg (show ¬ j < k + 1 by omega)]
      case measure => simp [intOf]; omega
    · have hk' : k = n := by omega
      subst hk'
      have hcv := conv8 wr w.heap.size k (textW f k) (textW_length f k) (hrow.congr (fun i hi => by
        rw [if_pos hi, List.getD_eq_getElem?_getD, List.getElem?_eq_getElem (by rw [textW_length]; exact hi), textW_get]; rfl))
      clear hrow
      go_wp2
      go_ret2
      exact ⟨rfl, hb⟩
set_option maxHeartbeats 400000 in
set_option maxRecDepth 100000 in
theorem text_zero (A : Option Addr) (m cap : Nat) (w : World) (hm : m ≤ 1000000) :
    Calls Tryd.prog 30 #[.slice A m cap, .int .i64 0] w fun e w' => e = .returned (.tuple #[.string ⟨#[]⟩, .int .i64 0]) ∧ Below w.heap.size w w' := by
  have hmk := mk8 0 0 rfl (by omega)
  have h2 : ¬ ((m : Int) < 0) := by omega
  have h3 : ¬ (8 * (m : Int) < 0) := by omega
  have hb : Below w.heap.size w (w.alloc (.cells (madeCells #[.int .u8 0] 0) 5)) := (Below.refl _ _).alloc (Nat.le_refl _) _
  have hcv := conv8 (w.alloc (.cells (madeCells #[.int .u8 0] 0) 5)) w.heap.size 0 [] rfl ((World.rowIs_made w (.int .u8 0) 0 5).congr (fun i hi => absurd hi (by omega)))
  go_enter Tryd.func30, Tryd.ntmps30
  go_wp2
  refine wp_loop_rounds 1 ?_
  rw [rounds_succ]
  go_wp2
  go_ret2
  exact ⟨rfl, hb⟩
set_option maxHeartbeats 400000 in
set_option maxRecDepth 100000 in
theorem text_far (A : Option Addr) (m cap n : Nat) (w : World) (hm : m ≤ 1000000) (hn : 8 * m < n) (hn2 : n ≤ 10000000) :
    Calls Tryd.prog 30 #[.slice A m cap, .int .i64 (n : Int)] w fun e w' => e = .returned (.tuple #[.string ⟨#[]⟩, .int .i64 2]) ∧ w = w' := by
  have h1 : ¬ ((n : Int) < 0) := by omega
  have h3 : 8 * (m : Int) < (n : Int) := by omega
  by_cases h2 : (m : Int) < (n : Int) / 8
  all_goals
    go_enter Tryd.func30, Tryd.ntmps30
    go_wp2
    go_ret2
    exact ⟨rfl, rfl⟩
/-- A slice of words, nil let in. -/
def RW (w : World) (A : Option Addr) (m : Nat) (f : Nat → Nat) : Prop :=
  0 < m → ∃ ad : Addr, A = some ad ∧ ad.block < w.heap.size ∧ ∀ k, k < m → w.cell? (ad.add k) = some (.int .u64 (f k : Nat))
theorem text_any (A : Option Addr) (m cap n : Nat) (f : Nat → Nat) (w : World) (hn : n ≤ 8 * m) (hm : m ≤ 1000000) (h : RW w A m f) :
    Calls Tryd.prog 30 #[.slice A m cap, .int .i64 (n : Int)] w fun e w' => e = .returned (.tuple #[.string ⟨(textW f n).toArray⟩, .int .i64 0]) ∧ Below w.heap.size w w' := by
  rcases Nat.eq_zero_or_pos n with h0 | h0
  · subst h0
    exact text_zero A m cap w hm
  · obtain ⟨ad, rfl, hb, hc⟩ := h (by omega)
    exact text_some ad m cap n f w hn hm hb hc

/-! ### strings.Contains at one byte -/
set_option maxHeartbeats 1000000 in
set_option maxRecDepth 100000 in
theorem indexByte_any (s : ByteArray) (c : Int) (w : World) :
    Calls Tryd.prog 58 #[.string s, .int .u8 c] w fun e w' => e = .returned (.int .i64 (Lib.indexByte s.data.toList c.toNat.toUInt8)) ∧ w = w' := by
  go_enter Tryd.func58, Tryd.ntmps58
  go_wp2
  rw [run_callFunc_extern Tryd.func62 (by kernel_rfl) (by kernel_rfl) (by kernel_rfl) (e := Extern.BytealgIndexByte.indexByte) (by kernel_rfl), Lib.run_indexByteString]
  simp only [Result.andThen]
  rw [Oper.upon_value]
  go_wp2
  go_ret
  exact ⟨rfl, rfl⟩
set_option maxHeartbeats 2000000 in
set_option maxRecDepth 100000 in
theorem indexLite_any (s : ByteArray) (c : UInt8) (w : World) :
    Calls Tryd.prog 57 #[.string s, .string ⟨#[c]⟩] w fun e w' => e = .returned (.int .i64 (Lib.indexByte s.data.toList c)) ∧ w = w' := by
  go_enter Tryd.func57, Tryd.ntmps57
  go_wp2_with (go_at_call 58; refine (indexByte_any _ _ _).mono ?_; rintro e w' ⟨rfl, rfl⟩)
  · have h : ([c] == s.toList) = true := by assumption
    go_ret
    refine ⟨?_, rfl⟩
    have e : s.data.toList = [c] := by rw [← Lib.toList_data]; exact (beq_iff_eq.1 h).symm
    rw [e]
    simp [Lib.indexByte]
  · go_ret
    exact ⟨rfl, rfl⟩
theorem index_any (s : ByteArray) (c : UInt8) (w : World) :
    Calls Tryd.prog 51 #[.string s, .string ⟨#[c]⟩] w fun e w' => e = .returned (.int .i64 (Lib.indexByte s.data.toList c)) ∧ w = w' := by
  go_enter Tryd.func51, Tryd.ntmps51
  go_wp2_with (go_at_call 57; refine (indexLite_any _ _ _).mono ?_; rintro e w' ⟨rfl, rfl⟩)
  go_ret
  exact ⟨rfl, rfl⟩
theorem indexByte_ge (c : UInt8) : ∀ l : List UInt8, -1 ≤ Lib.indexByte l c
  | [] => by simp [Lib.indexByte]
  | x :: r => by
    have h := indexByte_ge c r
    simp only [Lib.indexByte]
    split
    · omega
    · split <;> omega
theorem indexByte_mem (c : UInt8) : ∀ l : List UInt8, 0 ≤ Lib.indexByte l c ↔ c ∈ l
  | [] => by simp [Lib.indexByte]
  | x :: r => by
    have h := indexByte_mem c r
    have hm := indexByte_ge c r
    by_cases hx : x = c
    · subst hx; simp [Lib.indexByte]
    · have h1 : (x == c) = false := by simpa using hx
      have hx' : ¬ c = x := fun e => hx e.symm
      simp only [Lib.indexByte, h1, Bool.false_eq_true, if_false, List.mem_cons, hx', false_or]
      rw [← h]
      by_cases h3 : Lib.indexByte r c = -1
      · simp [h3]
      · have h4 : (Lib.indexByte r c == -1) = false := by simpa using h3
        simp only [h4, Bool.false_eq_true, if_false]
        omega
theorem indexByte_nonneg (c : UInt8) (l : List UInt8) : decide (0 ≤ Lib.indexByte l c) = l.contains c := by
  rw [Bool.eq_iff_iff, decide_eq_true_iff, List.contains_iff_mem, indexByte_mem]
theorem contains_any (s : ByteArray) (c : UInt8) (w : World) :
    Calls Tryd.prog 40 #[.string s, .string ⟨#[c]⟩] w fun e w' => e = .returned (.bool (s.data.toList.contains c)) ∧ w = w' := by
  go_enter Tryd.func40, Tryd.ntmps40
  go_wp2_with (go_at_call 51; refine (index_any _ _ _).mono ?_; rintro e w' ⟨rfl, rfl⟩)
  go_ret
  exact ⟨by rw [← indexByte_nonneg]; rfl, rfl⟩
end Go.Proofs.YtejapeafepcacaaDoor
