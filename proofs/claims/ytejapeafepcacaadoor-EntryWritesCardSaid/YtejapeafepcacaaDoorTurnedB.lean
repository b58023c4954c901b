/- EntryTurned where the slot may be: the walk, with the checksum's law at its end. -/
import Derived.Test.YtejapeafepcacaaDoorTurnedA
import Derived.Deep.AppendLies
namespace Go.Proofs.YtejapeafepcacaaDoor
open Go.RowKit
theorem news3 {w : World} {g t : Nat} {F : Nat → Value} (h : w.rowIs g t 3 F) : ∀ j u, [F 0, F 1, F 2][j]? = some u → w.cell? ((⟨g, 0, none⟩ : Addr).add j) = some u := fun j u hu => by
  have ha : ∀ k, (⟨g, 0, none⟩ : Addr).add k = ⟨g, k, none⟩ := fun k => by unfold Addr.add; by_cases h0 : k = 0 <;> simp [h0]
  rw [ha]
  match j, hu with
  | 0, hu => rw [h.cell (by omega)]; simpa using hu
  | 1, hu => rw [h.cell (by omega)]; simpa using hu
  | 2, hu => rw [h.cell (by omega)]; simpa using hu
theorem own3 {w : World} {base e g cap : Nat} {a b c : Value} (h : w.ownsRow base e 1 (.slice (some ⟨g, 0, none⟩) 3 cap) 3 [a, b, c]) : 3 ≤ cap ∧ g < w.heap.size ∧ w.cell? ⟨g, 0, none⟩ = some a ∧ w.cell? ⟨g, 1, none⟩ = some b ∧ w.cell? ⟨g, 2, none⟩ = some c := by
  rcases h.2 with ⟨h1, _⟩ | ⟨g', cap', cur, hv, _, hh, hn, _, hs, ht⟩
  · cases h1
  · simp only [Value.slice.injEq, Option.some.injEq, Addr.mk.injEq, and_true, true_and] at hv
    obtain ⟨rfl, rfl⟩ := hv
    refine ⟨hn, (Array.getElem?_eq_some_iff.1 hh).1, ?_, ?_, ?_⟩
    · rw [cell_of_row w g 0 cur e (0, 0) hh]
      have := congrArg (fun l : List Value => l[0]?) ht
      simpa using this
    · rw [cell_of_row w g 1 cur e (0, 0) hh]
      have := congrArg (fun l : List Value => l[1]?) ht
      simpa using this
    · rw [cell_of_row w g 2 cur e (0, 0) hh]
      have := congrArg (fun l : List Value => l[2]?) ht
      simpa using this
def Verdict (ino kind : Int) (s : ByteArray) (t : Nat) (F : Nat → Nat) (x0 x1 : Int) (xs : ByteArray) (Y : Value) : Prop :=
  (t = 0 ∧ x0 = ino ∧ x1 = kind ∧ xs.data.toList = s.data.toList ∧ Y = .nilIface) ∨ (¬ t = 0 ∧ ∃ v, Y = .iface 58 v) ∨
    (¬ t = 0 ∧ Y = .nilIface ∧ x0 = 0 ∧ x1 = 0 ∧ xs = ⟨#[]⟩ ∧ F 0 = 0 ∧ F 1 = 0 ∧ F 2 = 0)
theorem dec_verdict (ino kind p i b : Int) (s : ByteArray) (k t : Nat) (hm : mayB ino kind s.data.toList p i b = true) (hz : ¬ (ino = 0 ∧ kind = 0 ∧ s.data.toList = [])) (hk : k ≤ 160) (ht : t < 4294967296)
    (F : Nat → Nat) (hF : ∀ j, F j = wordN (cwN (wordsF ino kind s.data.toList) ^^^ t * 2 ^ k) j) :
    ∃ x0 x1 xs Y, (∀ (W : World) (gg cap : Nat), gg < W.heap.size → 3 ≤ cap → W.cell? ⟨gg, 0, none⟩ = some (.int .u64 (F 0 : Nat)) → W.cell? ⟨gg, 1, none⟩ = some (.int .u64 (F 1 : Nat)) → W.cell? ⟨gg, 2, none⟩ = some (.int .u64 (F 2 : Nat)) →
      Calls Tryd.prog 10 #[.slice (some ⟨gg, 0, none⟩) 3 cap, .agg #[.int .i64 p, .int .i64 i, .int .i64 b]] W fun e w' => e = .returned (.tuple #[.agg #[.int .i64 x0, .int .u8 x1, .string xs], Y]) ∧ Below W.heap.size W w') ∧
      Verdict ino kind s t F x0 x1 xs Y := by
  have hs : gok p i b = true ∧ slotB ino kind s.data.toList i = true := by simpa [mayB] using hm
  have hi := (gok_iff.1 hs.1).2.2.2.1
  have ha : ∀ (gg : Nat) k, (⟨gg, 0, none⟩ : Addr).add k = ⟨gg, k, none⟩ := fun gg k => by unfold Addr.add; by_cases h0 : k = 0 <;> simp [h0]
  have hF64 : ∀ j, F j < 18446744073709551616 := fun j => by rw [hF]; exact wordN_lt _ _
  have cells : ∀ (W : World) (gg : Nat) (f : Nat → Nat), W.cell? ⟨gg, 0, none⟩ = some (.int .u64 (f 0 : Nat)) → W.cell? ⟨gg, 1, none⟩ = some (.int .u64 (f 1 : Nat)) → W.cell? ⟨gg, 2, none⟩ = some (.int .u64 (f 2 : Nat)) →
      ∀ j, j < 3 → W.cell? ((⟨gg, 0, none⟩ : Addr).add j) = some (.int .u64 (f j : Nat)) := fun W gg f c0 c1 c2 j hj => by
    rw [ha]
    match j, hj with
    | 0, _ => exact c0
    | 1, _ => exact c1
    | 2, _ => exact c2
  have h1 : 1 ≤ ino := by
    rcases slotB_cases hs.2 with h | h
    · exact absurd h hz
    · exact h.1
  have hlen : s.data.toList.length ≤ 16 ∧ kind ≤ 3 ∧ ino ≤ 64 := by
    rcases slotB_cases hs.2 with h | ⟨_, h2, _, h4, h5⟩
    · exact absurd h hz
    · exact ⟨(namedB_len h5).2, h4, by omega⟩
  by_cases h0 : t = 0
  · subst h0
    obtain ⟨d1, d2, d3, d4⟩ := dec_self ino kind i s.data.toList hi hs.2
    have hw : ∀ j, wordsF ino kind s.data.toList j < 18446744073709551616 := fun j => wordsF_lt' ino kind s.data.toList j hlen.2.2 (by omega) hlen.1
    refine ⟨ino, kind, ⟨(textW (wordsF ino kind s.data.toList) (nameN (wordsF ino kind s.data.toList))).toArray⟩, .nilIface, fun W gg cap hg hc c0 c1 c2 => ?_, .inl ⟨rfl, rfl, rfl, by simpa using d4, rfl⟩⟩
    have e : ∀ j, j < 3 → F j = wordsF ino kind s.data.toList j := fun j hj => by rw [hF, Nat.zero_mul, Nat.xor_zero, wordN_cwN _ hw j hj]
    rw [e 0 (by omega)] at c0
    rw [e 1 (by omega)] at c1
    rw [e 2 (by omega)] at c2
    have := decode_ok ⟨gg, 0, none⟩ cap (wordsF ino kind s.data.toList) p i b W hs.1 hg hc hw (cells W gg _ c0 c1 c2) d1
    rw [d2, d3] at this
    exact this
  · cases hd : decB F i
    · exact ⟨0, 0, ⟨#[]⟩, _, fun W gg cap hg hc c0 c1 c2 => decode_bad ⟨gg, 0, none⟩ cap F p i b W hs.1 hg hc hF64 (cells W gg _ c0 c1 c2) hd, .inr (.inl ⟨h0, _, rfl⟩)⟩
    · obtain ⟨f0, f1, f2, g1, g2, g3⟩ := dec_burst ino kind i s.data.toList k t hi hs.2 h1 hk ht h0 F hF hd
      refine ⟨0, 0, ⟨#[]⟩, .nilIface, fun W gg cap hg hc c0 c1 c2 => ?_, .inr (.inr ⟨h0, rfl, rfl, rfl, rfl, f0, f1, f2⟩)⟩
      have := decode_ok ⟨gg, 0, none⟩ cap F p i b W hs.1 hg hc hF64 (cells W gg _ c0 c1 c2) hd
      rw [g1, g2, g3] at this
      exact this
theorem set3 {W : World} {gx t : Nat} {F : Nat → Value} (h : W.rowIs gx t 3 F) (a b c : Value) (G : Nat → Value) (h0 : G 0 = a) (h1 : G 1 = b) (h2 : G 2 = c) :
    (((W.setCell ⟨gx, 0, none⟩ a).setCell ⟨gx, 1, none⟩ b).setCell ⟨gx, 2, none⟩ c).rowIs gx t 3 G :=
  (((h.set 0 a).set 1 b).set 2 c).congr fun j hj => match j, hj with
    | 0, _ => h0.symm
    | 1, _ => h1.symm
    | 2, _ => h2.symm
theorem other3 {W : World} {g gx t n : Nat} {F : Nat → Value} (h : W.rowIs g t n F) (hne : g ≠ gx) (a b c : Value) :
    (((W.setCell ⟨gx, 0, none⟩ a).setCell ⟨gx, 1, none⟩ b).setCell ⟨gx, 2, none⟩ c).rowIs g t n F :=
  ((h.setOther (a := ⟨gx, 0, none⟩) hne a).setOther (a := ⟨gx, 1, none⟩) hne b).setOther (a := ⟨gx, 2, none⟩) hne c
theorem below3 {B : Nat} {w W : World} {gx : Nat} (h : Below B w W) (hg : B ≤ gx) (a b c : Value) : Below B w (((W.setCell ⟨gx, 0, none⟩ a).setCell ⟨gx, 1, none⟩ b).setCell ⟨gx, 2, none⟩ c) :=
  ((h.setCell (p := ⟨gx, 0, none⟩) hg a).setCell (p := ⟨gx, 1, none⟩) hg b).setCell (p := ⟨gx, 2, none⟩) hg c
theorem err3 {W : World} {gx : Nat} (h : ErrType W) (hg : ¬ 0 = gx) (a b c : Value) : ErrType (((W.setCell ⟨gx, 0, none⟩ a).setCell ⟨gx, 1, none⟩ b).setCell ⟨gx, 2, none⟩ c) := by
  have hne : ∀ o, (⟨gx, o, none⟩ : Addr) ≠ ⟨0, 0, none⟩ := fun o e => hg (congrArg Addr.block e).symm
  exact (World.cell?_setCell_other _ _ _ _ (hne 2)).trans ((World.cell?_setCell_other _ _ _ _ (hne 1)).trans ((World.cell?_setCell_other _ _ _ _ (hne 0)).trans h))
theorem bit_int (t n : Nat) : ((t : Int) / 2 ^ n) = ((t / 2 ^ n : Nat) : Int) := by push_cast; rfl
theorem bit_test_yes (t n : Nat) (h : t / 2 ^ n % 2 = 1) : (((t : Int) / 2 ^ n).tmod 2 == 1) = true := by
  rw [bit_int, Int.tmod_eq_emod_of_nonneg (Int.natCast_nonneg _), beq_iff_eq]; omega
theorem bit_test_no (t n : Nat) (h : ¬ t / 2 ^ n % 2 = 1) : (((t : Int) / 2 ^ n).tmod 2 == 1) = false := by
  rw [bit_int, Int.tmod_eq_emod_of_nonneg (Int.natCast_nonneg _), beq_eq_false_iff_ne]; omega
theorem xor_bit (x q : Nat) (hx : x < 18446744073709551616) : bits BinOp.xor IntKind.u64 (x : Int) (IntKind.u64.wrap (2 ^ (q % 64))) = ((x ^^^ 2 ^ (q % 64) : Nat) : Int) := by
  have hp : 2 ^ (q % 64) < 18446744073709551616 := Nat.lt_of_lt_of_le (Nat.pow_lt_pow_right (by omega) (Nat.mod_lt q (by omega : 0 < 64))) (by decide)
  have e : IntKind.u64.wrap ((2 : Int) ^ (q % 64)) = ((2 ^ (q % 64) : Nat) : Int) := by
    rw [show ((2 : Int) ^ (q % 64)) = ((2 ^ (q % 64) : Nat) : Int) by push_cast; rfl, IntKind.wrap_u64]
    generalize 2 ^ (q % 64) = m at hp
    omega
  rw [e, u64_xor_nat _ _ hx hp]
set_option maxHeartbeats 1000000 in
set_option maxRecDepth 100000 in
theorem turned_main (ino kind p i b : Int) (at_ turns : Nat) (s : ByteArray) (w : World) (hg : ErrType w) (h : s.size ≤ 200) (hz : ¬ (ino = 0 ∧ kind = 0 ∧ s.data.toList = [])) (hm : mayB ino kind s.data.toList p i b = true) (ha : at_ < 256) (ht : turns < 4294967296) :
    Calls Tryd.prog 3 #[.agg #[.int .i64 ino, .int .u8 kind, .string s], .agg #[.int .i64 p, .int .i64 i, .int .i64 b], .int .u8 (at_ : Int), .int .u32 (turns : Int)] w fun e w' => e = .returned (.bool true) ∧ Below w.heap.size w w' := by
  have Hg := hid (errType_alloc (errType_alloc hg (.cells #[.int .i64 ino, .int .u8 kind, .string s] 23)) (.cells #[.int .i64 p, .int .i64 i, .int .i64 b] 25))
  have h' : (s.size : Int) ≤ 200 := by omega
  have hd : decide ((200 : Int) < (s.size : Int)) = false := by simp; omega
  have He := hid (fun W => encode_yes ino kind p i b s W hm)
  have hq := eq_slot_no ino kind 0 0 s ⟨#[]⟩ hz
  have Hm := hid hm
  have Hz := hid hz
  clear hg hm hz
  go_enter Tryd.func3, Tryd.ntmps3
  go_wp2_with fail
  have rX := (row3 w 23 (.int .i64 ino) (.int .u8 kind) (.string s) (fun j => if j = 0 then .int .i64 ino else if j = 1 then .int .u8 kind else .string s) rfl rfl rfl).alloc (.cells #[.int .i64 p, .int .i64 i, .int .i64 b] 25)
  have rG := row3 (w.alloc (.cells #[.int .i64 ino, .int .u8 kind, .string s] 23)) 25 (.int .i64 p) (.int .i64 i) (.int .i64 b) (fun j => if j = 0 then .int .i64 p else if j = 1 then .int .i64 i else .int .i64 b) rfl rfl rfl
  refine (He.out _).mono ?_
  rintro e w1 ⟨g, rfl, hgg, hrow, hb⟩
  have HX := hid (above_row hb rX)
  have HG := hid (above_row hb rG)
  have HL := hid hrow
  have Hb := hid ((((Below.refl _ _).alloc (Nat.le_refl _) _).alloc (by simp) _).trans (hb.mono (by simp; omega)))
  have hgg' : w.heap.size + 1 < g := by simp at hgg; omega
  have Hg1 := hid (errType_above Hg.out hb)
  clear hb hrow rX rG hgg hq
  go_wp2_with fail
  generalize hN : cwN (wordsF ino kind s.data.toList) = N
  have HN := hid hN
  clear hN
  go_loopw [12] (fun v wr => ∃ n : Nat, n ≤ 32 ∧ v = .int .i64 n ∧ wr.rowIs g 67 3 (fun j => .int .u64 (wordN (turnN N (at_ % 161) turns n) j : Nat)) ∧
      wr.rowIs w.heap.size 23 3 (fun j => if j = 0 then .int .i64 ino else if j = 1 then .int .u8 kind else .string s) ∧
      wr.rowIs (w.heap.size + 1) 25 3 (fun j => if j = 0 then .int .i64 p else if j = 1 then .int .i64 i else .int .i64 b) ∧ ErrType wr ∧ Below w.heap.size w wr) (fun v _ => 32 - (intOf v).toNat)
  case atStart =>
    have hs : gok p i b = true ∧ slotB ino kind s.data.toList i = true := by simpa [mayB] using Hm.out
    have hi := (gok_iff.1 hs.1).2.2.2.1
    have hw : ∀ j, wordsF ino kind s.data.toList j < 18446744073709551616 := fun j => by
      rcases slotB_cases hs.2 with ⟨e1, e2, e3⟩ | ⟨_, e2, _, e4, e5⟩
      · exact wordsF_lt' ino kind s.data.toList j (by omega) (by omega) (by rw [e3]; simp)
      · exact wordsF_lt' ino kind s.data.toList j (by omega) (by omega) (namedB_len e5).2
    refine ⟨0, by omega, rfl, HL.out.congr (fun j hj => ?_), HX.out, ?_, Hg1.out, Hb.out⟩
    · unfold turnN
      rw [Nat.pow_zero, Nat.mod_one, Nat.zero_mul, Nat.xor_zero, ← HN.out, wordN_cwN _ hw j hj]
    · simpa using HG.out
  case round =>
    obtain ⟨n, hn, rfl, rL, rX, rG, hgr, hB⟩ := hrel
    have HL2 := hid rL
    have HX2 := hid rX
    have HG2 := hid rG
    have Hgr := hid hgr
    have HB := hid hB
    clear rL rX rG hgr hB
    by_cases hlt : n < 32
    · have hk : at_ % 161 < 161 := Nat.mod_lt _ (by omega)
      by_cases hbit : turns / 2 ^ n % 2 = 1
      · have hbt := bit_test_yes turns n hbit
        have hc := HL2.out.cell (i := (at_ % 161 + n) / 64) (by omega)
        have hf := HL2.out.frozen ((at_ % 161 + n) / 64)
        have Hbit := hid hbit
        clear hbit
        go_wp2
        go_roundw
        case rel =>
          have hw := wordN_lt (turnN N (at_ % 161) turns n) ((at_ % 161 + n) / 64)
          rw [xor_bit _ _ hw]
          refine ⟨n + 1, by omega, by go_num, ?_, HX2.out.setOther (by simp <;> omega) _, HG2.out.setOther (by simp <;> omega) _, ?_, HB.out.setCell (p := ⟨g, (at_ % 161 + n) / 64, none⟩) (by simp; omega) _⟩
          · refine (HL2.out.set ((at_ % 161 + n) / 64) _).congr (fun j hj => ?_)
            rw [turn_word _ _ _ _ _ Hbit.out]
            by_cases hj2 : j = (at_ % 161 + n) / 64
            · rw [if_pos hj2, if_pos hj2, hj2]
            · rw [if_neg hj2, if_neg hj2]
          · exact (World.cell?_setCell_other wr ⟨g, (at_ % 161 + n) / 64, none⟩ ⟨0, 0, none⟩ _ (by simp <;> omega)).trans Hgr.out
        case measure => simp [intOf]; omega
      · have hbt := bit_test_no turns n hbit
        have Hbit := hid hbit
        clear hbit
        go_wp2
        go_roundw
        case rel => exact ⟨n + 1, by omega, by go_num, by rw [turn_clear _ _ _ _ (by have := Hbit.out; omega)]; exact HL2.out, HX2.out, HG2.out, Hgr.out, HB.out⟩
        case measure => simp [intOf]; omega
    · obtain rfl : n = 32 := by omega
      obtain ⟨i0, hi0, hz0, hz1, hz2⟩ := info_parts u64_info
      obtain ⟨q0, q1, q2, -, -, -⟩ := three _ _ _ _ HG2.out
      simp at q0 q1 q2
      have hgl : g < wr.heap.size := HL2.out.lt
      have hne1 : ¬ w.heap.size + 1 = wr.heap.size := Nat.ne_of_lt (block_lt_of_cell q0)
      have Hi := hid hi0
      have Hz0 := hid hz0
      have Hz1 := hid hz1
      have Hz2 := hid hz2
      clear hi0 hz0 hz1 hz2
      have hks : at_ % 161 ≤ 160 := by omega
      obtain ⟨x0, x1, xs, Y, hd, hv⟩ := dec_verdict ino kind p i b s (at_ % 161) turns Hm.out Hz.out hks ht (fun j => wordN (turnN N (at_ % 161) turns 32) j) (fun j => by rw [← HN.out]; unfold turnN; rw [Nat.mod_eq_of_lt ht])
      have Hd2 := hid hd
      have Hv := hid hv
      clear hd hv
      go_wp2_with fail
      go_cut [13, 14] (fun v13 v14 wx => ∃ gx, v13 = .pointer (some ⟨gx, 0, none⟩) ∧ v14 = Y ∧ wx.rowIs gx 23 3 (fun j => if j = 0 then .int .i64 x0 else if j = 1 then .int .u8 x1 else .string xs) ∧
        wx.rowIs w.heap.size 23 3 (fun j => if j = 0 then .int .i64 ino else if j = 1 then .int .u8 kind else .string s) ∧
        wx.rowIs g 67 3 (fun j => .int .u64 (wordN (turnN N (at_ % 161) turns 32) j : Nat)) ∧ ErrType wx ∧ Below w.heap.size w wx)
      case first =>
        go_region_held3 (fun w' => w'.cell? ⟨w.heap.size + 1, 0, none⟩ = some (.int .i64 p) ∧ w'.cell? ⟨w.heap.size + 1, 1, none⟩ = some (.int .i64 i) ∧ w'.cell? ⟨w.heap.size + 1, 2, none⟩ = some (.int .i64 b))
          (first | (go_keep; done) | (refine ⟨?_, ?_, ?_⟩ <;> (go_keep; done)) | (go_split_ands; refine ⟨above hbx ?_, above hbx ?_, above hbx ?_⟩ <;> assumption) | exact ⟨(World.cell?_setCell_other _ _ _ _ (by simp <;> omega)).trans ((World.cell?_setCell_other _ _ _ _ (by simp <;> omega)).trans ((World.cell?_setCell_other _ _ _ _ (by simp <;> omega)).trans m0)), (World.cell?_setCell_other _ _ _ _ (by simp <;> omega)).trans ((World.cell?_setCell_other _ _ _ _ (by simp <;> omega)).trans ((World.cell?_setCell_other _ _ _ _ (by simp <;> omega)).trans m1)), (World.cell?_setCell_other _ _ _ _ (by simp <;> omega)).trans ((World.cell?_setCell_other _ _ _ _ (by simp <;> omega)).trans ((World.cell?_setCell_other _ _ _ _ (by simp <;> omega)).trans m2))⟩)
          (first | (refine step_append_lies _ (by rfl) _ _ _ (by rfl) 0 33 i0 _ 1 8 Tryd.underlying28 Hi.out Hz0.out Hz1.out Hz2.out rfl (by omega) (.slice none 0 0) 0 [] (by rfl) ⟨by simp, .inl ⟨rfl, rfl⟩⟩ ⟨g, 0, none⟩ 3 3 _ (by rfl) (by rfl) (news3 HL2.out) (by simp [Value.oneCell']) (by omega) (by unfold maxLen; omega) (by omega) (Nat.zero_le _) wr.heap.size (by rfl) ?_; intro gg cap w2 hown2 hgrow hat hlt2; have hbx := (Below.refl _ _).grown hgrow (Nat.le_refl _) (by simp [Value.ownBlock]); obtain ⟨hcap, hgl2, k0, k1, k2⟩ := own3 hown2; have Hbx := hid ((Below.refl wr.heap.size wr).drew.trans hbx); have c0 := above Hbx.out q0; have c1 := above Hbx.out q1; have c2 := above Hbx.out q2; have hne2 : ¬ w.heap.size + 1 = w2.heap.size := Nat.ne_of_lt (block_lt_of_cell c0)) | (refine step_append_lies _ (by rfl) _ _ _ (by rfl) 0 33 i0 _ 1 8 Tryd.underlying28 Hi.out Hz0.out Hz1.out Hz2.out rfl (by omega) (.slice none 0 0) 0 [] (by rfl) ⟨by simp, .inl ⟨rfl, rfl⟩⟩ ⟨g, 0, none⟩ 3 3 _ (by rfl) (by rfl) (news3 (HL2.out.alloc (.cells #[.int .i64 0, .int .u8 0, .string ⟨#[]⟩] 23))) (by simp [Value.oneCell']) (by omega) (by unfold maxLen; omega) (by omega) (Nat.zero_le _) (wr.heap.size + 1) (by simp) ?_; intro gg cap w2 hown2 hgrow hat hlt2; have hbx := (Below.refl _ _).grown hgrow (Nat.le_refl _) (by simp [Value.ownBlock]); obtain ⟨hcap, hgl2, k0, k1, k2⟩ := own3 hown2; have Hbx := hid (((Below.refl wr.heap.size wr).drew.alloc (Nat.le_refl _) (.cells #[.int .i64 0, .int .u8 0, .string ⟨#[]⟩] 23)).trans (hbx.mono (by simp))); have rZ : w2.rowIs wr.heap.size 23 3 (fun j => if j = 0 then .int .i64 0 else if j = 1 then .int .u8 0 else .string ⟨#[]⟩) := above_row hbx (row3 wr.drew 23 (.int .i64 0) (.int .u8 0) (.string ⟨#[]⟩) (fun j => if j = 0 then .int .i64 0 else if j = 1 then .int .u8 0 else .string ⟨#[]⟩) rfl rfl rfl); have HrZ := hid rZ; clear rZ; have c0 := above Hbx.out q0; have c1 := above Hbx.out q1; have c2 := above Hbx.out q2; have hne2 : ¬ w.heap.size + 1 = w2.heap.size := Nat.ne_of_lt (block_lt_of_cell c0)) | (go_at_call 10; refine (Hd2.out _ gg cap ?_ hcap ?_ ?_ ?_).mono ?_; (first | exact hgl2 | (simp; omega)); (first | exact k0 | exact (World.cell?_alloc_lt _ _ _ hgl2).trans k0); (first | exact k1 | exact (World.cell?_alloc_lt _ _ _ hgl2).trans k1); (first | exact k2 | exact (World.cell?_alloc_lt _ _ _ hgl2).trans k2); rintro e w3 ⟨rfl, hbx⟩; have Hby := hid (by first | exact Hbx.out.trans (hbx.mono Hbx.out.size) | exact (Hbx.out.alloc Hbx.out.size (.cells #[.int .i64 0, .int .u8 0, .string ⟨#[]⟩] 23)).trans (hbx.mono (Nat.le_trans Hbx.out.size (by simp))) : Below wr.heap.size wr w3); have m0 := above Hby.out q0; have m1 := above Hby.out q1; have m2 := above Hby.out q2; (try (obtain ⟨n0, n1, n2, fn0, fn1, fn2⟩ := three _ _ _ _ (above_row hbx (row3 w2 23 (.int .i64 0) (.int .u8 0) (.string ⟨#[]⟩) (fun j => if j = 0 then .int .i64 0 else if j = 1 then .int .u8 0 else .string ⟨#[]⟩) rfl rfl rfl)); simp at n0 n1 n2)); (try (obtain ⟨n0, n1, n2, fn0, fn1, fn2⟩ := three _ _ _ _ (above_row hbx HrZ.out); simp at n0 n1 n2))))
        all_goals
          have X3 := above_row Hby.out HX2.out
          have L3 := above_row Hby.out HL2.out
          have E3 := errType_above Hgr.out Hby.out
          have B3 := HB.out.trans (Hby.out.mono HB.out.size)
          have hwr := HB.out.size
          have hw2 := Hbx.out.size
          go_wp2_with fail
          go_meet
          first
            | exact ⟨w3.heap.size, rfl, rfl, row3 w3 23 _ _ _ (fun j => if j = 0 then .int .i64 x0 else if j = 1 then .int .u8 x1 else .string xs) rfl rfl rfl, X3.alloc _, L3.alloc _, errType_alloc E3 _, B3.alloc B3.size _⟩
            | exact ⟨w2.heap.size, rfl, rfl, set3 (above_row hbx (row3 w2 23 (.int .i64 0) (.int .u8 0) (.string ⟨#[]⟩) (fun j => if j = 0 then .int .i64 0 else if j = 1 then .int .u8 0 else .string ⟨#[]⟩) rfl rfl rfl)) _ _ _ (fun j => if j = 0 then .int .i64 x0 else if j = 1 then .int .u8 x1 else .string xs) rfl rfl rfl, other3 X3 (by omega) _ _ _, other3 L3 (by omega) _ _ _, err3 E3 (by omega) _ _ _, below3 B3 (by omega) _ _ _⟩
            | exact ⟨wr.heap.size, rfl, rfl, set3 (above_row hbx HrZ.out) _ _ _ (fun j => if j = 0 then .int .i64 x0 else if j = 1 then .int .u8 x1 else .string xs) rfl rfl rfl, other3 X3 (by omega) _ _ _, other3 L3 (by omega) _ _ _, err3 E3 (by omega) _ _ _, below3 B3 (by omega) _ _ _⟩
      case rest =>
        obtain ⟨gx, rfl, rfl, rT, rX, rL, hgr, hB⟩ := hcut
        obtain ⟨x0', x1', x2', -, -, -⟩ := three _ _ _ _ rX
        obtain ⟨t0, t1, t2, -, -, -⟩ := three _ _ _ _ rT
        obtain ⟨l0, l1, l2, -, -, -⟩ := three _ _ _ _ rL
        simp at x0' x1' x2' t0 t1 t2
        have Hgr := hid hgr
        have HB := hid hB
        clear rX rT rL hgr hB
        rcases Hv.out with ⟨h0, rfl, rfl, h3, rfl⟩ | ⟨h0, v, rfl⟩ | ⟨h0, rfl, rfl, rfl, rfl, f0, f1, f2⟩
        · have hq2 := eq_slot_yes x0 x1 xs s h3
          have ht0 : ((turns : Int) == 0) = true := by rw [h0]; rfl
          clear l0 l1 l2 Hv h0 h3
          go_wp2_with fail
          refine (alive_any _ Hgr.out).mono ?_
          rintro e w4 ⟨rfl, hbx⟩
          have Hb4 := hid (HB.out.trans (hbx.mono HB.out.size))
          clear hbx
          go_wp2
          go_ret
          exact ⟨rfl, Hb4.out⟩
        · have ht0 : ((turns : Int) == 0) = false := by rw [beq_eq_false_iff_ne]; omega
          clear l0 l1 l2 Hv h0
          go_wp2_with fail
          refine (alive_any _ Hgr.out).mono ?_
          rintro e w4 ⟨rfl, hbx⟩
          have Hb4 := hid (HB.out.trans (hbx.mono HB.out.size))
          clear hbx
          go_wp2
          go_ret
          exact ⟨rfl, Hb4.out⟩
        · have ht0 : ((turns : Int) == 0) = false := by rw [beq_eq_false_iff_ne]; omega
          simp only at f0 f1 f2
          rw [f0] at l0
          rw [f1] at l1
          rw [f2] at l2
          clear Hv h0 f0 f1 f2
          go_wp2_with fail
          refine (alive_any _ Hgr.out).mono ?_
          rintro e w4 ⟨rfl, hbx⟩
          have Hb4 := hid (HB.out.trans (hbx.mono HB.out.size))
          clear hbx
          go_wp2
          go_ret
          exact ⟨rfl, Hb4.out⟩
end Go.Proofs.YtejapeafepcacaaDoor
