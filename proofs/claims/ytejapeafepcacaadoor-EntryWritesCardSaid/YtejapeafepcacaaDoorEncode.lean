/- Walks of entry.Encode, entry.Head and the closure of entry.Decode. -/
import Derived.Test.YtejapeafepcacaaDoorWrite
namespace Go.Proofs.YtejapeafepcacaaDoor
open Go.RowKit
theorem empty_of (s : ByteArray) (h : s.data.toList = []) : s = ⟨#[]⟩ := by
  cases s with
  | mk d =>
    cases d with
    | mk l => simp at h; rw [h]
theorem slotB_cases {ino kind i : Int} {l : List UInt8} (h : slotB ino kind l i = true) :
    (ino = 0 ∧ kind = 0 ∧ l = []) ∨ (1 ≤ ino ∧ ino ≤ i ∧ 1 ≤ kind ∧ kind ≤ 3 ∧ namedB l = true) := by
  simpa [slotB, and_assoc] using h
theorem namedB_len {l : List UInt8} (h : namedB l = true) : 1 ≤ l.length ∧ l.length ≤ 16 := by
  simp [namedB, and_assoc] at h
  omega
def wordsF (ino kind : Int) (l : List UInt8) (j : Nat) : Nat := if ino = 0 then 0 else writeF ino.toNat kind.toNat l j
theorem write_slot (ino kind i : Int) (s : ByteArray) (w : World) (hi : i ≤ 64) (h : slotB ino kind s.data.toList i = true) :
    Calls Tryd.prog 27 #[.agg #[.int .i64 ino, .int .u8 kind, .string s]] w fun e w' => e = .returned (.agg #[.int .u64 (wordsF ino kind s.data.toList 0 : Nat), .int .u64 (wordsF ino kind s.data.toList 1 : Nat), .int .u64 (wordsF ino kind s.data.toList 2 : Nat)]) ∧ Below w.heap.size w w' := by
  rcases slotB_cases h with ⟨rfl, rfl, hl⟩ | ⟨h1, h2, h3, h4, h5⟩
  · obtain rfl := empty_of s hl
    exact write_zero w
  · obtain ⟨h6, h7⟩ := namedB_len h5
    obtain ⟨n, rfl⟩ := Int.eq_ofNat_of_zero_le (show 0 ≤ ino by omega)
    obtain ⟨k, rfl⟩ := Int.eq_ofNat_of_zero_le (show 0 ≤ kind by omega)
    unfold wordsF
    rw [if_neg (by omega), if_neg (by omega), if_neg (by omega)]
    exact write_any n k s w (by omega) (by omega) (by omega) h6 h7
set_option maxHeartbeats 400000 in
set_option maxRecDepth 100000 in
theorem encode_no (ino kind p i b : Int) (s : ByteArray) (w : World) (h : mayB ino kind s.data.toList p i b = false) :
    Calls Tryd.prog 9 #[.agg #[.int .i64 ino, .int .u8 kind, .string s], .agg #[.int .i64 p, .int .i64 i, .int .i64 b]] w fun e w' => e = .returned (.tuple #[.slice none 0 0, .int .i64 2]) ∧ Below w.heap.size w w' := by
  have hm := may_any ino kind p i b s
  rw [h] at hm
  have H := hid hm
  clear hm h
  go_enter Tryd.func9, Tryd.ntmps9
  go_wp2_with fail
  refine (H.out _).mono ?_
  rintro e w1 ⟨rfl, hb⟩
  have Hb := hid ((((Below.refl _ _).alloc (Nat.le_refl _) _).alloc (by simp) _).trans (hb.mono (by simp; omega)))
  clear hb
  go_wp2
  go_ret2
  exact ⟨rfl, Hb.out⟩
set_option maxHeartbeats 400000 in
set_option maxRecDepth 100000 in
theorem encode_yes (ino kind p i b : Int) (s : ByteArray) (w : World) (h : mayB ino kind s.data.toList p i b = true) :
    Calls Tryd.prog 9 #[.agg #[.int .i64 ino, .int .u8 kind, .string s], .agg #[.int .i64 p, .int .i64 i, .int .i64 b]] w fun e w' => ∃ g, e = .returned (.tuple #[.slice (some ⟨g, 0, none⟩) 3 3, .int .i64 0]) ∧ w.heap.size ≤ g ∧ w'.rowIs g 67 3 (fun j => .int .u64 (wordsF ino kind s.data.toList j : Nat)) ∧ Below w.heap.size w w' := by
  have hm := may_any ino kind p i b s
  rw [h] at hm
  have hs : gok p i b = true ∧ slotB ino kind s.data.toList i = true := by simpa [mayB] using h
  have hw := fun W => write_slot ino kind i s W (gok_iff.1 hs.1).2.2.2.1 hs.2
  have H := hid hm
  have Hw := hid hw
  clear hm h hs hw
  go_enter Tryd.func9, Tryd.ntmps9
  go_wp2_with fail
  refine (H.out _).mono ?_
  rintro e w1 ⟨rfl, hb⟩
  have Hb := hid ((((Below.refl _ _).alloc (Nat.le_refl _) _).alloc (by simp) _).trans (hb.mono (by simp; omega)))
  obtain ⟨hc, hf⟩ := bcell hb
  go_wp2_with fail
  refine (Hw.out _).mono ?_
  rintro e w2 ⟨rfl, hb2⟩
  have Hc := hid (Hb.out.trans (hb2.mono (by have := Hb.out.size; omega)))
  clear hb hb2 Hb hc hf
  go_wp2
  go_ret2
  exact ⟨_, rfl, Hc.out.size, row3 _ _ _ _ _ _ rfl rfl rfl, Hc.out.alloc Hc.out.size _⟩
set_option maxHeartbeats 400000 in
set_option maxRecDepth 100000 in
theorem head_no (n p i b : Int) (w : World) (h : (gok p i b && decide (0 ≤ n) && decide (n ≤ b)) = false) :
    Calls Tryd.prog 13 #[.int .i64 n, .agg #[.int .i64 p, .int .i64 i, .int .i64 b]] w fun e w' => e = .returned (.tuple #[.int .u64 0, .int .i64 2]) ∧ Below w.heap.size w w' := by
  cases hg : gok p i b
  · have H := hid hg
    clear hg h
    go_enter Tryd.func13, Tryd.ntmps13
    go_wp2_with (go_at_call 28; refine (check_no _ _ _ _ H.out).mono ?_; rintro e w1 ⟨rfl, hb⟩)
    go_ret2
    exact ⟨rfl, ((Below.refl _ _).alloc (Nat.le_refl _) _).trans (hb.mono (by simp))⟩
  · rw [hg] at h
    have h' : ¬ (0 ≤ n ∧ n ≤ b) := by simpa using h
    have H := hid hg
    clear hg h
    go_enter Tryd.func13, Tryd.ntmps13
    go_wp2_with fail
    refine (check_yes _ _ _ _ H.out).mono ?_
    rintro e w1 ⟨rfl, hb⟩
    obtain ⟨hc, hf⟩ := bcell hb
    have Hb := hid (((Below.refl _ _).alloc (Nat.le_refl _) _).trans (hb.mono (by simp)))
    go_wp2
    all_goals first
      | (go_ret2; exact ⟨rfl, Hb.out⟩)
      | (exfalso; omega)
theorem head_bits (n : Int) (h0 : 0 ≤ n) (h1 : n ≤ 255) : bits BinOp.or IntKind.u64 n 4920554438285852672 = ((n.toNat + 4294967296 * 1145655857 : Nat) : Int) := by
  obtain ⟨k, rfl⟩ := Int.eq_ofNat_of_zero_le h0
  rw [show (4920554438285852672 : Int) = ((4920554438285852672 : Nat) : Int) from rfl, u64_or_nat _ _ (by omega) (by omega), Nat.or_comm, nat_join 32 _ _ (by omega) (by omega)]
  omega
set_option maxHeartbeats 400000 in
set_option maxRecDepth 100000 in
theorem head_yes (n p i b : Int) (w : World) (h : (gok p i b && decide (0 ≤ n) && decide (n ≤ b)) = true) :
    Calls Tryd.prog 13 #[.int .i64 n, .agg #[.int .i64 p, .int .i64 i, .int .i64 b]] w fun e w' => e = .returned (.tuple #[.int .u64 (n.toNat + 4294967296 * 1145655857 : Nat), .int .i64 0]) ∧ Below w.heap.size w w' := by
  have h' : gok p i b = true ∧ 0 ≤ n ∧ n ≤ b := by simpa [and_assoc] using h
  obtain ⟨hg, h0, h1⟩ := h'
  have hb255 := (gok_iff.1 hg).2.2.2.2.2
  have hbt := head_bits n h0 (by omega)
  have H := hid hg
  clear hg h
  go_enter Tryd.func13, Tryd.ntmps13
  go_wp2_with fail
  refine (check_yes _ _ _ _ H.out).mono ?_
  rintro e w1 ⟨rfl, hb⟩
  obtain ⟨hc, hf⟩ := bcell hb
  have Hb := hid (((Below.refl _ _).alloc (Nat.le_refl _) _).trans (hb.mono (by simp)))
  go_wp2
  go_ret2
  exact ⟨by simp, Hb.out⟩
theorem field_bits (x a : Nat) (hx : x < 18446744073709551616) : bits BinOp.and IntKind.u64 ((x : Int) / 2 ^ a) 255 = ((x / 2 ^ a % 256 : Nat) : Int) := by
  have e : ((x : Int) / 2 ^ a) = ((x / 2 ^ a : Nat) : Int) := by push_cast; rfl
  have hl : x / 2 ^ a ≤ x := Nat.div_le_self _ _
  rw [e, show (255 : Int) = ((255 : Nat) : Int) from rfl, u64_and_nat _ _ (by omega) (by omega), nat_mask8]
theorem add_lit (ad : Addr) (k : Nat) (h : k ≠ 0) : ad.add k = ⟨ad.block, ad.off + k, none⟩ := by unfold Addr.add; rw [if_neg h]
set_option maxHeartbeats 400000 in
set_option maxRecDepth 100000 in
theorem field_any (at_ d : Nat) (z : Int) (hz : z = at_) (hd : 2 ^ at_ = d) (pl ad : Addr) (cap x : Nat) (w : World) (hat : at_ < 64) (hx : x < 18446744073709551616) (h1 : w.cell? pl = some (.slice (some ad) 3 cap)) (h2 : w.cell? (ad.add 2) = some (.int .u64 (x : Int))) :
    Calls Tryd.prog 29 #[.int .i64 z, .pointer (some pl)] w fun e w' => e = .returned (.int .i64 (x / d % 256 : Nat)) ∧ w = w' := by
  subst hz hd
  rw [add_lit ad 2 (by omega)] at h2
  have hfb := field_bits x at_ hx
  have hm : x / 2 ^ at_ % 256 < 256 := Nat.mod_lt _ (by omega)
  go_enter Tryd.func29, Tryd.ntmps29
  go_wp2
  go_ret
  exact ⟨rfl, rfl⟩
end Go.Proofs.YtejapeafepcacaaDoor
