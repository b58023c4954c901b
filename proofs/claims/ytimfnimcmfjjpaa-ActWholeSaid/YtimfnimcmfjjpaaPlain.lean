/- Plain mathematics for the statements on package act: bytes in words, and the checksum as a linear map. No program is in sight here. -/
namespace Go.Proofs.Ytimfnimcmfjjpaa

/-! ### bytes in words -/
def leW : List UInt8 → Nat
  | [] => 0
  | b :: r => b.toNat + 256 * leW r
theorem leW_lt : ∀ l : List UInt8, leW l < 256 ^ l.length
  | [] => by simp [leW]
  | b :: r => by
    have h := leW_lt r
    have hb := b.toNat_lt
    simp only [leW, List.length_cons, Nat.pow_succ]
    omega
theorem leW_append : ∀ a b : List UInt8, leW (a ++ b) = leW a + 256 ^ a.length * leW b
  | [], b => by simp [leW]
  | x :: r, b => by
    have h := leW_append r b
    simp only [List.cons_append, leW, h, List.length_cons, Nat.pow_succ, Nat.mul_add]
    have : 256 * (256 ^ r.length * leW b) = 256 ^ r.length * 256 * leW b := by
      rw [← Nat.mul_assoc, Nat.mul_comm 256 (256 ^ r.length)]
    omega
theorem pow256 (n : Nat) : 256 ^ n = 2 ^ (8 * n) := by rw [Nat.pow_mul]

/-- The word j of the first k bytes of s. -/
def wpack (s : List UInt8) (k j : Nat) : Nat := leW (((s.take k).drop (8 * j)).take 8)
theorem wpack_lt (s : List UInt8) (k j : Nat) : wpack s k j < 18446744073709551616 := by
  have h := leW_lt (((s.take k).drop (8 * j)).take 8)
  have hl : (((s.take k).drop (8 * j)).take 8).length ≤ 8 := List.length_take_le _ _
  exact Nat.lt_of_lt_of_le h (Nat.le_trans (Nat.pow_le_pow_right (by omega) hl) (by decide))
theorem wpack_room (s : List UInt8) (k : Nat) (hk : k ≤ s.length) : wpack s k (k / 8) < 2 ^ (8 * (k % 8)) := by
  have h := leW_lt (((s.take k).drop (8 * (k / 8))).take 8)
  have hl : (((s.take k).drop (8 * (k / 8))).take 8).length = k % 8 := by
    simp only [List.length_take, List.length_drop]; omega
  rw [hl, pow256] at h
  exact h
theorem wpack_step (s : List UInt8) (k j : Nat) (hk : k < s.length) :
    wpack s (k + 1) j = if j = k / 8 then wpack s k j + s[k].toNat * 2 ^ (8 * (k % 8)) else wpack s k j := by
  have ht : s.take (k + 1) = s.take k ++ [s[k]] := by rw [List.take_succ_eq_append_getElem hk]
  have hl : (s.take k).length = k := by rw [List.length_take]; omega
  unfold wpack
  rw [ht, List.drop_append, hl]
  by_cases h1 : 8 * j ≤ k
  · rw [show 8 * j - k = 0 by omega, List.drop_zero, List.take_append]
    have hd : ((s.take k).drop (8 * j)).length = k - 8 * j := by rw [List.length_drop, hl]
    rw [hd]
    by_cases h2 : j = k / 8
    · rw [if_pos h2, leW_append]
      have h3 : (((s.take k).drop (8 * j)).take 8).length = k % 8 := by rw [List.length_take, hd]; omega
      rw [h3, show 8 - (k - 8 * j) = (7 - (k - 8 * j)) + 1 by omega, List.take_succ_cons]
      simp only [List.take_nil, leW, pow256]
      rw [Nat.mul_comm (2 ^ (8 * (k % 8)))]
      simp
    · rw [if_neg h2, show 8 - (k - 8 * j) = 0 by omega, List.take_zero, List.append_nil]
  · rw [if_neg (by omega)]
    have e1 : (s.take k).drop (8 * j) = [] := List.drop_eq_nil_of_le (by omega)
    have e2 : ([s[k]] : List UInt8).drop (8 * j - k) = [] := List.drop_eq_nil_of_le (by simp; omega)
    rw [e1, e2]
    rfl
theorem wpack_zero (s : List UInt8) (j : Nat) : wpack s 0 j = 0 := by simp [wpack, leW]

/-- A text's words. -/
def packW (s : List UInt8) : List Nat := (List.range ((s.length + 7) / 8)).map (wpack s s.length)

/-- The byte k of words; the first n of them. -/
def textB (f : Nat → Nat) (k : Nat) : UInt8 := UInt8.ofNat (f (k / 8) / 2 ^ (8 * (k % 8)))
def textW (f : Nat → Nat) (n : Nat) : List UInt8 := (List.range n).map (textB f)
theorem textW_length (f : Nat → Nat) (n : Nat) : (textW f n).length = n := by simp [textW]
theorem textW_get (f : Nat → Nat) (n k : Nat) (h : k < (textW f n).length) : (textW f n)[k] = textB f k := by simp [textW]

/-! ### the checksum -/
def crcStep (x : Nat) : Nat := (x / 2) ^^^ (if x % 2 = 1 then 3988292384 else 0)
theorem crcStep_lt {x : Nat} (h : x < 4294967296) : crcStep x < 4294967296 := by
  unfold crcStep
  exact Nat.xor_lt_two_pow (n := 32) (by omega) (by split <;> omega)
def crcIter : Nat → Nat → Nat
  | 0, x => x
  | k + 1, x => crcStep (crcIter k x)
theorem crcIter_lt {x : Nat} (h : x < 4294967296) : ∀ k, crcIter k x < 4294967296
  | 0 => h
  | k + 1 => crcStep_lt (crcIter_lt h k)
def crcL (c : Nat) (l : List UInt8) : Nat := l.foldl (fun c b => crcIter 8 (c ^^^ b.toNat)) c
theorem crcL_lt (l : List UInt8) : ∀ {c : Nat}, c < 4294967296 → crcL c l < 4294967296 := by
  induction l with
  | nil => intro c h; exact h
  | cons b r ih =>
    intro c h
    have hb := b.toNat_lt
    exact ih (crcIter_lt (Nat.xor_lt_two_pow (n := 32) (by omega) (by omega)) 8)
theorem crcL_append (c : Nat) (a b : List UInt8) : crcL c (a ++ b) = crcL (crcL c a) b := by simp [crcL, List.foldl_append]
def crcOf (l : List UInt8) : Nat := 4294967295 - crcL 4294967295 l
theorem crcOf_lt (l : List UInt8) : crcOf l < 4294967296 := by unfold crcOf; omega

theorem xor_div2 (a b : Nat) : (a ^^^ b) / 2 = a / 2 ^^^ b / 2 := by
  apply Nat.eq_of_testBit_eq; intro i
  simp only [Nat.testBit_div_two, Nat.testBit_xor]
theorem xor_mod2 (a b : Nat) : (a ^^^ b) % 2 = (a % 2 + b % 2) % 2 := by
  have h := Nat.xor_mod_two_pow (a := a) (b := b) (n := 1)
  rw [show (2 : Nat) ^ 1 = 2 from rfl] at h
  rw [h]
  rcases Nat.mod_two_eq_zero_or_one a with ha | ha <;> rcases Nat.mod_two_eq_zero_or_one b with hb | hb <;> simp [ha, hb]
theorem xor_swap (a b c d : Nat) : (a ^^^ b) ^^^ (c ^^^ d) = (a ^^^ c) ^^^ (b ^^^ d) := by
  rw [Nat.xor_assoc, Nat.xor_assoc, ← Nat.xor_assoc b c d, Nat.xor_comm b c, Nat.xor_assoc c b d]
theorem crcStep_xor (a b : Nat) : crcStep (a ^^^ b) = crcStep a ^^^ crcStep b := by
  unfold crcStep
  rw [xor_div2, xor_swap]
  congr 1
  have h := xor_mod2 a b
  rcases Nat.mod_two_eq_zero_or_one a with ha | ha <;> rcases Nat.mod_two_eq_zero_or_one b with hb | hb <;> simp [h, ha, hb]
theorem crcIter_xor (a b : Nat) : ∀ n, crcIter n (a ^^^ b) = crcIter n a ^^^ crcIter n b
  | 0 => rfl
  | n + 1 => by simp only [crcIter, crcIter_xor a b n, crcStep_xor]
theorem crcStep_even (y : Nat) : crcStep (2 * y) = y := by
  unfold crcStep
  rw [if_neg (by omega), Nat.xor_zero]; omega
theorem crcIter_add (m x : Nat) : ∀ n, crcIter (n + m) x = crcIter n (crcIter m x)
  | 0 => by rw [Nat.zero_add]; rfl
  | n + 1 => by rw [show n + 1 + m = (n + m) + 1 by omega]; simp only [crcIter, crcIter_add m x n]
theorem crcIter_succ' (n x : Nat) : crcIter (n + 1) x = crcIter n (crcStep x) := by rw [crcIter_add]; rfl
theorem crcIter_shift (y : Nat) : ∀ n, crcIter n (2 ^ n * y) = y
  | 0 => by simp [crcIter]
  | n + 1 => by
    rw [crcIter_succ', show 2 ^ (n + 1) * y = 2 * (2 ^ n * y) by rw [Nat.pow_succ, Nat.mul_comm (2 ^ n) 2, Nat.mul_assoc], crcStep_even, crcIter_shift y n]
theorem xor_zero {x y : Nat} (h : x ^^^ y = 0) : x = y := by
  have e : (x ^^^ y) ^^^ y = x := by rw [Nat.xor_assoc, Nat.xor_self, Nat.xor_zero]
  rw [← e, h, Nat.zero_xor]
theorem crcStep_zero {x : Nat} (h : x < 4294967296) (h0 : crcStep x = 0) : x = 0 := by
  unfold crcStep at h0
  have he := xor_zero h0
  split at he <;> omega
theorem crcIter_zero {x : Nat} (h : x < 4294967296) : ∀ n, crcIter n x = 0 → x = 0
  | 0 => fun h0 => h0
  | n + 1 => fun h0 => crcIter_zero h n (crcStep_zero (crcIter_lt h n) h0)
theorem add_xor (x y n : Nat) (h : x < 2 ^ n) : x + 2 ^ n * y = x ^^^ (2 ^ n * y) := by
  have e : x ^^^ (2 ^ n * y) = x + 2 ^ n * y := by
    apply Nat.eq_of_testBit_eq; intro i
    rw [Nat.add_comm, Nat.testBit_two_pow_mul_add _ h, Nat.testBit_xor, Nat.testBit_two_pow_mul]
    by_cases hi : i < n
    · rw [if_pos hi, decide_eq_false (by omega), Bool.false_and, Bool.xor_false]
    · rw [if_neg hi, Nat.testBit_lt_two_pow (Nat.lt_of_lt_of_le h (Nat.pow_le_pow_right (by omega) (by omega)))]
      simp [Nat.not_lt.1 hi]
  exact e.symm
/-- The checksum of bytes from c on, as one shift of the whole number. -/
theorem crcL_iter : ∀ (l : List UInt8) (c : Nat), crcL c l = crcIter (8 * l.length) (c ^^^ leW l)
  | [], c => by simp [crcL, leW, crcIter]
  | b :: r, c => by
    have h := crcL_iter r (crcIter 8 (c ^^^ b.toNat))
    have hb := b.toNat_lt
    show crcL (crcIter 8 (c ^^^ b.toNat)) r = _
    rw [h, leW, show (256 : Nat) = 2 ^ 8 from rfl, add_xor b.toNat (leW r) 8 (by omega), ← Nat.xor_assoc, List.length_cons,
      show 8 * (r.length + 1) = 8 * r.length + 8 by omega, crcIter_add, crcIter_xor (c ^^^ b.toNat) _ 8, crcIter_shift]
theorem not32 (x : Nat) (h : x < 4294967296) : 4294967295 - x = 4294967295 ^^^ x := by
  have h1 : ~~~(BitVec.ofNat 32 x) = BitVec.allOnes 32 ^^^ BitVec.ofNat 32 x := by
    rw [BitVec.allOnes_xor]
  have h2 := congrArg BitVec.toNat h1
  simp only [BitVec.toNat_not, BitVec.toNat_xor, BitVec.toNat_ofNat, BitVec.toNat_allOnes] at h2
  rw [Nat.mod_eq_of_lt (by omega)] at h2
  exact h2
end Go.Proofs.Ytimfnimcmfjjpaa
