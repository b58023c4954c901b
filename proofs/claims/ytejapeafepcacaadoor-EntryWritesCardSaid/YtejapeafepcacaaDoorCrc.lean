/- The checksum finds what is turned in 32 bits in a row; a slot's words are read as itself. No walk is in here. -/
import Derived.Test.YtejapeafepcacaaDoorSlot
namespace Go.Proofs.YtejapeafepcacaaDoor
/-! ### bytes of numbers -/
theorem mod_div_mod (x a r m : Nat) (h : r + m ≤ a) : x % 2 ^ a / 2 ^ r % 2 ^ m = x / 2 ^ r % 2 ^ m := by
  apply Nat.eq_of_testBit_eq; intro i
  simp only [Nat.testBit_mod_two_pow, Nat.testBit_div_two_pow]
  by_cases hi : i < m
  · simp [hi, show i + r < a by omega]
  · simp [hi]
theorem leW_digits (G : Nat) : ∀ n, leW ((List.range n).map fun k => UInt8.ofNat (G / 256 ^ k)) = G % 256 ^ n
  | 0 => by simp [leW, Nat.mod_one]
  | n + 1 => by
    rw [List.range_succ, List.map_append, leW_append, leW_digits G n, Nat.mod_pow_succ]
    simp [leW]
def cwN (f : Nat → Nat) : Nat := f 0 + 18446744073709551616 * f 1 + 340282366920938463463374607431768211456 * f 2
def wordN (N j : Nat) : Nat := N / 2 ^ (64 * j) % 2 ^ 64
theorem wordN_lt (N j : Nat) : wordN N j < 18446744073709551616 := Nat.mod_lt _ (by decide)
theorem wordN_cwN (f : Nat → Nat) (hf : ∀ k, f k < 18446744073709551616) (j : Nat) (hj : j < 3) : wordN (cwN f) j = f j := by
  have h0 := hf 0
  have h1 := hf 1
  have h2 := hf 2
  unfold wordN cwN
  match j, hj with
  | 0, _ => simp only [Nat.mul_zero, Nat.pow_zero, Nat.div_one, show (2 : Nat) ^ 64 = 18446744073709551616 from rfl]; omega
  | 1, _ => simp only [Nat.mul_one, show (2 : Nat) ^ 64 = 18446744073709551616 from rfl]; omega
  | 2, _ => simp only [show 64 * 2 = 128 from rfl, show (2 : Nat) ^ 128 = 340282366920938463463374607431768211456 from rfl, show (2 : Nat) ^ 64 = 18446744073709551616 from rfl]; omega
theorem textB_word (N k : Nat) : textB (wordN N) k = UInt8.ofNat (N / 256 ^ k) := by
  unfold textB wordN
  have h : N / 2 ^ (64 * (k / 8)) % 2 ^ 64 / 2 ^ (8 * (k % 8)) % 2 ^ 8 = N / 256 ^ k % 2 ^ 8 := by
    rw [mod_div_mod _ _ _ _ (by omega), Nat.div_div_eq_div_mul, ← Nat.pow_add, pow256, show 64 * (k / 8) + 8 * (k % 8) = 8 * k by omega]
  apply UInt8.toNat_inj.1
  simpa using h
theorem leW_words (N n : Nat) : leW (textW (wordN N) n) = N % 256 ^ n := by
  have e : textW (wordN N) n = (List.range n).map fun k => UInt8.ofNat (N / 256 ^ k) := by
    unfold textW
    exact List.map_congr_left fun k _ => textB_word N k
  rw [e, leW_digits]
theorem textW_congr (f g : Nat → Nat) (n : Nat) (h : ∀ j, j < (n + 7) / 8 → f j = g j) : textW f n = textW g n := by
  unfold textW
  refine List.map_congr_left fun k hk => ?_
  rw [List.mem_range] at hk
  unfold textB
  rw [h (k / 8) (by omega)]
theorem leW_get : ∀ (l : List UInt8) (r : Nat) (h : r < l.length), leW l / 256 ^ r % 256 = l[r].toNat
  | b :: l, 0, _ => by
    have := b.toNat_lt
    simp only [leW, Nat.pow_zero, Nat.div_one, List.getElem_cons_zero]; omega
  | b :: l, r + 1, h => by
    have hb := b.toNat_lt
    have ih := leW_get l r (by simpa using h)
    simp only [leW, List.getElem_cons_succ]
    rw [Nat.pow_succ, Nat.mul_comm (256 ^ r) 256, ← Nat.div_div_eq_div_mul, show (b.toNat + 256 * leW l) / 256 = leW l by omega]
    exact ih
/-- What was packed is read again. -/
theorem textW_wpack (l : List UInt8) : textW (wpack l l.length) l.length = l := by
  apply List.ext_getElem (textW_length _ _)
  intro k h1 h2
  rw [textW_get]
  unfold textB wpack
  apply UInt8.toNat_inj.1
  have hlen : ((((l.take l.length).drop (8 * (k / 8))).take 8)).length = min 8 (l.length - 8 * (k / 8)) := by simp [List.length_take, List.length_drop]
  have := leW_get (((l.take l.length).drop (8 * (k / 8))).take 8) (k % 8) (by rw [hlen]; omega)
  rw [pow256] at this
  simp only [UInt8.toNat_ofNat', show (2 : Nat) ^ 8 = 256 from rfl, this]
  congr 1
  rw [List.getElem_take, List.getElem_drop, List.getElem_take]
  congr 1
  omega
/-! ### code words -/
def codeW (N : Nat) : Prop := crcIter 160 (4294967295 ^^^ N) = 4294967295
theorem xor_self_cancel (a b : Nat) : a ^^^ (b ^^^ a) = b := by rw [Nat.xor_comm b a, ← Nat.xor_assoc, Nat.xor_self, Nat.zero_xor]
theorem code_of (A : Nat) (l : List UInt8) (hl : l.length = 20) (h : leW l = A) (hA : A < 2 ^ 160) : codeW (A + 2 ^ 160 * crcOf l) := by
  unfold codeW
  have hX : crcL 4294967295 l < 4294967296 := crcL_lt l (by omega)
  have e : crcL 4294967295 l = crcIter 160 (4294967295 ^^^ A) := by rw [crcL_iter, hl, h]
  rw [add_xor A (crcOf l) 160 hA, ← Nat.xor_assoc, crcIter_xor, crcIter_shift, ← e]
  unfold crcOf
  rw [not32 _ hX, xor_self_cancel]
theorem code_write (ino kind : Nat) (l : List UInt8) (h1 : ino ≤ 64) (h2 : kind ≤ 3) (h3 : l.length ≤ 16) : codeW (cwN (writeF ino kind l)) := by
  have hlo : slotLo ino kind l < 16777216 := by unfold slotLo; omega
  have ha : ∀ k, aheadF ino kind l k < 18446744073709551616 := fun k => by
    unfold aheadF; split
    · omega
    · exact wpack_lt _ _ _
  have e1 : cwN (writeF ino kind l) = cwN (aheadF ino kind l) + 2 ^ 160 * crcOf (textW (aheadF ino kind l) 20) := by
    unfold cwN
    simp only [writeF, aheadF, if_true, show ¬ (0 : Nat) = 2 by omega, show ¬ (1 : Nat) = 2 by omega, if_false, show (2 : Nat) ^ 160 = 1461501637330902918203684832716283019655932542976 from rfl]
    omega
  have hA : cwN (aheadF ino kind l) < 2 ^ 160 := by
    have a0 := ha 0
    have a1 := ha 1
    unfold cwN
    simp only [aheadF, if_true, show (2 : Nat) ^ 160 = 1461501637330902918203684832716283019655932542976 from rfl] at a0 a1 ⊢
    omega
  rw [e1]
  refine code_of _ _ (textW_length _ _) ?_ hA
  have e2 : textW (aheadF ino kind l) 20 = textW (wordN (cwN (aheadF ino kind l))) 20 := textW_congr _ _ _ fun j hj => (wordN_cwN _ ha j (by omega)).symm
  rw [e2, leW_words, Nat.mod_eq_of_lt (by rw [pow256]; exact hA)]
theorem xor_mid (F N E : Nat) : F ^^^ (N ^^^ E) = (F ^^^ N) ^^^ E := (Nat.xor_assoc _ _ _).symm
/-- No two code words part in some of 32 bits in a row. -/
theorem burst (N k t : Nat) (hk : k ≤ 160) (ht : t < 4294967296) (h1 : codeW N) (h2 : codeW (N ^^^ t * 2 ^ k)) : t = 0 := by
  unfold codeW at h1 h2
  rw [xor_mid, crcIter_xor, h1] at h2
  have h3 : crcIter 160 (t * 2 ^ k) = 0 := by
    have := congrArg (fun x => 4294967295 ^^^ x) h2
    simp only [← Nat.xor_assoc, Nat.xor_self, Nat.zero_xor] at this
    exact this
  rw [show 160 = (160 - k) + k by omega, crcIter_add, Nat.mul_comm, crcIter_shift] at h3
  exact crcIter_zero ht _ h3
theorem wordsF_lt' (ino kind : Int) (l : List UInt8) (k : Nat) (h1 : ino ≤ 64) (h2 : kind ≤ 255) (hl : l.length ≤ 16) : wordsF ino kind l k < 18446744073709551616 := by
  unfold wordsF writeF
  split
  · omega
  · split
    · have := crcOf_lt (textW (aheadF ino.toNat kind.toNat l) 20)
      unfold slotLo
      omega
    · exact wpack_lt _ _ _
/-! ### turning bits one by one -/
def turnN (N k t n : Nat) : Nat := N ^^^ (t % 2 ^ n) * 2 ^ k
theorem mul_pow_xor (a b k : Nat) : (a ^^^ b) * 2 ^ k = a * 2 ^ k ^^^ b * 2 ^ k := by
  apply Nat.eq_of_testBit_eq; intro i
  simp only [Nat.testBit_xor, Nat.testBit_mul_two_pow]
  cases decide (k ≤ i) <;> simp
theorem turn_clear (N k t n : Nat) (h : t / 2 ^ n % 2 = 0) : turnN N k t (n + 1) = turnN N k t n := by
  unfold turnN
  rw [Nat.mod_pow_succ, h, Nat.mul_zero, Nat.add_zero]
theorem turn_set (N k t n : Nat) (h : t / 2 ^ n % 2 = 1) : turnN N k t (n + 1) = turnN N k t n ^^^ 2 ^ (k + n) := by
  unfold turnN
  rw [Nat.mod_pow_succ, h, add_xor _ _ _ (Nat.mod_lt _ (Nat.two_pow_pos n)), mul_pow_xor, Nat.mul_one, ← Nat.pow_add, Nat.add_comm n k, Nat.xor_assoc]
theorem wordN_xor (M p j : Nat) : wordN (M ^^^ 2 ^ p) j = if j = p / 64 then wordN M j ^^^ 2 ^ (p % 64) else wordN M j := by
  unfold wordN
  by_cases h : j = p / 64
  · rw [if_pos h]
    apply Nat.eq_of_testBit_eq; intro i
    simp only [Nat.testBit_mod_two_pow, Nat.testBit_div_two_pow, Nat.testBit_xor, Nat.testBit_two_pow]
    by_cases hi : i < 64
    · simp only [hi, decide_true, Bool.true_and]
      congr 1
      rw [decide_eq_decide]; omega
    · have : ¬ p % 64 = i := by omega
      simp [hi, this]
  · rw [if_neg h]
    apply Nat.eq_of_testBit_eq; intro i
    simp only [Nat.testBit_mod_two_pow, Nat.testBit_div_two_pow, Nat.testBit_xor, Nat.testBit_two_pow]
    by_cases hi : i < 64
    · have : ¬ p = i + 64 * j := by omega
      simp [hi, this]
    · simp [hi]
theorem turn_word (N k t n j : Nat) (h : t / 2 ^ n % 2 = 1) :
    wordN (turnN N k t (n + 1)) j = if j = (k + n) / 64 then wordN (turnN N k t n) j ^^^ 2 ^ ((k + n) % 64) else wordN (turnN N k t n) j := by
  rw [turn_set N k t n h, wordN_xor]
theorem cwN_wordN (M : Nat) (h : M < 2 ^ 192) : cwN (wordN M) = M := by
  unfold cwN wordN
  simp only [Nat.mul_zero, Nat.pow_zero, Nat.div_one, Nat.mul_one, show 64 * 2 = 128 from rfl, show (2 : Nat) ^ 64 = 18446744073709551616 from rfl, show (2 : Nat) ^ 128 = 340282366920938463463374607431768211456 from rfl]
  have h' : M < 6277101735386680763835789423207666416102355444464034512896 := h
  omega
/-! ### a slot's words are read as itself -/
theorem lo_of (ino kind : Nat) (l : List UInt8) (h1 : ino ≤ 64) (h2 : kind ≤ 3) (h3 : l.length ≤ 16) :
    nameN (writeF ino kind l) = l.length ∧ inoN (writeF ino kind l) = ino ∧ kindN (writeF ino kind l) = kind := by
  have hc := crcOf_lt (textW (aheadF ino kind l) 20)
  unfold nameN inoN kindN
  simp only [writeF, if_true]
  unfold slotLo
  omega
theorem dec_self (ino kind i : Int) (l : List UInt8) (hi : i ≤ 64) (h : slotB ino kind l i = true) :
    decB (wordsF ino kind l) i = true ∧ ((inoN (wordsF ino kind l) : Nat) : Int) = ino ∧ ((kindN (wordsF ino kind l) : Nat) : Int) = kind ∧ textW (wordsF ino kind l) (nameN (wordsF ino kind l)) = l := by
  have key : ((inoN (wordsF ino kind l) : Nat) : Int) = ino ∧ ((kindN (wordsF ino kind l) : Nat) : Int) = kind ∧ textW (wordsF ino kind l) (nameN (wordsF ino kind l)) = l ∧ nameN (wordsF ino kind l) ≤ 16 := by
    rcases slotB_cases h with ⟨rfl, rfl, rfl⟩ | ⟨a1, a2, a3, a4, a5⟩
    · exact ⟨rfl, rfl, rfl, by decide⟩
    · obtain ⟨b1, b2⟩ := namedB_len a5
      obtain ⟨n, rfl⟩ := Int.eq_ofNat_of_zero_le (show 0 ≤ ino by omega)
      obtain ⟨m, rfl⟩ := Int.eq_ofNat_of_zero_le (show 0 ≤ kind by omega)
      have e : wordsF (n : Int) (m : Int) l = writeF n m l := by
        funext j
        unfold wordsF
        rw [if_neg (by omega)]; rfl
      rw [e]
      obtain ⟨c1, c2, c3⟩ := lo_of n m l (by omega) (by omega) b2
      refine ⟨by rw [c2], by rw [c3], ?_, by omega⟩
      rw [c1, textW_congr (writeF n m l) (wpack l l.length) l.length (fun j hj => by
        unfold writeF; rw [if_neg (by omega)]), textW_wpack]
  obtain ⟨k1, k2, k3, k4⟩ := key
  refine ⟨?_, k1, k2, k3⟩
  unfold decB
  rw [k1, k2, k3, h, decide_eq_true k4]
  simp [eqB3]
/-- Words of a slot in which some of 32 bits in a row are turned: they are no slot, or all 0. -/
theorem dec_burst (ino kind i : Int) (l : List UInt8) (k t : Nat) (hi : i ≤ 64) (h : slotB ino kind l i = true) (h0 : 1 ≤ ino) (hk : k ≤ 160) (ht : t < 4294967296) (ht0 : ¬ t = 0)
    (f : Nat → Nat) (hf : ∀ j, f j = wordN (cwN (wordsF ino kind l) ^^^ t * 2 ^ k) j) (hd : decB f i = true) :
    f 0 = 0 ∧ f 1 = 0 ∧ f 2 = 0 ∧ inoN f = 0 ∧ kindN f = 0 ∧ textW f (nameN f) = [] := by
  have hd' := hd
  simp only [decB, Bool.and_eq_true, decide_eq_true_iff, eqB3] at hd'
  obtain ⟨d1, d2, d3, d4, d5⟩ := hd'
  rcases slotB_cases d2 with ⟨e1, e2, e3⟩ | ⟨a1, a2, a3, a4, a5⟩
  · rw [e1] at d3 d4 d5
    exact ⟨d3.symm, d4.symm, d5.symm, by omega, by omega, e3⟩
  · exfalso
    rcases slotB_cases h with ⟨rfl, _, _⟩ | ⟨b1, b2, b3, b4, b5⟩
    · omega
    obtain ⟨n, rfl⟩ := Int.eq_ofNat_of_zero_le (show 0 ≤ ino by omega)
    obtain ⟨m, rfl⟩ := Int.eq_ofNat_of_zero_le (show 0 ≤ kind by omega)
    have hN : codeW (cwN (wordsF (n : Int) (m : Int) l)) := by
      have e : wordsF (n : Int) (m : Int) l = writeF n m l := by
        funext j
        unfold wordsF
        rw [if_neg (by omega)]; rfl
      rw [e]
      exact code_write n m l (by omega) (by omega) (namedB_len b5).2
    have hM : codeW (cwN f) := by
      have w0 : ∀ j, wordsF ((inoN f : Nat) : Int) ((kindN f : Nat) : Int) (textW f (nameN f)) j = writeF (inoN f) (kindN f) (textW f (nameN f)) j := fun j => by
        unfold wordsF; rw [if_neg (by omega)]; rfl
      have e : cwN f = cwN (writeF (inoN f) (kindN f) (textW f (nameN f))) := by
        unfold cwN; rw [← d3, ← d4, ← d5, w0, w0, w0]
      rw [e]
      exact code_write _ _ _ (by omega) (by omega) (namedB_len a5).2
    have hlt : cwN (wordsF (n : Int) (m : Int) l) ^^^ t * 2 ^ k < 2 ^ 192 := by
      have hw := fun j => wordsF_lt' (n : Int) (m : Int) l j (by omega) (by omega) (namedB_len b5).2
      refine Nat.xor_lt_two_pow ?_ ?_
      · have := hw 0
        have := hw 1
        have := hw 2
        unfold cwN
        show _ < 6277101735386680763835789423207666416102355444464034512896
        omega
      · refine Nat.lt_of_lt_of_le (Nat.mul_lt_mul_of_pos_right ht (Nat.two_pow_pos k)) ?_
        rw [show (4294967296 : Nat) = 2 ^ 32 from rfl, ← Nat.pow_add]
        exact Nat.pow_le_pow_right (by omega) (by omega)
    have hc : cwN f = cwN (wordsF (n : Int) (m : Int) l) ^^^ t * 2 ^ k := by
      rw [show f = wordN (cwN (wordsF (n : Int) (m : Int) l) ^^^ t * 2 ^ k) from funext hf, cwN_wordN _ hlt]
    rw [hc] at hM
    exact ht0 (burst _ k t hk ht hN hM)
end Go.Proofs.YtejapeafepcacaaDoor
