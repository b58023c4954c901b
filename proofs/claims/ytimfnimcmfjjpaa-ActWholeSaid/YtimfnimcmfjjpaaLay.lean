/- redo.Lay: the words of a list, and its commit word. -/
import Derived.Test.YtimfnimcmfjjpaaSum
namespace Go.Proofs.Ytimfnimcmfjjpaa
open Go.RowKit Go.Maps
theorem u64_info : (Try.prog.info? 51).map (fun i => (i.zero, i.size, i.bytes)) = some (some (.int .u64 0), 1, 8) := by kernel_rfl
/-- Two words appended to words of one's own. -/
theorem wpList_append_two {ops : Array Oper} {rest : List Oper} {o : Oper} {a : Act} {w : World} {Q : Exit → Act → World → Prop} (hgd : o.guard = none) (s x : Operand)
    (ho : o.op = .call { callee := .builtin .append, args := #[s, x], argTypes := #[38, 38] }) (base : Nat) (v : Value) (n : Nat) (xs : List Value) (hs : a.eval s = v) (hown : w.ownsRow base 51 1 v n xs) (hbase : base ≤ w.heap.size)
    (B : Nat) (z1 z2 : Int) (c : Nat) (hx : a.eval x = .slice (some ⟨B, 0, none⟩) 2 c) (hc1 : w.cell? ⟨B, 0, none⟩ = some (.int .u64 z1)) (hc2 : w.cell? ⟨B, 1, none⟩ = some (.int .u64 z2)) (hn : n ≤ 1000000)
    (h : ∀ v' w', w'.ownsRow base 51 1 v' (n + 2) (xs ++ [.int .u64 z1, .int .u64 z2]) → Below base w w' → wpList Try.prog ops Q rest (a.put o.dst v') w') : wpList Try.prog ops Q (o :: rest) a w := by
  obtain ⟨i0, hi, hz0, hz1, hz2⟩ := info_parts u64_info
  refine wpList_append_lies w hgd s x 38 ho base 51 i0 _ 1 8 Try.underlying38 hi hz0 hz1 hz2 rfl (by omega) v n xs hs hown ⟨B, 0, none⟩ 2 c [.int .u64 z1, .int .u64 z2] hx rfl (fun j u hj => ?_) (by simp [Value.oneCell']) (by omega) (by unfold maxLen; omega) (by omega) hbase w.heap.size rfl ?_
  · match j, hj with
    | 0, hj => rw [show (⟨B, 0, none⟩ : Addr).add 0 = ⟨B, 0, none⟩ from rfl, hc1]; simpa using hj
    | 1, hj => rw [show (⟨B, 0, none⟩ : Addr).add 1 = ⟨B, 1, none⟩ from rfl, hc2]; simpa using hj
  · intro g cap w' how hgr hat hlt
    refine h _ _ how ((Below.refl base w).grown hgr hbase (fun k hk => ?_))
    rcases hown.2 with ⟨rfl, -⟩ | ⟨g', cap', cur, rfl, hb, -⟩
    · simp [Value.ownBlock] at hk
    · simp [Value.ownBlock] at hk; omega
/-- The words of a list: place, word, place, word. -/
def bodyF (f g : Nat → Int) (j : Nat) : Nat := if j % 2 = 0 then (f (j / 2)).toNat else (g (j / 2)).toNat
def bodyV (f g : Nat → Int) (n : Nat) : List Value := (List.range n).map fun j => .int .u64 (bodyF f g j : Nat)
theorem bodyV_two (f g : Nat → Int) (k : Nat) (hf : 0 ≤ f k) (hg : 0 ≤ g k) : bodyV f g (2 * (k + 1)) = bodyV f g (2 * k) ++ [.int .u64 (f k), .int .u64 (g k)] := by
  have e1 : bodyF f g (2 * k) = (f k).toNat := by unfold bodyF; rw [if_pos (by omega), show 2 * k / 2 = k by omega]
  have e2 : bodyF f g (2 * k + 1) = (g k).toNat := by unfold bodyF; rw [if_neg (by omega), show (2 * k + 1) / 2 = k by omega]
  unfold bodyV
  rw [show 2 * (k + 1) = 2 * k + 1 + 1 by omega, List.range_succ, List.map_append, List.range_succ, List.map_append, List.append_assoc]
  simp only [List.map_cons, List.map_nil, e1, e2, List.cons_append, List.nil_append]
  rw [Int.toNat_of_nonneg hf, Int.toNat_of_nonneg hg]
/-- Words of one's own lie as words. -/
theorem words_of_own {w : World} {B n : Nat} {v : Value} {F : Nat → Nat} (h : w.ownsRow B 51 1 v n ((List.range n).map fun j => .int .u64 (F j : Nat))) : ∃ A c, v = .slice A n c ∧ WordsAt w A n F := by
  rcases h.2 with ⟨rfl, h0⟩ | ⟨g, cap, cur, rfl, -, hg, -, -, -, ht⟩
  · exact ⟨none, 0, by rw [h0], .inl h0⟩
  · refine ⟨_, _, rfl, .inr ⟨_, rfl, (Array.getElem?_eq_some_iff.1 hg).1, fun k hk => ?_⟩⟩
    rw [show (⟨g, 0, none⟩ : Addr).add k = ⟨g, k, none⟩ by unfold Addr.add; split <;> simp_all, cell_of_row w g k cur 51 (0, 0) hg]
    have := congrArg (fun l : List Value => l[k]?) ht
    simp [hk] at this
    exact this
/-- The commit word. -/
def commitN (f g : Nat → Int) (n : Nat) : Nat := n + 20992 + crcOf (textW (bodyF f g) (8 * (2 * n))) * 4294967296
theorem commit_bits (n c : Nat) (hn : n ≤ 64) (hc : c < 4294967296) : bits BinOp.or IntKind.u64 (bits BinOp.or IntKind.u64 (n : Int) 20992) (IntKind.u64.wrap (IntKind.u64.wrap (c : Int) * 4294967296)) = ((n + 20992 + c * 4294967296 : Nat) : Int) := by
  have e1 : IntKind.u64.wrap (c : Int) = (c : Int) := by rw [IntKind.wrap_u64]; omega
  have e2 : IntKind.u64.wrap ((c : Int) * 4294967296) = ((2 ^ 32 * c : Nat) : Int) := by rw [IntKind.wrap_u64]; omega
  have e3 : (n ||| 20992) = n + 20992 := by
    have : ∀ m : Fin 65, (m.val ||| 20992) = m.val + 20992 := by decide
    exact this ⟨n, by omega⟩
  rw [e1, e2, show (20992 : Int) = ((20992 : Nat) : Int) from rfl, u64_or_nat _ _ (by omega) (by omega), e3, u64_or_nat _ _ (by omega) (by omega)]
  have h := Nat.two_pow_add_eq_or_of_lt (i := 32) (b := n + 20992) (by omega) c
  rw [Nat.or_comm, ← h]
  omega
set_option maxHeartbeats 4000000 in
set_option maxRecDepth 100000 in
theorem lay_any (A : Option Addr) (m c : Nat) (f g : Nat → Int) (w : World) (hm : m ≤ 64) (hp : PairsAt w A m f g) (hf : ∀ k, k < m → 0 ≤ f k ∧ f k < 1048576) (hg : ∀ k, k < m → 0 ≤ g k) :
    Calls Try.prog 59 #[.slice A m c] w fun e w' => ∃ v, e = .returned (.tuple #[v, .int .u64 (commitN f g m : Nat), .int .i64 0]) ∧ w'.ownsRow w.heap.size 51 1 v (2 * m) (bodyV f g (2 * m)) ∧ Below w.heap.size w w' := by
  have HP := hid hp
  have Hf := hid hf
  have Hg := hid hg
  clear hp hf hg
  go_enter Try.func59, Try.ntmps59
  go_wp2
  go_loopw [2, 6, 12] (fun v _ i wr => ∃ k : Nat, k ≤ m ∧ i = .int .i64 k ∧ wr.ownsRow w.heap.size 51 1 v (2 * k) (bodyV f g (2 * k)) ∧ Below w.heap.size w wr) (fun _ _ i _ => m - (intOf i).toNat)
  case atStart => exact ⟨0, by omega, rfl, ⟨rfl, .inl ⟨rfl, rfl⟩⟩, Below.refl _ _⟩
  case round =>
    obtain ⟨k, hk, rfl, hown, hb⟩ := hrel
    have Hown := hid hown
    have Hb := hid hb
    clear hown hb
    by_cases hlt : k < m
    · have hlt' : (k : Int) < (m : Int) := by omega
      obtain ⟨ad, rfl, hadl, hc⟩ : ∃ ad, A = some ad ∧ ad.block < wr.heap.size ∧ ∀ k, k < m → wr.cell? (ad.add (k * 2)) = some (.int .i64 (f k)) ∧ wr.cell? (ad.add (k * 2 + 1)) = some (.int .u64 (g k)) := by
        rcases pairs_below HP.out Hb.out with h0 | h1
        · omega
        · exact h1
      obtain ⟨c0, c1⟩ := hc k hlt
      have c1' : wr.cell? ⟨(ad.add (k * 2)).block, (ad.add (k * 2)).off + 1, none⟩ = some (.int .u64 (g k)) := by rw [← add_lit (ad.add (k * 2)) 1 (by omega), Addr.add_add]; exact c1
      clear hc c1
      have hf1 := (Hf.out k hlt).1
      have hf2 := (Hf.out k hlt).2
      have Hg1 := hid (Hg.out k hlt)
      go_wp2_with (at_builtin; refine wpList_append_two rfl (.tmp 24) (.tmp 30) rfl w.heap.size _ (2 * k) _ rfl (owns_below Hown.out (((Below.refl _ _).alloc (Nat.le_refl _) _).alloc (by simp) _)) (Nat.le_trans Hb.out.size (by simp; omega)) (wr.heap.size + 1) (f k) (g k) 2 rfl (by simp) (by simp) (by omega) ?_; intro v2 w2 how2 hb2; have Ho2 := hid how2; have Hb2 := hid ((Hb.out.alloc Hb.out.size _).alloc (Nat.le_trans Hb.out.size (by simp)) _ |>.trans hb2); clear how2 hb2)
      go_roundw
      case rel =>
        refine ⟨k + 1, by omega, by go_num, ?_, Hb2.out⟩
        rw [bodyV_two f g k hf1 Hg1.out]
        exact Ho2.out
      case measure => simp [intOf]; omega
    · have hkm : k = m := by omega
      subst hkm
      obtain ⟨A', c', rfl, hW⟩ := words_of_own (F := bodyF f g) Hown.out
      go_wp2_with (go_at_call 68; refine (words_any A' (2 * k) c' (bodyF f g) _ (by omega) hW).mono ?_; rintro e w3 ⟨rfl, hb3⟩)
      go_ret3
      exact ⟨_, congrArg (fun z => Ending.returned (.tuple #[.slice A' (2 * k) c', .int .u64 z, .int .i64 0])) (commit_bits k (crcOf (textW (bodyF f g) (8 * (2 * k)))) hm (crcOf_lt _)), owns_below Hown.out hb3, Hb.out.trans (hb3.mono Hb.out.size)⟩
end Go.Proofs.Ytimfnimcmfjjpaa
