/- The document's answer: written, Body, Commit. -/
import Derived.Test.YtimfnimcmfjjpaaRWrit
namespace Go.Proofs.Ytimfnimcmfjjpaa
open Go.RowKit
def rwrittenL (f g : Nat → Int) (m W : Nat) : List Op3 := if m = 0 then [] else storesL f g m ++ (flushR f m W ++ [⟨3, 0, 0⟩])
theorem storesL_len (f g : Nat → Int) (m : Nat) : (storesL f g m).length = m := by simp [storesL]
theorem rwrittenL_len (f g : Nat → Int) (m W : Nat) : (rwrittenL f g m W).length ≤ m + W + 1 := by
  have := flushR_len f m W
  have := storesL_len f g m
  unfold rwrittenL
  split
  · simp
  · rw [List.length_append, List.length_append]; simp; omega
set_option maxHeartbeats 2000000 in
set_option maxRecDepth 100000 in
theorem rwritten_any (A : Option Addr) (m c : Nat) (f g : Nat → Int) (W : Nat) (z : Int) (hz : z = 8 * (W : Int)) (w : World) (hm : m ≤ 100000) (hW : W ≤ 100000) (hp : PairsAt w A m f g) (hf : ∀ k, k < m → 0 ≤ f k ∧ f k < 1000000000) :
    Calls Try.prog 36 #[.slice A m c, .int .i64 z] w fun e w' => ∃ v, e = .returned v ∧ w'.ownsRow w.heap.size 53 3 v (rwrittenL f g m W).length (opsL (rwrittenL f g m W)) ∧ Below w.heap.size w w' := by
  by_cases h0 : m = 0
  · subst h0
    go_enter Try.func36, Try.ntmps36
    go_wp2
    go_ret
    exact ⟨_, rfl, ⟨rfl, .inl ⟨rfl, rfl⟩⟩, Below.refl _ _⟩
  · have h0' : ((m : Int) == 0) = false := by rw [beq_eq_false_iff_ne]; omega
    have HP := hid hp
    have Hf := hid hf
    have Hz := hid hz
    have H1 := hid (rstores_any A m c f g w (by omega) hp)
    have hsl := storesL_len f g m
    have hfl := flushR_len f m W
    have HSL := hid hsl
    clear hp hf hz hsl
    go_enter Try.func36, Try.ntmps36
    go_wp2_with fail
    refine (H1.out).mono ?_
    rintro e w1 ⟨v1, rfl, ho1, hb1⟩
    have Ho1 := hid ho1
    have Hb1 := hid hb1
    clear ho1 hb1
    have H2 := hid (rflushes_any A m c f g W z Hz.out w1 hm hW (pairs_below HP.out Hb1.out) Hf.out)
    go_wp2_with fail
    refine (H2.out).mono ?_
    rintro e w2 ⟨v2, rfl, ho2, hb2⟩
    have Hat := hid (ops_of_own (by simp) ho2)
    have Ho3 := hid (owns_below Ho1.out hb2)
    have Hb2 := hid (Hb1.out.trans (hb2.mono Hb1.out.size))
    clear ho2 hb2
    go_wp2_with (at_builtin; refine wpList_append_ops rfl (.tmp 9) (.tmp 12) rfl w.heap.size _ m _ rfl Ho3.out Hb2.out.size _ _ rfl Hat.out (by omega) (by simp; omega) ?_; intro v3 w3 how3 hb3; have Ho4 := hid how3; have Hb3 := hid (Hb2.out.trans hb3); clear how3 hb3)
    go_ret
    refine ⟨_, rfl, ?_, Hb3.out⟩
    unfold rwrittenL
    rw [if_neg h0, List.length_append, HSL.out]
    exact Ho4.out
theorem mem_lineR (f : Nat → Int) (m W : Nat) (hf : ∀ k, k < m → 0 ≤ f k ∧ f k < 8 * (W : Int)) (x : Int) : x ∈ lineR f m W ↔ ∃ j, j < m ∧ f j / 8 = x := by
  unfold lineR
  simp only [List.mem_map, List.mem_filter, List.mem_range, hitB, List.any_eq_true, beq_iff_eq]
  constructor
  · rintro ⟨l, ⟨hl, j, hj, he⟩, rfl⟩
    exact ⟨j, hj, he⟩
  · rintro ⟨j, hj, rfl⟩
    have := hf j hj
    exact ⟨(f j / 8).toNat, ⟨by omega, j, hj, by omega⟩, by omega⟩
theorem lineR_sorted (f : Nat → Int) (m W : Nat) : (lineR f m W).Pairwise (fun a b => a < b) := by
  unfold lineR
  rw [List.pairwise_map]
  exact (List.pairwise_lt_range.filter _).imp (fun h => by omega)
theorem lineR_eq (f : Nat → Int) (m W : Nat) (hf : ∀ k, k < m → 0 ≤ f k ∧ f k < 8 * (W : Int)) : lineL f m = lineR f m W := by
  have hs := lineR_sorted f m W
  rw [← lineL_eq f m (ss := lineR f m W) (hs.imp (fun h => by omega)) (mem_lineR f m W hf)]
  exact List.mergeSort_of_pairwise (hs.imp (fun h => by simp only [decide_eq_true_eq]; omega))
theorem lineL_pos (f : Nat → Int) {m : Nat} (h : 0 < m) : 0 < (lineL f m).length := by
  unfold lineL
  rw [List.length_mergeSort]
  obtain ⟨n, rfl⟩ : ∃ n, m = n + 1 := ⟨m - 1, by omega⟩
  rw [List.range_succ_eq_map, List.map_cons, List.eraseDups_cons]
  simp
theorem flushL_map (l : List Int) : flushL (fun k => l.getD k 0) l.length = l.map fun x => (⟨2, x, 0⟩ : Op3) := by
  unfold flushL
  apply List.ext_getElem
  · simp
  · intro i h1 h2
    simp at h1
    simp [h1]
theorem written_same (f g : Nat → Int) (m W : Nat) (hf : ∀ k, k < m → 0 ≤ f k ∧ f k < 8 * (W : Int)) : writtenL f g m = rwrittenL f g m W := by
  unfold writtenL rwrittenL
  by_cases h0 : m = 0
  · subst h0
    rw [if_pos rfl]
    simp [storesL, linesL, lineL]
  · rw [if_neg h0]
    congr 1
    have hp := lineL_pos f (m := m) (by omega)
    unfold linesL
    rw [if_neg (by omega), flushL_map, lineR_eq f m W hf]
    rfl
/-- Two words appended, at a step of a region that draws. -/
theorem step_append_two {ops : Array Oper} {o : Oper} {a : Act} {w : World} {K : Act → World → Prop} {Q : Exit → Act → World → Prop} {E : Prop} (hgd : o.guard = none) (s x : Operand)
    (ho : o.op = .call { callee := .builtin .append, args := #[s, x], argTypes := #[38, 38] }) (base : Nat) (v : Value) (n : Nat) (xs : List Value) (hs : a.eval s = v) (hown : w.ownsRow base 51 1 v n xs) (hbase : base ≤ w.heap.size)
    (B : Nat) (z1 z2 : Int) (c : Nat) (hx : a.eval x = .slice (some ⟨B, 0, none⟩) 2 c) (hc : w.heap[B]? = some (.cells #[.int .u64 z1, .int .u64 z2] 51 (0, 0))) (hn : n ≤ 1000000)
    (h : ∀ v' w', w'.ownsRow base 51 1 v' (n + 2) (xs ++ [.int .u64 z1, .int .u64 z2]) → Below base w w' → K (a.put o.dst v') w') : if Region.wanted o (yielded ops a.tmps) = true then Oper.wp Try.prog o a w K Q else E := by
  obtain ⟨i0, hi, hz0, hz1, hz2⟩ := info_parts u64_info
  refine step_append_lies w hgd s x 38 ho base 51 i0 _ 1 8 Try.underlying38 hi hz0 hz1 hz2 rfl (by omega) v n xs hs hown ⟨B, 0, none⟩ 2 c [.int .u64 z1, .int .u64 z2] hx rfl (World.news_of_block hc) (by simp [Value.oneCell']) (by omega) (by unfold maxLen; omega) (by omega) hbase w.heap.size rfl ?_
  intro g cap w' how hgr hat hlt
  refine h _ _ how ((Below.refl base w).grown hgr hbase (fun k hk => ?_))
  rcases hown.2 with ⟨rfl, -⟩ | ⟨g', cap', cur, rfl, hb, -⟩
  · simp [Value.ownBlock] at hk
  · simp [Value.ownBlock] at hk; omega
set_option maxHeartbeats 2000000 in
set_option maxRecDepth 100000 in
theorem rbody_any (A : Option Addr) (m c : Nat) (f g : Nat → Int) (w : World) (hm : m ≤ 100000) (hp : PairsAt w A m f g) (hf : ∀ k, k < m → 0 ≤ f k ∧ f k < 1048576) (hg : ∀ k, k < m → 0 ≤ g k) :
    Calls Try.prog 38 #[.slice A m c] w fun e w' => ∃ v, e = .returned v ∧ w'.ownsRow w.heap.size 51 1 v (2 * m) (bodyV f g (2 * m)) ∧ Below w.heap.size w w' := by
  have HP := hid hp
  have Hf := hid hf
  have Hg := hid hg
  clear hp hf hg
  go_enter Try.func38, Try.ntmps38
  go_wp2
  go_loopw [3, 4] (fun v i wr => ∃ k : Nat, k ≤ m ∧ i = .int .i64 k ∧ wr.ownsRow w.heap.size 51 1 v (2 * k) (bodyV f g (2 * k)) ∧ Below w.heap.size w wr) (fun _ i _ => m - (intOf i).toNat)
  case atStart => exact ⟨0, by omega, rfl, ⟨rfl, .inl ⟨rfl, rfl⟩⟩, Below.refl _ _⟩
  case round =>
    obtain ⟨k, hk, rfl, hown, hb⟩ := hrel
    have Hown := hid hown
    have Hb := hid hb
    clear hown hb
    by_cases hlt : k < m
    · have hlt' : (k : Int) < (m : Int) := by omega
      obtain ⟨ad, rfl, hadl, hc⟩ : ∃ ad, A = some ad ∧ ad.block < wr.heap.size ∧ ∀ k, k < m → wr.cell? (ad.add (k * 2)) = some (.int .i64 (f k)) ∧ wr.cell? (ad.add (k * 2 + 1)) = some (.int .u64 (g k)) := by
        rcases pairs_below HP.out Hb.out with h0 | h1
        · omega
        · exact h1
      obtain ⟨c0, c1⟩ := hc k hlt
      have c1' : wr.cell? ⟨(ad.add (k * 2)).block, (ad.add (k * 2)).off + 1, none⟩ = some (.int .u64 (g k)) := by rw [← add_lit (ad.add (k * 2)) 1 (by omega), Addr.add_add]; exact c1
      clear hc c1
      have h0k : (0 : Int) ≤ (k : Int) := by omega
      have hf1 := (Hf.out k hlt).1
      have hf2 := (Hf.out k hlt).2
      have Hg1 := hid (Hg.out k hlt)
      have hwu : IntKind.u64.wrap (f k) = f k := by rw [IntKind.wrap_u64]; omega
      have hadw : ad.block < w.heap.size := by
        rcases HP.out with h0 | ⟨ad', e, h1, -⟩
        · omega
        · cases e; exact h1
      have hoff := hid (block_of_add ad (k * 2))
      go_wp2
      go_region_held3 (fun w' => w'.cell? (ad.add (k * 2)) = some (.int .i64 (f k)) ∧ w'.cell? ⟨(ad.add (k * 2)).block, (ad.add (k * 2)).off + 1, none⟩ = some (.int .u64 (g k))) (first | go_keep | exact ⟨(hb2.cell (p := ad.add (k * 2)) (by rw [hoff.out]; exact hadw)).trans ((Below.cell ((Below.refl wr.heap.size wr).alloc (Nat.le_refl _) _).drew (p := ad.add (k * 2)) (by rw [hoff.out]; exact hadl)).trans c0), (hb2.cell (p := ⟨(ad.add (k * 2)).block, (ad.add (k * 2)).off + 1, none⟩) (by rw [hoff.out]; exact hadw)).trans ((Below.cell ((Below.refl wr.heap.size wr).alloc (Nat.le_refl _) _).drew (p := ⟨(ad.add (k * 2)).block, (ad.add (k * 2)).off + 1, none⟩) (by rw [hoff.out]; exact hadl)).trans c1')⟩)
        ((refine step_append_two rfl (.tmp 11) (.tmp 23) rfl w.heap.size _ (2 * k) _ (by rfl) (owns_below Hown.out (((Below.refl _ _).alloc (Nat.le_refl _) _).drew)) (Nat.le_trans Hb.out.size (by simp)) wr.heap.size (f k) (g k) 2 (by rfl) (heap_alloc_last wr _) (by omega) ?_; intro v2 w2 how2 hb2))
      all_goals
        have Ho2 := hid how2
        have Hb2 := hid ((Hb.out.alloc Hb.out.size _).drew.trans hb2)
        clear how2 hb2
        go_wp2
        go_roundw
        case rel => exact ⟨k + 1, by omega, by go_num, by rw [bodyV_two f g k hf1 Hg1.out]; exact Ho2.out, Hb2.out⟩
        case measure => simp [intOf]; omega
    · obtain rfl : m = k := by omega
      go_wp2
      go_ret
      exact ⟨_, rfl, Hown.out, Hb.out⟩
theorem bodyF_lt (f g : Nat → Int) (m : Nat) (hf : ∀ k, k < m → 0 ≤ f k ∧ f k < 1048576) (hg : ∀ k, k < m → 0 ≤ g k ∧ g k < 18446744073709551616) (j : Nat) (hj : j < 2 * m) : bodyF f g j < 18446744073709551616 := by
  unfold bodyF
  have h1 := hf (j / 2) (by omega)
  have h2 := hg (j / 2) (by omega)
  split <;> omega
theorem commit_sum (n c : Nat) : ((n : Int) + 20992 + (c : Int) * 4294967296) = ((n + 20992 + c * 4294967296 : Nat) : Int) := by omega
set_option maxHeartbeats 2000000 in
set_option maxRecDepth 100000 in
theorem rcommit_any (A : Option Addr) (m c : Nat) (f g : Nat → Int) (w : World) (hm : m ≤ 64) (hp : PairsAt w A m f g) (hf : ∀ k, k < m → 0 ≤ f k ∧ f k < 1048576) (hg : ∀ k, k < m → 0 ≤ g k ∧ g k < 18446744073709551616) :
    Calls Try.prog 39 #[.slice A m c] w fun e w' => e = .returned (.int .u64 (commitN f g m : Nat)) ∧ Below w.heap.size w w' := by
  have HF := hid (bodyF_lt f g m hf hg)
  have H1 := hid (rbody_any A m c f g w (by omega) hp hf (fun k hk => (hg k hk).1))
  clear hp hf hg
  go_enter Try.func39, Try.ntmps39
  go_wp2_with fail
  refine (H1.out).mono ?_
  rintro e w1 ⟨v1, rfl, ho1, hb1⟩
  obtain ⟨A1, c1, rfl, hW⟩ := words_of_own (F := bodyF f g) ho1
  have H2 := hid (rwords_any A1 (2 * m) c1 (bodyF f g) w1 (by omega) HF.out hW)
  have Hb1 := hid hb1
  have hcl := crcOf_lt (textW (bodyF f g) (8 * (2 * m)))
  have Hcm := hid (show commitN f g m = m + 20992 + crcOf (textW (bodyF f g) (8 * (2 * m))) * 4294967296 from rfl)
  clear ho1 hb1 hW
  generalize crcOf (textW (bodyF f g) (8 * (2 * m))) = q at hcl H2 Hcm
  have Hcs := hid (commit_sum m q)
  go_wp2_with fail
  refine (H2.out).mono ?_
  rintro e w2 ⟨rfl, hb2⟩
  go_wp2
  go_ret
  refine ⟨?_, Hb1.out.trans (hb2.mono Hb1.out.size)⟩
  rw [Hcm.out, ← Hcs.out]
  rfl
end Go.Proofs.Ytimfnimcmfjjpaa
