/- The document's answer: stores, flushes, written. -/
import Derived.Test.YtimfnimcmfjjpaaRMay
import Derived.Deep.RegionLaw
namespace Go.Proofs.Ytimfnimcmfjjpaa
open Go.RowKit
/-- One step appended to steps of one's own. -/
theorem wpList_append_op {ops : Array Oper} {rest : List Oper} {o : Oper} {a : Act} {w : World} {Q : Exit → Act → World → Prop} (hgd : o.guard = none) (s x : Operand)
    (ho : o.op = .call { callee := .builtin .append, args := #[s, x], argTypes := #[32, 32] }) (base : Nat) (v : Value) (n : Nat) (L : List Op3) (hs : a.eval s = v) (hown : w.ownsRow base 53 3 v n (opsL L)) (hbase : base ≤ w.heap.size)
    (B : Nat) (p : Op3) (c : Nat) (hx : a.eval x = .slice (some ⟨B, 0, none⟩) 1 c) (hc : w.heap[B]? = some (.cells #[.int .u8 p.k, .int .i64 p.a, .int .u64 p.w] 53 (0, 0))) (hn : n ≤ 1000000)
    (h : ∀ v' w', w'.ownsRow base 53 3 v' (n + 1) (opsL (L ++ [p])) → Below base w w' → wpList Try.prog ops Q rest (a.put o.dst v') w') : wpList Try.prog ops Q (o :: rest) a w := by
  obtain ⟨i0, hi, hz0, hz1, hz2⟩ := info_parts op_info
  refine wpList_append_lies w hgd s x 32 ho base 53 i0 _ 3 24 Try.underlying32 hi hz0 hz1 hz2 rfl (by omega) v n (opsL L) hs hown ⟨B, 0, none⟩ 1 c p.cells hx rfl (World.news_of_block hc) (by intro u hu; simp [Op3.cells] at hu; rcases hu with rfl | rfl | rfl <;> rfl) (by omega) (by unfold maxLen; omega) (by omega) hbase w.heap.size rfl ?_
  intro g cap w' how hgr hat hlt
  rw [← opsL_snoc] at how
  refine h _ _ how ((Below.refl base w).grown hgr hbase (fun k hk => ?_))
  rcases hown.2 with ⟨rfl, -⟩ | ⟨g', cap', cur, rfl, hb, -⟩
  · simp [Value.ownBlock] at hk
  · simp [Value.ownBlock] at hk; omega
/-- The same at a step of a region that draws. -/
theorem step_append_op {ops : Array Oper} {o : Oper} {a : Act} {w : World} {K : Act → World → Prop} {Q : Exit → Act → World → Prop} {E : Prop} (hgd : o.guard = none) (s x : Operand)
    (ho : o.op = .call { callee := .builtin .append, args := #[s, x], argTypes := #[32, 32] }) (base : Nat) (v : Value) (n : Nat) (L : List Op3) (hs : a.eval s = v) (hown : w.ownsRow base 53 3 v n (opsL L)) (hbase : base ≤ w.heap.size)
    (B : Nat) (p : Op3) (c : Nat) (hx : a.eval x = .slice (some ⟨B, 0, none⟩) 1 c) (hc : w.heap[B]? = some (.cells #[.int .u8 p.k, .int .i64 p.a, .int .u64 p.w] 53 (0, 0))) (hn : n ≤ 1000000)
    (h : ∀ v' w', w'.ownsRow base 53 3 v' (n + 1) (opsL (L ++ [p])) → Below base w w' → K (a.put o.dst v') w') : if Region.wanted o (yielded ops a.tmps) = true then Oper.wp Try.prog o a w K Q else E := by
  obtain ⟨i0, hi, hz0, hz1, hz2⟩ := info_parts op_info
  refine step_append_lies w hgd s x 32 ho base 53 i0 _ 3 24 Try.underlying32 hi hz0 hz1 hz2 rfl (by omega) v n (opsL L) hs hown ⟨B, 0, none⟩ 1 c p.cells hx rfl (World.news_of_block hc) (by intro u hu; simp [Op3.cells] at hu; rcases hu with rfl | rfl | rfl <;> rfl) (by omega) (by unfold maxLen; omega) (by omega) hbase w.heap.size rfl ?_
  intro g cap w' how hgr hat hlt
  rw [← opsL_snoc] at how
  refine h _ _ how ((Below.refl base w).grown hgr hbase (fun k hk => ?_))
  rcases hown.2 with ⟨rfl, -⟩ | ⟨g', cap', cur, rfl, hb, -⟩
  · simp [Value.ownBlock] at hk
  · simp [Value.ownBlock] at hk; omega
theorem run_append_zero (w : World) (ty : TypeId) (B A : Option Addr) (n cap c : Nat) (hn : n ≤ cap) :
    (Builtin.append_ #[32, 32] ty #[.slice B n cap, .slice A 0 c]).run Try.prog w = .ok (.slice B n cap) w := by
  obtain ⟨i0, hi, hz0, hz1, hz2⟩ := info_parts op_info
  cases A with
  | none => cases B <;> simp [Builtin.append_, run_underlying Try.underlying32, sizeOf, typeInfo, hi, Builtin.lenOf, Builtin.firstCells, hn, storeCells]
  | some ad =>
    have := run_firstCells_some (P := Try.prog) w i0.size 0 ad 0 c [] (by simp) (by simp)
    cases B <;> simp [Builtin.append_, run_underlying Try.underlying32, sizeOf, typeInfo, hi, Builtin.lenOf, this, hn, storeCells]
theorem opsL_append (L M : List Op3) : opsL (L ++ M) = opsL L ++ opsL M := by simp [opsL]
theorem opsL_one (L : List Op3) : ∀ u ∈ opsL L, u.oneCell' = true := by
  intro u hu
  obtain ⟨o, -, ho⟩ := List.mem_flatMap.1 hu
  simp [Op3.cells] at ho
  rcases ho with rfl | rfl | rfl <;> rfl
theorem opsL_cells {w : World} {q : Nat} {L : List Op3} (hc : ∀ k (h : k < L.length), w.cell? ⟨q, k * 3, none⟩ = some (.int .u8 L[k].k) ∧ w.cell? ⟨q, k * 3 + 1, none⟩ = some (.int .i64 L[k].a) ∧ w.cell? ⟨q, k * 3 + 2, none⟩ = some (.int .u64 L[k].w)) (j : Nat) (u : Value) (hj : (opsL L)[j]? = some u) : w.cell? ((⟨q, 0, none⟩ : Addr).add j) = some u := by
  have hl := opsL_len L
  have hjl : j < L.length * 3 := by rw [← hl]; exact (List.getElem?_eq_some_iff.1 hj).1
  rw [add_zero_off]
  obtain ⟨g1, g2, g3⟩ := opsL_get L (j / 3) (by omega)
  obtain ⟨d1, d2, d3⟩ := hc (j / 3) (by omega)
  have h3 : j % 3 = 0 ∨ j % 3 = 1 ∨ j % 3 = 2 := by omega
  rcases h3 with h | h | h
  · have e : j = j / 3 * 3 := by omega
    rw [e] at hj ⊢
    rw [g1] at hj
    rw [d1, hj]
  · have e : j = j / 3 * 3 + 1 := by omega
    rw [e] at hj ⊢
    rw [g2] at hj
    rw [d2, hj]
  · have e : j = j / 3 * 3 + 2 := by omega
    rw [e] at hj ⊢
    rw [g3] at hj
    rw [d3, hj]
/-- Steps appended to steps of one's own. -/
theorem wpList_append_ops {ops : Array Oper} {rest : List Oper} {o : Oper} {a : Act} {w : World} {Q : Exit → Act → World → Prop} (hgd : o.guard = none) (s x : Operand)
    (ho : o.op = .call { callee := .builtin .append, args := #[s, x], argTypes := #[32, 32] }) (base : Nat) (v : Value) (n : Nat) (L : List Op3) (hs : a.eval s = v) (hown : w.ownsRow base 53 3 v n (opsL L)) (hbase : base ≤ w.heap.size)
    (v2 : Value) (M : List Op3) (hx : a.eval x = v2) (hat : OpsAt w v2 M) (hn : n ≤ 1000000) (hm : M.length ≤ 1000000)
    (h : ∀ v' w', w'.ownsRow base 53 3 v' (n + M.length) (opsL (L ++ M)) → Below base w w' → wpList Try.prog ops Q rest (a.put o.dst v') w') : wpList Try.prog ops Q (o :: rest) a w := by
  obtain ⟨A, c, rfl, hat⟩ := hat
  by_cases h0 : M.length = 0
  · obtain rfl : M = [] := List.eq_nil_of_length_eq_zero h0
    refine wpList_plain hgd fun _ hK => ?_
    obtain ⟨B, cap, hv, hle⟩ : ∃ B cap, v = .slice B n cap ∧ n ≤ cap := by
      rcases hown.2 with ⟨rfl, rfl⟩ | ⟨g, cap, cur, rfl, -, -, hle, -⟩
      · exact ⟨none, 0, rfl, Nat.le_refl _⟩
      · exact ⟨_, _, rfl, hle⟩
    have hr := run_append_zero w o.type B A n cap c hle
    rw [← hv] at hr
    unfold Oper.wp execOp
    simp only [ho, resolve, invoke, builtin, Sem.run_bind, Sem.run_pure, Result.andThen_ok, List.map_toArray, List.map_cons, List.map_nil, hs, hx, List.length_nil, hr]
    exact hK _ _ (h v w (by simpa using hown) (Below.refl _ _))
  · rcases hat with hat | ⟨q, rfl, hlt, hc⟩
    · exact absurd hat h0
    obtain ⟨i0, hi, hz0, hz1, hz2⟩ := info_parts op_info
    refine wpList_append_lies w hgd s x 32 ho base 53 i0 _ 3 24 Try.underlying32 hi hz0 hz1 hz2 rfl (by omega) v n (opsL L) hs hown ⟨q, 0, none⟩ M.length c (opsL M) hx (opsL_len M) (opsL_cells hc) (opsL_one M) (by omega) (by unfold maxLen; omega) (by omega) hbase w.heap.size rfl ?_
    intro g cap w' how hgr hat hlt
    rw [← opsL_append] at how
    refine h _ _ how ((Below.refl base w).grown hgr hbase (fun k hk => ?_))
    rcases hown.2 with ⟨rfl, -⟩ | ⟨g', cap', cur, rfl, hb, -⟩
    · simp [Value.ownBlock] at hk
    · simp [Value.ownBlock] at hk; omega
set_option maxHeartbeats 2000000 in
set_option maxRecDepth 100000 in
theorem rstores_any (A : Option Addr) (m c : Nat) (f g : Nat → Int) (w : World) (hm : m ≤ 1000000) (hp : PairsAt w A m f g) :
    Calls Try.prog 37 #[.slice A m c] w fun e w' => ∃ v, e = .returned v ∧ w'.ownsRow w.heap.size 53 3 v m (opsL (storesL f g m)) ∧ Below w.heap.size w w' := by
  have HP := hid hp
  clear hp
  go_enter Try.func37, Try.ntmps37
  go_wp2
  go_loopw [3, 4] (fun v i wr => ∃ k : Nat, k ≤ m ∧ i = .int .i64 k ∧ wr.ownsRow w.heap.size 53 3 v k (opsL (storesL f g k)) ∧ Below w.heap.size w wr) (fun _ i _ => m - (intOf i).toNat)
  case atStart => exact ⟨0, by omega, rfl, ⟨rfl, .inl ⟨rfl, rfl⟩⟩, Below.refl _ _⟩
  case round =>
    obtain ⟨k, hk, rfl, hown, hb⟩ := hrel
    have Hown := hid hown
    have Hb := hid hb
    clear hown hb
    by_cases hlt : k < m
    · have hlt' : (k : Int) < (m : Int) := by omega
      obtain ⟨ad, rfl, hadl, hc⟩ : ∃ ad, A = some ad ∧ ad.block < wr.heap.size ∧ ∀ k, k < m → wr.cell? (ad.add (k * 2)) = some (.int .i64 (f k)) ∧ wr.cell? (ad.add (k * 2 + 1)) = some (.int .u64 (g k)) := by
        rcases pairs_below HP.out Hb.out with h0 | h1
        · omega
        · exact h1
      obtain ⟨c0, c1⟩ := hc k hlt
      have c1' : wr.cell? ⟨(ad.add (k * 2)).block, (ad.add (k * 2)).off + 1, none⟩ = some (.int .u64 (g k)) := by rw [← add_lit (ad.add (k * 2)) 1 (by omega), Addr.add_add]; exact c1
      clear hc c1
      have h0k : (0 : Int) ≤ (k : Int) := by omega
      have hadw : ad.block < w.heap.size := by
        rcases HP.out with h0 | ⟨ad', e, h1, -⟩
        · omega
        · cases e; exact h1
      have hoff := hid (block_of_add ad (k * 2))
      go_wp2
      go_region_held3 (fun w' => w'.cell? (ad.add (k * 2)) = some (.int .i64 (f k)) ∧ w'.cell? ⟨(ad.add (k * 2)).block, (ad.add (k * 2)).off + 1, none⟩ = some (.int .u64 (g k))) (first | go_keep | exact ⟨(hb2.cell (p := ad.add (k * 2)) (by rw [hoff.out]; exact hadw)).trans ((Below.cell ((Below.refl wr.heap.size wr).alloc (Nat.le_refl _) _).drew (p := ad.add (k * 2)) (by rw [hoff.out]; exact hadl)).trans c0), (hb2.cell (p := ⟨(ad.add (k * 2)).block, (ad.add (k * 2)).off + 1, none⟩) (by rw [hoff.out]; exact hadw)).trans ((Below.cell ((Below.refl wr.heap.size wr).alloc (Nat.le_refl _) _).drew (p := ⟨(ad.add (k * 2)).block, (ad.add (k * 2)).off + 1, none⟩) (by rw [hoff.out]; exact hadl)).trans c1')⟩)
        ((refine step_append_op rfl (.tmp 11) (.tmp 23) rfl w.heap.size _ k _ (by rfl) (owns_below Hown.out (((Below.refl _ _).alloc (Nat.le_refl _) _).drew)) (Nat.le_trans Hb.out.size (by simp)) wr.heap.size ⟨1, f k, g k⟩ 1 (by rfl) (heap_alloc_last wr _) (by omega) ?_; intro v2 w2 how2 hb2))
      all_goals
        have Ho2 := hid how2
        have Hb2 := hid ((Hb.out.alloc Hb.out.size _).drew.trans hb2)
        clear how2 hb2
        go_wp2
        go_roundw
        case rel => exact ⟨k + 1, by omega, by go_num, by rw [storesL_succ]; exact Ho2.out, Hb2.out⟩
        case measure => simp [intOf]; omega
    · obtain rfl : m = k := by omega
      go_wp2
      go_ret
      exact ⟨_, rfl, Hown.out, Hb.out⟩
def hitB (f : Nat → Int) (l : Int) (k : Nat) : Bool := (List.range k).any fun j => f j / 8 == l
theorem hitB_succ (f : Nat → Int) (l : Int) (k : Nat) : hitB f l (k + 1) = (hitB f l k || (f k / 8 == l)) := by simp [hitB, List.range_succ, List.any_append]
/-- The lines below W in which places lie, from the first on. -/
def lineR (f : Nat → Int) (m W : Nat) : List Int := ((List.range W).filter fun l => hitB f (l : Nat) m).map fun (l : Nat) => (l : Int)
def flushR (f : Nat → Int) (m W : Nat) : List Op3 := (lineR f m W).map fun l => ⟨2, l, 0⟩
theorem flushR_succ (f : Nat → Int) (m W : Nat) : flushR f m (W + 1) = flushR f m W ++ (if hitB f (W : Nat) m = true then [⟨2, (W : Nat), 0⟩] else []) := by
  unfold flushR lineR
  rw [List.range_succ, List.filter_append, List.map_append, List.map_append]
  congr 1
  cases h : hitB f (W : Nat) m <;> simp [h]
theorem flushR_len (f : Nat → Int) (m : Nat) : ∀ W, (flushR f m W).length ≤ W
  | 0 => by simp [flushR, lineR]
  | W + 1 => by
    have := flushR_len f m W
    rw [flushR_succ, List.length_append]
    split <;> simp <;> omega
set_option maxHeartbeats 4000000 in
set_option maxRecDepth 100000 in
theorem rflushes_any (A : Option Addr) (m c : Nat) (f g : Nat → Int) (W : Nat) (z : Int) (hz : z = 8 * (W : Int)) (w : World) (hm : m ≤ 100000) (hW : W ≤ 100000) (hp : PairsAt w A m f g) (hf : ∀ k, k < m → 0 ≤ f k ∧ f k < 1000000000) :
    Calls Try.prog 61 #[.slice A m c, .int .i64 z] w fun e w' => ∃ v, e = .returned v ∧ w'.ownsRow w.heap.size 53 3 v ((flushR f m W).length + 1) (opsL (flushR f m W ++ [⟨3, 0, 0⟩])) ∧ Below w.heap.size w w' := by
  have HP := hid hp
  have Hf := hid hf
  have hz0 : 0 ≤ z := by omega
  have hz8 : z / 8 = (W : Int) := by omega
  have Hz8 := hid hz8
  clear hp hf hz hz8
  go_enter Try.func61, Try.ntmps61
  go_wp2
  go_loopw [5, 6, 7, 8] (fun v i _ _ wr => ∃ l : Nat, l ≤ W ∧ i = .int .i64 l ∧ wr.ownsRow w.heap.size 53 3 v (flushR f m l).length (opsL (flushR f m l)) ∧ Below w.heap.size w wr) (fun _ i _ _ _ => W - (intOf i).toNat)
  case atStart => exact ⟨0, by omega, rfl, ⟨rfl, .inl ⟨rfl, rfl⟩⟩, Below.refl _ _⟩
  case round =>
    obtain ⟨l, hl, rfl, hown, hb⟩ := hrel
    have Hown := hid hown
    have Hb := hid hb
    have hz8 := Hz8.out
    clear hown hb
    by_cases hlt : l < W
    · have hlz : (l : Int) < z / 8 := by omega
      go_wp2
      clear hz8
      go_loop [7, 8] (fun v i => ∃ k : Nat, k ≤ m ∧ i = .int .i64 k ∧ v = .bool (hitB f (l : Nat) k)) (fun _ i => m - (intOf i).toNat)
      case atStart => exact ⟨0, by omega, rfl, rfl⟩
      case round =>
        obtain ⟨k, hk, rfl, rfl⟩ := hrel
        by_cases hkm : k < m
        · have hkm' : (k : Int) < (m : Int) := by omega
          obtain ⟨ad, rfl, hadl, hc⟩ : ∃ ad, A = some ad ∧ ad.block < wr.heap.size ∧ ∀ k, k < m → wr.cell? (ad.add (k * 2)) = some (.int .i64 (f k)) ∧ wr.cell? (ad.add (k * 2 + 1)) = some (.int .u64 (g k)) := by
            rcases pairs_below HP.out Hb.out with h0 | h1
            · omega
            · exact h1
          have c0 := (hc k hkm).1
          have hfk := (Hf.out k hkm).1
          have hfk2 := (Hf.out k hkm).2
          have Hs := hid (hitB_succ f (l : Nat) k)
          clear hc
          cases hh : hitB f (l : Nat) k
          · have HH := hid hh
            clear hh
            go_wp2
            go_round
            case rel => exact ⟨k + 1, by omega, by go_num, by rw [Hs.out, HH.out]; rfl⟩
            case measure => simp [intOf]; omega
          · have HH := hid hh
            clear hh
            go_wp2
            go_round
            case rel => exact ⟨k + 1, by omega, by go_num, by rw [Hs.out, HH.out]; rfl⟩
            case measure => simp [intOf]; omega
        · obtain rfl : m = k := by omega
          have Hs := hid (flushR_succ f m l)
          cases hh : hitB f (l : Nat) m
          · have HH := hid hh
            clear hh
            go_wp2
            go_roundw
            case rel => exact ⟨l + 1, by omega, by go_num, by rw [Hs.out, HH.out, if_neg (by simp), List.append_nil]; exact Hown.out, Hb.out⟩
            case measure => simp [intOf]; omega
          · have HH := hid hh
            have hfl := flushR_len f m l
            clear hh
            go_wp2_with (at_builtin; refine wpList_append_op rfl (.tmp 33) (.tmp 36) rfl w.heap.size _ _ _ rfl (owns_below Hown.out ((Below.refl _ _).alloc (Nat.le_refl _) _)) (Nat.le_trans Hb.out.size (by simp)) wr.heap.size ⟨2, (l : Nat), 0⟩ 1 rfl (heap_alloc_last wr _) (by omega) ?_; intro v2 w2 how2 hb2; have Ho2 := hid how2; have Hb2 := hid ((Hb.out.alloc Hb.out.size _).trans hb2); clear how2 hb2)
            go_roundw
            case rel =>
              refine ⟨l + 1, by omega, by go_num, ?_, Hb2.out⟩
              rw [Hs.out, HH.out, if_pos rfl, List.length_append]
              exact Ho2.out
            case measure => simp [intOf]; omega
    · obtain rfl : W = l := by omega
      have hfl := flushR_len f m W
      have hlz : ¬ (W : Int) < z / 8 := by omega
      go_wp2_with (at_builtin; refine wpList_append_op rfl (.tmp 38) (.tmp 40) rfl w.heap.size _ _ _ rfl (owns_below Hown.out ((Below.refl _ _).alloc (Nat.le_refl _) _)) (Nat.le_trans Hb.out.size (by simp)) wr.heap.size ⟨3, 0, 0⟩ 1 rfl (heap_alloc_last wr _) (by omega) ?_; intro v2 w2 how2 hb2; have Ho2 := hid how2; have Hb2 := hid ((Hb.out.alloc Hb.out.size _).trans hb2); clear how2 hb2)
      go_ret
      exact ⟨_, rfl, Ho2.out, Hb2.out⟩
end Go.Proofs.Ytimfnimcmfjjpaa
