/- The document's answer: the steps of a plan. -/
import Derived.Test.YtimfnimcmfjjpaaRBody
namespace Go.Proofs.Ytimfnimcmfjjpaa
open Go.RowKit
/-- Whatever is not the row's block lies as it lay, and is not the new row's. -/
def Aside (v : Value) (w : World) (v' : Value) (w' : World) : Prop := ∀ q, q < w.heap.size → v.ownBlock ≠ some q → v'.ownBlock ≠ some q ∧ w'.heap[q]? = w.heap[q]?
theorem own_len {w : World} {B n : Nat} {v : Value} {L : List Op3} (h : w.ownsRow B 53 3 v n (opsL L)) : w.ownsRow B 53 3 v L.length (opsL L) := by
  have h1 := h.1
  rw [opsL_len] at h1
  rw [show L.length = n by omega]
  exact h
theorem wpList_append_ops2 {ops : Array Oper} {rest : List Oper} {o : Oper} {a : Act} {w : World} {Q : Exit → Act → World → Prop} (hgd : o.guard = none) (s x : Operand)
    (ho : o.op = .call { callee := .builtin .append, args := #[s, x], argTypes := #[32, 32] }) (base : Nat) (v : Value) (L : List Op3) (hs : a.eval s = v) (hown : w.ownsRow base 53 3 v L.length (opsL L)) (hbase : base ≤ w.heap.size)
    (v2 : Value) (M : List Op3) (hx : a.eval x = v2) (hat : OpsAt w v2 M) (hn : L.length ≤ 1000000) (hm : M.length ≤ 1000000)
    (h : ∀ v' w', w'.ownsRow base 53 3 v' (L ++ M).length (opsL (L ++ M)) → Below base w w' → Aside v w v' w' → wpList Try.prog ops Q rest (a.put o.dst v') w') : wpList Try.prog ops Q (o :: rest) a w := by
  obtain ⟨A, c, rfl, hat⟩ := hat
  by_cases h0 : M.length = 0
  · obtain rfl : M = [] := List.eq_nil_of_length_eq_zero h0
    refine wpList_plain hgd fun _ hK => ?_
    obtain ⟨B, cap, hv, hle⟩ : ∃ B cap, v = .slice B L.length cap ∧ L.length ≤ cap := by
      rcases hown.2 with ⟨rfl, h1⟩ | ⟨g, cap, cur, rfl, -, -, hle, -⟩
      · exact ⟨none, 0, by rw [h1], by omega⟩
      · exact ⟨_, _, rfl, hle⟩
    have hr := run_append_zero w o.type B A L.length cap c hle
    rw [← hv] at hr
    unfold Oper.wp execOp
    simp only [ho, resolve, invoke, builtin, Sem.run_bind, Sem.run_pure, Result.andThen_ok, List.map_toArray, List.map_cons, List.map_nil, hs, hx, List.length_nil, hr]
    exact hK _ _ (h v w (by simpa using hown) (Below.refl _ _) (fun q _ hq => ⟨hq, rfl⟩))
  · rcases hat with hat | ⟨q, rfl, hlt, hc⟩
    · exact absurd hat h0
    obtain ⟨i0, hi, hz0, hz1, hz2⟩ := info_parts op_info
    refine wpList_append_lies w hgd s x 32 ho base 53 i0 _ 3 24 Try.underlying32 hi hz0 hz1 hz2 rfl (by omega) v L.length (opsL L) hs hown ⟨q, 0, none⟩ M.length c (opsL M) hx (opsL_len M) (opsL_cells hc) (opsL_one M) (by omega) (by unfold maxLen; omega) (by omega) hbase w.heap.size rfl ?_
    intro g cap w' how hgr hat hlt
    rw [← opsL_append] at how
    refine h _ _ (own_len how) ((Below.refl base w).grown hgr hbase (fun k hk => ?_)) (fun q hq hne => ⟨fun e => ?_, hgr.block q hq (fun e => hne e.symm)⟩)
    · rcases hown.2 with ⟨rfl, -⟩ | ⟨g', cap', cur, rfl, hb, -⟩
      · simp [Value.ownBlock] at hk
      · simp [Value.ownBlock] at hk; omega
    · have e2 : g = q := by simpa [Value.ownBlock] using e
      rcases hat with h | h
      · exact hne (h.trans (by rw [e2]))
      · omega
theorem ops_one {w : World} {B : Nat} {p : Op3} {c : Nat} (hc : w.heap[B]? = some (.cells #[.int .u8 p.k, .int .i64 p.a, .int .u64 p.w] 53 (0, 0))) : OpsAt w (.slice (some ⟨B, 0, none⟩) 1 c) [p] := by
  refine ⟨_, _, rfl, .inr ⟨B, rfl, (Array.getElem?_eq_some_iff.1 hc).1, fun k hk => ?_⟩⟩
  obtain rfl : k = 0 := by simpa using hk
  exact ⟨cell_of_row w B 0 _ 53 (0, 0) hc, cell_of_row w B 1 _ 53 (0, 0) hc, cell_of_row w B 2 _ 53 (0, 0) hc⟩
theorem rwritten_ok (l : Int) (hl : 0 ≤ l ∧ l ≤ 1300) (A : Option Addr) (m c : Nat) (f g : Nat → Int) (w : World) (hm : m ≤ 100000) (hp : PairsAt w A m f g) (hf : ∀ k, k < m → 0 ≤ f k ∧ f k < 8 * l) :
    Calls Try.prog 36 #[.slice A m c, .int .i64 (8 * l)] w fun e w' => ∃ v, e = .returned v ∧ w'.ownsRow w.heap.size 53 3 v (writtenL f g m).length (opsL (writtenL f g m)) ∧ Below w.heap.size w w' := by
  obtain ⟨W, rfl⟩ := Int.eq_ofNat_of_zero_le hl.1
  rw [written_same f g m W hf]
  exact rwritten_any A m c f g W _ rfl w hm (by omega) hp (fun k hk => by have := hf k hk; omega)
theorem errE_zero {p i b s : Int} {P : PlanD} (h : errE p i b s P = 0) : gok p i b = true ∧ 0 ≤ s ∧ s < p ∧ mayE P (linesN p i b) = 0 := by
  unfold errE at h
  split at h
  · rename_i h1
    exact ⟨h1.1, h1.2.1, h1.2.2, h⟩
  · cases h
theorem rmay_is (p i b s : Int) (P : PlanD) (w : World) (v : Int) (hsm : P.small) (hp : PlanAt w P) (hv : errE p i b s P = v) :
    Calls Try.prog 14 #[.agg #[.int .i64 p, .int .i64 i, .int .i64 b], .int .i64 s, .agg #[.int .i64 P.err, .int .i64 P.ino, .slice P.F.A P.F.n P.F.c, .slice P.L.A P.L.n P.L.c, .slice P.R.A P.R.n P.R.c, .slice P.D.A P.D.n P.D.c]] w fun e w' => e = .returned (.int .i64 v) ∧ Below w.heap.size w w' := by
  subst hv
  exact rmay_any p i b s P w hsm hp
set_option maxHeartbeats 4000000 in
set_option maxRecDepth 100000 in
theorem rsteps_no (p i b s : Int) (P : PlanD) (w : World) (v : Int) (hsm : P.small) (hp : PlanAt w P) (hv : errE p i b s P = v) (h0 : (v == 0) = false) :
    Calls Try.prog 11 #[.agg #[.int .i64 p, .int .i64 i, .int .i64 b], .int .i64 s, .agg #[.int .i64 P.err, .int .i64 P.ino, .slice P.F.A P.F.n P.F.c, .slice P.L.A P.L.n P.L.c, .slice P.R.A P.R.n P.R.c, .slice P.D.A P.D.n P.D.c]] w fun e w' => e = .returned (.tuple #[.slice none 0 0, .int .i64 v]) ∧ Below w.heap.size w w' := by
  have HV := hid hv
  have HP := hid hp
  have h1 : (v != 0) = true := by simp [bne, h0]
  clear hv hp
  have b0 := hid (show Below w.heap.size w ((w.alloc (.cells #[.int .i64 p, .int .i64 i, .int .i64 b] 23)).alloc (.cells #[.int .i64 P.err, .int .i64 P.ino, .slice P.F.A P.F.n P.F.c, .slice P.L.A P.L.n P.L.c, .slice P.R.A P.R.n P.R.c, .slice P.D.A P.D.n P.D.c] 28)) from ((Below.refl _ _).alloc (Nat.le_refl _) _).alloc (by simp) _)
  have hsz : w.heap.size + 1 < ((w.alloc (.cells #[.int .i64 p, .int .i64 i, .int .i64 b] 23)).alloc (.cells #[.int .i64 P.err, .int .i64 P.ino, .slice P.F.A P.F.n P.F.c, .slice P.L.A P.L.n P.L.c, .slice P.R.A P.R.n P.R.c, .slice P.D.A P.D.n P.D.c] 28)).heap.size := by simp
  go_enter Try.func11, Try.ntmps11
  go_wp2_with fail
  refine (rmay_is p i b s P _ v hsm (HP.out.below b0.out) HV.out).mono ?_
  rintro e w1 ⟨rfl, hb⟩
  have B1 := hid (b0.out.trans (hb.mono b0.out.size))
  have Z1 : Hid (w.heap.size + 1 < w1.heap.size) := Nat.lt_of_lt_of_le hsz hb.size
  have g10 : w1.cell? ⟨w.heap.size, 0, none⟩ = some (.int .i64 p) := (hb.cell (p := ⟨w.heap.size, 0, none⟩) (Nat.lt_of_succ_lt hsz)).trans (by simp)
  have g11 : w1.cell? ⟨w.heap.size, 1, none⟩ = some (.int .i64 i) := (hb.cell (p := ⟨w.heap.size, 1, none⟩) (Nat.lt_of_succ_lt hsz)).trans (by simp)
  have g12 : w1.cell? ⟨w.heap.size, 2, none⟩ = some (.int .i64 b) := (hb.cell (p := ⟨w.heap.size, 2, none⟩) (Nat.lt_of_succ_lt hsz)).trans (by simp)
  have p10 : w1.cell? ⟨w.heap.size + 1, 0, none⟩ = some (.int .i64 P.err) := (hb.cell (p := ⟨w.heap.size + 1, 0, none⟩) hsz).trans (by simp)
  have p11 : w1.cell? ⟨w.heap.size + 1, 1, none⟩ = some (.int .i64 P.ino) := (hb.cell (p := ⟨w.heap.size + 1, 1, none⟩) hsz).trans (by simp)
  have p12 : w1.cell? ⟨w.heap.size + 1, 2, none⟩ = some (.slice P.F.A P.F.n P.F.c) := (hb.cell (p := ⟨w.heap.size + 1, 2, none⟩) hsz).trans (by simp)
  have p13 : w1.cell? ⟨w.heap.size + 1, 3, none⟩ = some (.slice P.L.A P.L.n P.L.c) := (hb.cell (p := ⟨w.heap.size + 1, 3, none⟩) hsz).trans (by simp)
  have p14 : w1.cell? ⟨w.heap.size + 1, 4, none⟩ = some (.slice P.R.A P.R.n P.R.c) := (hb.cell (p := ⟨w.heap.size + 1, 4, none⟩) hsz).trans (by simp)
  have p15 : w1.cell? ⟨w.heap.size + 1, 5, none⟩ = some (.slice P.D.A P.D.n P.D.c) := (hb.cell (p := ⟨w.heap.size + 1, 5, none⟩) hsz).trans (by simp)
  clear hb
  go_wp2_with fail
  go_ret2
  exact ⟨rfl, B1.out⟩
theorem above5 (w : World) {p : Addr} {v : Value} (h : w.cell? p = some v) (o : Obj) : (w.alloc o).cell? p = some v := (World.cell?_alloc_lt _ _ p (block_lt_of_cell h)).trans h
theorem show2 (w : World) : ((w.alloc (.cells #[.int .u8 4, .int .i64 0, .int .u64 0] 53)).alloc (.cells #[.int .u8 4, .int .i64 0, .int .u64 0] 53)).heap[w.heap.size + 1]? = some (.cells #[.int .u8 4, .int .i64 0, .int .u64 0] 53 (0, 0)) := by
  have := heap_alloc_last (w.alloc (.cells #[.int .u8 4, .int .i64 0, .int .u64 0] 53)) (.cells #[.int .u8 4, .int .i64 0, .int .u64 0] 53)
  rw [World.size_alloc] at this
  exact this
theorem own_fresh {w : World} {B e size n : Nat} {v : Value} {xs : List Value} (h : w.ownsRow B e size v n xs) : v.ownBlock ≠ some w.heap.size := fun e => absurd (own_lt h e) (Nat.lt_irrefl _)
theorem lt_of_block {w : World} {q : Nat} {o : Obj} (h : w.heap[q]? = some o) : q < w.heap.size := (Array.getElem?_eq_some_iff.1 h).1
set_option maxHeartbeats 8000000 in
set_option maxRecDepth 100000 in
theorem rsteps_00 (p i b s : Int) (P : PlanD) (w : World) (hsm : P.small) (hp : PlanAt w P) (hv : errE p i b s P = 0) (hg : ∀ k, k < P.R.n → 0 ≤ P.R.g k ∧ P.R.g k < 18446744073709551616) (hL : P.L.n = 0) (hR : P.R.n = 0) :
    Calls Try.prog 11 #[.agg #[.int .i64 p, .int .i64 i, .int .i64 b], .int .i64 s, .agg #[.int .i64 P.err, .int .i64 P.ino, .slice P.F.A P.F.n P.F.c, .slice P.L.A P.L.n P.L.c, .slice P.R.A P.R.n P.R.c, .slice P.D.A P.D.n P.D.c]] w fun e w' => ∃ v, e = .returned (.tuple #[v, .int .i64 0]) ∧ OpsAt w' v (stepsL (slotAt i s) P) ∧ Below w.heap.size w w' := by
  obtain ⟨hgok, hs, hs2, hm⟩ := errE_zero hv
  obtain ⟨hno, h64⟩ := mayE_zero hm
  have HV := hid hv
  have H := hid hgok
  have HP := hid hp
  have HN := hid hno
  have HG := hid hg
  have Hle := hid (linesN_le hgok)
  have hl0 := (linesN_le hgok).1
  have hl1 := (linesN_le hgok).2
  obtain ⟨q1, q2, q3, q4, q5, q6⟩ := gok_iff.1 hgok
  have Hs1 := hsm.1
  have Hs2 := hsm.2.1
  have Hs3 := hsm.2.2.1
  have Hs4 := hsm.2.2.2
  have Hat : 0 ≤ slotAt i s ∧ slotAt i s + 136 ≤ 8 * linesN p i b := by unfold slotAt linesN; omega
  have n1 := writtenL_len P.F.f P.F.g P.F.n
  have n4 := writtenL_len P.R.f P.R.g P.R.n
  have n5 := writtenL_len (fun _ => slotAt i s) (fun _ => 0) 1
  have n6 := writtenL_len (fun _ => slotAt i s) (fun _ => (commitN P.R.f P.R.g P.R.n : Nat)) 1
  have n7 := writtenL_len (fun j => slotAt i s + 8 + j) (fun j => (bodyF P.R.f P.R.g j : Nat)) (2 * P.R.n)
  have n8 := storesL_len P.D.f P.D.g P.D.n
  have n9 : ∀ k, (flushL P.L.f k).length = k := fun k => by simp [flushL]
  have N9 := hid n9
  have N8 := hid n8
  have HL := hid hL
  have HR := hid hR
  clear hv hp hm hno hg hgok n9 n8 hL hR
  have b0 := hid (show Below w.heap.size w ((w.alloc (.cells #[.int .i64 p, .int .i64 i, .int .i64 b] 23)).alloc (.cells #[.int .i64 P.err, .int .i64 P.ino, .slice P.F.A P.F.n P.F.c, .slice P.L.A P.L.n P.L.c, .slice P.R.A P.R.n P.R.c, .slice P.D.A P.D.n P.D.c] 28)) from ((Below.refl _ _).alloc (Nat.le_refl _) _).alloc (by simp) _)
  have hsz : w.heap.size + 1 < ((w.alloc (.cells #[.int .i64 p, .int .i64 i, .int .i64 b] 23)).alloc (.cells #[.int .i64 P.err, .int .i64 P.ino, .slice P.F.A P.F.n P.F.c, .slice P.L.A P.L.n P.L.c, .slice P.R.A P.R.n P.R.c, .slice P.D.A P.D.n P.D.c] 28)).heap.size := by simp
  go_enter Try.func11, Try.ntmps11
  go_wp2_with fail
  refine (rmay_is p i b s P _ 0 hsm (HP.out.below b0.out) HV.out).mono ?_
  rintro e w1 ⟨rfl, hb⟩
  have B1 := hid (b0.out.trans (hb.mono b0.out.size))
  have Z1 : Hid (w.heap.size + 1 < w1.heap.size) := Nat.lt_of_lt_of_le hsz hb.size
  have g10 : w1.cell? ⟨w.heap.size, 0, none⟩ = some (.int .i64 p) := (hb.cell (p := ⟨w.heap.size, 0, none⟩) (Nat.lt_of_succ_lt hsz)).trans (by simp)
  have g11 : w1.cell? ⟨w.heap.size, 1, none⟩ = some (.int .i64 i) := (hb.cell (p := ⟨w.heap.size, 1, none⟩) (Nat.lt_of_succ_lt hsz)).trans (by simp)
  have g12 : w1.cell? ⟨w.heap.size, 2, none⟩ = some (.int .i64 b) := (hb.cell (p := ⟨w.heap.size, 2, none⟩) (Nat.lt_of_succ_lt hsz)).trans (by simp)
  have p10 : w1.cell? ⟨w.heap.size + 1, 0, none⟩ = some (.int .i64 P.err) := (hb.cell (p := ⟨w.heap.size + 1, 0, none⟩) hsz).trans (by simp)
  have p11 : w1.cell? ⟨w.heap.size + 1, 1, none⟩ = some (.int .i64 P.ino) := (hb.cell (p := ⟨w.heap.size + 1, 1, none⟩) hsz).trans (by simp)
  have p12 : w1.cell? ⟨w.heap.size + 1, 2, none⟩ = some (.slice P.F.A P.F.n P.F.c) := (hb.cell (p := ⟨w.heap.size + 1, 2, none⟩) hsz).trans (by simp)
  have p13 : w1.cell? ⟨w.heap.size + 1, 3, none⟩ = some (.slice P.L.A P.L.n P.L.c) := (hb.cell (p := ⟨w.heap.size + 1, 3, none⟩) hsz).trans (by simp)
  have p14 : w1.cell? ⟨w.heap.size + 1, 4, none⟩ = some (.slice P.R.A P.R.n P.R.c) := (hb.cell (p := ⟨w.heap.size + 1, 4, none⟩) hsz).trans (by simp)
  have p15 : w1.cell? ⟨w.heap.size + 1, 5, none⟩ = some (.slice P.D.A P.D.n P.D.c) := (hb.cell (p := ⟨w.heap.size + 1, 5, none⟩) hsz).trans (by simp)
  clear hb
  go_wp2_with fail
  refine (rwords_ok p i b _ H.out).mono ?_
  rintro e w2 ⟨rfl, hb⟩
  have B2 := hid (B1.out.trans (hb.mono B1.out.size))
  have Z2 : Hid (w.heap.size + 1 < w2.heap.size) := Nat.lt_of_lt_of_le Z1.out hb.size
  have g20 : w2.cell? ⟨w.heap.size, 0, none⟩ = some (.int .i64 p) := (hb.cell (p := ⟨w.heap.size, 0, none⟩) (Nat.lt_of_succ_lt Z1.out)).trans g10
  have g21 : w2.cell? ⟨w.heap.size, 1, none⟩ = some (.int .i64 i) := (hb.cell (p := ⟨w.heap.size, 1, none⟩) (Nat.lt_of_succ_lt Z1.out)).trans g11
  have g22 : w2.cell? ⟨w.heap.size, 2, none⟩ = some (.int .i64 b) := (hb.cell (p := ⟨w.heap.size, 2, none⟩) (Nat.lt_of_succ_lt Z1.out)).trans g12
  have p20 : w2.cell? ⟨w.heap.size + 1, 0, none⟩ = some (.int .i64 P.err) := (hb.cell (p := ⟨w.heap.size + 1, 0, none⟩) Z1.out).trans p10
  have p21 : w2.cell? ⟨w.heap.size + 1, 1, none⟩ = some (.int .i64 P.ino) := (hb.cell (p := ⟨w.heap.size + 1, 1, none⟩) Z1.out).trans p11
  have p22 : w2.cell? ⟨w.heap.size + 1, 2, none⟩ = some (.slice P.F.A P.F.n P.F.c) := (hb.cell (p := ⟨w.heap.size + 1, 2, none⟩) Z1.out).trans p12
  have p23 : w2.cell? ⟨w.heap.size + 1, 3, none⟩ = some (.slice P.L.A P.L.n P.L.c) := (hb.cell (p := ⟨w.heap.size + 1, 3, none⟩) Z1.out).trans p13
  have p24 : w2.cell? ⟨w.heap.size + 1, 4, none⟩ = some (.slice P.R.A P.R.n P.R.c) := (hb.cell (p := ⟨w.heap.size + 1, 4, none⟩) Z1.out).trans p14
  have p25 : w2.cell? ⟨w.heap.size + 1, 5, none⟩ = some (.slice P.D.A P.D.n P.D.c) := (hb.cell (p := ⟨w.heap.size + 1, 5, none⟩) Z1.out).trans p15
  clear hb g10 g11 g12 p10 p11 p12 p13 p14 p15
  go_wp2_with fail
  refine (rplace_ok p i b s _ H.out hs hs2).mono ?_
  rintro e w3 ⟨rfl, hb⟩
  have B3 := hid (B2.out.trans (hb.mono B2.out.size))
  have Z3 : Hid (w.heap.size + 1 < w3.heap.size) := Nat.lt_of_lt_of_le Z2.out hb.size
  have g30 : w3.cell? ⟨w.heap.size, 0, none⟩ = some (.int .i64 p) := (hb.cell (p := ⟨w.heap.size, 0, none⟩) (Nat.lt_of_succ_lt Z2.out)).trans g20
  have g31 : w3.cell? ⟨w.heap.size, 1, none⟩ = some (.int .i64 i) := (hb.cell (p := ⟨w.heap.size, 1, none⟩) (Nat.lt_of_succ_lt Z2.out)).trans g21
  have g32 : w3.cell? ⟨w.heap.size, 2, none⟩ = some (.int .i64 b) := (hb.cell (p := ⟨w.heap.size, 2, none⟩) (Nat.lt_of_succ_lt Z2.out)).trans g22
  have p30 : w3.cell? ⟨w.heap.size + 1, 0, none⟩ = some (.int .i64 P.err) := (hb.cell (p := ⟨w.heap.size + 1, 0, none⟩) Z2.out).trans p20
  have p31 : w3.cell? ⟨w.heap.size + 1, 1, none⟩ = some (.int .i64 P.ino) := (hb.cell (p := ⟨w.heap.size + 1, 1, none⟩) Z2.out).trans p21
  have p32 : w3.cell? ⟨w.heap.size + 1, 2, none⟩ = some (.slice P.F.A P.F.n P.F.c) := (hb.cell (p := ⟨w.heap.size + 1, 2, none⟩) Z2.out).trans p22
  have p33 : w3.cell? ⟨w.heap.size + 1, 3, none⟩ = some (.slice P.L.A P.L.n P.L.c) := (hb.cell (p := ⟨w.heap.size + 1, 3, none⟩) Z2.out).trans p23
  have p34 : w3.cell? ⟨w.heap.size + 1, 4, none⟩ = some (.slice P.R.A P.R.n P.R.c) := (hb.cell (p := ⟨w.heap.size + 1, 4, none⟩) Z2.out).trans p24
  have p35 : w3.cell? ⟨w.heap.size + 1, 5, none⟩ = some (.slice P.D.A P.D.n P.D.c) := (hb.cell (p := ⟨w.heap.size + 1, 5, none⟩) Z2.out).trans p25
  clear hb g20 g21 g22 p20 p21 p22 p23 p24 p25
  have C3 : Hid (w3.cell? ⟨w.heap.size + 1, 2, none⟩ = some (.slice P.F.A P.F.n P.F.c) ∧ w3.cell? ⟨w.heap.size + 1, 3, none⟩ = some (.slice P.L.A P.L.n P.L.c) ∧ w3.cell? ⟨w.heap.size + 1, 4, none⟩ = some (.slice P.R.A P.R.n P.R.c) ∧ w3.cell? ⟨w.heap.size + 1, 5, none⟩ = some (.slice P.D.A P.D.n P.D.c)) := ⟨p32, p33, p34, p35⟩
  have HP3 := hid (HP.out.below B3.out)
  clear g30 g31 g32 p30 p31 p33 p34 p35
  go_wp2_with fail
  refine (rwritten_ok (linesN p i b) Hle.out P.F.A P.F.n P.F.c P.F.f P.F.g _ (by omega) HP3.out.1 HN.out.1).mono ?_
  rintro e w4 ⟨v4, rfl, ho, hb⟩
  have O4 := hid (own_mono (Nat.le_refl _) ho)
  have B4 := hid hb
  clear ho hb p32
  go_wp2_with fail
  go_loopw [12, 13] (fun v j wr => ∃ k : Nat, k ≤ P.L.n ∧ j = .int .i64 k ∧ wr.ownsRow w3.heap.size 53 3 v (writtenL P.F.f P.F.g P.F.n ++ flushL P.L.f k).length (opsL (writtenL P.F.f P.F.g P.F.n ++ flushL P.L.f k)) ∧ Below w3.heap.size w3 wr) (fun _ j _ => P.L.n - (intOf j).toNat)
  case atStart => exact ⟨0, by omega, rfl, by simpa [flushL] using O4.out, B4.out⟩
  case round =>
    obtain ⟨k, hk, rfl, hown, hb⟩ := hrel
    have Ho := hid hown
    have Hb := hid hb
    clear hown hb
    have hkl := N9.out k
    have pr3 : wr.cell? ⟨w.heap.size + 1, 3, none⟩ = some (.slice P.L.A P.L.n P.L.c) := (Hb.out.cell (p := ⟨w.heap.size + 1, 3, none⟩) Z3.out).trans C3.out.2.1
    by_cases hlt : k < P.L.n
    · have hlt' : (k : Int) < (P.L.n : Int) := by omega
      obtain ⟨ad, hA, hadl, hc⟩ : ∃ ad, P.L.A = some ad ∧ ad.block < wr.heap.size ∧ ∀ k, k < P.L.n → wr.cell? (ad.add k) = some (.int .i64 (P.L.f k)) := by
        rcases ints_below HP3.out.2.1 Hb.out with h0 | h1
        · omega
        · exact h1
      have c0 := hc k hlt
      rw [hA] at pr3
      clear hc hA
      go_wp2_with (at_builtin; refine wpList_append_ops2 rfl (.tmp 44) (.tmp 51) rfl w3.heap.size _ (writtenL P.F.f P.F.g P.F.n ++ flushL P.L.f k) rfl (owns_below Ho.out ((Below.refl _ _).alloc (Nat.le_refl _) _)) (Nat.le_trans Hb.out.size (by simp)) _ [⟨2, P.L.f k, 0⟩] rfl (ops_one (heap_alloc_last wr _)) (by (try simp only [List.length_append]); (try simp only [List.length_cons]); (try simp only [List.length_nil]); (try rw [N9.out]); (try have := N8.out); (try have := HR.out); (try have := HL.out); omega) (by simp) ?_; intro v' w' ho' hb' _; have Ho' := hid ho'; have Hb' := hid ((Hb.out.alloc Hb.out.size _).trans hb'); clear ho' hb')
      go_roundw
      case rel =>
        refine ⟨k + 1, by omega, by go_num, ?_, Hb'.out⟩
        rw [flushL_succ, ← List.append_assoc]
        exact Ho'.out
      case measure => simp [intOf]; omega
    · have hkn : k = P.L.n := by omega
      clear hlt
      subst hkn
      have hrz : ((P.R.n : Int) == 0) = true := by rw [HR.out]; rfl
      have hz : ¬ (0 : Int) < (P.L.n : Int) := by have := HL.out; omega
      have p54 : wr.cell? ⟨w.heap.size + 1, 4, none⟩ = some (.slice P.R.A P.R.n P.R.c) := (Hb.out.cell (p := ⟨w.heap.size + 1, 4, none⟩) Z3.out).trans C3.out.2.2.1
      have p55 : wr.cell? ⟨w.heap.size + 1, 5, none⟩ = some (.slice P.D.A P.D.n P.D.c) := (Hb.out.cell (p := ⟨w.heap.size + 1, 5, none⟩) Z3.out).trans C3.out.2.2.2
      have q54 := above5 wr (p := ⟨w.heap.size + 1, 4, none⟩) p54 (.cells #[.int .u8 4, .int .i64 0, .int .u64 0] 53)
      have q55 := above5 wr (p := ⟨w.heap.size + 1, 5, none⟩) p55 (.cells #[.int .u8 4, .int .i64 0, .int .u64 0] 53)
      go_wp2_with (first
        | (go_at_call 37; refine (rstores_any P.D.A P.D.n P.D.c P.D.f P.D.g _ (by omega) (pairs_below HP3.out.2.2.2 B6.out)).mono ?_; rintro e w7 ⟨v7, rfl, ho', hb'⟩; have A7 := hid (ops_of_own N8.out.symm ho'); have O7 := hid (owns_below O6.out hb'); have B7 := hid (B6.out.trans (hb'.mono B6.out.size)); clear ho' hb')
        | (at_builtin; refine wpList_append_ops2 rfl (.tmp 66) (.tmp 68) rfl w3.heap.size _ (writtenL P.F.f P.F.g P.F.n ++ flushL P.L.f P.L.n) rfl (owns_below Ho.out (((Below.refl _ _).alloc (Nat.le_refl _) _).alloc (by simp) _)) (Nat.le_trans Hb.out.size (by simp; omega)) _ [⟨4, 0, 0⟩] rfl (ops_one (show2 wr)) (by (try simp only [List.length_append]); (try simp only [List.length_cons]); (try simp only [List.length_nil]); (try rw [N9.out]); (try have := N8.out); (try have := HR.out); (try have := HL.out); omega) (by simp) ?_; intro v6 w6 ho' hb' _; have O6 := hid ho'; have B6 := hid (((Hb.out.alloc Hb.out.size _).alloc (Nat.le_trans Hb.out.size (by simp)) _).trans hb'); clear ho' hb'; have p65 : w6.cell? ⟨w.heap.size + 1, 5, none⟩ = some (.slice P.D.A P.D.n P.D.c) := (B6.out.cell (p := ⟨w.heap.size + 1, 5, none⟩) Z3.out).trans C3.out.2.2.2)
        | (at_builtin; refine wpList_append_ops2 rfl (.tmp 70) (.tmp 73) rfl w3.heap.size _ ((writtenL P.F.f P.F.g P.F.n ++ flushL P.L.f P.L.n) ++ [(⟨4, 0, 0⟩ : Op3)]) rfl O7.out B7.out.size _ _ rfl A7.out (by (try simp only [List.length_append]); (try simp only [List.length_cons]); (try simp only [List.length_nil]); (try rw [N9.out]); (try have := N8.out); (try have := HR.out); (try have := HL.out); omega) (by have := N8.out; omega) ?_; intro v8 w8 ho' hb' _; have O8 := hid ho'; have B8 := hid (B7.out.trans hb'); clear ho' hb'))
      go_ret2
      refine ⟨_, rfl, ?_, B3.out.trans (B8.out.mono B3.out.size)⟩
      have e := ops_of_own rfl O8.out
      unfold stepsL
      rw [show linesL P.L.f P.L.n = [] by unfold linesL; rw [if_pos HL.out]]
      have e0 : flushL P.L.f P.L.n = [] := by rw [HL.out]; rfl
      rw [e0] at e
      rw [show redoL (slotAt i s) P.R.f P.R.g P.R.n = [] by unfold redoL; rw [if_pos HR.out], if_pos HR.out]
      simpa using e
set_option maxHeartbeats 8000000 in
set_option maxRecDepth 100000 in
theorem rsteps_10 (p i b s : Int) (P : PlanD) (w : World) (hsm : P.small) (hp : PlanAt w P) (hv : errE p i b s P = 0) (hg : ∀ k, k < P.R.n → 0 ≤ P.R.g k ∧ P.R.g k < 18446744073709551616) (hL : 0 < P.L.n) (hR : P.R.n = 0) :
    Calls Try.prog 11 #[.agg #[.int .i64 p, .int .i64 i, .int .i64 b], .int .i64 s, .agg #[.int .i64 P.err, .int .i64 P.ino, .slice P.F.A P.F.n P.F.c, .slice P.L.A P.L.n P.L.c, .slice P.R.A P.R.n P.R.c, .slice P.D.A P.D.n P.D.c]] w fun e w' => ∃ v, e = .returned (.tuple #[v, .int .i64 0]) ∧ OpsAt w' v (stepsL (slotAt i s) P) ∧ Below w.heap.size w w' := by
  obtain ⟨hgok, hs, hs2, hm⟩ := errE_zero hv
  obtain ⟨hno, h64⟩ := mayE_zero hm
  have HV := hid hv
  have H := hid hgok
  have HP := hid hp
  have HN := hid hno
  have HG := hid hg
  have Hle := hid (linesN_le hgok)
  have hl0 := (linesN_le hgok).1
  have hl1 := (linesN_le hgok).2
  obtain ⟨q1, q2, q3, q4, q5, q6⟩ := gok_iff.1 hgok
  have Hs1 := hsm.1
  have Hs2 := hsm.2.1
  have Hs3 := hsm.2.2.1
  have Hs4 := hsm.2.2.2
  have Hat : 0 ≤ slotAt i s ∧ slotAt i s + 136 ≤ 8 * linesN p i b := by unfold slotAt linesN; omega
  have n1 := writtenL_len P.F.f P.F.g P.F.n
  have n4 := writtenL_len P.R.f P.R.g P.R.n
  have n5 := writtenL_len (fun _ => slotAt i s) (fun _ => 0) 1
  have n6 := writtenL_len (fun _ => slotAt i s) (fun _ => (commitN P.R.f P.R.g P.R.n : Nat)) 1
  have n7 := writtenL_len (fun j => slotAt i s + 8 + j) (fun j => (bodyF P.R.f P.R.g j : Nat)) (2 * P.R.n)
  have n8 := storesL_len P.D.f P.D.g P.D.n
  have n9 : ∀ k, (flushL P.L.f k).length = k := fun k => by simp [flushL]
  have N9 := hid n9
  have N8 := hid n8
  have HL := hid hL
  have HR := hid hR
  clear hv hp hm hno hg hgok n9 n8 hL hR
  have b0 := hid (show Below w.heap.size w ((w.alloc (.cells #[.int .i64 p, .int .i64 i, .int .i64 b] 23)).alloc (.cells #[.int .i64 P.err, .int .i64 P.ino, .slice P.F.A P.F.n P.F.c, .slice P.L.A P.L.n P.L.c, .slice P.R.A P.R.n P.R.c, .slice P.D.A P.D.n P.D.c] 28)) from ((Below.refl _ _).alloc (Nat.le_refl _) _).alloc (by simp) _)
  have hsz : w.heap.size + 1 < ((w.alloc (.cells #[.int .i64 p, .int .i64 i, .int .i64 b] 23)).alloc (.cells #[.int .i64 P.err, .int .i64 P.ino, .slice P.F.A P.F.n P.F.c, .slice P.L.A P.L.n P.L.c, .slice P.R.A P.R.n P.R.c, .slice P.D.A P.D.n P.D.c] 28)).heap.size := by simp
  go_enter Try.func11, Try.ntmps11
  go_wp2_with fail
  refine (rmay_is p i b s P _ 0 hsm (HP.out.below b0.out) HV.out).mono ?_
  rintro e w1 ⟨rfl, hb⟩
  have B1 := hid (b0.out.trans (hb.mono b0.out.size))
  have Z1 : Hid (w.heap.size + 1 < w1.heap.size) := Nat.lt_of_lt_of_le hsz hb.size
  have g10 : w1.cell? ⟨w.heap.size, 0, none⟩ = some (.int .i64 p) := (hb.cell (p := ⟨w.heap.size, 0, none⟩) (Nat.lt_of_succ_lt hsz)).trans (by simp)
  have g11 : w1.cell? ⟨w.heap.size, 1, none⟩ = some (.int .i64 i) := (hb.cell (p := ⟨w.heap.size, 1, none⟩) (Nat.lt_of_succ_lt hsz)).trans (by simp)
  have g12 : w1.cell? ⟨w.heap.size, 2, none⟩ = some (.int .i64 b) := (hb.cell (p := ⟨w.heap.size, 2, none⟩) (Nat.lt_of_succ_lt hsz)).trans (by simp)
  have p10 : w1.cell? ⟨w.heap.size + 1, 0, none⟩ = some (.int .i64 P.err) := (hb.cell (p := ⟨w.heap.size + 1, 0, none⟩) hsz).trans (by simp)
  have p11 : w1.cell? ⟨w.heap.size + 1, 1, none⟩ = some (.int .i64 P.ino) := (hb.cell (p := ⟨w.heap.size + 1, 1, none⟩) hsz).trans (by simp)
  have p12 : w1.cell? ⟨w.heap.size + 1, 2, none⟩ = some (.slice P.F.A P.F.n P.F.c) := (hb.cell (p := ⟨w.heap.size + 1, 2, none⟩) hsz).trans (by simp)
  have p13 : w1.cell? ⟨w.heap.size + 1, 3, none⟩ = some (.slice P.L.A P.L.n P.L.c) := (hb.cell (p := ⟨w.heap.size + 1, 3, none⟩) hsz).trans (by simp)
  have p14 : w1.cell? ⟨w.heap.size + 1, 4, none⟩ = some (.slice P.R.A P.R.n P.R.c) := (hb.cell (p := ⟨w.heap.size + 1, 4, none⟩) hsz).trans (by simp)
  have p15 : w1.cell? ⟨w.heap.size + 1, 5, none⟩ = some (.slice P.D.A P.D.n P.D.c) := (hb.cell (p := ⟨w.heap.size + 1, 5, none⟩) hsz).trans (by simp)
  clear hb
  go_wp2_with fail
  refine (rwords_ok p i b _ H.out).mono ?_
  rintro e w2 ⟨rfl, hb⟩
  have B2 := hid (B1.out.trans (hb.mono B1.out.size))
  have Z2 : Hid (w.heap.size + 1 < w2.heap.size) := Nat.lt_of_lt_of_le Z1.out hb.size
  have g20 : w2.cell? ⟨w.heap.size, 0, none⟩ = some (.int .i64 p) := (hb.cell (p := ⟨w.heap.size, 0, none⟩) (Nat.lt_of_succ_lt Z1.out)).trans g10
  have g21 : w2.cell? ⟨w.heap.size, 1, none⟩ = some (.int .i64 i) := (hb.cell (p := ⟨w.heap.size, 1, none⟩) (Nat.lt_of_succ_lt Z1.out)).trans g11
  have g22 : w2.cell? ⟨w.heap.size, 2, none⟩ = some (.int .i64 b) := (hb.cell (p := ⟨w.heap.size, 2, none⟩) (Nat.lt_of_succ_lt Z1.out)).trans g12
  have p20 : w2.cell? ⟨w.heap.size + 1, 0, none⟩ = some (.int .i64 P.err) := (hb.cell (p := ⟨w.heap.size + 1, 0, none⟩) Z1.out).trans p10
  have p21 : w2.cell? ⟨w.heap.size + 1, 1, none⟩ = some (.int .i64 P.ino) := (hb.cell (p := ⟨w.heap.size + 1, 1, none⟩) Z1.out).trans p11
  have p22 : w2.cell? ⟨w.heap.size + 1, 2, none⟩ = some (.slice P.F.A P.F.n P.F.c) := (hb.cell (p := ⟨w.heap.size + 1, 2, none⟩) Z1.out).trans p12
  have p23 : w2.cell? ⟨w.heap.size + 1, 3, none⟩ = some (.slice P.L.A P.L.n P.L.c) := (hb.cell (p := ⟨w.heap.size + 1, 3, none⟩) Z1.out).trans p13
  have p24 : w2.cell? ⟨w.heap.size + 1, 4, none⟩ = some (.slice P.R.A P.R.n P.R.c) := (hb.cell (p := ⟨w.heap.size + 1, 4, none⟩) Z1.out).trans p14
  have p25 : w2.cell? ⟨w.heap.size + 1, 5, none⟩ = some (.slice P.D.A P.D.n P.D.c) := (hb.cell (p := ⟨w.heap.size + 1, 5, none⟩) Z1.out).trans p15
  clear hb g10 g11 g12 p10 p11 p12 p13 p14 p15
  go_wp2_with fail
  refine (rplace_ok p i b s _ H.out hs hs2).mono ?_
  rintro e w3 ⟨rfl, hb⟩
  have B3 := hid (B2.out.trans (hb.mono B2.out.size))
  have Z3 : Hid (w.heap.size + 1 < w3.heap.size) := Nat.lt_of_lt_of_le Z2.out hb.size
  have g30 : w3.cell? ⟨w.heap.size, 0, none⟩ = some (.int .i64 p) := (hb.cell (p := ⟨w.heap.size, 0, none⟩) (Nat.lt_of_succ_lt Z2.out)).trans g20
  have g31 : w3.cell? ⟨w.heap.size, 1, none⟩ = some (.int .i64 i) := (hb.cell (p := ⟨w.heap.size, 1, none⟩) (Nat.lt_of_succ_lt Z2.out)).trans g21
  have g32 : w3.cell? ⟨w.heap.size, 2, none⟩ = some (.int .i64 b) := (hb.cell (p := ⟨w.heap.size, 2, none⟩) (Nat.lt_of_succ_lt Z2.out)).trans g22
  have p30 : w3.cell? ⟨w.heap.size + 1, 0, none⟩ = some (.int .i64 P.err) := (hb.cell (p := ⟨w.heap.size + 1, 0, none⟩) Z2.out).trans p20
  have p31 : w3.cell? ⟨w.heap.size + 1, 1, none⟩ = some (.int .i64 P.ino) := (hb.cell (p := ⟨w.heap.size + 1, 1, none⟩) Z2.out).trans p21
  have p32 : w3.cell? ⟨w.heap.size + 1, 2, none⟩ = some (.slice P.F.A P.F.n P.F.c) := (hb.cell (p := ⟨w.heap.size + 1, 2, none⟩) Z2.out).trans p22
  have p33 : w3.cell? ⟨w.heap.size + 1, 3, none⟩ = some (.slice P.L.A P.L.n P.L.c) := (hb.cell (p := ⟨w.heap.size + 1, 3, none⟩) Z2.out).trans p23
  have p34 : w3.cell? ⟨w.heap.size + 1, 4, none⟩ = some (.slice P.R.A P.R.n P.R.c) := (hb.cell (p := ⟨w.heap.size + 1, 4, none⟩) Z2.out).trans p24
  have p35 : w3.cell? ⟨w.heap.size + 1, 5, none⟩ = some (.slice P.D.A P.D.n P.D.c) := (hb.cell (p := ⟨w.heap.size + 1, 5, none⟩) Z2.out).trans p25
  clear hb g20 g21 g22 p20 p21 p22 p23 p24 p25
  have C3 : Hid (w3.cell? ⟨w.heap.size + 1, 2, none⟩ = some (.slice P.F.A P.F.n P.F.c) ∧ w3.cell? ⟨w.heap.size + 1, 3, none⟩ = some (.slice P.L.A P.L.n P.L.c) ∧ w3.cell? ⟨w.heap.size + 1, 4, none⟩ = some (.slice P.R.A P.R.n P.R.c) ∧ w3.cell? ⟨w.heap.size + 1, 5, none⟩ = some (.slice P.D.A P.D.n P.D.c)) := ⟨p32, p33, p34, p35⟩
  have HP3 := hid (HP.out.below B3.out)
  clear g30 g31 g32 p30 p31 p33 p34 p35
  go_wp2_with fail
  refine (rwritten_ok (linesN p i b) Hle.out P.F.A P.F.n P.F.c P.F.f P.F.g _ (by omega) HP3.out.1 HN.out.1).mono ?_
  rintro e w4 ⟨v4, rfl, ho, hb⟩
  have O4 := hid (own_mono (Nat.le_refl _) ho)
  have B4 := hid hb
  clear ho hb p32
  go_wp2_with fail
  go_loopw [12, 13] (fun v j wr => ∃ k : Nat, k ≤ P.L.n ∧ j = .int .i64 k ∧ wr.ownsRow w3.heap.size 53 3 v (writtenL P.F.f P.F.g P.F.n ++ flushL P.L.f k).length (opsL (writtenL P.F.f P.F.g P.F.n ++ flushL P.L.f k)) ∧ Below w3.heap.size w3 wr) (fun _ j _ => P.L.n - (intOf j).toNat)
  case atStart => exact ⟨0, by omega, rfl, by simpa [flushL] using O4.out, B4.out⟩
  case round =>
    obtain ⟨k, hk, rfl, hown, hb⟩ := hrel
    have Ho := hid hown
    have Hb := hid hb
    clear hown hb
    have hkl := N9.out k
    have pr3 : wr.cell? ⟨w.heap.size + 1, 3, none⟩ = some (.slice P.L.A P.L.n P.L.c) := (Hb.out.cell (p := ⟨w.heap.size + 1, 3, none⟩) Z3.out).trans C3.out.2.1
    by_cases hlt : k < P.L.n
    · have hlt' : (k : Int) < (P.L.n : Int) := by omega
      obtain ⟨ad, hA, hadl, hc⟩ : ∃ ad, P.L.A = some ad ∧ ad.block < wr.heap.size ∧ ∀ k, k < P.L.n → wr.cell? (ad.add k) = some (.int .i64 (P.L.f k)) := by
        rcases ints_below HP3.out.2.1 Hb.out with h0 | h1
        · omega
        · exact h1
      have c0 := hc k hlt
      rw [hA] at pr3
      clear hc hA
      go_wp2_with (at_builtin; refine wpList_append_ops2 rfl (.tmp 44) (.tmp 51) rfl w3.heap.size _ (writtenL P.F.f P.F.g P.F.n ++ flushL P.L.f k) rfl (owns_below Ho.out ((Below.refl _ _).alloc (Nat.le_refl _) _)) (Nat.le_trans Hb.out.size (by simp)) _ [⟨2, P.L.f k, 0⟩] rfl (ops_one (heap_alloc_last wr _)) (by (try simp only [List.length_append]); (try simp only [List.length_cons]); (try simp only [List.length_nil]); (try rw [N9.out]); (try have := N8.out); (try have := HR.out); (try have := HL.out); omega) (by simp) ?_; intro v' w' ho' hb' _; have Ho' := hid ho'; have Hb' := hid ((Hb.out.alloc Hb.out.size _).trans hb'); clear ho' hb')
      go_roundw
      case rel =>
        refine ⟨k + 1, by omega, by go_num, ?_, Hb'.out⟩
        rw [flushL_succ, ← List.append_assoc]
        exact Ho'.out
      case measure => simp [intOf]; omega
    · have hkn : k = P.L.n := by omega
      clear hlt
      subst hkn
      have hrz : ((P.R.n : Int) == 0) = true := by rw [HR.out]; rfl
      have hz : (0 : Int) < (P.L.n : Int) := by have := HL.out; omega
      go_wp2_with (first
        | (at_builtin; refine wpList_append_ops2 rfl (.tmp 57) (.tmp 59) rfl w3.heap.size _ (writtenL P.F.f P.F.g P.F.n ++ flushL P.L.f P.L.n) rfl (owns_below Ho.out ((Below.refl _ _).alloc (Nat.le_refl _) _)) (Nat.le_trans Hb.out.size (by simp)) _ [⟨3, 0, 0⟩] rfl (ops_one (heap_alloc_last wr _)) (by (try simp only [List.length_append]); (try simp only [List.length_cons]); (try simp only [List.length_nil]); (try rw [N9.out]); (try have := N8.out); (try have := HR.out); (try have := HL.out); omega) (by simp) ?_; intro v5 w5 ho' hb' _; have O5 := hid ho'; have B5 := hid ((Hb.out.alloc Hb.out.size _).trans hb'); clear ho' hb' pr3; have p54 : w5.cell? ⟨w.heap.size + 1, 4, none⟩ = some (.slice P.R.A P.R.n P.R.c) := (B5.out.cell (p := ⟨w.heap.size + 1, 4, none⟩) Z3.out).trans C3.out.2.2.1; have p55 : w5.cell? ⟨w.heap.size + 1, 5, none⟩ = some (.slice P.D.A P.D.n P.D.c) := (B5.out.cell (p := ⟨w.heap.size + 1, 5, none⟩) Z3.out).trans C3.out.2.2.2; have q54 := above5 w5 (p := ⟨w.heap.size + 1, 4, none⟩) p54 (.cells #[.int .u8 4, .int .i64 0, .int .u64 0] 53); have q55 := above5 w5 (p := ⟨w.heap.size + 1, 5, none⟩) p55 (.cells #[.int .u8 4, .int .i64 0, .int .u64 0] 53))
        | (go_at_call 37; refine (rstores_any P.D.A P.D.n P.D.c P.D.f P.D.g _ (by omega) (pairs_below HP3.out.2.2.2 B6.out)).mono ?_; rintro e w7 ⟨v7, rfl, ho', hb'⟩; have A7 := hid (ops_of_own N8.out.symm ho'); have O7 := hid (owns_below O6.out hb'); have B7 := hid (B6.out.trans (hb'.mono B6.out.size)); clear ho' hb')
        | (at_builtin; refine wpList_append_ops2 rfl (.tmp 66) (.tmp 68) rfl w3.heap.size _ ((writtenL P.F.f P.F.g P.F.n ++ flushL P.L.f P.L.n) ++ [(⟨3, 0, 0⟩ : Op3)]) rfl (owns_below O5.out (((Below.refl _ _).alloc (Nat.le_refl _) _).alloc (by simp) _)) (Nat.le_trans B5.out.size (by simp; omega)) _ [⟨4, 0, 0⟩] rfl (ops_one (show2 w5)) (by (try simp only [List.length_append]); (try simp only [List.length_cons]); (try simp only [List.length_nil]); (try rw [N9.out]); (try have := N8.out); (try have := HR.out); (try have := HL.out); omega) (by simp) ?_; intro v6 w6 ho' hb' _; have O6 := hid ho'; have B6 := hid (((B5.out.alloc B5.out.size _).alloc (Nat.le_trans B5.out.size (by simp)) _).trans hb'); clear ho' hb'; have p65 : w6.cell? ⟨w.heap.size + 1, 5, none⟩ = some (.slice P.D.A P.D.n P.D.c) := (B6.out.cell (p := ⟨w.heap.size + 1, 5, none⟩) Z3.out).trans C3.out.2.2.2)
        | (at_builtin; refine wpList_append_ops2 rfl (.tmp 70) (.tmp 73) rfl w3.heap.size _ (((writtenL P.F.f P.F.g P.F.n ++ flushL P.L.f P.L.n) ++ [(⟨3, 0, 0⟩ : Op3)]) ++ [(⟨4, 0, 0⟩ : Op3)]) rfl O7.out B7.out.size _ _ rfl A7.out (by (try simp only [List.length_append]); (try simp only [List.length_cons]); (try simp only [List.length_nil]); (try rw [N9.out]); (try have := N8.out); (try have := HR.out); (try have := HL.out); omega) (by have := N8.out; omega) ?_; intro v8 w8 ho' hb' _; have O8 := hid ho'; have B8 := hid (B7.out.trans hb'); clear ho' hb'))
      go_ret2
      refine ⟨_, rfl, ?_, B3.out.trans (B8.out.mono B3.out.size)⟩
      have e := ops_of_own rfl O8.out
      unfold stepsL
      rw [show linesL P.L.f P.L.n = flushL P.L.f P.L.n ++ [⟨3, 0, 0⟩] by unfold linesL; rw [if_neg (by have := HL.out; omega)]]
      rw [show redoL (slotAt i s) P.R.f P.R.g P.R.n = [] by unfold redoL; rw [if_pos HR.out], if_pos HR.out]
      simpa using e
end Go.Proofs.Ytimfnimcmfjjpaa
