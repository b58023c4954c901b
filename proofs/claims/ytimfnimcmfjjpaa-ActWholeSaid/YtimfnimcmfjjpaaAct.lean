/- ActWhole: the walk. -/
import Derived.Test.YtimfnimcmfjjpaaWhole
import Derived.Test.YtimfnimcmfjjpaaRRead
import Derived.Test.YtimfnimcmfjjpaaStepsC
import Derived.Test.YtimfnimcmfjjpaaDWords
import Derived.Test.YtimfnimcmfjjpaaDSpare
namespace Go.Proofs.Ytimfnimcmfjjpaa
open Go.RowKit Go.Maps
theorem below3 (w : World) (o1 o2 o3 : Obj) : Below w.heap.size w (((w.alloc o1).alloc o2).alloc o3) ∧ w.heap.size + 2 < (((w.alloc o1).alloc o2).alloc o3).heap.size := by
  have e : ∀ (u : World) (o : Obj), (u.alloc o).heap.size = u.heap.size + 1 := fun u o => by simp
  refine ⟨(((Below.refl _ _).alloc (Nat.le_refl _) _).alloc (by rw [e]; omega) _).alloc (by rw [e, e]; omega) _, ?_⟩
  rw [e, e, e]
  omega
theorem alloc3 (w : World) (c1 c2 c3 : Array Value) (t1 t2 t3 : TypeId) : (((w.alloc (.cells c1 t1)).alloc (.cells c2 t2)).alloc (.cells c3 t3)).heap[w.heap.size]? = some (.cells c1 t1 (0, 0)) ∧ (((w.alloc (.cells c1 t1)).alloc (.cells c2 t2)).alloc (.cells c3 t3)).heap[w.heap.size + 1]? = some (.cells c2 t2 (0, 0)) ∧ (((w.alloc (.cells c1 t1)).alloc (.cells c2 t2)).alloc (.cells c3 t3)).heap[w.heap.size + 2]? = some (.cells c3 t3 (0, 0)) := by
  have e : ∀ (u : World) (o : Obj), (u.alloc o).heap.size = u.heap.size + 1 := fun u o => by simp
  have l : ∀ (u : World) (o : Obj) (k : Nat), k < u.heap.size → (u.alloc o).heap[k]? = u.heap[k]? := fun u o k hk => ((Below.refl u.heap.size u).alloc (Nat.le_refl _) o).block k hk
  refine ⟨?_, ?_, ?_⟩
  · rw [l _ _ _ (by rw [e, e]; omega), l _ _ _ (by rw [e]; omega)]
    exact heap_alloc_last _ _
  · rw [l _ _ _ (by rw [e, e]; omega), ← e w (.cells c1 t1)]
    exact heap_alloc_last _ _
  · rw [show w.heap.size + 2 = ((w.alloc (.cells c1 t1)).alloc (.cells c2 t2)).heap.size by rw [e, e]]
    exact heap_alloc_last _ _
theorem cells3 {w w' : World} {B b0 : Nat} {v0 v1 v2 : Value} (hb : Below b0 w w') (hB : B < b0) (h : w.cell? ⟨B, 0, none⟩ = some v0 ∧ w.cell? ⟨B, 1, none⟩ = some v1 ∧ w.cell? ⟨B, 2, none⟩ = some v2) :
    w'.cell? ⟨B, 0, none⟩ = some v0 ∧ w'.cell? ⟨B, 1, none⟩ = some v1 ∧ w'.cell? ⟨B, 2, none⟩ = some v2 := ⟨(hb.cell (p := ⟨B, 0, none⟩) hB).trans h.1, (hb.cell (p := ⟨B, 1, none⟩) hB).trans h.2.1, (hb.cell (p := ⟨B, 2, none⟩) hB).trans h.2.2⟩
theorem cells6 {w w' : World} {B b0 : Nat} {v0 v1 v2 v3 v4 v5 : Value} (hb : Below b0 w w') (hB : B < b0) (h : w.cell? ⟨B, 0, none⟩ = some v0 ∧ w.cell? ⟨B, 1, none⟩ = some v1 ∧ w.cell? ⟨B, 2, none⟩ = some v2 ∧ w.cell? ⟨B, 3, none⟩ = some v3 ∧ w.cell? ⟨B, 4, none⟩ = some v4 ∧ w.cell? ⟨B, 5, none⟩ = some v5) :
    w'.cell? ⟨B, 0, none⟩ = some v0 ∧ w'.cell? ⟨B, 1, none⟩ = some v1 ∧ w'.cell? ⟨B, 2, none⟩ = some v2 ∧ w'.cell? ⟨B, 3, none⟩ = some v3 ∧ w'.cell? ⟨B, 4, none⟩ = some v4 ∧ w'.cell? ⟨B, 5, none⟩ = some v5 := ⟨(hb.cell (p := ⟨B, 0, none⟩) hB).trans h.1, (hb.cell (p := ⟨B, 1, none⟩) hB).trans h.2.1, (hb.cell (p := ⟨B, 2, none⟩) hB).trans h.2.2.1, (hb.cell (p := ⟨B, 3, none⟩) hB).trans h.2.2.2.1, (hb.cell (p := ⟨B, 4, none⟩) hB).trans h.2.2.2.2.1, (hb.cell (p := ⟨B, 5, none⟩) hB).trans h.2.2.2.2.2⟩
theorem RowAt.takes {w : World} {q : Nat} {L : List Op3} (h : RowAt w q L) (k : Nat) : RowAt w q (L.take k) := ⟨h.1, fun j hj => by
  have hj' : j < L.length := by rw [List.length_take] at hj; omega
  have e : (L.take k)[j] = L[j] := List.getElem_take
  rw [e]
  exact h.2 j hj'⟩
theorem shown_next {L : List Op3} {k : Nat} (h : k < L.length) : shownB (L.take (k + 1)) = (shownB (L.take k) || (L[k].k == 4)) := by
  unfold shownB
  rw [List.take_add_one, List.getElem?_eq_getElem h, List.any_append]
  simp
theorem druns_len (s : DevS) : ∀ (L : List Op3), (druns s L).2.length ≤ s.2.length + L.length
  | [] => by simp [druns]
  | o :: L => by
    have h1 := druns_len (dstep s o) L
    have h2 := dstep_len s o
    show (druns (dstep s o) L).2.length ≤ _
    rw [List.length_cons]
    omega
theorem druns_in {n : Nat} : ∀ (L : List Op3) (s : DevS), InN n s.2 → (∀ o ∈ L, StepOk n o) → InN n (druns s L).2
  | [], _, h, _ => h
  | o :: L, s, h, ho => druns_in L (dstep s o) (dstep_in h (ho o (by simp))) fun x hx => ho x (by simp [hx])
theorem slot_of_row {w : World} {b n a : Nat} {K : Nat → Int} (h : KeptAt w b n K) (ha : a + 136 ≤ n) : SlotIn w (some ⟨b, a, none⟩) (fun k => K (a + k)) := by
  have hl : b < w.heap.size := by
    obtain ⟨cap, F, -, h2, -⟩ := h
    exact h2.lt
  refine ⟨_, rfl, hl, fun k hk => ?_⟩
  rw [← add_zero_off b a, Addr.add_add, add_zero_off]
  exact h.word (by omega)
set_option maxHeartbeats 8000000 in
set_option maxRecDepth 100000 in
theorem actw_large (p i b s : Int) (P : PlanD) (A : Option Addr) (m c : Nat) (cu : Int) (KA : Option Addr) (kn kc : Nat) (w : World) (h : largeB p i b P = true) :
    Calls Try.prog 4 #[.agg #[.int .i64 p, .int .i64 i, .int .i64 b], .int .i64 s, .agg #[.int .i64 P.err, .int .i64 P.ino, .slice P.F.A P.F.n P.F.c, .slice P.L.A P.L.n P.L.c, .slice P.R.A P.R.n P.R.c, .slice P.D.A P.D.n P.D.c], .agg #[.slice A m c, .int .u16 cu, .slice KA kn kc]] w fun e w' => e = .returned (.bool true) ∧ Below w.heap.size w w' := by
  have H := hid h
  obtain ⟨h31, h32, h33⟩ := alloc3 w #[.int .i64 p, .int .i64 i, .int .i64 b] #[.int .i64 P.err, .int .i64 P.ino, .slice P.F.A P.F.n P.F.c, .slice P.L.A P.L.n P.L.c, .slice P.R.A P.R.n P.R.c, .slice P.D.A P.D.n P.D.c] #[.slice A m c, .int .u16 cu, .slice KA kn kc] 23 28 42
  have G0 := hid (show (((w.alloc (.cells #[.int .i64 p, .int .i64 i, .int .i64 b] 23)).alloc (.cells #[.int .i64 P.err, .int .i64 P.ino, .slice P.F.A P.F.n P.F.c, .slice P.L.A P.L.n P.L.c, .slice P.R.A P.R.n P.R.c, .slice P.D.A P.D.n P.D.c] 28)).alloc (.cells #[.slice A m c, .int .u16 cu, .slice KA kn kc] 42)).cell? ⟨w.heap.size, 0, none⟩ = some (.int .i64 p) ∧ (((w.alloc (.cells #[.int .i64 p, .int .i64 i, .int .i64 b] 23)).alloc (.cells #[.int .i64 P.err, .int .i64 P.ino, .slice P.F.A P.F.n P.F.c, .slice P.L.A P.L.n P.L.c, .slice P.R.A P.R.n P.R.c, .slice P.D.A P.D.n P.D.c] 28)).alloc (.cells #[.slice A m c, .int .u16 cu, .slice KA kn kc] 42)).cell? ⟨w.heap.size, 1, none⟩ = some (.int .i64 i) ∧ (((w.alloc (.cells #[.int .i64 p, .int .i64 i, .int .i64 b] 23)).alloc (.cells #[.int .i64 P.err, .int .i64 P.ino, .slice P.F.A P.F.n P.F.c, .slice P.L.A P.L.n P.L.c, .slice P.R.A P.R.n P.R.c, .slice P.D.A P.D.n P.D.c] 28)).alloc (.cells #[.slice A m c, .int .u16 cu, .slice KA kn kc] 42)).cell? ⟨w.heap.size, 2, none⟩ = some (.int .i64 b) from ⟨cell_of_row _ _ 0 _ _ _ h31, cell_of_row _ _ 1 _ _ _ h31, cell_of_row _ _ 2 _ _ _ h31⟩)
  have Q0 := hid (show (((w.alloc (.cells #[.int .i64 p, .int .i64 i, .int .i64 b] 23)).alloc (.cells #[.int .i64 P.err, .int .i64 P.ino, .slice P.F.A P.F.n P.F.c, .slice P.L.A P.L.n P.L.c, .slice P.R.A P.R.n P.R.c, .slice P.D.A P.D.n P.D.c] 28)).alloc (.cells #[.slice A m c, .int .u16 cu, .slice KA kn kc] 42)).cell? ⟨w.heap.size + 1, 0, none⟩ = some (.int .i64 P.err) ∧ (((w.alloc (.cells #[.int .i64 p, .int .i64 i, .int .i64 b] 23)).alloc (.cells #[.int .i64 P.err, .int .i64 P.ino, .slice P.F.A P.F.n P.F.c, .slice P.L.A P.L.n P.L.c, .slice P.R.A P.R.n P.R.c, .slice P.D.A P.D.n P.D.c] 28)).alloc (.cells #[.slice A m c, .int .u16 cu, .slice KA kn kc] 42)).cell? ⟨w.heap.size + 1, 1, none⟩ = some (.int .i64 P.ino) ∧ (((w.alloc (.cells #[.int .i64 p, .int .i64 i, .int .i64 b] 23)).alloc (.cells #[.int .i64 P.err, .int .i64 P.ino, .slice P.F.A P.F.n P.F.c, .slice P.L.A P.L.n P.L.c, .slice P.R.A P.R.n P.R.c, .slice P.D.A P.D.n P.D.c] 28)).alloc (.cells #[.slice A m c, .int .u16 cu, .slice KA kn kc] 42)).cell? ⟨w.heap.size + 1, 2, none⟩ = some (.slice P.F.A P.F.n P.F.c) ∧ (((w.alloc (.cells #[.int .i64 p, .int .i64 i, .int .i64 b] 23)).alloc (.cells #[.int .i64 P.err, .int .i64 P.ino, .slice P.F.A P.F.n P.F.c, .slice P.L.A P.L.n P.L.c, .slice P.R.A P.R.n P.R.c, .slice P.D.A P.D.n P.D.c] 28)).alloc (.cells #[.slice A m c, .int .u16 cu, .slice KA kn kc] 42)).cell? ⟨w.heap.size + 1, 3, none⟩ = some (.slice P.L.A P.L.n P.L.c) ∧ (((w.alloc (.cells #[.int .i64 p, .int .i64 i, .int .i64 b] 23)).alloc (.cells #[.int .i64 P.err, .int .i64 P.ino, .slice P.F.A P.F.n P.F.c, .slice P.L.A P.L.n P.L.c, .slice P.R.A P.R.n P.R.c, .slice P.D.A P.D.n P.D.c] 28)).alloc (.cells #[.slice A m c, .int .u16 cu, .slice KA kn kc] 42)).cell? ⟨w.heap.size + 1, 4, none⟩ = some (.slice P.R.A P.R.n P.R.c) ∧ (((w.alloc (.cells #[.int .i64 p, .int .i64 i, .int .i64 b] 23)).alloc (.cells #[.int .i64 P.err, .int .i64 P.ino, .slice P.F.A P.F.n P.F.c, .slice P.L.A P.L.n P.L.c, .slice P.R.A P.R.n P.R.c, .slice P.D.A P.D.n P.D.c] 28)).alloc (.cells #[.slice A m c, .int .u16 cu, .slice KA kn kc] 42)).cell? ⟨w.heap.size + 1, 5, none⟩ = some (.slice P.D.A P.D.n P.D.c) from ⟨cell_of_row _ _ 0 _ _ _ h32, cell_of_row _ _ 1 _ _ _ h32, cell_of_row _ _ 2 _ _ _ h32, cell_of_row _ _ 3 _ _ _ h32, cell_of_row _ _ 4 _ _ _ h32, cell_of_row _ _ 5 _ _ _ h32⟩)
  have C0 := hid (show (((w.alloc (.cells #[.int .i64 p, .int .i64 i, .int .i64 b] 23)).alloc (.cells #[.int .i64 P.err, .int .i64 P.ino, .slice P.F.A P.F.n P.F.c, .slice P.L.A P.L.n P.L.c, .slice P.R.A P.R.n P.R.c, .slice P.D.A P.D.n P.D.c] 28)).alloc (.cells #[.slice A m c, .int .u16 cu, .slice KA kn kc] 42)).cell? ⟨w.heap.size + 2, 0, none⟩ = some (.slice A m c) ∧ (((w.alloc (.cells #[.int .i64 p, .int .i64 i, .int .i64 b] 23)).alloc (.cells #[.int .i64 P.err, .int .i64 P.ino, .slice P.F.A P.F.n P.F.c, .slice P.L.A P.L.n P.L.c, .slice P.R.A P.R.n P.R.c, .slice P.D.A P.D.n P.D.c] 28)).alloc (.cells #[.slice A m c, .int .u16 cu, .slice KA kn kc] 42)).cell? ⟨w.heap.size + 2, 1, none⟩ = some (.int .u16 cu) ∧ (((w.alloc (.cells #[.int .i64 p, .int .i64 i, .int .i64 b] 23)).alloc (.cells #[.int .i64 P.err, .int .i64 P.ino, .slice P.F.A P.F.n P.F.c, .slice P.L.A P.L.n P.L.c, .slice P.R.A P.R.n P.R.c, .slice P.D.A P.D.n P.D.c] 28)).alloc (.cells #[.slice A m c, .int .u16 cu, .slice KA kn kc] 42)).cell? ⟨w.heap.size + 2, 2, none⟩ = some (.slice KA kn kc) from ⟨cell_of_row _ _ 0 _ _ _ h33, cell_of_row _ _ 1 _ _ _ h33, cell_of_row _ _ 2 _ _ _ h33⟩)
  clear h31 h32 h33
  have b0 := hid (below3 w (.cells #[.int .i64 p, .int .i64 i, .int .i64 b] 23) (.cells #[.int .i64 P.err, .int .i64 P.ino, .slice P.F.A P.F.n P.F.c, .slice P.L.A P.L.n P.L.c, .slice P.R.A P.R.n P.R.c, .slice P.D.A P.D.n P.D.c] 28) (.cells #[.slice A m c, .int .u16 cu, .slice KA kn kc] 42)).1
  have hsz := hid (below3 w (.cells #[.int .i64 p, .int .i64 i, .int .i64 b] 23) (.cells #[.int .i64 P.err, .int .i64 P.ino, .slice P.F.A P.F.n P.F.c, .slice P.L.A P.L.n P.L.c, .slice P.R.A P.R.n P.R.c, .slice P.D.A P.D.n P.D.c] 28) (.cells #[.slice A m c, .int .u16 cu, .slice KA kn kc] 42)).2
  clear h
  go_enter Try.func4, Try.ntmps4
  go_wp2_with (first
    | (go_at_call 7; refine (large_any p i b P _ true H.out).mono ?_; rintro e w1 ⟨rfl, hb⟩; have B1 := hid (b0.out.trans (hb.mono b0.out.size)); have C1 := cells3 hb hsz.out C0.out; have k0 := C1.1; have k2 := C1.2.2; clear hb C1)
    | (go_at_call 8; refine (alive_any _).mono ?_; rintro e w2 ⟨rfl, hb⟩; have B2 := hid (B1.out.trans (hb.mono B1.out.size)); clear hb))
  go_ret
  exact ⟨rfl, B2.out⟩
set_option maxHeartbeats 8000000 in
set_option maxRecDepth 100000 in
theorem actw_long (p i b s : Int) (P : PlanD) (A : Option Addr) (m c : Nat) (cu : Int) (KA : Option Addr) (kn kc : Nat) (w : World) (h : largeB p i b P = false) (hm : 300 < m) :
    Calls Try.prog 4 #[.agg #[.int .i64 p, .int .i64 i, .int .i64 b], .int .i64 s, .agg #[.int .i64 P.err, .int .i64 P.ino, .slice P.F.A P.F.n P.F.c, .slice P.L.A P.L.n P.L.c, .slice P.R.A P.R.n P.R.c, .slice P.D.A P.D.n P.D.c], .agg #[.slice A m c, .int .u16 cu, .slice KA kn kc]] w fun e w' => e = .returned (.bool true) ∧ Below w.heap.size w w' := by
  have H := hid h
  have hm' : (300 : Int) < (m : Int) := by omega
  obtain ⟨h31, h32, h33⟩ := alloc3 w #[.int .i64 p, .int .i64 i, .int .i64 b] #[.int .i64 P.err, .int .i64 P.ino, .slice P.F.A P.F.n P.F.c, .slice P.L.A P.L.n P.L.c, .slice P.R.A P.R.n P.R.c, .slice P.D.A P.D.n P.D.c] #[.slice A m c, .int .u16 cu, .slice KA kn kc] 23 28 42
  have G0 := hid (show (((w.alloc (.cells #[.int .i64 p, .int .i64 i, .int .i64 b] 23)).alloc (.cells #[.int .i64 P.err, .int .i64 P.ino, .slice P.F.A P.F.n P.F.c, .slice P.L.A P.L.n P.L.c, .slice P.R.A P.R.n P.R.c, .slice P.D.A P.D.n P.D.c] 28)).alloc (.cells #[.slice A m c, .int .u16 cu, .slice KA kn kc] 42)).cell? ⟨w.heap.size, 0, none⟩ = some (.int .i64 p) ∧ (((w.alloc (.cells #[.int .i64 p, .int .i64 i, .int .i64 b] 23)).alloc (.cells #[.int .i64 P.err, .int .i64 P.ino, .slice P.F.A P.F.n P.F.c, .slice P.L.A P.L.n P.L.c, .slice P.R.A P.R.n P.R.c, .slice P.D.A P.D.n P.D.c] 28)).alloc (.cells #[.slice A m c, .int .u16 cu, .slice KA kn kc] 42)).cell? ⟨w.heap.size, 1, none⟩ = some (.int .i64 i) ∧ (((w.alloc (.cells #[.int .i64 p, .int .i64 i, .int .i64 b] 23)).alloc (.cells #[.int .i64 P.err, .int .i64 P.ino, .slice P.F.A P.F.n P.F.c, .slice P.L.A P.L.n P.L.c, .slice P.R.A P.R.n P.R.c, .slice P.D.A P.D.n P.D.c] 28)).alloc (.cells #[.slice A m c, .int .u16 cu, .slice KA kn kc] 42)).cell? ⟨w.heap.size, 2, none⟩ = some (.int .i64 b) from ⟨cell_of_row _ _ 0 _ _ _ h31, cell_of_row _ _ 1 _ _ _ h31, cell_of_row _ _ 2 _ _ _ h31⟩)
  have Q0 := hid (show (((w.alloc (.cells #[.int .i64 p, .int .i64 i, .int .i64 b] 23)).alloc (.cells #[.int .i64 P.err, .int .i64 P.ino, .slice P.F.A P.F.n P.F.c, .slice P.L.A P.L.n P.L.c, .slice P.R.A P.R.n P.R.c, .slice P.D.A P.D.n P.D.c] 28)).alloc (.cells #[.slice A m c, .int .u16 cu, .slice KA kn kc] 42)).cell? ⟨w.heap.size + 1, 0, none⟩ = some (.int .i64 P.err) ∧ (((w.alloc (.cells #[.int .i64 p, .int .i64 i, .int .i64 b] 23)).alloc (.cells #[.int .i64 P.err, .int .i64 P.ino, .slice P.F.A P.F.n P.F.c, .slice P.L.A P.L.n P.L.c, .slice P.R.A P.R.n P.R.c, .slice P.D.A P.D.n P.D.c] 28)).alloc (.cells #[.slice A m c, .int .u16 cu, .slice KA kn kc] 42)).cell? ⟨w.heap.size + 1, 1, none⟩ = some (.int .i64 P.ino) ∧ (((w.alloc (.cells #[.int .i64 p, .int .i64 i, .int .i64 b] 23)).alloc (.cells #[.int .i64 P.err, .int .i64 P.ino, .slice P.F.A P.F.n P.F.c, .slice P.L.A P.L.n P.L.c, .slice P.R.A P.R.n P.R.c, .slice P.D.A P.D.n P.D.c] 28)).alloc (.cells #[.slice A m c, .int .u16 cu, .slice KA kn kc] 42)).cell? ⟨w.heap.size + 1, 2, none⟩ = some (.slice P.F.A P.F.n P.F.c) ∧ (((w.alloc (.cells #[.int .i64 p, .int .i64 i, .int .i64 b] 23)).alloc (.cells #[.int .i64 P.err, .int .i64 P.ino, .slice P.F.A P.F.n P.F.c, .slice P.L.A P.L.n P.L.c, .slice P.R.A P.R.n P.R.c, .slice P.D.A P.D.n P.D.c] 28)).alloc (.cells #[.slice A m c, .int .u16 cu, .slice KA kn kc] 42)).cell? ⟨w.heap.size + 1, 3, none⟩ = some (.slice P.L.A P.L.n P.L.c) ∧ (((w.alloc (.cells #[.int .i64 p, .int .i64 i, .int .i64 b] 23)).alloc (.cells #[.int .i64 P.err, .int .i64 P.ino, .slice P.F.A P.F.n P.F.c, .slice P.L.A P.L.n P.L.c, .slice P.R.A P.R.n P.R.c, .slice P.D.A P.D.n P.D.c] 28)).alloc (.cells #[.slice A m c, .int .u16 cu, .slice KA kn kc] 42)).cell? ⟨w.heap.size + 1, 4, none⟩ = some (.slice P.R.A P.R.n P.R.c) ∧ (((w.alloc (.cells #[.int .i64 p, .int .i64 i, .int .i64 b] 23)).alloc (.cells #[.int .i64 P.err, .int .i64 P.ino, .slice P.F.A P.F.n P.F.c, .slice P.L.A P.L.n P.L.c, .slice P.R.A P.R.n P.R.c, .slice P.D.A P.D.n P.D.c] 28)).alloc (.cells #[.slice A m c, .int .u16 cu, .slice KA kn kc] 42)).cell? ⟨w.heap.size + 1, 5, none⟩ = some (.slice P.D.A P.D.n P.D.c) from ⟨cell_of_row _ _ 0 _ _ _ h32, cell_of_row _ _ 1 _ _ _ h32, cell_of_row _ _ 2 _ _ _ h32, cell_of_row _ _ 3 _ _ _ h32, cell_of_row _ _ 4 _ _ _ h32, cell_of_row _ _ 5 _ _ _ h32⟩)
  have C0 := hid (show (((w.alloc (.cells #[.int .i64 p, .int .i64 i, .int .i64 b] 23)).alloc (.cells #[.int .i64 P.err, .int .i64 P.ino, .slice P.F.A P.F.n P.F.c, .slice P.L.A P.L.n P.L.c, .slice P.R.A P.R.n P.R.c, .slice P.D.A P.D.n P.D.c] 28)).alloc (.cells #[.slice A m c, .int .u16 cu, .slice KA kn kc] 42)).cell? ⟨w.heap.size + 2, 0, none⟩ = some (.slice A m c) ∧ (((w.alloc (.cells #[.int .i64 p, .int .i64 i, .int .i64 b] 23)).alloc (.cells #[.int .i64 P.err, .int .i64 P.ino, .slice P.F.A P.F.n P.F.c, .slice P.L.A P.L.n P.L.c, .slice P.R.A P.R.n P.R.c, .slice P.D.A P.D.n P.D.c] 28)).alloc (.cells #[.slice A m c, .int .u16 cu, .slice KA kn kc] 42)).cell? ⟨w.heap.size + 2, 1, none⟩ = some (.int .u16 cu) ∧ (((w.alloc (.cells #[.int .i64 p, .int .i64 i, .int .i64 b] 23)).alloc (.cells #[.int .i64 P.err, .int .i64 P.ino, .slice P.F.A P.F.n P.F.c, .slice P.L.A P.L.n P.L.c, .slice P.R.A P.R.n P.R.c, .slice P.D.A P.D.n P.D.c] 28)).alloc (.cells #[.slice A m c, .int .u16 cu, .slice KA kn kc] 42)).cell? ⟨w.heap.size + 2, 2, none⟩ = some (.slice KA kn kc) from ⟨cell_of_row _ _ 0 _ _ _ h33, cell_of_row _ _ 1 _ _ _ h33, cell_of_row _ _ 2 _ _ _ h33⟩)
  clear h31 h32 h33
  have b0 := hid (below3 w (.cells #[.int .i64 p, .int .i64 i, .int .i64 b] 23) (.cells #[.int .i64 P.err, .int .i64 P.ino, .slice P.F.A P.F.n P.F.c, .slice P.L.A P.L.n P.L.c, .slice P.R.A P.R.n P.R.c, .slice P.D.A P.D.n P.D.c] 28) (.cells #[.slice A m c, .int .u16 cu, .slice KA kn kc] 42)).1
  have hsz := hid (below3 w (.cells #[.int .i64 p, .int .i64 i, .int .i64 b] 23) (.cells #[.int .i64 P.err, .int .i64 P.ino, .slice P.F.A P.F.n P.F.c, .slice P.L.A P.L.n P.L.c, .slice P.R.A P.R.n P.R.c, .slice P.D.A P.D.n P.D.c] 28) (.cells #[.slice A m c, .int .u16 cu, .slice KA kn kc] 42)).2
  clear h
  go_enter Try.func4, Try.ntmps4
  go_wp2_with (first
    | (go_at_call 7; refine (large_any p i b P _ false H.out).mono ?_; rintro e w1 ⟨rfl, hb⟩; have B1 := hid (b0.out.trans (hb.mono b0.out.size)); have C1 := cells3 hb hsz.out C0.out; have k0 := C1.1; have k2 := C1.2.2; clear hb C1)
    | (go_at_call 8; refine (alive_any _).mono ?_; rintro e w2 ⟨rfl, hb⟩; have B2 := hid (B1.out.trans (hb.mono B1.out.size)); clear hb))
  go_ret
  exact ⟨rfl, B2.out⟩
set_option maxHeartbeats 8000000 in
set_option maxRecDepth 100000 in
theorem actw_long2 (p i b s : Int) (P : PlanD) (A : Option Addr) (m c : Nat) (cu : Int) (KA : Option Addr) (kn kc : Nat) (w : World) (h : largeB p i b P = false) (hm : m ≤ 300) (hk : 2000 < kn) :
    Calls Try.prog 4 #[.agg #[.int .i64 p, .int .i64 i, .int .i64 b], .int .i64 s, .agg #[.int .i64 P.err, .int .i64 P.ino, .slice P.F.A P.F.n P.F.c, .slice P.L.A P.L.n P.L.c, .slice P.R.A P.R.n P.R.c, .slice P.D.A P.D.n P.D.c], .agg #[.slice A m c, .int .u16 cu, .slice KA kn kc]] w fun e w' => e = .returned (.bool true) ∧ Below w.heap.size w w' := by
  have H := hid h
  have hm' : ¬ (300 : Int) < (m : Int) := by omega
  have hk' : (2000 : Int) < (kn : Int) := by omega
  obtain ⟨h31, h32, h33⟩ := alloc3 w #[.int .i64 p, .int .i64 i, .int .i64 b] #[.int .i64 P.err, .int .i64 P.ino, .slice P.F.A P.F.n P.F.c, .slice P.L.A P.L.n P.L.c, .slice P.R.A P.R.n P.R.c, .slice P.D.A P.D.n P.D.c] #[.slice A m c, .int .u16 cu, .slice KA kn kc] 23 28 42
  have G0 := hid (show (((w.alloc (.cells #[.int .i64 p, .int .i64 i, .int .i64 b] 23)).alloc (.cells #[.int .i64 P.err, .int .i64 P.ino, .slice P.F.A P.F.n P.F.c, .slice P.L.A P.L.n P.L.c, .slice P.R.A P.R.n P.R.c, .slice P.D.A P.D.n P.D.c] 28)).alloc (.cells #[.slice A m c, .int .u16 cu, .slice KA kn kc] 42)).cell? ⟨w.heap.size, 0, none⟩ = some (.int .i64 p) ∧ (((w.alloc (.cells #[.int .i64 p, .int .i64 i, .int .i64 b] 23)).alloc (.cells #[.int .i64 P.err, .int .i64 P.ino, .slice P.F.A P.F.n P.F.c, .slice P.L.A P.L.n P.L.c, .slice P.R.A P.R.n P.R.c, .slice P.D.A P.D.n P.D.c] 28)).alloc (.cells #[.slice A m c, .int .u16 cu, .slice KA kn kc] 42)).cell? ⟨w.heap.size, 1, none⟩ = some (.int .i64 i) ∧ (((w.alloc (.cells #[.int .i64 p, .int .i64 i, .int .i64 b] 23)).alloc (.cells #[.int .i64 P.err, .int .i64 P.ino, .slice P.F.A P.F.n P.F.c, .slice P.L.A P.L.n P.L.c, .slice P.R.A P.R.n P.R.c, .slice P.D.A P.D.n P.D.c] 28)).alloc (.cells #[.slice A m c, .int .u16 cu, .slice KA kn kc] 42)).cell? ⟨w.heap.size, 2, none⟩ = some (.int .i64 b) from ⟨cell_of_row _ _ 0 _ _ _ h31, cell_of_row _ _ 1 _ _ _ h31, cell_of_row _ _ 2 _ _ _ h31⟩)
  have Q0 := hid (show (((w.alloc (.cells #[.int .i64 p, .int .i64 i, .int .i64 b] 23)).alloc (.cells #[.int .i64 P.err, .int .i64 P.ino, .slice P.F.A P.F.n P.F.c, .slice P.L.A P.L.n P.L.c, .slice P.R.A P.R.n P.R.c, .slice P.D.A P.D.n P.D.c] 28)).alloc (.cells #[.slice A m c, .int .u16 cu, .slice KA kn kc] 42)).cell? ⟨w.heap.size + 1, 0, none⟩ = some (.int .i64 P.err) ∧ (((w.alloc (.cells #[.int .i64 p, .int .i64 i, .int .i64 b] 23)).alloc (.cells #[.int .i64 P.err, .int .i64 P.ino, .slice P.F.A P.F.n P.F.c, .slice P.L.A P.L.n P.L.c, .slice P.R.A P.R.n P.R.c, .slice P.D.A P.D.n P.D.c] 28)).alloc (.cells #[.slice A m c, .int .u16 cu, .slice KA kn kc] 42)).cell? ⟨w.heap.size + 1, 1, none⟩ = some (.int .i64 P.ino) ∧ (((w.alloc (.cells #[.int .i64 p, .int .i64 i, .int .i64 b] 23)).alloc (.cells #[.int .i64 P.err, .int .i64 P.ino, .slice P.F.A P.F.n P.F.c, .slice P.L.A P.L.n P.L.c, .slice P.R.A P.R.n P.R.c, .slice P.D.A P.D.n P.D.c] 28)).alloc (.cells #[.slice A m c, .int .u16 cu, .slice KA kn kc] 42)).cell? ⟨w.heap.size + 1, 2, none⟩ = some (.slice P.F.A P.F.n P.F.c) ∧ (((w.alloc (.cells #[.int .i64 p, .int .i64 i, .int .i64 b] 23)).alloc (.cells #[.int .i64 P.err, .int .i64 P.ino, .slice P.F.A P.F.n P.F.c, .slice P.L.A P.L.n P.L.c, .slice P.R.A P.R.n P.R.c, .slice P.D.A P.D.n P.D.c] 28)).alloc (.cells #[.slice A m c, .int .u16 cu, .slice KA kn kc] 42)).cell? ⟨w.heap.size + 1, 3, none⟩ = some (.slice P.L.A P.L.n P.L.c) ∧ (((w.alloc (.cells #[.int .i64 p, .int .i64 i, .int .i64 b] 23)).alloc (.cells #[.int .i64 P.err, .int .i64 P.ino, .slice P.F.A P.F.n P.F.c, .slice P.L.A P.L.n P.L.c, .slice P.R.A P.R.n P.R.c, .slice P.D.A P.D.n P.D.c] 28)).alloc (.cells #[.slice A m c, .int .u16 cu, .slice KA kn kc] 42)).cell? ⟨w.heap.size + 1, 4, none⟩ = some (.slice P.R.A P.R.n P.R.c) ∧ (((w.alloc (.cells #[.int .i64 p, .int .i64 i, .int .i64 b] 23)).alloc (.cells #[.int .i64 P.err, .int .i64 P.ino, .slice P.F.A P.F.n P.F.c, .slice P.L.A P.L.n P.L.c, .slice P.R.A P.R.n P.R.c, .slice P.D.A P.D.n P.D.c] 28)).alloc (.cells #[.slice A m c, .int .u16 cu, .slice KA kn kc] 42)).cell? ⟨w.heap.size + 1, 5, none⟩ = some (.slice P.D.A P.D.n P.D.c) from ⟨cell_of_row _ _ 0 _ _ _ h32, cell_of_row _ _ 1 _ _ _ h32, cell_of_row _ _ 2 _ _ _ h32, cell_of_row _ _ 3 _ _ _ h32, cell_of_row _ _ 4 _ _ _ h32, cell_of_row _ _ 5 _ _ _ h32⟩)
  have C0 := hid (show (((w.alloc (.cells #[.int .i64 p, .int .i64 i, .int .i64 b] 23)).alloc (.cells #[.int .i64 P.err, .int .i64 P.ino, .slice P.F.A P.F.n P.F.c, .slice P.L.A P.L.n P.L.c, .slice P.R.A P.R.n P.R.c, .slice P.D.A P.D.n P.D.c] 28)).alloc (.cells #[.slice A m c, .int .u16 cu, .slice KA kn kc] 42)).cell? ⟨w.heap.size + 2, 0, none⟩ = some (.slice A m c) ∧ (((w.alloc (.cells #[.int .i64 p, .int .i64 i, .int .i64 b] 23)).alloc (.cells #[.int .i64 P.err, .int .i64 P.ino, .slice P.F.A P.F.n P.F.c, .slice P.L.A P.L.n P.L.c, .slice P.R.A P.R.n P.R.c, .slice P.D.A P.D.n P.D.c] 28)).alloc (.cells #[.slice A m c, .int .u16 cu, .slice KA kn kc] 42)).cell? ⟨w.heap.size + 2, 1, none⟩ = some (.int .u16 cu) ∧ (((w.alloc (.cells #[.int .i64 p, .int .i64 i, .int .i64 b] 23)).alloc (.cells #[.int .i64 P.err, .int .i64 P.ino, .slice P.F.A P.F.n P.F.c, .slice P.L.A P.L.n P.L.c, .slice P.R.A P.R.n P.R.c, .slice P.D.A P.D.n P.D.c] 28)).alloc (.cells #[.slice A m c, .int .u16 cu, .slice KA kn kc] 42)).cell? ⟨w.heap.size + 2, 2, none⟩ = some (.slice KA kn kc) from ⟨cell_of_row _ _ 0 _ _ _ h33, cell_of_row _ _ 1 _ _ _ h33, cell_of_row _ _ 2 _ _ _ h33⟩)
  clear h31 h32 h33
  have b0 := hid (below3 w (.cells #[.int .i64 p, .int .i64 i, .int .i64 b] 23) (.cells #[.int .i64 P.err, .int .i64 P.ino, .slice P.F.A P.F.n P.F.c, .slice P.L.A P.L.n P.L.c, .slice P.R.A P.R.n P.R.c, .slice P.D.A P.D.n P.D.c] 28) (.cells #[.slice A m c, .int .u16 cu, .slice KA kn kc] 42)).1
  have hsz := hid (below3 w (.cells #[.int .i64 p, .int .i64 i, .int .i64 b] 23) (.cells #[.int .i64 P.err, .int .i64 P.ino, .slice P.F.A P.F.n P.F.c, .slice P.L.A P.L.n P.L.c, .slice P.R.A P.R.n P.R.c, .slice P.D.A P.D.n P.D.c] 28) (.cells #[.slice A m c, .int .u16 cu, .slice KA kn kc] 42)).2
  clear h
  go_enter Try.func4, Try.ntmps4
  go_wp2_with (first
    | (go_at_call 7; refine (large_any p i b P _ false H.out).mono ?_; rintro e w1 ⟨rfl, hb⟩; have B1 := hid (b0.out.trans (hb.mono b0.out.size)); have C1 := cells3 hb hsz.out C0.out; have k0 := C1.1; have k2 := C1.2.2; clear hb C1)
    | (go_at_call 8; refine (alive_any _).mono ?_; rintro e w2 ⟨rfl, hb⟩; have B2 := hid (B1.out.trans (hb.mono B1.out.size)); clear hb))
  go_ret
  exact ⟨rfl, B2.out⟩
set_option maxHeartbeats 8000000 in
set_option maxRecDepth 100000 in
theorem actw_err (p i b s : Int) (P : PlanD) (A : Option Addr) (m c : Nat) (cu : Int) (KA : Option Addr) (kn kc : Nat) (w : World) (h : largeB p i b P = false) (hm : m ≤ 300) (hk : kn ≤ 2000) (hp : PlanAt w P) (v : Int) (hv : errE p i b s P = v) (he : v ≠ 0) :
    Calls Try.prog 4 #[.agg #[.int .i64 p, .int .i64 i, .int .i64 b], .int .i64 s, .agg #[.int .i64 P.err, .int .i64 P.ino, .slice P.F.A P.F.n P.F.c, .slice P.L.A P.L.n P.L.c, .slice P.R.A P.R.n P.R.c, .slice P.D.A P.D.n P.D.c], .agg #[.slice A m c, .int .u16 cu, .slice KA kn kc]] w fun e w' => e = .returned (.bool true) ∧ Below w.heap.size w w' := by
  have HV := hid hv
  have hd : (v != 0) = true := by simpa using he
  have H := hid h
  have HP := hid hp
  obtain ⟨t1, t2, t3, t4, -⟩ := large_small h
  have hsm : P.small := ⟨by omega, by omega, by omega, by omega⟩
  have Hsm := hid hsm
  obtain ⟨h31, h32, h33⟩ := alloc3 w #[.int .i64 p, .int .i64 i, .int .i64 b] #[.int .i64 P.err, .int .i64 P.ino, .slice P.F.A P.F.n P.F.c, .slice P.L.A P.L.n P.L.c, .slice P.R.A P.R.n P.R.c, .slice P.D.A P.D.n P.D.c] #[.slice A m c, .int .u16 cu, .slice KA kn kc] 23 28 42
  have G0 := hid (show (((w.alloc (.cells #[.int .i64 p, .int .i64 i, .int .i64 b] 23)).alloc (.cells #[.int .i64 P.err, .int .i64 P.ino, .slice P.F.A P.F.n P.F.c, .slice P.L.A P.L.n P.L.c, .slice P.R.A P.R.n P.R.c, .slice P.D.A P.D.n P.D.c] 28)).alloc (.cells #[.slice A m c, .int .u16 cu, .slice KA kn kc] 42)).cell? ⟨w.heap.size, 0, none⟩ = some (.int .i64 p) ∧ (((w.alloc (.cells #[.int .i64 p, .int .i64 i, .int .i64 b] 23)).alloc (.cells #[.int .i64 P.err, .int .i64 P.ino, .slice P.F.A P.F.n P.F.c, .slice P.L.A P.L.n P.L.c, .slice P.R.A P.R.n P.R.c, .slice P.D.A P.D.n P.D.c] 28)).alloc (.cells #[.slice A m c, .int .u16 cu, .slice KA kn kc] 42)).cell? ⟨w.heap.size, 1, none⟩ = some (.int .i64 i) ∧ (((w.alloc (.cells #[.int .i64 p, .int .i64 i, .int .i64 b] 23)).alloc (.cells #[.int .i64 P.err, .int .i64 P.ino, .slice P.F.A P.F.n P.F.c, .slice P.L.A P.L.n P.L.c, .slice P.R.A P.R.n P.R.c, .slice P.D.A P.D.n P.D.c] 28)).alloc (.cells #[.slice A m c, .int .u16 cu, .slice KA kn kc] 42)).cell? ⟨w.heap.size, 2, none⟩ = some (.int .i64 b) from ⟨cell_of_row _ _ 0 _ _ _ h31, cell_of_row _ _ 1 _ _ _ h31, cell_of_row _ _ 2 _ _ _ h31⟩)
  have Q0 := hid (show (((w.alloc (.cells #[.int .i64 p, .int .i64 i, .int .i64 b] 23)).alloc (.cells #[.int .i64 P.err, .int .i64 P.ino, .slice P.F.A P.F.n P.F.c, .slice P.L.A P.L.n P.L.c, .slice P.R.A P.R.n P.R.c, .slice P.D.A P.D.n P.D.c] 28)).alloc (.cells #[.slice A m c, .int .u16 cu, .slice KA kn kc] 42)).cell? ⟨w.heap.size + 1, 0, none⟩ = some (.int .i64 P.err) ∧ (((w.alloc (.cells #[.int .i64 p, .int .i64 i, .int .i64 b] 23)).alloc (.cells #[.int .i64 P.err, .int .i64 P.ino, .slice P.F.A P.F.n P.F.c, .slice P.L.A P.L.n P.L.c, .slice P.R.A P.R.n P.R.c, .slice P.D.A P.D.n P.D.c] 28)).alloc (.cells #[.slice A m c, .int .u16 cu, .slice KA kn kc] 42)).cell? ⟨w.heap.size + 1, 1, none⟩ = some (.int .i64 P.ino) ∧ (((w.alloc (.cells #[.int .i64 p, .int .i64 i, .int .i64 b] 23)).alloc (.cells #[.int .i64 P.err, .int .i64 P.ino, .slice P.F.A P.F.n P.F.c, .slice P.L.A P.L.n P.L.c, .slice P.R.A P.R.n P.R.c, .slice P.D.A P.D.n P.D.c] 28)).alloc (.cells #[.slice A m c, .int .u16 cu, .slice KA kn kc] 42)).cell? ⟨w.heap.size + 1, 2, none⟩ = some (.slice P.F.A P.F.n P.F.c) ∧ (((w.alloc (.cells #[.int .i64 p, .int .i64 i, .int .i64 b] 23)).alloc (.cells #[.int .i64 P.err, .int .i64 P.ino, .slice P.F.A P.F.n P.F.c, .slice P.L.A P.L.n P.L.c, .slice P.R.A P.R.n P.R.c, .slice P.D.A P.D.n P.D.c] 28)).alloc (.cells #[.slice A m c, .int .u16 cu, .slice KA kn kc] 42)).cell? ⟨w.heap.size + 1, 3, none⟩ = some (.slice P.L.A P.L.n P.L.c) ∧ (((w.alloc (.cells #[.int .i64 p, .int .i64 i, .int .i64 b] 23)).alloc (.cells #[.int .i64 P.err, .int .i64 P.ino, .slice P.F.A P.F.n P.F.c, .slice P.L.A P.L.n P.L.c, .slice P.R.A P.R.n P.R.c, .slice P.D.A P.D.n P.D.c] 28)).alloc (.cells #[.slice A m c, .int .u16 cu, .slice KA kn kc] 42)).cell? ⟨w.heap.size + 1, 4, none⟩ = some (.slice P.R.A P.R.n P.R.c) ∧ (((w.alloc (.cells #[.int .i64 p, .int .i64 i, .int .i64 b] 23)).alloc (.cells #[.int .i64 P.err, .int .i64 P.ino, .slice P.F.A P.F.n P.F.c, .slice P.L.A P.L.n P.L.c, .slice P.R.A P.R.n P.R.c, .slice P.D.A P.D.n P.D.c] 28)).alloc (.cells #[.slice A m c, .int .u16 cu, .slice KA kn kc] 42)).cell? ⟨w.heap.size + 1, 5, none⟩ = some (.slice P.D.A P.D.n P.D.c) from ⟨cell_of_row _ _ 0 _ _ _ h32, cell_of_row _ _ 1 _ _ _ h32, cell_of_row _ _ 2 _ _ _ h32, cell_of_row _ _ 3 _ _ _ h32, cell_of_row _ _ 4 _ _ _ h32, cell_of_row _ _ 5 _ _ _ h32⟩)
  have C0 := hid (show (((w.alloc (.cells #[.int .i64 p, .int .i64 i, .int .i64 b] 23)).alloc (.cells #[.int .i64 P.err, .int .i64 P.ino, .slice P.F.A P.F.n P.F.c, .slice P.L.A P.L.n P.L.c, .slice P.R.A P.R.n P.R.c, .slice P.D.A P.D.n P.D.c] 28)).alloc (.cells #[.slice A m c, .int .u16 cu, .slice KA kn kc] 42)).cell? ⟨w.heap.size + 2, 0, none⟩ = some (.slice A m c) ∧ (((w.alloc (.cells #[.int .i64 p, .int .i64 i, .int .i64 b] 23)).alloc (.cells #[.int .i64 P.err, .int .i64 P.ino, .slice P.F.A P.F.n P.F.c, .slice P.L.A P.L.n P.L.c, .slice P.R.A P.R.n P.R.c, .slice P.D.A P.D.n P.D.c] 28)).alloc (.cells #[.slice A m c, .int .u16 cu, .slice KA kn kc] 42)).cell? ⟨w.heap.size + 2, 1, none⟩ = some (.int .u16 cu) ∧ (((w.alloc (.cells #[.int .i64 p, .int .i64 i, .int .i64 b] 23)).alloc (.cells #[.int .i64 P.err, .int .i64 P.ino, .slice P.F.A P.F.n P.F.c, .slice P.L.A P.L.n P.L.c, .slice P.R.A P.R.n P.R.c, .slice P.D.A P.D.n P.D.c] 28)).alloc (.cells #[.slice A m c, .int .u16 cu, .slice KA kn kc] 42)).cell? ⟨w.heap.size + 2, 2, none⟩ = some (.slice KA kn kc) from ⟨cell_of_row _ _ 0 _ _ _ h33, cell_of_row _ _ 1 _ _ _ h33, cell_of_row _ _ 2 _ _ _ h33⟩)
  clear h31 h32 h33
  have b0 := hid (below3 w (.cells #[.int .i64 p, .int .i64 i, .int .i64 b] 23) (.cells #[.int .i64 P.err, .int .i64 P.ino, .slice P.F.A P.F.n P.F.c, .slice P.L.A P.L.n P.L.c, .slice P.R.A P.R.n P.R.c, .slice P.D.A P.D.n P.D.c] 28) (.cells #[.slice A m c, .int .u16 cu, .slice KA kn kc] 42)).1
  have hsz := hid (below3 w (.cells #[.int .i64 p, .int .i64 i, .int .i64 b] 23) (.cells #[.int .i64 P.err, .int .i64 P.ino, .slice P.F.A P.F.n P.F.c, .slice P.L.A P.L.n P.L.c, .slice P.R.A P.R.n P.R.c, .slice P.D.A P.D.n P.D.c] 28) (.cells #[.slice A m c, .int .u16 cu, .slice KA kn kc] 42)).2
  clear h hp hv hsm he
  have hm' : ¬ (300 : Int) < (m : Int) := by omega
  have hk' : ¬ (2000 : Int) < (kn : Int) := by omega
  go_enter Try.func4, Try.ntmps4
  go_wp2_with fail
  refine (large_any p i b P _ false H.out).mono ?_
  rintro e w1 ⟨rfl, hb⟩
  have B1 := hid (b0.out.trans (hb.mono b0.out.size))
  have Z1 : Hid (w.heap.size + 2 < w1.heap.size) := Nat.lt_of_lt_of_le hsz.out hb.size
  have G1 := hid (show w1.cell? ⟨w.heap.size, 0, none⟩ = some (.int .i64 p) ∧ w1.cell? ⟨w.heap.size, 1, none⟩ = some (.int .i64 i) ∧ w1.cell? ⟨w.heap.size, 2, none⟩ = some (.int .i64 b) from cells3 hb (Nat.lt_of_succ_lt (Nat.lt_of_succ_lt hsz.out)) G0.out)
  have Q1 := hid (show w1.cell? ⟨w.heap.size + 1, 0, none⟩ = some (.int .i64 P.err) ∧ w1.cell? ⟨w.heap.size + 1, 1, none⟩ = some (.int .i64 P.ino) ∧ w1.cell? ⟨w.heap.size + 1, 2, none⟩ = some (.slice P.F.A P.F.n P.F.c) ∧ w1.cell? ⟨w.heap.size + 1, 3, none⟩ = some (.slice P.L.A P.L.n P.L.c) ∧ w1.cell? ⟨w.heap.size + 1, 4, none⟩ = some (.slice P.R.A P.R.n P.R.c) ∧ w1.cell? ⟨w.heap.size + 1, 5, none⟩ = some (.slice P.D.A P.D.n P.D.c) from cells6 hb (Nat.lt_of_succ_lt hsz.out) Q0.out)
  have C1 := hid (show w1.cell? ⟨w.heap.size + 2, 0, none⟩ = some (.slice A m c) ∧ w1.cell? ⟨w.heap.size + 2, 1, none⟩ = some (.int .u16 cu) ∧ w1.cell? ⟨w.heap.size + 2, 2, none⟩ = some (.slice KA kn kc) from cells3 hb hsz.out C0.out)
  clear hb
  obtain ⟨g10, g11, g12⟩ := G1.out
  obtain ⟨p10, p11, p12, p13, p14, p15⟩ := Q1.out
  obtain ⟨c10, c11, c12⟩ := C1.out
  go_wp2_with fail
  refine (rmay_is p i b s P _ v Hsm.out (HP.out.below B1.out) HV.out).mono ?_
  rintro e w2 ⟨rfl, hb⟩
  have B2 := hid (B1.out.trans (hb.mono B1.out.size))
  clear hb
  go_wp2_with fail
  refine (alive_any _).mono ?_
  rintro e w3 ⟨rfl, hb⟩
  have B3 := hid (B2.out.trans (hb.mono B2.out.size))
  clear hb
  go_wp2
  go_ret
  exact ⟨rfl, B3.out⟩
set_option maxHeartbeats 16000000 in
set_option maxRecDepth 100000 in
theorem actw_ok (p i b s : Int) (P : PlanD) (A : Option Addr) (m c : Nat) (cu : Int) (KA : Option Addr) (kn kc : Nat) (w : World) (BF : Nat → Int) (kf : Nat → Bool) (h : largeB p i b P = false) (hm : m ≤ 300) (hk : kn ≤ 2000) (hba : BaseAt w A m BF) (hkb : BoolsAt w w.heap.size KA kn kf) (hcu : 0 ≤ cu ∧ cu < 65536) (hp : PlanAt w P) (hw : P.wf) (hg : Wf2 P.F.n P.F.g ∧ Wf2 P.D.n P.D.g) (he : errE p i b s P = 0) :
    Calls Try.prog 4 #[.agg #[.int .i64 p, .int .i64 i, .int .i64 b], .int .i64 s, .agg #[.int .i64 P.err, .int .i64 P.ino, .slice P.F.A P.F.n P.F.c, .slice P.L.A P.L.n P.L.c, .slice P.R.A P.R.n P.R.c, .slice P.D.A P.D.n P.D.c], .agg #[.slice A m c, .int .u16 cu, .slice KA kn kc]] w fun e w' => e = .returned (.bool true) ∧ Below w.heap.size w w' := by
  have HE := hid he
  have HW := hid hw
  have HG := hid hg
  have HL := hid (err_low he)
  have H := hid h
  have HP := hid hp
  have HK := hid (errE_zero he)
  have HBA := hid hba
  have HKB := hid hkb
  obtain ⟨N, a, hN, hA, hN8, hN3, haN, hIn⟩ := err_in he
  have HNe := hid hN
  have HAe := hid hA
  have HIn := hid hIn
  have Hcu := hid hcu
  obtain ⟨t1, t2, t3, t4, -⟩ := large_small h
  have hsm : P.small := ⟨by omega, by omega, by omega, by omega⟩
  have Hsm := hid hsm
  obtain ⟨h31, h32, h33⟩ := alloc3 w #[.int .i64 p, .int .i64 i, .int .i64 b] #[.int .i64 P.err, .int .i64 P.ino, .slice P.F.A P.F.n P.F.c, .slice P.L.A P.L.n P.L.c, .slice P.R.A P.R.n P.R.c, .slice P.D.A P.D.n P.D.c] #[.slice A m c, .int .u16 cu, .slice KA kn kc] 23 28 42
  have G0 := hid (show (((w.alloc (.cells #[.int .i64 p, .int .i64 i, .int .i64 b] 23)).alloc (.cells #[.int .i64 P.err, .int .i64 P.ino, .slice P.F.A P.F.n P.F.c, .slice P.L.A P.L.n P.L.c, .slice P.R.A P.R.n P.R.c, .slice P.D.A P.D.n P.D.c] 28)).alloc (.cells #[.slice A m c, .int .u16 cu, .slice KA kn kc] 42)).cell? ⟨w.heap.size, 0, none⟩ = some (.int .i64 p) ∧ (((w.alloc (.cells #[.int .i64 p, .int .i64 i, .int .i64 b] 23)).alloc (.cells #[.int .i64 P.err, .int .i64 P.ino, .slice P.F.A P.F.n P.F.c, .slice P.L.A P.L.n P.L.c, .slice P.R.A P.R.n P.R.c, .slice P.D.A P.D.n P.D.c] 28)).alloc (.cells #[.slice A m c, .int .u16 cu, .slice KA kn kc] 42)).cell? ⟨w.heap.size, 1, none⟩ = some (.int .i64 i) ∧ (((w.alloc (.cells #[.int .i64 p, .int .i64 i, .int .i64 b] 23)).alloc (.cells #[.int .i64 P.err, .int .i64 P.ino, .slice P.F.A P.F.n P.F.c, .slice P.L.A P.L.n P.L.c, .slice P.R.A P.R.n P.R.c, .slice P.D.A P.D.n P.D.c] 28)).alloc (.cells #[.slice A m c, .int .u16 cu, .slice KA kn kc] 42)).cell? ⟨w.heap.size, 2, none⟩ = some (.int .i64 b) from ⟨cell_of_row _ _ 0 _ _ _ h31, cell_of_row _ _ 1 _ _ _ h31, cell_of_row _ _ 2 _ _ _ h31⟩)
  have Q0 := hid (show (((w.alloc (.cells #[.int .i64 p, .int .i64 i, .int .i64 b] 23)).alloc (.cells #[.int .i64 P.err, .int .i64 P.ino, .slice P.F.A P.F.n P.F.c, .slice P.L.A P.L.n P.L.c, .slice P.R.A P.R.n P.R.c, .slice P.D.A P.D.n P.D.c] 28)).alloc (.cells #[.slice A m c, .int .u16 cu, .slice KA kn kc] 42)).cell? ⟨w.heap.size + 1, 0, none⟩ = some (.int .i64 P.err) ∧ (((w.alloc (.cells #[.int .i64 p, .int .i64 i, .int .i64 b] 23)).alloc (.cells #[.int .i64 P.err, .int .i64 P.ino, .slice P.F.A P.F.n P.F.c, .slice P.L.A P.L.n P.L.c, .slice P.R.A P.R.n P.R.c, .slice P.D.A P.D.n P.D.c] 28)).alloc (.cells #[.slice A m c, .int .u16 cu, .slice KA kn kc] 42)).cell? ⟨w.heap.size + 1, 1, none⟩ = some (.int .i64 P.ino) ∧ (((w.alloc (.cells #[.int .i64 p, .int .i64 i, .int .i64 b] 23)).alloc (.cells #[.int .i64 P.err, .int .i64 P.ino, .slice P.F.A P.F.n P.F.c, .slice P.L.A P.L.n P.L.c, .slice P.R.A P.R.n P.R.c, .slice P.D.A P.D.n P.D.c] 28)).alloc (.cells #[.slice A m c, .int .u16 cu, .slice KA kn kc] 42)).cell? ⟨w.heap.size + 1, 2, none⟩ = some (.slice P.F.A P.F.n P.F.c) ∧ (((w.alloc (.cells #[.int .i64 p, .int .i64 i, .int .i64 b] 23)).alloc (.cells #[.int .i64 P.err, .int .i64 P.ino, .slice P.F.A P.F.n P.F.c, .slice P.L.A P.L.n P.L.c, .slice P.R.A P.R.n P.R.c, .slice P.D.A P.D.n P.D.c] 28)).alloc (.cells #[.slice A m c, .int .u16 cu, .slice KA kn kc] 42)).cell? ⟨w.heap.size + 1, 3, none⟩ = some (.slice P.L.A P.L.n P.L.c) ∧ (((w.alloc (.cells #[.int .i64 p, .int .i64 i, .int .i64 b] 23)).alloc (.cells #[.int .i64 P.err, .int .i64 P.ino, .slice P.F.A P.F.n P.F.c, .slice P.L.A P.L.n P.L.c, .slice P.R.A P.R.n P.R.c, .slice P.D.A P.D.n P.D.c] 28)).alloc (.cells #[.slice A m c, .int .u16 cu, .slice KA kn kc] 42)).cell? ⟨w.heap.size + 1, 4, none⟩ = some (.slice P.R.A P.R.n P.R.c) ∧ (((w.alloc (.cells #[.int .i64 p, .int .i64 i, .int .i64 b] 23)).alloc (.cells #[.int .i64 P.err, .int .i64 P.ino, .slice P.F.A P.F.n P.F.c, .slice P.L.A P.L.n P.L.c, .slice P.R.A P.R.n P.R.c, .slice P.D.A P.D.n P.D.c] 28)).alloc (.cells #[.slice A m c, .int .u16 cu, .slice KA kn kc] 42)).cell? ⟨w.heap.size + 1, 5, none⟩ = some (.slice P.D.A P.D.n P.D.c) from ⟨cell_of_row _ _ 0 _ _ _ h32, cell_of_row _ _ 1 _ _ _ h32, cell_of_row _ _ 2 _ _ _ h32, cell_of_row _ _ 3 _ _ _ h32, cell_of_row _ _ 4 _ _ _ h32, cell_of_row _ _ 5 _ _ _ h32⟩)
  have C0 := hid (show (((w.alloc (.cells #[.int .i64 p, .int .i64 i, .int .i64 b] 23)).alloc (.cells #[.int .i64 P.err, .int .i64 P.ino, .slice P.F.A P.F.n P.F.c, .slice P.L.A P.L.n P.L.c, .slice P.R.A P.R.n P.R.c, .slice P.D.A P.D.n P.D.c] 28)).alloc (.cells #[.slice A m c, .int .u16 cu, .slice KA kn kc] 42)).cell? ⟨w.heap.size + 2, 0, none⟩ = some (.slice A m c) ∧ (((w.alloc (.cells #[.int .i64 p, .int .i64 i, .int .i64 b] 23)).alloc (.cells #[.int .i64 P.err, .int .i64 P.ino, .slice P.F.A P.F.n P.F.c, .slice P.L.A P.L.n P.L.c, .slice P.R.A P.R.n P.R.c, .slice P.D.A P.D.n P.D.c] 28)).alloc (.cells #[.slice A m c, .int .u16 cu, .slice KA kn kc] 42)).cell? ⟨w.heap.size + 2, 1, none⟩ = some (.int .u16 cu) ∧ (((w.alloc (.cells #[.int .i64 p, .int .i64 i, .int .i64 b] 23)).alloc (.cells #[.int .i64 P.err, .int .i64 P.ino, .slice P.F.A P.F.n P.F.c, .slice P.L.A P.L.n P.L.c, .slice P.R.A P.R.n P.R.c, .slice P.D.A P.D.n P.D.c] 28)).alloc (.cells #[.slice A m c, .int .u16 cu, .slice KA kn kc] 42)).cell? ⟨w.heap.size + 2, 2, none⟩ = some (.slice KA kn kc) from ⟨cell_of_row _ _ 0 _ _ _ h33, cell_of_row _ _ 1 _ _ _ h33, cell_of_row _ _ 2 _ _ _ h33⟩)
  clear h31 h32 h33
  have b0 := hid (below3 w (.cells #[.int .i64 p, .int .i64 i, .int .i64 b] 23) (.cells #[.int .i64 P.err, .int .i64 P.ino, .slice P.F.A P.F.n P.F.c, .slice P.L.A P.L.n P.L.c, .slice P.R.A P.R.n P.R.c, .slice P.D.A P.D.n P.D.c] 28) (.cells #[.slice A m c, .int .u16 cu, .slice KA kn kc] 42)).1
  have hsz := hid (below3 w (.cells #[.int .i64 p, .int .i64 i, .int .i64 b] 23) (.cells #[.int .i64 P.err, .int .i64 P.ino, .slice P.F.A P.F.n P.F.c, .slice P.L.A P.L.n P.L.c, .slice P.R.A P.R.n P.R.c, .slice P.D.A P.D.n P.D.c] 28) (.cells #[.slice A m c, .int .u16 cu, .slice KA kn kc] 42)).2
  clear h hp he hw hg hsm hba hkb hN hA hIn hcu
  have hm' : ¬ (300 : Int) < (m : Int) := by omega
  have hk' : ¬ (2000 : Int) < (kn : Int) := by omega
  go_enter Try.func4, Try.ntmps4
  go_wp2_with fail
  refine (large_any p i b P _ false H.out).mono ?_
  rintro e w1 ⟨rfl, hb⟩
  have B1 := hid (b0.out.trans (hb.mono b0.out.size))
  have Z1 : Hid (w.heap.size + 2 < w1.heap.size) := Nat.lt_of_lt_of_le hsz.out hb.size
  have G1 := hid (show w1.cell? ⟨w.heap.size, 0, none⟩ = some (.int .i64 p) ∧ w1.cell? ⟨w.heap.size, 1, none⟩ = some (.int .i64 i) ∧ w1.cell? ⟨w.heap.size, 2, none⟩ = some (.int .i64 b) from cells3 hb (Nat.lt_of_succ_lt (Nat.lt_of_succ_lt hsz.out)) G0.out)
  have Q1 := hid (show w1.cell? ⟨w.heap.size + 1, 0, none⟩ = some (.int .i64 P.err) ∧ w1.cell? ⟨w.heap.size + 1, 1, none⟩ = some (.int .i64 P.ino) ∧ w1.cell? ⟨w.heap.size + 1, 2, none⟩ = some (.slice P.F.A P.F.n P.F.c) ∧ w1.cell? ⟨w.heap.size + 1, 3, none⟩ = some (.slice P.L.A P.L.n P.L.c) ∧ w1.cell? ⟨w.heap.size + 1, 4, none⟩ = some (.slice P.R.A P.R.n P.R.c) ∧ w1.cell? ⟨w.heap.size + 1, 5, none⟩ = some (.slice P.D.A P.D.n P.D.c) from cells6 hb (Nat.lt_of_succ_lt hsz.out) Q0.out)
  have C1 := hid (show w1.cell? ⟨w.heap.size + 2, 0, none⟩ = some (.slice A m c) ∧ w1.cell? ⟨w.heap.size + 2, 1, none⟩ = some (.int .u16 cu) ∧ w1.cell? ⟨w.heap.size + 2, 2, none⟩ = some (.slice KA kn kc) from cells3 hb hsz.out C0.out)
  clear hb
  obtain ⟨g10, g11, g12⟩ := G1.out
  obtain ⟨p10, p11, p12, p13, p14, p15⟩ := Q1.out
  obtain ⟨c10, c11, c12⟩ := C1.out
  go_wp2_with fail
  refine (rmay_is p i b s P _ 0 Hsm.out (HP.out.below B1.out) HE.out).mono ?_
  rintro e w2 ⟨rfl, hb⟩
  clear g10 g11 g12 p10 p11 p12 p13 p14 p15 c10 c11 c12
  have B2 := hid (B1.out.trans (hb.mono B1.out.size))
  have Z2 : Hid (w.heap.size + 2 < w2.heap.size) := Nat.lt_of_lt_of_le Z1.out hb.size
  have G2 := hid (show w2.cell? ⟨w.heap.size, 0, none⟩ = some (.int .i64 p) ∧ w2.cell? ⟨w.heap.size, 1, none⟩ = some (.int .i64 i) ∧ w2.cell? ⟨w.heap.size, 2, none⟩ = some (.int .i64 b) from cells3 hb (Nat.lt_of_succ_lt (Nat.lt_of_succ_lt Z1.out)) G1.out)
  have Q2 := hid (show w2.cell? ⟨w.heap.size + 1, 0, none⟩ = some (.int .i64 P.err) ∧ w2.cell? ⟨w.heap.size + 1, 1, none⟩ = some (.int .i64 P.ino) ∧ w2.cell? ⟨w.heap.size + 1, 2, none⟩ = some (.slice P.F.A P.F.n P.F.c) ∧ w2.cell? ⟨w.heap.size + 1, 3, none⟩ = some (.slice P.L.A P.L.n P.L.c) ∧ w2.cell? ⟨w.heap.size + 1, 4, none⟩ = some (.slice P.R.A P.R.n P.R.c) ∧ w2.cell? ⟨w.heap.size + 1, 5, none⟩ = some (.slice P.D.A P.D.n P.D.c) from cells6 hb (Nat.lt_of_succ_lt Z1.out) Q1.out)
  have C2 := hid (show w2.cell? ⟨w.heap.size + 2, 0, none⟩ = some (.slice A m c) ∧ w2.cell? ⟨w.heap.size + 2, 1, none⟩ = some (.int .u16 cu) ∧ w2.cell? ⟨w.heap.size + 2, 2, none⟩ = some (.slice KA kn kc) from cells3 hb Z1.out C1.out)
  clear hb
  obtain ⟨g20, g21, g22⟩ := G2.out
  go_wp2_with fail
  refine (rplace_ok p i b s _ HK.out.1 HK.out.2.1 HK.out.2.2.1).mono ?_
  rintro e w3 ⟨rfl, hb⟩
  clear g20 g21 g22
  have B3 := hid (B2.out.trans (hb.mono B2.out.size))
  have Z3 : Hid (w.heap.size + 2 < w3.heap.size) := Nat.lt_of_lt_of_le Z2.out hb.size
  have G3 := hid (show w3.cell? ⟨w.heap.size, 0, none⟩ = some (.int .i64 p) ∧ w3.cell? ⟨w.heap.size, 1, none⟩ = some (.int .i64 i) ∧ w3.cell? ⟨w.heap.size, 2, none⟩ = some (.int .i64 b) from cells3 hb (Nat.lt_of_succ_lt (Nat.lt_of_succ_lt Z2.out)) G2.out)
  have Q3 := hid (show w3.cell? ⟨w.heap.size + 1, 0, none⟩ = some (.int .i64 P.err) ∧ w3.cell? ⟨w.heap.size + 1, 1, none⟩ = some (.int .i64 P.ino) ∧ w3.cell? ⟨w.heap.size + 1, 2, none⟩ = some (.slice P.F.A P.F.n P.F.c) ∧ w3.cell? ⟨w.heap.size + 1, 3, none⟩ = some (.slice P.L.A P.L.n P.L.c) ∧ w3.cell? ⟨w.heap.size + 1, 4, none⟩ = some (.slice P.R.A P.R.n P.R.c) ∧ w3.cell? ⟨w.heap.size + 1, 5, none⟩ = some (.slice P.D.A P.D.n P.D.c) from cells6 hb (Nat.lt_of_succ_lt Z2.out) Q2.out)
  have C3 := hid (show w3.cell? ⟨w.heap.size + 2, 0, none⟩ = some (.slice A m c) ∧ w3.cell? ⟨w.heap.size + 2, 1, none⟩ = some (.int .u16 cu) ∧ w3.cell? ⟨w.heap.size + 2, 2, none⟩ = some (.slice KA kn kc) from cells3 hb Z2.out C2.out)
  clear hb
  obtain ⟨p30, p31, p32, p33, p34, p35⟩ := Q3.out
  go_wp2_with fail
  refine (apart_any P (slotAt i s) _ ⟨HL.out.2.2.1, Int.le_of_lt HL.out.2.2.2⟩ Hsm.out (HP.out.below B3.out) (lst_low HL.out.1)).mono ?_
  rintro e w4 ⟨r, rfl, hr, hb⟩
  clear p30 p31 p32 p33 p34 p35
  have B4 := hid (B3.out.trans (hb.mono B3.out.size))
  have Z4 : Hid (w.heap.size + 2 < w4.heap.size) := Nat.lt_of_lt_of_le Z3.out hb.size
  have G4 := hid (show w4.cell? ⟨w.heap.size, 0, none⟩ = some (.int .i64 p) ∧ w4.cell? ⟨w.heap.size, 1, none⟩ = some (.int .i64 i) ∧ w4.cell? ⟨w.heap.size, 2, none⟩ = some (.int .i64 b) from cells3 hb (Nat.lt_of_succ_lt (Nat.lt_of_succ_lt Z3.out)) G3.out)
  have Q4 := hid (show w4.cell? ⟨w.heap.size + 1, 0, none⟩ = some (.int .i64 P.err) ∧ w4.cell? ⟨w.heap.size + 1, 1, none⟩ = some (.int .i64 P.ino) ∧ w4.cell? ⟨w.heap.size + 1, 2, none⟩ = some (.slice P.F.A P.F.n P.F.c) ∧ w4.cell? ⟨w.heap.size + 1, 3, none⟩ = some (.slice P.L.A P.L.n P.L.c) ∧ w4.cell? ⟨w.heap.size + 1, 4, none⟩ = some (.slice P.R.A P.R.n P.R.c) ∧ w4.cell? ⟨w.heap.size + 1, 5, none⟩ = some (.slice P.D.A P.D.n P.D.c) from cells6 hb (Nat.lt_of_succ_lt Z3.out) Q3.out)
  have C4 := hid (show w4.cell? ⟨w.heap.size + 2, 0, none⟩ = some (.slice A m c) ∧ w4.cell? ⟨w.heap.size + 2, 1, none⟩ = some (.int .u16 cu) ∧ w4.cell? ⟨w.heap.size + 2, 2, none⟩ = some (.slice KA kn kc) from cells3 hb Z3.out C3.out)
  clear hb
  cases r
  · clear hr
    go_wp2_with fail
    refine (alive_any _).mono ?_
    rintro e w5 ⟨rfl, hb⟩
    have B5 := hid (B4.out.trans (hb.mono B4.out.size))
    clear hb
    go_wp2
    go_ret
    exact ⟨rfl, B5.out⟩
  · have HAp := hid (hr rfl)
    clear hr
    obtain ⟨g40, g41, g42⟩ := G4.out
    obtain ⟨p40, p41, p42, p43, p44, p45⟩ := Q4.out
    go_wp2_with fail
    refine (steps_okC p i b s P _ Hsm.out (HP.out.below B4.out) HE.out (fun k hk => (HW.out k hk).1)).mono ?_
    rintro e w5 ⟨va, rfl, ⟨ho, Av, nv, cv, hva, hcap⟩, hb⟩
    obtain ⟨nA, nC, ph⟩ := phases HAp.out HL.out.1 HL.out.2.2 HL.out.2.1 Hsm.out
    have hl0 : 0 < (stepsL (slotAt i s) P).length := by have := ph.ac; have := ph.cn; omega
    obtain ⟨q, ca, n, rfl, hn, hrow⟩ := row_of_ops ho hl0
    obtain ⟨-, rfl, rfl⟩ : some (⟨q, 0, none⟩ : Addr) = Av ∧ n = nv ∧ ca = cv := by simpa using hva
    have hbd := steps_bound (slotAt i s) P
    rw [← hn] at hbd hl0
    have HNn := hid hn
    have R5 := hid hrow
    rw [HAe.out] at HAp HNn R5
    clear ho hn ph hrow hva
    clear g40 g41 g42 p40 p41 p42 p43 p44 p45
    have B5 := hid (B4.out.trans (hb.mono B4.out.size))
    have Z5 : Hid (w.heap.size + 2 < w5.heap.size) := Nat.lt_of_lt_of_le Z4.out hb.size
    have G5 := hid (show w5.cell? ⟨w.heap.size, 0, none⟩ = some (.int .i64 p) ∧ w5.cell? ⟨w.heap.size, 1, none⟩ = some (.int .i64 i) ∧ w5.cell? ⟨w.heap.size, 2, none⟩ = some (.int .i64 b) from cells3 hb (Nat.lt_of_succ_lt (Nat.lt_of_succ_lt Z4.out)) G4.out)
    have Q5 := hid (show w5.cell? ⟨w.heap.size + 1, 0, none⟩ = some (.int .i64 P.err) ∧ w5.cell? ⟨w.heap.size + 1, 1, none⟩ = some (.int .i64 P.ino) ∧ w5.cell? ⟨w.heap.size + 1, 2, none⟩ = some (.slice P.F.A P.F.n P.F.c) ∧ w5.cell? ⟨w.heap.size + 1, 3, none⟩ = some (.slice P.L.A P.L.n P.L.c) ∧ w5.cell? ⟨w.heap.size + 1, 4, none⟩ = some (.slice P.R.A P.R.n P.R.c) ∧ w5.cell? ⟨w.heap.size + 1, 5, none⟩ = some (.slice P.D.A P.D.n P.D.c) from cells6 hb (Nat.lt_of_succ_lt Z4.out) Q4.out)
    have C5 := hid (show w5.cell? ⟨w.heap.size + 2, 0, none⟩ = some (.slice A m c) ∧ w5.cell? ⟨w.heap.size + 2, 1, none⟩ = some (.int .u16 cu) ∧ w5.cell? ⟨w.heap.size + 2, 2, none⟩ = some (.slice KA kn kc) from cells3 hb Z4.out C4.out)
    clear hb
    have hnb : n ≤ 10000 := by omega
    have hnz : ¬ (n : Int) = 0 := by omega
    have hnz' : ((n : Int) == 0) = false := by simpa using hnz
    clear hbd
    obtain ⟨g50, g51, g52⟩ := G5.out
    obtain ⟨c50, c51, c52⟩ := C5.out
    go_wp2_with fail
    rw [HAe.out]
    refine (device_any A KA m c kn kc a cu p i b BF _ (by omega) (HBA.out.below B5.out) HK.out.1 N HNe.out (by omega) hN8 hN3 (by omega)).mono ?_
    rintro e w6 ⟨d, kB, ck, K, rfl, hdv, hKa, hKw, hb⟩
    have HDV := hid hdv
    have HKa := hid hKa
    clear hdv hKa hKw
    have hb6 := hid hb
    clear g50 g51 g52 c50 c51 c52
    have B6 := hid (B5.out.trans (hb.mono B5.out.size))
    have Z6 : Hid (w.heap.size + 2 < w6.heap.size) := Nat.lt_of_lt_of_le Z5.out hb.size
    have G6 := hid (show w6.cell? ⟨w.heap.size, 0, none⟩ = some (.int .i64 p) ∧ w6.cell? ⟨w.heap.size, 1, none⟩ = some (.int .i64 i) ∧ w6.cell? ⟨w.heap.size, 2, none⟩ = some (.int .i64 b) from cells3 hb (Nat.lt_of_succ_lt (Nat.lt_of_succ_lt Z5.out)) G5.out)
    have Q6 := hid (show w6.cell? ⟨w.heap.size + 1, 0, none⟩ = some (.int .i64 P.err) ∧ w6.cell? ⟨w.heap.size + 1, 1, none⟩ = some (.int .i64 P.ino) ∧ w6.cell? ⟨w.heap.size + 1, 2, none⟩ = some (.slice P.F.A P.F.n P.F.c) ∧ w6.cell? ⟨w.heap.size + 1, 3, none⟩ = some (.slice P.L.A P.L.n P.L.c) ∧ w6.cell? ⟨w.heap.size + 1, 4, none⟩ = some (.slice P.R.A P.R.n P.R.c) ∧ w6.cell? ⟨w.heap.size + 1, 5, none⟩ = some (.slice P.D.A P.D.n P.D.c) from cells6 hb (Nat.lt_of_succ_lt Z5.out) Q5.out)
    have C6 := hid (show w6.cell? ⟨w.heap.size + 2, 0, none⟩ = some (.slice A m c) ∧ w6.cell? ⟨w.heap.size + 2, 1, none⟩ = some (.int .u16 cu) ∧ w6.cell? ⟨w.heap.size + 2, 2, none⟩ = some (.slice KA kn kc) from cells3 hb Z5.out C5.out)
    clear hb
    have R6 := hid (R5.out.below (hb6.out))
    go_wp2_with fail
    refine (dwords_any w5.heap.size d kB ck N K _ HDV.out (by omega) (by omega)).mono ?_
    rintro e w7 ⟨cw, rfl, hkw, hb⟩
    have HKW := hid hkw
    have HDV7 := hid (HDV.out.below hb)
    have R7 := hid (R6.out.below hb)
    have hb7 := hid hb
    clear hkw
    have B7 := hid (B6.out.trans (hb.mono B6.out.size))
    have Z7 : Hid (w.heap.size + 2 < w7.heap.size) := Nat.lt_of_lt_of_le Z6.out hb.size
    have G7 := hid (show w7.cell? ⟨w.heap.size, 0, none⟩ = some (.int .i64 p) ∧ w7.cell? ⟨w.heap.size, 1, none⟩ = some (.int .i64 i) ∧ w7.cell? ⟨w.heap.size, 2, none⟩ = some (.int .i64 b) from cells3 hb (Nat.lt_of_succ_lt (Nat.lt_of_succ_lt Z6.out)) G6.out)
    have Q7 := hid (show w7.cell? ⟨w.heap.size + 1, 0, none⟩ = some (.int .i64 P.err) ∧ w7.cell? ⟨w.heap.size + 1, 1, none⟩ = some (.int .i64 P.ino) ∧ w7.cell? ⟨w.heap.size + 1, 2, none⟩ = some (.slice P.F.A P.F.n P.F.c) ∧ w7.cell? ⟨w.heap.size + 1, 3, none⟩ = some (.slice P.L.A P.L.n P.L.c) ∧ w7.cell? ⟨w.heap.size + 1, 4, none⟩ = some (.slice P.R.A P.R.n P.R.c) ∧ w7.cell? ⟨w.heap.size + 1, 5, none⟩ = some (.slice P.D.A P.D.n P.D.c) from cells6 hb (Nat.lt_of_succ_lt Z6.out) Q6.out)
    have C7 := hid (show w7.cell? ⟨w.heap.size + 2, 0, none⟩ = some (.slice A m c) ∧ w7.cell? ⟨w.heap.size + 2, 1, none⟩ = some (.int .u16 cu) ∧ w7.cell? ⟨w.heap.size + 2, 2, none⟩ = some (.slice KA kn kc) from cells3 hb Z6.out C6.out)
    clear hb
    obtain ⟨c70, c71, c72⟩ := C7.out
    obtain ⟨kq, hkq⟩ : ∃ kq : Nat, cu.tmod ((n : Int) + 1) = (kq : Int) ∧ kq ≤ n := by
      have h0 := Hcu.out.1
      have h1 : 0 ≤ cu.tmod ((n : Int) + 1) := by rw [Int.tmod_eq_emod_of_nonneg h0]; exact Int.emod_nonneg _ (by omega)
      have h2 : cu.tmod ((n : Int) + 1) < (n : Int) + 1 := by rw [Int.tmod_eq_emod_of_nonneg h0]; exact Int.emod_lt_of_pos _ (by omega)
      exact ⟨(cu.tmod ((n : Int) + 1)).toNat, by omega, by omega⟩
    have hk1 := hkq.1
    have hkn := hkq.2
    have hcu1 : IntKind.i64.wrap cu = cu := by have := Hcu.out; rw [IntKind.wrap_i64]; omega
    have hn1 : IntKind.i64.wrap ((n : Int) + 1) = (n : Int) + 1 := by rw [IntKind.wrap_i64]; omega
    have hn2 : ¬ (n : Int) + 1 = 0 := by omega
    have hn3 : ((n : Int) + 1 == 0) = false := by simpa using hn2
    have hkc1 : (kq : Int) ≤ (ca : Int) := by omega
    have hkc0 : (0 : Int) ≤ (kq : Int) := by omega
    clear hkq
    go_upto_region 12 with fail
    clear c70 c71 c72
    have HTl := hid (show kq = (List.take kq (stepsL (a : Int) P)).length by rw [List.length_take]; have := HNn.out; omega)
    have HSo := hid (steps_in hN8 haN HL.out.2.1 HIn.out)
    have HSt := hid (show ∀ o ∈ List.take kq (stepsL (a : Int) P), StepOk N o from fun o ho => HSo.out o (List.mem_of_mem_take ho))
    have HE7 := hid (show DevE w7 w7.heap.size w5.heap.size d kB ck (.slice none 0 0) N K [] from ⟨HDV7.out, HDV7.out.lt, World.ownsRow_nil _ _ _ _⟩)
    have HC := hid (doneE w7.heap.size w5.heap.size d kB ck N _ (K, []) q ca kq (List.take kq (stepsL (a : Int) P)) _ HE7.out (Nat.le_refl _) R5.out.1 (R7.out.takes kq) HTl.out (by have := HTl.out; show 0 + _ ≤ _; omega) (by omega) (fun p hp => by cases hp) HSt.out)
    go_wp2_with fail
    refine (HC.out).mono ?_
    rintro e w8 ⟨rfl, ⟨lv, hdv⟩, hsp⟩
    have HDV8 := hid hdv
    have HSp8 := hid hsp
    have hb := hsp.to (B := w5.heap.size) (Nat.le_trans hb6.out.size hb7.out.size) HDV7.out.lo (by have := HDV7.out.lo; have := HDV7.out.mid; omega)
    clear hdv hsp HC HE7
    have HwB := hid (show w6.heap.size < w7.heap.size ∧ w6.heap.size ≠ kB ∧ w6.heap.size ≠ d by
      have h1 := HKW.out.wordsIn
      obtain ⟨q', hq', hq2, -⟩ := h1
      obtain rfl : w6.heap.size = q' := by simpa using hq'
      have := HDV.out.lt
      have := HDV.out.mid
      omega)
    have HKW8 := hid (HKW.out.spared HwB.out HSp8.out)
    have R8 := hid (R7.out.low R5.out.1 hb)
    have B8 := hid (B7.out.trans (hb.mono B5.out.size))
    have Z8 : Hid (w.heap.size + 2 < w8.heap.size) := Nat.lt_of_lt_of_le Z7.out hb.size
    have Q8 := hid (show w8.cell? ⟨w.heap.size + 1, 0, none⟩ = some (.int .i64 P.err) ∧ w8.cell? ⟨w.heap.size + 1, 1, none⟩ = some (.int .i64 P.ino) ∧ w8.cell? ⟨w.heap.size + 1, 2, none⟩ = some (.slice P.F.A P.F.n P.F.c) ∧ w8.cell? ⟨w.heap.size + 1, 3, none⟩ = some (.slice P.L.A P.L.n P.L.c) ∧ w8.cell? ⟨w.heap.size + 1, 4, none⟩ = some (.slice P.R.A P.R.n P.R.c) ∧ w8.cell? ⟨w.heap.size + 1, 5, none⟩ = some (.slice P.D.A P.D.n P.D.c) from cells6 hb (Nat.lt_of_succ_lt Z5.out) Q7.out)
    have C8 := hid (show w8.cell? ⟨w.heap.size + 2, 0, none⟩ = some (.slice A m c) ∧ w8.cell? ⟨w.heap.size + 2, 1, none⟩ = some (.int .u16 cu) ∧ w8.cell? ⟨w.heap.size + 2, 2, none⟩ = some (.slice KA kn kc) from cells3 hb Z5.out C7.out)
    clear hb
    go_wp2_with fail
    go_loopw [16, 17] (fun sv iv wr => ∃ j : Nat, j ≤ kq ∧ iv = .int .i64 j ∧ sv = .bool (shownB (List.take j (stepsL (a : Int) P))) ∧ wr = w8) (fun _ iv _ => kq - (intOf iv).toNat)
    case atStart => exact ⟨0, by omega, rfl, rfl, rfl⟩
    case round =>
      obtain ⟨j, hj, rfl, rfl, hwr⟩ := hrel
      have hwr' := hwr.symm
      subst hwr'
      by_cases hlt : j < kq
      · have hlt' : (j : Int) < (kq : Int) := by omega
        have h0j : (0 : Int) ≤ (j : Int) := by omega
        have hjL : j < (stepsL (a : Int) P).length := by have := HNn.out; omega
        have c0 := (R8.out.2 j hjL).1
        have hq8 := R8.out.1
        have HSn := hid (shown_next hjL)
        generalize (stepsL (a : Int) P)[j] = o at c0 HSn
        obtain ⟨ok, oa, ow⟩ := o
        dsimp only at c0
        generalize hsb : shownB (List.take j (stepsL (a : Int) P)) = sb at HSn
        cases sb
        · by_cases h4 : ok = 4
          · subst h4
            go_wp2
            go_roundw
            case rel => exact ⟨j + 1, by omega, by go_num, by rw [HSn.out]; rfl, (by first | trivial | rfl)⟩
            case measure => simp [intOf]; omega
          · have h4' : (ok == 4) = false := by simpa using h4
            go_wp2
            go_roundw
            case rel => exact ⟨j + 1, by omega, by go_num, by rw [HSn.out]; show _ = Value.bool (false || (ok == 4)); rw [h4']; rfl, (by first | trivial | rfl)⟩
            case measure => simp [intOf]; omega
        · go_wp2
          go_roundw
          case rel => exact ⟨j + 1, by omega, by go_num, by rw [HSn.out]; rfl, (by first | trivial | rfl)⟩
          case measure => simp [intOf]; omega
      · obtain rfl : kq = j := by omega
        have hs8 := hid (show Poss (druns (K, []) (List.take kq (stepsL (a : Int) P))) = Poss ((druns (K, []) (List.take kq (stepsL (a : Int) P))).1, (druns (K, []) (List.take kq (stepsL (a : Int) P))).2) from rfl)
        have HIn8 := hid (druns_in (n := N) (List.take kq (stepsL (a : Int) P)) (K, []) (fun p hp => by cases hp) HSt.out)
        have hln8 := hid (show (druns (K, []) (List.take kq (stepsL (a : Int) P))).2.length ≤ 100000 by
          have h1 := druns_len (K, []) (List.take kq (stepsL (a : Int) P))
          have h2 := HTl.out
          have h3 : ((K, []) : DevS).2.length = 0 := rfl
          omega)
        have HKB8 := hid (HKB.out.low (B' := w5.heap.size) B8.out B5.out.size)
        have HCR := hid (dcrashE w7.heap.size w5.heap.size d kB ck N lv _ _ KA kn kc kf w8 HDV8.out.dev HDV8.out.dE hln8.out HIn8.out HKB8.out)
        have HFo := hid (cut_found (fw := crashTo (druns (K, []) (List.take kq (stepsL (a : Int) P))).1 (druns (K, []) (List.take kq (stepsL (a : Int) P))).2 (keepF kn kf) (druns (K, []) (List.take kq (stepsL (a : Int) P))).2.length) HAp.out HL.out.2.1 HKa.out (fun x => crash_poss _ (Nat.le_refl _)))
        have HOt := hid (cut_others (fw := crashTo (druns (K, []) (List.take kq (stepsL (a : Int) P))).1 (druns (K, []) (List.take kq (stepsL (a : Int) P))).2 (keepF kn kf) (druns (K, []) (List.take kq (stepsL (a : Int) P))).2.length) HAp.out HL.out.2.1 (fun x => crash_poss _ (Nat.le_refl _)))
        generalize crashTo (druns (K, []) (List.take kq (stepsL (a : Int) P))).1 (druns (K, []) (List.take kq (stepsL (a : Int) P))).2 (keepF kn kf) (druns (K, []) (List.take kq (stepsL (a : Int) P))).2.length = fw at HCR HFo HOt
        generalize shownB (List.take kq (stepsL (a : Int) P)) = sh at HFo ⊢
        clear hs8 HIn8 hln8
        have k82 := C8.out.2.2
        go_wp2_with fail
        refine (HCR.out).mono ?_
        rintro e w9 ⟨rfl, hdv, hsp⟩
        have HDV9 := hid hdv
        have HKW9 := hid (HKW8.out.spared HwB.out hsp)
        have hb := hsp.to (B := w5.heap.size) (Nat.le_trans hb6.out.size hb7.out.size) HDV7.out.lo (by have := HDV7.out.lo; have := HDV7.out.mid; omega)
        clear hdv hsp k82 HCR
        have B9 := hid (B8.out.trans (hb.mono B5.out.size))
        have Z9 : Hid (w.heap.size + 2 < w9.heap.size) := Nat.lt_of_lt_of_le Z8.out hb.size
        have Q9 := hid (show w9.cell? ⟨w.heap.size + 1, 0, none⟩ = some (.int .i64 P.err) ∧ w9.cell? ⟨w.heap.size + 1, 1, none⟩ = some (.int .i64 P.ino) ∧ w9.cell? ⟨w.heap.size + 1, 2, none⟩ = some (.slice P.F.A P.F.n P.F.c) ∧ w9.cell? ⟨w.heap.size + 1, 3, none⟩ = some (.slice P.L.A P.L.n P.L.c) ∧ w9.cell? ⟨w.heap.size + 1, 4, none⟩ = some (.slice P.R.A P.R.n P.R.c) ∧ w9.cell? ⟨w.heap.size + 1, 5, none⟩ = some (.slice P.D.A P.D.n P.D.c) from cells6 hb (Nat.lt_of_succ_lt Z5.out) Q8.out)
        have C9 := hid (show w9.cell? ⟨w.heap.size + 2, 0, none⟩ = some (.slice A m c) ∧ w9.cell? ⟨w.heap.size + 2, 1, none⟩ = some (.int .u16 cu) ∧ w9.cell? ⟨w.heap.size + 2, 2, none⟩ = some (.slice KA kn kc) from cells3 hb Z5.out C8.out)
        clear hb
        go_wp2_with fail
        refine (dwords_anyC w5.heap.size d kB ck N fw _ HDV9.out (by omega) (by omega)).mono ?_
        rintro e w10 ⟨cf, rfl, hcf, hkf, hb⟩
        have HKF10 := hid hkf
        have HKW10 := hid (HKW9.out.below hb)
        have HCf := hid hcf
        clear hkf hcf
        have B10 := hid (B9.out.trans (hb.mono B9.out.size))
        have Z10 : Hid (w.heap.size + 2 < w10.heap.size) := Nat.lt_of_lt_of_le Z9.out hb.size
        have Q10 := hid (show w10.cell? ⟨w.heap.size + 1, 0, none⟩ = some (.int .i64 P.err) ∧ w10.cell? ⟨w.heap.size + 1, 1, none⟩ = some (.int .i64 P.ino) ∧ w10.cell? ⟨w.heap.size + 1, 2, none⟩ = some (.slice P.F.A P.F.n P.F.c) ∧ w10.cell? ⟨w.heap.size + 1, 3, none⟩ = some (.slice P.L.A P.L.n P.L.c) ∧ w10.cell? ⟨w.heap.size + 1, 4, none⟩ = some (.slice P.R.A P.R.n P.R.c) ∧ w10.cell? ⟨w.heap.size + 1, 5, none⟩ = some (.slice P.D.A P.D.n P.D.c) from cells6 hb (Nat.lt_of_succ_lt Z9.out) Q9.out)
        have C10 := hid (show w10.cell? ⟨w.heap.size + 2, 0, none⟩ = some (.slice A m c) ∧ w10.cell? ⟨w.heap.size + 2, 1, none⟩ = some (.int .u16 cu) ∧ w10.cell? ⟨w.heap.size + 2, 2, none⟩ = some (.slice KA kn kc) from cells3 hb Z9.out C9.out)
        clear hb
        have HSl := hid (slot_of_row HKF10.out haN)
        have i0 : (0 : Int) ≤ (a : Int) := by omega
        have i1 : (a : Int) ≤ (a : Int) + 136 := by omega
        have i2 : (a : Int) + 136 ≤ (cf : Int) := by have := HCf.out; omega
        have i3 : IntKind.i64.wrap ((a : Int) + 136) = (a : Int) + 136 := by rw [IntKind.wrap_i64]; omega
        have i4 : ((a : Int) + 136 - (a : Int)).toNat = 136 := by omega
        have i5 : (a : Int).toNat = a := by omega
        go_wp2_with fail
        rcases HFo.out with ⟨f0, f1, f2⟩ | ⟨f0, f1, f2, f3⟩ | ⟨f0, f1, f2⟩
        · have HWh := hid (show WholeOk P a K fw sh from ⟨HOt.out, .inl ⟨f1, f2⟩⟩)
          have HR0 := hid (rread_none _ (cf - a) (fun k => fw (a + k)) w10 HSl.out f0)
          clear f0 f1 f2
          refine (HR0.out).mono ?_
          rintro e w11 ⟨rfl, hb⟩
          have HKF11 := hid (HKF10.out.below hb)
          have HKW11 := hid (HKW10.out.below hb)
          have B11 := hid (B10.out.trans (hb.mono B10.out.size))
          have Z11 : Hid (w.heap.size + 2 < w11.heap.size) := Nat.lt_of_lt_of_le Z10.out hb.size
          have Q11 := hid (show w11.cell? ⟨w.heap.size + 1, 0, none⟩ = some (.int .i64 P.err) ∧ w11.cell? ⟨w.heap.size + 1, 1, none⟩ = some (.int .i64 P.ino) ∧ w11.cell? ⟨w.heap.size + 1, 2, none⟩ = some (.slice P.F.A P.F.n P.F.c) ∧ w11.cell? ⟨w.heap.size + 1, 3, none⟩ = some (.slice P.L.A P.L.n P.L.c) ∧ w11.cell? ⟨w.heap.size + 1, 4, none⟩ = some (.slice P.R.A P.R.n P.R.c) ∧ w11.cell? ⟨w.heap.size + 1, 5, none⟩ = some (.slice P.D.A P.D.n P.D.c) from cells6 hb (Nat.lt_of_succ_lt Z10.out) Q10.out)
          have C11 := hid (show w11.cell? ⟨w.heap.size + 2, 0, none⟩ = some (.slice A m c) ∧ w11.cell? ⟨w.heap.size + 2, 1, none⟩ = some (.int .u16 cu) ∧ w11.cell? ⟨w.heap.size + 2, 2, none⟩ = some (.slice KA kn kc) from cells3 hb Z10.out C10.out)
          clear hb
          have hb : Below w11.heap.size w11 (w11.alloc (.cells #[.int .i64 0, .int .i64 0] 56)) := (Below.refl _ _).alloc (Nat.le_refl _) _
          have rA := heap_alloc_last w11 (.cells #[.int .i64 0, .int .i64 0] 56)
          have HKF12 := hid (HKF11.out.below hb)
          have HKW12 := hid (HKW11.out.below hb)
          have B12 := hid (B11.out.trans (hb.mono B11.out.size))
          obtain ⟨p120, p121, p122, p123, p124, p125⟩ := cells6 hb (Nat.lt_of_succ_lt Z11.out) Q11.out
          clear hb
          go_wp2_with fail
          refine (whole_any P a N w6.heap.size cw w9.heap.size cf sh K fw _ Hsm.out HL.out.1 (HP.out.below B12.out) HW.out HG.out HIn.out hN3 haN HKW12.out HKF12.out HWh.out).mono ?_
          rintro e w13 ⟨rfl, hb⟩
          have B13 := hid (B12.out.trans (hb.mono B12.out.size))
          clear hb
          go_wp2_with fail
          refine (alive_any _).mono ?_
          rintro e w14 ⟨rfl, hb⟩
          have B14 := hid (B13.out.trans (hb.mono B13.out.size))
          clear hb
          go_wp2
          go_ret
          exact ⟨rfl, B14.out⟩
        · have HWh := hid (whole_applied (sh := sh) HAp.out HOt.out f3)
          have HR0 := hid (rread_list _ (cf - a) P.R.n (fun k => fw (a + k)) P.R.f P.R.g w10 HSl.out HL.out.2.1 (fun k hk => by have := HIn.out.2.1 k hk; omega) HW.out f1 (fun j hj => by
            have := f2 j hj
            rw [Nat.add_assoc] at this
            exact this))
          clear f0 f1 f2 f3
          refine (HR0.out).mono ?_
          rintro e w11 ⟨A', c', rfl, hpr, hb⟩
          have HPr := hid hpr
          have HKF11 := hid (HKF10.out.below hb)
          have HKW11 := hid (HKW10.out.below hb)
          clear hpr
          have B11 := hid (B10.out.trans (hb.mono B10.out.size))
          have Z11 : Hid (w.heap.size + 2 < w11.heap.size) := Nat.lt_of_lt_of_le Z10.out hb.size
          have Q11 := hid (show w11.cell? ⟨w.heap.size + 1, 0, none⟩ = some (.int .i64 P.err) ∧ w11.cell? ⟨w.heap.size + 1, 1, none⟩ = some (.int .i64 P.ino) ∧ w11.cell? ⟨w.heap.size + 1, 2, none⟩ = some (.slice P.F.A P.F.n P.F.c) ∧ w11.cell? ⟨w.heap.size + 1, 3, none⟩ = some (.slice P.L.A P.L.n P.L.c) ∧ w11.cell? ⟨w.heap.size + 1, 4, none⟩ = some (.slice P.R.A P.R.n P.R.c) ∧ w11.cell? ⟨w.heap.size + 1, 5, none⟩ = some (.slice P.D.A P.D.n P.D.c) from cells6 hb (Nat.lt_of_succ_lt Z10.out) Q10.out)
          have C11 := hid (show w11.cell? ⟨w.heap.size + 2, 0, none⟩ = some (.slice A m c) ∧ w11.cell? ⟨w.heap.size + 2, 1, none⟩ = some (.int .u16 cu) ∧ w11.cell? ⟨w.heap.size + 2, 2, none⟩ = some (.slice KA kn kc) from cells3 hb Z10.out C10.out)
          clear hb
          have hb : Below w11.heap.size w11 (w11.alloc (.cells #[.int .i64 0, .int .i64 0] 56)) := (Below.refl _ _).alloc (Nat.le_refl _) _
          have HKF12 := hid (HKF11.out.below hb)
          have HKW12 := hid (HKW11.out.below hb)
          have HPr12 := hid (pairs_below HPr.out hb)
          have B12 := hid (B11.out.trans (hb.mono B11.out.size))
          have Q12 := hid (cells6 hb (Nat.lt_of_succ_lt Z11.out) Q11.out)
          have Z12 := hid (show w.heap.size + 2 < (w11.alloc (.cells #[.int .i64 0, .int .i64 0] 56)).heap.size from Nat.lt_of_lt_of_le Z11.out hb.size)
          clear hb
          go_wp2_with fail
          refine (rapply_any w9.heap.size N cf fw A' P.R.n c' P.R.f P.R.g _ HKF12.out (by omega) (by omega) Hsm.out.2.2.1 HPr12.out HIn.out.2.1).mono ?_
          rintro e w13 ⟨b13, c13, rfl, -, hk13, hb⟩
          have HKF13 := hid hk13
          have HKW13 := hid (HKW12.out.below hb)
          have B13 := hid (B12.out.trans (hb.mono B12.out.size))
          obtain ⟨p130, p131, p132, p133, p134, p135⟩ := cells6 hb (Nat.lt_of_succ_lt Z12.out) Q12.out
          clear hb hk13
          go_wp2_with fail
          refine (whole_any P a N w6.heap.size cw b13 c13 sh K _ _ Hsm.out HL.out.1 (HP.out.below B13.out) HW.out HG.out HIn.out hN3 haN HKW13.out HKF13.out HWh.out).mono ?_
          rintro e w14 ⟨rfl, hb⟩
          have B14 := hid (B13.out.trans (hb.mono B13.out.size))
          clear hb
          go_wp2_with fail
          refine (alive_any _).mono ?_
          rintro e w15 ⟨rfl, hb⟩
          have B15 := hid (B14.out.trans (hb.mono B14.out.size))
          clear hb
          go_wp2
          go_ret
          exact ⟨rfl, B15.out⟩
        · have HWh := hid (show WholeOk P a K fw sh from ⟨HOt.out, .inr ⟨f1, f2⟩⟩)
          have HR0 := hid (rread_none _ (cf - a) (fun k => fw (a + k)) w10 HSl.out f0)
          clear f0 f1 f2
          refine (HR0.out).mono ?_
          rintro e w11 ⟨rfl, hb⟩
          have HKF11 := hid (HKF10.out.below hb)
          have HKW11 := hid (HKW10.out.below hb)
          have B11 := hid (B10.out.trans (hb.mono B10.out.size))
          have Z11 : Hid (w.heap.size + 2 < w11.heap.size) := Nat.lt_of_lt_of_le Z10.out hb.size
          have Q11 := hid (show w11.cell? ⟨w.heap.size + 1, 0, none⟩ = some (.int .i64 P.err) ∧ w11.cell? ⟨w.heap.size + 1, 1, none⟩ = some (.int .i64 P.ino) ∧ w11.cell? ⟨w.heap.size + 1, 2, none⟩ = some (.slice P.F.A P.F.n P.F.c) ∧ w11.cell? ⟨w.heap.size + 1, 3, none⟩ = some (.slice P.L.A P.L.n P.L.c) ∧ w11.cell? ⟨w.heap.size + 1, 4, none⟩ = some (.slice P.R.A P.R.n P.R.c) ∧ w11.cell? ⟨w.heap.size + 1, 5, none⟩ = some (.slice P.D.A P.D.n P.D.c) from cells6 hb (Nat.lt_of_succ_lt Z10.out) Q10.out)
          have C11 := hid (show w11.cell? ⟨w.heap.size + 2, 0, none⟩ = some (.slice A m c) ∧ w11.cell? ⟨w.heap.size + 2, 1, none⟩ = some (.int .u16 cu) ∧ w11.cell? ⟨w.heap.size + 2, 2, none⟩ = some (.slice KA kn kc) from cells3 hb Z10.out C10.out)
          clear hb
          have hb : Below w11.heap.size w11 (w11.alloc (.cells #[.int .i64 0, .int .i64 0] 56)) := (Below.refl _ _).alloc (Nat.le_refl _) _
          have rA := heap_alloc_last w11 (.cells #[.int .i64 0, .int .i64 0] 56)
          have HKF12 := hid (HKF11.out.below hb)
          have HKW12 := hid (HKW11.out.below hb)
          have B12 := hid (B11.out.trans (hb.mono B11.out.size))
          obtain ⟨p120, p121, p122, p123, p124, p125⟩ := cells6 hb (Nat.lt_of_succ_lt Z11.out) Q11.out
          clear hb
          go_wp2_with fail
          refine (whole_any P a N w6.heap.size cw w9.heap.size cf sh K fw _ Hsm.out HL.out.1 (HP.out.below B12.out) HW.out HG.out HIn.out hN3 haN HKW12.out HKF12.out HWh.out).mono ?_
          rintro e w13 ⟨rfl, hb⟩
          have B13 := hid (B12.out.trans (hb.mono B12.out.size))
          clear hb
          go_wp2_with fail
          refine (alive_any _).mono ?_
          rintro e w14 ⟨rfl, hb⟩
          have B14 := hid (B13.out.trans (hb.mono B13.out.size))
          clear hb
          go_wp2
          go_ret
          exact ⟨rfl, B14.out⟩
theorem actw_any (p i b s : Int) (P : PlanD) (A : Option Addr) (m c : Nat) (cu : Int) (KA : Option Addr) (kn kc : Nat) (BF : Nat → Int) (kf : Nat → Bool) (w : World) (hba : BaseAt w A m BF) (hkb : BoolsAt w w.heap.size KA kn kf) (hcu : 0 ≤ cu ∧ cu < 65536) (hp : PlanAt w P) (hw : P.wf) (hg : Wf2 P.F.n P.F.g ∧ Wf2 P.D.n P.D.g) :
    Calls Try.prog 4 #[.agg #[.int .i64 p, .int .i64 i, .int .i64 b], .int .i64 s, .agg #[.int .i64 P.err, .int .i64 P.ino, .slice P.F.A P.F.n P.F.c, .slice P.L.A P.L.n P.L.c, .slice P.R.A P.R.n P.R.c, .slice P.D.A P.D.n P.D.c], .agg #[.slice A m c, .int .u16 cu, .slice KA kn kc]] w fun e w' => e = .returned (.bool true) ∧ Below w.heap.size w w' := by
  cases h : largeB p i b P
  · by_cases hm : 300 < m
    · exact actw_long p i b s P A m c cu KA kn kc w h hm
    · by_cases hk : 2000 < kn
      · exact actw_long2 p i b s P A m c cu KA kn kc w h (by omega) hk
      · by_cases he : errE p i b s P = 0
        · exact actw_ok p i b s P A m c cu KA kn kc w BF kf h (by omega) (by omega) hba hkb hcu hp hw hg he
        · exact actw_err p i b s P A m c cu KA kn kc w h (by omega) (by omega) hp _ rfl he
  · exact actw_large p i b s P A m c cu KA kn kc w h
end Go.Proofs.Ytimfnimcmfjjpaa
