/- A directory block as a value: its 31 cells, its slots by index, its load. -/
import Derived.Test.YtejapeafepcacaaDoorTurnedA
import Derived.Deep.MidRow
import Derived.Deep.WholeRow
namespace Go.Proofs.YtejapeafepcacaaDoor
open Go.RowKit
/-- A block's 31 cells: Next, and ten slots. -/
structure DirIs (C : Array Value) (next : Int) (ino kind : Nat → Int) (nm : Nat → ByteArray) : Prop where
  size : C.size = 31
  next : C[0]? = some (.int .i64 next)
  ino : ∀ k, k < 10 → C[1 + 3 * k]? = some (.int .i64 (ino k))
  kind : ∀ k, k < 10 → C[1 + 3 * k + 1]? = some (.int .u8 (kind k))
  nm : ∀ k, k < 10 → C[1 + 3 * k + 2]? = some (.string (nm k))
theorem extract3 (A : Array Value) (o : Nat) (a b c : Value) (h0 : A[o]? = some a) (h1 : A[o + 1]? = some b) (h2 : A[o + 2]? = some c) : A.extract o (o + 3) = #[a, b, c] := by
  have hs : o + 2 < A.size := by
    have := (Array.getElem?_eq_some_iff.1 h2).1
    exact this
  apply Array.ext_getElem?
  intro j
  rw [Array.getElem?_extract]
  match j with
  | 0 => simpa [show 0 < min (o + 3) A.size - o by omega] using h0
  | 1 => simpa [show 1 < min (o + 3) A.size - o by omega] using h1
  | 2 => simpa [show 2 < min (o + 3) A.size - o by omega] using h2
  | j + 3 => simp [show ¬ (j + 3 < min (o + 3) A.size - o) by omega]
theorem run_index39 {C : Array Value} {next : Int} {ino kind : Nat → Int} {nm : Nat → ByteArray} (h : DirIs C next ino kind nm) (k : Nat) (hk : k < 10) (w : World) :
    (Instr.index 39 (.agg (C.extract 1 31)) (.int .i64 (k : Int))).run Tryd.prog w = .ok (.agg #[.int .i64 (ino k), .int .u8 (kind k), .string (nm k)]) w := by
  have hx : (C.extract 1 31).extract (k * 3) (k * 3 + 3) = #[.int .i64 (ino k), .int .u8 (kind k), .string (nm k)] := by
    refine extract3 _ _ _ _ _ ?_ ?_ ?_
    · rw [Array.getElem?_extract, h.size, if_pos (by omega), ← h.ino k hk]; congr 1; omega
    · rw [Array.getElem?_extract, h.size, if_pos (by omega), ← h.kind k hk]; congr 1; omega
    · rw [Array.getElem?_extract, h.size, if_pos (by omega), ← h.nm k hk]; congr 1; omega
  have hk' : (k : Int) < 10 := by omega
  have hz : (sizeOf 23).run Tryd.prog w = .ok 3 w := by
    have h3 : (Tryd.prog.info? 23).map (·.size) = some 3 := by kernel_rfl
    cases hq : Tryd.prog.info? 23 with
    | none => simp [hq] at h3
    | some i =>
      have hs : i.size = 3 := by simpa [hq] using h3
      simp [sizeOf, typeInfo, hq, hs]
  unfold Instr.index
  simp [Sem.run_bind, asIntOf, run_underlying Tryd.underlying39 w, hk, part, hz, hx, -Array.extract_extract]
theorem run_load39 (C : Array Value) (hs : C.size = 31) (w : World) (B : Nat) (hB : ∀ j, j < 31 → w.cell? ⟨B, j, none⟩ = C[j]?) :
    (Instr.loadAt 39 (.pointer (some ⟨B, 1, none⟩))).run Tryd.prog w = .ok (.agg (C.extract 1 31)) w := by
  have := run_loadAt_mid (P := Tryd.prog) w B 1 39 (C.extract 1 31).toList _ (fun j v hj => by
    have hj' : (C.extract 1 31)[j]? = some v := by rw [Array.getElem?_toList] at hj; exact hj
    rw [Array.getElem?_extract] at hj'
    split at hj'
    · rw [hB _ (by omega)]; exact hj'
    · cases hj') Tryd.underlying39 rfl (by rw [Array.length_toList, Array.size_extract, hs]; kernel_rfl)
  rw [Array.toArray_toList] at this
  exact this
end Go.Proofs.YtejapeafepcacaaDoor
