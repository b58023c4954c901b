/- The words of a device once more, with the room that they have. -/
import Derived.Test.YtimfnimcmfjjpaaDCrash
namespace Go.Proofs.Ytimfnimcmfjjpaa
open Go.RowKit
set_option maxRecDepth 100000 in
theorem wpList_copy_wordsC {ops : Array Oper} {rest : List Oper} {o : Oper} {a : Act} {w : World} {Q : Exit → Act → World → Prop} (hgd : o.guard = none) (s x : Operand)
    (ho : o.op = .call { callee := .builtin .append, args := #[s, x], argTypes := #[38, 38] }) (A : Option Addr) (m c : Nat) (K : Nat → Int) (hs : a.eval s = .slice none 0 0) (hx : a.eval x = .slice A m c) (hl : WordsIn w A m K) (h0 : 0 < m) (hm : m ≤ 1000000)
    (h : ∀ c' w', m ≤ c' → Below w.heap.size w w' → KeptAt w' w.heap.size m K → wpList Try.prog ops Q rest (a.put o.dst (.slice (some ⟨w.heap.size, 0, none⟩) m c')) w') : wpList Try.prog ops Q (o :: rest) a w := by
  obtain ⟨q, rfl, hq, hc⟩ := hl
  obtain ⟨i0, hi, hz0, hz1, hz2⟩ := info_parts word_info
  refine wpList_append_lies w hgd s x 38 ho w.heap.size 51 i0 _ 1 8 Try.underlying38 hi hz0 hz1 hz2 rfl (by omega) (.slice none 0 0) 0 [] hs ⟨by simp, .inl ⟨rfl, rfl⟩⟩ ⟨q, 0, none⟩ m c ((List.range m).map fun k => Value.int .u64 (K k)) hx (by simp) (fun j u hj => ?_) (fun u hu => ?_) h0 (by unfold maxLen; omega) (by omega) (Nat.le_refl _) _ rfl (fun g cap w' h1 h2 h3 _ => ?_)
  · have hjm : j < m := by have := (List.getElem?_eq_some_iff.1 hj).1; simpa using this
    rw [show (⟨q, 0, none⟩ : Addr).add j = ⟨q, j, none⟩ by
      by_cases e : j = 0
      · subst e; rfl
      · rw [add_lit _ _ e]; simp, hc j hjm]
    simpa [hjm] using hj
  · obtain ⟨k, -, rfl⟩ := List.mem_map.1 hu
    rfl
  · obtain rfl : g = w.heap.size := by
      rcases h3 with h3 | h3
      · simp [Value.ownBlock] at h3
      · exact h3
    have hb := (Below.refl w.heap.size w).grown h2 (Nat.le_refl _) (by simp [Value.ownBlock])
    rw [Nat.zero_add] at h1 ⊢
    refine h cap w' (by
      rcases h1.2 with ⟨h4, -⟩ | ⟨g, cap', cur, hv, -, -, hcap, -⟩
      · simp at h4
      · obtain ⟨-, rfl⟩ : w.heap.size = g ∧ cap = cap' := by simpa using hv
        exact hcap) hb ?_
    obtain ⟨hlen, h4 | ⟨g, cap', cur, hv, -, hg, hcap, -, hsz, htake⟩⟩ := h1
    · simp at h4
    · obtain ⟨rfl, rfl⟩ : w.heap.size = g ∧ cap = cap' := by simpa using hv
      refine ⟨cap, fun i => cur.getD i (.int .u64 0), hcap, ?_, fun i hi => ?_⟩
      · exact ⟨cur, hg, by rw [hsz]; omega, fun i hi => by
          have hi' : i < cur.size := by rw [hsz]; omega
          simp [Array.getD, hi']⟩
      · have e : (cur.toList.take (m * 1))[i]? = some (Value.int .u64 (K i)) := by
          rw [htake]
          simp [hi]
        rw [List.getElem?_take_of_lt (by omega), Array.getElem?_toList] at e
        show cur.getD i _ = _
        obtain ⟨hi', e'⟩ := Array.getElem?_eq_some_iff.1 e
        rw [Array.getD, dif_pos hi']
        exact e'
set_option maxHeartbeats 1000000 in
set_option maxRecDepth 100000 in
/-- The words of a device on which nothing waits. -/
theorem dwords_anyC (B d kB c n : Nat) (K : Nat → Int) (w : World) (h : DevAt w B d kB c (.slice none 0 0) n K []) (h0 : 0 < n) (hn : n ≤ 1000000) :
    Calls Try.prog 18 #[.pointer (some ⟨d, 0, none⟩)] w fun e w' => ∃ c', e = .returned (.slice (some ⟨w.heap.size, 0, none⟩) n c') ∧ n ≤ c' ∧ KeptAt w' w.heap.size n K ∧ Below w.heap.size w w' := by
  have c0 := h.cells.1
  have c1 := h.cells.2
  have HI := hid h.kept.wordsIn
  have hlt := hid h.lt
  clear h
  go_enter Try.func18, Try.ntmps18
  go_wp2_with (at_builtin; refine wpList_copy_wordsC rfl (.const (.slice none 0 0)) (.tmp 8) rfl _ n c K rfl rfl HI.out h0 hn ?_; intro c' w2 hcc hb hk; have HCc := hid hcc; have HB := hid hb; have HK := hid hk; clear hcc hb hk)
  have d1 := hid ((HB.out.cell (p := ⟨d, 1, none⟩) hlt.out).trans c1)
  go_loopw [4] (fun v wr => v = .int .i64 0 ∧ wr = w2) (fun _ _ => 0)
  case atStart => exact ⟨rfl, rfl⟩
  case round =>
    obtain ⟨rfl, rfl⟩ := hrel
    have d1' := d1.out
    go_wp2
    go_ret
    exact ⟨c', rfl, HCc.out, HK.out, HB.out⟩
end Go.Proofs.Ytimfnimcmfjjpaa
