/- The document's answers: which geometries and slots may be, and the fields of a word, bit by bit. -/
import Derived.Test.YtejapeafepcacaaDoorEntry
import Derived.Test.YtejapeafepcacaaDoorSame
import Derived.Deep.QuietTactic
import Derived.BigQuiet
namespace Go.Proofs.YtejapeafepcacaaDoor
open Go.RowKit
set_option maxHeartbeats 400000 in
set_option maxRecDepth 100000 in
theorem rgeom_any (p i b : Int) (w : World) :
    Calls Tryd.prog 18 #[.agg #[.int .i64 p, .int .i64 i, .int .i64 b]] w fun e w' => e = .returned (.bool (gok p i b)) ∧ Below w.heap.size w w' := by
  go_enter Tryd.func18, Tryd.ntmps18
  go_wp2
  all_goals
    go_ret
    refine ⟨?_, (Below.refl _ _).alloc (Nat.le_refl _) _⟩
    show Ending.returned (Value.bool _) = _
    first
      | (simp [gok, *]; done)
      | (simp [gok, *]; omega)
theorem named_pre (l : List UInt8) (k : Nat) (h : k < l.length) (h0 : l[k] = 0 ∨ l[k] = 47) : namedB l = false := by
  unfold namedB
  have hm : l[k] ∈ l := List.getElem_mem h
  rcases h0 with h0 | h0
  · rw [h0] at hm
    have := List.contains_iff_mem.2 hm
    rw [this]; simp
  · rw [h0] at hm
    have := List.contains_iff_mem.2 hm
    rw [this]; simp
theorem named_all (l : List UInt8) (h : ∀ k (hk : k < l.length), l[k] ≠ 0 ∧ l[k] ≠ 47) : namedB l = (decide (1 ≤ l.length) && decide (l.length ≤ 16)) := by
  unfold namedB
  have h0 : l.contains 0 = false := by
    rw [Bool.eq_false_iff]
    intro hc
    obtain ⟨k, hk, he⟩ := List.getElem_of_mem (List.contains_iff_mem.1 hc)
    exact (h k hk).1 he
  have h1 : l.contains 47 = false := by
    rw [Bool.eq_false_iff]
    intro hc
    obtain ⟨k, hk, he⟩ := List.getElem_of_mem (List.contains_iff_mem.1 hc)
    exact (h k hk).2 he
  rw [h0, h1]; simp
set_option maxHeartbeats 400000 in
set_option maxRecDepth 100000 in
theorem rnamed_any (s : ByteArray) (w : World) (hs : s.size ≤ 1000000) :
    Calls Tryd.prog 31 #[.string s] w fun e w' => e = .returned (.bool (namedB s.data.toList)) ∧ w = w' := by
  go_enter Tryd.func31, Tryd.ntmps31
  go_wp2
  go_loop [3] (fun i => ∃ k : Nat, k ≤ s.size ∧ i = .int .i64 k ∧ ∀ j (hj : j < s.size), j < k → s[j] ≠ 0 ∧ s[j] ≠ 47) (fun i => s.size - (intOf i).toNat)
  case atStart => exact ⟨0, by omega, rfl, fun j _ h => absurd h (by omega)⟩
  case round =>
    obtain ⟨k, hk, rfl, hpre⟩ := hrel
    have Hpre := hid hpre
    clear hpre
    by_cases hlt : k < s.size
    · have hb := s[k].toNat_lt
      by_cases h0 : s[k] = 0 ∨ s[k] = 47
      · have hn := hid (named_pre s.data.toList k (by simpa using hlt) h0)
        rcases h0 with h0 | h0
        · have e0 : (s[k].toNat : Int) = 0 := by rw [h0]; rfl
          go_wp2
          go_ret
          exact ⟨by rw [hn.out]; rfl, rfl⟩
        · have e0 : (s[k].toNat : Int) = 47 := by rw [h0]; rfl
          go_wp2
          go_ret
          exact ⟨by rw [hn.out]; rfl, rfl⟩
      · have e0 : ¬ (s[k].toNat : Int) = 0 := fun h => h0 (.inl (UInt8.toNat_inj.1 (show s[k].toNat = 0 by omega)))
        have e1 : ¬ (s[k].toNat : Int) = 47 := fun h => h0 (.inr (UInt8.toNat_inj.1 (show s[k].toNat = 47 by omega)))
        have b0 : ((s[k].toNat : Int) == 0) = false := by rw [beq_eq_false_iff_ne]; exact e0
        have b1 : ((s[k].toNat : Int) == 47) = false := by rw [beq_eq_false_iff_ne]; exact e1
        have H0 := hid h0
        clear h0
        go_wp2
        go_round
        case rel =>
          refine ⟨k + 1, by omega, by go_num, fun j hj hjk => ?_⟩
          by_cases hjk' : j < k
          · exact Hpre.out j hj hjk'
          · have : j = k := by omega
            subst this
            exact ⟨fun h => H0.out (.inl h), fun h => H0.out (.inr h)⟩
        case measure => simp [intOf]; omega
    · have hkk : k = s.size := by omega
      subst hkk
      have hn := hid (named_all s.data.toList (fun j hj => Hpre.out j (by simpa using hj) (by simpa using hj)))
      go_wp2
      all_goals
        go_ret
        refine ⟨?_, rfl⟩
        rw [hn.out]
        show Ending.returned (Value.bool _) = _
        congr 2
        first
          | (rw [← Bool.decide_and]; exact decide_eq_decide.2 (by simp; omega))
          | (rw [← Bool.decide_and]; exact (decide_eq_false (by simp; omega)).symm)
end Go.Proofs.YtejapeafepcacaaDoor
