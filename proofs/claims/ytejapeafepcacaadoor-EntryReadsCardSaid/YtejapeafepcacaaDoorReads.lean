/- EntryReads answers true at every input: what any words are read as, a slot, a block, or where they are none. No condition but the listed variable, which the card ties. -/
import Derived.Test.YtejapeafepcacaaDoorReadsB
import Derived.Test.YtejapeafepcacaaDoorOpenW
import Derived.Test.YtejapeafepcacaaDoorCards
import Derived.Test.YtejapeafepcacaaDoorTie
import Derived.SevenTiedAt
namespace Go.Proofs.YtejapeafepcacaaDoor
open Go.ChangeShapes Go.WideShapes Go.RowKit
theorem reads_any (A A' : Option Addr) (m m' c c' : Nat) (f f' : Nat → Nat) (p i b : Int) (w : World) (he : ErrType w) (hc : m ≤ c) (hc' : m' ≤ c') (hf : ∀ k, f k < 18446744073709551616) (hf' : ∀ k, f' k < 18446744073709551616) (hl : Lies w A m f) (hl' : Lies w A' m' f') :
    Calls Tryd.prog 6 #[.slice A m c, .slice A' m' c', .agg #[.int .i64 p, .int .i64 i, .int .i64 b]] w fun e w' => e = .returned (.bool true) ∧ Below w.heap.size w w' := by
  by_cases hq : 40 < m ∨ 100 < m'
  · exact reads_quit A A' m m' c c' p i b w he hq
  · exact reads_main A A' m m' c c' f f' p i b w he (by omega) (by omega) hc hc' hf hf' hl hl'
/-- What is left of a law's row once the walk is done. -/
theorem reads_post {H : Type} {enc : TypeId × Value → H} {W W' : World} {args : Array Value} {d0 d1 d2 : DataW H} {p : List MemPlace}
    (hW : DataW.Whole enc Tryd.prog Tryd.f6.params.toList Rows.entryReadsSpec.vars false W args.toList [d0, d1, d2] [] (p ++ []))
    (hA : DataW.TrodAll enc Tryd.prog W 0 (fun _ => true) true Tryd.f6.params.toList args.toList [d0, d1, d2] p) (hlt : ∀ x ∈ p, x.block < W.heap.size) (hb : Below W.heap.size W W') :
    Rows.entryReadsSpec.post enc Tryd.prog Tryd.f6 false true false false W args (.bool true) W' := by
  have e1 : Rows.entryReadsSpec.fn H ([d0, d1, d2] ++ []) = { results := [.lit (.bool true)], args := [d0, d1, d2] } := by simp [Rows.entryReadsSpec]
  refine ⟨[d0, d1, d2], [], p ++ [], [], p, [], hW, ?_, ?_, ?_, ?_, fun h => by cases h⟩
  · rw [e1]; exact trodAll_mk1 (shut_bool Tryd.underlying4 true)
  · rw [e1]
    refine trodAll_below laidOut hb _ _ _ _ (fun t ht => ?_) hA hlt
    have hall : (Tryd.f6.params.toList.all fun t => Tryd.prog.readableRec t && decide (t < Tryd.prog.types.size)) = true := by kernel_rfl
    have := List.all_eq_true.1 hall t ht
    simpa using this
  · rw [e1]; rfl
  · exact World.keptBut_mono (fun x hx => ⟨by simpa using hx, .inr (.inl hx)⟩) (hb.frame (· ∈ p))
set_option maxRecDepth 100000 in
theorem reads_lifted (os : Os) (started : os.Started) (H : Type) (enc : TypeId × Value → H) :
    ReturnsInHanded {} Tryd.checked os 6 .any (fun w args => (Rows.entryReadsSpec.pre enc Tryd.prog Tryd.f6 [] false w args ∧ laidMetH Tryd.prog laidL w) ∧ sizedMet enc Tryd.prog Tryd.f6 (OpenSpec.ofChange Rows.entryReadsSpec) false w args)
      (Rows.entryReadsSpec.post enc Tryd.prog Tryd.f6 false true false false) := by
  refine returnsInHanded_of_change_and (C := Tryd.checked) (X := fun w _ => laidMetH Tryd.prog laidL w) (fun _ _ _ hh h => h.of_heap hh) own started (by kernel_rfl) Tryd.func6
    (ChangeSpec.witness_at (enc := enc) (C := Tryd.checked) (os := os) (X := fun w _ => laidMetH Tryd.prog laidL w) false (laidWorld os) #[.slice none 0 0, .slice none 0 0, .agg #[.int .i64 0, .int .i64 0, .int .i64 0]] 8 rfl (by kernel_rfl) (by kernel_rfl) (by kernel_rfl) (by kernel_rfl) (by kernel_rfl) (laidWorld_met os _)) ?_
  intro W base args ds gs before hval0 hW _ _ hL _
  have hval : ∀ (j : Nat) t v, Tryd.f6.params[j]? = some t → args[j]? = some v → Value.okWide Tryd.prog W .any base t v := hval0
  have hW' := hW
  obtain ⟨p, q, hA0, hV0, rfl, hfz, hnd⟩ := hW
  have hA : DataW.TrodAll enc Tryd.prog W 0 (fun _ => true) true Tryd.f6.params.toList args.toList ds p := hA0
  have hV : DataW.TrodVars enc Tryd.prog W (fun _ => true) [] gs q := hV0
  obtain ⟨rfl, rfl⟩ : gs = [] ∧ q = [] := by
    cases gs with
    | nil => exact ⟨rfl, hV⟩
    | cons g r => exact absurd hV (by intro h; cases h)
  have hg := handle_of_laid hL
  have hlt : ∀ x ∈ p, x.block < W.heap.size := fun x hx => hW'.lt x (by simpa using hx)
  have hAA := hA
  rw [Tryd.params6] at hA hval
  obtain ⟨v0, v1, v2, d0, d1, d2, p0, p1, p2, rfl, rfl, rfl, h0, h1, h2⟩ := trodAll_three hA
  obtain ⟨A, m, c, f, rfl, hc, hf, hLies⟩ := open_words (hval 0 28 v0 rfl rfl) h0 (fun x hx => hlt x (by simp [hx]))
  obtain ⟨A', m', c', f', rfl, hc', hf', hLies'⟩ := open_words (hval 1 28 v1 rfl rfl) h1 (fun x hx => hlt x (by simp [hx]))
  obtain ⟨gp, gi, gb, rfl⟩ := open_geom (hval 2 25 v2 rfl rfl) h2
  refine (reads_any A A' m m' c c' f f' gp gi gb W hg hc hc' hf hf' hLies hLies').mono fun e W' ⟨he, hb⟩ => ?_
  subst he
  exact ⟨_, rfl, reads_post hW' hAA hlt hb⟩
theorem entryReads_holds : Rows.EntryReadsSaid :=
  OpenClaim.holds_of_wide 6 Tryd.f6 rfl rfl rfl rfl rfl rfl rfl ⟨rfl, rfl, rfl, rfl, rfl⟩ rfl rfl rfl rfl rfl (by kernel_rfl) Tryd.func6 (by kernel_rfl)
    (of_decide_eq_true (by kernel_rfl)) (by unfold Func.isWrapper; rw [if_neg (of_decide_eq_false (by kernel_rfl))]; exact ⟨rfl, rfl⟩)
    (fun os started H enc _ => reads_lifted os started H enc)
theorem entryReads_card_holds : Rows.EntryReadsCardSaid :=
  Claim7.holds_tied_plain_at .later [] [.handle] true (true, "b4e3d216b77428a99972bf44c6eb83b349a0aeab4dc6317528b46a9e906c355a") true
    entryReads_holds (fun _ h => by cases h) (by kernel_rfl) (fun _ h => by cases h) entryReads_row_tie rfl ⟨rfl, rfl⟩ (by kernel_rfl) rfl
    (fun f fn hf hfn => by
      obtain rfl : f = 6 := Option.some.inj ((show Tryd.prog.funcNamed "parclose/parcloselaw07.EntryReads" = some 6 by kernel_rfl).symm.trans hf) |>.symm
      obtain rfl : fn = Tryd.f6 := (Option.some.inj (Tryd.func6.symm.trans hfn)).symm
      exact ⟨by kernel_rfl, fun j t ht => by
        rw [Tryd.params6] at ht
        have hm : t ∈ [28, 28, 25] := by simpa using Array.mem_of_getElem? ht
        have hall : ([28, 28, 25].all fun u => !Tryd.prog.wantsStandIn u) = true := by kernel_rfl
        exact (show Tryd.prog.wantsStandIn t = false by simpa using List.all_eq_true.1 hall t hm)⟩)
    (by kernel_rfl)
#print axioms entryReads_card_holds
end Go.Proofs.YtejapeafepcacaaDoor
