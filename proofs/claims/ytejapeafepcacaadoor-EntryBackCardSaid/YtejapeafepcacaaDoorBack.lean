/- EntryBack answers true at every input: what was encoded is decoded as itself, and what is decoded is encoded as itself. No condition but the listed variable, which the card ties. -/
import Derived.Test.YtejapeafepcacaaDoorBackC
import Derived.Test.YtejapeafepcacaaDoorOpenW
import Derived.Test.YtejapeafepcacaaDoorCards
import Derived.Test.YtejapeafepcacaaDoorTie
import Derived.SevenTiedAt
namespace Go.Proofs.YtejapeafepcacaaDoor
open Go.ChangeShapes Go.WideShapes Go.RowKit
theorem back_any (a c : Int) (s : ByteArray) (F : Nat → Value) (next : Int) (ino kind : Nat → Int) (nm : Nat → ByteArray) (A : Option Addr) (m cp : Nat) (p i b : Int) (w : World) (hg : ErrType w) (hF : CellsIs F next ino kind nm) (f : Nat → Nat) (hf : ∀ k, f k < 18446744073709551616) (hL : Lies w A m f) :
    Calls Tryd.prog 7 #[.agg #[.int .i64 a, .int .u8 c, .string s], .agg (dirOf F), .slice A m cp, .agg #[.int .i64 p, .int .i64 i, .int .i64 b]] w fun e w' => e = .returned (.bool true) ∧ Below w.heap.size w w' := by
  by_cases hs : 200 < s.size
  · exact back_name a c s F next ino kind nm A m cp p i b w hg hF hs
  · by_cases hl : (∃ k, k < 10 ∧ 200 < (nm k).size) ∨ 100 < m
    · exact back_long a c s F next ino kind nm A m cp p i b w hg hF (by omega) hl
    · exact back_main a c s F next ino kind nm A m cp p i b w hg hF (by omega) (fun k hk => Nat.le_of_not_lt fun h => hl (.inl ⟨k, hk, h⟩)) (Nat.le_of_not_lt fun h => hl (.inr h)) f hf hL
/-- What is left of a law's row once the walk is done. -/
theorem back_post {H : Type} {enc : TypeId × Value → H} {W W' : World} {args : Array Value} {d0 d1 d2 d3 : DataW H} {p : List MemPlace}
    (hW : DataW.Whole enc Tryd.prog Tryd.f7.params.toList Rows.entryBackSpec.vars false W args.toList [d0, d1, d2, d3] [] (p ++ []))
    (hA : DataW.TrodAll enc Tryd.prog W 0 (fun _ => true) true Tryd.f7.params.toList args.toList [d0, d1, d2, d3] p) (hlt : ∀ x ∈ p, x.block < W.heap.size) (hb : Below W.heap.size W W') :
    Rows.entryBackSpec.post enc Tryd.prog Tryd.f7 false true false false W args (.bool true) W' := by
  have e1 : Rows.entryBackSpec.fn H ([d0, d1, d2, d3] ++ []) = { results := [.lit (.bool true)], args := [d0, d1, d2, d3] } := by simp [Rows.entryBackSpec]
  refine ⟨[d0, d1, d2, d3], [], p ++ [], [], p, [], hW, ?_, ?_, ?_, ?_, fun h => by cases h⟩
  · rw [e1]; exact trodAll_mk1 (shut_bool Tryd.underlying4 true)
  · rw [e1]
    refine trodAll_below laidOut hb _ _ _ _ (fun t ht => ?_) hA hlt
    have hall : (Tryd.f7.params.toList.all fun t => Tryd.prog.readableRec t && decide (t < Tryd.prog.types.size)) = true := by kernel_rfl
    have := List.all_eq_true.1 hall t ht
    simpa using this
  · rw [e1]; rfl
  · exact World.keptBut_mono (fun x hx => ⟨by simpa using hx, .inr (.inl hx)⟩) (hb.frame (· ∈ p))
set_option maxRecDepth 100000 in
theorem back_lifted (os : Os) (started : os.Started) (H : Type) (enc : TypeId × Value → H) :
    ReturnsInHanded {} Tryd.checked os 7 .any (fun w args => (Rows.entryBackSpec.pre enc Tryd.prog Tryd.f7 [] false w args ∧ laidMetH Tryd.prog laidL w) ∧ sizedMet enc Tryd.prog Tryd.f7 (OpenSpec.ofChange Rows.entryBackSpec) false w args)
      (Rows.entryBackSpec.post enc Tryd.prog Tryd.f7 false true false false) := by
  refine returnsInHanded_of_change_and (C := Tryd.checked) (X := fun w _ => laidMetH Tryd.prog laidL w) (fun _ _ _ hh h => h.of_heap hh) own started (by kernel_rfl) Tryd.func7
    (ChangeSpec.witness_at (enc := enc) (C := Tryd.checked) (os := os) (X := fun w _ => laidMetH Tryd.prog laidL w) false (laidWorld os) #[.agg #[.int .i64 0, .int .u8 0, .string ⟨#[]⟩], .agg #[.int .i64 0, .int .i64 0, .int .u8 0, .string ⟨#[]⟩, .int .i64 0, .int .u8 0, .string ⟨#[]⟩, .int .i64 0, .int .u8 0, .string ⟨#[]⟩, .int .i64 0, .int .u8 0, .string ⟨#[]⟩, .int .i64 0, .int .u8 0, .string ⟨#[]⟩, .int .i64 0, .int .u8 0, .string ⟨#[]⟩, .int .i64 0, .int .u8 0, .string ⟨#[]⟩, .int .i64 0, .int .u8 0, .string ⟨#[]⟩, .int .i64 0, .int .u8 0, .string ⟨#[]⟩, .int .i64 0, .int .u8 0, .string ⟨#[]⟩], .slice none 0 0, .agg #[.int .i64 0, .int .i64 0, .int .i64 0]] 8 rfl (by kernel_rfl) (by kernel_rfl) (by kernel_rfl) (by kernel_rfl) (by kernel_rfl) (laidWorld_met os _)) ?_
  intro W base args ds gs before hval0 hW _ _ hL _
  have hval : ∀ (j : Nat) t v, Tryd.f7.params[j]? = some t → args[j]? = some v → Value.okWide Tryd.prog W .any base t v := hval0
  have hW' := hW
  obtain ⟨p, q, hA0, hV0, rfl, hfz, hnd⟩ := hW
  have hA : DataW.TrodAll enc Tryd.prog W 0 (fun _ => true) true Tryd.f7.params.toList args.toList ds p := hA0
  have hV : DataW.TrodVars enc Tryd.prog W (fun _ => true) [] gs q := hV0
  obtain ⟨rfl, rfl⟩ : gs = [] ∧ q = [] := by
    cases gs with
    | nil => exact ⟨rfl, hV⟩
    | cons g r => exact absurd hV (by intro h; cases h)
  have hg := handle_of_laid hL
  have hlt : ∀ x ∈ p, x.block < W.heap.size := fun x hx => hW'.lt x (by simpa using hx)
  have hAA := hA
  rw [Tryd.params7] at hA hval
  obtain ⟨v0, v1, v2, v3, d0, d1, d2, d3, p0, p1, p2, p3, rfl, rfl, rfl, h0, h1, h2, h3⟩ := trodAll_four hA
  obtain ⟨a, c, s, rfl⟩ := open_slot (hval 0 23 v0 rfl rfl) h0
  obtain ⟨F, next, ino, kind, nm, rfl, hF⟩ := open_dir (hval 1 41 v1 rfl rfl) h1
  obtain ⟨A, m, cp, f, rfl, -, hf, hLies⟩ := open_words (hval 2 28 v2 rfl rfl) h2 (fun x hx => hlt x (by simp [hx]))
  obtain ⟨gp, gi, gb, rfl⟩ := open_geom (hval 3 25 v3 rfl rfl) h3
  refine (back_any a c s F next ino kind nm A m cp gp gi gb W hg hF f hf hLies).mono fun e W' ⟨he, hb⟩ => ?_
  subst he
  exact ⟨_, rfl, back_post hW' hAA hlt hb⟩
theorem entryBack_holds : Rows.EntryBackSaid :=
  OpenClaim.holds_of_wide 7 Tryd.f7 rfl rfl rfl rfl rfl rfl rfl ⟨rfl, rfl, rfl, rfl, rfl⟩ rfl rfl rfl rfl rfl (by kernel_rfl) Tryd.func7 (by kernel_rfl)
    (of_decide_eq_true (by kernel_rfl)) (by unfold Func.isWrapper; rw [if_neg (of_decide_eq_false (by kernel_rfl))]; exact ⟨rfl, rfl⟩)
    (fun os started H enc _ => back_lifted os started H enc)
theorem entryBack_card_holds : Rows.EntryBackCardSaid :=
  Claim7.holds_tied_plain_at .later [] [.handle] true (true, "b4e3d216b77428a99972bf44c6eb83b349a0aeab4dc6317528b46a9e906c355a") true
    entryBack_holds (fun _ h => by cases h) (by kernel_rfl) (fun _ h => by cases h) entryBack_row_tie rfl ⟨rfl, rfl⟩ (by kernel_rfl) rfl
    (fun f fn hf hfn => by
      obtain rfl : f = 7 := Option.some.inj ((show Tryd.prog.funcNamed "parclose/parcloselaw07.EntryBack" = some 7 by kernel_rfl).symm.trans hf) |>.symm
      obtain rfl : fn = Tryd.f7 := (Option.some.inj (Tryd.func7.symm.trans hfn)).symm
      exact ⟨by kernel_rfl, fun j t ht => by
        rw [Tryd.params7] at ht
        have hm : t ∈ [23, 41, 28, 25] := by simpa using Array.mem_of_getElem? ht
        have hall : ([23, 41, 28, 25].all fun u => !Tryd.prog.wantsStandIn u) = true := by kernel_rfl
        exact (show Tryd.prog.wantsStandIn t = false by simpa using List.all_eq_true.1 hall t hm)⟩)
    (by kernel_rfl)
#print axioms entryBack_card_holds
end Go.Proofs.YtejapeafepcacaaDoor
