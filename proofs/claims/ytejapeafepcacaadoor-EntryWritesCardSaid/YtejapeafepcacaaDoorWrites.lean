/- EntryWrites answers true at every input: which slots and blocks may be, and which words they are. No condition but the listed variable, which the card ties. -/
import Derived.Test.YtejapeafepcacaaDoorWritesA
import Derived.Test.YtejapeafepcacaaDoorOpenW
import Derived.Test.YtejapeafepcacaaDoorCards
import Derived.Test.YtejapeafepcacaaDoorTie
import Derived.SevenTiedAt
namespace Go.Proofs.YtejapeafepcacaaDoor
open Go.ChangeShapes Go.WideShapes Go.RowKit
theorem writes_any (a c : Int) (s : ByteArray) (F : Nat → Value) (next : Int) (ino kind : Nat → Int) (nm : Nat → ByteArray) (nx p i b : Int) (w : World) (hg : ErrType w) (hF : CellsIs F next ino kind nm) :
    Calls Tryd.prog 4 #[.agg #[.int .i64 a, .int .u8 c, .string s], .agg (dirOf F), .int .i64 nx, .agg #[.int .i64 p, .int .i64 i, .int .i64 b]] w fun e w' => e = .returned (.bool true) ∧ Below w.heap.size w w' := by
  by_cases hs : 200 < s.size
  · exact writes_name a c s F next ino kind nm nx p i b w hg hF hs
  · by_cases hl : ∃ k, k < 10 ∧ 200 < (nm k).size
    · exact writes_long a c s F next ino kind nm nx p i b w hg hF (by omega) hl
    · exact writes_main a c s F next ino kind nm nx p i b w hg hF (by omega) (fun k hk => Nat.le_of_not_lt fun h => hl ⟨k, hk, h⟩)
/-- What is left of a law's row once the walk is done. -/
theorem writes_post {H : Type} {enc : TypeId × Value → H} {W W' : World} {args : Array Value} {d0 d1 d2 d3 : DataW H} {p : List MemPlace}
    (hW : DataW.Whole enc Tryd.prog Tryd.f4.params.toList Rows.entryWritesSpec.vars false W args.toList [d0, d1, d2, d3] [] (p ++ []))
    (hA : DataW.TrodAll enc Tryd.prog W 0 (fun _ => true) true Tryd.f4.params.toList args.toList [d0, d1, d2, d3] p) (hlt : ∀ x ∈ p, x.block < W.heap.size) (hb : Below W.heap.size W W') :
    Rows.entryWritesSpec.post enc Tryd.prog Tryd.f4 false true false false W args (.bool true) W' := by
  have e1 : Rows.entryWritesSpec.fn H ([d0, d1, d2, d3] ++ []) = { results := [.lit (.bool true)], args := [d0, d1, d2, d3] } := by simp [Rows.entryWritesSpec]
  refine ⟨[d0, d1, d2, d3], [], p ++ [], [], p, [], hW, ?_, ?_, ?_, ?_, fun h => by cases h⟩
  · rw [e1]; exact trodAll_mk1 (shut_bool Tryd.underlying4 true)
  · rw [e1]
    refine trodAll_below laidOut hb _ _ _ _ (fun t ht => ?_) hA hlt
    have hall : (Tryd.f4.params.toList.all fun t => Tryd.prog.readableRec t && decide (t < Tryd.prog.types.size)) = true := by kernel_rfl
    have := List.all_eq_true.1 hall t ht
    simpa using this
  · rw [e1]; rfl
  · exact World.keptBut_mono (fun x hx => ⟨by simpa using hx, .inr (.inl hx)⟩) (hb.frame (· ∈ p))
set_option maxRecDepth 100000 in
theorem writes_lifted (os : Os) (started : os.Started) (H : Type) (enc : TypeId × Value → H) :
    ReturnsInHanded {} Tryd.checked os 4 .any (fun w args => (Rows.entryWritesSpec.pre enc Tryd.prog Tryd.f4 [] false w args ∧ laidMetH Tryd.prog laidL w) ∧ sizedMet enc Tryd.prog Tryd.f4 (OpenSpec.ofChange Rows.entryWritesSpec) false w args)
      (Rows.entryWritesSpec.post enc Tryd.prog Tryd.f4 false true false false) := by
  refine returnsInHanded_of_change_and (C := Tryd.checked) (X := fun w _ => laidMetH Tryd.prog laidL w) (fun _ _ _ hh h => h.of_heap hh) own started (by kernel_rfl) Tryd.func4
    (ChangeSpec.witness_at (enc := enc) (C := Tryd.checked) (os := os) (X := fun w _ => laidMetH Tryd.prog laidL w) false (laidWorld os) #[.agg #[.int .i64 0, .int .u8 0, .string ⟨#[]⟩], .agg #[.int .i64 0, .int .i64 0, .int .u8 0, .string ⟨#[]⟩, .int .i64 0, .int .u8 0, .string ⟨#[]⟩, .int .i64 0, .int .u8 0, .string ⟨#[]⟩, .int .i64 0, .int .u8 0, .string ⟨#[]⟩, .int .i64 0, .int .u8 0, .string ⟨#[]⟩, .int .i64 0, .int .u8 0, .string ⟨#[]⟩, .int .i64 0, .int .u8 0, .string ⟨#[]⟩, .int .i64 0, .int .u8 0, .string ⟨#[]⟩, .int .i64 0, .int .u8 0, .string ⟨#[]⟩, .int .i64 0, .int .u8 0, .string ⟨#[]⟩], .int .i64 0, .agg #[.int .i64 0, .int .i64 0, .int .i64 0]] 8 rfl (by kernel_rfl) (by kernel_rfl) (by kernel_rfl) (by kernel_rfl) (by kernel_rfl) (laidWorld_met os _)) ?_
  intro W base args ds gs before hval0 hW _ _ hL _
  have hval : ∀ (j : Nat) t v, Tryd.f4.params[j]? = some t → args[j]? = some v → Value.okWide Tryd.prog W .any base t v := hval0
  have hW' := hW
  obtain ⟨p, q, hA0, hV0, rfl, hfz, hnd⟩ := hW
  have hA : DataW.TrodAll enc Tryd.prog W 0 (fun _ => true) true Tryd.f4.params.toList args.toList ds p := hA0
  have hV : DataW.TrodVars enc Tryd.prog W (fun _ => true) [] gs q := hV0
  obtain ⟨rfl, rfl⟩ : gs = [] ∧ q = [] := by
    cases gs with
    | nil => exact ⟨rfl, hV⟩
    | cons g r => exact absurd hV (by intro h; cases h)
  have hg := handle_of_laid hL
  have hlt : ∀ x ∈ p, x.block < W.heap.size := fun x hx => hW'.lt x (by simpa using hx)
  have hAA := hA
  rw [Tryd.params4] at hA hval
  obtain ⟨v0, v1, v2, v3, d0, d1, d2, d3, p0, p1, p2, p3, rfl, rfl, rfl, h0, h1, h2, h3⟩ := trodAll_four hA
  obtain ⟨a, c, s, rfl⟩ := open_slot (hval 0 23 v0 rfl rfl) h0
  obtain ⟨F, next, ino, kind, nm, rfl, hF⟩ := open_dir (hval 1 41 v1 rfl rfl) h1
  obtain ⟨nx, rfl, rfl, rfl, -⟩ := open_int Tryd.underlying3 (hval 2 3 v2 rfl rfl) h2
  obtain ⟨gp, gi, gb, rfl⟩ := open_geom (hval 3 25 v3 rfl rfl) h3
  refine (writes_any a c s F next ino kind nm nx gp gi gb W hg hF).mono fun e W' ⟨he, hb⟩ => ?_
  subst he
  exact ⟨_, rfl, writes_post hW' hAA hlt hb⟩
theorem entryWrites_holds : Rows.EntryWritesSaid :=
  OpenClaim.holds_of_wide 4 Tryd.f4 rfl rfl rfl rfl rfl rfl rfl ⟨rfl, rfl, rfl, rfl, rfl⟩ rfl rfl rfl rfl rfl (by kernel_rfl) Tryd.func4 (by kernel_rfl)
    (of_decide_eq_true (by kernel_rfl)) (by unfold Func.isWrapper; rw [if_neg (of_decide_eq_false (by kernel_rfl))]; exact ⟨rfl, rfl⟩)
    (fun os started H enc _ => writes_lifted os started H enc)
theorem entryWrites_card_holds : Rows.EntryWritesCardSaid :=
  Claim7.holds_tied_plain_at .later [] [.handle] true (true, "b4e3d216b77428a99972bf44c6eb83b349a0aeab4dc6317528b46a9e906c355a") true
    entryWrites_holds (fun _ h => by cases h) (by kernel_rfl) (fun _ h => by cases h) entryWrites_row_tie rfl ⟨rfl, rfl⟩ (by kernel_rfl) rfl
    (fun f fn hf hfn => by
      obtain rfl : f = 4 := Option.some.inj ((show Tryd.prog.funcNamed "parclose/parcloselaw07.EntryWrites" = some 4 by kernel_rfl).symm.trans hf) |>.symm
      obtain rfl : fn = Tryd.f4 := (Option.some.inj (Tryd.func4.symm.trans hfn)).symm
      exact ⟨by kernel_rfl, fun j t ht => by
        rw [Tryd.params4] at ht
        have hm : t ∈ [23, 41, 3, 25] := by simpa using Array.mem_of_getElem? ht
        have hall : ([23, 41, 3, 25].all fun u => !Tryd.prog.wantsStandIn u) = true := by kernel_rfl
        exact (show Tryd.prog.wantsStandIn t = false by simpa using List.all_eq_true.1 hall t hm)⟩)
    (by kernel_rfl)
#print axioms entryWrites_card_holds
end Go.Proofs.YtejapeafepcacaaDoor
