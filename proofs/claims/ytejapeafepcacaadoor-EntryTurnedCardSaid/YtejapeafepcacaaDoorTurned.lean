/- EntryTurned answers true at every input: a slot in whose words some of 32 bits in a row are turned is no slot any more, unless it is empty then. No condition but the listed variable, which the card ties. -/
import Derived.Test.YtejapeafepcacaaDoorFrame
import Derived.Test.YtejapeafepcacaaDoorTurnedB
import Derived.Test.YtejapeafepcacaaDoorCards
import Derived.Test.YtejapeafepcacaaDoorTie
import Derived.SevenTiedAt
namespace Go.Proofs.YtejapeafepcacaaDoor
open Go.ChangeShapes Go.WideShapes Go.RowKit
theorem turned_any (ino kind p i b : Int) (at_ turns : Nat) (s : ByteArray) (w : World) (hg : ErrType w) (ha : at_ < 256) (ht : turns < 4294967296) :
    Calls Tryd.prog 3 #[.agg #[.int .i64 ino, .int .u8 kind, .string s], .agg #[.int .i64 p, .int .i64 i, .int .i64 b], .int .u8 (at_ : Int), .int .u32 (turns : Int)] w fun e w' => e = .returned (.bool true) ∧ Below w.heap.size w w' := by
  by_cases hl : 200 < s.size
  · exact turned_long ino kind p i b at_ turns s w hg hl
  · by_cases hz : ino = 0 ∧ kind = 0 ∧ s.data.toList = []
    · obtain ⟨rfl, rfl, h3⟩ := hz
      obtain rfl := empty_of s h3
      exact turned_zero p i b at_ turns w hg
    · cases hm : mayB ino kind s.data.toList p i b
      · exact turned_not ino kind p i b at_ turns s w hg (by omega) hz hm
      · exact turned_main ino kind p i b at_ turns s w hg (by omega) hz hm ha ht
theorem wf_u8 {n : Int} (h : (Lit.int .u8 n).wf = true) : 0 ≤ n ∧ n < 256 := by
  have h' : IntKind.u8.min ≤ n ∧ n ≤ IntKind.u8.max := by simpa [Lit.wf] using h
  have e1 : IntKind.u8.min = 0 := rfl
  have e2 : IntKind.u8.max = 255 := rfl
  omega
theorem wf_u32 {n : Int} (h : (Lit.int .u32 n).wf = true) : 0 ≤ n ∧ n < 4294967296 := by
  have h' : IntKind.u32.min ≤ n ∧ n ≤ IntKind.u32.max := by simpa [Lit.wf] using h
  have e1 : IntKind.u32.min = 0 := rfl
  have e2 : IntKind.u32.max = 4294967295 := rfl
  omega
/-- What is left of a law's row once the walk is done. -/
theorem turned_post {H : Type} {enc : TypeId × Value → H} {W W' : World} {args : Array Value} {d0 d1 d2 d3 : DataW H} {p : List MemPlace}
    (hW : DataW.Whole enc Tryd.prog Tryd.f3.params.toList Rows.entryTurnedSpec.vars false W args.toList [d0, d1, d2, d3] [] (p ++ []))
    (hA : DataW.TrodAll enc Tryd.prog W 0 (fun _ => true) true Tryd.f3.params.toList args.toList [d0, d1, d2, d3] p) (hlt : ∀ x ∈ p, x.block < W.heap.size) (hb : Below W.heap.size W W') :
    Rows.entryTurnedSpec.post enc Tryd.prog Tryd.f3 false true false false W args (.bool true) W' := by
  have e1 : Rows.entryTurnedSpec.fn H ([d0, d1, d2, d3] ++ []) = { results := [.lit (.bool true)], args := [d0, d1, d2, d3] } := by simp [Rows.entryTurnedSpec]
  refine ⟨[d0, d1, d2, d3], [], p ++ [], [], p, [], hW, ?_, ?_, ?_, ?_, fun h => by cases h⟩
  · rw [e1]; exact trodAll_mk1 (shut_bool Tryd.underlying4 true)
  · rw [e1]
    refine trodAll_below laidOut hb _ _ _ _ (fun t ht => ?_) hA hlt
    have hall : (Tryd.f3.params.toList.all fun t => Tryd.prog.readableRec t && decide (t < Tryd.prog.types.size)) = true := by kernel_rfl
    have := List.all_eq_true.1 hall t ht
    simpa using this
  · rw [e1]; rfl
  · exact World.keptBut_mono (fun x hx => ⟨by simpa using hx, .inr (.inl hx)⟩) (hb.frame (· ∈ p))
set_option maxRecDepth 100000 in
theorem turned_lifted (os : Os) (started : os.Started) (H : Type) (enc : TypeId × Value → H) :
    ReturnsInHanded {} Tryd.checked os 3 .any (fun w args => (Rows.entryTurnedSpec.pre enc Tryd.prog Tryd.f3 [] false w args ∧ laidMetH Tryd.prog laidL w) ∧ sizedMet enc Tryd.prog Tryd.f3 (OpenSpec.ofChange Rows.entryTurnedSpec) false w args)
      (Rows.entryTurnedSpec.post enc Tryd.prog Tryd.f3 false true false false) := by
  refine returnsInHanded_of_change_and (C := Tryd.checked) (X := fun w _ => laidMetH Tryd.prog laidL w) (fun _ _ _ hh h => h.of_heap hh) own started (by kernel_rfl) Tryd.func3
    (ChangeSpec.witness_at (enc := enc) (C := Tryd.checked) (os := os) (X := fun w _ => laidMetH Tryd.prog laidL w) false (laidWorld os) #[.agg #[.int .i64 0, .int .u8 0, .string ⟨#[]⟩], .agg #[.int .i64 0, .int .i64 0, .int .i64 0], .int .u8 0, .int .u32 0] 8 rfl (by kernel_rfl) (by kernel_rfl) (by kernel_rfl) (by kernel_rfl) (by kernel_rfl) (laidWorld_met os _)) ?_
  intro W base args ds gs before hval0 hW _ _ hL _
  have hval : ∀ (j : Nat) t v, Tryd.f3.params[j]? = some t → args[j]? = some v → Value.okWide Tryd.prog W .any base t v := hval0
  have hW' := hW
  obtain ⟨p, q, hA0, hV0, rfl, hfz, hnd⟩ := hW
  have hA : DataW.TrodAll enc Tryd.prog W 0 (fun _ => true) true Tryd.f3.params.toList args.toList ds p := hA0
  have hV : DataW.TrodVars enc Tryd.prog W (fun _ => true) [] gs q := hV0
  obtain ⟨rfl, rfl⟩ : gs = [] ∧ q = [] := by
    cases gs with
    | nil => exact ⟨rfl, hV⟩
    | cons g r => exact absurd hV (by intro h; cases h)
  have hg := handle_of_laid hL
  have hlt : ∀ x ∈ p, x.block < W.heap.size := fun x hx => hW'.lt x (by simpa using hx)
  have hAA := hA
  rw [Tryd.params3] at hA hval
  obtain ⟨v0, v1, v2, v3, d0, d1, d2, d3, p0, p1, p2, p3, rfl, rfl, hp, h0, h1, h2, h3⟩ := trodAll_four hA
  obtain ⟨c0, c1, c2, y0, y1, y2, m, rfl, hd0, -, hy0, hy1, hy2⟩ := Joins.open_agg3 Tryd.underlying23 (by kernel_rfl) (by kernel_rfl) (hval 0 23 v0 rfl rfl) h0
  obtain ⟨ino, e0, -, -⟩ := DataW.trod_int Tryd.underlying3 hy0
  obtain ⟨kind, e1, -, -⟩ := DataW.trod_int Tryd.underlying5 hy1
  obtain ⟨s, e2, -, -⟩ := DataW.trod_string Tryd.underlying9 hy2
  simp at e0 e1 e2
  subst e0 e1 e2
  obtain ⟨c3, c4, c5, z0, z1, z2, m2, rfl, hd1, -, hz0, hz1, hz2⟩ := Joins.open_agg3 Tryd.underlying25 (by kernel_rfl) (by kernel_rfl) (hval 1 25 v1 rfl rfl) h1
  obtain ⟨gp, e0, -, -⟩ := DataW.trod_int Tryd.underlying3 hz0
  obtain ⟨gi, e1, -, -⟩ := DataW.trod_int Tryd.underlying3 hz1
  obtain ⟨gb, e2, -, -⟩ := DataW.trod_int Tryd.underlying3 hz2
  simp at e0 e1 e2
  subst e0 e1 e2
  obtain ⟨at_, rfl, rfl, rfl, wa⟩ := open_int Tryd.underlying5 (hval 2 5 v2 rfl rfl) h2
  obtain ⟨tu, rfl, rfl, rfl, wt⟩ := open_int Tryd.underlying26 (hval 3 26 v3 rfl rfl) h3
  obtain ⟨a1, a2⟩ := wf_u8 wa
  obtain ⟨t1, t2⟩ := wf_u32 wt
  obtain ⟨an, rfl⟩ := Int.eq_ofNat_of_zero_le a1
  obtain ⟨tn, rfl⟩ := Int.eq_ofNat_of_zero_le t1
  refine (turned_any ino kind gp gi gb an tn s W hg (by omega) (by omega)).mono fun e W' ⟨he, hb⟩ => ?_
  subst he
  exact ⟨_, rfl, turned_post hW' hAA hlt hb⟩
theorem entryTurned_holds : Rows.EntryTurnedSaid :=
  OpenClaim.holds_of_wide 3 Tryd.f3 rfl rfl rfl rfl rfl rfl rfl ⟨rfl, rfl, rfl, rfl, rfl⟩ rfl rfl rfl rfl rfl (by kernel_rfl) Tryd.func3 (by kernel_rfl)
    (of_decide_eq_true (by kernel_rfl)) (by unfold Func.isWrapper; rw [if_neg (of_decide_eq_false (by kernel_rfl))]; exact ⟨rfl, rfl⟩)
    (fun os started H enc _ => turned_lifted os started H enc)
theorem entryTurned_card_holds : Rows.EntryTurnedCardSaid :=
  Claim7.holds_tied_plain_at .later [] [.handle] true (true, "b4e3d216b77428a99972bf44c6eb83b349a0aeab4dc6317528b46a9e906c355a") true
    entryTurned_holds (fun _ h => by cases h) (by kernel_rfl) (fun _ h => by cases h) entryTurned_row_tie rfl ⟨rfl, rfl⟩ (by kernel_rfl) rfl
    (fun f fn hf hfn => by
      obtain rfl : f = 3 := Option.some.inj ((show Tryd.prog.funcNamed "parclose/parcloselaw07.EntryTurned" = some 3 by kernel_rfl).symm.trans hf) |>.symm
      obtain rfl : fn = Tryd.f3 := (Option.some.inj (Tryd.func3.symm.trans hfn)).symm
      exact ⟨by kernel_rfl, fun j t ht => by
        rw [Tryd.params3] at ht
        have hm : t ∈ [23, 25, 5, 26] := by simpa using Array.mem_of_getElem? ht
        have hall : ([23, 25, 5, 26].all fun u => !Tryd.prog.wantsStandIn u) = true := by kernel_rfl
        exact (show Tryd.prog.wantsStandIn t = false by simpa using List.all_eq_true.1 hall t hm)⟩)
    (by kernel_rfl)
#print axioms entryTurned_card_holds
end Go.Proofs.YtejapeafepcacaaDoor
