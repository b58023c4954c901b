/- ActWhole answers true at every input: behind any beginning of the steps, and any crash, what Redo says is there wholly, or not at all; it stays. No condition. -/
import Derived.Test.YtimfnimcmfjjpaaRows
import Derived.Test.YtimfnimcmfjjpaaAct
import Derived.Test.YtimfnimcmfjjpaaOpenC
import Derived.ProofKit
namespace Go.Proofs.Ytimfnimcmfjjpaa
open Go.ChangeShapes Go.WideShapes Go.RowKit
/-- What is left of a law's row once the walk is done. -/
theorem actWhole_post {H : Type} {enc : TypeId × Value → H} {W W' : World} {args : Array Value} {d0 d1 d2 d3 : DataW H} {p : List MemPlace}
    (hW : DataW.Whole enc Try.prog Try.f4.params.toList Rows.actWholeSpec.vars false W args.toList [d0, d1, d2, d3] [] (p ++ []))
    (hA : DataW.TrodAll enc Try.prog W 0 (fun _ => true) true Try.f4.params.toList args.toList [d0, d1, d2, d3] p) (hlt : ∀ x ∈ p, x.block < W.heap.size) (hb : Below W.heap.size W W') :
    Rows.actWholeSpec.post enc Try.prog Try.f4 false true false false W args (.bool true) W' := by
  have e1 : Rows.actWholeSpec.fn H ([d0, d1, d2, d3] ++ []) = { results := [.lit (.bool true)], args := [d0, d1, d2, d3] } := by simp [Rows.actWholeSpec]
  refine ⟨[d0, d1, d2, d3], [], p ++ [], [], p, [], hW, ?_, ?_, ?_, ?_, fun h => by cases h⟩
  · rw [e1]; exact trodAll_mk1 (shut_bool Try.underlying4 true)
  · rw [e1]
    refine trodAll_below laidOut hb _ _ _ _ (fun t ht => ?_) hA hlt
    have hall : (Try.f4.params.toList.all fun t => Try.prog.readableRec t && decide (t < Try.prog.types.size)) = true := by kernel_rfl
    have := List.all_eq_true.1 hall t ht
    simpa using this
  · rw [e1]; rfl
  · exact World.keptBut_mono (fun x hx => ⟨by simpa using hx, .inr (.inl hx)⟩) (hb.frame (· ∈ p))
set_option maxRecDepth 100000 in
theorem actWhole_lifted (os : Os) (started : os.Started) (H : Type) (enc : TypeId × Value → H) :
    ReturnsInHanded {} Try.checked os 4 .any (Rows.actWholeSpec.pre6 enc Try.prog Try.f4 Rows.actWholeRow.domain false) (Rows.actWholeSpec.post enc Try.prog Try.f4 false true false false) := by
  refine returnsInHanded_of_change (C := Try.checked) own started (by kernel_rfl) Try.func4
    (ChangeSpec.witness6 (enc := enc) (C := Try.checked) false ⟨#[], #[.agg #[.int .i64 0, .int .i64 0, .int .i64 0], .int .i64 0, .agg #[.int .i64 0, .int .i64 0, .slice none 0 0, .slice none 0 0, .slice none 0 0, .slice none 0 0], .agg #[.slice none 0 0, .int .u16 0, .slice none 0 0]], []⟩ 8 (by kernel_rfl) (by kernel_rfl) (by kernel_rfl) (by kernel_rfl)) ?_
  intro W base args ds gs before hval0 hW _ _
  have hval : ∀ (j : Nat) t v, Try.f4.params[j]? = some t → args[j]? = some v → Value.okWide Try.prog W .any base t v := hval0
  have hW' := hW
  obtain ⟨p, q, hA0, hV0, rfl, hfz, hnd⟩ := hW
  have hA : DataW.TrodAll enc Try.prog W 0 (fun _ => true) true Try.f4.params.toList args.toList ds p := hA0
  have hV : DataW.TrodVars enc Try.prog W (fun _ => true) [] gs q := hV0
  obtain ⟨rfl, rfl⟩ : gs = [] ∧ q = [] := by
    cases gs with
    | nil => exact ⟨rfl, hV⟩
    | cons g r => exact absurd hV (by intro h; cases h)
  have hlt : ∀ x ∈ p, x.block < W.heap.size := fun x hx => hW'.lt x (by simpa using hx)
  have hAA := hA
  rw [Try.params4] at hA hval
  obtain ⟨v0, v1, v2, v3, d0, d1, d2, d3, p0, p1, p2, p3, rfl, rfl, hp, h0, h1, h2, h3⟩ := trodAll_four hA
  obtain ⟨gp, gi, gb, rfl⟩ := open_geom (hval 0 23 v0 rfl rfl) h0
  obtain ⟨s, rfl, rfl, rfl, -⟩ := open_int Try.underlying3 (hval 1 3 v1 rfl rfl) h1
  obtain ⟨P, rfl, hP, hF, hR, hD⟩ := open_plan (hval 2 28 v2 rfl rfl) h2
  obtain ⟨A, m, c, BF, cu, KA, kn, kc, kf, rfl, hBA, hCU, hKB⟩ := open_crash (hval 3 42 v3 rfl rfl) h3
  refine (actw_any gp gi gb s P A m c cu KA kn kc BF kf W hBA hKB hCU hP hR ⟨hF, hD⟩).mono fun e W' ⟨he, hb⟩ => ?_
  subst he
  exact ⟨_, rfl, actWhole_post hW' hAA hlt hb⟩
theorem actWhole_holds : Rows.ActWholeSaid :=
  OpenClaim.holds_of_wide 4 Try.f4 rfl rfl rfl rfl rfl rfl rfl ⟨rfl, rfl, rfl, rfl, rfl⟩ rfl rfl rfl rfl rfl (by kernel_rfl) Try.func4 (by kernel_rfl)
    (of_decide_eq_true (by kernel_rfl)) (by unfold Func.isWrapper; rw [if_neg (of_decide_eq_false (by kernel_rfl))]; exact ⟨rfl, rfl⟩)
    (fun os started H enc _ => actWhole_lifted os started H enc)
#print axioms actWhole_holds
end Go.Proofs.Ytimfnimcmfjjpaa
