/-
  No cell of these rows narrows 'for every input' (looked for: loops, veiled, ifaces, maps, wideKeys, modest, calm, conditions, laid).
  DERIVED. THE GIVEN ROWS OF THIS SEAT. 4 by the template 'for every input the law returns true; each argument reads behind the call as it read before'; 0 by the template 'total and deterministic' (their statements: YtimfnimcmfjjpaaTotals.lean).
  GIVEN WITH THE SEED: the statements are not yours to turn. If you find one false, say at which input.
  Laid BY PROGRAM, IN A SANDBOX (cutbox-rows.mjs): the forced cells as the released guide's own fill.sh prints them over the translation 7774f411f52915ad… (all of the seat's roots in one cut). By AI agents, Wed Nov 11 2026. No macro, syntax, notation, axiom, sorry.
-/
import Derived.Test.YtimfnimcmfjjpaaChecked
import GoSem.Claim
import GoSem.ClaimJoined
import GoSem.ClaimMapViews
import Derived.JoinedTies
import Derived.KernelRfl
namespace Go.Proofs.Ytimfnimcmfjjpaa
/- THE CELL 'sum', in the pinned program and in every row, IS THE sha256 OF THE DUMP (.gsa) THAT YtimfnimcmfjjpaaProg.lean LOADS. Nothing in Lean hashes anything: it is a label: what it is worth is what the hold of that sum in a sandbox is worth. -/
noncomputable def Try.pinned : Pinned := { name := "ytimfnimcmfjjpaa", sum := "7774f411f52915ad9a249533c71110b43a3e0b3551efcfa2c5222c2a3c8377e6", checked := Try.checked }
namespace Rows
def none {H : Type} : Left H := { results := [], args := [] }

/-- 'parcloselaw28.ActSteps': WHATEVER THE INPUT: true; the input reads as it did. -/
def actStepsSpec : ChangeSpec := { name := "actSteps", fn := fun _ => fun
  | [d1, d2, d3] => { results := [.lit (.bool true)], args := [d1, d2, d3] }
  | _ => none }
def actStepsRow : OpenClaim := { program := "ytimfnimcmfjjpaa", sum := "7774f411f52915ad9a249533c71110b43a3e0b3551efcfa2c5222c2a3c8377e6", func := "parclose/parcloselaw28.ActSteps", spec := "actSteps", unfollowed := true, recurses := true, apart := false }
def ActStepsSaid : Prop := actStepsRow.holds Try.pinned (OpenSpec.ofChange actStepsSpec)

/-- ITS FALSE NEIGHBOUR: 'it returns false'. Refute it at one input. -/
def actStepsWrong : ChangeSpec := { name := "actSteps", fn := fun _ => fun
  | [d1, d2, d3] => { results := [.lit (.bool false)], args := [d1, d2, d3] }
  | _ => none }
def ActStepsWrongFalsely : Prop := actStepsRow.holds Try.pinned (OpenSpec.ofChange actStepsWrong)

/-- 'parcloselaw28.ActWhole': WHATEVER THE INPUT: true; the input reads as it did. -/
def actWholeSpec : ChangeSpec := { name := "actWhole", fn := fun _ => fun
  | [d1, d2, d3, d4] => { results := [.lit (.bool true)], args := [d1, d2, d3, d4] }
  | _ => none }
def actWholeRow : OpenClaim := { program := "ytimfnimcmfjjpaa", sum := "7774f411f52915ad9a249533c71110b43a3e0b3551efcfa2c5222c2a3c8377e6", func := "parclose/parcloselaw28.ActWhole", spec := "actWhole", unfollowed := true, recurses := true, apart := false }
def ActWholeSaid : Prop := actWholeRow.holds Try.pinned (OpenSpec.ofChange actWholeSpec)

/-- ITS FALSE NEIGHBOUR: 'it returns false'. Refute it at one input. -/
def actWholeWrong : ChangeSpec := { name := "actWhole", fn := fun _ => fun
  | [d1, d2, d3, d4] => { results := [.lit (.bool false)], args := [d1, d2, d3, d4] }
  | _ => none }
def ActWholeWrongFalsely : Prop := actWholeRow.holds Try.pinned (OpenSpec.ofChange actWholeWrong)

/-- 'parcloselaw28.ActEnds': WHATEVER THE INPUT: true; the input reads as it did. -/
def actEndsSpec : ChangeSpec := { name := "actEnds", fn := fun _ => fun
  | [d1, d2, d3, d4] => { results := [.lit (.bool true)], args := [d1, d2, d3, d4] }
  | _ => none }
def actEndsRow : OpenClaim := { program := "ytimfnimcmfjjpaa", sum := "7774f411f52915ad9a249533c71110b43a3e0b3551efcfa2c5222c2a3c8377e6", func := "parclose/parcloselaw28.ActEnds", spec := "actEnds", unfollowed := true, recurses := true, apart := false }
def ActEndsSaid : Prop := actEndsRow.holds Try.pinned (OpenSpec.ofChange actEndsSpec)

/-- ITS FALSE NEIGHBOUR: 'it returns false'. Refute it at one input. -/
def actEndsWrong : ChangeSpec := { name := "actEnds", fn := fun _ => fun
  | [d1, d2, d3, d4] => { results := [.lit (.bool false)], args := [d1, d2, d3, d4] }
  | _ => none }
def ActEndsWrongFalsely : Prop := actEndsRow.holds Try.pinned (OpenSpec.ofChange actEndsWrong)

/-- 'parcloselaw28.ActShow': WHATEVER THE INPUT: true; the input reads as it did. -/
def actShowSpec : ChangeSpec := { name := "actShow", fn := fun _ => fun
  | [d1, d2, d3] => { results := [.lit (.bool true)], args := [d1, d2, d3] }
  | _ => none }
def actShowRow : OpenClaim := { program := "ytimfnimcmfjjpaa", sum := "7774f411f52915ad9a249533c71110b43a3e0b3551efcfa2c5222c2a3c8377e6", func := "parclose/parcloselaw28.ActShow", spec := "actShow", unfollowed := true, recurses := true, apart := false }
def ActShowSaid : Prop := actShowRow.holds Try.pinned (OpenSpec.ofChange actShowSpec)

/-- ITS FALSE NEIGHBOUR: 'it returns false'. Refute it at one input. -/
def actShowWrong : ChangeSpec := { name := "actShow", fn := fun _ => fun
  | [d1, d2, d3] => { results := [.lit (.bool false)], args := [d1, d2, d3] }
  | _ => none }
def ActShowWrongFalsely : Prop := actShowRow.holds Try.pinned (OpenSpec.ofChange actShowWrong)

/- THE SECOND FORM. 'bulk': how many values and letters a reading holds, each counted each time it is reached (what is shared counts as often as it is met; a slice's spare places count too). A statement '..UptoSaid' is the law's where the arguments, and the package variables that the reading takes, are together of bulk at most 1048576: NARROWER than '..Said'. Prove '..Said' where nothing that the law and all that it calls make is longer than what came in: it says more and counts as full. Else prove '..UptoSaid'. A law counts once. -/
mutual
def uptoBulk {H : Type} : DataW H → Nat
  | .lit (.string bytes) => bytes.length + 1
  | .lit _ => 1
  | .nil => 1
  | .ptr d => uptoBulk d + 1
  | .slice elems spare => uptoBulkAll elems + uptoBulkAll spare + 1
  | .agg parts => uptoBulkAll parts + 1
  | .iface _ d => uptoBulk d + 1
  | .map entries => uptoBulkEntries entries + 1
  | .held _ => 1
def uptoBulkAll {H : Type} : List (DataW H) → Nat
  | [] => 0
  | d :: r => uptoBulk d + uptoBulkAll r
def uptoBulkEntries {H : Type} : List (Lit × DataW H) → Nat
  | [] => 0
  | x :: r => uptoBulkEntry x + uptoBulkEntries r
def uptoBulkEntry {H : Type} : Lit × DataW H → Nat
  | (.string bytes, d) => bytes.length + uptoBulk d + 1
  | (_, d) => uptoBulk d + 1
 end
def uptoSmall : (H : Type) → List (DataW H) → Bool := fun _ ds => decide (uptoBulkAll ds ≤ 1048576)
def OpenSpec.upto (s : _root_.Go.ChangeSpec) : _root_.Go.OpenSpec := { _root_.Go.OpenSpec.ofChange s with cond := some uptoSmall }

/-- 'parcloselaw28.ActSteps', WHERE WHAT IT READS IS OF BULK AT MOST 1048576: true; the input reads as it did. -/
def actStepsUptoRow : OpenClaim := { program := "ytimfnimcmfjjpaa", sum := "7774f411f52915ad9a249533c71110b43a3e0b3551efcfa2c5222c2a3c8377e6", func := "parclose/parcloselaw28.ActSteps", spec := "actSteps", unfollowed := true, recurses := true, apart := false, narrowed := true }
def ActStepsUptoSaid : Prop := actStepsUptoRow.holds Try.pinned (OpenSpec.upto actStepsSpec)

/-- 'parcloselaw28.ActWhole', WHERE WHAT IT READS IS OF BULK AT MOST 1048576: true; the input reads as it did. -/
def actWholeUptoRow : OpenClaim := { program := "ytimfnimcmfjjpaa", sum := "7774f411f52915ad9a249533c71110b43a3e0b3551efcfa2c5222c2a3c8377e6", func := "parclose/parcloselaw28.ActWhole", spec := "actWhole", unfollowed := true, recurses := true, apart := false, narrowed := true }
def ActWholeUptoSaid : Prop := actWholeUptoRow.holds Try.pinned (OpenSpec.upto actWholeSpec)

/-- 'parcloselaw28.ActEnds', WHERE WHAT IT READS IS OF BULK AT MOST 1048576: true; the input reads as it did. -/
def actEndsUptoRow : OpenClaim := { program := "ytimfnimcmfjjpaa", sum := "7774f411f52915ad9a249533c71110b43a3e0b3551efcfa2c5222c2a3c8377e6", func := "parclose/parcloselaw28.ActEnds", spec := "actEnds", unfollowed := true, recurses := true, apart := false, narrowed := true }
def ActEndsUptoSaid : Prop := actEndsUptoRow.holds Try.pinned (OpenSpec.upto actEndsSpec)

/-- 'parcloselaw28.ActShow', WHERE WHAT IT READS IS OF BULK AT MOST 1048576: true; the input reads as it did. -/
def actShowUptoRow : OpenClaim := { program := "ytimfnimcmfjjpaa", sum := "7774f411f52915ad9a249533c71110b43a3e0b3551efcfa2c5222c2a3c8377e6", func := "parclose/parcloselaw28.ActShow", spec := "actShow", unfollowed := true, recurses := true, apart := false, narrowed := true }
def ActShowUptoSaid : Prop := actShowUptoRow.holds Try.pinned (OpenSpec.upto actShowSpec)

end Rows
end Go.Proofs.Ytimfnimcmfjjpaa
