/-
  DERIVED. GIVEN WITH THE SEED: THE CARDS: each row of YtejapeafepcacaaDoorRows.lean that lists a variable, with what it lists TIED to the program's text (the seventh form; the later family's looks); each row that meets fmt, with fmt's text TOLD by the authors' own Lean function (tested against real Go, not proved from fmt's source: count such statements apart). THE CARD IS WHAT COUNTS. Prove the row's statement (the work); the ties are given (YtejapeafepcacaaDoorTie.lean); close each card by the builder's one call (the guide's Derived/Test/ToyasCard.lean, 'card_holds'). Laid BY PROGRAM, IN A SANDBOX (cutbox-door.mjs). By AI agents, Wed Nov 11 2026. No macro, syntax, notation, axiom, sorry.
-/
import Derived.Test.YtejapeafepcacaaDoorRows
import GoSem.ClaimSeven
namespace Go.Proofs.YtejapeafepcacaaDoor
namespace Rows

/-- THE TIED CARD OF 'parcloselaw07.EntryTurned'. -/
def entryTurnedCard : Claim7 := { stood := { row := entryTurnedRow, standIns := [], harness := (true, "b4e3d216b77428a99972bf44c6eb83b349a0aeab4dc6317528b46a9e906c355a"), looks := true }, kinds := [], alts := [], laidByText := true, laidKinds := [.handle], laidTests := true, laidLooks := .later }
def EntryTurnedCardSaid : Prop := Claim7.holds Tryd.pinned (.plain (OpenSpec.ofChange entryTurnedSpec)) entryTurnedCard

/-- THE TIED CARD OF 'parcloselaw07.EntryWrites'. -/
def entryWritesCard : Claim7 := { stood := { row := entryWritesRow, standIns := [], harness := (true, "b4e3d216b77428a99972bf44c6eb83b349a0aeab4dc6317528b46a9e906c355a"), looks := true }, kinds := [], alts := [], laidByText := true, laidKinds := [.handle], laidTests := true, laidLooks := .later }
def EntryWritesCardSaid : Prop := Claim7.holds Tryd.pinned (.plain (OpenSpec.ofChange entryWritesSpec)) entryWritesCard

/-- THE TIED CARD OF 'parcloselaw07.EntryOne'. -/
def entryOneCard : Claim7 := { stood := { row := entryOneRow, standIns := [], harness := (true, "b4e3d216b77428a99972bf44c6eb83b349a0aeab4dc6317528b46a9e906c355a"), looks := true }, kinds := [], alts := [], laidByText := true, laidKinds := [.handle], laidTests := true, laidLooks := .later }
def EntryOneCardSaid : Prop := Claim7.holds Tryd.pinned (.plain (OpenSpec.ofChange entryOneSpec)) entryOneCard

/-- THE TIED CARD OF 'parcloselaw07.EntryReads'. -/
def entryReadsCard : Claim7 := { stood := { row := entryReadsRow, standIns := [], harness := (true, "b4e3d216b77428a99972bf44c6eb83b349a0aeab4dc6317528b46a9e906c355a"), looks := true }, kinds := [], alts := [], laidByText := true, laidKinds := [.handle], laidTests := true, laidLooks := .later }
def EntryReadsCardSaid : Prop := Claim7.holds Tryd.pinned (.plain (OpenSpec.ofChange entryReadsSpec)) entryReadsCard

/-- THE TIED CARD OF 'parcloselaw07.EntryBack'. -/
def entryBackCard : Claim7 := { stood := { row := entryBackRow, standIns := [], harness := (true, "b4e3d216b77428a99972bf44c6eb83b349a0aeab4dc6317528b46a9e906c355a"), looks := true }, kinds := [], alts := [], laidByText := true, laidKinds := [.handle], laidTests := true, laidLooks := .later }
def EntryBackCardSaid : Prop := Claim7.holds Tryd.pinned (.plain (OpenSpec.ofChange entryBackSpec)) entryBackCard

/-- THE SECOND FORM's CARD OF 'parcloselaw07.EntryTurned'. -/
def entryTurnedUptoCard : Claim7 := { stood := { row := entryTurnedUptoRow, standIns := [], harness := (true, "b4e3d216b77428a99972bf44c6eb83b349a0aeab4dc6317528b46a9e906c355a"), looks := true }, kinds := [], alts := [], laidByText := true, laidKinds := [.handle], laidTests := true, laidLooks := .later }
def EntryTurnedUptoCardSaid : Prop := Claim7.holds Tryd.pinned (.plain (OpenSpec.upto entryTurnedSpec)) entryTurnedUptoCard

/-- THE SECOND FORM's CARD OF 'parcloselaw07.EntryWrites'. -/
def entryWritesUptoCard : Claim7 := { stood := { row := entryWritesUptoRow, standIns := [], harness := (true, "b4e3d216b77428a99972bf44c6eb83b349a0aeab4dc6317528b46a9e906c355a"), looks := true }, kinds := [], alts := [], laidByText := true, laidKinds := [.handle], laidTests := true, laidLooks := .later }
def EntryWritesUptoCardSaid : Prop := Claim7.holds Tryd.pinned (.plain (OpenSpec.upto entryWritesSpec)) entryWritesUptoCard

/-- THE SECOND FORM's CARD OF 'parcloselaw07.EntryOne'. -/
def entryOneUptoCard : Claim7 := { stood := { row := entryOneUptoRow, standIns := [], harness := (true, "b4e3d216b77428a99972bf44c6eb83b349a0aeab4dc6317528b46a9e906c355a"), looks := true }, kinds := [], alts := [], laidByText := true, laidKinds := [.handle], laidTests := true, laidLooks := .later }
def EntryOneUptoCardSaid : Prop := Claim7.holds Tryd.pinned (.plain (OpenSpec.upto entryOneSpec)) entryOneUptoCard

/-- THE SECOND FORM's CARD OF 'parcloselaw07.EntryReads'. -/
def entryReadsUptoCard : Claim7 := { stood := { row := entryReadsUptoRow, standIns := [], harness := (true, "b4e3d216b77428a99972bf44c6eb83b349a0aeab4dc6317528b46a9e906c355a"), looks := true }, kinds := [], alts := [], laidByText := true, laidKinds := [.handle], laidTests := true, laidLooks := .later }
def EntryReadsUptoCardSaid : Prop := Claim7.holds Tryd.pinned (.plain (OpenSpec.upto entryReadsSpec)) entryReadsUptoCard

/-- THE SECOND FORM's CARD OF 'parcloselaw07.EntryBack'. -/
def entryBackUptoCard : Claim7 := { stood := { row := entryBackUptoRow, standIns := [], harness := (true, "b4e3d216b77428a99972bf44c6eb83b349a0aeab4dc6317528b46a9e906c355a"), looks := true }, kinds := [], alts := [], laidByText := true, laidKinds := [.handle], laidTests := true, laidLooks := .later }
def EntryBackUptoCardSaid : Prop := Claim7.holds Tryd.pinned (.plain (OpenSpec.upto entryBackSpec)) entryBackUptoCard
end Rows
end Go.Proofs.YtejapeafepcacaaDoor
