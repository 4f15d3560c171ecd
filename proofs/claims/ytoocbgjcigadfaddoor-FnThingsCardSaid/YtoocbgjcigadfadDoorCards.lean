/-
  DERIVED. GIVEN WITH THE SEED: THE CARDS: each row of YtoocbgjcigadfadDoorRows.lean that lists a variable, with what it lists TIED to the program's text (the seventh form; the later family's looks); each row that meets fmt, with fmt's text TOLD by the authors' own Lean function (tested against real Go, not proved from fmt's source: count such statements apart). THE CARD IS WHAT COUNTS. Prove the row's statement (the work); the ties are given (YtoocbgjcigadfadDoorTie.lean); close each card by the builder's one call (the guide's Derived/Test/ToyasCard.lean, 'card_holds'). Laid BY PROGRAM, IN A SANDBOX (cutbox-door.mjs). By AI agents, Wed Nov 11 2026. No macro, syntax, notation, axiom, sorry.
-/
import Derived.Test.YtoocbgjcigadfadDoorRows
import GoSem.ClaimSeven
namespace Go.Proofs.YtoocbgjcigadfadDoor
namespace Rows

/-- THE TIED CARD OF 'laws.FnExactFormatInt'. -/
def fnExactFormatIntCard : Claim7 := { stood := { row := fnExactFormatIntRow, standIns := [], harness := (true, "1b3c0106d05d31baa2b807fcd721feaa2974825c95380c2d73bc86e97af792f2"), looks := false }, kinds := [], alts := [], laidByText := true, laidKinds := [.data, .data, .data], laidTests := true, laidLooks := .later }
def FnExactFormatIntCardSaid : Prop := Claim7.holds Tryd.pinned (.plain (OpenSpec.ofChange fnExactFormatIntSpec)) fnExactFormatIntCard

/-- THE TIED CARD OF 'laws.FnExactThingText'. -/
def fnExactThingTextCard : Claim7 := { stood := { row := fnExactThingTextRow, standIns := [], harness := (true, "1b3c0106d05d31baa2b807fcd721feaa2974825c95380c2d73bc86e97af792f2"), looks := false }, kinds := [], alts := [], laidByText := true, laidKinds := [.data, .data, .data], laidTests := true, laidLooks := .later }
def FnExactThingTextCardSaid : Prop := Claim7.holds Tryd.pinned (.plain (OpenSpec.ofChange fnExactThingTextSpec)) fnExactThingTextCard

/-- THE TIED CARD OF 'laws.FnThings'. -/
def fnThingsCard : Claim7 := { stood := { row := fnThingsRow, standIns := [], harness := (true, "1b3c0106d05d31baa2b807fcd721feaa2974825c95380c2d73bc86e97af792f2"), looks := false }, kinds := [], alts := [], laidByText := true, laidKinds := [.data, .data, .data], laidTests := true, laidLooks := .later }
def FnThingsCardSaid : Prop := Claim7.holds Tryd.pinned (.plain (OpenSpec.ofChange fnThingsSpec)) fnThingsCard

/-- THE SECOND FORM's CARD OF 'laws.FnExactFormatInt'. -/
def fnExactFormatIntUptoCard : Claim7 := { stood := { row := fnExactFormatIntUptoRow, standIns := [], harness := (true, "1b3c0106d05d31baa2b807fcd721feaa2974825c95380c2d73bc86e97af792f2"), looks := false }, kinds := [], alts := [], laidByText := true, laidKinds := [.data, .data, .data], laidTests := true, laidLooks := .later }
def FnExactFormatIntUptoCardSaid : Prop := Claim7.holds Tryd.pinned (.plain (OpenSpec.upto fnExactFormatIntSpec)) fnExactFormatIntUptoCard

/-- THE SECOND FORM's CARD OF 'laws.FnExactThingText'. -/
def fnExactThingTextUptoCard : Claim7 := { stood := { row := fnExactThingTextUptoRow, standIns := [], harness := (true, "1b3c0106d05d31baa2b807fcd721feaa2974825c95380c2d73bc86e97af792f2"), looks := false }, kinds := [], alts := [], laidByText := true, laidKinds := [.data, .data, .data], laidTests := true, laidLooks := .later }
def FnExactThingTextUptoCardSaid : Prop := Claim7.holds Tryd.pinned (.plain (OpenSpec.upto fnExactThingTextSpec)) fnExactThingTextUptoCard

/-- THE SECOND FORM's CARD OF 'laws.FnThings'. -/
def fnThingsUptoCard : Claim7 := { stood := { row := fnThingsUptoRow, standIns := [], harness := (true, "1b3c0106d05d31baa2b807fcd721feaa2974825c95380c2d73bc86e97af792f2"), looks := false }, kinds := [], alts := [], laidByText := true, laidKinds := [.data, .data, .data], laidTests := true, laidLooks := .later }
def FnThingsUptoCardSaid : Prop := Claim7.holds Tryd.pinned (.plain (OpenSpec.upto fnThingsSpec)) fnThingsUptoCard
end Rows
end Go.Proofs.YtoocbgjcigadfadDoor
