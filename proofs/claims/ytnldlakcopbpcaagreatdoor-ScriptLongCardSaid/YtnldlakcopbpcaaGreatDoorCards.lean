/-
  DERIVED. GIVEN WITH THE SEED: THE CARDS: each row of YtnldlakcopbpcaaGreatDoorRows.lean that lists a variable, with what it lists TIED to the program's text (the seventh form; the later family's looks); each row that meets fmt, with fmt's text TOLD by the authors' own Lean function (tested against real Go, not proved from fmt's source: count such statements apart). THE CARD IS WHAT COUNTS. Prove the row's statement (the work); the ties are given (YtnldlakcopbpcaaGreatDoorTie.lean); close each card by the builder's one call (the guide's Derived/Test/ToyasCard.lean, 'card_holds'). Laid BY PROGRAM, IN A SANDBOX (cutbox-door.mjs). By AI agents, Wed Nov 11 2026. No macro, syntax, notation, axiom, sorry.
-/
import Derived.Test.YtnldlakcopbpcaaGreatDoorRows
import GoSem.ClaimSeven
namespace Go.Proofs.YtnldlakcopbpcaaGreatDoor
namespace Rows

/-- THE TIED CARD OF 'waterlinelaw28.ScriptHolds'. -/
def scriptHoldsCard : Claim7 := { stood := { row := scriptHoldsRow, standIns := [], harness := (true, "7483372ac565d60082ee34e3cdf0132eed69f98c2fd7ddacb67cbc493303e622"), looks := true }, kinds := [], alts := [], laidByText := true, laidKinds := [.data, .data, .data, .data, .sentinel, .sentinel, .pinned], laidTests := true, laidLooks := .later }
def ScriptHoldsCardSaid : Prop := Claim7.holds Tryz.pinned (.plain (OpenSpec.ofChange scriptHoldsSpec)) scriptHoldsCard

/-- THE TIED CARD OF 'waterlinelaw28.ScriptLong'. -/
def scriptLongCard : Claim7 := { stood := { row := scriptLongRow, standIns := [], harness := (true, "7483372ac565d60082ee34e3cdf0132eed69f98c2fd7ddacb67cbc493303e622"), looks := true }, kinds := [], alts := [], laidByText := true, laidKinds := [.data, .data, .data, .data, .sentinel, .sentinel, .pinned], laidTests := true, laidLooks := .later }
def ScriptLongCardSaid : Prop := Claim7.holds Tryz.pinned (.plain (OpenSpec.ofChange scriptLongSpec)) scriptLongCard

/-- THE SECOND FORM's CARD OF 'waterlinelaw28.ScriptHolds'. -/
def scriptHoldsUptoCard : Claim7 := { stood := { row := scriptHoldsUptoRow, standIns := [], harness := (true, "7483372ac565d60082ee34e3cdf0132eed69f98c2fd7ddacb67cbc493303e622"), looks := true }, kinds := [], alts := [], laidByText := true, laidKinds := [.data, .data, .data, .data, .sentinel, .sentinel, .pinned], laidTests := true, laidLooks := .later }
def ScriptHoldsUptoCardSaid : Prop := Claim7.holds Tryz.pinned (.plain (OpenSpec.upto scriptHoldsSpec)) scriptHoldsUptoCard

/-- THE SECOND FORM's CARD OF 'waterlinelaw28.ScriptLong'. -/
def scriptLongUptoCard : Claim7 := { stood := { row := scriptLongUptoRow, standIns := [], harness := (true, "7483372ac565d60082ee34e3cdf0132eed69f98c2fd7ddacb67cbc493303e622"), looks := true }, kinds := [], alts := [], laidByText := true, laidKinds := [.data, .data, .data, .data, .sentinel, .sentinel, .pinned], laidTests := true, laidLooks := .later }
def ScriptLongUptoCardSaid : Prop := Claim7.holds Tryz.pinned (.plain (OpenSpec.upto scriptLongSpec)) scriptLongUptoCard
end Rows
end Go.Proofs.YtnldlakcopbpcaaGreatDoor
