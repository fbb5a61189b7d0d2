/-
  DERIVED. GIVEN WITH THE SEED: THE CARDS: each row of YtdbmfggipeoklaaGreatDoorRows.lean that lists a variable, with what it lists TIED to the program's text (the seventh form; the later family's looks); each row that meets fmt, with fmt's text TOLD by the authors' own Lean function (tested against real Go, not proved from fmt's source: count such statements apart). THE CARD IS WHAT COUNTS. Prove the row's statement (the work); the ties are given (YtdbmfggipeoklaaGreatDoorTie.lean); close each card by the builder's one call (the guide's Derived/Test/ToyasCard.lean, 'card_holds'). Laid BY PROGRAM, IN A SANDBOX (cutbox-door.mjs). By AI agents, Wed Nov 11 2026. No macro, syntax, notation, axiom, sorry.
-/
import Derived.Test.YtdbmfggipeoklaaGreatDoorRows
import GoSem.ClaimSeven
namespace Go.Proofs.YtdbmfggipeoklaaGreatDoor
namespace Rows

/-- THE TIED CARD OF 'tidepolelaw23.HeadSleeps'. -/
def headSleepsCard : Claim7 := { stood := { row := headSleepsRow, standIns := [], harness := (true, "d922287129afec7e572d02ed4c3a1c23a05f9671778695572d90efab599513b0"), looks := false }, kinds := [], alts := [], laidByText := true, laidKinds := [.data, .data], laidTests := true, laidLooks := .later }
def HeadSleepsCardSaid : Prop := Claim7.holds Tryz.pinned (.plain (OpenSpec.ofChange headSleepsSpec)) headSleepsCard

/-- THE TIED CARD OF 'tidepolelaw23.HeadDays'. -/
def headDaysCard : Claim7 := { stood := { row := headDaysRow, standIns := [], harness := (true, "d922287129afec7e572d02ed4c3a1c23a05f9671778695572d90efab599513b0"), looks := false }, kinds := [], alts := [], laidByText := true, laidKinds := [.data, .data], laidTests := true, laidLooks := .later }
def HeadDaysCardSaid : Prop := Claim7.holds Tryz.pinned (.plain (OpenSpec.ofChange headDaysSpec)) headDaysCard

/-- THE TIED CARD OF 'tidepolelaw23.HeadLong'. -/
def headLongCard : Claim7 := { stood := { row := headLongRow, standIns := [], harness := (true, "d922287129afec7e572d02ed4c3a1c23a05f9671778695572d90efab599513b0"), looks := false }, kinds := [], alts := [], laidByText := true, laidKinds := [.data, .data], laidTests := true, laidLooks := .later }
def HeadLongCardSaid : Prop := Claim7.holds Tryz.pinned (.plain (OpenSpec.ofChange headLongSpec)) headLongCard

/-- THE TIED CARD OF 'tidepolelaw23.HeadPlays'. -/
def headPlaysCard : Claim7 := { stood := { row := headPlaysRow, standIns := [], harness := (true, "d922287129afec7e572d02ed4c3a1c23a05f9671778695572d90efab599513b0"), looks := false }, kinds := [], alts := [], laidByText := true, laidKinds := [.data, .data], laidTests := true, laidLooks := .later }
def HeadPlaysCardSaid : Prop := Claim7.holds Tryz.pinned (.plain (OpenSpec.ofChange headPlaysSpec)) headPlaysCard

/-- THE TIED CARD OF 'tidepolelaw23.HeadVoid'. -/
def headVoidCard : Claim7 := { stood := { row := headVoidRow, standIns := [], harness := (true, "d922287129afec7e572d02ed4c3a1c23a05f9671778695572d90efab599513b0"), looks := false }, kinds := [], alts := [], laidByText := true, laidKinds := [.data, .data], laidTests := true, laidLooks := .later }
def HeadVoidCardSaid : Prop := Claim7.holds Tryz.pinned (.plain (OpenSpec.ofChange headVoidSpec)) headVoidCard

/-- THE SECOND FORM's CARD OF 'tidepolelaw23.HeadSleeps'. -/
def headSleepsUptoCard : Claim7 := { stood := { row := headSleepsUptoRow, standIns := [], harness := (true, "d922287129afec7e572d02ed4c3a1c23a05f9671778695572d90efab599513b0"), looks := false }, kinds := [], alts := [], laidByText := true, laidKinds := [.data, .data], laidTests := true, laidLooks := .later }
def HeadSleepsUptoCardSaid : Prop := Claim7.holds Tryz.pinned (.plain (OpenSpec.upto headSleepsSpec)) headSleepsUptoCard

/-- THE SECOND FORM's CARD OF 'tidepolelaw23.HeadDays'. -/
def headDaysUptoCard : Claim7 := { stood := { row := headDaysUptoRow, standIns := [], harness := (true, "d922287129afec7e572d02ed4c3a1c23a05f9671778695572d90efab599513b0"), looks := false }, kinds := [], alts := [], laidByText := true, laidKinds := [.data, .data], laidTests := true, laidLooks := .later }
def HeadDaysUptoCardSaid : Prop := Claim7.holds Tryz.pinned (.plain (OpenSpec.upto headDaysSpec)) headDaysUptoCard

/-- THE SECOND FORM's CARD OF 'tidepolelaw23.HeadLong'. -/
def headLongUptoCard : Claim7 := { stood := { row := headLongUptoRow, standIns := [], harness := (true, "d922287129afec7e572d02ed4c3a1c23a05f9671778695572d90efab599513b0"), looks := false }, kinds := [], alts := [], laidByText := true, laidKinds := [.data, .data], laidTests := true, laidLooks := .later }
def HeadLongUptoCardSaid : Prop := Claim7.holds Tryz.pinned (.plain (OpenSpec.upto headLongSpec)) headLongUptoCard

/-- THE SECOND FORM's CARD OF 'tidepolelaw23.HeadPlays'. -/
def headPlaysUptoCard : Claim7 := { stood := { row := headPlaysUptoRow, standIns := [], harness := (true, "d922287129afec7e572d02ed4c3a1c23a05f9671778695572d90efab599513b0"), looks := false }, kinds := [], alts := [], laidByText := true, laidKinds := [.data, .data], laidTests := true, laidLooks := .later }
def HeadPlaysUptoCardSaid : Prop := Claim7.holds Tryz.pinned (.plain (OpenSpec.upto headPlaysSpec)) headPlaysUptoCard

/-- THE SECOND FORM's CARD OF 'tidepolelaw23.HeadVoid'. -/
def headVoidUptoCard : Claim7 := { stood := { row := headVoidUptoRow, standIns := [], harness := (true, "d922287129afec7e572d02ed4c3a1c23a05f9671778695572d90efab599513b0"), looks := false }, kinds := [], alts := [], laidByText := true, laidKinds := [.data, .data], laidTests := true, laidLooks := .later }
def HeadVoidUptoCardSaid : Prop := Claim7.holds Tryz.pinned (.plain (OpenSpec.upto headVoidSpec)) headVoidUptoCard
end Rows
end Go.Proofs.YtdbmfggipeoklaaGreatDoor
