/-
  DERIVED. GIVEN WITH THE SEED: THE CARDS: each row of YtbpblokfiajpjabGreatDoorRows.lean that lists a variable, with what it lists TIED to the program's text (the seventh form; the later family's looks); each row that meets fmt, with fmt's text TOLD by the authors' own Lean function (tested against real Go, not proved from fmt's source: count such statements apart). THE CARD IS WHAT COUNTS. Prove the row's statement (the work); the ties are given (YtbpblokfiajpjabGreatDoorTie.lean); close each card by the builder's one call (the guide's Derived/Test/ToyasCard.lean, 'card_holds'). Laid BY PROGRAM, IN A SANDBOX (cutbox-door.mjs). By AI agents, Wed Nov 11 2026. No macro, syntax, notation, axiom, sorry.
-/
import Derived.Test.YtbpblokfiajpjabGreatDoorRows
import GoSem.ClaimSeven
namespace Go.Proofs.YtbpblokfiajpjabGreatDoor
namespace Rows

/-- THE TIED CARD OF 'stackyardlaw.JobsSays'. -/
def jobsSaysCard : Claim7 := { stood := { row := jobsSaysRow, standIns := [], harness := (true, "5b4a71439c3aa949d85413e2d538cbae61e8888c7be4dbc8777d80036d00aa47"), looks := true }, kinds := [], alts := [], laidByText := true, laidKinds := [.data], laidTests := true, laidLooks := .later }
def JobsSaysCardSaid : Prop := Claim7.holds Tryz.pinned (.plain (OpenSpec.ofChange jobsSaysSpec)) jobsSaysCard

/-- THE TIED CARD OF 'stackyardlaw.YardOpens'. -/
def yardOpensCard : Claim7 := { stood := { row := yardOpensRow, standIns := [], harness := (true, "5b4a71439c3aa949d85413e2d538cbae61e8888c7be4dbc8777d80036d00aa47"), looks := true }, kinds := [], alts := [], laidByText := true, laidKinds := [.data], laidTests := true, laidLooks := .later }
def YardOpensCardSaid : Prop := Claim7.holds Tryz.pinned (.plain (OpenSpec.ofChange yardOpensSpec)) yardOpensCard

/-- THE TIED CARD OF 'stackyardlaw.YardSays'. -/
def yardSaysCard : Claim7 := { stood := { row := yardSaysRow, standIns := [], harness := (true, "5b4a71439c3aa949d85413e2d538cbae61e8888c7be4dbc8777d80036d00aa47"), looks := true }, kinds := [], alts := [], laidByText := true, laidKinds := [.data], laidTests := true, laidLooks := .later }
def YardSaysCardSaid : Prop := Claim7.holds Tryz.pinned (.plain (OpenSpec.ofChange yardSaysSpec)) yardSaysCard

/-- THE TIED CARD OF 'stackyardlaw.ConsoleSays'. -/
def consoleSaysCard : Claim7 := { stood := { row := consoleSaysRow, standIns := [], harness := (true, "5b4a71439c3aa949d85413e2d538cbae61e8888c7be4dbc8777d80036d00aa47"), looks := true }, kinds := [], alts := [], laidByText := true, laidKinds := [.data, .data, .data, .data, .pinned], laidTests := true, laidLooks := .later }
def ConsoleSaysCardSaid : Prop := Claim7.holds Tryz.pinned (.plain (OpenSpec.ofChange consoleSaysSpec)) consoleSaysCard

/-- THE TIED CARD OF 'stackyardtop.TopGuest'. -/
def topGuestCard : Claim7 := { stood := { row := topGuestRow, standIns := [], harness := (true, "5b4a71439c3aa949d85413e2d538cbae61e8888c7be4dbc8777d80036d00aa47"), looks := true }, kinds := [], alts := [], laidByText := true, laidKinds := [.data], laidTests := true, laidLooks := .later }
def TopGuestCardSaid : Prop := Claim7.holds Tryz.pinned (.plain (OpenSpec.ofChange topGuestSpec)) topGuestCard

/-- THE TIED CARD OF 'stackyardtop.TopEnds'. -/
def topEndsCard : Claim7 := { stood := { row := topEndsRow, standIns := [], harness := (true, "5b4a71439c3aa949d85413e2d538cbae61e8888c7be4dbc8777d80036d00aa47"), looks := true }, kinds := [], alts := [], laidByText := true, laidKinds := [.data], laidTests := true, laidLooks := .later }
def TopEndsCardSaid : Prop := Claim7.holds Tryz.pinned (.plain (OpenSpec.ofChange topEndsSpec)) topEndsCard

/-- THE TIED CARD OF 'stackyardtop.TopAlone'. -/
def topAloneCard : Claim7 := { stood := { row := topAloneRow, standIns := [], harness := (true, "5b4a71439c3aa949d85413e2d538cbae61e8888c7be4dbc8777d80036d00aa47"), looks := true }, kinds := [], alts := [], laidByText := true, laidKinds := [.data], laidTests := true, laidLooks := .later }
def TopAloneCardSaid : Prop := Claim7.holds Tryz.pinned (.plain (OpenSpec.ofChange topAloneSpec)) topAloneCard

/-- THE TIED CARD OF 'stackyardtop.TopCrash'. -/
def topCrashCard : Claim7 := { stood := { row := topCrashRow, standIns := [], harness := (true, "5b4a71439c3aa949d85413e2d538cbae61e8888c7be4dbc8777d80036d00aa47"), looks := true }, kinds := [], alts := [], laidByText := true, laidKinds := [.data], laidTests := true, laidLooks := .later }
def TopCrashCardSaid : Prop := Claim7.holds Tryz.pinned (.plain (OpenSpec.ofChange topCrashSpec)) topCrashCard

/-- THE SECOND FORM's CARD OF 'stackyardlaw.JobsSays'. -/
def jobsSaysUptoCard : Claim7 := { stood := { row := jobsSaysUptoRow, standIns := [], harness := (true, "5b4a71439c3aa949d85413e2d538cbae61e8888c7be4dbc8777d80036d00aa47"), looks := true }, kinds := [], alts := [], laidByText := true, laidKinds := [.data], laidTests := true, laidLooks := .later }
def JobsSaysUptoCardSaid : Prop := Claim7.holds Tryz.pinned (.plain (OpenSpec.upto jobsSaysSpec)) jobsSaysUptoCard

/-- THE SECOND FORM's CARD OF 'stackyardlaw.YardOpens'. -/
def yardOpensUptoCard : Claim7 := { stood := { row := yardOpensUptoRow, standIns := [], harness := (true, "5b4a71439c3aa949d85413e2d538cbae61e8888c7be4dbc8777d80036d00aa47"), looks := true }, kinds := [], alts := [], laidByText := true, laidKinds := [.data], laidTests := true, laidLooks := .later }
def YardOpensUptoCardSaid : Prop := Claim7.holds Tryz.pinned (.plain (OpenSpec.upto yardOpensSpec)) yardOpensUptoCard

/-- THE SECOND FORM's CARD OF 'stackyardlaw.YardSays'. -/
def yardSaysUptoCard : Claim7 := { stood := { row := yardSaysUptoRow, standIns := [], harness := (true, "5b4a71439c3aa949d85413e2d538cbae61e8888c7be4dbc8777d80036d00aa47"), looks := true }, kinds := [], alts := [], laidByText := true, laidKinds := [.data], laidTests := true, laidLooks := .later }
def YardSaysUptoCardSaid : Prop := Claim7.holds Tryz.pinned (.plain (OpenSpec.upto yardSaysSpec)) yardSaysUptoCard

/-- THE SECOND FORM's CARD OF 'stackyardlaw.ConsoleSays'. -/
def consoleSaysUptoCard : Claim7 := { stood := { row := consoleSaysUptoRow, standIns := [], harness := (true, "5b4a71439c3aa949d85413e2d538cbae61e8888c7be4dbc8777d80036d00aa47"), looks := true }, kinds := [], alts := [], laidByText := true, laidKinds := [.data, .data, .data, .data, .pinned], laidTests := true, laidLooks := .later }
def ConsoleSaysUptoCardSaid : Prop := Claim7.holds Tryz.pinned (.plain (OpenSpec.upto consoleSaysSpec)) consoleSaysUptoCard

/-- THE SECOND FORM's CARD OF 'stackyardtop.TopGuest'. -/
def topGuestUptoCard : Claim7 := { stood := { row := topGuestUptoRow, standIns := [], harness := (true, "5b4a71439c3aa949d85413e2d538cbae61e8888c7be4dbc8777d80036d00aa47"), looks := true }, kinds := [], alts := [], laidByText := true, laidKinds := [.data], laidTests := true, laidLooks := .later }
def TopGuestUptoCardSaid : Prop := Claim7.holds Tryz.pinned (.plain (OpenSpec.upto topGuestSpec)) topGuestUptoCard

/-- THE SECOND FORM's CARD OF 'stackyardtop.TopEnds'. -/
def topEndsUptoCard : Claim7 := { stood := { row := topEndsUptoRow, standIns := [], harness := (true, "5b4a71439c3aa949d85413e2d538cbae61e8888c7be4dbc8777d80036d00aa47"), looks := true }, kinds := [], alts := [], laidByText := true, laidKinds := [.data], laidTests := true, laidLooks := .later }
def TopEndsUptoCardSaid : Prop := Claim7.holds Tryz.pinned (.plain (OpenSpec.upto topEndsSpec)) topEndsUptoCard

/-- THE SECOND FORM's CARD OF 'stackyardtop.TopAlone'. -/
def topAloneUptoCard : Claim7 := { stood := { row := topAloneUptoRow, standIns := [], harness := (true, "5b4a71439c3aa949d85413e2d538cbae61e8888c7be4dbc8777d80036d00aa47"), looks := true }, kinds := [], alts := [], laidByText := true, laidKinds := [.data], laidTests := true, laidLooks := .later }
def TopAloneUptoCardSaid : Prop := Claim7.holds Tryz.pinned (.plain (OpenSpec.upto topAloneSpec)) topAloneUptoCard

/-- THE SECOND FORM's CARD OF 'stackyardtop.TopCrash'. -/
def topCrashUptoCard : Claim7 := { stood := { row := topCrashUptoRow, standIns := [], harness := (true, "5b4a71439c3aa949d85413e2d538cbae61e8888c7be4dbc8777d80036d00aa47"), looks := true }, kinds := [], alts := [], laidByText := true, laidKinds := [.data], laidTests := true, laidLooks := .later }
def TopCrashUptoCardSaid : Prop := Claim7.holds Tryz.pinned (.plain (OpenSpec.upto topCrashSpec)) topCrashUptoCard
end Rows
end Go.Proofs.YtbpblokfiajpjabGreatDoor
