/-
  DERIVED. GIVEN WITH THE SEED: THE CARDS: each row of YtbpblokfiajpjaaDoorRows.lean that lists a variable, with what it lists TIED to the program's text (the seventh form; the later family's looks); each row that meets fmt, with fmt's text TOLD by the authors' own Lean function (tested against real Go, not proved from fmt's source: count such statements apart). THE CARD IS WHAT COUNTS. Prove the row's statement (the work); the ties are given (YtbpblokfiajpjaaDoorTie.lean); close each card by the builder's one call (the guide's Derived/Test/ToyasCard.lean, 'card_holds'). Laid BY PROGRAM, IN A SANDBOX (cutbox-door.mjs). By AI agents, Wed Nov 11 2026. No macro, syntax, notation, axiom, sorry.
-/
import Derived.Test.YtbpblokfiajpjaaDoorRows
import GoSem.ClaimSeven
namespace Go.Proofs.YtbpblokfiajpjaaDoor
namespace Rows

/-- THE TIED CARD OF 'stackyardlaw.BitsSays'. -/
def bitsSaysCard : Claim7 := { stood := { row := bitsSaysRow, standIns := [], harness := (true, "2b13700b64c2301dc8bcb977f21d234cc211334e3d96bf8ff15e7dc1fc1140d5"), looks := true }, kinds := [], alts := [], laidByText := true, laidKinds := [.data], laidTests := true, laidLooks := .later }
def BitsSaysCardSaid : Prop := Claim7.holds Tryd.pinned (.plain (OpenSpec.ofChange bitsSaysSpec)) bitsSaysCard

/-- THE TIED CARD OF 'stackyardlaw.Names'. -/
def namesCard : Claim7 := { stood := { row := namesRow, standIns := [], harness := (true, "2b13700b64c2301dc8bcb977f21d234cc211334e3d96bf8ff15e7dc1fc1140d5"), looks := true }, kinds := [], alts := [], laidByText := true, laidKinds := [.data, .data, .data], laidTests := true, laidLooks := .later }
def NamesCardSaid : Prop := Claim7.holds Tryd.pinned (.plain (OpenSpec.ofChange namesSpec)) namesCard

/-- THE SECOND FORM's CARD OF 'stackyardlaw.BitsSays'. -/
def bitsSaysUptoCard : Claim7 := { stood := { row := bitsSaysUptoRow, standIns := [], harness := (true, "2b13700b64c2301dc8bcb977f21d234cc211334e3d96bf8ff15e7dc1fc1140d5"), looks := true }, kinds := [], alts := [], laidByText := true, laidKinds := [.data], laidTests := true, laidLooks := .later }
def BitsSaysUptoCardSaid : Prop := Claim7.holds Tryd.pinned (.plain (OpenSpec.upto bitsSaysSpec)) bitsSaysUptoCard

/-- THE SECOND FORM's CARD OF 'stackyardlaw.Names'. -/
def namesUptoCard : Claim7 := { stood := { row := namesUptoRow, standIns := [], harness := (true, "2b13700b64c2301dc8bcb977f21d234cc211334e3d96bf8ff15e7dc1fc1140d5"), looks := true }, kinds := [], alts := [], laidByText := true, laidKinds := [.data, .data, .data], laidTests := true, laidLooks := .later }
def NamesUptoCardSaid : Prop := Claim7.holds Tryd.pinned (.plain (OpenSpec.upto namesSpec)) namesUptoCard
end Rows
end Go.Proofs.YtbpblokfiajpjaaDoor
