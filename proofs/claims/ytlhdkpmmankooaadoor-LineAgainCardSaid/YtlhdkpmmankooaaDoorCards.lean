/-
  DERIVED. GIVEN WITH THE SEED: THE CARDS: each row of YtlhdkpmmankooaaDoorRows.lean that lists a variable, with what it lists TIED to the program's text (the seventh form; the later family's looks); each row that meets fmt, with fmt's text TOLD by the authors' own Lean function (tested against real Go, not proved from fmt's source: count such statements apart). THE CARD IS WHAT COUNTS. Prove the row's statement (the work); the ties are given (YtlhdkpmmankooaaDoorTie.lean); close each card by the builder's one call (the guide's Derived/Test/ToyasCard.lean, 'card_holds'). Laid BY PROGRAM, IN A SANDBOX (cutbox-door.mjs). By AI agents, Wed Nov 11 2026. No macro, syntax, notation, axiom, sorry.
-/
import Derived.Test.YtlhdkpmmankooaaDoorRows
import GoSem.ClaimSeven
namespace Go.Proofs.YtlhdkpmmankooaaDoor
namespace Rows

/-- THE TIED CARD OF 'gradinelaw41.TellApart'. -/
def tellApartCard : Claim7 := { stood := { row := tellApartRow, standIns := [], harness := (true, "54e2a0ced656c42724d36b54bbb60075b63382eabbab292f969dbeea874309a2"), looks := false }, kinds := [], alts := [], laidByText := true, laidKinds := [.data, .data, .data], laidTests := true, laidLooks := .later }
def TellApartCardSaid : Prop := Claim7.holds Tryd.pinned (.plain (OpenSpec.ofChange tellApartSpec)) tellApartCard

/-- THE TIED CARD OF 'gradinelaw15.LineTrims'. -/
def lineTrimsCard : Claim7 := { stood := { row := lineTrimsRow, standIns := [], harness := (true, "54e2a0ced656c42724d36b54bbb60075b63382eabbab292f969dbeea874309a2"), looks := false }, kinds := [], alts := [], laidByText := true, laidKinds := [.data, .data, .data], laidTests := true, laidLooks := .later }
def LineTrimsCardSaid : Prop := Claim7.holds Tryd.pinned (.plain (OpenSpec.ofChange lineTrimsSpec)) lineTrimsCard

/-- THE TIED CARD OF 'gradinelaw15.LineAgain'. -/
def lineAgainCard : Claim7 := { stood := { row := lineAgainRow, standIns := [], harness := (true, "54e2a0ced656c42724d36b54bbb60075b63382eabbab292f969dbeea874309a2"), looks := false }, kinds := [], alts := [], laidByText := true, laidKinds := [.data, .data, .data], laidTests := true, laidLooks := .later }
def LineAgainCardSaid : Prop := Claim7.holds Tryd.pinned (.plain (OpenSpec.ofChange lineAgainSpec)) lineAgainCard

/-- THE TIED CARD OF 'gradinelaw15.LineTells'. -/
def lineTellsCard : Claim7 := { stood := { row := lineTellsRow, standIns := [], harness := (true, "54e2a0ced656c42724d36b54bbb60075b63382eabbab292f969dbeea874309a2"), looks := false }, kinds := [], alts := [], laidByText := true, laidKinds := [.data, .data, .data], laidTests := true, laidLooks := .later }
def LineTellsCardSaid : Prop := Claim7.holds Tryd.pinned (.plain (OpenSpec.ofChange lineTellsSpec)) lineTellsCard

/-- THE SECOND FORM's CARD OF 'gradinelaw41.TellApart'. -/
def tellApartUptoCard : Claim7 := { stood := { row := tellApartUptoRow, standIns := [], harness := (true, "54e2a0ced656c42724d36b54bbb60075b63382eabbab292f969dbeea874309a2"), looks := false }, kinds := [], alts := [], laidByText := true, laidKinds := [.data, .data, .data], laidTests := true, laidLooks := .later }
def TellApartUptoCardSaid : Prop := Claim7.holds Tryd.pinned (.plain (OpenSpec.upto tellApartSpec)) tellApartUptoCard

/-- THE SECOND FORM's CARD OF 'gradinelaw15.LineTrims'. -/
def lineTrimsUptoCard : Claim7 := { stood := { row := lineTrimsUptoRow, standIns := [], harness := (true, "54e2a0ced656c42724d36b54bbb60075b63382eabbab292f969dbeea874309a2"), looks := false }, kinds := [], alts := [], laidByText := true, laidKinds := [.data, .data, .data], laidTests := true, laidLooks := .later }
def LineTrimsUptoCardSaid : Prop := Claim7.holds Tryd.pinned (.plain (OpenSpec.upto lineTrimsSpec)) lineTrimsUptoCard

/-- THE SECOND FORM's CARD OF 'gradinelaw15.LineAgain'. -/
def lineAgainUptoCard : Claim7 := { stood := { row := lineAgainUptoRow, standIns := [], harness := (true, "54e2a0ced656c42724d36b54bbb60075b63382eabbab292f969dbeea874309a2"), looks := false }, kinds := [], alts := [], laidByText := true, laidKinds := [.data, .data, .data], laidTests := true, laidLooks := .later }
def LineAgainUptoCardSaid : Prop := Claim7.holds Tryd.pinned (.plain (OpenSpec.upto lineAgainSpec)) lineAgainUptoCard

/-- THE SECOND FORM's CARD OF 'gradinelaw15.LineTells'. -/
def lineTellsUptoCard : Claim7 := { stood := { row := lineTellsUptoRow, standIns := [], harness := (true, "54e2a0ced656c42724d36b54bbb60075b63382eabbab292f969dbeea874309a2"), looks := false }, kinds := [], alts := [], laidByText := true, laidKinds := [.data, .data, .data], laidTests := true, laidLooks := .later }
def LineTellsUptoCardSaid : Prop := Claim7.holds Tryd.pinned (.plain (OpenSpec.upto lineTellsSpec)) lineTellsUptoCard
end Rows
end Go.Proofs.YtlhdkpmmankooaaDoor
