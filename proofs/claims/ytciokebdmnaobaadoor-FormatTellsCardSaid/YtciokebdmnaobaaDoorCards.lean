/-
  DERIVED. GIVEN WITH THE SEED: THE CARDS: each row of YtciokebdmnaobaaDoorRows.lean that lists a variable, with what it lists TIED to the program's text (the seventh form; the later family's looks); each row that meets fmt, with fmt's text TOLD by the authors' own Lean function (tested against real Go, not proved from fmt's source: count such statements apart). THE CARD IS WHAT COUNTS. Prove the row's statement (the work); the ties are given (YtciokebdmnaobaaDoorTie.lean); close each card by the builder's one call (the guide's Derived/Test/ToyasCard.lean, 'card_holds'). Laid BY PROGRAM, IN A SANDBOX (cutbox-door.mjs). By AI agents, Wed Nov 11 2026. No macro, syntax, notation, axiom, sorry.
-/
import Derived.Test.YtciokebdmnaobaaDoorRows
import GoSem.ClaimSeven
namespace Go.Proofs.YtciokebdmnaobaaDoor
namespace Rows

/-- THE TIED CARD OF 'millracelaw17.FormatTells'. -/
def formatTellsCard : Claim7 := { stood := { row := formatTellsRow, standIns := [], harness := (true, "c02d83bd8457b87a1297afd62a41f4980003e62328b2605d64de96f2a6070a8d"), looks := false }, kinds := [], alts := [], laidByText := true, laidKinds := [.data, .sentinel, .pinned, .pinned], laidTests := true, laidLooks := .later }
def FormatTellsCardSaid : Prop := Claim7.holds Tryd.pinned (.plain (OpenSpec.ofChange formatTellsSpec)) formatTellsCard

/-- THE TIED CARD OF 'millracelaw17.FormatPlain'. -/
def formatPlainCard : Claim7 := { stood := { row := formatPlainRow, standIns := [], harness := (true, "c02d83bd8457b87a1297afd62a41f4980003e62328b2605d64de96f2a6070a8d"), looks := false }, kinds := [], alts := [], laidByText := true, laidKinds := [.data, .sentinel, .pinned, .pinned], laidTests := true, laidLooks := .later }
def FormatPlainCardSaid : Prop := Claim7.holds Tryd.pinned (.plain (OpenSpec.ofChange formatPlainSpec)) formatPlainCard

/-- THE TIED CARD OF 'millracelaw17.FormatWide'. -/
def formatWideCard : Claim7 := { stood := { row := formatWideRow, standIns := [], harness := (true, "c02d83bd8457b87a1297afd62a41f4980003e62328b2605d64de96f2a6070a8d"), looks := false }, kinds := [], alts := [], laidByText := true, laidKinds := [.data, .sentinel, .pinned, .pinned], laidTests := true, laidLooks := .later }
def FormatWideCardSaid : Prop := Claim7.holds Tryd.pinned (.plain (OpenSpec.ofChange formatWideSpec)) formatWideCard

/-- THE TIED CARD OF 'millracelaw17.FormatJoins'. -/
def formatJoinsCard : Claim7 := { stood := { row := formatJoinsRow, standIns := [], harness := (true, "c02d83bd8457b87a1297afd62a41f4980003e62328b2605d64de96f2a6070a8d"), looks := false }, kinds := [], alts := [], laidByText := true, laidKinds := [.data, .sentinel, .pinned, .pinned], laidTests := true, laidLooks := .later }
def FormatJoinsCardSaid : Prop := Claim7.holds Tryd.pinned (.plain (OpenSpec.ofChange formatJoinsSpec)) formatJoinsCard

/-- THE TIED CARD OF 'millracelaw17.FormatOwn'. -/
def formatOwnCard : Claim7 := { stood := { row := formatOwnRow, standIns := [], harness := (true, "c02d83bd8457b87a1297afd62a41f4980003e62328b2605d64de96f2a6070a8d"), looks := false }, kinds := [], alts := [], laidByText := true, laidKinds := [.data, .sentinel, .pinned, .pinned], laidTests := true, laidLooks := .later }
def FormatOwnCardSaid : Prop := Claim7.holds Tryd.pinned (.plain (OpenSpec.ofChange formatOwnSpec)) formatOwnCard

/-- THE TIED CARD OF 'millracelaw17.FormatMakes'. -/
def formatMakesCard : Claim7 := { stood := { row := formatMakesRow, standIns := [], harness := (true, "c02d83bd8457b87a1297afd62a41f4980003e62328b2605d64de96f2a6070a8d"), looks := false }, kinds := [], alts := [], laidByText := true, laidKinds := [.data, .sentinel, .pinned, .pinned], laidTests := true, laidLooks := .later }
def FormatMakesCardSaid : Prop := Claim7.holds Tryd.pinned (.plain (OpenSpec.ofChange formatMakesSpec)) formatMakesCard

/-- THE TIED CARD OF 'millracelaw18.ScanBack'. -/
def scanBackCard : Claim7 := { stood := { row := scanBackRow, standIns := [], harness := (true, "c02d83bd8457b87a1297afd62a41f4980003e62328b2605d64de96f2a6070a8d"), looks := false }, kinds := [], alts := [], laidByText := true, laidKinds := [.data, .sentinel, .pinned, .pinned], laidTests := true, laidLooks := .later }
def ScanBackCardSaid : Prop := Claim7.holds Tryd.pinned (.plain (OpenSpec.ofChange scanBackSpec)) scanBackCard

/-- THE SECOND FORM's CARD OF 'millracelaw17.FormatTells'. -/
def formatTellsUptoCard : Claim7 := { stood := { row := formatTellsUptoRow, standIns := [], harness := (true, "c02d83bd8457b87a1297afd62a41f4980003e62328b2605d64de96f2a6070a8d"), looks := false }, kinds := [], alts := [], laidByText := true, laidKinds := [.data, .sentinel, .pinned, .pinned], laidTests := true, laidLooks := .later }
def FormatTellsUptoCardSaid : Prop := Claim7.holds Tryd.pinned (.plain (OpenSpec.upto formatTellsSpec)) formatTellsUptoCard

/-- THE SECOND FORM's CARD OF 'millracelaw17.FormatPlain'. -/
def formatPlainUptoCard : Claim7 := { stood := { row := formatPlainUptoRow, standIns := [], harness := (true, "c02d83bd8457b87a1297afd62a41f4980003e62328b2605d64de96f2a6070a8d"), looks := false }, kinds := [], alts := [], laidByText := true, laidKinds := [.data, .sentinel, .pinned, .pinned], laidTests := true, laidLooks := .later }
def FormatPlainUptoCardSaid : Prop := Claim7.holds Tryd.pinned (.plain (OpenSpec.upto formatPlainSpec)) formatPlainUptoCard

/-- THE SECOND FORM's CARD OF 'millracelaw17.FormatWide'. -/
def formatWideUptoCard : Claim7 := { stood := { row := formatWideUptoRow, standIns := [], harness := (true, "c02d83bd8457b87a1297afd62a41f4980003e62328b2605d64de96f2a6070a8d"), looks := false }, kinds := [], alts := [], laidByText := true, laidKinds := [.data, .sentinel, .pinned, .pinned], laidTests := true, laidLooks := .later }
def FormatWideUptoCardSaid : Prop := Claim7.holds Tryd.pinned (.plain (OpenSpec.upto formatWideSpec)) formatWideUptoCard

/-- THE SECOND FORM's CARD OF 'millracelaw17.FormatJoins'. -/
def formatJoinsUptoCard : Claim7 := { stood := { row := formatJoinsUptoRow, standIns := [], harness := (true, "c02d83bd8457b87a1297afd62a41f4980003e62328b2605d64de96f2a6070a8d"), looks := false }, kinds := [], alts := [], laidByText := true, laidKinds := [.data, .sentinel, .pinned, .pinned], laidTests := true, laidLooks := .later }
def FormatJoinsUptoCardSaid : Prop := Claim7.holds Tryd.pinned (.plain (OpenSpec.upto formatJoinsSpec)) formatJoinsUptoCard

/-- THE SECOND FORM's CARD OF 'millracelaw17.FormatOwn'. -/
def formatOwnUptoCard : Claim7 := { stood := { row := formatOwnUptoRow, standIns := [], harness := (true, "c02d83bd8457b87a1297afd62a41f4980003e62328b2605d64de96f2a6070a8d"), looks := false }, kinds := [], alts := [], laidByText := true, laidKinds := [.data, .sentinel, .pinned, .pinned], laidTests := true, laidLooks := .later }
def FormatOwnUptoCardSaid : Prop := Claim7.holds Tryd.pinned (.plain (OpenSpec.upto formatOwnSpec)) formatOwnUptoCard

/-- THE SECOND FORM's CARD OF 'millracelaw17.FormatMakes'. -/
def formatMakesUptoCard : Claim7 := { stood := { row := formatMakesUptoRow, standIns := [], harness := (true, "c02d83bd8457b87a1297afd62a41f4980003e62328b2605d64de96f2a6070a8d"), looks := false }, kinds := [], alts := [], laidByText := true, laidKinds := [.data, .sentinel, .pinned, .pinned], laidTests := true, laidLooks := .later }
def FormatMakesUptoCardSaid : Prop := Claim7.holds Tryd.pinned (.plain (OpenSpec.upto formatMakesSpec)) formatMakesUptoCard

/-- THE SECOND FORM's CARD OF 'millracelaw18.ScanBack'. -/
def scanBackUptoCard : Claim7 := { stood := { row := scanBackUptoRow, standIns := [], harness := (true, "c02d83bd8457b87a1297afd62a41f4980003e62328b2605d64de96f2a6070a8d"), looks := false }, kinds := [], alts := [], laidByText := true, laidKinds := [.data, .sentinel, .pinned, .pinned], laidTests := true, laidLooks := .later }
def ScanBackUptoCardSaid : Prop := Claim7.holds Tryd.pinned (.plain (OpenSpec.upto scanBackSpec)) scanBackUptoCard
end Rows
end Go.Proofs.YtciokebdmnaobaaDoor
