/-
  DERIVED. GIVEN WITH THE SEED: THE CARDS: each row of YtboaclfnjdhcpaaDoorRows.lean that lists a variable, with what it lists TIED to the program's text (the seventh form; the later family's looks); each row that meets fmt, with fmt's text TOLD by the authors' own Lean function (tested against real Go, not proved from fmt's source: count such statements apart). THE CARD IS WHAT COUNTS. Prove the row's statement (the work); the ties are given (YtboaclfnjdhcpaaDoorTie.lean); close each card by the builder's one call (the guide's Derived/Test/ToyasCard.lean, 'card_holds'). Laid BY PROGRAM, IN A SANDBOX (cutbox-door.mjs). By AI agents, Wed Nov 11 2026. No macro, syntax, notation, axiom, sorry.
-/
import Derived.Test.YtboaclfnjdhcpaaDoorRows
import GoSem.ClaimSeven
namespace Go.Proofs.YtboaclfnjdhcpaaDoor
namespace Rows

/-- THE TIED CARD OF 'foliantlaw14.AsciiTells'. -/
def asciiTellsCard : Claim7 := { stood := { row := asciiTellsRow, standIns := [], harness := (true, "b0a0dbda7dea13764e118dfe996c9580a054b43f035c94102bd92c20a96498ef"), looks := true }, kinds := [], alts := [], laidByText := true, laidKinds := [.widerDeep], laidTests := true, laidLooks := .later }
def AsciiTellsCardSaid : Prop := Claim7.holds Tryd.pinned (.plain (OpenSpec.ofChange asciiTellsSpec)) asciiTellsCard

/-- THE TIED CARD OF 'foliantlaw14.AsciiBack'. -/
def asciiBackCard : Claim7 := { stood := { row := asciiBackRow, standIns := [], harness := (true, "b0a0dbda7dea13764e118dfe996c9580a054b43f035c94102bd92c20a96498ef"), looks := true }, kinds := [], alts := [], laidByText := true, laidKinds := [.widerDeep], laidTests := true, laidLooks := .later }
def AsciiBackCardSaid : Prop := Claim7.holds Tryd.pinned (.plain (OpenSpec.ofChange asciiBackSpec)) asciiBackCard

/-- THE TIED CARD OF 'foliantlaw14.AsciiWhite'. -/
def asciiWhiteCard : Claim7 := { stood := { row := asciiWhiteRow, standIns := [], harness := (true, "b0a0dbda7dea13764e118dfe996c9580a054b43f035c94102bd92c20a96498ef"), looks := true }, kinds := [], alts := [], laidByText := true, laidKinds := [.widerDeep], laidTests := true, laidLooks := .later }
def AsciiWhiteCardSaid : Prop := Claim7.holds Tryd.pinned (.plain (OpenSpec.ofChange asciiWhiteSpec)) asciiWhiteCard

/-- THE TIED CARD OF 'foliantlaw14.AsciiShort'. -/
def asciiShortCard : Claim7 := { stood := { row := asciiShortRow, standIns := [], harness := (true, "b0a0dbda7dea13764e118dfe996c9580a054b43f035c94102bd92c20a96498ef"), looks := true }, kinds := [], alts := [], laidByText := true, laidKinds := [.widerDeep], laidTests := true, laidLooks := .later }
def AsciiShortCardSaid : Prop := Claim7.holds Tryd.pinned (.plain (OpenSpec.ofChange asciiShortSpec)) asciiShortCard

/-- THE SECOND FORM's CARD OF 'foliantlaw14.AsciiTells'. -/
def asciiTellsUptoCard : Claim7 := { stood := { row := asciiTellsUptoRow, standIns := [], harness := (true, "b0a0dbda7dea13764e118dfe996c9580a054b43f035c94102bd92c20a96498ef"), looks := true }, kinds := [], alts := [], laidByText := true, laidKinds := [.widerDeep], laidTests := true, laidLooks := .later }
def AsciiTellsUptoCardSaid : Prop := Claim7.holds Tryd.pinned (.plain (OpenSpec.upto asciiTellsSpec)) asciiTellsUptoCard

/-- THE SECOND FORM's CARD OF 'foliantlaw14.AsciiBack'. -/
def asciiBackUptoCard : Claim7 := { stood := { row := asciiBackUptoRow, standIns := [], harness := (true, "b0a0dbda7dea13764e118dfe996c9580a054b43f035c94102bd92c20a96498ef"), looks := true }, kinds := [], alts := [], laidByText := true, laidKinds := [.widerDeep], laidTests := true, laidLooks := .later }
def AsciiBackUptoCardSaid : Prop := Claim7.holds Tryd.pinned (.plain (OpenSpec.upto asciiBackSpec)) asciiBackUptoCard

/-- THE SECOND FORM's CARD OF 'foliantlaw14.AsciiWhite'. -/
def asciiWhiteUptoCard : Claim7 := { stood := { row := asciiWhiteUptoRow, standIns := [], harness := (true, "b0a0dbda7dea13764e118dfe996c9580a054b43f035c94102bd92c20a96498ef"), looks := true }, kinds := [], alts := [], laidByText := true, laidKinds := [.widerDeep], laidTests := true, laidLooks := .later }
def AsciiWhiteUptoCardSaid : Prop := Claim7.holds Tryd.pinned (.plain (OpenSpec.upto asciiWhiteSpec)) asciiWhiteUptoCard

/-- THE SECOND FORM's CARD OF 'foliantlaw14.AsciiShort'. -/
def asciiShortUptoCard : Claim7 := { stood := { row := asciiShortUptoRow, standIns := [], harness := (true, "b0a0dbda7dea13764e118dfe996c9580a054b43f035c94102bd92c20a96498ef"), looks := true }, kinds := [], alts := [], laidByText := true, laidKinds := [.widerDeep], laidTests := true, laidLooks := .later }
def AsciiShortUptoCardSaid : Prop := Claim7.holds Tryd.pinned (.plain (OpenSpec.upto asciiShortSpec)) asciiShortUptoCard
end Rows
end Go.Proofs.YtboaclfnjdhcpaaDoor
