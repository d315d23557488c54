/-
  DERIVED. GIVEN WITH THE SEED: THE CARDS: each row of YtcckofgleghbgaaDoorRows.lean that lists a variable, with what it lists TIED to the program's text (the seventh form; the later family's looks); each row that meets fmt, with fmt's text TOLD by the authors' own Lean function (tested against real Go, not proved from fmt's source: count such statements apart). THE CARD IS WHAT COUNTS. Prove the row's statement (the work); the ties are given (YtcckofgleghbgaaDoorTie.lean); close each card by the builder's one call (the guide's Derived/Test/ToyasCard.lean, 'card_holds'). Laid BY PROGRAM, IN A SANDBOX (cutbox-door.mjs). By AI agents, Wed Nov 11 2026. No macro, syntax, notation, axiom, sorry.
-/
import Derived.Test.YtcckofgleghbgaaDoorRows
import GoSem.ClaimSeven
namespace Go.Proofs.YtcckofgleghbgaaDoor
namespace Rows

/-- THE TIED CARD OF 'gunwalelaw11.CoverOrder'. -/
def coverOrderCard : Claim7 := { stood := { row := coverOrderRow, standIns := [], harness := (true, "4354ac6e3081eaec4304d919b9afc26e1685a34fef445ea77857d8036037b54e"), looks := false }, kinds := [], alts := [], laidByText := true, laidKinds := [.data, .pinned], laidTests := true, laidLooks := .later }
def CoverOrderCardSaid : Prop := Claim7.holds Tryd.pinned (.plain (OpenSpec.ofChange coverOrderSpec)) coverOrderCard

/-- THE TIED CARD OF 'gunwalelaw14.ActsetTwice'. -/
def actsetTwiceCard : Claim7 := { stood := { row := actsetTwiceRow, standIns := [], harness := (true, "4354ac6e3081eaec4304d919b9afc26e1685a34fef445ea77857d8036037b54e"), looks := false }, kinds := [], alts := [], laidByText := true, laidKinds := [.data, .pinned], laidTests := true, laidLooks := .later }
def ActsetTwiceCardSaid : Prop := Claim7.holds Tryd.pinned (.plain (OpenSpec.ofChange actsetTwiceSpec)) actsetTwiceCard

/-- THE TIED CARD OF 'gunwalelaw14.ActsetFree'. -/
def actsetFreeCard : Claim7 := { stood := { row := actsetFreeRow, standIns := [], harness := (true, "4354ac6e3081eaec4304d919b9afc26e1685a34fef445ea77857d8036037b54e"), looks := false }, kinds := [], alts := [], laidByText := true, laidKinds := [.data, .pinned], laidTests := true, laidLooks := .later }
def ActsetFreeCardSaid : Prop := Claim7.holds Tryd.pinned (.plain (OpenSpec.ofChange actsetFreeSpec)) actsetFreeCard

/-- THE SECOND FORM's CARD OF 'gunwalelaw11.CoverOrder'. -/
def coverOrderUptoCard : Claim7 := { stood := { row := coverOrderUptoRow, standIns := [], harness := (true, "4354ac6e3081eaec4304d919b9afc26e1685a34fef445ea77857d8036037b54e"), looks := false }, kinds := [], alts := [], laidByText := true, laidKinds := [.data, .pinned], laidTests := true, laidLooks := .later }
def CoverOrderUptoCardSaid : Prop := Claim7.holds Tryd.pinned (.plain (OpenSpec.upto coverOrderSpec)) coverOrderUptoCard

/-- THE SECOND FORM's CARD OF 'gunwalelaw14.ActsetTwice'. -/
def actsetTwiceUptoCard : Claim7 := { stood := { row := actsetTwiceUptoRow, standIns := [], harness := (true, "4354ac6e3081eaec4304d919b9afc26e1685a34fef445ea77857d8036037b54e"), looks := false }, kinds := [], alts := [], laidByText := true, laidKinds := [.data, .pinned], laidTests := true, laidLooks := .later }
def ActsetTwiceUptoCardSaid : Prop := Claim7.holds Tryd.pinned (.plain (OpenSpec.upto actsetTwiceSpec)) actsetTwiceUptoCard

/-- THE SECOND FORM's CARD OF 'gunwalelaw14.ActsetFree'. -/
def actsetFreeUptoCard : Claim7 := { stood := { row := actsetFreeUptoRow, standIns := [], harness := (true, "4354ac6e3081eaec4304d919b9afc26e1685a34fef445ea77857d8036037b54e"), looks := false }, kinds := [], alts := [], laidByText := true, laidKinds := [.data, .pinned], laidTests := true, laidLooks := .later }
def ActsetFreeUptoCardSaid : Prop := Claim7.holds Tryd.pinned (.plain (OpenSpec.upto actsetFreeSpec)) actsetFreeUptoCard
end Rows
end Go.Proofs.YtcckofgleghbgaaDoor
