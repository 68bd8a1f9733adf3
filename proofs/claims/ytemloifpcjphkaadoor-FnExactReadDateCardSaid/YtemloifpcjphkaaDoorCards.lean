/-
  DERIVED. GIVEN WITH THE SEED: THE CARDS: each row of YtemloifpcjphkaaDoorRows.lean that lists a variable, with what it lists TIED to the program's text (the seventh form; the later family's looks); each row that meets fmt, with fmt's text TOLD by the authors' own Lean function (tested against real Go, not proved from fmt's source: count such statements apart). THE CARD IS WHAT COUNTS. Prove the row's statement (the work); the ties are given (YtemloifpcjphkaaDoorTie.lean); close each card by the builder's one call (the guide's Derived/Test/ToyasCard.lean, 'card_holds'). Laid BY PROGRAM, IN A SANDBOX (cutbox-door.mjs). By AI agents, Wed Nov 11 2026. No macro, syntax, notation, axiom, sorry.
-/
import Derived.Test.YtemloifpcjphkaaDoorRows
import GoSem.ClaimSeven
namespace Go.Proofs.YtemloifpcjphkaaDoor
namespace Rows

/-- THE TIED CARD OF 'laws.FnExactClockText'. -/
def fnExactClockTextCard : Claim7 := { stood := { row := fnExactClockTextRow, standIns := [], harness := (true, "560ae02bb9484187c91a898affccd899427a821920fe8b971c30d40fa965f0b5"), looks := false }, kinds := [], alts := [], laidByText := true, laidKinds := [.data, .data, .data], laidTests := true, laidLooks := .later }
def FnExactClockTextCardSaid : Prop := Claim7.holds Tryd.pinned (.plain (OpenSpec.ofChange fnExactClockTextSpec)) fnExactClockTextCard

/-- THE TIED CARD OF 'laws.FnExactLapText'. -/
def fnExactLapTextCard : Claim7 := { stood := { row := fnExactLapTextRow, standIns := [], harness := (true, "560ae02bb9484187c91a898affccd899427a821920fe8b971c30d40fa965f0b5"), looks := false }, kinds := [], alts := [], laidByText := true, laidKinds := [.data, .data, .data], laidTests := true, laidLooks := .later }
def FnExactLapTextCardSaid : Prop := Claim7.holds Tryd.pinned (.plain (OpenSpec.ofChange fnExactLapTextSpec)) fnExactLapTextCard

/-- THE TIED CARD OF 'laws.FnExactFixedText'. -/
def fnExactFixedTextCard : Claim7 := { stood := { row := fnExactFixedTextRow, standIns := [], harness := (true, "560ae02bb9484187c91a898affccd899427a821920fe8b971c30d40fa965f0b5"), looks := false }, kinds := [], alts := [], laidByText := true, laidKinds := [.data, .data, .data], laidTests := true, laidLooks := .later }
def FnExactFixedTextCardSaid : Prop := Claim7.holds Tryd.pinned (.plain (OpenSpec.ofChange fnExactFixedTextSpec)) fnExactFixedTextCard

/-- THE TIED CARD OF 'laws.FnExactLengthText'. -/
def fnExactLengthTextCard : Claim7 := { stood := { row := fnExactLengthTextRow, standIns := [], harness := (true, "560ae02bb9484187c91a898affccd899427a821920fe8b971c30d40fa965f0b5"), looks := false }, kinds := [], alts := [], laidByText := true, laidKinds := [.data, .data, .data], laidTests := true, laidLooks := .later }
def FnExactLengthTextCardSaid : Prop := Claim7.holds Tryd.pinned (.plain (OpenSpec.ofChange fnExactLengthTextSpec)) fnExactLengthTextCard

/-- THE TIED CARD OF 'laws.FnExactDateText'. -/
def fnExactDateTextCard : Claim7 := { stood := { row := fnExactDateTextRow, standIns := [], harness := (true, "560ae02bb9484187c91a898affccd899427a821920fe8b971c30d40fa965f0b5"), looks := false }, kinds := [], alts := [], laidByText := true, laidKinds := [.data, .data, .data], laidTests := true, laidLooks := .later }
def FnExactDateTextCardSaid : Prop := Claim7.holds Tryd.pinned (.plain (OpenSpec.ofChange fnExactDateTextSpec)) fnExactDateTextCard

/-- THE TIED CARD OF 'laws.FnExactReadClock'. -/
def fnExactReadClockCard : Claim7 := { stood := { row := fnExactReadClockRow, standIns := [], harness := (true, "560ae02bb9484187c91a898affccd899427a821920fe8b971c30d40fa965f0b5"), looks := false }, kinds := [], alts := [], laidByText := true, laidKinds := [.data, .data, .data], laidTests := true, laidLooks := .later }
def FnExactReadClockCardSaid : Prop := Claim7.holds Tryd.pinned (.plain (OpenSpec.ofChange fnExactReadClockSpec)) fnExactReadClockCard

/-- THE TIED CARD OF 'laws.FnExactReadLap'. -/
def fnExactReadLapCard : Claim7 := { stood := { row := fnExactReadLapRow, standIns := [], harness := (true, "560ae02bb9484187c91a898affccd899427a821920fe8b971c30d40fa965f0b5"), looks := false }, kinds := [], alts := [], laidByText := true, laidKinds := [.data, .data, .data], laidTests := true, laidLooks := .later }
def FnExactReadLapCardSaid : Prop := Claim7.holds Tryd.pinned (.plain (OpenSpec.ofChange fnExactReadLapSpec)) fnExactReadLapCard

/-- THE TIED CARD OF 'laws.FnExactReadFixed'. -/
def fnExactReadFixedCard : Claim7 := { stood := { row := fnExactReadFixedRow, standIns := [], harness := (true, "560ae02bb9484187c91a898affccd899427a821920fe8b971c30d40fa965f0b5"), looks := false }, kinds := [], alts := [], laidByText := true, laidKinds := [.data, .data, .data], laidTests := true, laidLooks := .later }
def FnExactReadFixedCardSaid : Prop := Claim7.holds Tryd.pinned (.plain (OpenSpec.ofChange fnExactReadFixedSpec)) fnExactReadFixedCard

/-- THE TIED CARD OF 'laws.FnExactReadLength'. -/
def fnExactReadLengthCard : Claim7 := { stood := { row := fnExactReadLengthRow, standIns := [], harness := (true, "560ae02bb9484187c91a898affccd899427a821920fe8b971c30d40fa965f0b5"), looks := false }, kinds := [], alts := [], laidByText := true, laidKinds := [.data, .data, .data], laidTests := true, laidLooks := .later }
def FnExactReadLengthCardSaid : Prop := Claim7.holds Tryd.pinned (.plain (OpenSpec.ofChange fnExactReadLengthSpec)) fnExactReadLengthCard

/-- THE TIED CARD OF 'laws.FnExactReadDate'. -/
def fnExactReadDateCard : Claim7 := { stood := { row := fnExactReadDateRow, standIns := [], harness := (true, "560ae02bb9484187c91a898affccd899427a821920fe8b971c30d40fa965f0b5"), looks := false }, kinds := [], alts := [], laidByText := true, laidKinds := [.data, .data, .data, .data, .pinned], laidTests := true, laidLooks := .later }
def FnExactReadDateCardSaid : Prop := Claim7.holds Tryd.pinned (.plain (OpenSpec.ofChange fnExactReadDateSpec)) fnExactReadDateCard

/-- THE SECOND FORM's CARD OF 'laws.FnExactClockText'. -/
def fnExactClockTextUptoCard : Claim7 := { stood := { row := fnExactClockTextUptoRow, standIns := [], harness := (true, "560ae02bb9484187c91a898affccd899427a821920fe8b971c30d40fa965f0b5"), looks := false }, kinds := [], alts := [], laidByText := true, laidKinds := [.data, .data, .data], laidTests := true, laidLooks := .later }
def FnExactClockTextUptoCardSaid : Prop := Claim7.holds Tryd.pinned (.plain (OpenSpec.upto fnExactClockTextSpec)) fnExactClockTextUptoCard

/-- THE SECOND FORM's CARD OF 'laws.FnExactLapText'. -/
def fnExactLapTextUptoCard : Claim7 := { stood := { row := fnExactLapTextUptoRow, standIns := [], harness := (true, "560ae02bb9484187c91a898affccd899427a821920fe8b971c30d40fa965f0b5"), looks := false }, kinds := [], alts := [], laidByText := true, laidKinds := [.data, .data, .data], laidTests := true, laidLooks := .later }
def FnExactLapTextUptoCardSaid : Prop := Claim7.holds Tryd.pinned (.plain (OpenSpec.upto fnExactLapTextSpec)) fnExactLapTextUptoCard

/-- THE SECOND FORM's CARD OF 'laws.FnExactFixedText'. -/
def fnExactFixedTextUptoCard : Claim7 := { stood := { row := fnExactFixedTextUptoRow, standIns := [], harness := (true, "560ae02bb9484187c91a898affccd899427a821920fe8b971c30d40fa965f0b5"), looks := false }, kinds := [], alts := [], laidByText := true, laidKinds := [.data, .data, .data], laidTests := true, laidLooks := .later }
def FnExactFixedTextUptoCardSaid : Prop := Claim7.holds Tryd.pinned (.plain (OpenSpec.upto fnExactFixedTextSpec)) fnExactFixedTextUptoCard

/-- THE SECOND FORM's CARD OF 'laws.FnExactLengthText'. -/
def fnExactLengthTextUptoCard : Claim7 := { stood := { row := fnExactLengthTextUptoRow, standIns := [], harness := (true, "560ae02bb9484187c91a898affccd899427a821920fe8b971c30d40fa965f0b5"), looks := false }, kinds := [], alts := [], laidByText := true, laidKinds := [.data, .data, .data], laidTests := true, laidLooks := .later }
def FnExactLengthTextUptoCardSaid : Prop := Claim7.holds Tryd.pinned (.plain (OpenSpec.upto fnExactLengthTextSpec)) fnExactLengthTextUptoCard

/-- THE SECOND FORM's CARD OF 'laws.FnExactDateText'. -/
def fnExactDateTextUptoCard : Claim7 := { stood := { row := fnExactDateTextUptoRow, standIns := [], harness := (true, "560ae02bb9484187c91a898affccd899427a821920fe8b971c30d40fa965f0b5"), looks := false }, kinds := [], alts := [], laidByText := true, laidKinds := [.data, .data, .data], laidTests := true, laidLooks := .later }
def FnExactDateTextUptoCardSaid : Prop := Claim7.holds Tryd.pinned (.plain (OpenSpec.upto fnExactDateTextSpec)) fnExactDateTextUptoCard

/-- THE SECOND FORM's CARD OF 'laws.FnExactReadClock'. -/
def fnExactReadClockUptoCard : Claim7 := { stood := { row := fnExactReadClockUptoRow, standIns := [], harness := (true, "560ae02bb9484187c91a898affccd899427a821920fe8b971c30d40fa965f0b5"), looks := false }, kinds := [], alts := [], laidByText := true, laidKinds := [.data, .data, .data], laidTests := true, laidLooks := .later }
def FnExactReadClockUptoCardSaid : Prop := Claim7.holds Tryd.pinned (.plain (OpenSpec.upto fnExactReadClockSpec)) fnExactReadClockUptoCard

/-- THE SECOND FORM's CARD OF 'laws.FnExactReadLap'. -/
def fnExactReadLapUptoCard : Claim7 := { stood := { row := fnExactReadLapUptoRow, standIns := [], harness := (true, "560ae02bb9484187c91a898affccd899427a821920fe8b971c30d40fa965f0b5"), looks := false }, kinds := [], alts := [], laidByText := true, laidKinds := [.data, .data, .data], laidTests := true, laidLooks := .later }
def FnExactReadLapUptoCardSaid : Prop := Claim7.holds Tryd.pinned (.plain (OpenSpec.upto fnExactReadLapSpec)) fnExactReadLapUptoCard

/-- THE SECOND FORM's CARD OF 'laws.FnExactReadFixed'. -/
def fnExactReadFixedUptoCard : Claim7 := { stood := { row := fnExactReadFixedUptoRow, standIns := [], harness := (true, "560ae02bb9484187c91a898affccd899427a821920fe8b971c30d40fa965f0b5"), looks := false }, kinds := [], alts := [], laidByText := true, laidKinds := [.data, .data, .data], laidTests := true, laidLooks := .later }
def FnExactReadFixedUptoCardSaid : Prop := Claim7.holds Tryd.pinned (.plain (OpenSpec.upto fnExactReadFixedSpec)) fnExactReadFixedUptoCard

/-- THE SECOND FORM's CARD OF 'laws.FnExactReadLength'. -/
def fnExactReadLengthUptoCard : Claim7 := { stood := { row := fnExactReadLengthUptoRow, standIns := [], harness := (true, "560ae02bb9484187c91a898affccd899427a821920fe8b971c30d40fa965f0b5"), looks := false }, kinds := [], alts := [], laidByText := true, laidKinds := [.data, .data, .data], laidTests := true, laidLooks := .later }
def FnExactReadLengthUptoCardSaid : Prop := Claim7.holds Tryd.pinned (.plain (OpenSpec.upto fnExactReadLengthSpec)) fnExactReadLengthUptoCard

/-- THE SECOND FORM's CARD OF 'laws.FnExactReadDate'. -/
def fnExactReadDateUptoCard : Claim7 := { stood := { row := fnExactReadDateUptoRow, standIns := [], harness := (true, "560ae02bb9484187c91a898affccd899427a821920fe8b971c30d40fa965f0b5"), looks := false }, kinds := [], alts := [], laidByText := true, laidKinds := [.data, .data, .data, .data, .pinned], laidTests := true, laidLooks := .later }
def FnExactReadDateUptoCardSaid : Prop := Claim7.holds Tryd.pinned (.plain (OpenSpec.upto fnExactReadDateSpec)) fnExactReadDateUptoCard
end Rows
end Go.Proofs.YtemloifpcjphkaaDoor
