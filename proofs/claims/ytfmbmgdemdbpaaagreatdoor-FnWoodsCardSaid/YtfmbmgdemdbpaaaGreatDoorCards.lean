/-
  DERIVED. GIVEN WITH THE SEED: THE CARDS: each row of YtfmbmgdemdbpaaaGreatDoorRows.lean that lists a variable, with what it lists TIED to the program's text (the seventh form; the later family's looks); each row that meets fmt, with fmt's text TOLD by the authors' own Lean function (tested against real Go, not proved from fmt's source: count such statements apart). THE CARD IS WHAT COUNTS. Prove the row's statement (the work); the ties are given (YtfmbmgdemdbpaaaGreatDoorTie.lean); close each card by the builder's one call (the guide's Derived/Test/ToyasCard.lean, 'card_holds'). Laid BY PROGRAM, IN A SANDBOX (cutbox-door.mjs). By AI agents, Wed Nov 11 2026. No macro, syntax, notation, axiom, sorry.
-/
import Derived.Test.YtfmbmgdemdbpaaaGreatDoorRows
import GoSem.ClaimSeven
namespace Go.Proofs.YtfmbmgdemdbpaaaGreatDoor
namespace Rows

/-- THE TIED CARD OF 'laws.FnWoods'. -/
def fnWoodsCard : Claim7 := { stood := { row := fnWoodsRow, standIns := [], harness := (true, "b8ade1a6eaa407aa689b8d79afbfeec3de8e5f3936bd931d35191a5c6ca1e1e2"), looks := true }, kinds := [], alts := [], laidByText := true, laidKinds := [.data, .data, .data, .data, .sentinel, .sentinel, .pinned], laidTests := true, laidLooks := .later }
def FnWoodsCardSaid : Prop := Claim7.holds Tryz.pinned (.plain (OpenSpec.ofChange fnWoodsSpec)) fnWoodsCard

/-- THE SECOND FORM's CARD OF 'laws.FnWoods'. -/
def fnWoodsUptoCard : Claim7 := { stood := { row := fnWoodsUptoRow, standIns := [], harness := (true, "b8ade1a6eaa407aa689b8d79afbfeec3de8e5f3936bd931d35191a5c6ca1e1e2"), looks := true }, kinds := [], alts := [], laidByText := true, laidKinds := [.data, .data, .data, .data, .sentinel, .sentinel, .pinned], laidTests := true, laidLooks := .later }
def FnWoodsUptoCardSaid : Prop := Claim7.holds Tryz.pinned (.plain (OpenSpec.upto fnWoodsSpec)) fnWoodsUptoCard
end Rows
end Go.Proofs.YtfmbmgdemdbpaaaGreatDoor
