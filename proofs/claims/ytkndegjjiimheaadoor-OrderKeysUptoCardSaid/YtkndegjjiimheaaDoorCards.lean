/-
  DERIVED. GIVEN WITH THE SEED: THE CARDS: each row of YtkndegjjiimheaaDoorRows.lean that lists a variable, with what it lists TIED to the program's text (the seventh form; the later family's looks); each row that meets fmt, with fmt's text TOLD by the authors' own Lean function (tested against real Go, not proved from fmt's source: count such statements apart). THE CARD IS WHAT COUNTS. Prove the row's statement (the work); the ties are given (YtkndegjjiimheaaDoorTie.lean); close each card by the builder's one call (the guide's Derived/Test/ToyasCard.lean, 'card_holds'). Laid BY PROGRAM, IN A SANDBOX (cutbox-door.mjs). By AI agents, Wed Nov 11 2026. No macro, syntax, notation, axiom, sorry.
-/
import Derived.Test.YtkndegjjiimheaaDoorRows
import GoSem.ClaimSeven
namespace Go.Proofs.YtkndegjjiimheaaDoor
namespace Rows

/-- THE TIED CARD OF 'lecternlaw07.OrderDecimals'. -/
def orderDecimalsCard : Claim7 := { stood := { row := orderDecimalsRow, standIns := [], harness := (true, "d4558aa6844812e8279c7ebebe919deed50dcfe194a8d770c11c371026a1dffa"), looks := true }, kinds := [], alts := [], laidByText := true, laidKinds := [.data, .data, .data, .sentinel, .sentinel], laidTests := true, laidLooks := .later }
def OrderDecimalsCardSaid : Prop := Claim7.holds Tryd.pinned (.plain (OpenSpec.ofChange orderDecimalsSpec)) orderDecimalsCard

/-- THE TIED CARD OF 'lecternlaw07.OrderKeys'. -/
def orderKeysCard : Claim7 := { stood := { row := orderKeysRow, standIns := [], harness := (true, "d4558aa6844812e8279c7ebebe919deed50dcfe194a8d770c11c371026a1dffa"), looks := true }, kinds := [], alts := [], laidByText := true, laidKinds := [.data, .data, .data, .sentinel, .sentinel], laidTests := true, laidLooks := .later }
def OrderKeysCardSaid : Prop := Claim7.holds Tryd.pinned (.plain (OpenSpec.ofChange orderKeysSpec)) orderKeysCard

/-- THE SECOND FORM's CARD OF 'lecternlaw07.OrderDecimals'. -/
def orderDecimalsUptoCard : Claim7 := { stood := { row := orderDecimalsUptoRow, standIns := [], harness := (true, "d4558aa6844812e8279c7ebebe919deed50dcfe194a8d770c11c371026a1dffa"), looks := true }, kinds := [], alts := [], laidByText := true, laidKinds := [.data, .data, .data, .sentinel, .sentinel], laidTests := true, laidLooks := .later }
def OrderDecimalsUptoCardSaid : Prop := Claim7.holds Tryd.pinned (.plain (OpenSpec.upto orderDecimalsSpec)) orderDecimalsUptoCard

/-- THE SECOND FORM's CARD OF 'lecternlaw07.OrderKeys'. -/
def orderKeysUptoCard : Claim7 := { stood := { row := orderKeysUptoRow, standIns := [], harness := (true, "d4558aa6844812e8279c7ebebe919deed50dcfe194a8d770c11c371026a1dffa"), looks := true }, kinds := [], alts := [], laidByText := true, laidKinds := [.data, .data, .data, .sentinel, .sentinel], laidTests := true, laidLooks := .later }
def OrderKeysUptoCardSaid : Prop := Claim7.holds Tryd.pinned (.plain (OpenSpec.upto orderKeysSpec)) orderKeysUptoCard
end Rows
end Go.Proofs.YtkndegjjiimheaaDoor
