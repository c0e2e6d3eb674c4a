/-
  DERIVED. GIVEN WITH THE SEED: THE CARDS: each row of YtckgjpaccgpdpaaDoorRows.lean that lists a variable, with what it lists TIED to the program's text (the seventh form; the later family's looks); each row that meets fmt, with fmt's text TOLD by the authors' own Lean function (tested against real Go, not proved from fmt's source: count such statements apart). THE CARD IS WHAT COUNTS. Prove the row's statement (the work); the ties are given (YtckgjpaccgpdpaaDoorTie.lean); close each card by the builder's one call (the guide's Derived/Test/ToyasCard.lean, 'card_holds'). Laid BY PROGRAM, IN A SANDBOX (cutbox-door.mjs). By AI agents, Wed Nov 11 2026. No macro, syntax, notation, axiom, sorry.
-/
import Derived.Test.YtckgjpaccgpdpaaDoorRows
import GoSem.ClaimSeven
namespace Go.Proofs.YtckgjpaccgpdpaaDoor
namespace Rows

/-- THE TIED CARD OF 'laws.FnExactCardText'. -/
def fnExactCardTextCard : Claim7 := { stood := { row := fnExactCardTextRow, standIns := [], harness := (true, "6d3088b07aa15a1d04a0dcd06867bc01967541673ced1148712176bae8f45858"), looks := true }, kinds := [], alts := [], laidByText := true, laidKinds := [.data, .data, .data], laidTests := true, laidLooks := .later }
def FnExactCardTextCardSaid : Prop := Claim7.holds Tryd.pinned (.plain (OpenSpec.ofChange fnExactCardTextSpec)) fnExactCardTextCard

/-- THE TIED CARD OF 'laws.FnExactParseCard'. -/
def fnExactParseCardCard : Claim7 := { stood := { row := fnExactParseCardRow, standIns := [], harness := (true, "6d3088b07aa15a1d04a0dcd06867bc01967541673ced1148712176bae8f45858"), looks := true }, kinds := [], alts := [], laidByText := true, laidKinds := [.data, .data, .data, .data, .sentinel, .sentinel, .pinned], laidTests := true, laidLooks := .later }
def FnExactParseCardCardSaid : Prop := Claim7.holds Tryd.pinned (.plain (OpenSpec.ofChange fnExactParseCardSpec)) fnExactParseCardCard

/-- THE SECOND FORM's CARD OF 'laws.FnExactCardText'. -/
def fnExactCardTextUptoCard : Claim7 := { stood := { row := fnExactCardTextUptoRow, standIns := [], harness := (true, "6d3088b07aa15a1d04a0dcd06867bc01967541673ced1148712176bae8f45858"), looks := true }, kinds := [], alts := [], laidByText := true, laidKinds := [.data, .data, .data], laidTests := true, laidLooks := .later }
def FnExactCardTextUptoCardSaid : Prop := Claim7.holds Tryd.pinned (.plain (OpenSpec.upto fnExactCardTextSpec)) fnExactCardTextUptoCard

/-- THE SECOND FORM's CARD OF 'laws.FnExactParseCard'. -/
def fnExactParseCardUptoCard : Claim7 := { stood := { row := fnExactParseCardUptoRow, standIns := [], harness := (true, "6d3088b07aa15a1d04a0dcd06867bc01967541673ced1148712176bae8f45858"), looks := true }, kinds := [], alts := [], laidByText := true, laidKinds := [.data, .data, .data, .data, .sentinel, .sentinel, .pinned], laidTests := true, laidLooks := .later }
def FnExactParseCardUptoCardSaid : Prop := Claim7.holds Tryd.pinned (.plain (OpenSpec.upto fnExactParseCardSpec)) fnExactParseCardUptoCard
end Rows
end Go.Proofs.YtckgjpaccgpdpaaDoor
