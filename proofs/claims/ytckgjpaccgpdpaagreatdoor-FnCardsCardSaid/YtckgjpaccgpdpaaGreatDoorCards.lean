/-
  DERIVED. GIVEN WITH THE SEED: THE CARDS: each row of YtckgjpaccgpdpaaGreatDoorRows.lean that lists a variable, with what it lists TIED to the program's text (the seventh form; the later family's looks); each row that meets fmt, with fmt's text TOLD by the authors' own Lean function (tested against real Go, not proved from fmt's source: count such statements apart). THE CARD IS WHAT COUNTS. Prove the row's statement (the work); the ties are given (YtckgjpaccgpdpaaGreatDoorTie.lean); close each card by the builder's one call (the guide's Derived/Test/ToyasCard.lean, 'card_holds'). Laid BY PROGRAM, IN A SANDBOX (cutbox-door.mjs). By AI agents, Wed Nov 11 2026. No macro, syntax, notation, axiom, sorry.
-/
import Derived.Test.YtckgjpaccgpdpaaGreatDoorRows
import GoSem.ClaimSeven
namespace Go.Proofs.YtckgjpaccgpdpaaGreatDoor
namespace Rows

/-- THE TIED CARD OF 'laws.FnCards'. -/
def fnCardsCard : Claim7 := { stood := { row := fnCardsRow, standIns := [], harness := (true, "5c06b93a83ea58425c97ade234e107fbb78cc8083fff7c969cf0b7b296957232"), looks := true }, kinds := [], alts := [], laidByText := true, laidKinds := [.data, .data, .data, .data, .sentinel, .sentinel, .pinned], laidTests := true, laidLooks := .later }
def FnCardsCardSaid : Prop := Claim7.holds Tryz.pinned (.plain (OpenSpec.ofChange fnCardsSpec)) fnCardsCard

/-- THE SECOND FORM's CARD OF 'laws.FnCards'. -/
def fnCardsUptoCard : Claim7 := { stood := { row := fnCardsUptoRow, standIns := [], harness := (true, "5c06b93a83ea58425c97ade234e107fbb78cc8083fff7c969cf0b7b296957232"), looks := true }, kinds := [], alts := [], laidByText := true, laidKinds := [.data, .data, .data, .data, .sentinel, .sentinel, .pinned], laidTests := true, laidLooks := .later }
def FnCardsUptoCardSaid : Prop := Claim7.holds Tryz.pinned (.plain (OpenSpec.upto fnCardsSpec)) fnCardsUptoCard
end Rows
end Go.Proofs.YtckgjpaccgpdpaaGreatDoor
