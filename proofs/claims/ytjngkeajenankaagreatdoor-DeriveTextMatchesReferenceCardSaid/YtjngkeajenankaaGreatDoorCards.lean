/-
  DERIVED. GIVEN WITH THE SEED: THE CARDS: each row of YtjngkeajenankaaGreatDoorRows.lean that lists a variable, with what it lists TIED to the program's text (the seventh form; the later family's looks); each row that meets fmt, with fmt's text TOLD by the authors' own Lean function (tested against real Go, not proved from fmt's source: count such statements apart). THE CARD IS WHAT COUNTS. Prove the row's statement (the work); the ties are given (YtjngkeajenankaaGreatDoorTie.lean); close each card by the builder's one call (the guide's Derived/Test/ToyasCard.lean, 'card_holds'). Laid BY PROGRAM, IN A SANDBOX (cutbox-door.mjs). By AI agents, Wed Nov 11 2026. No macro, syntax, notation, axiom, sorry.
-/
import Derived.Test.YtjngkeajenankaaGreatDoorRows
import GoSem.ClaimSeven
namespace Go.Proofs.YtjngkeajenankaaGreatDoor
namespace Rows

/-- THE TIED CARD OF 'pandectlaw34.DeriveTextMatchesReference'. -/
def deriveTextMatchesReferenceCard : Claim7 := { stood := { row := deriveTextMatchesReferenceRow, standIns := [], harness := (true, "c873133450c4b307342f8eac7fc58fb3ae04b8728e4bd3e8061e92a8ef3d6752"), looks := true }, kinds := [], alts := [], laidByText := true, laidKinds := [.data, .data, .data, .data, .sentinel, .sentinel, .pinned], laidTests := true, laidLooks := .later }
def DeriveTextMatchesReferenceCardSaid : Prop := Claim7.holds Tryz.pinned (.plain (OpenSpec.ofChange deriveTextMatchesReferenceSpec)) deriveTextMatchesReferenceCard

/-- THE SECOND FORM's CARD OF 'pandectlaw34.DeriveTextMatchesReference'. -/
def deriveTextMatchesReferenceUptoCard : Claim7 := { stood := { row := deriveTextMatchesReferenceUptoRow, standIns := [], harness := (true, "c873133450c4b307342f8eac7fc58fb3ae04b8728e4bd3e8061e92a8ef3d6752"), looks := true }, kinds := [], alts := [], laidByText := true, laidKinds := [.data, .data, .data, .data, .sentinel, .sentinel, .pinned], laidTests := true, laidLooks := .later }
def DeriveTextMatchesReferenceUptoCardSaid : Prop := Claim7.holds Tryz.pinned (.plain (OpenSpec.upto deriveTextMatchesReferenceSpec)) deriveTextMatchesReferenceUptoCard
end Rows
end Go.Proofs.YtjngkeajenankaaGreatDoor
