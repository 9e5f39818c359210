/-
  DERIVED. GIVEN WITH THE SEED: THE CARDS: each row of YtkdnmldmffkkoaaGreatDoorRows.lean that lists a variable, with what it lists TIED to the program's text (the seventh form; the later family's looks); each row that meets fmt, with fmt's text TOLD by the authors' own Lean function (tested against real Go, not proved from fmt's source: count such statements apart). THE CARD IS WHAT COUNTS. Prove the row's statement (the work); the ties are given (YtkdnmldmffkkoaaGreatDoorTie.lean); close each card by the builder's one call (the guide's Derived/Test/ToyasCard.lean, 'card_holds'). Laid BY PROGRAM, IN A SANDBOX (cutbox-door.mjs). By AI agents, Wed Nov 11 2026. No macro, syntax, notation, axiom, sorry.
-/
import Derived.Test.YtkdnmldmffkkoaaGreatDoorRows
import GoSem.ClaimSeven
namespace Go.Proofs.YtkdnmldmffkkoaaGreatDoor
namespace Rows

/-- THE TIED CARD OF 'pandectlaw12.SameMatchesReference'. -/
def sameMatchesReferenceCard : Claim7 := { stood := { row := sameMatchesReferenceRow, standIns := [], harness := (true, "9dbc33fdebcb6a283d7b7a9fc500cd959228c065244eb2c1bef113eaa2244835"), looks := true }, kinds := [], alts := [], laidByText := true, laidKinds := [.data, .data, .data, .sentinel, .sentinel], laidTests := true, laidLooks := .later }
def SameMatchesReferenceCardSaid : Prop := Claim7.holds Tryz.pinned (.plain (OpenSpec.ofChange sameMatchesReferenceSpec)) sameMatchesReferenceCard

/-- THE TIED CARD OF 'pandectlaw12.SameForms'. -/
def sameFormsCard : Claim7 := { stood := { row := sameFormsRow, standIns := [], harness := (true, "9dbc33fdebcb6a283d7b7a9fc500cd959228c065244eb2c1bef113eaa2244835"), looks := true }, kinds := [], alts := [], laidByText := true, laidKinds := [.data, .data, .data, .sentinel, .sentinel], laidTests := true, laidLooks := .later }
def SameFormsCardSaid : Prop := Claim7.holds Tryz.pinned (.plain (OpenSpec.ofChange sameFormsSpec)) sameFormsCard

/-- THE TIED CARD OF 'pandectlaw12.SameStarts'. -/
def sameStartsCard : Claim7 := { stood := { row := sameStartsRow, standIns := [], harness := (true, "9dbc33fdebcb6a283d7b7a9fc500cd959228c065244eb2c1bef113eaa2244835"), looks := true }, kinds := [], alts := [], laidByText := true, laidKinds := [.data, .data, .data, .sentinel, .sentinel], laidTests := true, laidLooks := .later }
def SameStartsCardSaid : Prop := Claim7.holds Tryz.pinned (.plain (OpenSpec.ofChange sameStartsSpec)) sameStartsCard

/-- THE TIED CARD OF 'pandectlaw12.SameEquivalence'. -/
def sameEquivalenceCard : Claim7 := { stood := { row := sameEquivalenceRow, standIns := [], harness := (true, "9dbc33fdebcb6a283d7b7a9fc500cd959228c065244eb2c1bef113eaa2244835"), looks := true }, kinds := [], alts := [], laidByText := true, laidKinds := [.data, .data, .data, .sentinel, .sentinel], laidTests := true, laidLooks := .later }
def SameEquivalenceCardSaid : Prop := Claim7.holds Tryz.pinned (.plain (OpenSpec.ofChange sameEquivalenceSpec)) sameEquivalenceCard

/-- THE TIED CARD OF 'pandectlaw12.SameCases'. -/
def sameCasesCard : Claim7 := { stood := { row := sameCasesRow, standIns := [], harness := (true, "9dbc33fdebcb6a283d7b7a9fc500cd959228c065244eb2c1bef113eaa2244835"), looks := true }, kinds := [], alts := [], laidByText := true, laidKinds := [.data, .data, .data, .sentinel, .sentinel], laidTests := true, laidLooks := .later }
def SameCasesCardSaid : Prop := Claim7.holds Tryz.pinned (.plain (OpenSpec.ofChange sameCasesSpec)) sameCasesCard

/-- THE SECOND FORM's CARD OF 'pandectlaw12.SameMatchesReference'. -/
def sameMatchesReferenceUptoCard : Claim7 := { stood := { row := sameMatchesReferenceUptoRow, standIns := [], harness := (true, "9dbc33fdebcb6a283d7b7a9fc500cd959228c065244eb2c1bef113eaa2244835"), looks := true }, kinds := [], alts := [], laidByText := true, laidKinds := [.data, .data, .data, .sentinel, .sentinel], laidTests := true, laidLooks := .later }
def SameMatchesReferenceUptoCardSaid : Prop := Claim7.holds Tryz.pinned (.plain (OpenSpec.upto sameMatchesReferenceSpec)) sameMatchesReferenceUptoCard

/-- THE SECOND FORM's CARD OF 'pandectlaw12.SameForms'. -/
def sameFormsUptoCard : Claim7 := { stood := { row := sameFormsUptoRow, standIns := [], harness := (true, "9dbc33fdebcb6a283d7b7a9fc500cd959228c065244eb2c1bef113eaa2244835"), looks := true }, kinds := [], alts := [], laidByText := true, laidKinds := [.data, .data, .data, .sentinel, .sentinel], laidTests := true, laidLooks := .later }
def SameFormsUptoCardSaid : Prop := Claim7.holds Tryz.pinned (.plain (OpenSpec.upto sameFormsSpec)) sameFormsUptoCard

/-- THE SECOND FORM's CARD OF 'pandectlaw12.SameStarts'. -/
def sameStartsUptoCard : Claim7 := { stood := { row := sameStartsUptoRow, standIns := [], harness := (true, "9dbc33fdebcb6a283d7b7a9fc500cd959228c065244eb2c1bef113eaa2244835"), looks := true }, kinds := [], alts := [], laidByText := true, laidKinds := [.data, .data, .data, .sentinel, .sentinel], laidTests := true, laidLooks := .later }
def SameStartsUptoCardSaid : Prop := Claim7.holds Tryz.pinned (.plain (OpenSpec.upto sameStartsSpec)) sameStartsUptoCard

/-- THE SECOND FORM's CARD OF 'pandectlaw12.SameEquivalence'. -/
def sameEquivalenceUptoCard : Claim7 := { stood := { row := sameEquivalenceUptoRow, standIns := [], harness := (true, "9dbc33fdebcb6a283d7b7a9fc500cd959228c065244eb2c1bef113eaa2244835"), looks := true }, kinds := [], alts := [], laidByText := true, laidKinds := [.data, .data, .data, .sentinel, .sentinel], laidTests := true, laidLooks := .later }
def SameEquivalenceUptoCardSaid : Prop := Claim7.holds Tryz.pinned (.plain (OpenSpec.upto sameEquivalenceSpec)) sameEquivalenceUptoCard

/-- THE SECOND FORM's CARD OF 'pandectlaw12.SameCases'. -/
def sameCasesUptoCard : Claim7 := { stood := { row := sameCasesUptoRow, standIns := [], harness := (true, "9dbc33fdebcb6a283d7b7a9fc500cd959228c065244eb2c1bef113eaa2244835"), looks := true }, kinds := [], alts := [], laidByText := true, laidKinds := [.data, .data, .data, .sentinel, .sentinel], laidTests := true, laidLooks := .later }
def SameCasesUptoCardSaid : Prop := Claim7.holds Tryz.pinned (.plain (OpenSpec.upto sameCasesSpec)) sameCasesUptoCard
end Rows
end Go.Proofs.YtkdnmldmffkkoaaGreatDoor
