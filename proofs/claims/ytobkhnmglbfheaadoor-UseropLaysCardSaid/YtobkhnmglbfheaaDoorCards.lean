/-
  DERIVED. GIVEN WITH THE SEED: THE CARDS: each row of YtobkhnmglbfheaaDoorRows.lean that lists a variable, with what it lists TIED to the program's text (the seventh form; the later family's looks); each row that meets fmt, with fmt's text TOLD by the authors' own Lean function (tested against real Go, not proved from fmt's source: count such statements apart). THE CARD IS WHAT COUNTS. Prove the row's statement (the work); the ties are given (YtobkhnmglbfheaaDoorTie.lean); close each card by the builder's one call (the guide's Derived/Test/ToyasCard.lean, 'card_holds'). Laid BY PROGRAM, IN A SANDBOX (cutbox-door.mjs). By AI agents, Wed Nov 11 2026. No macro, syntax, notation, axiom, sorry.
-/
import Derived.Test.YtobkhnmglbfheaaDoorRows
import GoSem.ClaimSeven
namespace Go.Proofs.YtobkhnmglbfheaaDoor
namespace Rows

/-- THE TIED CARD OF 'sheaferlaw18.UseropLays'. -/
def useropLaysCard : Claim7 := { stood := { row := useropLaysRow, standIns := [], harness := (true, "ba09747aa57e02b919fe1ef0cb89bd32e2f840320a417f55ea59de5d26cc0894"), looks := false }, kinds := [], alts := [], laidByText := true, laidKinds := [.data, .data], laidTests := true, laidLooks := .later }
def UseropLaysCardSaid : Prop := Claim7.holds Tryd.pinned (.plain (OpenSpec.ofChange useropLaysSpec)) useropLaysCard

/-- THE TIED CARD OF 'sheaferlaw18.UseropHashes'. -/
def useropHashesCard : Claim7 := { stood := { row := useropHashesRow, standIns := [], harness := (true, "ba09747aa57e02b919fe1ef0cb89bd32e2f840320a417f55ea59de5d26cc0894"), looks := false }, kinds := [], alts := [], laidByText := true, laidKinds := [.data, .data], laidTests := true, laidLooks := .later }
def UseropHashesCardSaid : Prop := Claim7.holds Tryd.pinned (.plain (OpenSpec.ofChange useropHashesSpec)) useropHashesCard

/-- THE SECOND FORM's CARD OF 'sheaferlaw18.UseropLays'. -/
def useropLaysUptoCard : Claim7 := { stood := { row := useropLaysUptoRow, standIns := [], harness := (true, "ba09747aa57e02b919fe1ef0cb89bd32e2f840320a417f55ea59de5d26cc0894"), looks := false }, kinds := [], alts := [], laidByText := true, laidKinds := [.data, .data], laidTests := true, laidLooks := .later }
def UseropLaysUptoCardSaid : Prop := Claim7.holds Tryd.pinned (.plain (OpenSpec.upto useropLaysSpec)) useropLaysUptoCard

/-- THE SECOND FORM's CARD OF 'sheaferlaw18.UseropHashes'. -/
def useropHashesUptoCard : Claim7 := { stood := { row := useropHashesUptoRow, standIns := [], harness := (true, "ba09747aa57e02b919fe1ef0cb89bd32e2f840320a417f55ea59de5d26cc0894"), looks := false }, kinds := [], alts := [], laidByText := true, laidKinds := [.data, .data], laidTests := true, laidLooks := .later }
def UseropHashesUptoCardSaid : Prop := Claim7.holds Tryd.pinned (.plain (OpenSpec.upto useropHashesSpec)) useropHashesUptoCard
end Rows
end Go.Proofs.YtobkhnmglbfheaaDoor
