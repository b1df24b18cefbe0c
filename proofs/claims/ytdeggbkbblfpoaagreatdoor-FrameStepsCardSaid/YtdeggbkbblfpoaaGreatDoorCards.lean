/-
  DERIVED. GIVEN WITH THE SEED: THE CARDS: each row of YtdeggbkbblfpoaaGreatDoorRows.lean that lists a variable, with what it lists TIED to the program's text (the seventh form; the later family's looks); each row that meets fmt, with fmt's text TOLD by the authors' own Lean function (tested against real Go, not proved from fmt's source: count such statements apart). THE CARD IS WHAT COUNTS. Prove the row's statement (the work); the ties are given (YtdeggbkbblfpoaaGreatDoorTie.lean); close each card by the builder's one call (the guide's Derived/Test/ToyasCard.lean, 'card_holds'). Laid BY PROGRAM, IN A SANDBOX (cutbox-door.mjs). By AI agents, Wed Nov 11 2026. No macro, syntax, notation, axiom, sorry.
-/
import Derived.Test.YtdeggbkbblfpoaaGreatDoorRows
import GoSem.ClaimSeven
namespace Go.Proofs.YtdeggbkbblfpoaaGreatDoor
namespace Rows

/-- THE TIED CARD OF 'sheaferlaw14.FrameSteps'. -/
def frameStepsCard : Claim7 := { stood := { row := frameStepsRow, standIns := [], harness := (true, "85155ceaee69666358b32dc3f1cc567f5a98ea180c31635cc7b845fb9d52d52d"), looks := true }, kinds := [], alts := [], laidByText := true, laidKinds := [.data, .data, .data, .data, .data], laidTests := true, laidLooks := .later }
def FrameStepsCardSaid : Prop := Claim7.holds Tryz.pinned (.plain (OpenSpec.ofChange frameStepsSpec)) frameStepsCard

/-- THE TIED CARD OF 'sheaferlaw14.FrameReckons'. -/
def frameReckonsCard : Claim7 := { stood := { row := frameReckonsRow, standIns := [], harness := (true, "85155ceaee69666358b32dc3f1cc567f5a98ea180c31635cc7b845fb9d52d52d"), looks := true }, kinds := [], alts := [], laidByText := true, laidKinds := [.data, .data, .data, .data, .data], laidTests := true, laidLooks := .later }
def FrameReckonsCardSaid : Prop := Claim7.holds Tryz.pinned (.plain (OpenSpec.ofChange frameReckonsSpec)) frameReckonsCard

/-- THE TIED CARD OF 'sheaferlaw14.FrameTells'. -/
def frameTellsCard : Claim7 := { stood := { row := frameTellsRow, standIns := [], harness := (true, "85155ceaee69666358b32dc3f1cc567f5a98ea180c31635cc7b845fb9d52d52d"), looks := true }, kinds := [], alts := [], laidByText := true, laidKinds := [.data, .data, .data, .data, .data], laidTests := true, laidLooks := .later }
def FrameTellsCardSaid : Prop := Claim7.holds Tryz.pinned (.plain (OpenSpec.ofChange frameTellsSpec)) frameTellsCard

/-- THE TIED CARD OF 'sheaferlaw14.FrameMay'. -/
def frameMayCard : Claim7 := { stood := { row := frameMayRow, standIns := [], harness := (true, "85155ceaee69666358b32dc3f1cc567f5a98ea180c31635cc7b845fb9d52d52d"), looks := true }, kinds := [], alts := [], laidByText := true, laidKinds := [.data, .data, .data, .data, .data], laidTests := true, laidLooks := .later }
def FrameMayCardSaid : Prop := Claim7.holds Tryz.pinned (.plain (OpenSpec.ofChange frameMaySpec)) frameMayCard

/-- THE TIED CARD OF 'sheaferlaw14.FrameKeeps'. -/
def frameKeepsCard : Claim7 := { stood := { row := frameKeepsRow, standIns := [], harness := (true, "85155ceaee69666358b32dc3f1cc567f5a98ea180c31635cc7b845fb9d52d52d"), looks := true }, kinds := [], alts := [], laidByText := true, laidKinds := [.data, .data, .data, .data, .data], laidTests := true, laidLooks := .later }
def FrameKeepsCardSaid : Prop := Claim7.holds Tryz.pinned (.plain (OpenSpec.ofChange frameKeepsSpec)) frameKeepsCard

/-- THE SECOND FORM's CARD OF 'sheaferlaw14.FrameSteps'. -/
def frameStepsUptoCard : Claim7 := { stood := { row := frameStepsUptoRow, standIns := [], harness := (true, "85155ceaee69666358b32dc3f1cc567f5a98ea180c31635cc7b845fb9d52d52d"), looks := true }, kinds := [], alts := [], laidByText := true, laidKinds := [.data, .data, .data, .data, .data], laidTests := true, laidLooks := .later }
def FrameStepsUptoCardSaid : Prop := Claim7.holds Tryz.pinned (.plain (OpenSpec.upto frameStepsSpec)) frameStepsUptoCard

/-- THE SECOND FORM's CARD OF 'sheaferlaw14.FrameReckons'. -/
def frameReckonsUptoCard : Claim7 := { stood := { row := frameReckonsUptoRow, standIns := [], harness := (true, "85155ceaee69666358b32dc3f1cc567f5a98ea180c31635cc7b845fb9d52d52d"), looks := true }, kinds := [], alts := [], laidByText := true, laidKinds := [.data, .data, .data, .data, .data], laidTests := true, laidLooks := .later }
def FrameReckonsUptoCardSaid : Prop := Claim7.holds Tryz.pinned (.plain (OpenSpec.upto frameReckonsSpec)) frameReckonsUptoCard

/-- THE SECOND FORM's CARD OF 'sheaferlaw14.FrameTells'. -/
def frameTellsUptoCard : Claim7 := { stood := { row := frameTellsUptoRow, standIns := [], harness := (true, "85155ceaee69666358b32dc3f1cc567f5a98ea180c31635cc7b845fb9d52d52d"), looks := true }, kinds := [], alts := [], laidByText := true, laidKinds := [.data, .data, .data, .data, .data], laidTests := true, laidLooks := .later }
def FrameTellsUptoCardSaid : Prop := Claim7.holds Tryz.pinned (.plain (OpenSpec.upto frameTellsSpec)) frameTellsUptoCard

/-- THE SECOND FORM's CARD OF 'sheaferlaw14.FrameMay'. -/
def frameMayUptoCard : Claim7 := { stood := { row := frameMayUptoRow, standIns := [], harness := (true, "85155ceaee69666358b32dc3f1cc567f5a98ea180c31635cc7b845fb9d52d52d"), looks := true }, kinds := [], alts := [], laidByText := true, laidKinds := [.data, .data, .data, .data, .data], laidTests := true, laidLooks := .later }
def FrameMayUptoCardSaid : Prop := Claim7.holds Tryz.pinned (.plain (OpenSpec.upto frameMaySpec)) frameMayUptoCard

/-- THE SECOND FORM's CARD OF 'sheaferlaw14.FrameKeeps'. -/
def frameKeepsUptoCard : Claim7 := { stood := { row := frameKeepsUptoRow, standIns := [], harness := (true, "85155ceaee69666358b32dc3f1cc567f5a98ea180c31635cc7b845fb9d52d52d"), looks := true }, kinds := [], alts := [], laidByText := true, laidKinds := [.data, .data, .data, .data, .data], laidTests := true, laidLooks := .later }
def FrameKeepsUptoCardSaid : Prop := Claim7.holds Tryz.pinned (.plain (OpenSpec.upto frameKeepsSpec)) frameKeepsUptoCard
end Rows
end Go.Proofs.YtdeggbkbblfpoaaGreatDoor
