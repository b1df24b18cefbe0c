/-
  DERIVED. GIVEN WITH THE SEED: THE CARDS: each row of YtficnjnnhcadaaaDoorRows.lean that lists a variable, with what it lists TIED to the program's text (the seventh form; the later family's looks); each row that meets fmt, with fmt's text TOLD by the authors' own Lean function (tested against real Go, not proved from fmt's source: count such statements apart). THE CARD IS WHAT COUNTS. Prove the row's statement (the work); the ties are given (YtficnjnnhcadaaaDoorTie.lean); close each card by the builder's one call (the guide's Derived/Test/ToyasCard.lean, 'card_holds'). Laid BY PROGRAM, IN A SANDBOX (cutbox-door.mjs). By AI agents, Wed Nov 11 2026. No macro, syntax, notation, axiom, sorry.
-/
import Derived.Test.YtficnjnnhcadaaaDoorRows
import GoSem.ClaimSeven
namespace Go.Proofs.YtficnjnnhcadaaaDoor
namespace Rows

/-- THE TIED CARD OF 'sheaferlaw03.SpongeSums'. -/
def spongeSumsCard : Claim7 := { stood := { row := spongeSumsRow, standIns := [], harness := (true, "7ad812ec6ccf73526cf6184ccabeef75dd502d04cc150e17efbe9848c9f6f53e"), looks := false }, kinds := [], alts := [], laidByText := true, laidKinds := [.data, .data], laidTests := true, laidLooks := .later }
def SpongeSumsCardSaid : Prop := Claim7.holds Tryd.pinned (.plain (OpenSpec.ofChange spongeSumsSpec)) spongeSumsCard

/-- THE TIED CARD OF 'sheaferlaw03.SpongeSoaks'. -/
def spongeSoaksCard : Claim7 := { stood := { row := spongeSoaksRow, standIns := [], harness := (true, "7ad812ec6ccf73526cf6184ccabeef75dd502d04cc150e17efbe9848c9f6f53e"), looks := false }, kinds := [], alts := [], laidByText := true, laidKinds := [.data, .data], laidTests := true, laidLooks := .later }
def SpongeSoaksCardSaid : Prop := Claim7.holds Tryd.pinned (.plain (OpenSpec.ofChange spongeSoaksSpec)) spongeSoaksCard

/-- THE TIED CARD OF 'sheaferlaw03.SpongeTexts'. -/
def spongeTextsCard : Claim7 := { stood := { row := spongeTextsRow, standIns := [], harness := (true, "7ad812ec6ccf73526cf6184ccabeef75dd502d04cc150e17efbe9848c9f6f53e"), looks := false }, kinds := [], alts := [], laidByText := true, laidKinds := [.data, .data], laidTests := true, laidLooks := .later }
def SpongeTextsCardSaid : Prop := Claim7.holds Tryd.pinned (.plain (OpenSpec.ofChange spongeTextsSpec)) spongeTextsCard

/-- THE TIED CARD OF 'sheaferlaw03.SpongePads'. -/
def spongePadsCard : Claim7 := { stood := { row := spongePadsRow, standIns := [], harness := (true, "7ad812ec6ccf73526cf6184ccabeef75dd502d04cc150e17efbe9848c9f6f53e"), looks := false }, kinds := [], alts := [], laidByText := true, laidKinds := [.data, .data], laidTests := true, laidLooks := .later }
def SpongePadsCardSaid : Prop := Claim7.holds Tryd.pinned (.plain (OpenSpec.ofChange spongePadsSpec)) spongePadsCard

/-- THE SECOND FORM's CARD OF 'sheaferlaw03.SpongeSums'. -/
def spongeSumsUptoCard : Claim7 := { stood := { row := spongeSumsUptoRow, standIns := [], harness := (true, "7ad812ec6ccf73526cf6184ccabeef75dd502d04cc150e17efbe9848c9f6f53e"), looks := false }, kinds := [], alts := [], laidByText := true, laidKinds := [.data, .data], laidTests := true, laidLooks := .later }
def SpongeSumsUptoCardSaid : Prop := Claim7.holds Tryd.pinned (.plain (OpenSpec.upto spongeSumsSpec)) spongeSumsUptoCard

/-- THE SECOND FORM's CARD OF 'sheaferlaw03.SpongeSoaks'. -/
def spongeSoaksUptoCard : Claim7 := { stood := { row := spongeSoaksUptoRow, standIns := [], harness := (true, "7ad812ec6ccf73526cf6184ccabeef75dd502d04cc150e17efbe9848c9f6f53e"), looks := false }, kinds := [], alts := [], laidByText := true, laidKinds := [.data, .data], laidTests := true, laidLooks := .later }
def SpongeSoaksUptoCardSaid : Prop := Claim7.holds Tryd.pinned (.plain (OpenSpec.upto spongeSoaksSpec)) spongeSoaksUptoCard

/-- THE SECOND FORM's CARD OF 'sheaferlaw03.SpongeTexts'. -/
def spongeTextsUptoCard : Claim7 := { stood := { row := spongeTextsUptoRow, standIns := [], harness := (true, "7ad812ec6ccf73526cf6184ccabeef75dd502d04cc150e17efbe9848c9f6f53e"), looks := false }, kinds := [], alts := [], laidByText := true, laidKinds := [.data, .data], laidTests := true, laidLooks := .later }
def SpongeTextsUptoCardSaid : Prop := Claim7.holds Tryd.pinned (.plain (OpenSpec.upto spongeTextsSpec)) spongeTextsUptoCard

/-- THE SECOND FORM's CARD OF 'sheaferlaw03.SpongePads'. -/
def spongePadsUptoCard : Claim7 := { stood := { row := spongePadsUptoRow, standIns := [], harness := (true, "7ad812ec6ccf73526cf6184ccabeef75dd502d04cc150e17efbe9848c9f6f53e"), looks := false }, kinds := [], alts := [], laidByText := true, laidKinds := [.data, .data], laidTests := true, laidLooks := .later }
def SpongePadsUptoCardSaid : Prop := Claim7.holds Tryd.pinned (.plain (OpenSpec.upto spongePadsSpec)) spongePadsUptoCard
end Rows
end Go.Proofs.YtficnjnnhcadaaaDoor
