/-
  DERIVED. GIVEN WITH THE SEED: THE CARDS: each row of YthhalnmbfokbbaaDoorRows.lean that lists a variable, with what it lists TIED to the program's text (the seventh form; the later family's looks); each row that meets fmt, with fmt's text TOLD by the authors' own Lean function (tested against real Go, not proved from fmt's source: count such statements apart). THE CARD IS WHAT COUNTS. Prove the row's statement (the work); the ties are given (YthhalnmbfokbbaaDoorTie.lean); close each card by the builder's one call (the guide's Derived/Test/ToyasCard.lean, 'card_holds'). Laid BY PROGRAM, IN A SANDBOX (cutbox-door.mjs). By AI agents, Wed Nov 11 2026. No macro, syntax, notation, axiom, sorry.
-/
import Derived.Test.YthhalnmbfokbbaaDoorRows
import GoSem.ClaimSeven
namespace Go.Proofs.YthhalnmbfokbbaaDoor
namespace Rows

/-- THE TIED CARD OF 'sheaferlaw12.GasBases'. -/
def gasBasesCard : Claim7 := { stood := { row := gasBasesRow, standIns := [], harness := (true, "4c8937c1190b4f316e3ed80e62265fad8af20054f9ff4cb869a0548bba8b7da9"), looks := false }, kinds := [], alts := [], laidByText := true, laidKinds := [.data, .data, .data], laidTests := true, laidLooks := .later }
def GasBasesCardSaid : Prop := Claim7.holds Tryd.pinned (.plain (OpenSpec.ofChange gasBasesSpec)) gasBasesCard

/-- THE TIED CARD OF 'sheaferlaw12.GasSpends'. -/
def gasSpendsCard : Claim7 := { stood := { row := gasSpendsRow, standIns := [], harness := (true, "4c8937c1190b4f316e3ed80e62265fad8af20054f9ff4cb869a0548bba8b7da9"), looks := false }, kinds := [], alts := [], laidByText := true, laidKinds := [.data, .data, .data], laidTests := true, laidLooks := .later }
def GasSpendsCardSaid : Prop := Claim7.holds Tryd.pinned (.plain (OpenSpec.ofChange gasSpendsSpec)) gasSpendsCard

/-- THE TIED CARD OF 'sheaferlaw12.GasGrows'. -/
def gasGrowsCard : Claim7 := { stood := { row := gasGrowsRow, standIns := [], harness := (true, "4c8937c1190b4f316e3ed80e62265fad8af20054f9ff4cb869a0548bba8b7da9"), looks := false }, kinds := [], alts := [], laidByText := true, laidKinds := [.data, .data, .data], laidTests := true, laidLooks := .later }
def GasGrowsCardSaid : Prop := Claim7.holds Tryd.pinned (.plain (OpenSpec.ofChange gasGrowsSpec)) gasGrowsCard

/-- THE TIED CARD OF 'sheaferlaw12.GasTogether'. -/
def gasTogetherCard : Claim7 := { stood := { row := gasTogetherRow, standIns := [], harness := (true, "4c8937c1190b4f316e3ed80e62265fad8af20054f9ff4cb869a0548bba8b7da9"), looks := false }, kinds := [], alts := [], laidByText := true, laidKinds := [.data, .data, .data], laidTests := true, laidLooks := .later }
def GasTogetherCardSaid : Prop := Claim7.holds Tryd.pinned (.plain (OpenSpec.ofChange gasTogetherSpec)) gasTogetherCard

/-- THE TIED CARD OF 'sheaferlaw12.GasLent'. -/
def gasLentCard : Claim7 := { stood := { row := gasLentRow, standIns := [], harness := (true, "4c8937c1190b4f316e3ed80e62265fad8af20054f9ff4cb869a0548bba8b7da9"), looks := false }, kinds := [], alts := [], laidByText := true, laidKinds := [.data, .data, .data], laidTests := true, laidLooks := .later }
def GasLentCardSaid : Prop := Claim7.holds Tryd.pinned (.plain (OpenSpec.ofChange gasLentSpec)) gasLentCard

/-- THE TIED CARD OF 'sheaferlaw12.GasSlots'. -/
def gasSlotsCard : Claim7 := { stood := { row := gasSlotsRow, standIns := [], harness := (true, "4c8937c1190b4f316e3ed80e62265fad8af20054f9ff4cb869a0548bba8b7da9"), looks := false }, kinds := [], alts := [], laidByText := true, laidKinds := [.data, .data, .data], laidTests := true, laidLooks := .later }
def GasSlotsCardSaid : Prop := Claim7.holds Tryd.pinned (.plain (OpenSpec.ofChange gasSlotsSpec)) gasSlotsCard

/-- THE TIED CARD OF 'sheaferlaw12.GasReaches'. -/
def gasReachesCard : Claim7 := { stood := { row := gasReachesRow, standIns := [], harness := (true, "4c8937c1190b4f316e3ed80e62265fad8af20054f9ff4cb869a0548bba8b7da9"), looks := false }, kinds := [], alts := [], laidByText := true, laidKinds := [.data, .data, .data], laidTests := true, laidLooks := .later }
def GasReachesCardSaid : Prop := Claim7.holds Tryd.pinned (.plain (OpenSpec.ofChange gasReachesSpec)) gasReachesCard

/-- THE TIED CARD OF 'sheaferlaw12.GasBytes'. -/
def gasBytesCard : Claim7 := { stood := { row := gasBytesRow, standIns := [], harness := (true, "4c8937c1190b4f316e3ed80e62265fad8af20054f9ff4cb869a0548bba8b7da9"), looks := false }, kinds := [], alts := [], laidByText := true, laidKinds := [.data, .data, .data], laidTests := true, laidLooks := .later }
def GasBytesCardSaid : Prop := Claim7.holds Tryd.pinned (.plain (OpenSpec.ofChange gasBytesSpec)) gasBytesCard

/-- THE SECOND FORM's CARD OF 'sheaferlaw12.GasBases'. -/
def gasBasesUptoCard : Claim7 := { stood := { row := gasBasesUptoRow, standIns := [], harness := (true, "4c8937c1190b4f316e3ed80e62265fad8af20054f9ff4cb869a0548bba8b7da9"), looks := false }, kinds := [], alts := [], laidByText := true, laidKinds := [.data, .data, .data], laidTests := true, laidLooks := .later }
def GasBasesUptoCardSaid : Prop := Claim7.holds Tryd.pinned (.plain (OpenSpec.upto gasBasesSpec)) gasBasesUptoCard

/-- THE SECOND FORM's CARD OF 'sheaferlaw12.GasSpends'. -/
def gasSpendsUptoCard : Claim7 := { stood := { row := gasSpendsUptoRow, standIns := [], harness := (true, "4c8937c1190b4f316e3ed80e62265fad8af20054f9ff4cb869a0548bba8b7da9"), looks := false }, kinds := [], alts := [], laidByText := true, laidKinds := [.data, .data, .data], laidTests := true, laidLooks := .later }
def GasSpendsUptoCardSaid : Prop := Claim7.holds Tryd.pinned (.plain (OpenSpec.upto gasSpendsSpec)) gasSpendsUptoCard

/-- THE SECOND FORM's CARD OF 'sheaferlaw12.GasGrows'. -/
def gasGrowsUptoCard : Claim7 := { stood := { row := gasGrowsUptoRow, standIns := [], harness := (true, "4c8937c1190b4f316e3ed80e62265fad8af20054f9ff4cb869a0548bba8b7da9"), looks := false }, kinds := [], alts := [], laidByText := true, laidKinds := [.data, .data, .data], laidTests := true, laidLooks := .later }
def GasGrowsUptoCardSaid : Prop := Claim7.holds Tryd.pinned (.plain (OpenSpec.upto gasGrowsSpec)) gasGrowsUptoCard

/-- THE SECOND FORM's CARD OF 'sheaferlaw12.GasTogether'. -/
def gasTogetherUptoCard : Claim7 := { stood := { row := gasTogetherUptoRow, standIns := [], harness := (true, "4c8937c1190b4f316e3ed80e62265fad8af20054f9ff4cb869a0548bba8b7da9"), looks := false }, kinds := [], alts := [], laidByText := true, laidKinds := [.data, .data, .data], laidTests := true, laidLooks := .later }
def GasTogetherUptoCardSaid : Prop := Claim7.holds Tryd.pinned (.plain (OpenSpec.upto gasTogetherSpec)) gasTogetherUptoCard

/-- THE SECOND FORM's CARD OF 'sheaferlaw12.GasLent'. -/
def gasLentUptoCard : Claim7 := { stood := { row := gasLentUptoRow, standIns := [], harness := (true, "4c8937c1190b4f316e3ed80e62265fad8af20054f9ff4cb869a0548bba8b7da9"), looks := false }, kinds := [], alts := [], laidByText := true, laidKinds := [.data, .data, .data], laidTests := true, laidLooks := .later }
def GasLentUptoCardSaid : Prop := Claim7.holds Tryd.pinned (.plain (OpenSpec.upto gasLentSpec)) gasLentUptoCard

/-- THE SECOND FORM's CARD OF 'sheaferlaw12.GasSlots'. -/
def gasSlotsUptoCard : Claim7 := { stood := { row := gasSlotsUptoRow, standIns := [], harness := (true, "4c8937c1190b4f316e3ed80e62265fad8af20054f9ff4cb869a0548bba8b7da9"), looks := false }, kinds := [], alts := [], laidByText := true, laidKinds := [.data, .data, .data], laidTests := true, laidLooks := .later }
def GasSlotsUptoCardSaid : Prop := Claim7.holds Tryd.pinned (.plain (OpenSpec.upto gasSlotsSpec)) gasSlotsUptoCard

/-- THE SECOND FORM's CARD OF 'sheaferlaw12.GasReaches'. -/
def gasReachesUptoCard : Claim7 := { stood := { row := gasReachesUptoRow, standIns := [], harness := (true, "4c8937c1190b4f316e3ed80e62265fad8af20054f9ff4cb869a0548bba8b7da9"), looks := false }, kinds := [], alts := [], laidByText := true, laidKinds := [.data, .data, .data], laidTests := true, laidLooks := .later }
def GasReachesUptoCardSaid : Prop := Claim7.holds Tryd.pinned (.plain (OpenSpec.upto gasReachesSpec)) gasReachesUptoCard

/-- THE SECOND FORM's CARD OF 'sheaferlaw12.GasBytes'. -/
def gasBytesUptoCard : Claim7 := { stood := { row := gasBytesUptoRow, standIns := [], harness := (true, "4c8937c1190b4f316e3ed80e62265fad8af20054f9ff4cb869a0548bba8b7da9"), looks := false }, kinds := [], alts := [], laidByText := true, laidKinds := [.data, .data, .data], laidTests := true, laidLooks := .later }
def GasBytesUptoCardSaid : Prop := Claim7.holds Tryd.pinned (.plain (OpenSpec.upto gasBytesSpec)) gasBytesUptoCard
end Rows
end Go.Proofs.YthhalnmbfokbbaaDoor
