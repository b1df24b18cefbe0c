/-
  DERIVED. GIVEN WITH THE SEED: THE CARDS: each row of YtpgdnfgjbhdbpaaGreatDoorRows.lean that lists a variable, with what it lists TIED to the program's text (the seventh form; the later family's looks); each row that meets fmt, with fmt's text TOLD by the authors' own Lean function (tested against real Go, not proved from fmt's source: count such statements apart). THE CARD IS WHAT COUNTS. Prove the row's statement (the work); the ties are given (YtpgdnfgjbhdbpaaGreatDoorTie.lean); close each card by the builder's one call (the guide's Derived/Test/ToyasCard.lean, 'card_holds'). Laid BY PROGRAM, IN A SANDBOX (cutbox-door.mjs). By AI agents, Wed Nov 11 2026. No macro, syntax, notation, axiom, sorry.
-/
import Derived.Test.YtpgdnfgjbhdbpaaGreatDoorRows
import GoSem.ClaimSeven
namespace Go.Proofs.YtpgdnfgjbhdbpaaGreatDoor
namespace Rows

/-- THE TIED CARD OF 'sheaferlaw15.CallEnds'. -/
def callEndsCard : Claim7 := { stood := { row := callEndsRow, standIns := [], harness := (true, "cb0b05643449fadf05f467084421fe6559d494f734089b4a2525a28f815a4f5a"), looks := true }, kinds := [], alts := [], laidByText := true, laidKinds := [.data, .data, .data, .data, .data], laidTests := true, laidLooks := .later }
def CallEndsCardSaid : Prop := Claim7.holds Tryz.pinned (.plain (OpenSpec.ofChange callEndsSpec)) callEndsCard

/-- THE TIED CARD OF 'sheaferlaw15.CallStarts'. -/
def callStartsCard : Claim7 := { stood := { row := callStartsRow, standIns := [], harness := (true, "cb0b05643449fadf05f467084421fe6559d494f734089b4a2525a28f815a4f5a"), looks := true }, kinds := [], alts := [], laidByText := true, laidKinds := [.data, .data, .data, .data, .data], laidTests := true, laidLooks := .later }
def CallStartsCardSaid : Prop := Claim7.holds Tryz.pinned (.plain (OpenSpec.ofChange callStartsSpec)) callStartsCard

/-- THE TIED CARD OF 'sheaferlaw15.CallBegins'. -/
def callBeginsCard : Claim7 := { stood := { row := callBeginsRow, standIns := [], harness := (true, "cb0b05643449fadf05f467084421fe6559d494f734089b4a2525a28f815a4f5a"), looks := true }, kinds := [], alts := [], laidByText := true, laidKinds := [.data, .data, .data, .data, .data], laidTests := true, laidLooks := .later }
def CallBeginsCardSaid : Prop := Claim7.holds Tryz.pinned (.plain (OpenSpec.ofChange callBeginsSpec)) callBeginsCard

/-- THE TIED CARD OF 'sheaferlaw15.CallBack'. -/
def callBackCard : Claim7 := { stood := { row := callBackRow, standIns := [], harness := (true, "cb0b05643449fadf05f467084421fe6559d494f734089b4a2525a28f815a4f5a"), looks := true }, kinds := [], alts := [], laidByText := true, laidKinds := [.data, .data, .data, .data, .data], laidTests := true, laidLooks := .later }
def CallBackCardSaid : Prop := Claim7.holds Tryz.pinned (.plain (OpenSpec.ofChange callBackSpec)) callBackCard

/-- THE TIED CARD OF 'sheaferlaw15.CallGas'. -/
def callGasCard : Claim7 := { stood := { row := callGasRow, standIns := [], harness := (true, "cb0b05643449fadf05f467084421fe6559d494f734089b4a2525a28f815a4f5a"), looks := true }, kinds := [], alts := [], laidByText := true, laidKinds := [.data, .data, .data, .data, .data], laidTests := true, laidLooks := .later }
def CallGasCardSaid : Prop := Claim7.holds Tryz.pinned (.plain (OpenSpec.ofChange callGasSpec)) callGasCard

/-- THE TIED CARD OF 'sheaferlaw15.CallWho'. -/
def callWhoCard : Claim7 := { stood := { row := callWhoRow, standIns := [], harness := (true, "cb0b05643449fadf05f467084421fe6559d494f734089b4a2525a28f815a4f5a"), looks := true }, kinds := [], alts := [], laidByText := true, laidKinds := [.data, .data, .data, .data, .data], laidTests := true, laidLooks := .later }
def CallWhoCardSaid : Prop := Claim7.holds Tryz.pinned (.plain (OpenSpec.ofChange callWhoSpec)) callWhoCard

/-- THE SECOND FORM's CARD OF 'sheaferlaw15.CallEnds'. -/
def callEndsUptoCard : Claim7 := { stood := { row := callEndsUptoRow, standIns := [], harness := (true, "cb0b05643449fadf05f467084421fe6559d494f734089b4a2525a28f815a4f5a"), looks := true }, kinds := [], alts := [], laidByText := true, laidKinds := [.data, .data, .data, .data, .data], laidTests := true, laidLooks := .later }
def CallEndsUptoCardSaid : Prop := Claim7.holds Tryz.pinned (.plain (OpenSpec.upto callEndsSpec)) callEndsUptoCard

/-- THE SECOND FORM's CARD OF 'sheaferlaw15.CallStarts'. -/
def callStartsUptoCard : Claim7 := { stood := { row := callStartsUptoRow, standIns := [], harness := (true, "cb0b05643449fadf05f467084421fe6559d494f734089b4a2525a28f815a4f5a"), looks := true }, kinds := [], alts := [], laidByText := true, laidKinds := [.data, .data, .data, .data, .data], laidTests := true, laidLooks := .later }
def CallStartsUptoCardSaid : Prop := Claim7.holds Tryz.pinned (.plain (OpenSpec.upto callStartsSpec)) callStartsUptoCard

/-- THE SECOND FORM's CARD OF 'sheaferlaw15.CallBegins'. -/
def callBeginsUptoCard : Claim7 := { stood := { row := callBeginsUptoRow, standIns := [], harness := (true, "cb0b05643449fadf05f467084421fe6559d494f734089b4a2525a28f815a4f5a"), looks := true }, kinds := [], alts := [], laidByText := true, laidKinds := [.data, .data, .data, .data, .data], laidTests := true, laidLooks := .later }
def CallBeginsUptoCardSaid : Prop := Claim7.holds Tryz.pinned (.plain (OpenSpec.upto callBeginsSpec)) callBeginsUptoCard

/-- THE SECOND FORM's CARD OF 'sheaferlaw15.CallBack'. -/
def callBackUptoCard : Claim7 := { stood := { row := callBackUptoRow, standIns := [], harness := (true, "cb0b05643449fadf05f467084421fe6559d494f734089b4a2525a28f815a4f5a"), looks := true }, kinds := [], alts := [], laidByText := true, laidKinds := [.data, .data, .data, .data, .data], laidTests := true, laidLooks := .later }
def CallBackUptoCardSaid : Prop := Claim7.holds Tryz.pinned (.plain (OpenSpec.upto callBackSpec)) callBackUptoCard

/-- THE SECOND FORM's CARD OF 'sheaferlaw15.CallGas'. -/
def callGasUptoCard : Claim7 := { stood := { row := callGasUptoRow, standIns := [], harness := (true, "cb0b05643449fadf05f467084421fe6559d494f734089b4a2525a28f815a4f5a"), looks := true }, kinds := [], alts := [], laidByText := true, laidKinds := [.data, .data, .data, .data, .data], laidTests := true, laidLooks := .later }
def CallGasUptoCardSaid : Prop := Claim7.holds Tryz.pinned (.plain (OpenSpec.upto callGasSpec)) callGasUptoCard

/-- THE SECOND FORM's CARD OF 'sheaferlaw15.CallWho'. -/
def callWhoUptoCard : Claim7 := { stood := { row := callWhoUptoRow, standIns := [], harness := (true, "cb0b05643449fadf05f467084421fe6559d494f734089b4a2525a28f815a4f5a"), looks := true }, kinds := [], alts := [], laidByText := true, laidKinds := [.data, .data, .data, .data, .data], laidTests := true, laidLooks := .later }
def CallWhoUptoCardSaid : Prop := Claim7.holds Tryz.pinned (.plain (OpenSpec.upto callWhoSpec)) callWhoUptoCard
end Rows
end Go.Proofs.YtpgdnfgjbhdbpaaGreatDoor
