/-
  DERIVED. GIVEN WITH THE SEED: THE CARDS: each row of YtpjomdmjohjheaaGreatDoorRows.lean that lists a variable, with what it lists TIED to the program's text (the seventh form; the later family's looks); each row that meets fmt, with fmt's text TOLD by the authors' own Lean function (tested against real Go, not proved from fmt's source: count such statements apart). THE CARD IS WHAT COUNTS. Prove the row's statement (the work); the ties are given (YtpjomdmjohjheaaGreatDoorTie.lean); close each card by the builder's one call (the guide's Derived/Test/ToyasCard.lean, 'card_holds'). Laid BY PROGRAM, IN A SANDBOX (cutbox-door.mjs). By AI agents, Wed Nov 11 2026. No macro, syntax, notation, axiom, sorry.
-/
import Derived.Test.YtpjomdmjohjheaaGreatDoorRows
import GoSem.ClaimSeven
namespace Go.Proofs.YtpjomdmjohjheaaGreatDoor
namespace Rows

/-- THE TIED CARD OF 'landmarklaw05.LogBytes'. -/
def logBytesCard : Claim7 := { stood := { row := logBytesRow, standIns := [], harness := (true, "f118c778855e43a087fd25a4a69cbf3a62aa6856edde39ff4fc2c3de92a43efe"), looks := true }, kinds := [], alts := [], laidByText := true, laidKinds := [.data, .data, .data, .sentinel, .sentinel], laidTests := true, laidLooks := .later }
def LogBytesCardSaid : Prop := Claim7.holds Tryz.pinned (.plain (OpenSpec.ofChange logBytesSpec)) logBytesCard

/-- THE TIED CARD OF 'landmarklaw05.LogNumbers'. -/
def logNumbersCard : Claim7 := { stood := { row := logNumbersRow, standIns := [], harness := (true, "f118c778855e43a087fd25a4a69cbf3a62aa6856edde39ff4fc2c3de92a43efe"), looks := true }, kinds := [], alts := [], laidByText := true, laidKinds := [.data, .data, .data, .sentinel, .sentinel], laidTests := true, laidLooks := .later }
def LogNumbersCardSaid : Prop := Claim7.holds Tryz.pinned (.plain (OpenSpec.ofChange logNumbersSpec)) logNumbersCard

/-- THE TIED CARD OF 'landmarklaw05.LogTurned'. -/
def logTurnedCard : Claim7 := { stood := { row := logTurnedRow, standIns := [], harness := (true, "f118c778855e43a087fd25a4a69cbf3a62aa6856edde39ff4fc2c3de92a43efe"), looks := true }, kinds := [], alts := [], laidByText := true, laidKinds := [.data, .data, .data, .sentinel, .sentinel], laidTests := true, laidLooks := .later }
def LogTurnedCardSaid : Prop := Claim7.holds Tryz.pinned (.plain (OpenSpec.ofChange logTurnedSpec)) logTurnedCard

/-- THE TIED CARD OF 'landmarklaw05.LogSplits'. -/
def logSplitsCard : Claim7 := { stood := { row := logSplitsRow, standIns := [], harness := (true, "f118c778855e43a087fd25a4a69cbf3a62aa6856edde39ff4fc2c3de92a43efe"), looks := true }, kinds := [], alts := [], laidByText := true, laidKinds := [.data, .data, .data, .sentinel, .sentinel], laidTests := true, laidLooks := .later }
def LogSplitsCardSaid : Prop := Claim7.holds Tryz.pinned (.plain (OpenSpec.ofChange logSplitsSpec)) logSplitsCard

/-- THE TIED CARD OF 'landmarklaw05.LogFaults'. -/
def logFaultsCard : Claim7 := { stood := { row := logFaultsRow, standIns := [], harness := (true, "f118c778855e43a087fd25a4a69cbf3a62aa6856edde39ff4fc2c3de92a43efe"), looks := true }, kinds := [], alts := [], laidByText := true, laidKinds := [.data, .data, .data, .sentinel, .sentinel], laidTests := true, laidLooks := .later }
def LogFaultsCardSaid : Prop := Claim7.holds Tryz.pinned (.plain (OpenSpec.ofChange logFaultsSpec)) logFaultsCard

/-- THE TIED CARD OF 'landmarklaw05.LogBack'. -/
def logBackCard : Claim7 := { stood := { row := logBackRow, standIns := [], harness := (true, "f118c778855e43a087fd25a4a69cbf3a62aa6856edde39ff4fc2c3de92a43efe"), looks := true }, kinds := [], alts := [], laidByText := true, laidKinds := [.data, .data, .data, .sentinel, .sentinel], laidTests := true, laidLooks := .later }
def LogBackCardSaid : Prop := Claim7.holds Tryz.pinned (.plain (OpenSpec.ofChange logBackSpec)) logBackCard

/-- THE TIED CARD OF 'landmarklaw05.LogNil'. -/
def logNilCard : Claim7 := { stood := { row := logNilRow, standIns := [], harness := (true, "f118c778855e43a087fd25a4a69cbf3a62aa6856edde39ff4fc2c3de92a43efe"), looks := true }, kinds := [], alts := [], laidByText := true, laidKinds := [.data, .data, .data, .sentinel, .sentinel], laidTests := true, laidLooks := .later }
def LogNilCardSaid : Prop := Claim7.holds Tryz.pinned (.plain (OpenSpec.ofChange logNilSpec)) logNilCard

/-- THE SECOND FORM's CARD OF 'landmarklaw05.LogBytes'. -/
def logBytesUptoCard : Claim7 := { stood := { row := logBytesUptoRow, standIns := [], harness := (true, "f118c778855e43a087fd25a4a69cbf3a62aa6856edde39ff4fc2c3de92a43efe"), looks := true }, kinds := [], alts := [], laidByText := true, laidKinds := [.data, .data, .data, .sentinel, .sentinel], laidTests := true, laidLooks := .later }
def LogBytesUptoCardSaid : Prop := Claim7.holds Tryz.pinned (.plain (OpenSpec.upto logBytesSpec)) logBytesUptoCard

/-- THE SECOND FORM's CARD OF 'landmarklaw05.LogNumbers'. -/
def logNumbersUptoCard : Claim7 := { stood := { row := logNumbersUptoRow, standIns := [], harness := (true, "f118c778855e43a087fd25a4a69cbf3a62aa6856edde39ff4fc2c3de92a43efe"), looks := true }, kinds := [], alts := [], laidByText := true, laidKinds := [.data, .data, .data, .sentinel, .sentinel], laidTests := true, laidLooks := .later }
def LogNumbersUptoCardSaid : Prop := Claim7.holds Tryz.pinned (.plain (OpenSpec.upto logNumbersSpec)) logNumbersUptoCard

/-- THE SECOND FORM's CARD OF 'landmarklaw05.LogTurned'. -/
def logTurnedUptoCard : Claim7 := { stood := { row := logTurnedUptoRow, standIns := [], harness := (true, "f118c778855e43a087fd25a4a69cbf3a62aa6856edde39ff4fc2c3de92a43efe"), looks := true }, kinds := [], alts := [], laidByText := true, laidKinds := [.data, .data, .data, .sentinel, .sentinel], laidTests := true, laidLooks := .later }
def LogTurnedUptoCardSaid : Prop := Claim7.holds Tryz.pinned (.plain (OpenSpec.upto logTurnedSpec)) logTurnedUptoCard

/-- THE SECOND FORM's CARD OF 'landmarklaw05.LogSplits'. -/
def logSplitsUptoCard : Claim7 := { stood := { row := logSplitsUptoRow, standIns := [], harness := (true, "f118c778855e43a087fd25a4a69cbf3a62aa6856edde39ff4fc2c3de92a43efe"), looks := true }, kinds := [], alts := [], laidByText := true, laidKinds := [.data, .data, .data, .sentinel, .sentinel], laidTests := true, laidLooks := .later }
def LogSplitsUptoCardSaid : Prop := Claim7.holds Tryz.pinned (.plain (OpenSpec.upto logSplitsSpec)) logSplitsUptoCard

/-- THE SECOND FORM's CARD OF 'landmarklaw05.LogFaults'. -/
def logFaultsUptoCard : Claim7 := { stood := { row := logFaultsUptoRow, standIns := [], harness := (true, "f118c778855e43a087fd25a4a69cbf3a62aa6856edde39ff4fc2c3de92a43efe"), looks := true }, kinds := [], alts := [], laidByText := true, laidKinds := [.data, .data, .data, .sentinel, .sentinel], laidTests := true, laidLooks := .later }
def LogFaultsUptoCardSaid : Prop := Claim7.holds Tryz.pinned (.plain (OpenSpec.upto logFaultsSpec)) logFaultsUptoCard

/-- THE SECOND FORM's CARD OF 'landmarklaw05.LogBack'. -/
def logBackUptoCard : Claim7 := { stood := { row := logBackUptoRow, standIns := [], harness := (true, "f118c778855e43a087fd25a4a69cbf3a62aa6856edde39ff4fc2c3de92a43efe"), looks := true }, kinds := [], alts := [], laidByText := true, laidKinds := [.data, .data, .data, .sentinel, .sentinel], laidTests := true, laidLooks := .later }
def LogBackUptoCardSaid : Prop := Claim7.holds Tryz.pinned (.plain (OpenSpec.upto logBackSpec)) logBackUptoCard

/-- THE SECOND FORM's CARD OF 'landmarklaw05.LogNil'. -/
def logNilUptoCard : Claim7 := { stood := { row := logNilUptoRow, standIns := [], harness := (true, "f118c778855e43a087fd25a4a69cbf3a62aa6856edde39ff4fc2c3de92a43efe"), looks := true }, kinds := [], alts := [], laidByText := true, laidKinds := [.data, .data, .data, .sentinel, .sentinel], laidTests := true, laidLooks := .later }
def LogNilUptoCardSaid : Prop := Claim7.holds Tryz.pinned (.plain (OpenSpec.upto logNilSpec)) logNilUptoCard
end Rows
end Go.Proofs.YtpjomdmjohjheaaGreatDoor
