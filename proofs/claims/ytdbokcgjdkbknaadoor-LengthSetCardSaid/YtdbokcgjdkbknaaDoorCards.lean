/-
  DERIVED. GIVEN WITH THE SEED: THE CARDS: each row of YtdbokcgjdkbknaaDoorRows.lean that lists a variable, with what it lists TIED to the program's text (the seventh form; the later family's looks); each row that meets fmt, with fmt's text TOLD by the authors' own Lean function (tested against real Go, not proved from fmt's source: count such statements apart). THE CARD IS WHAT COUNTS. Prove the row's statement (the work); the ties are given (YtdbokcgjdkbknaaDoorTie.lean); close each card by the builder's one call (the guide's Derived/Test/ToyasCard.lean, 'card_holds'). Laid BY PROGRAM, IN A SANDBOX (cutbox-door.mjs). By AI agents, Wed Nov 11 2026. No macro, syntax, notation, axiom, sorry.
-/
import Derived.Test.YtdbokcgjdkbknaaDoorRows
import GoSem.ClaimSeven
namespace Go.Proofs.YtdbokcgjdkbknaaDoor
namespace Rows

/-- THE TIED CARD OF 'abutmentlaw18.LengthOf'. -/
def lengthOfCard : Claim7 := { stood := { row := lengthOfRow, standIns := [], harness := (true, "9e3af84d77c524b3a4d49e483d3323b1938b9aaa06d1fc930330630a32114873"), looks := false }, kinds := [], alts := [], laidByText := true, laidKinds := [.data, .pinned], laidTests := true, laidLooks := .later }
def LengthOfCardSaid : Prop := Claim7.holds Tryd.pinned (.plain (OpenSpec.ofChange lengthOfSpec)) lengthOfCard

/-- THE TIED CARD OF 'abutmentlaw18.LengthSet'. -/
def lengthSetCard : Claim7 := { stood := { row := lengthSetRow, standIns := [], harness := (true, "9e3af84d77c524b3a4d49e483d3323b1938b9aaa06d1fc930330630a32114873"), looks := false }, kinds := [], alts := [], laidByText := true, laidKinds := [.data, .pinned], laidTests := true, laidLooks := .later }
def LengthSetCardSaid : Prop := Claim7.holds Tryd.pinned (.plain (OpenSpec.ofChange lengthSetSpec)) lengthSetCard

/-- THE TIED CARD OF 'abutmentlaw15.StartRequests'. -/
def startRequestsCard : Claim7 := { stood := { row := startRequestsRow, standIns := [], harness := (true, "9e3af84d77c524b3a4d49e483d3323b1938b9aaa06d1fc930330630a32114873"), looks := false }, kinds := [], alts := [], laidByText := true, laidKinds := [.data, .pinned], laidTests := true, laidLooks := .later }
def StartRequestsCardSaid : Prop := Claim7.holds Tryd.pinned (.plain (OpenSpec.ofChange startRequestsSpec)) startRequestsCard

/-- THE TIED CARD OF 'abutmentlaw15.StartStatuses'. -/
def startStatusesCard : Claim7 := { stood := { row := startStatusesRow, standIns := [], harness := (true, "9e3af84d77c524b3a4d49e483d3323b1938b9aaa06d1fc930330630a32114873"), looks := false }, kinds := [], alts := [], laidByText := true, laidKinds := [.data, .pinned], laidTests := true, laidLooks := .later }
def StartStatusesCardSaid : Prop := Claim7.holds Tryd.pinned (.plain (OpenSpec.ofChange startStatusesSpec)) startStatusesCard

/-- THE TIED CARD OF 'abutmentlaw15.StartLines'. -/
def startLinesCard : Claim7 := { stood := { row := startLinesRow, standIns := [], harness := (true, "9e3af84d77c524b3a4d49e483d3323b1938b9aaa06d1fc930330630a32114873"), looks := false }, kinds := [], alts := [], laidByText := true, laidKinds := [.data, .pinned], laidTests := true, laidLooks := .later }
def StartLinesCardSaid : Prop := Claim7.holds Tryd.pinned (.plain (OpenSpec.ofChange startLinesSpec)) startLinesCard

/-- THE TIED CARD OF 'abutmentlaw15.StartBack'. -/
def startBackCard : Claim7 := { stood := { row := startBackRow, standIns := [], harness := (true, "9e3af84d77c524b3a4d49e483d3323b1938b9aaa06d1fc930330630a32114873"), looks := false }, kinds := [], alts := [], laidByText := true, laidKinds := [.data, .pinned], laidTests := true, laidLooks := .later }
def StartBackCardSaid : Prop := Claim7.holds Tryd.pinned (.plain (OpenSpec.ofChange startBackSpec)) startBackCard

/-- THE SECOND FORM's CARD OF 'abutmentlaw18.LengthOf'. -/
def lengthOfUptoCard : Claim7 := { stood := { row := lengthOfUptoRow, standIns := [], harness := (true, "9e3af84d77c524b3a4d49e483d3323b1938b9aaa06d1fc930330630a32114873"), looks := false }, kinds := [], alts := [], laidByText := true, laidKinds := [.data, .pinned], laidTests := true, laidLooks := .later }
def LengthOfUptoCardSaid : Prop := Claim7.holds Tryd.pinned (.plain (OpenSpec.upto lengthOfSpec)) lengthOfUptoCard

/-- THE SECOND FORM's CARD OF 'abutmentlaw18.LengthSet'. -/
def lengthSetUptoCard : Claim7 := { stood := { row := lengthSetUptoRow, standIns := [], harness := (true, "9e3af84d77c524b3a4d49e483d3323b1938b9aaa06d1fc930330630a32114873"), looks := false }, kinds := [], alts := [], laidByText := true, laidKinds := [.data, .pinned], laidTests := true, laidLooks := .later }
def LengthSetUptoCardSaid : Prop := Claim7.holds Tryd.pinned (.plain (OpenSpec.upto lengthSetSpec)) lengthSetUptoCard

/-- THE SECOND FORM's CARD OF 'abutmentlaw15.StartRequests'. -/
def startRequestsUptoCard : Claim7 := { stood := { row := startRequestsUptoRow, standIns := [], harness := (true, "9e3af84d77c524b3a4d49e483d3323b1938b9aaa06d1fc930330630a32114873"), looks := false }, kinds := [], alts := [], laidByText := true, laidKinds := [.data, .pinned], laidTests := true, laidLooks := .later }
def StartRequestsUptoCardSaid : Prop := Claim7.holds Tryd.pinned (.plain (OpenSpec.upto startRequestsSpec)) startRequestsUptoCard

/-- THE SECOND FORM's CARD OF 'abutmentlaw15.StartStatuses'. -/
def startStatusesUptoCard : Claim7 := { stood := { row := startStatusesUptoRow, standIns := [], harness := (true, "9e3af84d77c524b3a4d49e483d3323b1938b9aaa06d1fc930330630a32114873"), looks := false }, kinds := [], alts := [], laidByText := true, laidKinds := [.data, .pinned], laidTests := true, laidLooks := .later }
def StartStatusesUptoCardSaid : Prop := Claim7.holds Tryd.pinned (.plain (OpenSpec.upto startStatusesSpec)) startStatusesUptoCard

/-- THE SECOND FORM's CARD OF 'abutmentlaw15.StartLines'. -/
def startLinesUptoCard : Claim7 := { stood := { row := startLinesUptoRow, standIns := [], harness := (true, "9e3af84d77c524b3a4d49e483d3323b1938b9aaa06d1fc930330630a32114873"), looks := false }, kinds := [], alts := [], laidByText := true, laidKinds := [.data, .pinned], laidTests := true, laidLooks := .later }
def StartLinesUptoCardSaid : Prop := Claim7.holds Tryd.pinned (.plain (OpenSpec.upto startLinesSpec)) startLinesUptoCard

/-- THE SECOND FORM's CARD OF 'abutmentlaw15.StartBack'. -/
def startBackUptoCard : Claim7 := { stood := { row := startBackUptoRow, standIns := [], harness := (true, "9e3af84d77c524b3a4d49e483d3323b1938b9aaa06d1fc930330630a32114873"), looks := false }, kinds := [], alts := [], laidByText := true, laidKinds := [.data, .pinned], laidTests := true, laidLooks := .later }
def StartBackUptoCardSaid : Prop := Claim7.holds Tryd.pinned (.plain (OpenSpec.upto startBackSpec)) startBackUptoCard
end Rows
end Go.Proofs.YtdbokcgjdkbknaaDoor
