/-
  DERIVED. GIVEN WITH THE SEED: THE CARDS: each row of YtiiploicaimnpaaGreatDoorRows.lean that lists a variable, with what it lists TIED to the program's text (the seventh form; the later family's looks); each row that meets fmt, with fmt's text TOLD by the authors' own Lean function (tested against real Go, not proved from fmt's source: count such statements apart). THE CARD IS WHAT COUNTS. Prove the row's statement (the work); the ties are given (YtiiploicaimnpaaGreatDoorTie.lean); close each card by the builder's one call (the guide's Derived/Test/ToyasCard.lean, 'card_holds'). Laid BY PROGRAM, IN A SANDBOX (cutbox-door.mjs). By AI agents, Wed Nov 11 2026. No macro, syntax, notation, axiom, sorry.
-/
import Derived.Test.YtiiploicaimnpaaGreatDoorRows
import GoSem.ClaimSeven
namespace Go.Proofs.YtiiploicaimnpaaGreatDoor
namespace Rows

/-- THE TIED CARD OF 'abutmentlaw22.HeadParses'. -/
def headParsesCard : Claim7 := { stood := { row := headParsesRow, standIns := [], harness := (true, "e1a6280afdfb84766e2685361d129a5553636da21883617c3053b39936af3821"), looks := true }, kinds := [], alts := [], laidByText := true, laidKinds := [.data, .pinned], laidTests := true, laidLooks := .later }
def HeadParsesCardSaid : Prop := Claim7.holds Tryz.pinned (.plain (OpenSpec.ofChange headParsesSpec)) headParsesCard

/-- THE TIED CARD OF 'abutmentlaw22.HeadFeeds'. -/
def headFeedsCard : Claim7 := { stood := { row := headFeedsRow, standIns := [], harness := (true, "e1a6280afdfb84766e2685361d129a5553636da21883617c3053b39936af3821"), looks := true }, kinds := [], alts := [], laidByText := true, laidKinds := [.data, .pinned], laidTests := true, laidLooks := .later }
def HeadFeedsCardSaid : Prop := Claim7.holds Tryz.pinned (.plain (OpenSpec.ofChange headFeedsSpec)) headFeedsCard

/-- THE TIED CARD OF 'abutmentlaw22.HeadPrints'. -/
def headPrintsCard : Claim7 := { stood := { row := headPrintsRow, standIns := [], harness := (true, "e1a6280afdfb84766e2685361d129a5553636da21883617c3053b39936af3821"), looks := true }, kinds := [], alts := [], laidByText := true, laidKinds := [.data, .pinned], laidTests := true, laidLooks := .later }
def HeadPrintsCardSaid : Prop := Claim7.holds Tryz.pinned (.plain (OpenSpec.ofChange headPrintsSpec)) headPrintsCard

/-- THE TIED CARD OF 'abutmentlaw22.HeadBack'. -/
def headBackCard : Claim7 := { stood := { row := headBackRow, standIns := [], harness := (true, "e1a6280afdfb84766e2685361d129a5553636da21883617c3053b39936af3821"), looks := true }, kinds := [], alts := [], laidByText := true, laidKinds := [.data, .pinned], laidTests := true, laidLooks := .later }
def HeadBackCardSaid : Prop := Claim7.holds Tryz.pinned (.plain (OpenSpec.ofChange headBackSpec)) headBackCard

/-- THE TIED CARD OF 'abutmentlaw25.EncodeBack'. -/
def encodeBackCard : Claim7 := { stood := { row := encodeBackRow, standIns := [], harness := (true, "e1a6280afdfb84766e2685361d129a5553636da21883617c3053b39936af3821"), looks := true }, kinds := [], alts := [], laidByText := true, laidKinds := [.data, .pinned], laidTests := true, laidLooks := .later }
def EncodeBackCardSaid : Prop := Claim7.holds Tryz.pinned (.plain (OpenSpec.ofChange encodeBackSpec)) encodeBackCard

/-- THE SECOND FORM's CARD OF 'abutmentlaw22.HeadParses'. -/
def headParsesUptoCard : Claim7 := { stood := { row := headParsesUptoRow, standIns := [], harness := (true, "e1a6280afdfb84766e2685361d129a5553636da21883617c3053b39936af3821"), looks := true }, kinds := [], alts := [], laidByText := true, laidKinds := [.data, .pinned], laidTests := true, laidLooks := .later }
def HeadParsesUptoCardSaid : Prop := Claim7.holds Tryz.pinned (.plain (OpenSpec.upto headParsesSpec)) headParsesUptoCard

/-- THE SECOND FORM's CARD OF 'abutmentlaw22.HeadFeeds'. -/
def headFeedsUptoCard : Claim7 := { stood := { row := headFeedsUptoRow, standIns := [], harness := (true, "e1a6280afdfb84766e2685361d129a5553636da21883617c3053b39936af3821"), looks := true }, kinds := [], alts := [], laidByText := true, laidKinds := [.data, .pinned], laidTests := true, laidLooks := .later }
def HeadFeedsUptoCardSaid : Prop := Claim7.holds Tryz.pinned (.plain (OpenSpec.upto headFeedsSpec)) headFeedsUptoCard

/-- THE SECOND FORM's CARD OF 'abutmentlaw22.HeadPrints'. -/
def headPrintsUptoCard : Claim7 := { stood := { row := headPrintsUptoRow, standIns := [], harness := (true, "e1a6280afdfb84766e2685361d129a5553636da21883617c3053b39936af3821"), looks := true }, kinds := [], alts := [], laidByText := true, laidKinds := [.data, .pinned], laidTests := true, laidLooks := .later }
def HeadPrintsUptoCardSaid : Prop := Claim7.holds Tryz.pinned (.plain (OpenSpec.upto headPrintsSpec)) headPrintsUptoCard

/-- THE SECOND FORM's CARD OF 'abutmentlaw22.HeadBack'. -/
def headBackUptoCard : Claim7 := { stood := { row := headBackUptoRow, standIns := [], harness := (true, "e1a6280afdfb84766e2685361d129a5553636da21883617c3053b39936af3821"), looks := true }, kinds := [], alts := [], laidByText := true, laidKinds := [.data, .pinned], laidTests := true, laidLooks := .later }
def HeadBackUptoCardSaid : Prop := Claim7.holds Tryz.pinned (.plain (OpenSpec.upto headBackSpec)) headBackUptoCard

/-- THE SECOND FORM's CARD OF 'abutmentlaw25.EncodeBack'. -/
def encodeBackUptoCard : Claim7 := { stood := { row := encodeBackUptoRow, standIns := [], harness := (true, "e1a6280afdfb84766e2685361d129a5553636da21883617c3053b39936af3821"), looks := true }, kinds := [], alts := [], laidByText := true, laidKinds := [.data, .pinned], laidTests := true, laidLooks := .later }
def EncodeBackUptoCardSaid : Prop := Claim7.holds Tryz.pinned (.plain (OpenSpec.upto encodeBackSpec)) encodeBackUptoCard
end Rows
end Go.Proofs.YtiiploicaimnpaaGreatDoor
