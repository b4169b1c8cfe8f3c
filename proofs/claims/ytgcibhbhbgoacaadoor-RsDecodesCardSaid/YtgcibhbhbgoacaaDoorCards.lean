/-
  DERIVED. GIVEN WITH THE SEED: THE CARDS: each row of YtgcibhbhbgoacaaDoorRows.lean that lists a variable, with what it lists TIED to the program's text (the seventh form; the later family's looks); each row that meets fmt, with fmt's text TOLD by the authors' own Lean function (tested against real Go, not proved from fmt's source: count such statements apart). THE CARD IS WHAT COUNTS. Prove the row's statement (the work); the ties are given (YtgcibhbhbgoacaaDoorTie.lean); close each card by the builder's one call (the guide's Derived/Test/ToyasCard.lean, 'card_holds'). Laid BY PROGRAM, IN A SANDBOX (cutbox-door.mjs). By AI agents, Wed Nov 11 2026. No macro, syntax, notation, axiom, sorry.
-/
import Derived.Test.YtgcibhbhbgoacaaDoorRows
import GoSem.ClaimSeven
namespace Go.Proofs.YtgcibhbhbgoacaaDoor
namespace Rows

/-- THE TIED CARD OF 'fareboxlaw34.RsEncodes'. -/
def rsEncodesCard : Claim7 := { stood := { row := rsEncodesRow, standIns := [], harness := (true, "6d8d58a9c74a78c5a9e95e6136a78022d76d56481634fcda545b277174ca3c56"), looks := false }, kinds := [], alts := [], laidByText := true, laidKinds := [.data, .data], laidTests := true, laidLooks := .later }
def RsEncodesCardSaid : Prop := Claim7.holds Tryd.pinned (.plain (OpenSpec.ofChange rsEncodesSpec)) rsEncodesCard

/-- THE TIED CARD OF 'fareboxlaw34.RsDecodes'. -/
def rsDecodesCard : Claim7 := { stood := { row := rsDecodesRow, standIns := [], harness := (true, "6d8d58a9c74a78c5a9e95e6136a78022d76d56481634fcda545b277174ca3c56"), looks := false }, kinds := [], alts := [], laidByText := true, laidKinds := [.data, .data], laidTests := true, laidLooks := .later }
def RsDecodesCardSaid : Prop := Claim7.holds Tryd.pinned (.plain (OpenSpec.ofChange rsDecodesSpec)) rsDecodesCard

/-- THE TIED CARD OF 'fareboxlaw34.RsMends'. -/
def rsMendsCard : Claim7 := { stood := { row := rsMendsRow, standIns := [], harness := (true, "6d8d58a9c74a78c5a9e95e6136a78022d76d56481634fcda545b277174ca3c56"), looks := false }, kinds := [], alts := [], laidByText := true, laidKinds := [.data, .data], laidTests := true, laidLooks := .later }
def RsMendsCardSaid : Prop := Claim7.holds Tryd.pinned (.plain (OpenSpec.ofChange rsMendsSpec)) rsMendsCard

/-- THE TIED CARD OF 'fareboxlaw34.RsNear'. -/
def rsNearCard : Claim7 := { stood := { row := rsNearRow, standIns := [], harness := (true, "6d8d58a9c74a78c5a9e95e6136a78022d76d56481634fcda545b277174ca3c56"), looks := false }, kinds := [], alts := [], laidByText := true, laidKinds := [.data, .data], laidTests := true, laidLooks := .later }
def RsNearCardSaid : Prop := Claim7.holds Tryd.pinned (.plain (OpenSpec.ofChange rsNearSpec)) rsNearCard

/-- THE TIED CARD OF 'fareboxlaw34.RsWords'. -/
def rsWordsCard : Claim7 := { stood := { row := rsWordsRow, standIns := [], harness := (true, "6d8d58a9c74a78c5a9e95e6136a78022d76d56481634fcda545b277174ca3c56"), looks := false }, kinds := [], alts := [], laidByText := true, laidKinds := [.data, .data], laidTests := true, laidLooks := .later }
def RsWordsCardSaid : Prop := Claim7.holds Tryd.pinned (.plain (OpenSpec.ofChange rsWordsSpec)) rsWordsCard

/-- THE TIED CARD OF 'fareboxlaw34.RsFar'. -/
def rsFarCard : Claim7 := { stood := { row := rsFarRow, standIns := [], harness := (true, "6d8d58a9c74a78c5a9e95e6136a78022d76d56481634fcda545b277174ca3c56"), looks := false }, kinds := [], alts := [], laidByText := true, laidKinds := [.data, .data], laidTests := true, laidLooks := .later }
def RsFarCardSaid : Prop := Claim7.holds Tryd.pinned (.plain (OpenSpec.ofChange rsFarSpec)) rsFarCard

/-- THE SECOND FORM's CARD OF 'fareboxlaw34.RsEncodes'. -/
def rsEncodesUptoCard : Claim7 := { stood := { row := rsEncodesUptoRow, standIns := [], harness := (true, "6d8d58a9c74a78c5a9e95e6136a78022d76d56481634fcda545b277174ca3c56"), looks := false }, kinds := [], alts := [], laidByText := true, laidKinds := [.data, .data], laidTests := true, laidLooks := .later }
def RsEncodesUptoCardSaid : Prop := Claim7.holds Tryd.pinned (.plain (OpenSpec.upto rsEncodesSpec)) rsEncodesUptoCard

/-- THE SECOND FORM's CARD OF 'fareboxlaw34.RsDecodes'. -/
def rsDecodesUptoCard : Claim7 := { stood := { row := rsDecodesUptoRow, standIns := [], harness := (true, "6d8d58a9c74a78c5a9e95e6136a78022d76d56481634fcda545b277174ca3c56"), looks := false }, kinds := [], alts := [], laidByText := true, laidKinds := [.data, .data], laidTests := true, laidLooks := .later }
def RsDecodesUptoCardSaid : Prop := Claim7.holds Tryd.pinned (.plain (OpenSpec.upto rsDecodesSpec)) rsDecodesUptoCard

/-- THE SECOND FORM's CARD OF 'fareboxlaw34.RsMends'. -/
def rsMendsUptoCard : Claim7 := { stood := { row := rsMendsUptoRow, standIns := [], harness := (true, "6d8d58a9c74a78c5a9e95e6136a78022d76d56481634fcda545b277174ca3c56"), looks := false }, kinds := [], alts := [], laidByText := true, laidKinds := [.data, .data], laidTests := true, laidLooks := .later }
def RsMendsUptoCardSaid : Prop := Claim7.holds Tryd.pinned (.plain (OpenSpec.upto rsMendsSpec)) rsMendsUptoCard

/-- THE SECOND FORM's CARD OF 'fareboxlaw34.RsNear'. -/
def rsNearUptoCard : Claim7 := { stood := { row := rsNearUptoRow, standIns := [], harness := (true, "6d8d58a9c74a78c5a9e95e6136a78022d76d56481634fcda545b277174ca3c56"), looks := false }, kinds := [], alts := [], laidByText := true, laidKinds := [.data, .data], laidTests := true, laidLooks := .later }
def RsNearUptoCardSaid : Prop := Claim7.holds Tryd.pinned (.plain (OpenSpec.upto rsNearSpec)) rsNearUptoCard

/-- THE SECOND FORM's CARD OF 'fareboxlaw34.RsWords'. -/
def rsWordsUptoCard : Claim7 := { stood := { row := rsWordsUptoRow, standIns := [], harness := (true, "6d8d58a9c74a78c5a9e95e6136a78022d76d56481634fcda545b277174ca3c56"), looks := false }, kinds := [], alts := [], laidByText := true, laidKinds := [.data, .data], laidTests := true, laidLooks := .later }
def RsWordsUptoCardSaid : Prop := Claim7.holds Tryd.pinned (.plain (OpenSpec.upto rsWordsSpec)) rsWordsUptoCard

/-- THE SECOND FORM's CARD OF 'fareboxlaw34.RsFar'. -/
def rsFarUptoCard : Claim7 := { stood := { row := rsFarUptoRow, standIns := [], harness := (true, "6d8d58a9c74a78c5a9e95e6136a78022d76d56481634fcda545b277174ca3c56"), looks := false }, kinds := [], alts := [], laidByText := true, laidKinds := [.data, .data], laidTests := true, laidLooks := .later }
def RsFarUptoCardSaid : Prop := Claim7.holds Tryd.pinned (.plain (OpenSpec.upto rsFarSpec)) rsFarUptoCard
end Rows
end Go.Proofs.YtgcibhbhbgoacaaDoor
