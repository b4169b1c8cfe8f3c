/-
  DERIVED. GIVEN WITH THE SEED: THE CARDS: each row of YticfidlclofbbaaDoorRows.lean that lists a variable, with what it lists TIED to the program's text (the seventh form; the later family's looks); each row that meets fmt, with fmt's text TOLD by the authors' own Lean function (tested against real Go, not proved from fmt's source: count such statements apart). THE CARD IS WHAT COUNTS. Prove the row's statement (the work); the ties are given (YticfidlclofbbaaDoorTie.lean); close each card by the builder's one call (the guide's Derived/Test/ToyasCard.lean, 'card_holds'). Laid BY PROGRAM, IN A SANDBOX (cutbox-door.mjs). By AI agents, Wed Nov 11 2026. No macro, syntax, notation, axiom, sorry.
-/
import Derived.Test.YticfidlclofbbaaDoorRows
import GoSem.ClaimSeven
namespace Go.Proofs.YticfidlclofbbaaDoor
namespace Rows

/-- THE TIED CARD OF 'fareboxlaw32.GfPowers'. -/
def gfPowersCard : Claim7 := { stood := { row := gfPowersRow, standIns := [], harness := (true, "9e366ae59174ae422f1f84d96634d50708a7e3ebc73470c333d9d59fafb3b2c3"), looks := false }, kinds := [], alts := [], laidByText := true, laidKinds := [.data, .data], laidTests := true, laidLooks := .later }
def GfPowersCardSaid : Prop := Claim7.holds Tryd.pinned (.plain (OpenSpec.ofChange gfPowersSpec)) gfPowersCard

/-- THE TIED CARD OF 'fareboxlaw32.GfField'. -/
def gfFieldCard : Claim7 := { stood := { row := gfFieldRow, standIns := [], harness := (true, "9e366ae59174ae422f1f84d96634d50708a7e3ebc73470c333d9d59fafb3b2c3"), looks := false }, kinds := [], alts := [], laidByText := true, laidKinds := [.data, .data], laidTests := true, laidLooks := .later }
def GfFieldCardSaid : Prop := Claim7.holds Tryd.pinned (.plain (OpenSpec.ofChange gfFieldSpec)) gfFieldCard

/-- THE TIED CARD OF 'fareboxlaw32.GfDivides'. -/
def gfDividesCard : Claim7 := { stood := { row := gfDividesRow, standIns := [], harness := (true, "9e366ae59174ae422f1f84d96634d50708a7e3ebc73470c333d9d59fafb3b2c3"), looks := false }, kinds := [], alts := [], laidByText := true, laidKinds := [.data, .data], laidTests := true, laidLooks := .later }
def GfDividesCardSaid : Prop := Claim7.holds Tryd.pinned (.plain (OpenSpec.ofChange gfDividesSpec)) gfDividesCard

/-- THE TIED CARD OF 'fareboxlaw32.GfThrough'. -/
def gfThroughCard : Claim7 := { stood := { row := gfThroughRow, standIns := [], harness := (true, "9e366ae59174ae422f1f84d96634d50708a7e3ebc73470c333d9d59fafb3b2c3"), looks := false }, kinds := [], alts := [], laidByText := true, laidKinds := [.data, .data], laidTests := true, laidLooks := .later }
def GfThroughCardSaid : Prop := Claim7.holds Tryd.pinned (.plain (OpenSpec.ofChange gfThroughSpec)) gfThroughCard

/-- THE TIED CARD OF 'fareboxlaw32.GfExact'. -/
def gfExactCard : Claim7 := { stood := { row := gfExactRow, standIns := [], harness := (true, "9e366ae59174ae422f1f84d96634d50708a7e3ebc73470c333d9d59fafb3b2c3"), looks := false }, kinds := [], alts := [], laidByText := true, laidKinds := [.data, .data], laidTests := true, laidLooks := .later }
def GfExactCardSaid : Prop := Claim7.holds Tryd.pinned (.plain (OpenSpec.ofChange gfExactSpec)) gfExactCard

/-- THE SECOND FORM's CARD OF 'fareboxlaw32.GfPowers'. -/
def gfPowersUptoCard : Claim7 := { stood := { row := gfPowersUptoRow, standIns := [], harness := (true, "9e366ae59174ae422f1f84d96634d50708a7e3ebc73470c333d9d59fafb3b2c3"), looks := false }, kinds := [], alts := [], laidByText := true, laidKinds := [.data, .data], laidTests := true, laidLooks := .later }
def GfPowersUptoCardSaid : Prop := Claim7.holds Tryd.pinned (.plain (OpenSpec.upto gfPowersSpec)) gfPowersUptoCard

/-- THE SECOND FORM's CARD OF 'fareboxlaw32.GfField'. -/
def gfFieldUptoCard : Claim7 := { stood := { row := gfFieldUptoRow, standIns := [], harness := (true, "9e366ae59174ae422f1f84d96634d50708a7e3ebc73470c333d9d59fafb3b2c3"), looks := false }, kinds := [], alts := [], laidByText := true, laidKinds := [.data, .data], laidTests := true, laidLooks := .later }
def GfFieldUptoCardSaid : Prop := Claim7.holds Tryd.pinned (.plain (OpenSpec.upto gfFieldSpec)) gfFieldUptoCard

/-- THE SECOND FORM's CARD OF 'fareboxlaw32.GfDivides'. -/
def gfDividesUptoCard : Claim7 := { stood := { row := gfDividesUptoRow, standIns := [], harness := (true, "9e366ae59174ae422f1f84d96634d50708a7e3ebc73470c333d9d59fafb3b2c3"), looks := false }, kinds := [], alts := [], laidByText := true, laidKinds := [.data, .data], laidTests := true, laidLooks := .later }
def GfDividesUptoCardSaid : Prop := Claim7.holds Tryd.pinned (.plain (OpenSpec.upto gfDividesSpec)) gfDividesUptoCard

/-- THE SECOND FORM's CARD OF 'fareboxlaw32.GfThrough'. -/
def gfThroughUptoCard : Claim7 := { stood := { row := gfThroughUptoRow, standIns := [], harness := (true, "9e366ae59174ae422f1f84d96634d50708a7e3ebc73470c333d9d59fafb3b2c3"), looks := false }, kinds := [], alts := [], laidByText := true, laidKinds := [.data, .data], laidTests := true, laidLooks := .later }
def GfThroughUptoCardSaid : Prop := Claim7.holds Tryd.pinned (.plain (OpenSpec.upto gfThroughSpec)) gfThroughUptoCard

/-- THE SECOND FORM's CARD OF 'fareboxlaw32.GfExact'. -/
def gfExactUptoCard : Claim7 := { stood := { row := gfExactUptoRow, standIns := [], harness := (true, "9e366ae59174ae422f1f84d96634d50708a7e3ebc73470c333d9d59fafb3b2c3"), looks := false }, kinds := [], alts := [], laidByText := true, laidKinds := [.data, .data], laidTests := true, laidLooks := .later }
def GfExactUptoCardSaid : Prop := Claim7.holds Tryd.pinned (.plain (OpenSpec.upto gfExactSpec)) gfExactUptoCard
end Rows
end Go.Proofs.YticfidlclofbbaaDoor
