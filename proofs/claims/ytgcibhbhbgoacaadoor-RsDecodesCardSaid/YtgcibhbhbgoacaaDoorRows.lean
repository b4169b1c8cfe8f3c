/-
  NARROWER THAN 'FOR EVERY INPUT', by the rows' own cells (each row's printed sentence says how): RsEncodes: laid · RsDecodes: laid · RsMends: laid · RsNear: laid · RsWords: laid · RsFar: laid.
  DERIVED. THE GIVEN ROWS OF THIS SEAT. 6 by the template 'for every input the law returns true; each argument reads behind the call as it read before'; 0 by the template 'total and deterministic' (their statements: YtgcibhbhbgoacaaDoorTotals.lean).
  GIVEN WITH THE SEED: the statements are not yours to turn. If you find one false, say at which input.
  Laid BY PROGRAM, IN A SANDBOX (cutbox-rows.mjs): the forced cells as the released guide's own fill.sh prints them over the translation 04a2a87c3d3f46c8… (all of the seat's roots in one cut). By AI agents, Wed Nov 11 2026. No macro, syntax, notation, axiom, sorry.
-/
import Derived.Test.YtgcibhbhbgoacaaDoorChecked
import GoSem.Claim
import GoSem.ClaimJoined
import GoSem.ClaimMapViews
import Derived.JoinedTies
import Derived.KernelRfl
namespace Go.Proofs.YtgcibhbhbgoacaaDoor
/- THE CELL 'sum', in the pinned program and in every row, IS THE sha256 OF THE DUMP (.gsa) THAT YtgcibhbhbgoacaaDoorProg.lean LOADS. Nothing in Lean hashes anything: it is a label: what it is worth is what the hold of that sum in a sandbox is worth. -/
noncomputable def Tryd.pinned : Pinned := { name := "ytgcibhbhbgoacaadoor", sum := "04a2a87c3d3f46c80d20de8562ede1e56b8d899f7c68eda8c00b024147f65a9c", checked := Tryd.checked }
namespace Rows
def none {H : Type} : Left H := { results := [], args := [] }

/- WHAT THE LISTED PACKAGE-LEVEL VARIABLES READ AS WHEN THE CALL BEGINS. Each datum BY PROGRAM (the guide's laid-datum.mjs) off the statement by which the dump's own 'gosem.cut.vars' lays the variable. In a bare row this is a premise. The card (YtgcibhbhbgoacaaDoorCards.lean) ties it to the program's text. -/
def laid_farebox_gf_low {H : Type} : DataW H := .agg [.lit (.int .u8 1), .lit (.int .u8 2), .lit (.int .u8 4), .lit (.int .u8 8), .lit (.int .u8 16), .lit (.int .u8 32), .lit (.int .u8 64), .lit (.int .u8 128), .lit (.int .u8 29), .lit (.int .u8 58), .lit (.int .u8 116), .lit (.int .u8 232), .lit (.int .u8 205), .lit (.int .u8 135), .lit (.int .u8 19), .lit (.int .u8 38), .lit (.int .u8 76), .lit (.int .u8 152), .lit (.int .u8 45), .lit (.int .u8 90), .lit (.int .u8 180), .lit (.int .u8 117), .lit (.int .u8 234), .lit (.int .u8 201), .lit (.int .u8 143), .lit (.int .u8 3), .lit (.int .u8 6), .lit (.int .u8 12), .lit (.int .u8 24), .lit (.int .u8 48), .lit (.int .u8 96), .lit (.int .u8 192), .lit (.int .u8 157), .lit (.int .u8 39), .lit (.int .u8 78), .lit (.int .u8 156), .lit (.int .u8 37), .lit (.int .u8 74), .lit (.int .u8 148), .lit (.int .u8 53), .lit (.int .u8 106), .lit (.int .u8 212), .lit (.int .u8 181), .lit (.int .u8 119), .lit (.int .u8 238), .lit (.int .u8 193), .lit (.int .u8 159), .lit (.int .u8 35), .lit (.int .u8 70), .lit (.int .u8 140), .lit (.int .u8 5), .lit (.int .u8 10), .lit (.int .u8 20), .lit (.int .u8 40), .lit (.int .u8 80), .lit (.int .u8 160), .lit (.int .u8 93), .lit (.int .u8 186), .lit (.int .u8 105), .lit (.int .u8 210), .lit (.int .u8 185), .lit (.int .u8 111), .lit (.int .u8 222), .lit (.int .u8 161), .lit (.int .u8 95), .lit (.int .u8 190), .lit (.int .u8 97), .lit (.int .u8 194), .lit (.int .u8 153), .lit (.int .u8 47), .lit (.int .u8 94), .lit (.int .u8 188), .lit (.int .u8 101), .lit (.int .u8 202), .lit (.int .u8 137), .lit (.int .u8 15), .lit (.int .u8 30), .lit (.int .u8 60), .lit (.int .u8 120), .lit (.int .u8 240), .lit (.int .u8 253), .lit (.int .u8 231), .lit (.int .u8 211), .lit (.int .u8 187), .lit (.int .u8 107), .lit (.int .u8 214), .lit (.int .u8 177), .lit (.int .u8 127), .lit (.int .u8 254), .lit (.int .u8 225), .lit (.int .u8 223), .lit (.int .u8 163), .lit (.int .u8 91), .lit (.int .u8 182), .lit (.int .u8 113), .lit (.int .u8 226), .lit (.int .u8 217), .lit (.int .u8 175), .lit (.int .u8 67), .lit (.int .u8 134), .lit (.int .u8 17), .lit (.int .u8 34), .lit (.int .u8 68), .lit (.int .u8 136), .lit (.int .u8 13), .lit (.int .u8 26), .lit (.int .u8 52), .lit (.int .u8 104), .lit (.int .u8 208), .lit (.int .u8 189), .lit (.int .u8 103), .lit (.int .u8 206), .lit (.int .u8 129), .lit (.int .u8 31), .lit (.int .u8 62), .lit (.int .u8 124), .lit (.int .u8 248), .lit (.int .u8 237), .lit (.int .u8 199), .lit (.int .u8 147), .lit (.int .u8 59), .lit (.int .u8 118), .lit (.int .u8 236), .lit (.int .u8 197), .lit (.int .u8 151), .lit (.int .u8 51), .lit (.int .u8 102), .lit (.int .u8 204)]
def laid_farebox_gf_high {H : Type} : DataW H := .agg [.lit (.int .u8 133), .lit (.int .u8 23), .lit (.int .u8 46), .lit (.int .u8 92), .lit (.int .u8 184), .lit (.int .u8 109), .lit (.int .u8 218), .lit (.int .u8 169), .lit (.int .u8 79), .lit (.int .u8 158), .lit (.int .u8 33), .lit (.int .u8 66), .lit (.int .u8 132), .lit (.int .u8 21), .lit (.int .u8 42), .lit (.int .u8 84), .lit (.int .u8 168), .lit (.int .u8 77), .lit (.int .u8 154), .lit (.int .u8 41), .lit (.int .u8 82), .lit (.int .u8 164), .lit (.int .u8 85), .lit (.int .u8 170), .lit (.int .u8 73), .lit (.int .u8 146), .lit (.int .u8 57), .lit (.int .u8 114), .lit (.int .u8 228), .lit (.int .u8 213), .lit (.int .u8 183), .lit (.int .u8 115), .lit (.int .u8 230), .lit (.int .u8 209), .lit (.int .u8 191), .lit (.int .u8 99), .lit (.int .u8 198), .lit (.int .u8 145), .lit (.int .u8 63), .lit (.int .u8 126), .lit (.int .u8 252), .lit (.int .u8 229), .lit (.int .u8 215), .lit (.int .u8 179), .lit (.int .u8 123), .lit (.int .u8 246), .lit (.int .u8 241), .lit (.int .u8 255), .lit (.int .u8 227), .lit (.int .u8 219), .lit (.int .u8 171), .lit (.int .u8 75), .lit (.int .u8 150), .lit (.int .u8 49), .lit (.int .u8 98), .lit (.int .u8 196), .lit (.int .u8 149), .lit (.int .u8 55), .lit (.int .u8 110), .lit (.int .u8 220), .lit (.int .u8 165), .lit (.int .u8 87), .lit (.int .u8 174), .lit (.int .u8 65), .lit (.int .u8 130), .lit (.int .u8 25), .lit (.int .u8 50), .lit (.int .u8 100), .lit (.int .u8 200), .lit (.int .u8 141), .lit (.int .u8 7), .lit (.int .u8 14), .lit (.int .u8 28), .lit (.int .u8 56), .lit (.int .u8 112), .lit (.int .u8 224), .lit (.int .u8 221), .lit (.int .u8 167), .lit (.int .u8 83), .lit (.int .u8 166), .lit (.int .u8 81), .lit (.int .u8 162), .lit (.int .u8 89), .lit (.int .u8 178), .lit (.int .u8 121), .lit (.int .u8 242), .lit (.int .u8 249), .lit (.int .u8 239), .lit (.int .u8 195), .lit (.int .u8 155), .lit (.int .u8 43), .lit (.int .u8 86), .lit (.int .u8 172), .lit (.int .u8 69), .lit (.int .u8 138), .lit (.int .u8 9), .lit (.int .u8 18), .lit (.int .u8 36), .lit (.int .u8 72), .lit (.int .u8 144), .lit (.int .u8 61), .lit (.int .u8 122), .lit (.int .u8 244), .lit (.int .u8 245), .lit (.int .u8 247), .lit (.int .u8 243), .lit (.int .u8 251), .lit (.int .u8 235), .lit (.int .u8 203), .lit (.int .u8 139), .lit (.int .u8 11), .lit (.int .u8 22), .lit (.int .u8 44), .lit (.int .u8 88), .lit (.int .u8 176), .lit (.int .u8 125), .lit (.int .u8 250), .lit (.int .u8 233), .lit (.int .u8 207), .lit (.int .u8 131), .lit (.int .u8 27), .lit (.int .u8 54), .lit (.int .u8 108), .lit (.int .u8 216), .lit (.int .u8 173), .lit (.int .u8 71), .lit (.int .u8 142)]

/-- 'fareboxlaw34.RsEncodes': WHATEVER THE INPUT: true; the input reads as it did. -/
def rsEncodesSpec : ChangeSpec := { name := "rsEncodes", fn := fun _ => fun
  | [d1, d2, d3] => { results := [.lit (.bool true)], args := [d1, d2, d3] }
  | _ => none }
def rsEncodesRow : OpenClaim := { program := "ytgcibhbhbgoacaadoor", sum := "04a2a87c3d3f46c80d20de8562ede1e56b8d899f7c68eda8c00b024147f65a9c", func := "farebox/fareboxlaw34.RsEncodes", spec := "rsEncodes", named := ["farebox/gf.low", "farebox/gf.high"], apart := false, laid := [("farebox/gf.low", laid_farebox_gf_low), ("farebox/gf.high", laid_farebox_gf_high)] }
def RsEncodesSaid : Prop := rsEncodesRow.holds Tryd.pinned (OpenSpec.ofChange rsEncodesSpec)

/-- ITS FALSE NEIGHBOUR: 'it returns false'. Refute it at one input. -/
def rsEncodesWrong : ChangeSpec := { name := "rsEncodes", fn := fun _ => fun
  | [d1, d2, d3] => { results := [.lit (.bool false)], args := [d1, d2, d3] }
  | _ => none }
def RsEncodesWrongFalsely : Prop := rsEncodesRow.holds Tryd.pinned (OpenSpec.ofChange rsEncodesWrong)

/-- 'fareboxlaw34.RsDecodes': WHATEVER THE INPUT: true; the input reads as it did. -/
def rsDecodesSpec : ChangeSpec := { name := "rsDecodes", fn := fun _ => fun
  | [d1, d2, d3] => { results := [.lit (.bool true)], args := [d1, d2, d3] }
  | _ => none }
def rsDecodesRow : OpenClaim := { program := "ytgcibhbhbgoacaadoor", sum := "04a2a87c3d3f46c80d20de8562ede1e56b8d899f7c68eda8c00b024147f65a9c", func := "farebox/fareboxlaw34.RsDecodes", spec := "rsDecodes", unfollowed := true, recurses := true, named := ["farebox/gf.low", "farebox/gf.high"], apart := false, laid := [("farebox/gf.low", laid_farebox_gf_low), ("farebox/gf.high", laid_farebox_gf_high)] }
def RsDecodesSaid : Prop := rsDecodesRow.holds Tryd.pinned (OpenSpec.ofChange rsDecodesSpec)

/-- ITS FALSE NEIGHBOUR: 'it returns false'. Refute it at one input. -/
def rsDecodesWrong : ChangeSpec := { name := "rsDecodes", fn := fun _ => fun
  | [d1, d2, d3] => { results := [.lit (.bool false)], args := [d1, d2, d3] }
  | _ => none }
def RsDecodesWrongFalsely : Prop := rsDecodesRow.holds Tryd.pinned (OpenSpec.ofChange rsDecodesWrong)

/-- 'fareboxlaw34.RsMends': WHATEVER THE INPUT: true; the input reads as it did. -/
def rsMendsSpec : ChangeSpec := { name := "rsMends", fn := fun _ => fun
  | [d1, d2, d3] => { results := [.lit (.bool true)], args := [d1, d2, d3] }
  | _ => none }
def rsMendsRow : OpenClaim := { program := "ytgcibhbhbgoacaadoor", sum := "04a2a87c3d3f46c80d20de8562ede1e56b8d899f7c68eda8c00b024147f65a9c", func := "farebox/fareboxlaw34.RsMends", spec := "rsMends", unfollowed := true, recurses := true, named := ["farebox/gf.low", "farebox/gf.high"], apart := false, laid := [("farebox/gf.low", laid_farebox_gf_low), ("farebox/gf.high", laid_farebox_gf_high)] }
def RsMendsSaid : Prop := rsMendsRow.holds Tryd.pinned (OpenSpec.ofChange rsMendsSpec)

/-- ITS FALSE NEIGHBOUR: 'it returns false'. Refute it at one input. -/
def rsMendsWrong : ChangeSpec := { name := "rsMends", fn := fun _ => fun
  | [d1, d2, d3] => { results := [.lit (.bool false)], args := [d1, d2, d3] }
  | _ => none }
def RsMendsWrongFalsely : Prop := rsMendsRow.holds Tryd.pinned (OpenSpec.ofChange rsMendsWrong)

/-- 'fareboxlaw34.RsNear': WHATEVER THE INPUT: true; the input reads as it did. -/
def rsNearSpec : ChangeSpec := { name := "rsNear", fn := fun _ => fun
  | [d1, d2, d3] => { results := [.lit (.bool true)], args := [d1, d2, d3] }
  | _ => none }
def rsNearRow : OpenClaim := { program := "ytgcibhbhbgoacaadoor", sum := "04a2a87c3d3f46c80d20de8562ede1e56b8d899f7c68eda8c00b024147f65a9c", func := "farebox/fareboxlaw34.RsNear", spec := "rsNear", unfollowed := true, recurses := true, named := ["farebox/gf.low", "farebox/gf.high"], apart := false, laid := [("farebox/gf.low", laid_farebox_gf_low), ("farebox/gf.high", laid_farebox_gf_high)] }
def RsNearSaid : Prop := rsNearRow.holds Tryd.pinned (OpenSpec.ofChange rsNearSpec)

/-- ITS FALSE NEIGHBOUR: 'it returns false'. Refute it at one input. -/
def rsNearWrong : ChangeSpec := { name := "rsNear", fn := fun _ => fun
  | [d1, d2, d3] => { results := [.lit (.bool false)], args := [d1, d2, d3] }
  | _ => none }
def RsNearWrongFalsely : Prop := rsNearRow.holds Tryd.pinned (OpenSpec.ofChange rsNearWrong)

/-- 'fareboxlaw34.RsWords': WHATEVER THE INPUT: true; the input reads as it did. -/
def rsWordsSpec : ChangeSpec := { name := "rsWords", fn := fun _ => fun
  | [d1, d2, d3] => { results := [.lit (.bool true)], args := [d1, d2, d3] }
  | _ => none }
def rsWordsRow : OpenClaim := { program := "ytgcibhbhbgoacaadoor", sum := "04a2a87c3d3f46c80d20de8562ede1e56b8d899f7c68eda8c00b024147f65a9c", func := "farebox/fareboxlaw34.RsWords", spec := "rsWords", unfollowed := true, recurses := true, named := ["farebox/gf.low", "farebox/gf.high"], apart := false, laid := [("farebox/gf.low", laid_farebox_gf_low), ("farebox/gf.high", laid_farebox_gf_high)] }
def RsWordsSaid : Prop := rsWordsRow.holds Tryd.pinned (OpenSpec.ofChange rsWordsSpec)

/-- ITS FALSE NEIGHBOUR: 'it returns false'. Refute it at one input. -/
def rsWordsWrong : ChangeSpec := { name := "rsWords", fn := fun _ => fun
  | [d1, d2, d3] => { results := [.lit (.bool false)], args := [d1, d2, d3] }
  | _ => none }
def RsWordsWrongFalsely : Prop := rsWordsRow.holds Tryd.pinned (OpenSpec.ofChange rsWordsWrong)

/-- 'fareboxlaw34.RsFar': WHATEVER THE INPUT: true; the input reads as it did. -/
def rsFarSpec : ChangeSpec := { name := "rsFar", fn := fun _ => fun
  | [d1, d2, d3] => { results := [.lit (.bool true)], args := [d1, d2, d3] }
  | _ => none }
def rsFarRow : OpenClaim := { program := "ytgcibhbhbgoacaadoor", sum := "04a2a87c3d3f46c80d20de8562ede1e56b8d899f7c68eda8c00b024147f65a9c", func := "farebox/fareboxlaw34.RsFar", spec := "rsFar", unfollowed := true, recurses := true, named := ["farebox/gf.low", "farebox/gf.high"], apart := false, laid := [("farebox/gf.low", laid_farebox_gf_low), ("farebox/gf.high", laid_farebox_gf_high)] }
def RsFarSaid : Prop := rsFarRow.holds Tryd.pinned (OpenSpec.ofChange rsFarSpec)

/-- ITS FALSE NEIGHBOUR: 'it returns false'. Refute it at one input. -/
def rsFarWrong : ChangeSpec := { name := "rsFar", fn := fun _ => fun
  | [d1, d2, d3] => { results := [.lit (.bool false)], args := [d1, d2, d3] }
  | _ => none }
def RsFarWrongFalsely : Prop := rsFarRow.holds Tryd.pinned (OpenSpec.ofChange rsFarWrong)

/- THE SECOND FORM. 'bulk': how many values and letters a reading holds, each counted each time it is reached (what is shared counts as often as it is met; a slice's spare places count too). A statement '..UptoSaid' is the law's where the arguments, and the package variables that the reading takes, are together of bulk at most 1048576: NARROWER than '..Said'. Prove '..Said' where nothing that the law and all that it calls make is longer than what came in: it says more and counts as full. Else prove '..UptoSaid'. A law counts once. -/
mutual
def uptoBulk {H : Type} : DataW H → Nat
  | .lit (.string bytes) => bytes.length + 1
  | .lit _ => 1
  | .nil => 1
  | .ptr d => uptoBulk d + 1
  | .slice elems spare => uptoBulkAll elems + uptoBulkAll spare + 1
  | .agg parts => uptoBulkAll parts + 1
  | .iface _ d => uptoBulk d + 1
  | .map entries => uptoBulkEntries entries + 1
  | .held _ => 1
def uptoBulkAll {H : Type} : List (DataW H) → Nat
  | [] => 0
  | d :: r => uptoBulk d + uptoBulkAll r
def uptoBulkEntries {H : Type} : List (Lit × DataW H) → Nat
  | [] => 0
  | x :: r => uptoBulkEntry x + uptoBulkEntries r
def uptoBulkEntry {H : Type} : Lit × DataW H → Nat
  | (.string bytes, d) => bytes.length + uptoBulk d + 1
  | (_, d) => uptoBulk d + 1
 end
def uptoSmall : (H : Type) → List (DataW H) → Bool := fun _ ds => decide (uptoBulkAll ds ≤ 1048576)
def OpenSpec.upto (s : _root_.Go.ChangeSpec) : _root_.Go.OpenSpec := { _root_.Go.OpenSpec.ofChange s with cond := some uptoSmall }

/-- 'fareboxlaw34.RsEncodes', WHERE WHAT IT READS IS OF BULK AT MOST 1048576: true; the input reads as it did. -/
def rsEncodesUptoRow : OpenClaim := { program := "ytgcibhbhbgoacaadoor", sum := "04a2a87c3d3f46c80d20de8562ede1e56b8d899f7c68eda8c00b024147f65a9c", func := "farebox/fareboxlaw34.RsEncodes", spec := "rsEncodes", named := ["farebox/gf.low", "farebox/gf.high"], apart := false, laid := [("farebox/gf.low", laid_farebox_gf_low), ("farebox/gf.high", laid_farebox_gf_high)], narrowed := true }
def RsEncodesUptoSaid : Prop := rsEncodesUptoRow.holds Tryd.pinned (OpenSpec.upto rsEncodesSpec)

/-- 'fareboxlaw34.RsDecodes', WHERE WHAT IT READS IS OF BULK AT MOST 1048576: true; the input reads as it did. -/
def rsDecodesUptoRow : OpenClaim := { program := "ytgcibhbhbgoacaadoor", sum := "04a2a87c3d3f46c80d20de8562ede1e56b8d899f7c68eda8c00b024147f65a9c", func := "farebox/fareboxlaw34.RsDecodes", spec := "rsDecodes", unfollowed := true, recurses := true, named := ["farebox/gf.low", "farebox/gf.high"], apart := false, laid := [("farebox/gf.low", laid_farebox_gf_low), ("farebox/gf.high", laid_farebox_gf_high)], narrowed := true }
def RsDecodesUptoSaid : Prop := rsDecodesUptoRow.holds Tryd.pinned (OpenSpec.upto rsDecodesSpec)

/-- 'fareboxlaw34.RsMends', WHERE WHAT IT READS IS OF BULK AT MOST 1048576: true; the input reads as it did. -/
def rsMendsUptoRow : OpenClaim := { program := "ytgcibhbhbgoacaadoor", sum := "04a2a87c3d3f46c80d20de8562ede1e56b8d899f7c68eda8c00b024147f65a9c", func := "farebox/fareboxlaw34.RsMends", spec := "rsMends", unfollowed := true, recurses := true, named := ["farebox/gf.low", "farebox/gf.high"], apart := false, laid := [("farebox/gf.low", laid_farebox_gf_low), ("farebox/gf.high", laid_farebox_gf_high)], narrowed := true }
def RsMendsUptoSaid : Prop := rsMendsUptoRow.holds Tryd.pinned (OpenSpec.upto rsMendsSpec)

/-- 'fareboxlaw34.RsNear', WHERE WHAT IT READS IS OF BULK AT MOST 1048576: true; the input reads as it did. -/
def rsNearUptoRow : OpenClaim := { program := "ytgcibhbhbgoacaadoor", sum := "04a2a87c3d3f46c80d20de8562ede1e56b8d899f7c68eda8c00b024147f65a9c", func := "farebox/fareboxlaw34.RsNear", spec := "rsNear", unfollowed := true, recurses := true, named := ["farebox/gf.low", "farebox/gf.high"], apart := false, laid := [("farebox/gf.low", laid_farebox_gf_low), ("farebox/gf.high", laid_farebox_gf_high)], narrowed := true }
def RsNearUptoSaid : Prop := rsNearUptoRow.holds Tryd.pinned (OpenSpec.upto rsNearSpec)

/-- 'fareboxlaw34.RsWords', WHERE WHAT IT READS IS OF BULK AT MOST 1048576: true; the input reads as it did. -/
def rsWordsUptoRow : OpenClaim := { program := "ytgcibhbhbgoacaadoor", sum := "04a2a87c3d3f46c80d20de8562ede1e56b8d899f7c68eda8c00b024147f65a9c", func := "farebox/fareboxlaw34.RsWords", spec := "rsWords", unfollowed := true, recurses := true, named := ["farebox/gf.low", "farebox/gf.high"], apart := false, laid := [("farebox/gf.low", laid_farebox_gf_low), ("farebox/gf.high", laid_farebox_gf_high)], narrowed := true }
def RsWordsUptoSaid : Prop := rsWordsUptoRow.holds Tryd.pinned (OpenSpec.upto rsWordsSpec)

/-- 'fareboxlaw34.RsFar', WHERE WHAT IT READS IS OF BULK AT MOST 1048576: true; the input reads as it did. -/
def rsFarUptoRow : OpenClaim := { program := "ytgcibhbhbgoacaadoor", sum := "04a2a87c3d3f46c80d20de8562ede1e56b8d899f7c68eda8c00b024147f65a9c", func := "farebox/fareboxlaw34.RsFar", spec := "rsFar", unfollowed := true, recurses := true, named := ["farebox/gf.low", "farebox/gf.high"], apart := false, laid := [("farebox/gf.low", laid_farebox_gf_low), ("farebox/gf.high", laid_farebox_gf_high)], narrowed := true }
def RsFarUptoSaid : Prop := rsFarUptoRow.holds Tryd.pinned (OpenSpec.upto rsFarSpec)

end Rows
end Go.Proofs.YtgcibhbhbgoacaaDoor
