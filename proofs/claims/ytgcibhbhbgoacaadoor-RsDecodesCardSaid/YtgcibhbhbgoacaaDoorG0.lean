-- Written for this claim by a program of ours (wip/tools), out of the translation: plain functions, and the proofs that the machine's calls come to their answers. Lean checks it.
import Derived.Below
import Derived.Deep.Draws
import Derived.Deep.AppendLies
import Derived.Maps.AppendAt
import Derived.OwnWalk
import Derived.Laws.BytesArg
import Derived.Laws.MakeOwn
import Derived.Laws.OwnMore
import Derived.Deep.OwnRows
import Derived.Tactics
import Derived.Lib.ConvBytes
import Derived.Laws.Slices
import Derived.WalkKit
import Derived.KernelRfl
import Derived.RowKit3
import Derived.Deep.LoopGhost
import Derived.Deep.QuietTactic
import Derived.BigQuiet
import Derived.WideLaws
import Derived.Deep.DeepCutAuto
import Derived.Deep.CutBlock
import Derived.Deep.RegionHeld3
import Derived.Laws.Rows
import Derived.Lib.AppendStr
import Derived.ArgAppend
import Derived.Laws.IdiomCopy
import Derived.OrdersHeld
import Derived.Laws.BitsLemmas
import Derived.RowKit
import Derived.Test.YtgcibhbhbgoacaaDoorProg
import Derived.Test.YtgcibhbhbgoacaaDoorWWords
import Derived.Test.YtgcibhbhbgoacaaDoorWLast
import Derived.Test.YtgcibhbhbgoacaaDoorWTab
import Derived.Test.YtgcibhbhbgoacaaDoorWApart
import Derived.Test.YtgcibhbhbgoacaaDoorWKept
import Derived.Test.YtgcibhbhbgoacaaDoorWShare
import Derived.Test.YtgcibhbhbgoacaaDoorWRepsOne
import Derived.Test.YtgcibhbhbgoacaaDoorWMore
namespace Go.Proofs.YtgcibhbhbgoacaaDoor.G
open Go.RowKit Go.Proofs.YtgcibhbhbgoacaaDoorW.PrintWords Go.Proofs.YtgcibhbhbgoacaaDoorW.PrintLast Go.Proofs.YtgcibhbhbgoacaaDoorW.PrintMore
attribute [local go_sem] max2_int min2_int max_two min_two max_three min_three max_four min_four   -- for this text's walks alone
set_option linter.unusedVariables false
set_option linter.unusedSimpArgs false

theorem info3 : (Tryd.prog.info? 3).map (fun i => (i.zero, i.size, i.bytes)) = some (some (.int .i64 0), 1, 8) := by kernel_rfl
theorem info5 : (Tryd.prog.info? 5).map (fun i => (i.zero, i.size, i.bytes)) = some (some (.int .u8 0), 1, 1) := by kernel_rfl
-- the values' own types

end Go.Proofs.YtgcibhbhbgoacaaDoor.G
