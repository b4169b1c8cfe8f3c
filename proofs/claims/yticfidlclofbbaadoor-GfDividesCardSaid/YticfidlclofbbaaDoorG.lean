-- Written for this claim by a program of ours (wip/tools), out of the translation: plain functions, and the proofs that the machine's calls come to their answers. Lean checks it.
import Derived.Test.YticfidlclofbbaaDoorG0
import Derived.Test.YticfidlclofbbaaDoorG1
import Derived.Test.YticfidlclofbbaaDoorG2
import Derived.Test.YticfidlclofbbaaDoorG3
import Derived.Test.YticfidlclofbbaaDoorG4
import Derived.Test.YticfidlclofbbaaDoorG5
import Derived.Test.YticfidlclofbbaaDoorG6
import Derived.Test.YticfidlclofbbaaDoorG7
namespace Go.Proofs.YticfidlclofbbaaDoor.G
open Go.RowKit Go.Proofs.YticfidlclofbbaaDoorW.PrintWords Go.Proofs.YticfidlclofbbaaDoorW.PrintLast Go.Proofs.YticfidlclofbbaaDoorW.PrintMore
attribute [local go_sem] max2_int min2_int max_two min_two max_three min_three max_four min_four   -- for this text's walks alone
set_option linter.unusedVariables false
set_option linter.unusedSimpArgs false

end Go.Proofs.YticfidlclofbbaaDoor.G
