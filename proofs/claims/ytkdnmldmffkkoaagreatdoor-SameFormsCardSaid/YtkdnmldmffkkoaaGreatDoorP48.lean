/- SameForms answers true on every input, with package variables as the program's text lays them. -/
import Derived.Test.YtkdnmldmffkkoaaGreatDoorP38
import Derived.Test.YtkdnmldmffkkoaaGreatDoorP43
import Derived.Test.YtkdnmldmffkkoaaGreatDoorP47
set_option linter.unusedSimpArgs false
set_option linter.unusedVariables false
set_option maxRecDepth 100000

namespace Go.Proofs.YtkdnmldmffkkoaaGreatDoor
open Go.Ev
theorem sameForms_holds:Rows.SameFormsCardSaid:=yi4 (yjc fun a b d=>yjh ZN false a b d)
#print axioms sameForms_holds
end Go.Proofs.YtkdnmldmffkkoaaGreatDoor
