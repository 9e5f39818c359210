/- SameStarts answers true on every input, with package variables as the program's text lays them. -/
import Derived.Test.YtkdnmldmffkkoaaGreatDoorP39
import Derived.Test.YtkdnmldmffkkoaaGreatDoorP47
set_option linter.unusedSimpArgs false
set_option linter.unusedVariables false
set_option maxRecDepth 100000

namespace Go.Proofs.YtkdnmldmffkkoaaGreatDoor
open Go.Ev
theorem sameStarts_holds:Rows.SameStartsCardSaid:=zQh (zS7 fun a s n hn d=>zLn zL4 false a s n hn d)
#print axioms sameStarts_holds
end Go.Proofs.YtkdnmldmffkkoaaGreatDoor
