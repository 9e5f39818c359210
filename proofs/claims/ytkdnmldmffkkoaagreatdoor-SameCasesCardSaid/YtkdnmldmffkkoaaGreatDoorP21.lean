/- SameCases answers true on every input, with package variables as the program's text lays them. -/
import Derived.Test.YtkdnmldmffkkoaaGreatDoorP18
import Derived.Test.YtkdnmldmffkkoaaGreatDoorP20
set_option linter.all false
set_option maxRecDepth 100000

namespace Go.Proofs.YtkdnmldmffkkoaaGreatDoor
open Go.Ev
theorem sameCases_holds:Rows.SameCasesCardSaid:=ylo (yn2 fun a b c d=>yn4 zL4 false false a b c d)
#print axioms sameCases_holds
end Go.Proofs.YtkdnmldmffkkoaaGreatDoor
