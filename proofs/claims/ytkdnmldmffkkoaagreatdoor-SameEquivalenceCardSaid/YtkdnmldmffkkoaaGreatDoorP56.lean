/- SameEquivalence answers true on every input, with package variables as the program's text lays them. -/
import Derived.Test.YtkdnmldmffkkoaaGreatDoorP38
import Derived.Test.YtkdnmldmffkkoaaGreatDoorP53
import Derived.Test.YtkdnmldmffkkoaaGreatDoorP55
set_option linter.unusedSimpArgs false
set_option linter.unusedVariables false
set_option maxRecDepth 100000

namespace Go.Proofs.YtkdnmldmffkkoaaGreatDoor
open Go.Ev
theorem sameEquivalence_holds:Rows.SameEquivalenceCardSaid:=yi5 (yjd fun a b c d=>yjg ZN false a b c d fun _ _ _ _=>yid a b c d)
#print axioms sameEquivalence_holds
end Go.Proofs.YtkdnmldmffkkoaaGreatDoor
