/- DeriveTextMatchesReference answers true on every input, with package variables as the program's text lays them. -/
import Derived.Test.YtjngkeajenankaaGreatDoorP27
import Derived.Test.YtjngkeajenankaaGreatDoorP45
set_option linter.unusedSimpArgs false
set_option linter.unusedVariables false
set_option maxRecDepth 100000
namespace Go.Proofs.YtjngkeajenankaaGreatDoor
open Go.Ev
theorem deriveTextMatchesReference_holds:Rows.DeriveTextMatchesReferenceCardSaid:=cardLaw3 (over3 law_c)
#print axioms deriveTextMatchesReference_holds
end Go.Proofs.YtjngkeajenankaaGreatDoor
