/- Texts LKa. -/
import Derived.SevenTiedAt
import Derived.Test.YtjngkeajenankaaGreatDoorP15
set_option linter.unusedSimpArgs false
set_option linter.unusedVariables false
set_option maxRecDepth 100000
namespace Go.Ev
open Go.Proofs Go.Proofs.YtjngkeajenankaaGreatDoor
theorem kLooks:true=Tryz.pinned.checked.prog.looks []:=by kernel_rfl
end Go.Ev
