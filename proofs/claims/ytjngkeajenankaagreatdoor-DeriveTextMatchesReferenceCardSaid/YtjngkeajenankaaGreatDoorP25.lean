/- Texts LKb. -/
import Derived.SevenTiedAt
import Derived.Test.YtjngkeajenankaaGreatDoorP15
set_option linter.unusedSimpArgs false
set_option linter.unusedVariables false
set_option maxRecDepth 100000
namespace Go.Ev
open Go.Proofs Go.Proofs.YtjngkeajenankaaGreatDoor
theorem kGoes:false=Rows.deriveTextMatchesReferenceRow.goesBy Tryz.pinned.checked.prog:=by kernel_rfl
end Go.Ev
