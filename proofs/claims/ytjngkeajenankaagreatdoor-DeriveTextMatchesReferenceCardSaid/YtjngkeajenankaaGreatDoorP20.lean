/- Texts LJc. -/
import Derived.Test.YtjngkeajenankaaGreatDoorP15
set_option linter.unusedSimpArgs false
set_option linter.unusedVariables false
set_option maxRecDepth 100000
namespace Go.Ev
open Go.Proofs Go.Proofs.YtjngkeajenankaaGreatDoor
theorem jRecurses:(Rows.deriveTextMatchesReferenceRow.recurses == Tryz.pinned.checked.prog.recurses 3)=true:=by kernel_rfl
end Go.Ev
