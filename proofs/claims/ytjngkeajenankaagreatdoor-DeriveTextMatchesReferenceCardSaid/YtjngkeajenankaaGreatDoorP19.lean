/- Texts LJb. -/
import Derived.Test.YtjngkeajenankaaGreatDoorP15
set_option linter.unusedSimpArgs false
set_option linter.unusedVariables false
set_option maxRecDepth 100000
namespace Go.Ev
open Go.Proofs Go.Proofs.YtjngkeajenankaaGreatDoor
theorem jUnfollowed:(Rows.deriveTextMatchesReferenceRow.unfollowed == Tryz.pinned.checked.prog.unfollowed 3)=true:=by kernel_rfl
end Go.Ev
