/- Texts LJ5. -/
import Derived.Test.YtkdnmldmffkkoaaGreatDoorP41
set_option linter.unusedSimpArgs false
set_option linter.unusedVariables false
set_option maxRecDepth 100000
namespace Go.Ev
open Go.Proofs Go.Proofs.YtkdnmldmffkkoaaGreatDoor
theorem jf5:joinedFacts Tryz.pinned.checked.prog 5 Tryz.f5 Rows.sameStartsSpec Rows.sameStartsRow=true:=by kernel_rfl
end Go.Ev
