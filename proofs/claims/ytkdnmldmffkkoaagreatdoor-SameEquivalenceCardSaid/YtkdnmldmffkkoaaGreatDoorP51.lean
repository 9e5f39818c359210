/- Texts. -/
import Derived.Test.YtkdnmldmffkkoaaGreatDoorP40
set_option linter.unusedSimpArgs false
set_option linter.unusedVariables false
set_option maxRecDepth 100000
namespace Go.Ev
open Go.Proofs Go.Proofs.YtkdnmldmffkkoaaGreatDoor
theorem jf6:joinedFacts Tryz.pinned.checked.prog 6 Tryz.f6 Rows.sameEquivalenceSpec Rows.sameEquivalenceRow=true:=by kernel_rfl
end Go.Ev
