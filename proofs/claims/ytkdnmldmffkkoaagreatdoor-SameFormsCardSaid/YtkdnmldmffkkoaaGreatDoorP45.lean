/- Texts. -/
import Derived.Test.YtkdnmldmffkkoaaGreatDoorP40
set_option linter.unusedSimpArgs false
set_option linter.unusedVariables false
set_option maxRecDepth 100000
namespace Go.Ev
open Go.Proofs Go.Proofs.YtkdnmldmffkkoaaGreatDoor
theorem jf4:joinedFacts Tryz.pinned.checked.prog 4 Tryz.f4 Rows.sameFormsSpec Rows.sameFormsRow=true:=by kernel_rfl
end Go.Ev
