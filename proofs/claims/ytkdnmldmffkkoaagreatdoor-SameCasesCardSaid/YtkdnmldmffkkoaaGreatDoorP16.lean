/- Texts. -/
import Derived.Test.YtkdnmldmffkkoaaGreatDoorP13
set_option linter.all false
set_option maxRecDepth 100000
namespace Go.Ev
open Go.Proofs Go.Proofs.YtkdnmldmffkkoaaGreatDoor
def jf7:joinedFacts Tryz.pinned.checked.prog 7 Tryz.f7 Rows.sameCasesSpec Rows.sameCasesRow=true:=by kernel_rfl
end Go.Ev
