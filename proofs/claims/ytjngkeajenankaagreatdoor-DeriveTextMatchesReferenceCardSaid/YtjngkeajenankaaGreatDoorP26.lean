/- Texts LKc. -/
import Derived.SevenTiedAt
import Derived.Test.YtjngkeajenankaaGreatDoorP15
set_option linter.unusedSimpArgs false
set_option linter.unusedVariables false
set_option maxRecDepth 100000
namespace Go.Ev
open Go.Proofs Go.Proofs.YtjngkeajenankaaGreatDoor
theorem kWf:Rows.deriveTextMatchesReferenceRow.wfByText (OpenSpec.ofChange Rows.deriveTextMatchesReferenceSpec)=true:=by kernel_rfl
theorem kMain : Tryz.pinned.checked.prog.mainIs = some (true, "c873133450c4b307342f8eac7fc58fb3ae04b8728e4bd3e8061e92a8ef3d6752".toList) := by kernel_rfl
theorem kNamed : Tryz.prog.funcNamed "pandect/pandectlaw34.DeriveTextMatchesReference" = some 3 := by kernel_rfl
theorem kStand:Tryz.prog.wantsStandIn 30=false:=by kernel_rfl
end Go.Ev
