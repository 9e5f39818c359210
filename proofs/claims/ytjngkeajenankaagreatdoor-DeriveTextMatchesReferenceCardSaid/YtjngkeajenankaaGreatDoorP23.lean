/- Texts LO3. -/
import Derived.Test.YtjngkeajenankaaGreatDoorP17
import Derived.Test.YtjngkeajenankaaGreatDoorP22
set_option linter.unusedSimpArgs false
set_option linter.unusedVariables false
set_option maxRecDepth 100000
namespace Go.Ev
open Go.Proofs Go.ChangeShapes Go.WideShapes Go.ChangeAt Go.WideElems Go.RowKit
open Go.Proofs.YtjngkeajenankaaGreatDoor
noncomputable section
theorem hfn3:Tryz.pinned.checked.prog.funcNamed Rows.deriveTextMatchesReferenceRow.func=some 3:=by kernel_rfl
theorem hin3:Tryz.f3.isInstance Tryz.pinned.checked.prog Rows.deriveTextMatchesReferenceRow.origin Rows.deriveTextMatchesReferenceRow.targs:=of_decide_eq_true (by kernel_rfl)
theorem hwr3:Tryz.f3.isWrapper Tryz.pinned.checked.prog Rows.deriveTextMatchesReferenceRow.wrapper Rows.deriveTextMatchesReferenceRow.mainSum:=by unfold Func.isWrapper;first |(rw[if_pos (by decide +kernel)];kernel_rfl) |(rw[if_neg (by decide +kernel)];exact⟨rfl,rfl⟩)
theorem over3 (hLaw:∀x:Dv,x.Fit→Ret Tryz.prog cx 3 [.agg x.cs] (.bool true)):Rows.deriveTextMatchesReferenceRow.holds Tryz.pinned (OpenSpec.ofChange Rows.deriveTextMatchesReferenceSpec):=
 OpenClaim.holds_of_wide 3 Tryz.f3 rfl rfl rfl rfl rfl rfl rfl ⟨rfl,rfl,rfl,rfl,rfl⟩ rfl rfl rfl rfl rfl hfn3 Tryz.func3 jf3 hin3 hwr3
  (fun os started H enc _=>lifted3 hLaw os started H enc)
end
end Go.Ev
