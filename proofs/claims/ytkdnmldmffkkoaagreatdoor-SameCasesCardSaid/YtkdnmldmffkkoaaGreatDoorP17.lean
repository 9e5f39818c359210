/- Texts. -/
import Derived.Test.YtkdnmldmffkkoaaGreatDoorP15
import Derived.Test.YtkdnmldmffkkoaaGreatDoorP16
set_option linter.all false
set_option maxRecDepth 100000
namespace Go.Ev
open Go.Proofs Go.ChangeShapes Go.WideShapes Go.ChangeAt Go.WideElems Go.RowKit
open Go.Proofs.YtkdnmldmffkkoaaGreatDoor
noncomputable section
def ymn:Tryz.pinned.checked.prog.funcNamed Rows.sameCasesRow.func=some 7:=by kernel_rfl
def ymo:Tryz.f7.isInstance Tryz.pinned.checked.prog Rows.sameCasesRow.origin Rows.sameCasesRow.targs:=of_decide_eq_true (by kernel_rfl)
def ymq:Tryz.f7.isWrapper Tryz.pinned.checked.prog Rows.sameCasesRow.wrapper Rows.sameCasesRow.mainSum:=by unfold Func.isWrapper;first |(rw[if_pos (by decide +kernel)];kernel_rfl) |(rw[if_neg (by decide +kernel)];exact⟨rfl,rfl⟩)
def yn2 (zW:∀(x0:Pv)(x1:Pv)(x2:List Int)(x3:List Fc),aM 7 [.agg x0.cs,.agg x1.cs,.fz 1 false (aG x2),.agg [.fz 4 false (aN x3)]] (.bool true)):Rows.sameCasesRow.holds Tryz.pinned (OpenSpec.ofChange Rows.sameCasesSpec):=
 OpenClaim.holds_of_wide 7 Tryz.f7 rfl rfl rfl rfl rfl rfl rfl ⟨rfl,rfl,rfl,rfl,rfl⟩ rfl rfl rfl rfl rfl ymn Tryz.func7 jf7 ymo ymq
  (fun os started H enc _=>ymx zW os started H enc)
end
end Go.Ev
