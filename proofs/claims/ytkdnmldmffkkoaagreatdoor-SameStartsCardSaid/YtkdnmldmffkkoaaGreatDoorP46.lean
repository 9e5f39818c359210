/- Texts LO5. -/
import Derived.Test.YtkdnmldmffkkoaaGreatDoorP44
import Derived.Test.YtkdnmldmffkkoaaGreatDoorP45
set_option linter.unusedSimpArgs false
set_option linter.unusedVariables false
set_option maxRecDepth 100000
namespace Go.Ev
open Go.Proofs Go.ChangeShapes Go.WideShapes Go.ChangeAt Go.WideElems Go.RowKit
open Go.Proofs.YtkdnmldmffkkoaaGreatDoor
noncomputable section
theorem zKy:Tryz.pinned.checked.prog.funcNamed Rows.sameStartsRow.func=some 5:=by kernel_rfl
theorem zU0:Tryz.f5.isInstance Tryz.pinned.checked.prog Rows.sameStartsRow.origin Rows.sameStartsRow.targs:=of_decide_eq_true (by kernel_rfl)
theorem zKz:Tryz.f5.isWrapper Tryz.pinned.checked.prog Rows.sameStartsRow.wrapper Rows.sameStartsRow.mainSum:=by unfold Func.isWrapper;first |(rw[if_pos (by decide +kernel)];kernel_rfl) |(rw[if_neg (by decide +kernel)];exact⟨rfl,rfl⟩)
theorem zS7 (hLaw:∀(x0:Pv)(x1:Stt) (x2:Nat)(hu2:x2<256)(x3:List Fc),Ret Tryz.prog cx 5 [.agg x0.cs,.agg x1.cs,.int .u8 (x2:Int),.agg [.fz 4 false (za8 x3)]] (.bool true)):Rows.sameStartsRow.holds Tryz.pinned (OpenSpec.ofChange Rows.sameStartsSpec):=
 OpenClaim.holds_of_wide 5 Tryz.f5 rfl rfl rfl rfl rfl rfl rfl ⟨rfl,rfl,rfl,rfl,rfl⟩ rfl rfl rfl rfl rfl zKy Tryz.func5 jf5 zU0 zKz
  (fun os started H enc _=>zS0 hLaw os started H enc)
end
end Go.Ev
