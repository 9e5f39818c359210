/- Texts. -/
import Derived.Test.YtkdnmldmffkkoaaGreatDoorP40
set_option linter.unusedSimpArgs false
set_option linter.unusedVariables false
set_option maxRecDepth 100000
namespace Go.Ev
open Go.Proofs Go.ChangeShapes Go.WideShapes Go.ChangeAt Go.WideElems Go.RowKit
open Go.Proofs.YtkdnmldmffkkoaaGreatDoor
noncomputable section
theorem BN:laidOutB Tryz.prog=true:=by kernel_rfl
theorem BM {σ:Sg}{l:List AV}{c:Array Value}(h:aC σ l c.toList):av σ (.agg l) (.agg c):=by
 simp only[av];exact⟨c.toList,rfl,h⟩
end
end Go.Ev
