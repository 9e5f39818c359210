/- Texts LC0. -/
import Derived.Test.YtkdnmldmffkkoaaGreatDoorP41
set_option linter.unusedSimpArgs false
set_option linter.unusedVariables false
set_option maxRecDepth 100000
namespace Go.Ev
open Go.Proofs Go.ChangeShapes Go.WideShapes Go.ChangeAt Go.WideElems Go.RowKit
open Go.Proofs.YtkdnmldmffkkoaaGreatDoor
noncomputable section
theorem zuy:laidOutB Tryz.prog=true:=by kernel_rfl
theorem zN8 {n:Int}(h:(Lit.int .u8 n).wf=true):∃k:Nat,n=(k:Int)∧k<256:=by
 have h1:IntKind.u8.min=0:=by kernel_rfl
 have h2:IntKind.u8.max=255:=by kernel_rfl
 simp[Lit.wf,h1,h2]at h
 refine⟨n.toNat,?_,?_⟩ <;> omega
theorem zNe {σ:Sg}(k:IntKind) (n:Int):Rel σ (.int k n) (.int k n):=by simp only[Rel]
theorem zuf {σ:Sg}{l:List AV}{c:Array Value}(h:za1 σ l c.toList):Rel σ (.agg l) (.agg c):=by
 simp only[Rel]
 exact⟨c.toList,rfl,h⟩
end
end Go.Ev
