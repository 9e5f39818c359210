/- Texts HD1. -/
import Derived.Test.YtjngkeajenankaaGreatDoorP35
set_option linter.unusedSimpArgs false
set_option linter.unusedVariables false
set_option maxRecDepth 100000
namespace Go.Ev
open Go.Proofs Go.RowKit
noncomputable section
theorem hkNil:HkOk cx2 []:=fun _ h=>by cases h
theorem hkCons {f:FuncId}{args:List AV}{u:AV}{l:HkT}(h:Ret Tryz.prog cx2 f args u)(hl:HkOk cx2 l):HkOk cx2 ((f,args,u)::l):=fun e he=>by
 rcases List.mem_cons.1 he with rfl |h1
 ·exact h
 ·exact hl e h1
theorem r136:Ret Tryz.prog cx2 136 [] (.agg clsLit):=ret_P hkNil (by kernel_rfl) (by kernel_rfl) (by kernel_rfl)
theorem ok0:HkOk cx2 xK0:=hkCons r136 hkNil
theorem r95a:Ret Tryz.prog cx2 95 [xT1] (xOk xP1):=ret_Q ok0 (by kernel_rfl) (by kernel_rfl) (by kernel_rfl)
theorem r95b:Ret Tryz.prog cx2 95 [xT2] (xOk xP2):=ret_Q ok0 (by kernel_rfl) (by kernel_rfl) (by kernel_rfl)
theorem r96a:Ret Tryz.prog cx2 96 [xS1] (xOk xP1):=ret_Q ok0 (by kernel_rfl) (by kernel_rfl) (by kernel_rfl)
theorem r96b:Ret Tryz.prog cx2 96 [xS2] (xOk xP2):=ret_Q ok0 (by kernel_rfl) (by kernel_rfl) (by kernel_rfl)
theorem r205:Ret Tryz.prog cx2 205 [.sl0,.sl0] (.bool true):=ret_P ok0 (by kernel_rfl) (by kernel_rfl) (by kernel_rfl)
theorem ok1:HkOk cx2 xK1:=hkCons r95a (hkCons r95b (hkCons r96a (hkCons r96b (hkCons r205 ok0))))
theorem r97a:Ret Tryz.prog cx2 97 [.agg xP1,.agg xP1,xD] xN0:=ret_P ok1 (by kernel_rfl) (by kernel_rfl) (by kernel_rfl)
theorem r97b:Ret Tryz.prog cx2 97 [.agg xP2,.agg xP2,xD] xN0:=ret_P ok1 (by kernel_rfl) (by kernel_rfl) (by kernel_rfl)
theorem ok2:HkOk cx2 xK2:=hkCons r97a (hkCons r97b ok1)
theorem r60a:Ret Tryz.prog cx2 60 [xI1,xD] (xAr xP1):=ret_P ok2 (by kernel_rfl) (by kernel_rfl) (by kernel_rfl)
theorem r60b:Ret Tryz.prog cx2 60 [xI2,xD] (xAr xP2):=ret_P ok2 (by kernel_rfl) (by kernel_rfl) (by kernel_rfl)
theorem ok3:HkOk cx2 xK3:=hkCons r60a (hkCons r60b ok2)
theorem r30:Ret Tryz.prog cx2 30 [xC,xD] xLT:=ret_P ok3 (by kernel_rfl) (by kernel_rfl) (by kernel_rfl)
end
end Go.Ev
