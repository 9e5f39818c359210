/- Texts HD2. -/
import Derived.Test.YtjngkeajenankaaGreatDoorP36
set_option linter.unusedSimpArgs false
set_option linter.unusedVariables false
set_option maxRecDepth 100000
namespace Go.Ev
open Go.Proofs Go.RowKit
noncomputable section
theorem r28:Ret Tryz.prog cx2 28 [xC] (.bool true):=ret_P ok0 (by kernel_rfl) (by kernel_rfl) (by kernel_rfl)
theorem r29:Ret Tryz.prog cx2 29 [xq] (.bool true):=ret_P ok0 (by kernel_rfl) (by kernel_rfl) (by kernel_rfl)
theorem r11:Ret Tryz.prog cx2 11 [xC] xV:=ret_P ok0 (by kernel_rfl) (by kernel_rfl) (by kernel_rfl)
theorem r66:Ret Tryz.prog cx2 66 [xL,xi 1] (.tup [.fz 1 false [.str 2 12656,.str 2 12912],iz 0]):=ret_P ok0 (by kernel_rfl) (by kernel_rfl) (by kernel_rfl)
theorem r31a:Ret Tryz.prog cx2 31 [xL,xq,xi 1] (.tup [xA1,iz 0]):=ret_P (hkCons r66 ok0) (by kernel_rfl) (by kernel_rfl) (by kernel_rfl)
theorem r31b:Ret Tryz.prog cx2 31 [xL,xq,xi 5] (.tup [xA5,iz 0]):=ret_P ok0 (by kernel_rfl) (by kernel_rfl) (by kernel_rfl)
theorem r31c:Ret Tryz.prog cx2 31 [xL,xq,xi 10] (.tup [xA10,iz 1]):=ret_P ok0 (by kernel_rfl) (by kernel_rfl) (by kernel_rfl)
theorem ok4:HkOk cx2 xK4:=hkCons r30 (hkCons r28 (hkCons r29 (hkCons r11 (hkCons r31a (hkCons r31b (hkCons r31c (hkCons r66 ok0)))))))
theorem r33a:Ret Tryz.prog cx2 33 [xL,xq,xi 1,xA1] xR1:=ret_P ok4 (by kernel_rfl) (by kernel_rfl) (by kernel_rfl)
theorem r33b:Ret Tryz.prog cx2 33 [xL,xq,xi 5,xA5] xR5:=ret_P ok4 (by kernel_rfl) (by kernel_rfl) (by kernel_rfl)
theorem r10:Ret Tryz.prog cx2 10 [xV] xRt:=ret_P ok4 (by kernel_rfl) (by kernel_rfl) (by kernel_rfl)
theorem ok5:HkOk cx2 xK5:=hkCons r33a (hkCons r33b (hkCons r10 ok4))
theorem r8:Ret Tryz.prog cx2 8 [] (.tup [xC,xD]):=ret_P ok5 (by kernel_rfl) (by kernel_rfl) (by kernel_rfl)
theorem r9a:Ret Tryz.prog cx2 9 [xC,xD,xq,xi 1,iz 7] (.tup [xM1,iz 0]):=ret_P ok5 (by kernel_rfl) (by kernel_rfl) (by kernel_rfl)
theorem r9b:Ret Tryz.prog cx2 9 [xC,xD,xq,xi 5,iz 7] (.tup [xM5,iz 0]):=ret_P ok5 (by kernel_rfl) (by kernel_rfl) (by kernel_rfl)
theorem r9c:Ret Tryz.prog cx2 9 [xC,xD,xq,xi 10,iz 7] xM0:=ret_P ok5 (by kernel_rfl) (by kernel_rfl) (by kernel_rfl)
end
end Go.Ev
