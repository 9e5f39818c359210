/- Texts. -/
import Derived.Test.YtkdnmldmffkkoaaGreatDoorP34
import Derived.Test.YtkdnmldmffkkoaaGreatDoorP37
set_option linter.unusedSimpArgs false
set_option linter.unusedVariables false
set_option maxRecDepth 100000
set_option maxHeartbeats 8000000
namespace Go.Ev
open Go.Proofs Go.RowKit
noncomputable section
attribute [-go_sem] dw bP ep gH
theorem zUw:cx.ft.get 16=some Tryz.f16:=aT (by decide) (by kernel_rfl)
def jA (c n:Int):Pv:=⟨⟨#[112,49]⟩,2,2,⟨#[116,97,120]⟩,5,wT c n,[],.mk 1 .empty 0 [],.mk 2 .empty 0 [],.mk 2 .empty 0 []⟩
theorem zLw:(jA 5 17).cs=[.bs (bE 2 12656),.int .i64 2,.int .i64 2,.bs (bE 3 7889268),.int .i64 5,.int .i64 3,.bs (bE 3 6645601),.int .i64 5,.int .i64 17,.fz 5 false [],.fz 1 false [],.int .i64 1,.bs (bE 0 0),.int .i64 0,.fz 4 false [],.int .i64 2,.bs (bE 0 0),.int .i64 0,.fz 4 false [],.int .i64 2,.bs (bE 0 0),.int .i64 0,.fz 4 false []]:=by kernel_rfl
theorem zPn:(jA 6 18).cs=[.bs (bE 2 12656),.int .i64 2,.int .i64 2,.bs (bE 3 7889268),.int .i64 5,.int .i64 3,.bs (bE 3 6645601),.int .i64 6,.int .i64 18,.fz 5 false [],.fz 1 false [],.int .i64 1,.bs (bE 0 0),.int .i64 0,.fz 4 false [],.int .i64 2,.bs (bE 0 0),.int .i64 0,.fz 4 false [],.int .i64 2,.bs (bE 0 0),.int .i64 0,.fz 4 false []]:=by kernel_rfl
theorem zMf:fp RM (jA 5 17).cs:=by
 rw[zLw];exact .cons _ _ _ _ (.str 2 12656) (.cons _ _ _ _ (.same _) (.cons _ _ _ _ (.same _) (.cons _ _ _ _ (.str 3 7889268) (.cons _ _ _ _ (.same _) (.cons _ _ _ _ (.same _) (.cons _ _ _ _ (.str 3 6645601) (.cons _ _ _ _ (.same _) (.cons _ _ _ _ (.same _) (.cons _ _ _ _ (.sl0 5 false) (.cons _ _ _ _ (.sl0 1 false) (.cons _ _ _ _ (.same _) (.cons _ _ _ _ (.str 0 0) (.cons _ _ _ _ (.same _) (.cons _ _ _ _ (.sl0 4 false) (.cons _ _ _ _ (.same _) (.cons _ _ _ _ (.str 0 0) (.cons _ _ _ _ (.same _) (.cons _ _ _ _ (.sl0 4 false) (.cons _ _ _ _ (.same _) (.cons _ _ _ _ (.str 0 0) (.cons _ _ _ _ (.same _) (.cons _ _ _ _ (.sl0 4 false) .nil))))))))))))))))))))))
theorem zQb:fp RQ (jA 6 18).cs:=by
 rw[zPn];exact .cons _ _ _ _ (.str 2 12656) (.cons _ _ _ _ (.same _) (.cons _ _ _ _ (.same _) (.cons _ _ _ _ (.str 3 7889268) (.cons _ _ _ _ (.same _) (.cons _ _ _ _ (.same _) (.cons _ _ _ _ (.str 3 6645601) (.cons _ _ _ _ (.same _) (.cons _ _ _ _ (.same _) (.cons _ _ _ _ (.sl0 5 false) (.cons _ _ _ _ (.sl0 1 false) (.cons _ _ _ _ (.same _) (.cons _ _ _ _ (.str 0 0) (.cons _ _ _ _ (.same _) (.cons _ _ _ _ (.sl0 4 false) (.cons _ _ _ _ (.same _) (.cons _ _ _ _ (.str 0 0) (.cons _ _ _ _ (.same _) (.cons _ _ _ _ (.sl0 4 false) (.cons _ _ _ _ (.same _) (.cons _ _ _ _ (.str 0 0) (.cons _ _ _ _ (.same _) (.cons _ _ _ _ (.sl0 4 false) .nil))))))))))))))))))))))
theorem zO7:ay Tryz.prog cx 53 [.bs Gw] (.tup [.agg (jA 5 17).cs,.int .i64 0,.int .i64 0]):=
 zNx.wk (.cons _ _ _ _ (.same _) .nil) (.tup _ _ (.cons _ _ _ _ (.agg _ _ zMf) (.cons _ _ _ _ (.same _) (.cons _ _ _ _ (.same _) .nil))))
theorem zNq:ay Tryz.prog cx 54 [.bs GX] (.tup [.agg (jA 6 18).cs,.int .i64 0,.int .i64 0]):=
 zUc.wk (.cons _ _ _ _ (.same _) .nil) (.tup _ _ (.cons _ _ _ _ (.agg _ _ zQb) (.cons _ _ _ _ (.same _) (.cons _ _ _ _ (.same _) .nil))))
theorem zTy:dI (wT 5 17)=g1:=by kernel_rfl
theorem zTn:eA d0 (bz (wT 5 17))=0∧cM d0 (bz (wT 5 17))=dI (wT 5 17):=
 Jx (f:=wT 5 17) (by kernel_rfl) (by simp[wT,iV,iH,iJ]) (by kernel_rfl) (by rw[show (bl (gI (wT 5 17)).2.L (gI (wT 5 17)).1).length=3 by kernel_rfl];omega)
theorem zRa:ew (jA 5 17) (jA 6 18):=by
 unfold ew;simp[jA]
theorem zSw:cG (jA 5 17) (jA 6 18) d0=⟨0,[],0⟩:=
 JG (c:=⟨false,[],0⟩) oI (by kernel_rfl) (by kernel_rfl) (by kernel_rfl:_=some d0) (by decide) zRa (by kernel_rfl) ((Jl (zTy ▸ zTn) (RD ▸ Ra) Gk Gk).trans (by kernel_rfl)) rfl
theorem zGr:ay Tryz.prog cx 12 [.agg (jA 5 17).cs,.agg (jA 6 18).cs,.agg [.fz 4 false (aP d0)]] (.tup [.agg [.int .i64 0,.fz 1 false []],.int .i64 0]):=by
 have h:=GC false (jA 5 17) (jA 6 18) d0 (by decide) (by decide) (by decide) Xj (by simp[jA]) (by simp[jA]) (by simp[jA,br.size,gJ]) (by simp[jA,br.size,gJ]);rw[zSw]at h;exact h
theorem zRk:GU=[.int .i64 2,.bs ⟨#[112,49]⟩,.bs .empty,.bs .empty,.bs Gw,.bs GX,.bool false]:=rfl
theorem zLp (A S:Pv)(D:AV)(hN:ay Tryz.prog cx 53 [.bs Gw] (.tup [.agg A.cs,.int .i64 0,.int .i64 0]))(hS:ay Tryz.prog cx 54 [.bs GX] (.tup [.agg S.cs,.int .i64 0,.int .i64 0]))
  (hD:ay Tryz.prog cx 12 [.agg A.cs,.agg S.cs,.agg [D]] (.tup [.agg [.int .i64 0,.fz 1 false []],.int .i64 0])) (hid:A.id=⟨#[112,49]⟩) (qi:bC A.cs=true):ay Tryz.prog cx 16 [.agg GU,.agg [D]] (.tup [.agg A.cs,.agg [.int .i64 0,.fz 1 false []],.int .i64 0]):=by
 obtain⟨T,hT⟩:∃T,A.cs=.bs ⟨#[112,49]⟩::T:=⟨_,by rw[← hid];rfl⟩;have l1:=A.cs_len;have l2:=S.cs_len;have o1:=vh A;have o2:=vh S;have z1:Gw.size=36:=rfl;have z2:GX.size=56:=rfl;rw[hT]at hN hD l1 o1 qi ⊢;simp only[List.length_cons]at l1;have l1:T.length=22:=by omega
 have k1:List.take 22 T=T:=ar (by omega);generalize S.cs=PS at *;have k2:List.take 23 PS=PS:=ar (by omega);refine ay.mkW fun h nx R hR=>aV (sz:=75) (rs:=[.cell 4 30,.cell 5 43,.tmp 6]) aE zUw rfl rfl rfl (by simp) ?_;have V:=Oz nx;simp-implicitDefEqProofs[go_sem,zRk,z1,z2,V];refine ay.use hN ?_;simp-implicitDefEqProofs[go_sem,aB,aG,l1,o1,V];refine ay.use hS ?_;simp-implicitDefEqProofs[go_sem,aB,aG,l1,l2,o2,k1,k2,V];refine ay.use hD ?_;simp-implicitDefEqProofs[go_sem,aB,aG];refine ik mixed aE eO [2,3] [] [(1,2)] (by kernel_rfl) ?_;simp-implicitDefEqProofs[go_sem,aG,l1,o1,k1];refine hR _ _ _ _ ?_ (Fz.same _ (by simpa[plain,bC]using qi)) (.same _);simp(disch:=omega)only[aL];exact aA.refl _ _
theorem zHe:ay Tryz.prog cx 16 [.agg GU,.agg [.fz 4 false (aP d0)]] (.tup [.agg (jA 5 17).cs,.agg [.int .i64 0,.fz 1 false []],.int .i64 0]):=
 zLp (jA 5 17) (jA 6 18) _ zO7 zNq zGr rfl (by kernel_rfl)
theorem ZN:ay Tryz.prog cx 8 [] (.bool true):=zGl zNp zIw zOu zQy (jA 5 17) rfl rfl zHe
end
end Go.Ev
