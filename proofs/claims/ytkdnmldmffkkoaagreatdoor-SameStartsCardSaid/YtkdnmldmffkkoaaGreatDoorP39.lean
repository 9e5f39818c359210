/- Texts AR. -/
import Derived.Test.YtkdnmldmffkkoaaGreatDoorP35
import Derived.Test.YtkdnmldmffkkoaaGreatDoorP38
set_option linter.unusedSimpArgs false
set_option linter.unusedVariables false
set_option maxRecDepth 100000
namespace Go.Ev
open Go.Proofs Go.RowKit
noncomputable section
attribute [-go_sem] zaf zac zay zbj
theorem zUw:cx.ft.get 16=some Tryz.f16:=za9 (by decide) (by kernel_rfl)
def pvA (c n:Int):Pv:=⟨⟨#[112,49]⟩,2,2,⟨#[116,97,120]⟩,5,wT c n,[],.mk 1 .empty 0 [],.mk 2 .empty 0 [],.mk 2 .empty 0 []⟩
theorem zLw:(pvA 5 17).cs=[.bs (zai 2 12656),.int .i64 2,.int .i64 2,.bs (zai 3 7889268),.int .i64 5,.int .i64 3,.bs (zai 3 6645601),.int .i64 5,.int .i64 17,.fz 5 false [],.fz 1 false [],.int .i64 1,.bs (zai 0 0),.int .i64 0,.fz 4 false [],.int .i64 2,.bs (zai 0 0),.int .i64 0,.fz 4 false [],.int .i64 2,.bs (zai 0 0),.int .i64 0,.fz 4 false []]:=by kernel_rfl
theorem zPn:(pvA 6 18).cs=[.bs (zai 2 12656),.int .i64 2,.int .i64 2,.bs (zai 3 7889268),.int .i64 5,.int .i64 3,.bs (zai 3 6645601),.int .i64 6,.int .i64 18,.fz 5 false [],.fz 1 false [],.int .i64 1,.bs (zai 0 0),.int .i64 0,.fz 4 false [],.int .i64 2,.bs (zai 0 0),.int .i64 0,.fz 4 false [],.int .i64 2,.bs (zai 0 0),.int .i64 0,.fz 4 false []]:=by kernel_rfl
theorem zMf:WkL zvz (pvA 5 17).cs:=by
 rw[zLw]
 exact .cons _ _ _ _ (.str 2 12656) (.cons _ _ _ _ (.same _) (.cons _ _ _ _ (.same _) (.cons _ _ _ _ (.str 3 7889268) (.cons _ _ _ _ (.same _) (.cons _ _ _ _ (.same _) (.cons _ _ _ _ (.str 3 6645601) (.cons _ _ _ _ (.same _) (.cons _ _ _ _ (.same _) (.cons _ _ _ _ (.sl0 5 false) (.cons _ _ _ _ (.sl0 1 false) (.cons _ _ _ _ (.same _) (.cons _ _ _ _ (.str 0 0) (.cons _ _ _ _ (.same _) (.cons _ _ _ _ (.sl0 4 false) (.cons _ _ _ _ (.same _) (.cons _ _ _ _ (.str 0 0) (.cons _ _ _ _ (.same _) (.cons _ _ _ _ (.sl0 4 false) (.cons _ _ _ _ (.same _) (.cons _ _ _ _ (.str 0 0) (.cons _ _ _ _ (.same _) (.cons _ _ _ _ (.sl0 4 false) .nil))))))))))))))))))))))
theorem zQb:WkL zw1 (pvA 6 18).cs:=by
 rw[zPn]
 exact .cons _ _ _ _ (.str 2 12656) (.cons _ _ _ _ (.same _) (.cons _ _ _ _ (.same _) (.cons _ _ _ _ (.str 3 7889268) (.cons _ _ _ _ (.same _) (.cons _ _ _ _ (.same _) (.cons _ _ _ _ (.str 3 6645601) (.cons _ _ _ _ (.same _) (.cons _ _ _ _ (.same _) (.cons _ _ _ _ (.sl0 5 false) (.cons _ _ _ _ (.sl0 1 false) (.cons _ _ _ _ (.same _) (.cons _ _ _ _ (.str 0 0) (.cons _ _ _ _ (.same _) (.cons _ _ _ _ (.sl0 4 false) (.cons _ _ _ _ (.same _) (.cons _ _ _ _ (.str 0 0) (.cons _ _ _ _ (.same _) (.cons _ _ _ _ (.sl0 4 false) (.cons _ _ _ _ (.same _) (.cons _ _ _ _ (.str 0 0) (.cons _ _ _ _ (.same _) (.cons _ _ _ _ (.sl0 4 false) .nil))))))))))))))))))))))
theorem zO7:Ret Tryz.prog cx 53 [.bs zn4] (.tup [.agg (pvA 5 17).cs,.int .i64 0,.int .i64 0]):=
 zNx.wk (.cons _ _ _ _ (.same _) .nil) (.tup _ _ (.cons _ _ _ _ (.agg _ _ zMf) (.cons _ _ _ _ (.same _) (.cons _ _ _ _ (.same _) .nil))))
theorem zNq:Ret Tryz.prog cx 54 [.bs znt] (.tup [.agg (pvA 6 18).cs,.int .i64 0,.int .i64 0]):=
 zUc.wk (.cons _ _ _ _ (.same _) .nil) (.tup _ _ (.cons _ _ _ _ (.agg _ _ zQb) (.cons _ _ _ _ (.same _) (.cons _ _ _ _ (.same _) .nil))))
theorem zTy:dI (wT 5 17)=g1:=by kernel_rfl
theorem zTn:zbx d0 (zan (wT 5 17))=0∧zd4 d0 (zan (wT 5 17))=dI (wT 5 17):=
 zp4 (f:=wT 5 17) (by kernel_rfl) (by simp[wT,zct,zce,zcj]) (by kernel_rfl) (by rw[show (zc8 (gI (wT 5 17)).2.L (gI (wT 5 17)).1).length=3 by kernel_rfl];omega)
theorem zRa:zg8 (pvA 5 17) (pvA 6 18):=by
 unfold zg8
 simp[pvA]
theorem zSw:zc9 (pvA 5 17) (pvA 6 18) d0=⟨0,[],0⟩:=
 zpc (c:=⟨false,[],0⟩) zf1 (by kernel_rfl) (by kernel_rfl) (by kernel_rfl:_=some d0) (by decide) zRa (by kernel_rfl) ((zos (zTy ▸ zTn) (zvs ▸ zv0) w11 w11).trans (by kernel_rfl)) rfl
theorem zGr:Ret Tryz.prog cx 12 [.agg (pvA 5 17).cs,.agg (pvA 6 18).cs,.agg [.fz 4 false (za8 d0)]] (.tup [.agg [.int .i64 0,.fz 1 false []],.int .i64 0]):=by
 have h:=znc false (pvA 5 17) (pvA 6 18) d0 (by decide) (by decide) (by decide) zBa (by simp[pvA]) (by simp[pvA]) (by simp[pvA,Stt.size,zbr]) (by simp[pvA,Stt.size,zbr])
 rw[zSw]at h
 exact h
theorem zRk:znr=[.int .i64 2,.bs ⟨#[112,49]⟩,.bs .empty,.bs .empty,.bs zn4,.bs znt,.bool false]:=rfl
set_option maxHeartbeats 4000000 in
theorem zLp (A S:Pv)(D:AV)(hN:Ret Tryz.prog cx 53 [.bs zn4] (.tup [.agg A.cs,.int .i64 0,.int .i64 0]))(hS:Ret Tryz.prog cx 54 [.bs znt] (.tup [.agg S.cs,.int .i64 0,.int .i64 0]))
  (hD:Ret Tryz.prog cx 12 [.agg A.cs,.agg S.cs,.agg [D]] (.tup [.agg [.int .i64 0,.fz 1 false []],.int .i64 0])) (hid:A.id=⟨#[112,49]⟩) (hpl:zah A.cs=true):Ret Tryz.prog cx 16 [.agg znr,.agg [D]] (.tup [.agg A.cs,.agg [.int .i64 0,.fz 1 false []],.int .i64 0]):=by
 obtain⟨T,hT⟩:∃T,A.cs=.bs ⟨#[112,49]⟩::T:=⟨_,by rw[← hid];rfl⟩
 have l1:=A.cs_len
 have l2:=S.cs_len
 have o1:=zih A
 have o2:=zih S
 have z1:zn4.size=36:=rfl
 have z2:znt.size=56:=rfl
 rw[hT]at hN hD l1 o1 hpl ⊢
 simp only[List.length_cons]at l1
 have l1:T.length=22:=by omega
 have k1:List.take 22 T=T:=List.take_of_length_le (by omega)
 generalize S.cs=PS at *
 have k2:List.take 23 PS=PS:=List.take_of_length_le (by omega)
 refine Ret.mkW fun h nx R hR=>zaa (sz:=75) (rs:=[.cell 4 30,.cell 5 43,.tmp 6]) za4 zUw rfl rfl rfl (by simp) ?_
 have V:=nxV nx
 simp-implicitDefEqProofs[go_sem,zRk,za3,z1,z2,V]
 refine Ret.use hN ?_
 simp-implicitDefEqProofs[go_sem,za0,za3,z1,z2,l1,o1,V]
 refine Ret.use hS ?_
 simp-implicitDefEqProofs[go_sem,za0,za3,z1,z2,l1,o1,l2,o2,k1,k2,V]
 refine Ret.use hD ?_
 simp-implicitDefEqProofs[go_sem,za0,za3,z1,z2,l1,o1,l2,o2,k1,k2,V]
 refine zbq mixed za4 zbe [2,3] [] [(1,2)] (by kernel_rfl) ?_
 simp-implicitDefEqProofs[go_sem,za0,zas,za3,z1,z2,l1,o1,l2,o2,k1,k2,V]
 refine hR _ _ _ _ ?_ (Fz.same _ (by simpa[plain,zah]using hpl)) (.same _)
 simp(disch:=omega)only[za6]
 exact Ext.refl _ _
theorem zHe:Ret Tryz.prog cx 16 [.agg znr,.agg [.fz 4 false (za8 d0)]] (.tup [.agg (pvA 5 17).cs,.agg [.int .i64 0,.fz 1 false []],.int .i64 0]):=
 zLp (pvA 5 17) (pvA 6 18) _ zO7 zNq zGr rfl (by kernel_rfl)
theorem zL4:Ret Tryz.prog cx 8 [] (.bool true):=zGl zNp zIw zOu zQy (pvA 5 17) rfl rfl zHe
end
end Go.Ev
