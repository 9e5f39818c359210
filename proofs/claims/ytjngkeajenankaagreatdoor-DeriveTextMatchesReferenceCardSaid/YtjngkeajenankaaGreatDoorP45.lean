/- Texts X9. -/
import Derived.Test.YtjngkeajenankaaGreatDoorP44
set_option linter.unusedSimpArgs false
set_option linter.unusedVariables false
set_option maxRecDepth 100000
namespace Go.Ev
open Go.Proofs Go.RowKit
noncomputable section
attribute [-go_sem] pPick lookRes evConvS evStrB
theorem ft3:cx.ft.get 3=some Tryz.f3:=cxS_ft (by decide) (by kernel_rfl)
set_option maxHeartbeats 4000000 in
theorem law_c (d:Dv)(hd:d.Fit):Ret Tryz.prog cx 3 [.agg d.cs] (.bool true):=by
 refine Ret.mk fun h nx R hR=>ACall_mk (sz:=34) (rs:=[.tmp 2]) cxok ft3 rfl rfl rfl (by simp) ?_
 have hR':∀b g ny,Ext nx h g→b=true→R (.bool b) g ny:=fun b g ny e1 e2=>hR _ _ _ e1 (Fz.eq rfl (by rw[e2]))
 have hs:=short_c d hd
 have hl:d.cs.length=11:=rfl
 have hc:allOne d.cs=true:=rfl
 have h6:=fun q:d.short=>text_c d (Dv.ok_of_short q) q
 have h7:=fun q:d.short=>rtext_c d (Dv.ok_of_short q) q
 generalize d.cs=L at hs h6 h7 hl hc
 have tk:L.take 11=L:=List.take_of_length_le (by omega)
 simp-implicitDefEqProofs[go_sem,segL]
 refine Ret.use head_c ?_
 simp-implicitDefEqProofs[go_sem,goOn_some,hl,tk]
 refine Ret.use hs ?_
 by_cases hsh:d.short
 rotate_left
 ·simp-implicitDefEqProofs[go_sem,goOn_some,hsh]
  exact hR' _ _ _ ((ext_put (by omega)).2 (Ext.refl _ _)) rfl
 have h6:=h6 hsh
 have h7:=h7 hsh
 simp-implicitDefEqProofs[go_sem,goOn_some,hsh,hl,tk]
 obtain⟨T,n,h6,h7⟩:∃(T:ByteArray) (n:Int),Ret Tryz.prog cx 6 [.agg L] (.tup [.bs T,.int .i64 n])∧Ret Tryz.prog cx 7 [.agg L] (.tup [.bs T,.int .i64 n]):=by
  cases hb:frmB rnmB isB d with
  |false=>rw[hb]at h6 h7;exact⟨_,_,h6,h7⟩
  |true=>rw[hb]at h6 h7;exact⟨_,_,h6,h7⟩
 refine Ret.use h6 ?_
 simp-implicitDefEqProofs[go_sem,goOn_some,hl,tk]
 refine Ret.use h7 ?_
 simp-implicitDefEqProofs[go_sem,goOn_some,hl,tk]
 exact hR' _ _ _ ((ext_put (by omega)).2 (Ext.refl _ _)) rfl
end
end Go.Ev
