/- Texts T23 T24 T25 T27 T39 T34 T40. -/
import Derived.Test.YtkdnmldmffkkoaaGreatDoorLays
import Derived.Test.YtkdnmldmffkkoaaGreatDoorP17
import Derived.Test.YtkdnmldmffkkoaaGreatDoorP16
set_option linter.unusedSimpArgs false
set_option linter.unusedVariables false
set_option maxRecDepth 100000
namespace Go.Ev
open Go.Proofs
noncomputable section
attribute [-go_sem] zaf zac
theorem za7.mkW {P:Program}{c:Cx}{f:FuncId}{args:List AV}{u:AV}{h:Tr ABlk}{nx:Nat}(hr:∀(R:AV→Tr ABlk→Nat→Prop),(∀v g ny u',Ext nx h g→Fz g nx v u'→Wk u' u→R v g ny)→za7 P c f args h nx R):za7 P c f args h nx (fun v g ny=>v=u∧g=h∧ny=nx):=by
 have:=za7.frz (R:=fun v=>Wk v u) (hr _ fun v g ny u' h1 h2 h3=>⟨h1,u',h2,h3⟩)
 exact this.wkR fun v g ny ⟨e1,e2,e3⟩=>⟨u,e1,rfl,e2,e3⟩
theorem za7.useE {P:Program}{c:Cx}{f:FuncId}{args:List AV}{u:AV}{h:Tr ABlk}{nx:Nat}{R:AV→Tr ABlk→Nat→Prop}(hc:za7 P c f args h nx (fun v g ny=>v=u∧g=h∧ny=nx))(hR:R u h nx):za7 P c f args h nx R:=
 hc.mono fun v g ny ⟨e1,e2,e3⟩=>by subst e1;subst e2;subst e3;exact hR
theorem zNa:cx.ft.get 147=some Tryz.f147:=za9 (by decide) (by kernel_rfl)
theorem zH0:cx.ft.get 94=some Tryz.f94:=za9 (by decide) (by kernel_rfl)
mutual
def zan:Fm→Fm
 |.mk o n c m kids=>if o=4 then .mk 3 n 1 1 [] else .mk o n c m (zl4 kids)
def zl4:List Fm→List Fm
 |[]=>[]
 |f::l=>zan f::zl4 l
end
theorem zEr:∀l:List Fm,zl4 l=l.map zan
 |[]=>rfl
 |f::l=>by rw[zl4,zEr l];rfl
set_option maxHeartbeats 2000000 in
theorem zRl (n:Nat):∀(f:Fm)(h:Tr ABlk) (nx a:Nat),f.size≤n→n≤1000000→a<nx→h.get a=some (bx 70 [.func 147 [] [.ptr a 0]] false 0)→za7 Tryz.prog cx 147 [.agg f.cs,.ptr a 0] h nx (fun v g ny=>v=.agg (zan f).cs∧g=h∧ny=nx):=by
 induction n with
 |zero=>intro f h nx a hf;cases f;simp[Fm.size]at hf
 |succ n ih=>
 rintro⟨o,nn,cm,m,kids⟩ h nx a hf hn ha ga
 simp only[Fm.size]at hf
 refine za7.mkW fun R hR=>zaa (sz:=32) (rs:=[.cell 3 24]) za4 zNa rfl rfl rfl (by simp) ?_
 have E2:∀x y z,Ext nx h (((h.put nx x).put (nx+1) y).put (nx+1) z):=fun x y z=>(((Ext.refl nx h).put (Nat.le_refl _) _).put (by omega) _).put (by omega) _
 have na:¬a=nx:=by omega
 have na1:¬a=nx+1:=by omega
 by_cases e4:o=4
 ·simp-implicitDefEqProofs[go_sem,e4,Fm.cs,za3]
  refine hR _ _ _ (.agg [.int .i64 3,.bs nn,.int .i64 1,.int .i64 1,.sl0]) (E2 _ _ _) (Fz.eq rfl rfl) ?_
  rw[zan,if_pos e4]
  exact .agg _ _ (.cons _ _ _ _ (.same _) (.cons _ _ _ _ (.same _) (.cons _ _ _ _ (.same _) (.cons _ _ _ _ (.same _) (.cons _ _ _ _ (.sl0 5 false) .nil)))))
 ·have hres:zan (.mk o nn cm m kids)=.mk o nn cm m (kids.map zan):=by rw[zan,if_neg e4,zEr]
  rw[hres]at hR
  have hsl:=zjw kids
  simp-implicitDefEqProofs[go_sem,e4,Fm.cs,za3]
  refine zap (fun mm st=>∃tm h' nx' k kc,st=.mk tm h' nx' []∧mm=kids.length-k∧k≤kids.length∧tm.get 1=some (.ptr a 0)∧tm.get 2=some (.ptr nx 0)∧tm.get 3=some (.ptr (nx+1) 0)∧tm.get 16=some (.fz 5 false (zat kids))∧tm.get 17=some (.int .i64 (kids.length:Int))∧tm.get 18=some (.int .i64 (k:Int))∧
   ((k=0∧kc=.sl0)∨(0<k∧∃b,nx+1<b∧b<nx'∧kc=.sl b 0 k 0 true∧h'.get b=some (bx 24 (((kids.map zan).take k).flatMap Fm.cs) true 5)))∧
   h'.get nx=some (bx 24 [.int .i64 o,.bs nn,.int .i64 cm,.int .i64 m,kc] false 0)∧h'.get (nx+1)=some (bx 24 [.int .i64 0,.bs .empty,.int .i64 0,.int .i64 0,.sl0] false 0)∧Ext nx h h'∧nx+2≤nx') ⟨kids.length,_,_,_,0,.sl0,rfl,by simp,by simp,?_⟩ ?_
  ·simp-implicitDefEqProofs[go_sem]
   simp(disch:=omega)only[za6]
   exact Ext.refl nx h
  ·rintro mm st ⟨tm,h',nx',k,kc,rfl,rfl,hk,t1,t2,t3,t16,t17,t18,hkc,g0,g1,he,hn'⟩ J hJ
   refine zag za4 _ ?_
   have n0:¬nx=nx':=by omega
   have n1:¬nx+1=nx':=by omega
   have n2:¬a=nx':=by omega
   have ga':h'.get a=some (bx 70 [.func 147 [] [.ptr a 0]] false 0):=by rw[he a ha];exact ga
   by_cases hlt:k<kids.length
   ·obtain⟨s1,_,s3⟩:=zfn hlt
    simp-implicitDefEqProofs[go_sem,t1,t2,t3,t16,t17,t18,hlt]
    refine zbq mixed za4 zbe [6,8] [4] [] (by kernel_rfl) ?_
    simp-implicitDefEqProofs[go_sem,t1,t2,t3,t16,t17,t18,n0,n1,n2,g0,ga']
    have ck:=ih kids[k] ((h'.put nx' (some (bx 24 [.int .i64 0,.bs .empty,.int .i64 0,.int .i64 0,.sl0] false 0))).put nx' (some (bx 24 kids[k].cs false 0))) (nx'+1) a (by omega) (by omega) (by omega) (by simp[go_sem,n2,ga'])
    refine zKp (by kernel_rfl) ck ?_
    have e1:¬nx=nx'+1:=by omega
    have e2:¬nx+1=nx'+1:=by omega
    have e3:¬nx'+1=nx:=by omega
    have htk:((kids.map zan).take (k+1)).flatMap Fm.cs=((kids.map zan).take k).flatMap Fm.cs++(zan kids[k]).cs:=by
     rw[List.take_succ_eq_append_getElem (show k<(kids.map zan).length by simpa using hlt)]
     simp[-List.take_append_getElem]
    have HT:=Lib.hid htk
    clear htk
    rcases hkc with⟨k0,kc0⟩ |⟨k0,b,b1,b2,kc0,b4⟩
    ·subst k0
     subst kc0
     simp-implicitDefEqProofs[go_sem,zas,t1,t2,t3,t16,t17,t18,n0,n1,g0,e1,e2,za3]
     refine hJ (kids.length-(0+1)) _ (by omega) ⟨_,_,_,0+1,.sl (nx'+1) 0 1 0 true,rfl,rfl,by omega,?_⟩
     simp(disch:=omega) [go_sem,t1,t2,t3,t16,t17,t18,zab,n0,n1,g0,g1,e1,e2]
     refine⟨⟨nx'+1,by omega,by omega,rfl,?_⟩,?_,by omega⟩
     ·have hh:=HT.out
      simp at hh
      simp[hh,e3]
     ·simp(disch:=omega)only[za6]
      exact he
    ·have nb:¬b=nx':=by omega
     have nb1:¬nx=b:=by omega
     have nb2:¬nx+1=b:=by omega
     have hlk:((kids.map zan).take k).length=k:=by simp;omega
     have fl:=zAl ((kids.map zan).take k)
     rw[hlk]at fl
     have fo:=zsq ((kids.map zan).take k)
     have fo2:zba (zan kids[k]).cs=true:=by cases zan kids[k];rfl
     have fl2:(zan kids[k]).cs.length=5:=by cases zan kids[k];rfl
     have hle:k+1≤16777216:=by omega
     subst kc0
     simp-implicitDefEqProofs[go_sem,zas,t1,t2,t3,t16,t17,t18,n0,n1,g0,b4,nb,nb1,nb2,fl,fo,fo2,fl2,hle,e1,e2,za3]
     refine hJ (kids.length-(k+1)) _ (by omega) ⟨_,_,_,k+1,.sl (nx'+1) 0 (k+1) 0 true,rfl,rfl,by omega,?_⟩
     simp(disch:=omega) [go_sem,t1,t2,t3,t16,t17,t18,zab,n0,n1,g0,g1,e1,e2,e3,nb1,nb2]
     refine⟨⟨nx'+1,by omega,by omega,rfl,by simp[e3,HT.out]⟩,?_,by omega⟩
     simp(disch:=omega)only[za6]
     exact he
   ·have hkk:k=kids.length:=by omega
    rcases hkc with⟨k0,kc0⟩ |⟨k0,b,b1,b2,kc0,b4⟩
    ·have zgs:kids=[]:=List.eq_nil_of_length_eq_zero (by omega)
     subst kc0
     simp-implicitDefEqProofs[go_sem,t1,t2,t3,t16,t17,t18,hlt,g0,g1]
     refine hR _ _ _ (.agg [.int .i64 o,.bs nn,.int .i64 cm,.int .i64 m,.sl0]) (he.put (by omega) _) (Fz.eq rfl rfl) ?_
     rw[zgs]
     exact .agg _ _ (.cons _ _ _ _ (.same _) (.cons _ _ _ _ (.same _) (.cons _ _ _ _ (.same _) (.cons _ _ _ _ (.same _) (.cons _ _ _ _ (.sl0 5 false) .nil)))))
    ·have nb4:¬b=nx+1:=by omega
     have hfull:(kids.map zan).take k=kids.map zan:=List.take_of_length_le (by simp;omega)
     rw[hfull]at b4
     have hkl:k=(kids.map zan).length:=by simp;omega
     subst kc0
     simp-implicitDefEqProofs[go_sem,t1,t2,t3,t16,t17,t18,hlt,g0,g1]
     refine hR _ _ _ (.agg [.int .i64 o,.bs nn,.int .i64 cm,.int .i64 m,.fz 5 false (zat (kids.map zan))]) (he.put (by omega) _) ?_ (.same _)
     rw[hkl]
     refine .agg _ _ (.cons _ _ _ _ (.int _ _) (.cons _ _ _ _ (.bs _) (.cons _ _ _ _ (.int _ _) (.cons _ _ _ _ (.int _ _) (.cons _ _ _ _ (fzK (s:=kids.map zan) (opn:=true) (esz:=5) (by omega) ?_) .nil)))))
     simp[go_sem,nb4,b4]
theorem zFh (f:Fm)(hf:f.size≤1000000):Ret Tryz.prog cx 94 [.agg f.cs] (.agg (zan f).cs):=by
 refine Ret.mk fun h nx R hR=>zaa (sz:=8) (rs:=[.cell 2 24]) za4 zH0 rfl rfl rfl (by simp) ?_
 have q1:¬nx=nx+1+1:=by omega
 have q2:¬nx+1=nx+1+1:=by omega
 simp-implicitDefEqProofs[go_sem,q1,q2]
 refine za7.useE (zRl f.size f _ _ (nx+1+1) (Nat.le_refl _) hf ?_ ?_) ?_
 ·omega
 ·simp[go_sem]
 generalize zan f=g at hR
 cases g with
 |mk o' n' c' m' k'=>
 simp-implicitDefEqProofs[go_sem,za0,Fm.cs,q1,q2]
 refine hR _ _ _ ?_ (Fz.eq (zko (.mk o' n' c' m' k')) rfl)
 simp(disch:=omega)only[za6]
 exact Ext.refl nx h
theorem zSv:cx.ft.get 137=some Tryz.f137:=za9 (by decide) (by kernel_rfl)
mutual
def zct:List ByteArray→Fm→List ByteArray
 |U,.mk o n _ _ kids=>zce (if o=3 then zcj U n else U) kids
def zce:List ByteArray→List Fm→List ByteArray
 |U,[]=>U
 |U,f::l=>zce (zct U f) l
end
def zck (U:List ByteArray):ABlk:=.map (zc0 U 0) U.length
def But (i nx:Nat)(h g:Tr ABlk):Prop:=∀k,k<nx→k≠i→g.get k=h.get k
theorem But.put {i nx:Nat}{h g:Tr ABlk}(e:But i nx h g){j:Nat}(hj:nx≤j∨j=i)(B:Option ABlk):But i nx h (g.put j B):=fun k hk hne=>by
 rw[Tr.get_put,if_neg (by omega)];exact e k hk hne
theorem But.trans {i nx ny:Nat}{h g f:Tr ABlk}(p:But i nx h g)(hl:nx≤ny)(q:But i ny g f):But i nx h f:=fun k hk hne=>by rw[q k (by omega) hne,p k hk hne]
theorem zR0 {U:List ByteArray}{x:ByteArray}(h:x∈U):zcj U x=U:=by unfold zcj;rw[if_pos h]
theorem zHd {U:List ByteArray}{x:ByteArray}(h:¬x∈U):zcj U x=U++[x]:=by unfold zcj;rw[if_neg h]
set_option maxHeartbeats 1000000 in
theorem zMj (n:Nat):∀(f:Fm)(U:List ByteArray)(h:Tr ABlk) (nx i:Nat)(R:AV→Tr ABlk→Nat→Prop),f.size≤n→n≤1000000→i<nx→h.get i=some (zck U)→(∀g ny,But i nx h g→g.get i=some (zck (zct U f))→nx≤ny→R (.map i) g ny)→za7 Tryz.prog cx 137 [.agg f.cs,.map i] h nx R:=by
 induction n with
 |zero=>intro f U h nx i R hf;cases f;simp[Fm.size]at hf
 |succ n ih=>
 rintro⟨o,nn,cm,m,kids⟩ U h nx i R hf hn hi gi hR
 simp only[Fm.size]at hf
 simp only[zct]at hR
 refine zaa (sz:=25) (rs:=[.tmp 4]) za4 zSv rfl rfl rfl (by simp) ?_
 have hni:¬i=nx:=by omega
 have hin:¬nx=i:=by omega
 have hsl:=zjw kids
 obtain⟨V0,hV0⟩:∃V0,V0=if o=3 then zcj U nn else U:=⟨_,rfl⟩
 rw[← hV0]at hR
 have hcase:(¬o=3∧V0=U)∨(o=3∧nn∈U∧V0=U)∨(o=3∧¬nn∈U∧V0=U++[nn]):=by
  by_cases e3:o=3
  ·rw[if_pos e3]at hV0
   by_cases hu:nn∈U
   ·exact .inr (.inl ⟨e3,hu,by rw[hV0,zR0 hu]⟩)
   ·exact .inr (.inr ⟨e3,hu,by rw[hV0,zHd hu]⟩)
  ·rw[if_neg e3]at hV0
   exact .inl ⟨e3,hV0⟩
 clear hV0
 have gi0:h.get i=some (.map (zc0 U 0) U.length):=gi
 rcases hcase with⟨e3,hV⟩ |⟨e3,hu,hV⟩ |⟨e3,hu,hV⟩
 ·simp-implicitDefEqProofs[go_sem,e3,Fm.cs]
  have hm:(h.put nx (some (bx 24 [.int .i64 o,.bs nn,.int .i64 cm,.int .i64 m,.fz 5 false (zat kids)] false 0))).get i=some (zck V0):=by simp[go_sem,hni,gi,hV]
  have hbt:But i nx h (h.put nx (some (bx 24 [.int .i64 o,.bs nn,.int .i64 cm,.int .i64 m,.fz 5 false (zat kids)] false 0))):=But.put (fun _ _ _=>rfl) (.inl (Nat.le_refl _)) _
  generalize h.put nx (some (bx 24 [.int .i64 o,.bs nn,.int .i64 cm,.int .i64 m,.fz 5 false (zat kids)] false 0))=h0 at hm hbt
  refine zap (fun mm st=>∃tm h' nx' k V,st=.mk tm h' nx' []∧mm=kids.length-k∧k≤kids.length∧tm.get 1=some (.map i)∧tm.get 14=some (.fz 5 false (zat kids))∧tm.get 15=some (.int .i64 (kids.length:Int))∧tm.get 16=some (.int .i64 (k:Int))∧But i nx h h'∧h'.get i=some (zck V)∧nx≤nx'∧RowKit.Hid (zce V0 kids=zce V (kids.drop k))) ⟨kids.length,_,_,_,0,V0,rfl,by simp,by simp,?_⟩ ?_
  ·simp-implicitDefEqProofs[go_sem,hm,hbt]
   exact Lib.hid trivial
  ·rintro mm st ⟨tm,h',nx',k,V,rfl,rfl,hk,t1,t14,t15,t16,hb,gi',hn',hv⟩ J hJ
   refine zag za4 _ ?_
   have n1:¬i=nx':=by omega
   by_cases hlt:k<kids.length
   ·obtain⟨s1,_,s3⟩:=zfn hlt
    have HD:=Lib.hid (show zce V (kids.drop k)=zce (zct V kids[k]) (kids.drop (k+1)) by rw[List.drop_eq_getElem_cons hlt,zce])
    simp-implicitDefEqProofs[go_sem,t1,t14,t15,t16,hlt]
    refine ih kids[k] V _ _ i _ ?_ ?_ ?_ ?_ fun g ny b1 b2 b3=>?_
    ·omega
    ·omega
    ·omega
    ·simp[go_sem,n1,gi']
    simp-implicitDefEqProofs[go_sem,za0,t1,t14,t15,t16]
    refine hJ (kids.length-(k+1)) _ (by omega) ⟨_,_,_,k+1,zct V kids[k],rfl,rfl,by omega,?_⟩
    simp(disch:=omega) [go_sem,t1,t14,t15,t16,zab]
    exact⟨(But.put (But.put hb (.inl hn') _) (.inl hn') _).trans (by omega) b1,b2,by omega,Lib.hid (by rw[hv.out,HD.out])⟩
   ·simp-implicitDefEqProofs[go_sem,t1,t14,t15,t16,hlt]
    refine hR _ _ hb ?_ hn'
    rw[gi',hv.out,List.drop_of_length_le (by omega),zce]
 ·obtain⟨j,h1,h2⟩:=zou 0 hu
  rw[Nat.zero_add]at h2
  have h3:=zwp h1
  simp-implicitDefEqProofs[go_sem,e3,Fm.cs,hni,hin,gi0,h2]
  generalize hg0:Tr.put _ i _=h0
  have hm:h0.get i=some (zck V0):=by
   rw[← hg0,hV]
   simp[go_sem,zck]
   exact h3
  have hbt:But i nx h h0:=by
   rw[← hg0]
   exact(But.put (fun _ _ _=>rfl) (.inl (Nat.le_refl _)) _).put (.inr rfl) _
  refine zap (fun mm st=>∃tm h' nx' k V,st=.mk tm h' nx' []∧mm=kids.length-k∧k≤kids.length∧tm.get 1=some (.map i)∧tm.get 14=some (.fz 5 false (zat kids))∧tm.get 15=some (.int .i64 (kids.length:Int))∧tm.get 16=some (.int .i64 (k:Int))∧But i nx h h'∧h'.get i=some (zck V)∧nx≤nx'∧RowKit.Hid (zce V0 kids=zce V (kids.drop k))) ⟨kids.length,_,_,_,0,V0,rfl,by simp,by simp,?_⟩ ?_
  ·simp-implicitDefEqProofs[go_sem,hm,hbt]
   exact Lib.hid trivial
  ·rintro mm st ⟨tm,h',nx',k,V,rfl,rfl,hk,t1,t14,t15,t16,hb,gi',hn',hv⟩ J hJ
   refine zag za4 _ ?_
   have n1:¬i=nx':=by omega
   by_cases hlt:k<kids.length
   ·obtain⟨s1,_,s3⟩:=zfn hlt
    have HD:=Lib.hid (show zce V (kids.drop k)=zce (zct V kids[k]) (kids.drop (k+1)) by rw[List.drop_eq_getElem_cons hlt,zce])
    simp-implicitDefEqProofs[go_sem,t1,t14,t15,t16,hlt]
    refine ih kids[k] V _ _ i _ ?_ ?_ ?_ ?_ fun g ny b1 b2 b3=>?_
    ·omega
    ·omega
    ·omega
    ·simp[go_sem,n1,gi']
    simp-implicitDefEqProofs[go_sem,za0,t1,t14,t15,t16]
    refine hJ (kids.length-(k+1)) _ (by omega) ⟨_,_,_,k+1,zct V kids[k],rfl,rfl,by omega,?_⟩
    simp(disch:=omega) [go_sem,t1,t14,t15,t16,zab]
    exact⟨(But.put (But.put hb (.inl hn') _) (.inl hn') _).trans (by omega) b1,b2,by omega,Lib.hid (by rw[hv.out,HD.out])⟩
   ·simp-implicitDefEqProofs[go_sem,t1,t14,t15,t16,hlt]
    refine hR _ _ hb ?_ hn'
    rw[gi',hv.out,List.drop_of_length_le (by omega),zce]
 ·simp-implicitDefEqProofs[go_sem,e3,Fm.cs,hni,hin,gi0,hu]
  generalize hg0:Tr.put _ i _=h0
  have hm:h0.get i=some (zck V0):=by
   rw[← hg0,hV,zck,← zom]
   simp[go_sem]
  have hbt:But i nx h h0:=by
   rw[← hg0]
   exact(But.put (fun _ _ _=>rfl) (.inl (Nat.le_refl _)) _).put (.inr rfl) _
  refine zap (fun mm st=>∃tm h' nx' k V,st=.mk tm h' nx' []∧mm=kids.length-k∧k≤kids.length∧tm.get 1=some (.map i)∧tm.get 14=some (.fz 5 false (zat kids))∧tm.get 15=some (.int .i64 (kids.length:Int))∧tm.get 16=some (.int .i64 (k:Int))∧But i nx h h'∧h'.get i=some (zck V)∧nx≤nx'∧RowKit.Hid (zce V0 kids=zce V (kids.drop k))) ⟨kids.length,_,_,_,0,V0,rfl,by simp,by simp,?_⟩ ?_
  ·simp-implicitDefEqProofs[go_sem,hm,hbt]
   exact Lib.hid trivial
  ·rintro mm st ⟨tm,h',nx',k,V,rfl,rfl,hk,t1,t14,t15,t16,hb,gi',hn',hv⟩ J hJ
   refine zag za4 _ ?_
   have n1:¬i=nx':=by omega
   by_cases hlt:k<kids.length
   ·obtain⟨s1,_,s3⟩:=zfn hlt
    have HD:=Lib.hid (show zce V (kids.drop k)=zce (zct V kids[k]) (kids.drop (k+1)) by rw[List.drop_eq_getElem_cons hlt,zce])
    simp-implicitDefEqProofs[go_sem,t1,t14,t15,t16,hlt]
    refine ih kids[k] V _ _ i _ ?_ ?_ ?_ ?_ fun g ny b1 b2 b3=>?_
    ·omega
    ·omega
    ·omega
    ·simp[go_sem,n1,gi']
    simp-implicitDefEqProofs[go_sem,za0,t1,t14,t15,t16]
    refine hJ (kids.length-(k+1)) _ (by omega) ⟨_,_,_,k+1,zct V kids[k],rfl,rfl,by omega,?_⟩
    simp(disch:=omega) [go_sem,t1,t14,t15,t16,zab]
    exact⟨(But.put (But.put hb (.inl hn') _) (.inl hn') _).trans (by omega) b1,b2,by omega,Lib.hid (by rw[hv.out,HD.out])⟩
   ·simp-implicitDefEqProofs[go_sem,t1,t14,t15,t16,hlt]
    refine hR _ _ hb ?_ hn'
    rw[gi',hv.out,List.drop_of_length_le (by omega),zce]
def zpe (B:Option ABlk) (m:Nat)(news:List AV) (e size:Nat)(h:Tr ABlk) (nx:Nat):R:=match B with
 |some (.cells _ _ _ _ _)=>match Nat.ble m 16777216 with
  |false=>.fail
  |true=>.val (.sl nx 0 m 0 true) (h.put nx (some (bx e news true size))) (nx+1)
 |_=>.fail
@[go_sem] theorem ybv (m:Nat)(news:List AV) (e size i:Nat)(h:Tr ABlk) (nx:Nat):zf0 true (m+1) news e size (.sl i 0 0 0 false) h nx=zpe (h.get i) (m+1) news e size h nx:=by
 unfold zf0 zpe
 simp only
 cases h.get i with
 |none=>rfl
 |some B=>
  cases B <;> try rfl
  simp only[Nat.add_eq,Nat.zero_add]
  cases Nat.ble (m+1) 16777216 with
  |false=>rfl
  |true=>
   simp only[Nat.mul_eq,Nat.zero_mul,Nat.add_zero]
   have h1 (n:Nat):Nat.ble 0 n=true:=Nat.ble_eq_true_of_le (Nat.zero_le n)
   have h2:Nat.beq (m+1) 0=false:=rfl
   simp[h1,h2]
@[go_sem] theorem zZr (t:TypeId)(l:List AV)(opn:Bool) (esz m:Nat)(news:List AV) (e size:Nat)(h:Tr ABlk) (nx:Nat)(hm:m≤16777216):zpe (some (bx t l opn esz)) m news e size h nx=.val (.sl nx 0 m 0 true) (h.put nx (some (bx e news true size))) (nx+1):=by
 have:Nat.ble m 16777216=true:=Nat.ble_eq_true_of_le hm
 simp[zpe,bx,this]
theorem zzt:cx.ft.get 40=some Tryz.f40:=za9 (by decide) (by kernel_rfl)
theorem zNz (full:Bool)(v:AV)(vs:List AV)(h1:zba ((v::vs).flatMap AV.cells)=true)(hl:vs.length+1≤16777216)(h:Tr ABlk) (nx:Nat)(R:AV→Tr ABlk→Nat→Prop)(hR:∀g q ny,Ext nx h g→nx≤q→q<ny→g.get q=some (bx 65 ((v::vs).flatMap AV.cells) true 4)→R (.sl q 0 (vs.length+1) 0 true) g ny):za7 Tryz.prog cx 40 [.fz 4 full (v::vs)] h nx R:=by
 refine zaa (sz:=8) (rs:=[.tmp 2]) za4 zzt rfl rfl rfl (by simp) ?_
 generalize h0:(v::vs).flatMap AV.cells=fl at h1 hR
 simp-implicitDefEqProofs[go_sem,-List.flatMap_cons,h0,h1,hl]
 refine hR _ _ _ ?_ ?_ ?_ ?_
 ·simp(disch:=omega)only[za6]
  exact Ext.refl nx h
 ·omega
 ·omega
 ·simp[go_sem]
theorem zy5:cx.ft.get 41=some Tryz.f41:=za9 (by decide) (by kernel_rfl)
theorem zLy (full:Bool)(v:AV)(vs:List AV)(h1:zba ((v::vs).flatMap AV.cells)=true)(hl:vs.length+1≤16777216)(h:Tr ABlk) (nx:Nat)(R:AV→Tr ABlk→Nat→Prop)(hR:∀g q ny,Ext nx h g→nx≤q→q<ny→g.get q=some (bx 9 ((v::vs).flatMap AV.cells) true 1)→R (.sl q 0 (vs.length+1) 0 true) g ny):za7 Tryz.prog cx 41 [.fz 1 full (v::vs)] h nx R:=by
 refine zaa (sz:=8) (rs:=[.tmp 2]) za4 zy5 rfl rfl rfl (by simp) ?_
 generalize h0:(v::vs).flatMap AV.cells=fl at h1 hR
 simp-implicitDefEqProofs[go_sem,-List.flatMap_cons,h0,h1,hl]
 refine hR _ _ _ ?_ ?_ ?_ ?_
 ·simp(disch:=omega)only[za6]
  exact Ext.refl nx h
 ·omega
 ·omega
 ·simp[go_sem]
theorem zG3:Ret Tryz.prog cx 41 [.sl0] .sl0:=by
 refine Ret.mk fun h nx R hR=>zaa (sz:=8) (rs:=[.tmp 2]) za4 zy5 rfl rfl rfl (by simp) ?_
 simp-implicitDefEqProofs[go_sem]
 exact hR _ _ _ (Ext.refl nx h) .sl0
theorem zA8:cx.ft.get 207=some Tryz.f207:=za9 (by decide) (by kernel_rfl)
theorem zJ9 (full:Bool)(v:AV)(vs:List AV)(h1:zba ((v::vs).flatMap AV.cells)=true)(hl:vs.length+1≤16777216)(h:Tr ABlk) (nx:Nat)(R:AV→Tr ABlk→Nat→Prop)(hR:∀g q ny,Ext nx h g→nx≤q→q<ny→g.get q=some (bx 3 ((v::vs).flatMap AV.cells) true 1)→R (.sl q 0 (vs.length+1) 0 true) g ny):za7 Tryz.prog cx 207 [.fz 1 full (v::vs)] h nx R:=by
 refine zaa (sz:=8) (rs:=[.tmp 2]) za4 zA8 rfl rfl rfl (by simp) ?_
 generalize h0:(v::vs).flatMap AV.cells=fl at h1 hR
 simp-implicitDefEqProofs[go_sem,-List.flatMap_cons,h0,h1,hl]
 refine hR _ _ _ ?_ ?_ ?_ ?_
 ·simp(disch:=omega)only[za6]
  exact Ext.refl nx h
 ·omega
 ·omega
 ·simp[go_sem]
theorem zO6:cx.ft.get 212=some Tryz.f212:=za9 (by decide) (by kernel_rfl)
theorem zMy (full:Bool)(v:AV)(vs:List AV)(h1:zba ((v::vs).flatMap AV.cells)=true)(hl:vs.length+1≤16777216)(h:Tr ABlk) (nx:Nat)(R:AV→Tr ABlk→Nat→Prop)(hR:∀g q ny,Ext nx h g→nx≤q→q<ny→g.get q=some (bx 154 ((v::vs).flatMap AV.cells) true 4)→R (.sl q 0 (vs.length+1) 0 true) g ny):za7 Tryz.prog cx 212 [.fz 4 full (v::vs)] h nx R:=by
 refine zaa (sz:=8) (rs:=[.tmp 2]) za4 zO6 rfl rfl rfl (by simp) ?_
 generalize h0:(v::vs).flatMap AV.cells=fl at h1 hR
 simp-implicitDefEqProofs[go_sem,-List.flatMap_cons,h0,h1,hl]
 refine hR _ _ _ ?_ ?_ ?_ ?_
 ·simp(disch:=omega)only[za6]
  exact Ext.refl nx h
 ·omega
 ·omega
 ·simp[go_sem]
theorem zz8:cx.ft.get 213=some Tryz.f213:=za9 (by decide) (by kernel_rfl)
theorem zrg:∀l:List Int,zfr 1 (za5 l) (za5 l)
 |[]=>rfl
 |x::l=>⟨[.int .i64 x],za5 l,rfl,rfl,rfl,.inr rfl,zrg l⟩
theorem fzI {g:Tr ABlk}{nx b:Nat}{s:List Int}{cp esz:Nat}{op opn:Bool}(hb:nx≤b)(hg:g.get b=some (bx 3 (za5 s) opn esz)):Fz g nx (.sl b 0 s.length cp op) (.fz 1 false (za5 s)):=
 .slz b 0 _ cp op 3 _ _ opn esz 1 (za5 s) (za5 s) (za5 s) hb hg (by simp) (fun j hj=>by rw[Nat.zero_add,zbt]) (FzL.same _ (zhw s)) (zrg s) (zp0 s)
theorem zi2:∀l:List Int,zba (za5 l)=true
 |[]=>rfl
 |x::l=>by
  have:=zi2 l
  rw[show za5 (x::l)=.int .i64 x::za5 l from rfl]
  simp[zba,AV.one]
  exact this
theorem zLv (l:List Int) (x:Int):za5 (l++[x])=za5 l++[.int .i64 x]:=by simp[za5]
def ze1 (l:List Fc):List Int:=if zc5 l then l.map Fc.lo else []
def zn5 (lo nx:Nat)(h:Tr ABlk)(v:Option AV)(acc:List Int):Prop:=(acc=[]∧v=some .sl0)∨(acc≠[]∧∃b,lo≤b∧b<nx∧v=some (.sl b 0 acc.length 0 true)∧h.get b=some (bx 3 (za5 acc) true 1))
end
end Go.Ev
namespace Go.Ev
open Go.Proofs Go.Sort
noncomputable section
attribute [-go_sem] zaf zac
theorem zTl:cx.ft.get 200=some Tryz.f200:=za9 (by decide) (by kernel_rfl)
def zbc (L:List Int):List Int:=L.mergeSort fun x y=>decide (x≤y)
theorem zoc (L:List Int):(zbc L).length=L.length:=by simp[zbc]
theorem ztt (σ:Sg) (x:Int)(V:Value):Rel σ (.int .i64 x) V↔V=.int .i64 x:=by simp only[Rel]
theorem zzk (L:List Int)(h:Tr ABlk) (nx q cp esz:Nat)(opn opn':Bool)(hq:h.get q=some (bx 3 (za5 L) opn' esz))(hl:L.length<1000000000)(R:AV→Tr ABlk→Nat→Prop)(hR:R (.tup []) (h.put q (some (bx 3 (za5 (zbc L)) opn' esz))) nx):za7 Tryz.prog cx 200 [.sl q 0 L.length cp opn] h nx R:=by
 refine zyj za4 zTl (fun x:Int=>AV.int .i64 x) (Value.int .i64) (fun σ x V=>ztt σ x V) (l:=L) (rest:=[]) hq (by omega) (fun d u=>d=zbc L∧u=.tup []) ?_ ?_
 ·intro σ w RA b cap hk hRA hH hb
  simp only[za1]at hRA
  subst hRA
  rw[List.drop_zero,List.take_length]at hH
  refine(Any.slices_Sort_int Tryz.lays189 b 0 cap L w hH hb (by omega)).mono ?_
  rintro e x ⟨rfl,n,os,rfl⟩
  exact⟨_,.tup [],n,os,zbc L,rfl,by simp only[Rel];exact⟨[],rfl,by simp only[za1]⟩,zoc L,⟨rfl,rfl⟩,rfl⟩
 ·rintro d u _ ⟨rfl,rfl⟩
  have e1:L.take 0++(zbc L++L.drop (0+L.length))=zbc L:=by simp
  rw[e1]
  exact hR
end
end Go.Ev
namespace Go.Ev
open Go.Proofs
noncomputable section
attribute [-go_sem] zaf zac
@[go_sem] theorem ye6 (n0:Nat)(e:TypeId) (size b:Nat)(z:Option AV) (x:Nat) (s:Nat)(y:Bool)(fs:List (Nat×Nat×Bool))(cs:List AV)(k:IntKind) (n:Nat)(h:Tr ABlk) (nx:Nat)(hn:n<n0):
  zd3 (.mk (.array n0 e) size b z ((x,s,y)::fs)) (.ip cs) (.int k (n:Int)) h nx=.val (.ip (cs.drop (n * s))) h nx:=by
 simp[zd3,zkj,zcl,Nat.succ_le_of_lt hn]
theorem zP1:cx.ft.get 221=some Tryz.f221:=za9 (by decide) (by kernel_rfl)
def zjl (cls:Nat→Int):List AV:=(List.range 256).map fun b=>.int .u8 (cls b)
theorem zIk (cls:Nat→Int) (b:Nat)(hb:b<256):(zjl cls).drop b=.int .u8 (cls b)::(zjl cls).drop (b+1):=by
 have hl:b<(zjl cls).length:=by simp[zjl];exact hb
 rw[List.drop_eq_getElem_cons hl]
 simp[zjl]
def zjz (cls:Nat→Int)(s:ByteArray) (i:Nat):Int:=if h:i<s.size then cls (s[i]).toNat else 0
theorem zNy (cls:Nat→Int)(s:ByteArray) (i:Nat):Ret Tryz.prog cx 221 [.int .i64 (i:Int),.ip [.bs s],.ip (zjl cls)] (.int .u8 (zjz cls s i)):=by
 refine Ret.mk fun h nx R hR=>zaa (sz:=14) (rs:=[.tmp 4]) za4 zP1 rfl rfl rfl (by simp) ?_
 by_cases c1:i<s.size
 ·have n1:¬s.size≤i:=by omega
  have hc:zjz cls s i=cls (s[i]).toNat:=by rw[zjz,dif_pos c1]
  rw[hc]at hR
  have hb:(s[i]).toNat<256:=(s[i]).toNat_lt
  generalize hx:(s[i]).toNat=x at hR hb
  have hd:=zIk cls x hb
  simp-implicitDefEqProofs[go_sem,c1,n1,hx,hb,hd]
  exact hR _ _ _ (Ext.refl _ _) (Fz.eq rfl rfl)
 ·have n1:s.size≤i:=by omega
  simp-implicitDefEqProofs[go_sem,c1,n1]
  exact hR _ _ _ (Ext.refl _ _) (Fz.eq rfl (by simp[zjz,c1]))
end
end Go.Ev
namespace Go.Ev
open Go.Proofs Go.Sort
noncomputable section
attribute [-go_sem] zaf zac
theorem zU7:cx.ft.get 290=some Tryz.f290:=za9 (by decide) (by kernel_rfl)
theorem zM4:cx.ft.get 306=some Tryz.f306:=za9 (by decide) (by kernel_rfl)
theorem zK9:cx.ft.get 307=some Tryz.f307:=za9 (by decide) (by kernel_rfl)
theorem zPb:cx.ft.get 277=some Tryz.f277:=za9 (by decide) (by kernel_rfl)
theorem zM0:cx.ft.get 276=some Tryz.f276:=za9 (by decide) (by kernel_rfl)
theorem zIn:cx.ft.get 278=some Tryz.f278:=za9 (by decide) (by kernel_rfl)
def zam (l:List UInt8):List AV:=l.map fun z=>.int .u8 (z.toNat:Int)
@[go_sem] theorem zh3 (l:List UInt8):(zam l).length=l.length:=by simp[zam]
theorem zhl:∀l:List UInt8,zba (zam l)=true
 |[]=>rfl
 |x::l=>by
  have:=zhl l
  rw[show zam (x::l)=.int .u8 (x.toNat:Int)::zam l from rfl]
  simp[zba,AV.one]
  exact this
theorem zgk (l m:List UInt8):zam (l++m)=zam l++zam m:=by simp[zam]
@[go_sem] theorem ybk (b:ByteArray)(h:Tr ABlk):zfo 1 (.bs b) h=some (b.size,zam b.data.toList):=rfl
theorem zOs (σ:Sg)(x:UInt8)(V:Value):Rel σ (.int .u8 (x.toNat:Int)) V↔V=.int .u8 (x.toNat:Int):=by simp only[Rel]
theorem zUv (u:Nat)(hu:u<18446744073709551616):Ret Tryz.prog cx 290 [.int .u64 (u:Int)] (.int .i64 (Lib.bitLen u:Int)):=by
 refine fun h nx=>zxi za4 zU7 fun σ w A hk hA=>?_
 simp only[za1,Rel]at hA
 obtain⟨V,L,rfl,rfl,rfl⟩:=hA
 refine(Any.bits_Len64 Tryz.lays129 (u:Int) w (by omega) (by omega)).mono ?_
 rintro e x ⟨rfl,rfl⟩
 exact⟨_,.int .i64 (Lib.bitLen u:Int),0,#[],rfl,by simp only[Rel,Int.toNat_natCast],⟨rfl,rfl,rfl⟩,by simp⟩
theorem zyw (i:Nat)(hi:i<100):Ret Tryz.prog cx 276 [.int .i64 (i:Int)] (.bs ⟨(Lib.decDigits i).toArray⟩):=by
 refine fun h nx=>zxi za4 zM0 fun σ w A hk hA=>?_
 simp only[za1,Rel]at hA
 obtain⟨V,L,rfl,rfl,rfl⟩:=hA
 refine(Any.internal_strconv_small Tryz.lays283 i hi w).mono ?_
 rintro e x ⟨rfl,rfl⟩
 exact⟨_,.bs ⟨(Lib.decDigits i).toArray⟩,0,#[],rfl,by simp only[Rel],⟨rfl,rfl,rfl⟩,by simp⟩
def zbg (n u:Nat):List UInt8:=(List.range n).map fun t=>Lib.dg u (n-1-t)
theorem zpp (n u:Nat):(zbg n u).length=n:=by simp[zbg]
theorem zu4 (h:Tr ABlk) (nx q u o n cp esz:Nat)(t:TypeId)(opn opn':Bool)(l:List UInt8)(hq:h.get q=some (bx t (zam l) opn' esz))(hl:o+n≤l.length)(hn:n<1000000)(hu:u<10 ^ n)(hu2:u<18446744073709551616)(R:AV→Tr ABlk→Nat→Prop)
  (hR:R (.tup []) (h.put q (some (bx t (zam (l.take o++(zbg n u++l.drop (o+n)))) opn' esz))) nx):za7 Tryz.prog cx 278 [.sl q o n cp opn,.int .u64 (u:Int)] h nx R:=by
 refine zyj za4 zIn (fun x:UInt8=>AV.int .u8 (x.toNat:Int)) (fun x:UInt8=>Value.int .u8 (x.toNat:Int)) (fun σ x V=>zOs σ x V) (l:=l) (rest:=[.int .u64 (u:Int)]) hq hl (fun d v=>d=zbg n u∧v=.tup []) ?_ ?_
 ·intro σ w RA b cap hk hRA hH hb
  simp only[za1,Rel]at hRA
  obtain⟨V,L,rfl,rfl,rfl⟩:=hRA
  have hsz:((l.drop o).take n).toArray.size=n:=by simp;omega
  have hc:=Any.internal_strconv_formatBase10 Tryz.lays285 b o cap u ((l.drop o).take n).toArray w hH (by rw[hsz];exact hu) hu2 (by rw[hsz];omega)
  rw[hsz]at hc
  refine hc.mono ?_
  rintro e x ⟨rfl,k,v',dk,rfl,hf⟩
  have hd:dk.toList=zbg n u:=by
   have hs:=hf.size
   apply List.ext_getElem (by simp[zbg];exact hs)
   intro t h1 h2
   have ht:t<n:=by simpa[zbg]using h2
   have:=hf.done t (by omega) ht
   rw[getElem!_pos _ t (by omega)]at this
   simp[zbg,this]
  refine⟨_,.tup [],k,#[],zbg n u,rfl,by simp only[Rel];exact⟨[],rfl,by simp only[za1]⟩,zpp n u,⟨rfl,rfl⟩,?_⟩
  rw[← hd]
  rfl
 ·rintro d v _ ⟨rfl,rfl⟩
  exact hR
theorem zT6 (k:IntKind) (a n:Nat)(h:Tr ABlk) (nx:Nat):zgy .shr k (a:Int) (n:Int) h nx=.val (.int k ((a / 2 ^ (min n k.bits):Nat):Int)) h nx:=by
 show fN (Nat.div a (Nat.pow 2 (min n k.bits))) (fun z=>R.val (.int k (Int.ofNat z)) h nx)=_
 rw[fN_eq]
 rfl
@[go_sem] theorem zV4 (a:Nat)(h:Tr ABlk) (nx:Nat):zgy .shr .i64 (a:Int) 18 h nx=.val (.int .i64 ((a / 262144:Nat):Int)) h nx:=zT6 .i64 a 18 h nx
theorem zMr (n:Nat)(hn:n≤64):Ret Tryz.prog cx 306 [.int .i64 (n:Int)] (.int .i64 (Lib.l10 n:Int)):=by
 refine Ret.mk fun h nx R hR=>zaa (sz:=6) (rs:=[.tmp 2]) za4 zM4 rfl rfl rfl (by simp) ?_
 have e1:IntKind.i64.wrap ((n:Int) * 78913)=((n * 78913:Nat):Int):=by
  rw[zab] <;> omega
 simp-implicitDefEqProofs[go_sem,-Int.natCast_mul,e1]
 exact hR _ _ _ (Ext.refl _ _) (Fz.eq rfl rfl)
theorem zUb (b:Bool):Ret Tryz.prog cx 307 [.bool b] (.int .i64 (if b then 1 else 0)):=by
 refine Ret.mk fun h nx R hR=>zaa (sz:=4) (rs:=[.tmp 2]) za4 zK9 rfl rfl rfl (by simp) ?_
 cases b
 ·simp-implicitDefEqProofs[go_sem]
  exact hR _ _ _ (Ext.refl _ _) (Fz.eq rfl rfl)
 ·simp-implicitDefEqProofs[go_sem]
  exact hR _ _ _ (Ext.refl _ _) (Fz.eq rfl rfl)
theorem zSt (n:Nat)(hn:n<20):zig.drop n=.int .u64 ((10 ^ n:Nat):Int)::zig.drop (n+1):=by
 have hl:n<zig.length:=by simp[zig];exact hn
 rw[List.drop_eq_getElem_cons hl]
 simp[zig]
@[go_sem] theorem zYm (tm:Tr AV):evO G0 tm (.global 0)=some (.ip zig):=rfl
theorem zwd (u:Nat)(h1:1≤u)(hu:u<18446744073709551616):Ret Tryz.prog cx 277 [.int .u64 (u:Int)] (.int .i64 (Lib.nDigits u:Int)):=by
 refine Ret.mk fun h nx R hR=>zaa (sz:=15) (rs:=[.tmp 2]) za4 zPb rfl rfl rfl (by simp) ?_
 obtain⟨d1,d2⟩:=Lib.numDigits_eq u h1 hu
 have d3:=Lib.bitLen_le u 64 (Nat.le_refl _) hu
 simp-implicitDefEqProofs[go_sem]
 refine Ret.use (zUv u hu) ?_
 simp-implicitDefEqProofs[go_sem,za0]
 refine Ret.use (zMr _ d3) ?_
 have hd:=zSt (Lib.l10 (Lib.bitLen u)) (by omega)
 generalize Lib.l10 (Lib.bitLen u)=q at *
 have hq:q<20:=by omega
 simp-implicitDefEqProofs[go_sem,za0,hq,hd]
 refine Ret.use (zUb _) ?_
 simp-implicitDefEqProofs[go_sem,za0]
 refine hR _ _ _ (Ext.refl _ _) (Fz.eq rfl ?_)
 have hc:((10:Int) ^ q≤(u:Int))↔10 ^ q≤u:=by
  have:((10:Int) ^ q)=((10 ^ q:Nat):Int):=by simp
  rw[this]
  omega
 simp only[hc]
 congr 1
 by_cases c:10 ^ q≤u
 ·rw[if_pos c]at d1 ⊢
  rw[zab] <;> omega
 ·rw[if_neg c]at d1 ⊢
  rw[zab] <;> omega
theorem ztd (u:Nat):Lib.decDigits u=zbg (Lib.nDigits u) u:=Lib.decDigits_eq u
theorem znz (u:Nat)(h1:1≤u)(hu:u<18446744073709551616):Lib.nDigits u≤20:=by
 obtain⟨d1,d2⟩:=Lib.numDigits_eq u h1 hu
 split at d1 <;> omega
theorem zK2:cx.ft.get 305=some Tryz.f305:=za9 (by decide) (by kernel_rfl)
theorem zK7:cx.ft.get 274=some Tryz.f274:=za9 (by decide) (by kernel_rfl)
theorem zFz:cx.ft.get 252=some Tryz.f252:=za9 (by decide) (by kernel_rfl)
def zgv (h:Tr ABlk) (nx q:Nat)(v:AV)(l:List UInt8):Prop:=q<nx∧((v=.sl q 0 l.length 0 true∧h.get q=some (bx 5 (zam l) true 1))∨(v=.sl q 0 l.length l.length false∧h.get q=some (bx 5 (zam l) false 0)))
theorem zva (u:Nat):u<10 ^ Lib.nDigits u:=Lib.lt_pow_nDigits u
def zrw (B:Option ABlk) (len m:Nat)(news:List AV) (e size:Nat)(h:Tr ABlk) (nx:Nat):R:=match B with
 |some (.cells _ n cs _ _)=>match Nat.ble (Nat.add len m) 16777216 with
  |false=>.fail
  |true=>match Nat.ble (Nat.add 0 (Nat.mul len size)) n with
   |false=>.fail
   |true=>.val (.sl nx 0 (len+m) 0 true) (h.put nx (some (bx e (((toL cs n).drop 0).take (Nat.mul len size)++news) true size))) (nx+1)
 |_=>.fail
@[go_sem] theorem ybn (m len i e size:Nat)(news:List AV)(h:Tr ABlk) (nx:Nat)(h0:m≠0):zf0 true m news e size (.sl i 0 len len false) h nx=zrw (h.get i) len m news e size h nx:=by
 have e0:Nat.beq m 0=false:=by cases m;exact absurd rfl h0;rfl
 have e5:Nat.beq len len=true:=Nat.beq_refl len
 simp only[zf0,zrw,e0,e5,Bool.true_and]
 cases h.get i with
 |none=>rfl
 |some B=>
  cases B <;> rfl
@[go_sem] theorem zXv (m len e t size esz:Nat)(opn:Bool)(news l:List AV)(h:Tr ABlk) (nx:Nat)(h1:len * size=l.length)(h2:len+m≤16777216):zrw (some (bx t l opn esz)) len m news e size h nx=.val (.sl nx 0 (len+m) 0 true) (h.put nx (some (bx e (l++news) true size))) (nx+1):=by
 have e3:toL (zbh l .nil 0) l.length=l:=by
  apply List.ext_getElem?
  intro k
  by_cases hk:k<l.length
  ·simp[toL,hk,zbt]
  ·simp[toL,hk]
 have e4:Nat.mul len size=l.length:=h1
 have e6:Nat.ble (Nat.add 0 l.length) l.length=true:=Nat.ble_eq_true_of_le (by show 0+l.length≤_;omega)
 have e7:Nat.ble (Nat.add len m) 16777216=true:=Nat.ble_eq_true_of_le h2
 simp only[zrw,bx,e3,e4,e6,e7,List.drop_zero,List.take_length]
@[go_sem] theorem zVq (G:Gl)(tm:Tr AV):zhd G tm none=some none:=rfl
@[go_sem] theorem zZe (G:Gl)(tm:Tr AV)(o:Operand):zhd G tm (some o)=match evO G tm o with
 |some v=>some (some v)
 |none=>none:=rfl
set_option maxHeartbeats 1000000 in
theorem zCr (h:Tr ABlk) (nx q:Nat)(v:AV)(l:List UInt8) (u:Nat)(hq:zgv h nx q v l)(hl:l.length≤16000000)(hu:u<18446744073709551616)(R:AV→Tr ABlk→Nat→Prop)
  (hR:∀g ny q',nx≤ny→nx≤q'→(∀k,k<nx→k≠q→g.get k=h.get k)→zgv g ny q' (.sl q' 0 (l++Lib.decDigits u).length 0 true) (l++Lib.decDigits u)→R (.sl q' 0 (l++Lib.decDigits u).length 0 true) g ny):za7 Tryz.prog cx 305 [v,.int .u64 (u:Int),.int .i64 10] h nx R:=by
 refine zaa (sz:=36) (rs:=[.tmp 6]) za4 zK2 rfl rfl rfl (by simp) ?_
 obtain⟨hq0,hq⟩:=hq
 have e1:¬q=nx:=by omega
 have fo:=zhl l
 by_cases c:u<100
 ·have w1:IntKind.i64.wrap (u:Int)=(u:Int):=by rw[zab] <;> omega
  have hi:((u:Int)<100):=by omega
  simp-implicitDefEqProofs[go_sem,hi,w1]
  refine Ret.use (zyw u c) ?_
  have fo2:=zhl (Lib.decDigits u)
  have hz:(Lib.decDigits u).length≠0:=by
   have:=Lib.nDigits_pos u
   rw[Lib.decDigits_length];omega
  have hz2:(Lib.decDigits u).length≤2:=by
   rcases Nat.lt_or_ge u 10 with c1 |c1
   ·rw[Lib.decDigits_one c1];simp
   ·rw[Lib.decDigits_two (by omega) c];simp
  have hz3:l.length+(Lib.decDigits u).length≤16777216:=by omega
  rcases hq with⟨rfl,gq⟩ |⟨rfl,gq⟩
  ·simp-implicitDefEqProofs[go_sem,za0,gq,fo,fo2,hz,hz3]
   have:=hR ((h.put q none).put nx (some (bx 5 (zam l++zam (Lib.decDigits u)) true 1))) (nx+1) nx (by omega) (by omega) (fun k k1 k2=>by simp[go_sem,k2,show ¬k=nx by omega]) ⟨by omega,.inl ⟨rfl,by simp[go_sem,zgk]⟩⟩
   simpa using this
  ·simp-implicitDefEqProofs[go_sem,za0,gq,fo,fo2,hz,hz3]
   have:=hR (h.put nx (some (bx 5 (zam l++zam (Lib.decDigits u)) true 1))) (nx+1) nx (by omega) (by omega) (fun k k1 k2=>by simp[go_sem,show ¬k=nx by omega]) ⟨by omega,.inl ⟨rfl,by simp[go_sem,zgk]⟩⟩
   simpa using this
 ·have hi:¬((u:Int)<100):=by omega
  have n20:=znz u (by omega) hu
  have n1:=Lib.nDigits_pos u
  have nlt:=zva u
  have hdd:=ztd u
  have hdl:=zpp (Lib.nDigits u) u
  simp-implicitDefEqProofs[go_sem,hi]
  refine Ret.use (zwd u (by omega) hu) ?_
  generalize Lib.nDigits u=n at *
  have n24:n≤24:=by omega
  simp-implicitDefEqProofs[go_sem,za0,n24]
  refine zu4 _ _ nx u 0 n 24 0 289 false false (List.replicate 24 0) (by simp only[Tr.get_put,if_true];rfl) (by simp;omega) (by omega) nlt hu _ ?_
  have fo2:=zhl (zbg n u)
  have hz:n≠0:=by omega
  have hz3:l.length+n≤16777216:=by omega
  have hbl:(List.take 0 (List.replicate 24 (0:UInt8))++(zbg n u++List.drop (0+n) (List.replicate 24 0)))=zbg n u++List.replicate (24-n) 0:=by rw[List.drop_replicate];simp
  rw[hbl]
  have htk:(zam (zbg n u++List.replicate (24-n) 0)).take n=zam (zbg n u):=by
   rw[zgk]
   have:=zh3 (zbg n u)
   rw[hdl]at this
   exact List.take_left' this
  have hln:n≤(zam (zbg n u++List.replicate (24-n) 0)).length:=by simp[zh3,hdl]
  rw[hdd]at hR
  generalize zam (zbg n u++List.replicate (24-n) 0)=buf at htk hln
  rcases hq with⟨rfl,gq⟩ |⟨rfl,gq⟩
  ·simp-implicitDefEqProofs[go_sem,za0,gq,fo,fo2,hz,hz3,e1,n24,htk,hln]
   rw[show l.length+n=(l++zbg n u).length by simp[hdl]]
   refine hR _ _ (nx+1) (by omega) (by omega) (fun k k1 k2=>?_) ⟨by omega,.inl ⟨rfl,?_⟩⟩
   ·simp[go_sem,k2,show ¬k=nx by omega,show ¬k=nx+1 by omega]
   ·simp[go_sem,zgk]
  ·simp-implicitDefEqProofs[go_sem,za0,gq,fo,fo2,hz,hz3,e1,n24,htk,hln]
   rw[show l.length+n=(l++zbg n u).length by simp[hdl]]
   refine hR _ _ (nx+1) (by omega) (by omega) (fun k k1 k2=>?_) ⟨by omega,.inl ⟨rfl,?_⟩⟩
   ·simp[go_sem,k2,show ¬k=nx by omega,show ¬k=nx+1 by omega]
   ·simp[go_sem,zgk]
theorem zxs (x:Int)(h1:0≤x)(h2:x≤18446744073709551615):IntKind.u64.wrap x=x:=by
 have:=IntWalk.u64_in x
 exact this (by omega)
theorem zxh (u:Nat)(h1:1≤u)(h2:u≤9223372036854775808):IntKind.u64.wrap (-IntKind.u64.wrap (-(u:Int)))=(u:Int):=by
 simp only[IntKind.wrap,IntKind.signed,IntKind.bits]
 simp
 omega
@[go_sem] theorem yd5 (k:IntKind) (n:Int)(h:Tr ABlk) (nx:Nat):zhy .neg (.int k n) h nx=.val (.int k (k.wrap (-n))) h nx:=by
 show fI (zer k (Int.sub 0 n)) (fun z=>R.val (.int k z) h nx)=_
 rw[fI_eq,zfd,show Int.sub 0 n=-n from Int.zero_sub n]
set_option maxHeartbeats 1000000 in
theorem zGm (h:Tr ABlk) (nx q:Nat)(v:AV)(l:List UInt8) (i:Int)(hq:zgv h nx q v l)(hl:l.length≤15000000)(h0:-9223372036854775808≤i)(h1:i≤9223372036854775807)(R:AV→Tr ABlk→Nat→Prop)
  (hR:∀g ny q',nx≤ny→nx≤q'→(∀k,k<nx→k≠q→g.get k=h.get k)→zgv g ny q' (.sl q' 0 (l++Lib.itoa i).length 0 true) (l++Lib.itoa i)→R (.sl q' 0 (l++Lib.itoa i).length 0 true) g ny):za7 Tryz.prog cx 274 [v,.int .i64 i,.int .i64 10] h nx R:=by
 refine zaa (sz:=21) (rs:=[.tmp 6]) za4 zK7 rfl rfl rfl (by simp) ?_
 by_cases c:i<0
 ·obtain⟨u,hu⟩:∃u:Nat,i=-(u:Int):=⟨i.natAbs,by omega⟩
  have hw:IntKind.u64.wrap (-IntKind.u64.wrap i)=(u:Int):=by rw[hu];exact zxh u (by omega) (by omega)
  have hit:Lib.itoa i=45::Lib.decDigits u:=by rw[Lib.itoa,if_pos c,hu];simp
  rw[hit]at hR
  have fo:=zhl l
  obtain⟨hq0,hq⟩:=hq
  have e1:¬q=nx:=by omega
  have hz3:l.length+1≤16777216:=by omega
  have hu2:u<18446744073709551616:=by omega
  have hla:l++45::Lib.decDigits u=(l++[45])++Lib.decDigits u:=by simp
  rw[hla]at hR
  have hl4:(l++[45]).length≤16000000:=by simp;omega
  rcases hq with⟨rfl,gq⟩ |⟨rfl,gq⟩
  all_goals
   simp-implicitDefEqProofs[go_sem,c,gq,e1,fo,hz3,hw,za3]
   refine zCr _ _ (nx+1) _ (l++[45]) u ⟨by omega,.inl ⟨by simp,by simp[go_sem,zgk,zam]⟩⟩ hl4 hu2 _ fun g ny q' b1 b2 b3 b4=>?_
   generalize (l++[45])++Lib.decDigits u=L at hR b4 ⊢
   simp-implicitDefEqProofs[go_sem,za0]
   refine hR g ny q' (by omega) (by omega) (fun k k1 k2=>?_) b4
   rw[b3 k (by omega) (by omega)]
   simp[go_sem,k2,show ¬k=nx by omega,show ¬k=nx+1 by omega]
 ·obtain⟨u,hu⟩:∃u:Nat,i=(u:Int):=⟨i.toNat,by omega⟩
  have hw:IntKind.u64.wrap i=(u:Int):=by rw[hu];exact zxs _ (by omega) (by omega)
  have hit:Lib.itoa i=Lib.decDigits u:=by rw[Lib.itoa,if_neg c,hu];simp
  rw[hit]at hR
  simp-implicitDefEqProofs[go_sem,c,hw]
  refine zCr h nx q v l u hq (by omega) (by omega) _ fun g ny q' b1 b2 b3 b4=>?_
  generalize l++Lib.decDigits u=L at hR b4 ⊢
  simp-implicitDefEqProofs[go_sem,za0]
  exact hR g ny q' b1 b2 b3 b4
theorem zyb (h:Tr ABlk) (nx q:Nat)(v:AV)(l:List UInt8) (i:Int)(hq:zgv h nx q v l)(hl:l.length≤15000000)(h0:-9223372036854775808≤i)(h1:i≤9223372036854775807)(R:AV→Tr ABlk→Nat→Prop)
  (hR:∀g ny q',nx≤ny→nx≤q'→(∀k,k<nx→k≠q→g.get k=h.get k)→zgv g ny q' (.sl q' 0 (l++Lib.itoa i).length 0 true) (l++Lib.itoa i)→R (.sl q' 0 (l++Lib.itoa i).length 0 true) g ny):za7 Tryz.prog cx 252 [v,.int .i64 i,.int .i64 10] h nx R:=by
 refine zaa (sz:=11) (rs:=[.tmp 6]) za4 zFz rfl rfl rfl (by simp) ?_
 simp-implicitDefEqProofs[go_sem]
 refine zGm h nx q v l i hq hl h0 h1 _ fun g ny q' b1 b2 b3 b4=>?_
 generalize l++Lib.itoa i=L at hR b4 ⊢
 simp-implicitDefEqProofs[go_sem,za0]
 exact hR g ny q' b1 b2 b3 b4
end
end Go.Ev
