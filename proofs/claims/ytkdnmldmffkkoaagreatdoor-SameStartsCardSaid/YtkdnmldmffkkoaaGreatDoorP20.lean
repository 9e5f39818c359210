/- Texts T28 T29 T36 T44. -/
import Derived.Test.YtkdnmldmffkkoaaGreatDoorP19
set_option linter.unusedSimpArgs false
set_option linter.unusedVariables false
set_option maxRecDepth 100000
namespace Go.Ev
open Go.Proofs
noncomputable section
attribute [-go_sem] zaf zac
theorem zK6:cx.ft.get 258=some Tryz.f258:=za9 (by decide) (by kernel_rfl)
def zfk (hi:Int):Int→List Int→Prop
 |_,[]=>True
 |lo,c::l=>¬(c≤lo)∧¬(hi<c)∧zfk hi c l
def zgf (g:List Nd)(n:Nd) (k:Nat) (x:Int):Prop:=x<0∨(g.length:Int)≤x∨(0<k∧n.kids.getD (k-1) 0=x)∨(∃h:x.toNat<g.length,¬(g[x.toNat]).kids=[]∧(g[x.toNat]).fact≤n.fact)
def zek (g:List Nd)(n:Nd)(d:List Fc):Prop:=(n.kids=[]∧n.fact=0∧n.cuts=[])∨(¬n.kids=[]∧n.leaf=false∧0≤n.fact∧¬n.cuts=[]∧n.kids.length=n.cuts.length+1∧∃h:n.fact.toNat<d.length,zfk (d[n.fact.toNat]).hi (d[n.fact.toNat]).lo n.cuts∧∀k (hk:k<n.kids.length),¬zgf g n k n.kids[k])
def zio (g:List Nd)(n:Nd)(d:List Fc):Bool:=@decide (zek g n d) (Classical.propDecidable _)
theorem zAf {g n d}(h:zek g n d):zio g n d=true:=by unfold zio;exact @decide_eq_true _ (Classical.propDecidable _) h
theorem zF9 {g n d}(h:¬zek g n d):zio g n d=false:=by unfold zio;exact @decide_eq_false _ (Classical.propDecidable _) h
set_option maxHeartbeats 2000000 in
theorem zPt (u v:Bool)(g:List Nd)(n:Nd)(d:List Fc)(hg:g.length≤1000000000)(hd:d.length≤1000000000)(hc:n.cuts.length<1000000000)(hk:n.kids.length≤1000000000):Ret Tryz.prog cx 258 [.agg [.fz 4 u (zal g)],.agg n.cs,.agg [.fz 4 v (za8 d)]] (.bool (zio g n d)):=by
 refine Ret.mk fun h nx R hR=>zaa (sz:=139) (rs:=[.tmp 6]) za4 zK6 rfl rfl rfl (by simp) ?_
 have E:∀x y z,Ext nx h (((h.put nx x).put (nx+1) y).put (nx+1+1) z):=fun x y z=>(((Ext.refl nx h).put (Nat.le_refl _) _).put (by omega) _).put (by omega) _
 have hRt:∀g' ny,Ext nx h g'→zek g n d→R (.bool true) g' ny:=fun g' ny e hp=>hR _ _ _ e (Fz.eq rfl (by rw[zAf hp]))
 have hRf:∀g' ny,Ext nx h g'→¬zek g n d→R (.bool false) g' ny:=fun g' ny e hp=>hR _ _ _ e (Fz.eq rfl (by rw[zF9 hp]))
 clear hR
 obtain⟨fc,cuts,kids,leaf⟩:=n
 simp only at hc hk
 by_cases c0:kids=[]
 ·subst c0
  by_cases c1:fc=0
  ·by_cases c2:cuts=[]
   ·simp-implicitDefEqProofs[go_sem,Nd.cs,c1,c2]
    exact hRt _ _ (E _ _ _) (.inl ⟨rfl,c1,c2⟩)
   ·have hl:¬cuts.length=0:=fun e=>c2 (List.eq_nil_of_length_eq_zero e)
    simp-implicitDefEqProofs[go_sem,Nd.cs,c1,c2,hl]
    exact hRf _ _ (E _ _ _) (by rintro (q |q);exact c2 q.2.2;exact q.1 rfl)
  ·simp-implicitDefEqProofs[go_sem,Nd.cs,c1]
   exact hRf _ _ (E _ _ _) (by rintro (q |q);exact c1 q.2.1;exact q.1 rfl)
 ·have hl0:¬kids.length=0:=fun e=>c0 (List.eq_nil_of_length_eq_zero e)
  cases leaf with
  |true=>
   simp-implicitDefEqProofs[go_sem,Nd.cs,c0,hl0]
   exact hRf _ _ (E _ _ _) (by rintro (q |q);exact c0 q.1;exact Bool.noConfusion q.2.1)
  |false=>
  by_cases c1:fc<0
  ·simp-implicitDefEqProofs[go_sem,Nd.cs,c0,hl0,c1]
   exact hRf _ _ (E _ _ _) (by rintro (q |q);exact c0 q.1;have:=q.2.2.1;simp only at this;omega)
  obtain⟨fi,rfl⟩:∃fi:Nat,fc=(fi:Int):=⟨fc.toNat,by omega⟩
  clear c1
  have hn1:¬(fi:Int)<0:=by omega
  by_cases c2:d.length≤fi
  ·have c2':(d.length:Int)≤fi:=by omega
   simp-implicitDefEqProofs[go_sem,Nd.cs,c0,hl0,hn1,c2,c2']
   exact hRf _ _ (E _ _ _) (by rintro (q |q);exact c0 q.1;obtain⟨q1,_⟩:=q.2.2.2.2.2;simp only at q1;omega)
  have c2':¬(d.length:Int)≤fi:=by omega
  have c2'':fi<d.length:=by omega
  by_cases c3:cuts=[]
  ·simp-implicitDefEqProofs[go_sem,Nd.cs,c0,hl0,hn1,c2,c2',c3]
   exact hRf _ _ (E _ _ _) (by rintro (q |q);exact c0 q.1;exact q.2.2.2.1 c3)
  have hl1:¬cuts.length=0:=fun e=>c3 (List.eq_nil_of_length_eq_zero e)
  have hw:IntKind.i64.wrap ((cuts.length:Int)+1)=(cuts.length:Int)+1:=zab _ (by omega) (by omega)
  by_cases c4:kids.length=cuts.length+1
  ·have c4':(cuts.length:Int)+1=(kids.length:Int):=by omega
   have hw2:IntKind.i64.wrap (kids.length:Int)=(kids.length:Int):=zab _ (by omega) (by omega)
   obtain⟨f,hf⟩:∃f,d[fi]=f:=⟨_,rfl⟩
   obtain⟨fnm,fkd,flo,fhi⟩:=f
   have hP:∀q:Prop,(q↔(zfk fhi flo cuts∧∀k (hk:k<kids.length),¬zgf g ⟨fi,cuts,kids,false⟩ k kids[k]))→(zek g ⟨fi,cuts,kids,false⟩ d↔q):=by
    intro q hq
    rw[hq]
    unfold zek
    simp only[c0,c3,c4,not_false_eq_true,true_and,false_and,false_or,Int.toNat_natCast,c2'',exists_true_left,hf]
    exact⟨fun z=>z.2,fun z=>⟨by omega,z⟩⟩
   have hP:=hP _ Iff.rfl
   simp-implicitDefEqProofs[go_sem,Nd.cs,Fc.cs,c0,hl0,hn1,c2,c2',c2'',c3,hl1,hw,hw2,c4',hf]
   generalize hh:Tr.put (Tr.put (Tr.put h nx _) (nx+1) _) (nx+1+1) _=h0
   have E0:Ext nx h h0:=by rw[← hh];exact E _ _ _
   have g0:h0.get nx=some (bx 92 [.fz 4 u (zal g)] false 0):=by rw[← hh];simp[go_sem,show ¬nx=nx+1+1 by omega]
   have g1:h0.get (nx+1)=some (bx 154 [.int .i64 (fi:Int),.fz 1 false (za5 cuts),.fz 1 false (za5 kids),.bool false] false 0):=by rw[← hh];simp[go_sem]
   have g2:h0.get (nx+1+1)=some (bx 35 [.fz 4 v (za8 d)] false 0):=by rw[← hh];simp[go_sem]
   clear hh
   refine zap (fun mm st=>∃tm k lo,st=.mk tm h0 (nx+1+1+1) []∧mm=cuts.length-k∧k≤cuts.length∧tm.get 3=some (.ptr nx 0)∧tm.get 4=some (.ptr (nx+1) 0)∧tm.get 5=some (.ptr (nx+1+1) 0)∧tm.get 64=some (.fz 1 false (za5 cuts))∧tm.get 65=some (.int .i64 (cuts.length:Int))∧tm.get 66=some (.int .i64 (k:Int))∧tm.get 7=some (.int .i64 lo)∧RowKit.Hid (zfk fhi flo cuts↔zfk fhi lo (cuts.drop k))) ⟨cuts.length,_,0,flo,rfl,by simp,by simp,?_⟩ ?_
   ·simp-implicitDefEqProofs[go_sem]
    exact Lib.hid trivial
   ·rintro mm st ⟨tm,k,lo,rfl,rfl,hk1,t3,t4,t5,t64,t65,t66,t7,hv⟩ J hJ
    refine zag za4 _ ?_
    by_cases hlt:k<cuts.length
    ·have hv2:=hv.out
     rw[List.drop_eq_getElem_cons hlt,zfk]at hv2
     generalize hx:cuts[k]=x at hv2
     by_cases q1:x≤lo
     ·have hb:¬zfk fhi flo cuts:=fun z=>(hv2.1 z).1 q1
      simp-implicitDefEqProofs[go_sem,t3,t4,t5,t64,t65,t66,t7,hlt,hx,q1]
      exact hRf _ _ E0 fun z=>hb (hP.1 z).1
     by_cases q2:fhi<x
     ·have hb:¬zfk fhi flo cuts:=fun z=>(hv2.1 z).2.1 q2
      simp-implicitDefEqProofs[go_sem,t3,t4,t5,t64,t65,t66,t7,hlt,hx,q1,q2,g0,g1,g2,c2'',hf,Fc.cs]
      exact hRf _ _ E0 fun z=>hb (hP.1 z).1
     have HV:RowKit.Hid (zfk fhi flo cuts↔zfk fhi x (cuts.drop (k+1))):=Lib.hid ⟨fun z=>(hv2.1 z).2.2,fun z=>hv2.2 ⟨q1,q2,z⟩⟩
     clear hv2
     simp-implicitDefEqProofs[go_sem,t3,t4,t5,t64,t65,t66,t7,hlt,hx,q1,q2,g0,g1,g2,c2'',hf,Fc.cs]
     refine hJ (cuts.length-(k+1)) _ (by omega) ⟨_,k+1,x,rfl,rfl,by omega,?_⟩
     simp(disch:=omega) [go_sem,t3,t4,t5,t64,t65,t66,t7,zab]
     exact HV
    ·have hcok:zfk fhi flo cuts:=by
      rw[hv.out,List.drop_of_length_le (by omega)]
      trivial
     clear hv hJ
     simp-implicitDefEqProofs[go_sem,t3,t4,t5,t64,t65,t66,t7,hlt,g0,g1,g2]
     refine zap (fun mm st=>∃tm k,st=.mk tm h0 (nx+1+1+1) []∧mm=kids.length-k∧k≤kids.length∧tm.get 3=some (.ptr nx 0)∧tm.get 4=some (.ptr (nx+1) 0)∧tm.get 5=some (.ptr (nx+1+1) 0)∧tm.get 87=some (.fz 1 false (za5 kids))∧tm.get 88=some (.int .i64 (kids.length:Int))∧tm.get 89=some (.int .i64 (k:Int))∧RowKit.Hid (∀j (hj:j<kids.length),j<k→¬zgf g ⟨fi,cuts,kids,false⟩ j kids[j])) ⟨kids.length,_,0,rfl,by simp,by simp,?_⟩ ?_
     ·simp-implicitDefEqProofs[go_sem,t3,t4,t5]
      exact Lib.hid trivial
     ·clear J t3 t4 t5 t64 t65 t66 t7 tm
      rintro mm st ⟨tm,k,rfl,rfl,hk1,t3,t4,t5,t87,t88,t89,hv⟩ J hJ
      refine zag za4 _ ?_
      by_cases hlt:k<kids.length
      ·generalize hx:kids[k]=x
       have hbad:zgf g ⟨fi,cuts,kids,false⟩ k x→¬zek g ⟨fi,cuts,kids,false⟩ d:=fun z y=>(hP.1 y).2 k hlt (by rw[hx];exact z)
       simp-implicitDefEqProofs[go_sem,t3,t4,t5,t87,t88,t89,g0,g1,g2,hlt,hx]
       refine zbq mixed za4 zbe [] [] [] (by kernel_rfl) ?_
       by_cases q1:x<0
       ·simp-implicitDefEqProofs[go_sem,t3,t4,t5,t87,t88,t89,g0,g1,g2,hlt,q1]
        exact hRf _ _ E0 (hbad (.inl q1))
       obtain⟨xi,rfl⟩:∃xi:Nat,x=(xi:Int):=⟨x.toNat,by omega⟩
       by_cases q2:g.length≤xi
       ·have q2':(g.length:Int)≤xi:=by omega
        simp-implicitDefEqProofs[go_sem,t3,t4,t5,t87,t88,t89,g0,g1,g2,hlt,q1,q2,q2']
        exact hRf _ _ E0 (hbad (.inr (.inl q2')))
       have q2':¬(g.length:Int)≤xi:=by omega
       have q2'':xi<g.length:=by omega
       clear q1
       have q1:¬(xi:Int)<0:=by omega
       obtain⟨nd,hnd⟩:∃nd,g[xi]=nd:=⟨_,rfl⟩
       obtain⟨nf,nc,nk,nl⟩:=nd
       have hD:(¬nk=[]∧nf≤fi)→zgf g ⟨fi,cuts,kids,false⟩ k xi:=fun z=>.inr (.inr (.inr ⟨by simpa using q2'',by simpa[hnd]using z⟩))
       have hgo:¬(0<k∧kids.getD (k-1) 0=xi)→¬(¬nk=[]∧nf≤fi)→∀j (hj:j<kids.length),j<k+1→¬zgf g ⟨fi,cuts,kids,false⟩ j kids[j]:=by
        intro z1 z2 j hj hjk
        by_cases hjk2:j<k
        ·exact hv.out j hj hjk2
        ·have e:j=k:=by omega
         subst e
         rw[hx]
         rintro (z |z |z |⟨z3,z4⟩)
         ·omega
         ·omega
         ·exact z1 z
         ·simp[hnd]at z4
          exact z2 (by simpa using z4)
       have hD2:(0<k∧kids.getD (k-1) 0=xi)→zgf g ⟨fi,cuts,kids,false⟩ k xi:=fun z=>.inr (.inr (.inl z))
       clear hv
       rcases Nat.eq_zero_or_pos k with k0 |k0
       ·subst k0
        by_cases q4:nk=[]
        ·have HG:=Lib.hid (hgo (by omega) (by simp[q4]))
         clear hgo hD hD2
         simp-implicitDefEqProofs[go_sem,t3,t4,t5,t87,t88,t89,g0,g1,g2,hlt,q1,q2,q2',q2'',hnd,Nd.cs,q4]
         refine hJ (kids.length-(0+1)) _ (by omega) ⟨_,0+1,rfl,rfl,by omega,?_⟩
         simp(disch:=omega) [go_sem,t3,t4,t5,t87,t88,t89,g0,g1,g2,zab]
         simpa using HG
        ·have ql:0<nk.length:=List.length_pos_iff.2 q4
         by_cases q5:nf≤fi
         ·have:=hbad (hD ⟨q4,q5⟩)
          clear hgo hD hD2
          simp-implicitDefEqProofs[go_sem,t3,t4,t5,t87,t88,t89,g0,g1,g2,hlt,q1,q2,q2',q2'',hnd,Nd.cs,q4,ql,q5]
          exact hRf _ _ E0 this
         ·have HG:=Lib.hid (hgo (by omega) (by simp[q5]))
          clear hgo hD hD2
          simp-implicitDefEqProofs[go_sem,t3,t4,t5,t87,t88,t89,g0,g1,g2,hlt,q1,q2,q2',q2'',hnd,Nd.cs,q4,ql,q5]
          refine hJ (kids.length-(0+1)) _ (by omega) ⟨_,0+1,rfl,rfl,by omega,?_⟩
          simp(disch:=omega) [go_sem,t3,t4,t5,t87,t88,t89,g0,g1,g2,zab]
          simpa using HG
       ·obtain⟨j,rfl⟩:∃j,k=j+1:=⟨k-1,by omega⟩
        have hjl:j<kids.length:=by omega
        have hwj:IntKind.i64.wrap (j:Int)=(j:Int):=zab _ (by omega) (by omega)
        have hgd:kids.getD (j+1-1) 0=kids[j]:=by simp[hjl]
        have hpos:(0:Int)<(j:Int)+1:=by omega
        rw[hgd]at hgo hD2
        by_cases q3:kids[j]=xi
        ·have:=hbad (hD2 ⟨by omega,q3⟩)
         clear hgo hD hD2
         simp-implicitDefEqProofs[go_sem,t3,t4,t5,t87,t88,t89,g0,g1,g2,hlt,q1,q2,q2',q2'',hjl,hwj,hpos,q3]
         exact hRf _ _ E0 this
        ·by_cases q4:nk=[]
         ·have HG:=Lib.hid (hgo (by simp[q3]) (by simp[q4]))
          clear hgo hD hD2
          simp-implicitDefEqProofs[go_sem,t3,t4,t5,t87,t88,t89,g0,g1,g2,hlt,q1,q2,q2',q2'',hnd,Nd.cs,q4,hjl,hwj,hpos,q3]
          refine hJ (kids.length-(j+1+1)) _ (by omega) ⟨_,j+1+1,rfl,rfl,by omega,?_⟩
          simp(disch:=omega) [go_sem,t3,t4,t5,t87,t88,t89,g0,g1,g2,zab]
          simpa using HG
         ·have ql:0<nk.length:=List.length_pos_iff.2 q4
          by_cases q5:nf≤fi
          ·have:=hbad (hD ⟨q4,q5⟩)
           clear hgo hD hD2
           simp-implicitDefEqProofs[go_sem,t3,t4,t5,t87,t88,t89,g0,g1,g2,hlt,q1,q2,q2',q2'',hnd,Nd.cs,q4,ql,q5,hjl,hwj,hpos,q3]
           exact hRf _ _ E0 this
          ·have HG:=Lib.hid (hgo (by simp[q3]) (by simp[q5]))
           clear hgo hD hD2
           simp-implicitDefEqProofs[go_sem,t3,t4,t5,t87,t88,t89,g0,g1,g2,hlt,q1,q2,q2',q2'',hnd,Nd.cs,q4,ql,q5,hjl,hwj,hpos,q3]
           refine hJ (kids.length-(j+1+1)) _ (by omega) ⟨_,j+1+1,rfl,rfl,by omega,?_⟩
           simp(disch:=omega) [go_sem,t3,t4,t5,t87,t88,t89,g0,g1,g2,zab]
           simpa using HG
      ·simp-implicitDefEqProofs[go_sem,t3,t4,t5,t87,t88,t89,hlt]
       exact hRt _ _ E0 (hP.2 ⟨hcok,fun j hj=>hv.out j hj (by omega)⟩)
  ·have c4':¬(kids.length:Int)=(cuts.length:Int)+1:=by omega
   simp-implicitDefEqProofs[go_sem,Nd.cs,c0,hl0,hn1,c2,c2',c3,hl1,hw,c4']
   exact hRf _ _ (E _ _ _) (by rintro (q |q);exact c0 q.1;exact c4 q.2.2.2.2.1)
theorem zIf:cx.ft.get 257=some Tryz.f257:=za9 (by decide) (by kernel_rfl)
theorem zG8:cx.ft.get 291=some Tryz.f291:=za9 (by decide) (by kernel_rfl)
theorem zN5:cx.ft.get 259=some Tryz.f259:=za9 (by decide) (by kernel_rfl)
theorem zJ6 (u v:Bool)(g:List Nd)(n:Nd)(d:List Fc)(hg:g.length≤1000000000)(hd:d.length≤1000000000)(hc:n.cuts.length<1000000000)(hk:n.kids.length≤1000000000):Ret Tryz.prog cx 257 [.agg n.cs,.ip [.fz 4 u (zal g)],.ip [.fz 4 v (za8 d)]] (.bool (!zio g n d)):=by
 refine Ret.mk fun h nx R hR=>zaa (sz:=10) (rs:=[.tmp 4]) za4 zIf rfl rfl rfl (by simp) ?_
 have E:∀x,Ext nx h (h.put nx x):=fun x=>(Ext.refl nx h).put (Nat.le_refl _) _
 simp-implicitDefEqProofs[go_sem]
 refine Ret.use (zPt u v g n d hg hd hc hk) ?_
 simp-implicitDefEqProofs[go_sem,za0]
 exact hR _ _ _ (E _) (Fz.eq rfl rfl)
theorem zRr (full:Bool)(l:List Nd)(fid:FuncId)(cap:List AV)(p:Nd→Bool)(hl:l.length≤1000000000)(hp:∀x∈l,Ret Tryz.prog cx fid ([.agg x.cs]++cap) (.bool (p x))):Ret Tryz.prog cx 291 [.fz 4 full (zal l),.func fid [] cap] (.int .i64 (zb8 p l)):=by
 refine Ret.mk fun h nx R hR=>zaa (sz:=19) (rs:=[.tmp 4]) za4 zG8 rfl rfl rfl (by simp) ?_
 simp[go_sem]
 refine zap (fun mm st=>∃tm k,st=.mk tm h nx []∧mm=l.length-k∧k≤l.length∧tm.get 0=some (.fz 4 full (zal l))∧tm.get 1=some (.func fid [] cap)∧tm.get 7=some (.int .i64 (l.length:Int))∧tm.get 8=some (.int .i64 (k:Int))∧RowKit.Hid (zb8 p l=zge p l k)) ⟨l.length,_,0,rfl,by simp,by simp,?_⟩ ?_
 ·simp[go_sem]
  exact Lib.hid (zv4 _ l).symm
 ·rintro mm st ⟨tm,k,rfl,rfl,hk,t0,t1,t7,t8,hv⟩ J hJ
  refine zag za4 _ ?_
  by_cases hlt:k<l.length
  ·have hpk:=hp _ (List.getElem_mem hlt)
   by_cases he:p l[k]=true
   ·have:=zuv (p:=p) hlt he
    simp[go_sem,t0,t1,t7,t8,hlt]
    refine Ret.use hpk ?_
    simp[go_sem,za0,t0,t1,t7,t8,hlt,he]
    refine hR _ _ _ (Ext.refl _ _) (Fz.eq rfl ?_)
    rw[hv.out,this]
   ·have:=ztl (p:=p) hlt he
    have HM:=Lib.hid this
    clear this
    simp[go_sem,t0,t1,t7,t8,hlt]
    refine Ret.use hpk ?_
    simp[go_sem,za0,t0,t1,t7,t8,hlt,he]
    refine hJ (l.length-(k+1)) _ (by omega) ⟨_,k+1,rfl,rfl,by omega,?_⟩
    simp(disch:=omega) [go_sem,t0,t1,t7,t8,zab]
    exact Lib.hid (by rw[hv.out,HM.out])
  ·have:=zsg (p:=p) (l:=l) (k:=k) (by omega)
   simp[go_sem,t0,t1,t7,t8,hlt]
   refine hR _ _ _ (Ext.refl _ _) (Fz.eq rfl ?_)
   rw[hv.out,this]
theorem zE0 {α:Type}(p:α→Bool):∀l:List α,(decide (0≤zb8 p l))=l.any p
 |[]=>by simp[zb8]
 |y::l=>by
  have h1:=zE0 p l
  unfold zb8
  cases hy:p y with
  |true=>simp[hy]
  |false=>
   rw[List.any_cons,hy,Bool.false_or,← h1]
   simp only[Bool.false_eq_true,if_false]
   split <;> simp <;> omega
theorem zHq (full:Bool)(l:List Nd)(fid:FuncId)(cap:List AV)(p:Nd→Bool)(hl:l.length≤1000000000)(hp:∀x∈l,Ret Tryz.prog cx fid ([.agg x.cs]++cap) (.bool (p x))):Ret Tryz.prog cx 259 [.fz 4 full (zal l),.func fid [] cap] (.bool (l.any p)):=by
 refine Ret.mk fun h nx R hR=>zaa (sz:=9) (rs:=[.tmp 4]) za4 zN5 rfl rfl rfl (by simp) ?_
 simp-implicitDefEqProofs[go_sem]
 refine Ret.use (zRr full l fid cap p hl hp) ?_
 simp-implicitDefEqProofs[go_sem,za0]
 exact hR _ _ _ (Ext.refl _ _) (Fz.eq rfl (by rw[zE0]))
theorem zBb:cx.ft.get 150=some Tryz.f150:=za9 (by decide) (by kernel_rfl)
def zfv (g:List Nd) (x:Int):Bool:=match g[x.toNat]? with
 |some n=>zmp n
 |none=>false
def ze2 (g:List Nd):Nat→Nat→List Int→Nat×List Int
 |0,at_,cs=>(at_,cs)
 |f+1,at_,cs=>match g[at_]? with
  |none=>(at_,cs)
  |some n=>if n.kids=[] then (at_,cs) else
   ze2 g f (n.kids.getD (zb8 (zfv g) n.kids).toNat 0).toNat (if 0<zb8 (zfv g) n.kids then cs.set n.fact.toNat (n.cuts.getD ((zb8 (zfv g) n.kids).toNat-1) 0) else cs)
theorem zu7 (cs:List Int) (k:Nat) (x:Int)(hk:k<cs.length):za3 (za5 cs) k [.int .i64 x]=za5 (cs.set k x):=by
 induction cs generalizing k with
 |nil=>simp at hk
 |cons y cs ih=>
  cases k with
  |zero=>simp[za3,za5]
  |succ k=>
   have:=ih k (by simpa using hk)
   simp[za3,za5]at this ⊢
   exact this
theorem zlq:∀l:List Nd,zah (zal l)=true
 |[]=>rfl
 |x::l=>by
  have h1:=zlq l
  rw[show zal (x::l)=.agg x.cs::zal l from rfl]
  simp[zah,plain,Nd.cs_plain,h1]
@[go_sem] theorem yck (e:TypeId) (size b:Nat)(z:Option AV) (x:Nat) (s:Nat)(y:Bool)(fs:List (Nat×Nat×Bool))(full:Bool)(xs:List AV)(k:IntKind)(h:Tr ABlk) (nx:Nat)(hn:0<xs.length):
  zd3 (.mk (.slice e) size b z ((x,s,y)::fs)) (.fz s full xs) (.int k 0) h nx=.val (.ip (xs[0]).cells) h nx:=zvf e size b z x s y fs full xs k 0 h nx hn
@[go_sem] theorem yao (e:TypeId) (size b:Nat)(z:Option AV) (x:Nat) (s:Nat)(y:Bool)(fs:List (Nat×Nat×Bool))(full:Bool)(xs:List AV)(k:IntKind) (n:Nat)(h:Tr ABlk) (nx:Nat)(hn:n+1<xs.length):
  zd3 (.mk (.slice e) size b z ((x,s,y)::fs)) (.fz s full xs) (.int k ((n:Int)+1)) h nx=.val (.ip (xs[n+1]).cells) h nx:=zvf e size b z x s y fs full xs k (n+1) h nx hn
def zxl (g:List Nd)(d:List Fc):Prop:=0<g.length∧zc5 d=true∧∀(a:Nat)(n:Nd),g[a]?=some n→n.kids≠[]→∃fi:Nat,n.fact=(fi:Int)∧fi<d.length∧n.kids.length=n.cuts.length+1∧n.cuts.length<1000000∧(∀x∈n.kids,∃xi:Nat,x=(xi:Int)∧xi<g.length)∧∃(j:Nat) (xi:Nat)(m:Nd),zb8 (zfv g) n.kids=(j:Int)∧j<n.kids.length∧n.kids[j]?=some (xi:Int)∧g[xi]?=some m∧(m.kids≠[]→n.fact<m.fact)
set_option maxHeartbeats 1000000 in
theorem zJh (u v:Bool)(g:List Nd)(d:List Fc)(hg:g.length≤1000000)(hd:d.length≤1000000)(hs:∀f∈d,f.name.size≤1000000000)(hV:Ret Tryz.prog cx 208 [.agg [.fz 4 u (zal g)],.agg [.fz 4 v (za8 d)]] (.bool true))(hW:zxl g d)(h:Tr ABlk) (nx:Nat)(R:AV→Tr ABlk→Nat→Prop)
  (hR:∀c g' ny,Ext nx h g'→nx≤ny→zn5 nx ny g' (some c) (ze2 g (d.length+1) 0 (ze1 d)).2→(∃m,g[(ze2 g (d.length+1) 0 (ze1 d)).1]?=some m∧m.leaf=true)→R (.tup [c,.bool true]) g' ny)
  (hR2:∀g' ny,Ext nx h g'→nx≤ny→(∃m,g[(ze2 g (d.length+1) 0 (ze1 d)).1]?=some m∧m.leaf=false)→R (.tup [.sl0,.bool false]) g' ny):za7 Tryz.prog cx 150 [.agg [.fz 4 u (zal g)],.agg [.fz 4 v (za8 d)]] h nx R:=by
 refine za7.ofLe fun hG=>zaa (sz:=58) (rs:=[.tmp 4,.tmp 5]) za4 zBb rfl rfl rfl (by simp) ?_
 simp-implicitDefEqProofs[go_sem]
 refine Ret.use hV ?_
 simp-implicitDefEqProofs[go_sem,za0]
 refine zJc v d hd hs _ _ _ fun c g1 ny e1 hny hacc=>?_
 have gb:g1.get nx=some (bx 92 [.fz 4 u (zal g)] false 0):=by rw[e1 _ (by omega)];simp[go_sem]
 have E1:Ext nx h g1:=by
  intro k hk
  rw[e1 k (by omega)]
  simp[go_sem,show ¬k=nx by omega,show ¬k=nx+1 by omega]
 simp-implicitDefEqProofs[go_sem,za0]
 obtain⟨w1,w2,w3⟩:=hW
 have hlen0:(ze1 d).length=d.length:=by simp[ze1,w2]
 generalize ze1 d=cs0 at hacc hR hR2 hlen0
 generalize hres:ze2 g (d.length+1) 0 cs0=res at hR hR2
 refine zap (fun mm st=>∃tm h' nx' a cs,st=.mk tm h' nx' []∧a<g.length∧tm.get 2=some (.ptr nx 0)∧tm.get 6=some c∧tm.get 7=some (.int .i64 (a:Int))∧h'.get nx=some (bx 92 [.fz 4 u (zal g)] false 0)∧zn5 (nx+1+1) ny h' (some c) cs∧cs.length=d.length∧Ext nx h h'∧ny≤nx'∧RowKit.Hid (ze2 g mm a cs=res∧∀n,g[a]?=some n→n.kids≠[]→d.length-n.fact.toNat<mm)) ⟨d.length+1,_,_,_,0,cs0,rfl,w1,?_⟩ ?_
 ·simp-implicitDefEqProofs[go_sem,gb,hacc,hlen0,E1]
  exact Lib.hid ⟨hres,fun n _ _=>by omega⟩
 ·rintro mm st ⟨tm,h',nx',a,cs,rfl,ha,t2,t6,t7,gb',hacc',hlc,he,hn',hv⟩ J hJ
  refine zag za4 _ ?_
  obtain⟨v1,v2⟩:=hv.out
  clear hv
  obtain⟨n,hn⟩:∃n,g[a]?=some n:=⟨g[a],by simp[ha]⟩
  have hna:g[a]=n:=by
   have:g[a]?=some g[a]:=by simp[ha]
   rw[this]at hn
   exact Option.some.inj hn
  obtain⟨f,cu,ki,lf⟩:=n
  by_cases c1:ki=[]
  ·have hr:res=(a,cs):=by
    rw[← v1]
    cases mm with
    |zero=>rfl
    |succ mm=>simp[ze2,hn,c1]
   cases lf with
   |true=>
    simp-implicitDefEqProofs[go_sem,t2,t6,t7,gb',ha,hna,Nd.cs,c1]
    refine hR _ _ _ he (by omega) ?_ ⟨_,by rw[hr];exact hn,rfl⟩
    rw[hr]
    rcases hacc' with q |⟨q,b,b1,b2,b3,b4⟩
    ·exact .inl q
    ·exact .inr ⟨q,b,by omega,by omega,b3,b4⟩
   |false=>
    simp-implicitDefEqProofs[go_sem,t2,t6,t7,gb',ha,hna,Nd.cs,c1]
    exact hR2 _ _ he (by omega) ⟨_,by rw[hr];exact hn,rfl⟩
  ·obtain⟨fi,f1,f2,f3,f4,f5,j,xi,m,j1,j2,j3,j4,j5⟩:=w3 a _ hn c1
   simp only at f1 f3 f4 f5 j1 j2 j3 j5
   subst f1
   have hmm:=v2 _ hn c1
   simp only[Int.toNat_natCast]at hmm
   obtain⟨M,rfl⟩:∃M,mm=M+1:=⟨mm-1,by omega⟩
   have hkj:ki[j]=(xi:Int):=by
    have:ki[j]?=some ki[j]:=by simp[j2]
    rw[this]at j3
    exact Option.some.inj j3
   have v1':ze2 g M xi (if 0<(j:Int) then cs.set fi (cu.getD (j-1) 0) else cs)=res:=by
    rw[← v1,ze2,hn]
    simp only[c1,if_false,j1,Int.toNat_natCast,List.getD,j3,Option.getD_some]
   have hxi:xi<g.length:=by
    by_cases q:xi<g.length
    ·exact q
    ·rw[List.getElem?_eq_none (by omega)]at j4;cases j4
   have v2':∀n,g[xi]?=some n→n.kids≠[]→d.length-n.fact.toNat<M:=by
    intro n q1 q2
    rw[j4]at q1
    cases q1
    have z1:=j5 q2
    obtain⟨fi',z2,z3,_⟩:=w3 xi _ j4 q2
    rw[z2]at z1 ⊢
    simp only[Int.toNat_natCast]
    omega
   have n0:¬nx=nx':=by omega
   have ql:0<ki.length:=List.length_pos_iff.2 c1
   have hidx:=zAu false ki 215 [.ip [.fz 4 u (zal g)]] (zfv g) (by omega) fun x hx=>by
    obtain⟨y,rfl,y2⟩:=f5 x hx
    have:=zQl u g y y2
    rw[show zmp g[y]=zfv g (y:Int) by simp[zfv,y2]]at this
    exact this
   rw[j1]at hidx
   simp-implicitDefEqProofs[go_sem,t2,t6,t7,gb',ha,hna,Nd.cs,c1,ql,n0]
   refine Ret.useB zgh hidx rfl (.cons _ _ _ _ (Fz.eq (by simp[plain,zhw]) rfl) (.cons _ _ _ _ (.func 215 _ _ _ _ .nil (.cons _ _ _ _ (zi7 (t:=92) (opn:=false) (esz:=0) (by omega) (by simp[go_sem,n0,gb']) (by simp[plain,zah,zlq])) .nil)) .nil)) ?_
   rcases Nat.eq_zero_or_pos j with j0 |j0
   ·subst j0
    simp at v1'
    have HV:=Lib.hid (And.intro v1' v2')
    clear v1' v2' v1 v2
    simp-implicitDefEqProofs[go_sem,za0,t2,t6,t7,gb',n0,ql,hkj]
    refine hJ M _ (by omega) ⟨_,_,_,xi,cs,rfl,hxi,?_⟩
    simp-implicitDefEqProofs[go_sem,t2,t6,t7,gb',n0,hlc]
    refine⟨?_,?_,by omega,HV⟩
    ·rcases hacc' with q |⟨q,b,b1,b2,b3,b4⟩
     ·exact .inl q
     ·exact .inr ⟨q,b,b1,b2,b3,by simp[go_sem,show ¬b=nx' by omega,b4]⟩
    ·simp(disch:=omega)only[za6]
     exact he
   ·obtain⟨jj,rfl⟩:∃jj,j=jj+1:=⟨j-1,by omega⟩
    have hjc:jj<cu.length:=by omega
    have hpos:(0:Int)<(jj:Int)+1:=by omega
    have hpos':(0:Int)<((jj+1:Nat):Int):=by omega
    rw[if_pos hpos']at v1'
    simp[hjc]at v1'
    have HV:=Lib.hid (And.intro v1' v2')
    clear v1' v2' v1 v2
    have hwj:IntKind.i64.wrap (jj:Int)=(jj:Int):=zab _ (by omega) (by omega)
    rcases hacc' with⟨q,_⟩ |⟨q,b,b1,b2,b3,b4⟩
    ·subst q
     simp at hlc
     omega
    cases b3
    have nb:¬b=nx':=by omega
    have nb1:¬nx=b:=by omega
    have nb2:¬nx'=b:=by omega
    have hfc:fi<cs.length:=by omega
    have hfc1:fi+1≤cs.length:=by omega
    simp-implicitDefEqProofs[go_sem,za0,t2,t6,t7,gb',n0,ql,hpos]
    refine zbq mixed za4 zbe [10] [] [] (by kernel_rfl) ?_
    simp-implicitDefEqProofs[go_sem,t2,t6,t7,gb',n0,ql,hjc,hwj,hfc,hfc1,b4,nb,nb1,nb2,j2,hkj,zu7 cs fi _ hfc]
    refine hJ M _ (by omega) ⟨_,_,_,xi,cs.set fi cu[jj],rfl,hxi,?_⟩
    simp-implicitDefEqProofs[go_sem,t2,t6,t7,gb',n0,nb1,hlc]
    refine⟨?_,?_,by omega,HV⟩
    ·refine .inr ⟨by intro z;have:=congrArg List.length z;simp at this;exact q this,b,b1,b2,by simp[hlc],by simp[go_sem]⟩
    ·simp(disch:=omega)only[za6]
     exact he
end
end Go.Ev
namespace Go.Ev
open Go.Proofs
noncomputable section
attribute [-go_sem] zaf zac zay
theorem zS3:cx.ft.get 145=some Tryz.f145:=za9 (by decide) (by kernel_rfl)
def zax (x:Int)(c k:List Int):List Int→List Int→Int×List Int×List Int
 |s::ss,y::ys=>if y=x then zax x c k ss ys else zax y (c++[s]) (k++[y]) ss ys
 |_,_=>(x,c,k)
theorem zv6 {x y s:Int}{c k ss ys:List Int}(h:y=x):zax x c k (s::ss) (y::ys)=zax x c k ss ys:=by rw[zax,if_pos h]
theorem zwq {x y s:Int}{c k ss ys:List Int}(h:¬y=x):zax x c k (s::ss) (y::ys)=zax y (c++[s]) (k++[y]) ss ys:=by rw[zax,if_neg h]
theorem zLm {x:Int}{c k ss:List Int}:zax x c k ss []=(x,c,k):=by cases ss <;> rfl
theorem zmt {k:List Int}{j:Nat}{x:Int}(h:k[j]?=some x)(hh:j<(za5 k).length):(za5 k)[j]'hh=.int .i64 x:=by
 have hj:j<k.length:=by simpa[za5]using hh
 rw[List.getElem?_eq_getElem hj]at h
 cases h
 simp[za5]
theorem fyI {g:Tr ABlk}{F:Nat→Prop}{b:Nat}{s r:List Int}{cp esz:Nat}{op opn:Bool}(hF:F b)(hg:g.get b=some (bx 3 (za5 (s++r)) opn esz)):Fy g F (.sl b 0 s.length cp op) (.fz 1 false (za5 s)):=
 .slz b 0 _ cp op 3 _ _ opn esz 1 (za5 s) (za5 s) (za5 s) hF hg (by simp[za5]) (fun j hj=>by
  rw[Nat.zero_add,zbt]
  have hj2:j<s.length:=by simpa[za5]using hj
  simp only[za5,List.map_append]
  rw[List.getElem?_append_left (by simpa using hj2)]) (FyL.same _) (zrg s) (zp0 s)
theorem zfa {h:Tr ABlk}{k:Nat}{l:List Nat}(hk:¬k∈l):(zdd h l).get k=h.get k:=by rw[zjg,if_neg hk]
def CK (lo:Nat)(h:Tr ABlk) (nx:Nat) (k0:Int)(c k:List Int)(vc vk:AV):Prop:=(c=[]∧k=[k0]∧vc=.sl0∧vk=.fz 1 true [.int .i64 k0])∨(c≠[]∧k.length=c.length+1∧∃bc bk,lo<bc∧lo<bk∧bc≠bk∧bc<nx∧bk<nx∧vc=.sl bc 0 c.length 0 true∧vk=.sl bk 0 k.length 0 true∧h.get bc=some (bx 3 (za5 c) true 1)∧h.get bk=some (bx 3 (za5 k) true 1))
@[go_sem] theorem zYb (m e size:Nat)(news xs:List AV)(h:Tr ABlk) (nx:Nat)(h0:m≠0)(h1:xs.length+m≤16777216):zf0 true m news e size (.fz size true xs) h nx=.val (.sl nx 0 (xs.length+m) 0 true) (h.put nx (some (bx e (xs.flatMap AV.cells++news) true size))) (nx+1):=by
 have e0:Nat.beq m 0=false:=by cases m;exact absurd rfl h0;rfl
 have e1:Nat.ble (Nat.add xs.length m) 16777216=true:=Nat.ble_eq_true_of_le h1
 simp only[zf0,e0,e1,Nat.beq_refl,Bool.and_self]
set_option maxHeartbeats 4000000 in
theorem zCt (O:Nat→Prop)(h:Tr ABlk) (nx p:Nat)(L:List Nd) (i k0:Int)(st ks:List Int)(u v:Bool)(hM:zcx O h nx p L)(hL:L.length<1000000)(hi:I64 i)(hst:∀x∈st,I64 x)(hks:∀x∈k0::ks,I64 x)(hlen:(k0::ks).length≤st.length)(hlk:(k0::ks).length≤90000)
  (n:Nd) (hn:n=⟨i,(zax k0 [] [k0] st (k0::ks)).2.1,(zax k0 [] [k0] st (k0::ks)).2.2,false⟩) (R:AV→Tr ABlk→Nat→Prop)
  (hR1:∀g ny,n.kids.length=1→Ext nx h g→nx≤ny→R (.int .i64 k0) g ny)
  (hR:∀O' g ny,¬n.kids.length=1→NdI n→zbp O h nx O' g ny→zcx O' g ny p (zeh L n)→R (.int .i64 (zeq L n:Int)) g ny):za7 Tryz.prog cx 145 [.ptr p 0,.int .i64 i,.fz 1 u (za5 st),.fz 1 v (za5 (k0::ks))] h nx R:=by
 refine zaa (sz:=59) (rs:=[.tmp 8]) za4 zS3 rfl rfl rfl (by simp) ?_
 obtain⟨K,hK⟩:∃K,K=k0::ks:=⟨_,rfl⟩
 have hK1:1≤K.length:=by rw[hK];simp
 have hKt:(za5 K).take 1=[.int .i64 k0]:=by rw[hK];rfl
 have hK0:∀hh,K[0]'hh=k0:=by subst hK;intro hh;rfl
 rw[← hK]at hn hks hlen hlk ⊢
 clear hK
 simp-implicitDefEqProofs[go_sem,hK1,hKt,za3]
 refine zap (fun mm s=>∃tm h' nx' j x c k vc vk,s=.mk tm h' nx' []∧mm=K.length-j∧j≤K.length∧tm.get 0=some (.ptr p 0)∧tm.get 2=some (.fz 1 u (za5 st))∧tm.get 3=some (.fz 1 v (za5 K))∧tm.get 9=some (.ptr nx 0)∧tm.get 16=some (.fz 1 v (za5 K))∧tm.get 17=some (.int .i64 (K.length:Int))∧tm.get 18=some (.int .i64 (j:Int))∧
  h'.get nx=some (bx 154 [.int .i64 i,vc,vk,.bool false] false 0)∧k.getLast?=some x∧
  CK nx h' nx' k0 c k vc vk∧
  Ext nx h h'∧nx<nx'∧k.length≤j+1∧(∀y∈c,I64 y)∧(∀y∈k,I64 y)∧RowKit.Hid (n=⟨i,(zax x c k (st.drop j) (K.drop j)).2.1,(zax x c k (st.drop j) (K.drop j)).2.2,false⟩)) ⟨K.length,_,_,_,0,k0,[],[k0],.sl0,.fz 1 true [.int .i64 k0],rfl,by simp,by simp,?_⟩ ?_
 ·simp-implicitDefEqProofs[go_sem]
  refine⟨.inl ⟨rfl,rfl,rfl,rfl⟩,?_,hks k0 ?_,Lib.hid hn⟩
  ·simp(disch:=omega)only[za6]
   exact Ext.refl _ _
  ·have h0:=hK0 (by omega)
   rw[← h0]
   exact List.getElem_mem _
 ·rintro mm s ⟨tm,h',nx',j,x,c,k,vc,vk,rfl,rfl,hj,t0,t2,t3,t9,t16,t17,t18,g0,hx,hck,he,hn',hkl,hcI,hkI,hv⟩ J hJ
  refine zag za4 _ ?_
  have n0:¬nx=nx':=by omega
  have w0:IntKind.i64.wrap 0=0:=rfl
  have n1:¬nx=nx'+1:=by omega
  by_cases hlt:j<K.length
  ·obtain⟨y,hy⟩:∃y,y=K[j]:=⟨_,rfl⟩
   have hjs:j<st.length:=by omega
   obtain⟨s,hs⟩:∃s,s=st[j]:=⟨_,rfl⟩
   have hyI:I64 y:=by rw[hy];exact hks _ (List.getElem_mem _)
   have hsI:I64 s:=by rw[hs];exact hst _ (List.getElem_mem _)
   have hv1:=hv.out
   rw[List.drop_eq_getElem_cons hlt,List.drop_eq_getElem_cons hjs,← hy,← hs]at hv1
   by_cases hyx:y=x
   ·rw[zv6 hyx]at hv1
    have HV:=Lib.hid hv1
    clear hv1
    subst hyx
    rcases hck with⟨rfl,rfl,rfl,rfl⟩ |⟨hc0,hcl,bc,bk,b1,b2,b3,b4,b5,rfl,rfl,gc,gk⟩
    ·simp at hx
     subst hx
     simp-implicitDefEqProofs[go_sem,t0,t2,t3,t9,t16,t17,t18,hlt,g0,w0,← hy]
     refine hJ (K.length-(j+1)) _ (by omega) ⟨_,_,_,j+1,k0,[],[k0],.sl0,.fz 1 true [.int .i64 k0],rfl,rfl,by omega,?_⟩
     simp(disch:=omega) [go_sem,t0,t2,t3,t9,t16,t17,t18,zab,g0]
     exact⟨.inl ⟨rfl,rfl,rfl,rfl⟩,he,hn',hyI,HV⟩
    ·have hkpos:0<k.length:=by omega
     have w1:IntKind.i64.wrap ((k.length:Int)-1)=((k.length-1:Nat):Int):=by rw[zab] <;> omega
     have hlast:k[k.length-1]?=some y:=by rw[← List.getLast?_eq_getElem?];exact hx
     have hat:=zmt hlast
     have hk1:k.length-1<k.length:=by omega
     obtain⟨q1,hq1⟩:∃q1,q1=k.length-1:=⟨_,rfl⟩
     rw[← hq1]at w1 hat hk1
     simp-implicitDefEqProofs[go_sem,t0,t2,t3,t9,t16,t17,t18,hlt,g0,gk,w1,hat,hk1,← hy]
     refine hJ (K.length-(j+1)) _ (by omega) ⟨_,_,_,j+1,y,c,k,.sl bc 0 c.length 0 true,.sl bk 0 k.length 0 true,rfl,rfl,by omega,?_⟩
     simp(disch:=omega) [go_sem,t0,t2,t3,t9,t16,t17,t18,zab,g0,hx,hc0,hcl]
     exact⟨.inr ⟨hc0,hcl,bc,bk,b1,b2,b3,by omega,by omega,rfl,by rw[hcl],gc,gk⟩,he,hn',by omega,hcI,hkI,HV⟩
   ·rw[zwq hyx]at hv1
    have HV:=Lib.hid hv1
    clear hv1
    rcases hck with⟨rfl,rfl,rfl,rfl⟩ |⟨hc0,hcl,bc,bk,b1,b2,b3,b4,b5,rfl,rfl,gc,gk⟩
    ·simp at hx
     subst hx
     simp-implicitDefEqProofs[go_sem,t0,t2,t3,t9,t16,t17,t18,hlt,g0,w0,← hy,hyx]
     refine zbq mixed za4 zbe [7,12,14,16] [] [(9,7)] (by kernel_rfl) ?_
     simp-implicitDefEqProofs[go_sem,t0,t2,t3,t9,t16,t17,t18,hlt,g0,hjs,← hs,n0,n1,za3]
     refine hJ (K.length-(j+1)) _ (by omega) ⟨_,_,_,j+1,y,[s],[k0,y],.sl nx' 0 1 0 true,.sl (nx'+1) 0 2 0 true,rfl,rfl,by omega,?_⟩
     simp(disch:=omega) [go_sem,t0,t2,t3,t9,t16,t17,t18,zab,g0]
     refine⟨.inr ⟨by simp,rfl,nx',nx'+1,by omega,by omega,by omega,by omega,by omega,rfl,rfl,?_,?_⟩,?_,hsI,⟨hkI _ (by simp),hyI⟩,?_⟩
     ·simp[go_sem,show ¬nx'=nx by omega,za5]
     ·simp[go_sem,show ¬nx'+1=nx by omega,za5]
     ·simp(disch:=omega)only[za6]
      exact he
     ·exact HV
    ·have hkpos:0<k.length:=by omega
     have w1:IntKind.i64.wrap ((k.length:Int)-1)=((k.length-1:Nat):Int):=by rw[zab] <;> omega
     have hlast:k[k.length-1]?=some x:=by rw[← List.getLast?_eq_getElem?];exact hx
     have hat:=zmt hlast
     have hk1:k.length-1<k.length:=by omega
     obtain⟨q1,hq1⟩:∃q1,q1=k.length-1:=⟨_,rfl⟩
     rw[← hq1]at w1 hat hk1
     have z1:¬bc=nx':=by omega
     have z2:¬bk=nx':=by omega
     have z3:¬bk=bc:=fun e=>b3 e.symm
     have z4:¬nx=bc:=by omega
     have z5:¬nx=bk:=by omega
     have fo1:=zi2 c
     have fo2:=zi2 k
     have le1:c.length+1≤16777216:=by omega
     have le2:k.length+1≤16777216:=by omega
     simp-implicitDefEqProofs[go_sem,t0,t2,t3,t9,t16,t17,t18,hlt,g0,gk,w1,hat,hk1,← hy,hyx]
     refine zbq mixed za4 zbe [7,12,14,16] [] [(9,7)] (by kernel_rfl) ?_
     simp-implicitDefEqProofs[go_sem,t0,t2,t3,t9,t16,t17,t18,hlt,g0,gc,gk,hjs,← hs,n0,n1,za3,z1,z2,z3,z4,z5,fo1,fo2,le1,le2]
     refine hJ (K.length-(j+1)) _ (by omega) ⟨_,_,_,j+1,y,c++[s],k++[y],.sl nx' 0 (c.length+1) 0 true,.sl (nx'+1) 0 (k.length+1) 0 true,rfl,rfl,by omega,?_⟩
     simp(disch:=omega) [go_sem,t0,t2,t3,t9,t16,t17,t18,zab,g0]
     refine⟨.inr ⟨by simp,by simp;omega,nx',nx'+1,by omega,by omega,by omega,by omega,by omega,by simp,by simp,?_,?_⟩,?_,by omega,?_,?_,HV⟩
     ·simp[go_sem,show ¬nx'=nx by omega,show ¬nx'=bk by omega,za5]
     ·simp[go_sem,show ¬nx'+1=nx by omega,za5]
     ·simp(disch:=omega)only[za6]
      exact he
     ·intro q hq
      rcases hq with hq |hq
      ·exact hcI q hq
      ·rw[hq];exact hsI
     ·intro q hq
      rcases hq with hq |hq
      ·exact hkI q hq
      ·rw[hq];exact hyI
  ·have hj2:K.drop j=[]:=List.drop_of_length_le (by omega)
   have hv1:=hv.out
   rw[hj2,zLm]at hv1
   simp only at hv1
   have hK00:=hK0 (by omega)
   rcases hck with⟨rfl,rfl,rfl,rfl⟩ |⟨hc0,hcl,bc,bk,b1,b2,b3,b4,b5,rfl,rfl,gc,gk⟩
   ·have hKe:∀hh,(za5 K)[0]'hh=.int .i64 k0:=fun hh=>zmt (by rw[List.getElem?_eq_getElem (by omega),hK00]) hh
    have hK2:0<K.length:=by omega
    simp-implicitDefEqProofs[go_sem,t0,t2,t3,t9,t16,t17,t18,hlt,g0,hK2,hKe]
    have h0:n.kids.length=1:=by rw[hv1];rfl
    exact hR1 _ nx' h0 he (by omega)
   ·have hk1:¬k.length=1:=by
     have:c.length≠0:=fun e=>hc0 (List.eq_nil_of_length_eq_zero e)
     omega
    have hk2:¬(k.length:Int)=1:=by omega
    simp-implicitDefEqProofs[go_sem,t0,t2,t3,t9,t16,t17,t18,hlt,g0,hk1,hk2]
    have hnI:NdI n:=by
     rw[hv1]
     exact⟨hi,hcI,hkI,by show c.length≤100000;omega,by show k.length≤100000;omega⟩
    have hn1:¬n.kids.length=1:=by rw[hv1];exact hk1
    have hncs:n.cs=[.int .i64 i,.fz 1 false (za5 c),.fz 1 false (za5 k),.bool false]:=by rw[hv1];rfl
    refine zng (fun a=>a∈[bc,bk]) (FyH.kill _) (args':=[.ptr p 0,.agg n.cs]) ?_ ?_
    ·rw[hncs]
     refine .cons _ _ _ _ (.same _) (.cons _ _ _ _ (.agg _ _ (.cons _ _ _ _ (.same _) (.cons _ _ _ _ (fyI (s:=c) (r:=[]) (by simp) (by rw[List.append_nil];exact gc)) (.cons _ _ _ _ (fyI (s:=k) (r:=[]) (by simp) (by rw[List.append_nil];exact gk)) (.cons _ _ _ _ (.same _) .nil))))) .nil)
    have hM2:zcx O (zdd h' [bc,bk]) nx' p L:=hM.mono (fun _ h=>h) (fun a ha _=>by
     rw[zfa (by simp;omega)]
     exact he a ha) (by omega)
    refine znj O _ _ p L n hM2 hnI hL _ fun O' g ny hk hm=>?_
    obtain⟨k1,k2,k3⟩:=hk
    simp-implicitDefEqProofs[go_sem,za0]
    refine hR O' g ny hn1 hnI ⟨by omega,fun a ha hO=>?_,fun a ha=>?_⟩ hm
    ·rw[k2 a (by omega) hO,zfa (by simp;omega)]
     exact he a ha
    ·rcases k3 a ha with q |q
     ·exact .inl q
     ·exact .inr (by omega)
end
end Go.Ev
