/- Texts. -/
import Derived.Test.YtkdnmldmffkkoaaGreatDoorP19
set_option linter.unusedSimpArgs false
set_option linter.unusedVariables false
set_option maxRecDepth 100000
set_option maxHeartbeats 8000000
namespace Go.Ev
open Go.Proofs
noncomputable section
attribute [-go_sem] dw bP ep
theorem zHb:cx.ft.get 195=some Tryz.f195:=aT (by decide) (by kernel_rfl)
def lU:List Int→List UInt8
 |[]=>[]
 |k::l=>Lib.itoa k++44::lU l
def Gt (n:Nd):List UInt8:=(if n.leaf then 49 else 48)::(Lib.itoa n.fact++(58::lU n.cuts++(58::lU n.kids)))
def bN (n:Nd):ByteArray:=⟨(Gt n).toArray⟩
def cS (i:Int):Prop:=-9223372036854775808≤i∧i≤9223372036854775807
def jH (n:Nd):Prop:=cS n.fact∧(∀x∈n.cuts,cS x)∧(∀x∈n.kids,cS x)∧n.cuts.length≤100000∧n.kids.length≤100000
theorem wK (i:Int)(h:cS i):(Lib.itoa i).length≤21:=by
 obtain⟨h0,h1⟩:=h;rw[Lib.itoa]
 by_cases c:i<0
 ·rw[if_pos c];have:i.natAbs<18446744073709551616:=by omega
  have:=G7 i.natAbs (by omega) this;simp[Lib.decDigits_length];omega
 ·rw[if_neg c,Lib.decDigits_length]
  rcases Nat.eq_zero_or_pos i.toNat with e |e
  ·rw[e,Lib.nDigits_small (by omega)];omega
  ·have:=G7 i.toNat e (by omega);omega
@[go_sem] theorem ye4 (e:TypeId) (size b:Nat)(z:Option AV) (x:Nat) (s:Nat)(y:Bool)(fs:List (Nat×Nat×Bool)) (i o l cp:Nat)(opn:Bool)(k:IntKind)(h:Tr ABlk) (nx:Nat)(hn:1<l):
  jE (.mk (.slice e) size b z ((x,s,y)::fs)) (.sl i o l cp opn) (.int k 1) h nx=.val (.ptr i (o+s)) h nx:=by
 have:=Ym e size b z x s y fs i o l cp opn k 1 h nx hn;simpa using this
theorem tv.mono {h g:Tr ABlk}{nx ny q:Nat}{v:AV}{l:List UInt8}(o:tv h nx q v l)(e:g.get q=h.get q)(hn:nx≤ny):tv g ny q v l:=by
 obtain⟨h1,h2⟩:=o;exact⟨by omega,by rw[e];exact h2⟩
def uP (cuts kids:List Int):Nat→List UInt8
 |0=>58::lU cuts++58::lU kids
 |1=>58::lU kids
 |_=>[]
theorem zQa (n:Nd)(hn:jH n):ay Tryz.prog cx 195 [.agg n.cs] (.bs (bN n)):=by
 refine ay.mk fun h nx R hR=>aV (sz:=48) (rs:=[.tmp 2]) aE zHb rfl rfl rfl (by simp) ?_;obtain⟨f,cuts,kids,leaf⟩:=n;obtain⟨hf,hc,hk,gP,Ck⟩:=hn;simp only at hf hc hk gP Ck;have a1:¬nx=nx+1:=by omega
 obtain⟨lf,Cj⟩:∃lf:UInt8,lf=if leaf then 49 else 48:=⟨_,rfl⟩
 have sq:bN ⟨f,cuts,kids,leaf⟩=⟨(([lf]++Lib.itoa f)++uP cuts kids 0).toArray⟩:=by
  simp[bN,Gt,uP,Cj]
 rw[sq]at hR;have lF:=wK f hf;obtain⟨Io,MV⟩:=hf;cases leaf
 all_goals
  simp at Cj;have w1:IntKind.u8.wrap 49=49:=rfl;simp-implicitDefEqProofs[go_sem,Nd.cs,aG,w1];refine zyb _ _ (nx+1) _ [lf] f ⟨by omega,.inr ⟨by simp,by simp[go_sem,bM,Cj]⟩⟩ (by simp) Io MV _ fun g ny q b1 b2 b3 b4=>?_;have E1:aA nx h g:=by
   intro k hk;rw[b3 k (by omega) (by omega)];simp[go_sem,show ¬k=nx by omega,show ¬k=nx+1 by omega]
  obtain⟨lv,gn⟩:∃lv,g.get nx=some (bx 154 [.int .i64 f,.fz 1 false (aI cuts),.fz 1 false (aI kids),.bool lv] false 0):=by
   rw[b3 nx (by omega) (by omega)];simp[go_sem]
  have eY:([lf]++Lib.itoa f).length≤30:=by simp;omega
  generalize hA:[lf]++Lib.itoa f=A at b4 hR eY ⊢;have b5:¬nx=ny:=by omega
  simp-implicitDefEqProofs[go_sem,aB,gn,aG];refine bT (fun mm st=>∃tm h' ax k acc q v,st=.mk tm h' ax []∧mm=2-k∧k≤2∧tm.get 24=some (.sl ny 0 2 2 false)∧tm.get 25=some (.int .i64 2)∧tm.get 26=some (.int .i64 (k:Int))∧tm.get 3=some v∧tv h' ax q v acc∧nx≤q∧q≠ny∧ny<ax∧h'.get ny=some (bx 40 [.fz 1 false (aI cuts),.fz 1 false (aI kids)] false 0)∧aA nx h h'∧acc.length≤30+k * 2200001∧RowKit.Hid (A++uP cuts kids 0=acc++uP cuts kids k)) ⟨2,_,_,_,0,A,q,.sl q 0 A.length 0 true,rfl,by simp,by simp,?_⟩ ?_
  ·simp-implicitDefEqProofs[go_sem];refine⟨b4.mono (by simp[go_sem,show ¬q=ny by have:=b4.1;omega]) (by omega),by omega,by have:=b4.1;omega,?_,eY,Lib.hid trivial⟩;simp(disch:=omega)only[aL];exact E1
  ·rintro mm st ⟨tm,h',ax,k,acc,q',v',rfl,rfl,ei,t24,t25,t26,t3,ho,uo,qm,FH,gb,he,fU,hv⟩ J hJ
   refine bt aE _ ?_
   by_cases az:k<2
   ·obtain⟨qk,hq⟩:=ho;have m1:¬ny=ax:=by omega
    have m2:¬q'=ax:=by omega
    have fo:=uN acc;have we:acc.length+1≤16777216:=by omega
    have oU:¬ny=q':=fun e=>qm e.symm;have Cm:¬ny=ax+1:=by omega
    obtain⟨L,fX,hL,If,hI,Ix,hx⟩:∃(L:List Int) (fX:List UInt8),uP cuts kids k=58::lU L++fX∧uP cuts kids (k+1)=fX∧(∀x∈L,cS x)∧L.length≤100000∧∀hh,[AV.fz 1 false (aI cuts),AV.fz 1 false (aI kids)][k]'hh=AV.fz 1 false (aI L):=by
     rcases (by omega:k=0∨k=1) with rfl |rfl
     ·exact⟨cuts,_,rfl,rfl,hc,gP,fun _=>rfl⟩
     ·exact⟨kids,[],by simp[uP],rfl,hk,Ck,fun _=>rfl⟩
    have bD:=hv.out;rw[hL]at bD;have jd:(k:Int)<2:=by omega
    rcases hq with⟨rfl,gq⟩ |⟨rfl,gq⟩
    all_goals
     simp-implicitDefEqProofs[go_sem,t24,t25,t26,t3,gq,gb,az,jd,m2,we,hx,aG];refine bT (fun mm st=>∃tm h2 qT j a2 q2 v2,st=.mk tm h2 qT []∧mm=L.length-j∧j≤L.length∧tm.get 24=some (.sl ny 0 2 2 false)∧tm.get 25=some (.int .i64 2)∧tm.get 26=some (.int .i64 (k:Int))∧tm.get 33=some (.fz 1 false (aI L))∧tm.get 34=some (.int .i64 (L.length:Int))∧tm.get 35=some (.int .i64 (j:Int))∧tm.get 3=some v2∧tv h2 qT q2 v2 a2∧nx≤q2∧q2≠ny∧ny<qT∧h2.get ny=some (bx 40 [.fz 1 false (aI cuts),.fz 1 false (aI kids)] false 0)∧aA nx h h2∧a2.length≤31+k * 2200001+22 * j∧RowKit.Hid (A++uP cuts kids 0=a2++(lU (L.drop j)++fX))) ⟨L.length,_,_,_,0,acc++[58],ax+1,.sl (ax+1) 0 (acc.length+1) 0 true,rfl,by simp,by simp,?_⟩ ?_
     ·simp-implicitDefEqProofs[go_sem,t24,t25,t26,gb,m1,oU,Cm];refine⟨⟨by omega,.inl ⟨by simp,by simp[go_sem,bM]⟩⟩,by omega,by omega,by omega,?_,by omega,Lib.hid (by rw[bD];simp)⟩;simp(disch:=omega)only[aL];exact he
     ·rintro mm st ⟨tm,h2,qT,j,a2,q2,v2,rfl,rfl,hj,t24,t25,t26,t33,t34,t35,t3,oV,Ut,Uu,NS,ze,nC,qaf,F1⟩ J2 nY
      refine bt aE _ ?_
      by_cases cg:j<L.length
      ·have Mj:=hI _ (ai cg);have uq:=F1.out;rw[aj cg,lU]at uq;have qah:=wK L[j] Mj;simp-implicitDefEqProofs[go_sem,t33,t34,t35,t3,cg];refine zyb h2 qT q2 v2 a2 L[j] oV (by omega) Mj.1 Mj.2 _ fun g3 yj q3 d1 d2 d3 d4=>?_;have gb3:g3.get ny=some (bx 40 [.fz 1 false (aI cuts),.fz 1 false (aI kids)] false 0):=by rw[d3 ny (by omega) (fun e=>Uu e.symm)];exact ze
       have E3:aA nx h g3:=by
        intro k1 cO;rw[d3 k1 (by omega) (by omega)];exact nC k1 cO
       have Uk:(a2++Lib.itoa L[j]).length+1≤16777216:=by simp;omega
       have hl6:(a2++Lib.itoa L[j]).length≤31+k * 2200001+22 * j+21:=by simp;omega
       have UD:A++uP cuts kids 0=((a2++Lib.itoa L[j])++[44])++(lU (L.drop (j+1))++fX):=by rw[uq];simp
       have HV:=Lib.hid UD;clear uq UD;generalize a2++Lib.itoa L[j]=a3 at d4 Uk hl6 HV ⊢;obtain⟨f1,f2 |f2⟩:=d4
       ·obtain⟨_,LQ⟩:=f2;have fo3:=uN a3;have p1:¬q3=yj:=by omega
        have p2:¬ny=yj:=by omega
        have p3:¬ny=q3:=by omega
        have p4:¬ny=yj+1:=by omega
        simp-implicitDefEqProofs[go_sem,aB,t35,LQ,Uk,p1,aG];refine nY (L.length-(j+1)) _ (by omega) ⟨_,_,_,j+1,a3++[44],yj+1,.sl (yj+1) 0 (a3.length+1) 0 true,rfl,rfl,by omega,?_⟩;simp(disch:=omega) [go_sem,t24,t25,t26,t33,t34,aY,gb3,p2,p3,p4];refine⟨⟨by omega,.inl ⟨by simp,by simp[go_sem,bM]⟩⟩,by omega,by omega,?_,by omega,Lib.hid (by rw[HV.out];simp)⟩;simp(disch:=omega)only[aL];exact E3
       ·exact absurd f2.1 (by simp)
      ·have zO:j=L.length:=by omega
       have uq:=F1.out;rw[aq (by omega)]at uq;simp only[lU,List.nil_append]at uq;simp-implicitDefEqProofs[go_sem,t26,t34,t35,cg];refine hJ (2-(k+1)) _ (by omega) ⟨_,_,_,k+1,a2,q2,v2,rfl,rfl,by omega,?_⟩;simp(disch:=omega) [go_sem,t24,t25,t3,aY,ze];exact⟨oV,Ut,Uu,NS,nC,by omega,Lib.hid (by rw[uq,If])⟩
   ·have pY:k=2:=by omega
    subst pY;obtain⟨qk,hq⟩:=ho;have aH:=hv.out;simp only[uP,List.append_nil]at aH;have dM:(bM acc).take acc.length=bM acc:=by rw[← tD acc,List.take_length]
    rcases hq with⟨rfl,gq⟩ |⟨rfl,gq⟩
    all_goals
     simp-implicitDefEqProofs[go_sem,t25,t26,t3,gq,dM];refine hR _ _ _ he (Fz.eq rfl ?_);rw[← aH];rfl
theorem zHu:cx.ft.get 139=some Tryz.f139:=aT (by decide) (by kernel_rfl)
def jC (O:Nat→Prop)(h:Tr ABlk) (nx p:Nat)(L:List Nd):Prop:=(L.map bN).Nodup∧∃a b,h.get p=some (bx 187 [a,b] false 0)∧C4 O h nx p a b (L.map bN) L
def mo (L:List Nd)(n:Nd):Nat:=(L.map bN).findIdx fun k=>decide (k=bN n)
theorem Zc {L:List Nd}{n:Nd}(h:bN n∈L.map bN):mo L n<L.length:=by
 have:=List.findIdx_lt_length_of_exists (p:=fun k=>decide (k=bN n)) (xs:=L.map bN) ⟨bN n,h,by simp⟩;simpa[mo]using this
theorem Sd {L:List Nd}{n:Nd}(h:¬bN n∈L.map bN):mo L n=L.length:=by
 have:(L.map bN).findIdx (fun k=>decide (k=bN n))=(L.map bN).length:=by
  rw[List.findIdx_eq_length];intro x hx;simp;exact fun e=>h (e ▸ hx)
 simpa[mo]using this
theorem zT7 {L:List Nd}{n:Nd}{j:Nat}(fH:(L.map bN).Nodup)(h:(L.map bN)[j]?=some (bN n)):mo L n=j:=by
 obtain⟨h2,h3⟩:=List.getElem?_eq_some_iff.1 h;unfold mo;rw[List.findIdx_eq h2];refine⟨by simpa using h3,fun i hi=>?_⟩;simp only[decide_eq_false_iff_not];intro e;exact List.pairwise_iff_getElem.1 fH i j (by omega) h2 hi (e.trans h3.symm)
open Classical in
def iW (L:List Nd)(n:Nd):List Nd:=if bN n∈L.map bN then L else L++[n]
theorem C4.mono {O O':Nat→Prop}{h g:Tr ABlk}{nx ny p:Nat}{a b:AV}{ks:List ByteArray}{L:List Nd}(u:C4 O h nx p a b ks L)(hO:∀k,O k→O' k)(e:∀k,k<nx→O k→g.get k=h.get k)(hn:nx≤ny):C4 O' g ny p a b ks L:=by
 obtain⟨u1,u2,u3,u4⟩:=u;refine⟨u1,hO _ u2,by omega,?_⟩
 rcases u4 with u4 |⟨l0,m,q,o1,o2,m1,q1,m2,q2,q3,e1,gm,e2,gq⟩
 ·exact .inl u4
 ·exact .inr ⟨l0,m,q,hO _ o1,hO _ o2,by omega,by omega,m2,q2,q3,e1,by rw[e m m1 o1];exact gm,e2,by rw[e q q1 o2];exact gq⟩
theorem jC.mono {O O':Nat→Prop}{h g:Tr ABlk}{nx ny p:Nat}{L:List Nd}(u:jC O h nx p L)(hO:∀k,O k→O' k)(e:∀k,k<nx→O k→g.get k=h.get k)(hn:nx≤ny):jC O' g ny p L:=by
 obtain⟨u0,a,b,u1,u2⟩:=u;exact⟨u0,a,b,by rw[e p u2.2.2.1 u2.2.1];exact u1,u2.mono hO e hn⟩
theorem jC.ext {O:Nat→Prop}{h g:Tr ABlk}{nx ny p:Nat}{L:List Nd}(u:jC O h nx p L)(e:aA nx h g)(hn:nx≤ny):jC O g ny p L:=u.mono (fun _ h=>h) (fun k hk _=>e k hk) hn
theorem zM3 (L:List Nd)(n:Nd):mo L n<(iW L n).length:=by
 unfold iW
 by_cases h:bN n∈L.map bN
 ·rw[if_pos h];exact Zc h
 ·rw[if_neg h,Sd h];simp
theorem GK (O:Nat→Prop)(h:Tr ABlk) (nx p:Nat)(L:List Nd)(n:Nd)(hM:jC O h nx p L)(hn:jH n)(hL:L.length<1000000)(R:AV→Tr ABlk→Nat→Prop)
  (hR:∀O' g ny,fh O h nx O' g ny→jC O' g ny p (iW L n)→R (.int .i64 (mo L n:Int)) g ny):aN Tryz.prog cx 139 [.ptr p 0,.agg n.cs] h nx R:=by
 refine aV (sz:=12) (rs:=[.tmp 4]) aE zHu rfl rfl rfl (by simp) ?_;obtain⟨fH,a,b,gp,hU⟩:=hM;have pl:=hU.2.2.1;have d1:¬p=nx:=by omega
 simp-implicitDefEqProofs[go_sem];refine GN mixed aE eO 6 [] [4] [] [] 0 (by kernel_rfl) (by kernel_rfl) ?_;simp-implicitDefEqProofs[go_sem];refine gR (zQa n hn) ?_;simp-implicitDefEqProofs[go_sem,fg];refine zGp O _ _ p 187 a b [] (L.map bN) L (bN n) n (by simp[go_sem,d1,gp]) (hU.mono (fun _ h=>h) (fun k hk _=>by simp[go_sem,show ¬k=nx by omega]) (by omega)) hL _ ?_ ?_
 ·intro j g ny hj e1 e2;have lG:j<L.length:=by
   rcases Nat.lt_or_ge j L.length with q |q
   ·exact q
   ·rw[List.getElem?_eq_none (by simpa using q)]at hj;cases hj
  have bV:bN n∈L.map bN:=List.mem_of_getElem? hj;have hjx:j=mo L n:=(zT7 fH hj).symm;simp-implicitDefEqProofs[go_sem,aB];rw[hjx];have hE:aA nx h g:=by
   intro k hk;rw[e1 k (by omega)];simp[go_sem,show ¬k=nx by omega]
  refine hR O g ny ⟨by omega,fun k hk _=>hE k hk,fun k hk=>.inl hk⟩ ?_;rw[iW,if_pos bV];exact jC.ext ⟨fH,a,b,gp,hU⟩ hE (by omega)
 ·intro g ny a' b' bV oU LP hU' hk;simp-implicitDefEqProofs[go_sem,aB];have vH:mo L n=L.length:=Sd bV;rw[← vH];refine hR (fun k=>O k∨nx+1≤k) g ny ⟨by omega,fun k cO ei=>?_,fun k hk=>by rcases hk with hk |hk;exact .inl hk;exact .inr (by omega)⟩ ?_
  ·rw[hk k (by omega) ei];simp[go_sem,show ¬k=nx by omega]
  ·rw[iW,if_neg bV];refine⟨?_,a',b',LP,?_⟩
   ·rw[List.map_append];exact List.nodup_append.2 ⟨fH,by simp,by
     intro x hx y hy;simp at hy;subst hy;intro e;exact bV (e ▸ hx)⟩
   ·rw[List.map_append];exact hU'
end
end Go.Ev
namespace Go.Ev
open Go.Proofs
noncomputable section
attribute [-go_sem] dw bP
theorem zJc (full:Bool)(l:List Fc)(hl:l.length≤1000000)(hs:∀f∈l,f.name.size≤1000000000)(h:Tr ABlk) (nx:Nat)(R:AV→Tr ABlk→Nat→Prop)(hR:∀v g ny,aA nx h g→nx≤ny→Gx nx ny g (some v) (gV l)→R v g ny):aN Tryz.prog cx 213 [.agg [.fz 4 full (aP l)]] h nx R:=by
 refine aV (sz:=23) (rs:=[.tmp 2]) aE zz8 rfl rfl rfl (by simp) ?_;have aH:gV l=if eQ l then l.map Fc.lo else []:=rfl
 generalize gV l=res at hR aH;simp-implicitDefEqProofs[go_sem];refine ay.use (J7 full l (by omega) hs) ?_;have E1:∀x,aA nx h (h.put nx x):=fun x=>(aA.refl nx h).put (ae _) _
 by_cases sV:eQ l=true
 ·rw[if_pos sV]at aH;simp-implicitDefEqProofs[go_sem,aB,sV];refine bT (fun mm st=>∃tm h' ax k acc,st=.mk tm h' ax []∧mm=l.length-k∧k≤l.length∧tm.get 10=some (.fz 4 full (aP l))∧tm.get 11=some (.int .i64 (l.length:Int))∧tm.get 12=some (.int .i64 (k:Int))∧Gx nx ax h' (tm.get 3) acc∧aA nx h h'∧nx+1≤ax∧acc.length≤k∧
      RowKit.Hid (res=acc++(l.drop k).map Fc.lo)) ⟨l.length,_,_,_,0,[],rfl,by simp,by simp,?_⟩ ?_
  ·simp-implicitDefEqProofs[go_sem,E1];exact⟨.inl ⟨rfl,rfl⟩,Lib.hid aH⟩
  ·rintro mm st ⟨tm,h',ax,k,acc,rfl,rfl,hk,t10,t11,t12,eY,he,dK,fU,hv⟩ J hJ
   refine bt aE _ ?_
   by_cases az:k<l.length
   ·have bD:=hv.out;rw[aj az]at bD;have HV:=Lib.hid (show res=(acc++[(l[k]).lo])++(l.drop (k+1)).map Fc.lo by rw[bD,List.map_cons,List.append_assoc,List.singleton_append]);clear bD;generalize hf:l[k]=f at HV;cases f with
    |mk fn fk tQ tP=>
    rcases eY with⟨h1,h2⟩ |⟨h1,b,b1,b2,b3,b4⟩
    ·subst h1;simp-implicitDefEqProofs[go_sem,t10,t11,t12,az,h2,hf,Fc.cs];refine hJ (l.length-(k+1)) _ (by omega) ⟨_,_,_,k+1,[tQ],rfl,rfl,by omega,?_⟩;simp(disch:=omega) [go_sem,t10,t11,aY];refine⟨.inr ⟨by simp,ax+1+1,by omega,by omega,rfl,by simp[go_sem,aI]⟩,?_,by omega,Lib.hid (by have:=HV.out;simpa using this)⟩;simp(disch:=omega)only[aL];exact he
    ·have nb:¬b=ax:=by omega
     have AD:¬b=ax+1:=by omega
     have yg:¬ax=b:=by omega
     have IU:¬ax+1=b:=by omega
     have fo:=ve acc;have hle:acc.length+1≤16777216:=by omega
     simp-implicitDefEqProofs[go_sem,t10,t11,t12,az,hf,Fc.cs,b3,b4,nb,AD,hle];refine hJ (l.length-(k+1)) _ (by omega) ⟨_,_,_,k+1,acc++[tQ],rfl,rfl,by omega,?_⟩;simp(disch:=omega) [go_sem,t10,t11,aY];refine⟨.inr ⟨by simp,ax+1+1,by omega,by omega,by simp,by simp[go_sem,zLv]⟩,?_,by omega,by omega,Lib.hid (by have:=HV.out;simpa using this)⟩;simp(disch:=omega)only[aL];exact he
   ·have hr:res=acc:=by rw[hv.out,aq (by omega)];simp
    rcases eY with⟨h1,h2⟩ |⟨h1,b,b1,b2,b3,b4⟩
    ·simp-implicitDefEqProofs[go_sem,t11,t12,az,h2];refine hR _ _ _ he (by omega) ?_;rw[hr,h1];exact .inl ⟨rfl,rfl⟩
    ·simp-implicitDefEqProofs[go_sem,t11,t12,az,b3];refine hR _ _ _ he (by omega) ?_;rw[hr];exact .inr ⟨h1,b,b1,b2,rfl,b4⟩
 ·rw[if_neg sV]at aH;simp-implicitDefEqProofs[go_sem,aB,sV];refine hR _ _ _ (E1 _) (by omega) ?_;rw[aH];exact .inl ⟨rfl,rfl⟩
theorem zGo:cx.ft.get 215=some Tryz.f215:=aT (by decide) (by kernel_rfl)
def tI (n:Nd):Bool:=decide (n.kids≠[]) || n.leaf
theorem zQl (u:Bool)(g:List Nd) (x:Nat)(hx:x<g.length):ay Tryz.prog cx 215 [.int .i64 (x:Int),.ip [.fz 4 u (bK g)]] (.bool (tI g[x])):=by
 refine ay.mk fun h nx R hR=>aV (sz:=20) (rs:=[.tmp 3]) aE zGo rfl rfl rfl (by simp) ?_;generalize hn:g[x]=n;obtain⟨f,c,k,lf⟩:=n
 by_cases c1:k=[]
 ·simp-implicitDefEqProofs[go_sem,hx,hn,Nd.cs,c1];exact hR _ _ _ (aA.refl _ _) (Fz.eq rfl (by simp[tI,hn,c1]))
 ·have ql:0<k.length:=List.length_pos_iff.2 c1;simp-implicitDefEqProofs[go_sem,hx,hn,Nd.cs,ql];exact hR _ _ _ (aA.refl _ _) (Fz.eq rfl (by simp[tI,hn,c1]))
theorem zK6:cx.ft.get 258=some Tryz.f258:=aT (by decide) (by kernel_rfl)
def oL (hi:Int):Int→List Int→Prop
 |_,[]=>True
 |lo,c::l=>¬(c≤lo)∧¬(hi<c)∧oL hi c l
def qH (g:List Nd)(n:Nd) (k:Nat) (x:Int):Prop:=x<0∨(g.length:Int)≤x∨(0<k∧n.kids.getD (k-1) 0=x)∨(∃h:x.toNat<g.length,¬(g[x.toNat]).kids=[]∧(g[x.toNat]).fact≤n.fact)
def nM (g:List Nd)(n:Nd)(d:List Fc):Prop:=(n.kids=[]∧n.fact=0∧n.cuts=[])∨(¬n.kids=[]∧n.leaf=false∧0≤n.fact∧¬n.cuts=[]∧n.kids.length=n.cuts.length+1∧∃h:n.fact.toNat<d.length,oL (d[n.fact.toNat]).hi (d[n.fact.toNat]).lo n.cuts∧∀k (hk:k<n.kids.length),¬qH g n k n.kids[k])
def wU (g:List Nd)(n:Nd)(d:List Fc):Bool:=@decide (nM g n d) (Classical.propDecidable _)
theorem WJ {g n d}(h:nM g n d):wU g n d=true:=by unfold wU;exact @decide_eq_true _ (Classical.propDecidable _) h
theorem Zv {g n d}(h:¬nM g n d):wU g n d=false:=by unfold wU;exact @decide_eq_false _ (Classical.propDecidable _) h
theorem zPt (u v:Bool)(g:List Nd)(n:Nd)(d:List Fc)(hg:g.length≤1000000000)(hd:d.length≤1000000000)(hc:n.cuts.length<1000000000)(hk:n.kids.length≤1000000000):ay Tryz.prog cx 258 [.agg [.fz 4 u (bK g)],.agg n.cs,.agg [.fz 4 v (aP d)]] (.bool (wU g n d)):=by
 refine ay.mk fun h nx R hR=>aV (sz:=139) (rs:=[.tmp 6]) aE zK6 rfl rfl rfl (by simp) ?_;have E:∀x y z,aA nx h (((h.put nx x).put (nx+1) y).put (nx+1+1) z):=fun x y z=>(((aA.refl nx h).put (ae _) _).put (by omega) _).put (by omega) _;have Ij:∀g' ny,aA nx h g'→nM g n d→R (.bool true) g' ny:=fun g' ny e hp=>hR _ _ _ e (Fz.eq rfl (by rw[WJ hp]));have ke:∀g' ny,aA nx h g'→¬nM g n d→R (.bool false) g' ny:=fun g' ny e hp=>hR _ _ _ e (Fz.eq rfl (by rw[Zv hp]));clear hR;obtain⟨fc,cuts,kids,leaf⟩:=n;simp only at hc hk
 by_cases c0:kids=[]
 ·subst c0
  by_cases c1:fc=0
  ·by_cases c2:cuts=[]
   ·simp-implicitDefEqProofs[go_sem,Nd.cs,c1,c2];exact Ij _ _ (E _ _ _) (.inl ⟨rfl,c1,c2⟩)
   ·have hl:¬cuts.length=0:=fun e=>c2 (au e);simp-implicitDefEqProofs[go_sem,Nd.cs,c1,hl];exact ke _ _ (E _ _ _) (by rintro (q |q);exact c2 q.2.2;exact q.1 rfl)
  ·simp-implicitDefEqProofs[go_sem,Nd.cs,c1];exact ke _ _ (E _ _ _) (by rintro (q |q);exact c1 q.2.1;exact q.1 rfl)
 ·have l7:¬kids.length=0:=fun e=>c0 (au e);cases leaf with
  |true=>
   simp-implicitDefEqProofs[go_sem,Nd.cs,l7];exact ke _ _ (E _ _ _) (by rintro (q |q);exact c0 q.1;exact Bool.noConfusion q.2.1)
  |false=>
  by_cases c1:fc<0
  ·simp-implicitDefEqProofs[go_sem,Nd.cs,l7,c1];exact ke _ _ (E _ _ _) (by rintro (q |q);exact c0 q.1;have:=q.2.2.1;simp only at this;omega)
  obtain⟨fi,rfl⟩:∃fi:Nat,fc=(fi:Int):=⟨fc.toNat,by omega⟩;clear c1;have uk:¬(fi:Int)<0:=by omega
  by_cases c2:d.length≤fi
  ·have D9:(d.length:Int)≤fi:=by omega
   simp-implicitDefEqProofs[go_sem,Nd.cs,l7,uk,D9];exact ke _ _ (E _ _ _) (by rintro (q |q);exact c0 q.1;obtain⟨q1,_⟩:=q.2.2.2.2.2;simp only at q1;omega)
  have D9:¬(d.length:Int)≤fi:=by omega
  have vq:fi<d.length:=by omega
  by_cases c3:cuts=[]
  ·simp-implicitDefEqProofs[go_sem,Nd.cs,l7,uk,D9,c3];exact ke _ _ (E _ _ _) (by rintro (q |q);exact c0 q.1;exact q.2.2.2.1 c3)
  have jc:¬cuts.length=0:=fun e=>c3 (au e);have hw:IntKind.i64.wrap ((cuts.length:Int)+1)=(cuts.length:Int)+1:=aY _ (by omega) (by omega)
  by_cases c4:kids.length=cuts.length+1
  ·have Lw:(cuts.length:Int)+1=(kids.length:Int):=by omega
   have Av:IntKind.i64.wrap (kids.length:Int)=(kids.length:Int):=aY _ (by omega) (by omega);obtain⟨f,hf⟩:∃f,d[fi]=f:=⟨_,rfl⟩;obtain⟨fnm,fkd,tQ,tP⟩:=f;have hP:∀q:Prop,(q↔(oL tP tQ cuts∧∀k (hk:k<kids.length),¬qH g ⟨fi,cuts,kids,false⟩ k kids[k]))→(nM g ⟨fi,cuts,kids,false⟩ d↔q):=by
    intro q hq;rw[hq];unfold nM;simp only[c0,c3,c4,not_false_eq_true,true_and,false_and,false_or,Int.toNat_natCast,vq,exists_true_left,hf];exact⟨fun z=>z.2,fun z=>⟨by omega,z⟩⟩
   have hP:=hP _ Iff.rfl;simp-implicitDefEqProofs[go_sem,Nd.cs,Fc.cs,l7,uk,D9,vq,jc,Av,Lw,hf];generalize hh:Tr.put (Tr.put (Tr.put h nx _) (nx+1) _) (nx+1+1) _=h0;have E0:aA nx h h0:=by rw[← hh];exact E _ _ _
   have g0:h0.get nx=some (bx 92 [.fz 4 u (bK g)] false 0):=by rw[← hh];simp[go_sem,show ¬nx=nx+1+1 by omega]
   have g1:h0.get (nx+1)=some (bx 154 [.int .i64 (fi:Int),.fz 1 false (aI cuts),.fz 1 false (aI kids),.bool false] false 0):=by rw[← hh];simp[go_sem]
   have g2:h0.get (nx+1+1)=some (bx 35 [.fz 4 v (aP d)] false 0):=by rw[← hh];simp[go_sem]
   clear hh;refine bT (fun mm st=>∃tm k lo,st=.mk tm h0 (nx+1+1+1) []∧mm=cuts.length-k∧k≤cuts.length∧tm.get 3=some (.ptr nx 0)∧tm.get 4=some (.ptr (nx+1) 0)∧tm.get 5=some (.ptr (nx+1+1) 0)∧tm.get 64=some (.fz 1 false (aI cuts))∧tm.get 65=some (.int .i64 (cuts.length:Int))∧tm.get 66=some (.int .i64 (k:Int))∧tm.get 7=some (.int .i64 lo)∧RowKit.Hid (oL tP tQ cuts↔oL tP lo (cuts.drop k))) ⟨cuts.length,_,0,tQ,rfl,by simp,by simp,?_⟩ ?_
   ·simp-implicitDefEqProofs[go_sem];exact Lib.hid trivial
   ·rintro mm st ⟨tm,k,lo,rfl,rfl,cO,t3,t4,t5,t64,t65,t66,t7,hv⟩ J hJ
    refine bt aE _ ?_
    by_cases az:k<cuts.length
    ·have bD:=hv.out;rw[aj az,oL]at bD;generalize hx:cuts[k]=x at bD
     by_cases q1:x≤lo
     ·have hb:¬oL tP tQ cuts:=fun z=>(bD.1 z).1 q1;simp-implicitDefEqProofs[go_sem,t4,t5,t64,t65,t66,t7,az,hx,q1];exact ke _ _ E0 fun z=>hb (hP.1 z).1
     by_cases q2:tP<x
     ·have hb:¬oL tP tQ cuts:=fun z=>(bD.1 z).2.1 q2;simp-implicitDefEqProofs[go_sem,t4,t5,t64,t65,t66,t7,az,hx,q1,q2,g1,g2,vq,hf,Fc.cs];exact ke _ _ E0 fun z=>hb (hP.1 z).1
     have HV:RowKit.Hid (oL tP tQ cuts↔oL tP x (cuts.drop (k+1))):=Lib.hid ⟨fun z=>(bD.1 z).2.2,fun z=>bD.2 ⟨q1,q2,z⟩⟩;clear bD;simp-implicitDefEqProofs[go_sem,t4,t5,t64,t65,t66,t7,az,hx,q1,q2,g1,g2,vq,hf,Fc.cs];refine hJ (cuts.length-(k+1)) _ (by omega) ⟨_,k+1,x,rfl,rfl,by omega,?_⟩;simp(disch:=omega) [go_sem,t3,t4,t5,t64,t65,aY];exact HV
    ·have MR:oL tP tQ cuts:=by
      rw[hv.out,aq (by omega)];trivial
     clear hv hJ;simp-implicitDefEqProofs[go_sem,t4,t65,t66,az,g1];refine bT (fun mm st=>∃tm k,st=.mk tm h0 (nx+1+1+1) []∧mm=kids.length-k∧k≤kids.length∧tm.get 3=some (.ptr nx 0)∧tm.get 4=some (.ptr (nx+1) 0)∧tm.get 5=some (.ptr (nx+1+1) 0)∧tm.get 87=some (.fz 1 false (aI kids))∧tm.get 88=some (.int .i64 (kids.length:Int))∧tm.get 89=some (.int .i64 (k:Int))∧RowKit.Hid (∀j (hj:j<kids.length),j<k→¬qH g ⟨fi,cuts,kids,false⟩ j kids[j])) ⟨kids.length,_,0,rfl,by simp,by simp,?_⟩ ?_
     ·simp-implicitDefEqProofs[go_sem,t3,t4,t5];exact Lib.hid trivial
     ·clear J t3 t4 t5 t64 t65 t66 t7 tm
      rintro mm st ⟨tm,k,rfl,rfl,cO,t3,t4,t5,t87,t88,t89,hv⟩ J hJ
      refine bt aE _ ?_
      by_cases az:k<kids.length
      ·generalize hx:kids[k]=x;have lz:qH g ⟨fi,cuts,kids,false⟩ k x→¬nM g ⟨fi,cuts,kids,false⟩ d:=fun z y=>(hP.1 y).2 k az (by rw[hx];exact z);simp-implicitDefEqProofs[go_sem,t87,t88,t89,az,hx];refine ik mixed aE eO [] [] [] (by kernel_rfl) ?_
       by_cases q1:x<0
       ·simp-implicitDefEqProofs[go_sem,q1];exact ke _ _ E0 (lz (.inl q1))
       obtain⟨xi,rfl⟩:∃xi:Nat,x=(xi:Int):=⟨x.toNat,by omega⟩
       by_cases q2:g.length≤xi
       ·have pe:(g.length:Int)≤xi:=by omega
        simp-implicitDefEqProofs[go_sem,t3,g0,q1,pe];exact ke _ _ E0 (lz (.inr (.inl pe)))
       have pe:¬(g.length:Int)≤xi:=by omega
       have oA:xi<g.length:=by omega
       clear q1;have q1:¬(xi:Int)<0:=by omega
       obtain⟨nd,fH⟩:∃nd,g[xi]=nd:=⟨_,rfl⟩;obtain⟨nf,nc,nk,nl⟩:=nd;have hD:(¬nk=[]∧nf≤fi)→qH g ⟨fi,cuts,kids,false⟩ k xi:=fun z=>.inr (.inr (.inr ⟨by simpa using oA,by simpa[fH]using z⟩));have fE:¬(0<k∧kids.getD (k-1) 0=xi)→¬(¬nk=[]∧nf≤fi)→∀j (hj:j<kids.length),j<k+1→¬qH g ⟨fi,cuts,kids,false⟩ j kids[j]:=by
        intro z1 z2 j hj zP
        by_cases No:j<k
        ·exact hv.out j hj No
        ·have e:j=k:=by omega
         subst e;rw[hx]
         rintro (z |z |z |⟨z3,z4⟩)
         ·omega
         ·omega
         ·exact z1 z
         ·simp[fH]at z4;exact z2 (by simpa using z4)
       have jZ:(0<k∧kids.getD (k-1) 0=xi)→qH g ⟨fi,cuts,kids,false⟩ k xi:=fun z=>.inr (.inr (.inl z));clear hv
       rcases Nat.eq_zero_or_pos k with k0 |k0
       ·subst k0
        by_cases q4:nk=[]
        ·have HG:=Lib.hid (fE (by omega) (by simp[q4]));clear fE hD jZ;simp-implicitDefEqProofs[go_sem,t3,t89,g0,q1,pe,oA,fH,Nd.cs,q4];refine hJ (kids.length-(0+1)) _ (by omega) ⟨_,0+1,rfl,rfl,by omega,?_⟩;simp(disch:=omega) [go_sem,t3,t4,t5,t87,t88,aY];simpa using HG
        ·have ql:0<nk.length:=List.length_pos_iff.2 q4
         by_cases q5:nf≤fi
         ·have:=lz (hD ⟨q4,q5⟩);clear fE hD jZ;simp-implicitDefEqProofs[go_sem,t3,t4,g0,g1,q1,pe,oA,fH,Nd.cs,ql,q5];exact ke _ _ E0 this
         ·have HG:=Lib.hid (fE (by omega) (by simp[q5]));clear fE hD jZ;simp-implicitDefEqProofs[go_sem,t3,t4,t89,g0,g1,q1,pe,oA,fH,Nd.cs,ql,q5];refine hJ (kids.length-(0+1)) _ (by omega) ⟨_,0+1,rfl,rfl,by omega,?_⟩;simp(disch:=omega) [go_sem,t3,t4,t5,t87,t88,aY];simpa using HG
       ·obtain⟨j,rfl⟩:∃j,k=j+1:=⟨k-1,by omega⟩;have jK:j<kids.length:=by omega
        have Ct:IntKind.i64.wrap (j:Int)=(j:Int):=aY _ (by omega) (by omega);have zJ:kids.getD (j+1-1) 0=kids[j]:=by simp[jK]
        have cD:(0:Int)<(j:Int)+1:=by omega
        rw[zJ]at fE jZ
        by_cases q3:kids[j]=xi
        ·have:=lz (jZ ⟨by omega,q3⟩);clear fE hD jZ;simp-implicitDefEqProofs[go_sem,t3,t4,g0,g1,q1,pe,jK,Ct,cD,q3];exact ke _ _ E0 this
        ·by_cases q4:nk=[]
         ·have HG:=Lib.hid (fE (by simp[q3]) (by simp[q4]));clear fE hD jZ;simp-implicitDefEqProofs[go_sem,t3,t4,t89,g0,g1,q1,pe,oA,fH,Nd.cs,q4,jK,Ct,cD,q3];refine hJ (kids.length-(j+1+1)) _ (by omega) ⟨_,j+1+1,rfl,rfl,by omega,?_⟩;simp(disch:=omega) [go_sem,t3,t4,t5,t87,t88,aY];simpa using HG
         ·have ql:0<nk.length:=List.length_pos_iff.2 q4
          by_cases q5:nf≤fi
          ·have:=lz (hD ⟨q4,q5⟩);clear fE hD jZ;simp-implicitDefEqProofs[go_sem,t3,t4,g0,g1,q1,pe,oA,fH,Nd.cs,ql,q5,jK,Ct,cD,q3];exact ke _ _ E0 this
          ·have HG:=Lib.hid (fE (by simp[q3]) (by simp[q5]));clear fE hD jZ;simp-implicitDefEqProofs[go_sem,t3,t4,t89,g0,g1,q1,pe,oA,fH,Nd.cs,ql,q5,jK,Ct,cD,q3];refine hJ (kids.length-(j+1+1)) _ (by omega) ⟨_,j+1+1,rfl,rfl,by omega,?_⟩;simp(disch:=omega) [go_sem,t3,t4,t5,t87,t88,aY];simpa using HG
      ·simp-implicitDefEqProofs[go_sem,t88,t89,az];exact Ij _ _ E0 (hP.2 ⟨MR,fun j hj=>hv.out j hj (by omega)⟩)
  ·have Lw:¬(kids.length:Int)=(cuts.length:Int)+1:=by omega
   simp-implicitDefEqProofs[go_sem,Nd.cs,l7,uk,D9,jc,hw,Lw];exact ke _ _ (E _ _ _) (by rintro (q |q);exact c0 q.1;exact c4 q.2.2.2.2.1)
theorem zIf:cx.ft.get 257=some Tryz.f257:=aT (by decide) (by kernel_rfl)
theorem zG8:cx.ft.get 291=some Tryz.f291:=aT (by decide) (by kernel_rfl)
theorem zN5:cx.ft.get 259=some Tryz.f259:=aT (by decide) (by kernel_rfl)
theorem zJ6 (u v:Bool)(g:List Nd)(n:Nd)(d:List Fc)(hg:g.length≤1000000000)(hd:d.length≤1000000000)(hc:n.cuts.length<1000000000)(hk:n.kids.length≤1000000000):ay Tryz.prog cx 257 [.agg n.cs,.ip [.fz 4 u (bK g)],.ip [.fz 4 v (aP d)]] (.bool (!wU g n d)):=by
 refine ay.mk fun h nx R hR=>aV (sz:=10) (rs:=[.tmp 4]) aE zIf rfl rfl rfl (by simp) ?_;have E:∀x,aA nx h (h.put nx x):=fun x=>(aA.refl nx h).put (ae _) _;simp-implicitDefEqProofs[go_sem];refine ay.use (zPt u v g n d hg hd hc hk) ?_;simp-implicitDefEqProofs[go_sem,aB];exact hR _ _ _ (E _) (Fz.eq rfl rfl)
theorem zRr (full:Bool)(l:List Nd)(fid:FuncId)(cap:List AV)(p:Nd→Bool)(hl:l.length≤1000000000)(hp:∀x∈l,ay Tryz.prog cx fid ([.agg x.cs]++cap) (.bool (p x))):ay Tryz.prog cx 291 [.fz 4 full (bK l),.func fid [] cap] (.int .i64 (bS p l)):=by
 refine ay.mk fun h nx R hR=>aV (sz:=19) (rs:=[.tmp 4]) aE zG8 rfl rfl rfl (by simp) ?_;simp[go_sem];refine bT (fun mm st=>∃tm k,st=.mk tm h nx []∧mm=l.length-k∧k≤l.length∧tm.get 0=some (.fz 4 full (bK l))∧tm.get 1=some (.func fid [] cap)∧tm.get 7=some (.int .i64 (l.length:Int))∧tm.get 8=some (.int .i64 (k:Int))∧RowKit.Hid (bS p l=rB p l k)) ⟨l.length,_,0,rfl,by simp,by simp,?_⟩ ?_
 ·simp[go_sem];exact Lib.hid (Rf _ l).symm
 ·rintro mm st ⟨tm,k,rfl,rfl,hk,t0,t1,t7,t8,hv⟩ J hJ
  refine bt aE _ ?_
  by_cases az:k<l.length
  ·have Ak:=hp _ (ai az)
   by_cases he:p l[k]=true
   ·have:=Q6 (p:=p) az he;simp[go_sem,t0,t1,t7,t8,az];refine ay.use Ak ?_;simp[go_sem,aB,he];refine hR _ _ _ (aA.refl _ _) (Fz.eq rfl ?_);rw[hv.out,this]
   ·have:=Qp (p:=p) az he;have HM:=Lib.hid this;clear this;simp[go_sem,t0,t1,t7,t8,az];refine ay.use Ak ?_;simp[go_sem,aB,t8,he];refine hJ (l.length-(k+1)) _ (by omega) ⟨_,k+1,rfl,rfl,by omega,?_⟩;simp(disch:=omega) [go_sem,t0,t1,t7,aY];exact Lib.hid (by rw[hv.out,HM.out])
  ·have:=PJ (p:=p) (l:=l) (k:=k) (by omega);simp[go_sem,t7,t8,az];refine hR _ _ _ (aA.refl _ _) (Fz.eq rfl ?_);rw[hv.out,this]
theorem YO {α:Type}(p:α→Bool):∀l:List α,(decide (0≤bS p l))=l.any p
 |[]=>by simp[bS]
 |y::l=>by
  have h1:=YO p l;unfold bS;cases hy:p y with
  |true=>simp[hy]
  |false=>
   rw[List.any_cons,hy,Bool.false_or,← h1];simp only[Bool.false_eq_true,if_false];split <;> simp <;> omega
theorem zHq (full:Bool)(l:List Nd)(fid:FuncId)(cap:List AV)(p:Nd→Bool)(hl:l.length≤1000000000)(hp:∀x∈l,ay Tryz.prog cx fid ([.agg x.cs]++cap) (.bool (p x))):ay Tryz.prog cx 259 [.fz 4 full (bK l),.func fid [] cap] (.bool (l.any p)):=by
 refine ay.mk fun h nx R hR=>aV (sz:=9) (rs:=[.tmp 4]) aE zN5 rfl rfl rfl (by simp) ?_;simp-implicitDefEqProofs[go_sem];refine ay.use (zRr full l fid cap p hl hp) ?_;simp-implicitDefEqProofs[go_sem,aB];exact hR _ _ _ (aA.refl _ _) (Fz.eq rfl (by rw[YO]))
theorem Xk:cx.ft.get 150=some Tryz.f150:=aT (by decide) (by kernel_rfl)
def mw (g:List Nd) (x:Int):Bool:=match g[x.toNat]? with
 |some n=>tI n
 |none=>false
def gW (g:List Nd):Nat→Nat→List Int→Nat×List Int
 |0,at_,cs=>(at_,cs)
 |f+1,at_,cs=>match g[at_]? with
  |none=>(at_,cs)
  |some n=>if n.kids=[] then (at_,cs) else
   gW g f (n.kids.getD (bS (mw g) n.kids).toNat 0).toNat (if 0<bS (mw g) n.kids then cs.set n.fact.toNat (n.cuts.getD ((bS (mw g) n.kids).toNat-1) 0) else cs)
theorem QL (cs:List Int) (k:Nat) (x:Int)(hk:k<cs.length):aG (aI cs) k [.int .i64 x]=aI (cs.set k x):=by
 induction cs generalizing k with
 |nil=>simp at hk
 |cons y cs ih=>
  cases k with
  |zero=>simp[aG,aI]
  |succ k=>
   have:=ih k (by simpa using hk);simp[aG,aI]at this ⊢;exact this
theorem CZ:∀l:List Nd,bC (bK l)=true
 |[]=>rfl
 |x::l=>by
  have h1:=CZ l;rw[show bK (x::l)=.agg x.cs::bK l from rfl];simp[bC,plain,Nd.cs_plain,h1]
@[go_sem] theorem yck (e:TypeId) (size b:Nat)(z:Option AV) (x:Nat) (s:Nat)(y:Bool)(fs:List (Nat×Nat×Bool))(full:Bool)(xs:List AV)(k:IntKind)(h:Tr ABlk) (nx:Nat)(hn:0<xs.length):
  jE (.mk (.slice e) size b z ((x,s,y)::fs)) (.fz s full xs) (.int k 0) h nx=.val (.ip (xs[0]).cells) h nx:=Rp e size b z x s y fs full xs k 0 h nx hn
@[go_sem] theorem yao (e:TypeId) (size b:Nat)(z:Option AV) (x:Nat) (s:Nat)(y:Bool)(fs:List (Nat×Nat×Bool))(full:Bool)(xs:List AV)(k:IntKind) (n:Nat)(h:Tr ABlk) (nx:Nat)(hn:n+1<xs.length):
  jE (.mk (.slice e) size b z ((x,s,y)::fs)) (.fz s full xs) (.int k ((n:Int)+1)) h nx=.val (.ip (xs[n+1]).cells) h nx:=Rp e size b z x s y fs full xs k (n+1) h nx hn
def zxl (g:List Nd)(d:List Fc):Prop:=0<g.length∧eQ d=true∧∀(a:Nat)(n:Nd),g[a]?=some n→n.kids≠[]→∃fi:Nat,n.fact=(fi:Int)∧fi<d.length∧n.kids.length=n.cuts.length+1∧n.cuts.length<1000000∧(∀x∈n.kids,∃xi:Nat,x=(xi:Int)∧xi<g.length)∧∃(j:Nat) (xi:Nat)(m:Nd),bS (mw g) n.kids=(j:Int)∧j<n.kids.length∧n.kids[j]?=some (xi:Int)∧g[xi]?=some m∧(m.kids≠[]→n.fact<m.fact)
theorem zJh (u v:Bool)(g:List Nd)(d:List Fc)(hg:g.length≤1000000)(hd:d.length≤1000000)(hs:∀f∈d,f.name.size≤1000000000)(hV:ay Tryz.prog cx 208 [.agg [.fz 4 u (bK g)],.agg [.fz 4 v (aP d)]] (.bool true))(hW:zxl g d)(h:Tr ABlk) (nx:Nat)(R:AV→Tr ABlk→Nat→Prop)
  (hR:∀c g' ny,aA nx h g'→nx≤ny→Gx nx ny g' (some c) (gW g (d.length+1) 0 (gV d)).2→(∃m,g[(gW g (d.length+1) 0 (gV d)).1]?=some m∧m.leaf=true)→R (.tup [c,.bool true]) g' ny)
  (eX:∀g' ny,aA nx h g'→nx≤ny→(∃m,g[(gW g (d.length+1) 0 (gV d)).1]?=some m∧m.leaf=false)→R (.tup [.sl0,.bool false]) g' ny):aN Tryz.prog cx 150 [.agg [.fz 4 u (bK g)],.agg [.fz 4 v (aP d)]] h nx R:=by
 refine aN.ofLe fun hG=>aV (sz:=58) (rs:=[.tmp 4,.tmp 5]) aE Xk rfl rfl rfl (by simp) ?_;simp-implicitDefEqProofs[go_sem];refine ay.use hV ?_;simp-implicitDefEqProofs[go_sem,aB];refine zJc v d hd hs _ _ _ fun c g1 ny e1 FH eY=>?_;have gb:g1.get nx=some (bx 92 [.fz 4 u (bK g)] false 0):=by rw[e1 _ (by omega)];simp[go_sem]
 have E1:aA nx h g1:=by
  intro k hk;rw[e1 k (by omega)];simp[go_sem,show ¬k=nx by omega,show ¬k=nx+1 by omega]
 simp-implicitDefEqProofs[go_sem,aB];obtain⟨w1,w2,w3⟩:=hW;have xY:(gV d).length=d.length:=by simp[gV,w2]
 generalize gV d=SZ at eY hR eX xY;generalize aH:gW g (d.length+1) 0 SZ=res at hR eX;refine bT (fun mm st=>∃tm h' ax a cs,st=.mk tm h' ax []∧a<g.length∧tm.get 2=some (.ptr nx 0)∧tm.get 6=some c∧tm.get 7=some (.int .i64 (a:Int))∧h'.get nx=some (bx 92 [.fz 4 u (bK g)] false 0)∧Gx (nx+1+1) ny h' (some c) cs∧cs.length=d.length∧aA nx h h'∧ny≤ax∧RowKit.Hid (gW g mm a cs=res∧∀n,g[a]?=some n→n.kids≠[]→d.length-n.fact.toNat<mm)) ⟨d.length+1,_,_,_,0,SZ,rfl,w1,?_⟩ ?_
 ·simp-implicitDefEqProofs[go_sem,gb,eY,xY,E1];exact Lib.hid ⟨aH,fun n _ _=>by omega⟩
 ·rintro mm st ⟨tm,h',ax,a,cs,rfl,ha,t2,t6,t7,tS,r8,gP,he,dK,hv⟩ J hJ
  refine bt aE _ ?_;obtain⟨v1,v2⟩:=hv.out;clear hv;obtain⟨n,hn⟩:∃n,g[a]?=some n:=⟨g[a],by simp[ha]⟩;have NI:g[a]=n:=by
   have:g[a]?=some g[a]:=by simp[ha]
   rw[this]at hn;exact Option.some.inj hn
  obtain⟨f,cu,ki,lf⟩:=n
  by_cases c1:ki=[]
  ·have hr:res=(a,cs):=by
    rw[← v1];cases mm with
    |zero=>rfl
    |succ mm=>simp[gW,hn,c1]
   cases lf with
   |true=>
    simp-implicitDefEqProofs[go_sem,t2,t6,t7,tS,ha,NI,Nd.cs,c1];refine hR _ _ _ he (by omega) ?_ ⟨_,by rw[hr];exact hn,rfl⟩;rw[hr]
    rcases r8 with q |⟨q,b,b1,b2,b3,b4⟩
    ·exact .inl q
    ·exact .inr ⟨q,b,by omega,by omega,b3,b4⟩
   |false=>
    simp-implicitDefEqProofs[go_sem,t2,t7,tS,ha,NI,Nd.cs,c1];exact eX _ _ he (by omega) ⟨_,by rw[hr];exact hn,rfl⟩
  ·obtain⟨fi,f1,f2,f3,f4,f5,j,xi,m,j1,j2,j3,j4,j5⟩:=w3 a _ hn c1;simp only at f1 f3 f4 f5 j1 j2 j3 j5;subst f1;have kN:=v2 _ hn c1;simp only[Int.toNat_natCast]at kN;obtain⟨M,rfl⟩:∃M,mm=M+1:=⟨mm-1,by omega⟩;have Ui:ki[j]=(xi:Int):=by
    have:ki[j]?=some ki[j]:=by simp[j2]
    rw[this]at j3;exact Option.some.inj j3
   have AM:gW g M xi (if 0<(j:Int) then cs.set fi (cu.getD (j-1) 0) else cs)=res:=by
    rw[← v1,gW,hn];simp only[c1,if_false,j1,Int.toNat_natCast,List.getD,j3,Option.getD_some]
   have F3:xi<g.length:=by
    by_cases q:xi<g.length
    ·exact q
    ·rw[List.getElem?_eq_none (by omega)]at j4;cases j4
   have I6:∀n,g[xi]?=some n→n.kids≠[]→d.length-n.fact.toNat<M:=by
    intro n q1 q2;rw[j4]at q1;cases q1;have z1:=j5 q2;obtain⟨fi',z2,z3,_⟩:=w3 xi _ j4 q2;rw[z2]at z1 ⊢;simp only[Int.toNat_natCast];omega
   have n0:¬nx=ax:=by omega
   have ql:0<ki.length:=List.length_pos_iff.2 c1;have vH:=WZ false ki 215 [.ip [.fz 4 u (bK g)]] (mw g) (by omega) fun x hx=>by
    obtain⟨y,rfl,y2⟩:=f5 x hx;have:=zQl u g y y2;rw[show tI g[y]=mw g (y:Int) by simp[mw,y2]]at this;exact this
   rw[j1]at vH;simp-implicitDefEqProofs[go_sem,t2,t7,tS,ha,NI,Nd.cs,ql];refine ay.useB tg vH rfl (.cons _ _ _ _ (Fz.eq (by simp[plain,uX]) rfl) (.cons _ _ _ _ (.func 215 _ _ _ _ .nil (.cons _ _ _ _ (wF (t:=92) (opn:=false) (esz:=0) (by omega) (by simp[go_sem,n0,tS]) (by simp[plain,bC,CZ])) .nil)) .nil)) ?_
   rcases Nat.eq_zero_or_pos j with j0 |j0
   ·subst j0;simp at AM;have HV:=Lib.hid (And.intro AM I6);clear AM I6 v1 v2;simp-implicitDefEqProofs[go_sem,aB,ql,Ui];refine hJ M _ (by omega) ⟨_,_,_,xi,cs,rfl,F3,?_⟩;simp-implicitDefEqProofs[go_sem,t2,t6,tS,n0,gP];refine⟨?_,?_,by omega,HV⟩
    ·rcases r8 with q |⟨q,b,b1,b2,b3,b4⟩
     ·exact .inl q
     ·exact .inr ⟨q,b,b1,b2,b3,by simp[go_sem,show ¬b=ax by omega,b4]⟩
    ·simp(disch:=omega)only[aL];exact he
   ·obtain⟨jj,rfl⟩:∃jj,j=jj+1:=⟨j-1,by omega⟩;have xW:jj<cu.length:=by omega
    have cD:(0:Int)<(jj:Int)+1:=by omega
    have FO:(0:Int)<((jj+1:Nat):Int):=by omega
    rw[if_pos FO]at AM;simp[xW]at AM;have HV:=Lib.hid (And.intro AM I6);clear AM I6 v1 v2;have Ct:IntKind.i64.wrap (jj:Int)=(jj:Int):=aY _ (by omega) (by omega)
    rcases r8 with⟨q,_⟩ |⟨q,b,b1,b2,b3,b4⟩
    ·subst q;simp at gP;omega
    cases b3;have nb:¬b=ax:=by omega
    have AD:¬nx=b:=by omega
    have yg:¬ax=b:=by omega
    have xP:fi<cs.length:=by omega
    have MW:fi+1≤cs.length:=by omega
    simp-implicitDefEqProofs[go_sem,aB,cD];refine ik mixed aE eO [10] [] [] (by kernel_rfl) ?_;simp-implicitDefEqProofs[go_sem,t6,xW,Ct,xP,MW,b4,nb,yg,j2,Ui,QL cs fi _ xP];refine hJ M _ (by omega) ⟨_,_,_,xi,cs.set fi cu[jj],rfl,F3,?_⟩;simp-implicitDefEqProofs[go_sem,t2,t6,tS,n0,AD,gP];refine⟨?_,?_,by omega,HV⟩
    ·refine .inr ⟨by intro z;have:=congrArg List.length z;simp at this;exact q this,b,b1,b2,by simp[gP],by simp[go_sem]⟩
    ·simp(disch:=omega)only[aL];exact he
end
end Go.Ev
