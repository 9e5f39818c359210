/- Texts. -/
import Derived.Test.YtkdnmldmffkkoaaGreatDoorP24
set_option linter.unusedSimpArgs false
set_option linter.unusedVariables false
set_option maxRecDepth 100000
set_option maxHeartbeats 8000000
namespace Go.Ev
open Go.Proofs Go.RowKit
noncomputable section
attribute [-go_sem] dw bP ep gH
theorem zLt:cx.ft.get 93=some Tryz.f93:=aT (by decide) (by kernel_rfl)
def uK (c:Int):AV:=.tup [.agg [.fz 4 false []],.int .i64 c]
def jq (d:List Fc)(f:Fm):Int×GS:=bZ d d.length (bQ .empty 0 f) ⟨[],[],false⟩
def Dp (c:Int)(d:List Fc)(f:Fm):AV:=
 if eQ d=false∨c≠0 then uK 1 else if 24<(iV [] f).length then uK 2 else if (jq d f).2.full=true∨20000<(bl (jq d f).2.L (jq d f).1).length then uK 2 else .tup [.agg [.fz 4 false (bK (cL (jq d f).2.L (jq d f).1))],.int .i64 0]
theorem zQc (u:Bool)(d:List Fc)(f:Fm) (c:Int)(hl:d.length≤1000000000)(hs:∀f∈d,f.name.size≤1000000000)(hf:f.size≤1000000)
  (hC:ay Tryz.prog cx 38 [.agg f.cs,.agg [.fz 4 u (aP d)],.sl0] (.int .i64 c))
  (r7:eQ d=true→c=0→iw f∧f.size≤1000∧d.length≤1000∧∀x∈d,x.lo≤x.hi∧cS x.lo∧cS x.hi):
  ay Tryz.prog cx 93 [.agg f.cs,.agg [.fz 4 u (aP d)]] (Dp c d f):=by
 refine ay.mkW fun h nx R hR=>aV (sz:=42) (rs:=[.cell 4 92,.tmp 5]) aE zLt rfl rfl rfl (by simp) ?_;obtain⟨ez,bU⟩:∃l,l=f.cs:=⟨_,rfl⟩;have nD:ez.length=5:=by rw[bU];cases f;rfl
 have cA:ez.take 5=ez:=ar (by omega);have z1:¬nx=nx+1:=by omega
 have z2:¬nx+1=nx+2:=by omega
 have z3:¬nx=nx+2:=by omega
 have z4:¬nx+1=nx+1+1:=by omega
 have z5:¬nx=nx+1+1:=by omega
 have mC:=J7 u d hl hs;obtain⟨res,aH⟩:∃r,r=Dp c d f:=⟨_,rfl⟩;rw[← aH]at hR;unfold Dp at aH;have fT:∀(k:Int) (g:Tr ABlk) (ny:Nat),aA nx h g→res=uK k→R (.tup [.agg [.sl0],.int .i64 k]) g ny:=fun k g ny hE e=>by
  rw[e]at hR;exact hR _ _ _ (.tup [.agg [.sl0],.int .i64 k]) hE (.tup _ _ (.cons _ _ _ _ (.agg _ _ (.cons _ _ _ _ .sl0 .nil)) (.cons _ _ _ _ (.int _ _) .nil))) (.tup _ _ (.cons _ _ _ _ (.agg _ _ (.cons _ _ _ _ (.sl0 4 false) .nil)) (.cons _ _ _ _ (.same _) .nil)))
 rw[← bU]at hC ⊢;simp-implicitDefEqProofs[go_sem];refine ay.use mC ?_;cases kj:eQ d with
 |false=>
  rw[kj,if_pos (.inl rfl)]at aH;simp-implicitDefEqProofs[go_sem,aB,aG];refine fT 1 _ _ ?_ aH;simp(disch:=omega)only[aL];exact aA.refl _ _
 |true=>
  rw[kj]at aH;simp-implicitDefEqProofs[go_sem,aB,nD,cA,z3];refine ay.use hC ?_
  by_cases hc:c=0
  ·subst hc;obtain⟨fG,fs,fd,fv⟩:=r7 kj rfl;rw[if_neg (by simp)]at aH;simp-implicitDefEqProofs[go_sem,aB,nD,cA,z3];generalize dh:Tr.put _ (nx+1+1+1) (some (ABlk.map [] 0))=g0;rw[bU];have E0:aA nx h g0:=by rw[← dh];simp(disch:=omega)only[aL];exact aA.refl _ _
   have a1:g0.get nx=some (bx 24 ez false 0):=by rw[← dh];simp(disch:=omega) [go_sem,lh]
   have a2:g0.get (nx+1)=some (bx 35 [.fz 4 u (aP d)] false 0):=by rw[← dh];simp(disch:=omega) [go_sem]
   have a3:g0.get (nx+1+1)=some (bx 92 [.sl0] false 0):=by rw[← dh];simp(disch:=omega) [go_sem]
   have a4:g0.get (nx+1+1+1)=some (iK []):=by rw[← dh];simp(disch:=omega) [go_sem,iK,fZ]
   clear dh;refine zMj f.size f [] g0 _ (nx+1+1+1) _ (ae _) hf (by omega) a4 fun g ny c1 c2 c3=>?_;have E1:aA nx h g:=fun k hk=>by rw[c1 k (by omega) (by omega)];exact E0 k hk
   have b1:g.get nx=some (bx 24 ez false 0):=by rw[c1 _ (by omega) (by omega)];exact a1
   have b2:g.get (nx+1)=some (bx 35 [.fz 4 u (aP d)] false 0):=by rw[c1 _ (by omega) (by omega)];exact a2
   have b3:g.get (nx+1+1)=some (bx 92 [.sl0] false 0):=by rw[c1 _ (by omega) (by omega)];exact a3
   clear a1 a2 a3 a4 c1 E0;have fF:∀(U:List ByteArray) (n:Nat),(fZ U n).length=U.length:=by
    intro U
    induction U with
    |nil=>intro n;rfl
    |cons x U ih=>intro n;simp[fZ,ih]
   by_cases Tp:24<(iV [] f).length
   ·rw[if_pos Tp]at aH;have zg:(24:Int)<((iV [] f).length:Int):=by omega
    simp-implicitDefEqProofs[go_sem,aB,c2,iK,fF,zg,aG,b3];refine fT 2 _ _ ?_ aH;simp(disch:=omega)only[aL];exact E1
   ·rw[if_neg Tp]at aH;have zg:¬(24:Int)<((iV [] f).length:Int):=by omega
    simp-implicitDefEqProofs[go_sem,aB,c2,iK,fF,zg,aG];generalize bp:Tr.put _ _ (some (bx 169 [.func 138 [] _] false 0))=g3;have E3:aA nx h g3:=by
     rw[← bp];simp(disch:=omega)only[aL];exact E1
    have d1:g3.get nx=some (bx 24 ez false 0):=by rw[← bp];simp(disch:=omega) [go_sem,lh,b1]
    have d3:g3.get (nx+1+1)=some (bx 92 [.sl0] false 0):=by rw[← bp];simp(disch:=omega) [go_sem,lh,b3]
    have G3:fB (fun k=>k=ny) (nx+1) ny u d ⟨[],[],false⟩ g3 (ny+6):=by
     refine⟨by omega,by omega,fun k hk=>.inl hk,?_,?_,?_,?_,?_,?_,⟨by simp,.sl0,.map0,?_,?_⟩⟩
     ·rw[← bp];simp(disch:=omega) [go_sem,lh,b2]
     ·rw[← bp];simp(disch:=omega) [go_sem]
     ·rw[← bp];simp(disch:=omega) [go_sem,lX]
     ·rw[← bp];simp(disch:=omega) [go_sem]
     ·rw[← bp];simp(disch:=omega) [go_sem]
     ·rw[← bp];simp(disch:=omega) [go_sem]
     ·rw[← bp];simp(disch:=omega) [go_sem,lh]
     ·exact⟨rfl,rfl,by omega,.inl ⟨rfl,rfl,rfl⟩⟩
    clear bp b1 b2 b3 c2;have gg:g3.get (ny+2+1+1+1)=some (bx 169 [.func 138 [] [.ptr (ny+1) 0,.ptr (ny+2+1+1) 0,.ptr (nx+1) 0,.ptr (ny+2+1) 0,.ptr (ny+2+1+1+1) 0]] false 0):=G3.gg;have xR:=Yl f.size f .empty 0 (ae _) (by omega) fG.notOk;rw[← bU]at xR;obtain⟨gG,gS⟩:=BJ .empty 0 fG;have BP:GI ⟨[],[],false⟩:=⟨by simp,by intro n hn;simp at hn,by simp,by simp,by simp⟩;have ig:=Hw d fd fv d.length (bQ .empty 0 f) ⟨[],[],false⟩ (ae _) gG (by omega) BP (by simp[inn]);have Uc:=zOt d fd fv u (nx+1) ny d.length 0 (bQ .empty 0 f) ⟨[],[],false⟩ (fun k=>k=ny) g3 (ny+6);refine GN mixed aE eO 3 [] [2] [] [] 0 (by kernel_rfl) (by kernel_rfl) ?_;simp-implicitDefEqProofs[go_sem,d1,gg,nD,cA];refine gR xR ?_;simp-implicitDefEqProofs[go_sem,fg];refine Uc _ (by omega) gG (by omega) BP (by simp[inn]) G3 ?_;intro O2 g2 n2 rK rJ;have K2:=rK.low;have G2:=rJ.low;clear rK rJ Uc
    have zm:bZ d d.length (bQ .empty 0 f) ⟨[],[],false⟩=jq d f:=rfl;rw[zm]at ig G2 ⊢;generalize jq d f=GV at ig G2 aH ⊢;obtain⟨w,S2⟩:=GV;obtain⟨q1,q2,q3,q4⟩:=ig;simp only at q1 q2 q3 q4 G2 aH ⊢;have e3:g2.get (nx+1+1)=some (bx 92 [.sl0] false 0):=by
     rw[K2.2.1 _ (by omega) (by omega) (by omega) (by omega)];exact d3
    have E4:aA nx h g2:=fun k hk=>by
     rw[K2.2.1 k (by omega) (by omega) (by omega) (by omega)];exact E3 k hk
    have FH:=K2.1;have gm:g2.get (ny+1)=some (bx 182 [.ptr ny 0] false 0):=G2.gm;have gf:g2.get (ny+2+1+1)=some (bx 4 [.bool S2.full] false 0):=G2.gf;have hSL:=q1.len;cases bL:S2.full with
    |true=>
     rw[bL]at gf;rw[if_pos (.inl bL)]at aH;simp-implicitDefEqProofs[go_sem,aB,gf,e3,aG];refine fT 2 _ _ ?_ aH;simp(disch:=omega)only[aL];exact E4
    |false=>
     rw[bL]at gf;simp-implicitDefEqProofs[go_sem,aB,gf,gm];refine aN.useE (Qe _ S2.L ny n2 g2 w G2.mkS (fun k hk=>hk.2) q1.wk (fun n hn=>by have:=(q1.ni n hn).2.2.2.2;omega) (by have xT:inn ([]:List Nd)=0:=rfl;rw[xT]at q4;omega) q2) ?_
     by_cases dH:20000<(bl S2.L w).length
     ·rw[if_pos (.inr dH)]at aH;rw[if_pos dH];simp-implicitDefEqProofs[go_sem,aB,e3,aG];rw[aH]at hR;refine hR _ _ _ _ ?_ (Fz.same _ (by simp[plain,bC])) (.same _);simp(disch:=omega)only[aL];exact E4
     ·rw[if_neg (by rw[bL];simpa using dH)]at aH;rw[if_neg dH];simp-implicitDefEqProofs[go_sem,aB,e3,aG];rw[aH]at hR;refine hR _ _ _ _ ?_ (Fz.same _ (by simp[plain,bC,CZ])) (.same _);simp(disch:=omega)only[aL];exact E4
  ·rw[if_pos (.inr hc)]at aH;simp-implicitDefEqProofs[go_sem,aB,hc,aG];refine fT 1 _ _ ?_ aH;simp(disch:=omega)only[aL];exact aA.refl _ _
theorem zTw:cx.ft.get 208=some Tryz.f208:=aT (by decide) (by kernel_rfl)
def nS (g:List Nd)(d:List Fc):Prop:=eQ d=true∧0<g.length∧g.length≤20000∧(∀n∈g,nM g n d)∧(g.map bN).Nodup∧cL g 0=g
def dE (g:List Nd)(d:List Fc):Bool:=@decide (nS g d) (Classical.propDecidable _)
theorem HB {g d}(h:nS g d):dE g d=true:=by unfold dE;exact @decide_eq_true _ (Classical.propDecidable _) h
theorem Yf {g d}(h:¬nS g d):dE g d=false:=by unfold dE;exact @decide_eq_false _ (Classical.propDecidable _) h
theorem zxz {g:List Nd}{d:List Fc}(h:∀n∈g,nM g n d):WK g:=by
 intro n hn x hx
 rcases h n hn with⟨e,_⟩ |⟨_,_,_,_,_,_,_,h2⟩
 ·rw[e]at hx;cases hx
 ·obtain⟨k,hk,e⟩:=List.getElem_of_mem hx;have:=h2 k hk;rw[e]at this;unfold qH at this;have h1:¬x<0:=fun q=>this (.inl q);have h2:¬(g.length:Int)≤x:=fun q=>this (.inr (.inl q));omega
theorem zN9 {g:List Nd}(hw:WK g)(h0:0<g.length):(bl g 0).length≤g.length:=
 (vj hw _ [] 0 ⟨List.nodup_nil,by simp⟩ ⟨Int.le_refl _,by omega⟩).1.len
theorem zy9 {g:List Nd}{d:List Fc}:(g.any fun n=>!wU g n d)=false↔∀n∈g,nM g n d:=by
 constructor
 ·intro h n hn;have:=List.any_eq_false.1 h n hn
  by_cases hp:nM g n d
  ·exact hp
  ·rw[Zv hp]at this;simp at this
 ·intro h;refine List.any_eq_false.2 fun n hn=>?_;rw[WJ (h n hn)];simp
theorem Kr (u v:Bool)(g:List Nd)(d:List Fc)(hg:g.length≤1000000)(hd:d.length≤1000000)(hs:∀f∈d,f.name.size≤1000000000)(hN:∀n∈g,jH n):ay Tryz.prog cx 208 [.agg [.fz 4 u (bK g)],.agg [.fz 4 v (aP d)]] (.bool (dE g d)):=by
 refine ay.mk fun h nx R hR=>aN.ofLe fun hG=>aV (sz:=57) (rs:=[.tmp 4]) aE zTw rfl rfl rfl (by simp) ?_;have Ij:∀g' ny,aA nx h g'→nS g d→R (.bool true) g' ny:=fun g' ny e hp=>hR _ _ _ e (Fz.eq rfl (by rw[HB hp]));have ke:∀g' ny,aA nx h g'→¬nS g d→R (.bool false) g' ny:=fun g' ny e hp=>hR _ _ _ e (Fz.eq rfl (by rw[Yf hp]));clear hR;have mC:=J7 v d (by omega) hs;have z1:¬nx=nx+1:=by omega
 have z2:¬nx=nx+1+1:=by omega
 have oS:(bK g).length=g.length:=by simp[bK]
 cases kj:eQ d with
 |false=>
  simp-implicitDefEqProofs[go_sem];refine ay.use mC ?_;simp-implicitDefEqProofs[go_sem,aB,kj];refine ke _ _ ?_ (fun q=>by rw[q.1]at kj;cases kj);simp(disch:=omega)only[aL];exact aA.refl _ _
 |true=>
  by_cases h0:g.length=0
  ·simp-implicitDefEqProofs[go_sem];refine ay.use mC ?_;simp-implicitDefEqProofs[go_sem,aB,kj,oS,h0];refine ke _ _ ?_ (fun q=>by have:=q.2.1;omega);simp(disch:=omega)only[aL];exact aA.refl _ _
  by_cases h2:20000<g.length
  ·have zh:(20000:Int)<(g.length:Int):=by omega
   have h0I:¬(g.length:Int)=0:=by omega
   simp-implicitDefEqProofs[go_sem];refine ay.use mC ?_;simp-implicitDefEqProofs[go_sem,aB,kj,oS,h0,zh];refine ke _ _ ?_ (fun q=>by have:=q.2.2.1;omega);simp(disch:=omega)only[aL];exact aA.refl _ _
  have zh:¬(20000:Int)<(g.length:Int):=by omega
  have h0I:¬(g.length:Int)=0:=by omega
  have L7:=zHq u g 257 [.ip [.fz 4 u (bK g)],.ip [.fz 4 v (aP d)]] (fun n=>!wU g n d) (by omega) (fun n hn=>by
   obtain⟨_,_,_,n4,n5⟩:=hN n hn;exact zJ6 u v g n d (by omega) (by omega) (by omega) (by omega))
  simp-implicitDefEqProofs[go_sem];refine ay.use mC ?_;simp-implicitDefEqProofs[go_sem,aB,kj,oS,h0,zh];generalize Ir:(h.put nx (some (bx 92 [.fz 4 u (bK g)] false 0))).put (nx+1) (some (bx 35 [.fz 4 v (aP d)] false 0))=h0;have E0:aA nx h h0:=by rw[← Ir];simp(disch:=omega)only[aL];exact aA.refl _ _
  have gb:h0.get nx=some (bx 92 [.fz 4 u (bK g)] false 0):=by rw[← Ir];simp[go_sem]
  have ge:h0.get (nx+1)=some (bx 35 [.fz 4 v (aP d)] false 0):=by rw[← Ir];simp[go_sem]
  clear Ir;refine ay.useB tg L7 rfl (.cons _ _ _ _ (Fz.same _ (by simp[plain,CZ])) (.cons _ _ _ _ (.func 257 _ _ _ _ .nil (.cons _ _ _ _ (wF (t:=92) (opn:=false) (esz:=0) (by omega) gb (by simp[plain,bC,CZ])) (.cons _ _ _ _ (wF (t:=35) (opn:=false) (esz:=0) (by omega) ge (by simp[plain,bC,AZ])) .nil))) .nil)) ?_;cases zt:(g.any fun n=>!wU g n d) with
  |true=>
   simp-implicitDefEqProofs[go_sem,aB];exact ke _ _ E0 (fun q=>by rw[zy9.2 q.2.2.2.1]at zt;cases zt)
  |false=>
   have iF:=zy9.1 zt;have hw:=zxz iF;have Cn:=zN9 hw (by omega);have z3:¬nx=nx+2:=by omega
   simp-implicitDefEqProofs[go_sem,aB,gb,z2];refine bT (fun mm st=>∃tm h' ax j O',st=.mk tm h' ax []∧mm=g.length-j∧j≤g.length∧tm.get 2=some (.ptr nx 0)∧tm.get 6=some (.ptr (nx+2) 0)∧tm.get 36=some (.fz 4 u (bK g))∧tm.get 37=some (.int .i64 (g.length:Int))∧tm.get 38=some (.int .i64 (j:Int))∧h'.get nx=some (bx 92 [.fz 4 u (bK g)] false 0)∧jC O' h' ax (nx+2) (g.take j)∧(∀k,O' k→nx+2≤k)∧nx+3≤ax∧aA nx h h') ⟨g.length,_,_,_,0,fun k=>k=nx+2,rfl,by simp,by simp,?_⟩ ?_
   ·simp-implicitDefEqProofs[go_sem];refine⟨by rw[if_neg z2];exact gb,⟨by simp,.sl0,.map0,by simp[go_sem],rfl,rfl,by omega,.inl ⟨rfl,rfl,rfl⟩⟩,?_⟩;simp(disch:=omega)only[aL];exact E0
   ·rintro mm st ⟨tm,h',ax,j,O',rfl,rfl,hj,t2,t6,t36,t37,t38,tS,hM,hO,dK,he⟩ J hJ
    refine bt aE _ ?_
    by_cases az:j<g.length
    ·obtain⟨n,hn⟩:∃n,n=g[j]:=⟨_,rfl⟩;simp-implicitDefEqProofs[go_sem,t6,t36,t37,t38,oS,az,← hn,aG];have iE:n∈g:=by rw[hn];exact ai az
     have tT:∀(x y:Option ABlk),aA ax h' ((h'.put ax x).put ax y):=fun x y=>by
      simp(disch:=omega)only[aL];exact aA.refl _ _
     have zY:(g.take j).length=j:=by simp;omega
     refine GK O' _ (ax+1) (nx+2) (g.take j) n (hM.ext (tT _ _) (Nat.le_succ _)) (hN n iE) (by omega) _ fun O2 g2 n2 K M=>?_;obtain⟨k1,k2,k3⟩:=K;have E2:aA nx h g2:=fun k hk=>by
      rw[k2 k (by omega) (fun q=>by have:=hO k q;omega),tT _ _ k (by omega)];exact he k hk
     have ze:g2.get nx=some (bx 92 [.fz 4 u (bK g)] false 0):=by
      rw[k2 nx (by omega) (fun q=>by have:=hO nx q;omega),tT _ _ nx (by omega)];exact tS
     have dM:g.take (j+1)=g.take j++[n]:=by rw[hn];exact(List.take_append_getElem az).symm
     by_cases cB:bN n∈(g.take j).map bN
     ·have jw:=Zc cB;have aQ:¬mo (g.take j) n=j:=by omega
      have NN:¬(mo (g.take j) n:Int)=(j:Int):=by omega
      simp-implicitDefEqProofs[go_sem,aB,NN];refine ke _ _ E2 fun q=>?_;have fH:=q.2.2.2.2.1;have ox:g.map bN=(g.take j).map bN++(g.drop j).map bN:=by rw[← List.map_append,List.take_append_drop]
      rw[ox]at fH;refine(List.nodup_append.1 fH).2.2 _ cB (bN n) ?_ rfl;rw[aj az,← hn];exact ao
     ·have jw:=Sd cB;rw[zY]at jw;have MG:iW (g.take j) n=g.take (j+1):=by rw[dM];unfold iW;rw[if_neg cB]
      rw[MG]at M;simp-implicitDefEqProofs[go_sem,aB,t38,jw];refine hJ (g.length-(j+1)) _ (by omega) ⟨_,_,_,j+1,O2,rfl,rfl,by omega,?_⟩;simp(disch:=omega) [go_sem,t2,t6,t36,t37,aY];exact⟨ze,M,fun k hk=>by
       rcases k3 k hk with q |q
       ·exact hO k q
       ·omega,by omega,E2⟩
    ·have zO:j=g.length:=by omega
     subst zO;rw[List.take_length]at hM;simp-implicitDefEqProofs[go_sem,t6,t37,t38];have eZ:∀n∈g,n.kids.length≤1000000:=fun n hn=>by have:=(hN n hn).2.2.2.2;omega
     have fH:=hM.1;refine aN.useE (Qe _ g (nx+2) ax h' 0 hM.low (fun k hk=>hk.2) hw eZ (by omega) ⟨by omega,by omega⟩) ?_;rw[if_neg (by omega)];have gE:(cL g 0).length=(bl g 0).length:=by simp[cL]
     have N6:=zPk false u (cL g 0) g (by omega) (fun a ha=>by
      obtain⟨i,_,rfl⟩:=List.mem_map.1 ha;have:∀x:Nat,(g.getD x ⟨0,[],[],false⟩).cuts.length≤1000000∧(g.getD x ⟨0,[],[],false⟩).kids.length≤1000000:=fun x=>by
       rw[an]
       by_cases hx:x<g.length
       ·rw[aa hx];obtain⟨_,_,_,n4,n5⟩:=hN _ (ai hx);simp only[Option.getD_some];omega
       ·rw[List.getElem?_eq_none (by omega)];simp
      have:=this i.toNat;show (g.getD i.toNat ⟨0,[],[],false⟩).cuts.length≤1000000000∧((g.getD i.toNat ⟨0,[],[],false⟩).kids.map (cK (bl g 0))).length≤1000000000;rw[List.length_map];omega)
     have z4:¬nx=ax:=by omega
     simp-implicitDefEqProofs[go_sem,aB,t2,tS,z4,aG];refine ay.use N6 ?_;simp-implicitDefEqProofs[go_sem,aB];have vw:∀(x y:Option ABlk),aA nx h ((h'.put ax x).put ax y):=fun x y=>by
      simp(disch:=omega)only[aL];exact he
     cases l9:mY (cL g 0) g with
     |true=>exact Ij _ _ (vw _ _) ⟨kj,by omega,by omega,iF,fH,Sy.1 l9⟩
     |false=>exact ke _ _ (vw _ _) fun q=>by rw[Sy.2 q.2.2.2.2.2]at l9;cases l9
theorem HC {α:Type}{p:α→Bool}:∀{l:List α},(∃x∈l,p x=true)→∃j:Nat,bS p l=(j:Int)∧∃h:j<l.length,p l[j]=true
 |[],⟨x,hx,_⟩=>by cases hx
 |y::l,⟨x,hx,hp⟩=>by
  unfold bS
  by_cases hy:p y=true
  ·exact⟨0,by rw[if_pos hy];rfl,by simp,hy⟩
  ·have nJ:x∈l:=by
    rcases List.mem_cons.1 hx with e |e
    ·subst e;exact absurd hp hy
    ·exact e
   obtain⟨j,h1,h2,h3⟩:=HC (l:=l) ⟨x,nJ,hp⟩;refine⟨j+1,?_,by simp;omega,by simpa using h3⟩;rw[if_neg hy,if_neg (by omega),h1];omega
theorem Px {α β:Type}{f:α→β}:∀{l:List α},(l.map f).Nodup→∀{i j:Nat}(hi:i<l.length)(hj:j<l.length),l[i]=l[j]→i=j
 |[],_,i,j,hi,_,_=>by simp at hi
 |x::l,h,i,j,hi,hj,e=>by
  rw[List.map_cons,List.nodup_cons]at h
  rcases i with _ |i <;> rcases j with _ |j
  ·rfl
  ·exfalso;simp only[List.getElem_cons_zero,List.getElem_cons_succ]at e;exact h.1 (List.mem_map.2 ⟨l[j]'(by simpa using hj),ai _,by rw[← e]⟩)
  ·exfalso;simp only[List.getElem_cons_zero,List.getElem_cons_succ]at e;exact h.1 (List.mem_map.2 ⟨l[i]'(by simpa using hi),ai _,by rw[e]⟩)
  ·simp only[List.getElem_cons_succ]at e;rw[Px h.2 (by simpa using hi) (by simpa using hj) e]
theorem Zd {g:List Nd}{d:List Fc}{x:Int}(hp:∀n∈g,nM g n d)(h1:0≤x)(h2:x<(g.length:Int))(hb:mw g x=false):∃h:x.toNat<g.length,g[x.toNat]=⟨0,[],[],false⟩:=by
 have hl:x.toNat<g.length:=by omega
 refine⟨hl,?_⟩;unfold mw at hb;rw[aa hl]at hb;simp only at hb;have hm:=hp _ (ai hl);generalize g[x.toNat]=m at hb hm;obtain⟨f,c,k,lf⟩:=m;unfold tI at hb;rw[Bool.or_eq_false_iff]at hb;obtain⟨b1,b2⟩:=hb;have hk:k=[]:=by simpa using b1
 subst hk;simp only at b2;subst b2
 rcases hm with⟨_,e1,e2⟩ |⟨e,_⟩
 ·simp only at e1 e2;subst e1;subst e2;rfl
 ·exact absurd rfl e
theorem ZU {g:List Nd}{d:List Fc}(hV:nS g d)(hN:∀n∈g,jH n):zxl g d:=by
 obtain⟨v1,v2,v3,v4,v5,v6⟩:=hV;refine⟨v2,v1,fun a n ha hk=>?_⟩;have hn:n∈g:=List.mem_of_getElem? ha;have hNn:=hN n hn;have hw:=zxz v4
 rcases v4 n hn with⟨e,_⟩ |⟨_,p2,p3,p4,p5,p6,_,p8⟩
 ·exact absurd e hk
 have l5:∀(k:Nat) (hk:k<n.kids.length),0≤n.kids[k]∧n.kids[k]<(g.length:Int):=fun k hk=>hw n hn _ (ai hk);refine⟨n.fact.toNat,by omega,p6,p5,by have:=hNn.2.2.2.1;omega,fun x hx=>⟨x.toNat,by have:=hw n hn x hx;omega,by have:=hw n hn x hx;omega⟩,?_⟩;have hc:1≤n.cuts.length:=by
  rcases Nat.eq_zero_or_pos n.cuts.length with q |q
  ·exact absurd (au q) p4
  ·exact q
 have k0:0<n.kids.length:=by omega
 have k1:1<n.kids.length:=by omega
 have iC:∃x∈n.kids,mw g x=true:=by
  by_cases g0:mw g n.kids[0]=true
  ·exact⟨_,ai k0,g0⟩
  by_cases g1:mw g n.kids[1]=true
  ·exact⟨_,ai k1,g1⟩
  exfalso;obtain⟨l0,e0⟩:=Zd v4 (l5 0 k0).1 (l5 0 k0).2 (by simpa using g0);obtain⟨l1,e1⟩:=Zd v4 (l5 1 k1).1 (l5 1 k1).2 (by simpa using g1);have:=Px v5 l0 l1 (by rw[e0,e1]);have r0:=l5 0 k0;have r1:=l5 1 k1;refine p8 1 k1 (.inr (.inr (.inl ⟨by omega,?_⟩)));rw[an,aa (by omega)];show n.kids[0]=n.kids[1];omega
 obtain⟨j,j1,j2,j3⟩:=HC iC;have hr:=l5 j j2;have nJ:(n.kids[j]).toNat<g.length:=by omega
 refine⟨j,(n.kids[j]).toNat,g[(n.kids[j]).toNat],j1,j2,?_,aa nJ,fun FC=>?_⟩
 ·rw[aa j2]
  congr 1
  omega
 ·have Ae:=p8 j j2;unfold qH at Ae;have:¬(g[(n.kids[j]).toNat]).fact≤n.fact:=fun q=>Ae (.inr (.inr (.inr ⟨nJ,FC,q⟩)));omega
theorem zSo (u v:Bool)(g:List Nd)(d:List Fc)(hg:g.length≤1000000)(hd:d.length≤1000000)(hs:∀f∈d,f.name.size≤1000000000)(hN:∀n∈g,jH n)(hV:nS g d)(h:Tr ABlk) (nx:Nat)(R:AV→Tr ABlk→Nat→Prop)
  (hR:∀c g' ny,aA nx h g'→nx≤ny→Gx nx ny g' (some c) (gW g (d.length+1) 0 (gV d)).2→(∃m,g[(gW g (d.length+1) 0 (gV d)).1]?=some m∧m.leaf=true)→R (.tup [c,.bool true]) g' ny)
  (eX:∀g' ny,aA nx h g'→nx≤ny→(∃m,g[(gW g (d.length+1) 0 (gV d)).1]?=some m∧m.leaf=false)→R (.tup [.sl0,.bool false]) g' ny):aN Tryz.prog cx 150 [.agg [.fz 4 u (bK g)],.agg [.fz 4 v (aP d)]] h nx R:=by
 have EG:=Kr u v g d hg hd hs hN;rw[HB hV]at EG;exact zJh u v g d hg hd hs EG (ZU hV hN) h nx R hR eX
end
end Go.Ev
namespace Go.Ev
open Go.Proofs Go.RowKit
noncomputable section
structure HS where
 L:List Nd
 M:List ((Int×Int)×Int)
def HS.gs (H:HS):GS:=⟨H.L,[],false⟩
def kD (t:Int×Int):List ((Int×Int)×Int)→Option Int
 |[]=>none
 |(k,v)::l=>if t=k then some v else kD t l
def mr (t:Int×Int) (v:Int):List ((Int×Int)×Int)→List ((Int×Int)×Int)
 |[]=>[(t,v)]
 |(k,w)::l=>if t=k then (k,v)::l else (k,w)::mr t v l
def fm {T:Type}(g:Int→T→Int×T):List Int→T→List Int×T
 |[],S=>([],S)
 |v::l,S=>((g v S).1::(fm g l (g v S).2).1,(fm g l (g v S).2).2)
theorem zL8 {T:Type}(g:Int→T→Int×T) (v:Int)(l:List Int)(S:T):fm g (v::l) S=((g v S).1::(fm g l (g v S).2).1,(fm g l (g v S).2).2):=rfl
def kF (p q:Nd)(d:List Fc) (i:Int) (lo:Int):List Int:=fy (dq (([lo]++(if bH p d=i then p.cuts else []))++(if bH q d=i then q.cuts else [])))
def vg (n:Nd)(H:HS):Int×HS:=((cR n H.gs).1,{ H with L:=(cR n H.gs).2.L })
def jW (i:Nat)(st ks:List Int)(H:HS):Int×HS:=((eu i st ks H.gs).1,{ H with L:=(eu i st ks H.gs).2.L })
def DO (x y:Int):Int:=min x y
def iX (p q:Nd)(d:List Fc):Int:=DO (bH p d) (bH q d)
def eW (a b:List Nd)(d:List Fc):Nat→Nat→Nat→HS→Int×HS
 |0,_,_,H=>(0,H)
 |k+1,x,y,H=>match kD ((x:Int),(y:Int)) H.M with
  |some v=>(v,H)
  |none=>
   let p:=a.getD x (cj false)
   let q:=b.getD y (cj false)
   let i:=iX p q d
   if i=(d.length:Int)∨20000<H.L.length then vg (cj (p.leaf && q.leaf)) H
   else
    let st:=kF p q d i (d.getD i.toNat ⟨.empty,0,0,0⟩).lo
    let r:=fm (fun v H=>eW a b d k (er p x i v).toNat (er q y i v).toNat H) st H
    let o:=jW i.toNat st r.1 r.2
    (o.1,{ o.2 with M:=mr ((x:Int),(y:Int)) o.1 o.2.M })
structure HI (H:HS):Prop where
 g:GI H.gs
 m:∀p∈H.M,0≤p.2∧p.2<(H.L.length:Int)
def pJ (H H':HS):Prop:=∃t,H'.L=H.L++t
theorem pJ.refl (H:HS):pJ H H:=⟨[],by simp⟩
theorem pJ.trans {A B C:HS}(h:pJ A B)(k:pJ B C):pJ A C:=by
 obtain⟨t,e⟩:=h;obtain⟨u,e2⟩:=k;exact⟨t++u,by rw[e2,e,List.append_assoc]⟩
theorem pJ.len {S S':HS}(h:pJ S S'):S.L.length≤S'.L.length:=by
 obtain⟨t,e⟩:=h;rw[e];simp
theorem Y1 {t:Int×Int}{v:Int}:∀{D:List ((Int×Int)×Int)},kD t D=some v→(∃p∈D,p.2=v)
 |[],h=>by cases h
 |(k,w)::l,h=>by
  rw[kD]at h
  by_cases e:t=k
  ·rw[if_pos e]at h;cases h;exact⟨(k,v),ao,rfl⟩
  ·rw[if_neg e]at h;obtain⟨p,hp,e2⟩:=Y1 h;exact⟨p,ak _ hp,e2⟩
theorem YI {t:Int×Int}{v:Int}:∀{D:List ((Int×Int)×Int)}{p:(Int×Int)×Int},p∈mr t v D→p∈D∨p.2=v
 |[],p,h=>by
  simp[mr]at h;exact .inr (by rw[h])
 |(k,w)::l,p,h=>by
  rw[mr]at h
  by_cases e:t=k
  ·rw[if_pos e]at h
   rcases List.mem_cons.1 h with q |q
   ·exact .inr (by rw[q])
   ·exact .inl (ak _ q)
  ·rw[if_neg e]at h
   rcases List.mem_cons.1 h with q |q
   ·exact .inl (by rw[q];exact ao)
   ·rcases YI q with q |q
    ·exact .inl (ak _ q)
    ·exact .inr q
theorem HI.up {H:HS}{L':List Nd}(h:HI H)(g:GI ⟨L',[],false⟩)(hl:∃t,L'=H.L++t):HI { H with L:=L' }:=by
 refine⟨g,fun p hp=>?_⟩;have:=h.m p hp;obtain⟨t,rfl⟩:=hl;simp;omega
theorem zHt {H:HS}{n:Nd}(h:HI H)(hn:Qy n H.L):HI (vg n H).2∧(0≤(vg n H).1∧(vg n H).1<((vg n H).2.L.length:Int))∧pJ H (vg n H).2∧inn (vg n H).2.L≤inn H.L+(if n.kids=[] then 0 else 1):=by
 obtain⟨a1,a2,a3,a4⟩:=DF (S:=H.gs) (n:=n) h.g hn;exact⟨h.up ⟨a1.nd,a1.wk,a1.ni,a1.lf,by simp⟩ a3.pre,a2,a3.pre,a4⟩
theorem zT4 {H:HS}{i:Nat}{st ks:List Int}(h:HI H)(hi:i≤1000)(aW:∀a∈st,cS a)(l6:∀a∈ks,0≤a∧a<(H.L.length:Int))(aQ:ks≠[])(hlen:ks.length≤90000)(hL:H.L.length≤1000000):
  HI (jW i st ks H).2∧(0≤(jW i st ks H).1∧(jW i st ks H).1<((jW i st ks H).2.L.length:Int))∧pJ H (jW i st ks H).2∧inn (jW i st ks H).2.L≤inn H.L+1:=by
 obtain⟨a1,a2,a3,a4⟩:=XA (S:=H.gs) (i:=i) (st:=st) (ks:=ks) h.g hi aW l6 aQ hlen hL;exact⟨h.up ⟨a1.nd,a1.wk,a1.ni,a1.lf,by simp⟩ a3.pre,a2,a3.pre,a4⟩
theorem zxx {g:Int→HS→Int×HS}{B:Nat}(hg:∀v S,HI S→inn S.L≤B→HI (g v S).2∧(0≤(g v S).1∧(g v S).1<((g v S).2.L.length:Int))∧pJ S (g v S).2∧inn (g v S).2.L≤B):∀(l:List Int)(S:HS),HI S→inn S.L≤B→
  HI (fm g l S).2∧(∀a∈(fm g l S).1,0≤a∧a<((fm g l S).2.L.length:Int))∧pJ S (fm g l S).2∧inn (fm g l S).2.L≤B∧(fm g l S).1.length=l.length
 |[],S,h,hb=>⟨h,by simp[fm],.refl S,hb,rfl⟩
 |v::l,S,h,hb=>by
  obtain⟨a1,a2,a3,a4⟩:=hg v S h hb;obtain⟨b1,b2,b3,b4,b5⟩:=zxx hg l (g v S).2 a1 a4;have:=b3.len;refine⟨b1,fun a ha=>?_,a3.trans b3,b4,by simp[fm,b5]⟩
  rcases List.mem_cons.1 ha with q |q
  ·subst q;simp only[fm];omega
  ·exact b2 a q
structure DgOk (a:List Nd)(d:List Fc):Prop where
 pr:∀n∈a,nM a n d
 ni:∀n∈a,jH n
 cu:∀n∈a,n.cuts.length≤40000
 ln:a.length≤1000000
theorem DS {n:Nd}{d:List Fc}(h:n.kids=[]):bH n d=(d.length:Int):=by rw[bH,if_pos h]
theorem DM {a:List Nd}{d:List Fc}(h:DgOk a d){n:Nd}(hn:n∈a):0≤bH n d∧bH n d≤(d.length:Int)∧(¬n.kids=[]→bH n d=n.fact∧bH n d<(d.length:Int)∧n.kids.length=n.cuts.length+1):=by
 by_cases hk:n.kids=[]
 ·rw[DS hk];exact⟨by omega,by omega,fun q=>absurd hk q⟩
 ·rw[bH,if_neg hk]
  rcases h.pr n hn with⟨e,_⟩ |⟨_,_,p3,_,p5,p6,_⟩
  ·exact absurd e hk
  ·exact⟨p3,by omega,fun _=>⟨rfl,by omega,p5⟩⟩
theorem BL {a:List Nd}{d:List Fc}(h:DgOk a d){x:Nat}(hx:x<a.length) (i v:Int)(hi:i≤bH a[x] d)(hid:i<(d.length:Int)):0≤er a[x] x i v∧∃hs:(er a[x] x i v).toNat<a.length,i+1≤bH (a[(er a[x] x i v).toNat]) d:=by
 have hm:a[x]∈a:=ai hx;obtain⟨k1,k2,k3⟩:=DM h hm;unfold er
 by_cases hc:¬(a[x]).kids=[]∧(a[x]).fact=i
 ·rw[if_pos hc];obtain⟨q1,q2,q3⟩:=k3 hc.1;obtain⟨k,e1,e2⟩:=SG (v:=v) q3;rw[e1,Int.toNat_natCast,an,aa e2,Option.getD_some]
  rcases h.pr _ hm with⟨e,_⟩ |⟨_,_,p3,_,p5,p6,_,p8⟩
  ·exact absurd e hc.1
  ·have p9:=p8 k e2;generalize hz:(a[x]).kids[k]=z at p9;unfold qH at p9;have n1:¬z<0:=fun q=>p9 (.inl q);have n2:¬(a.length:Int)≤z:=fun q=>p9 (.inr (.inl q));have wg:z.toNat<a.length:=by omega
   refine⟨by omega,wg,?_⟩
   by_cases hk:(a[z.toNat]).kids=[]
   ·rw[DS hk];omega
   ·have n3:¬(a[z.toNat]).fact≤(a[x]).fact:=fun q=>p9 (.inr (.inr (.inr ⟨wg,hk,q⟩)));rw[bH,if_neg hk];omega
 ·rw[if_neg hc];refine⟨by omega,by simpa using hx,?_⟩;simp only[Int.toNat_natCast]
  by_cases hk:(a[x]).kids=[]
  ·rw[DS hk];omega
  ·obtain⟨q1,q2,q3⟩:=k3 hk;have:¬(a[x]).fact=i:=fun q=>hc ⟨hk,q⟩;omega
theorem Pq (p q:Nd)(d:List Fc) (i lo:Int):kF p q d i lo≠[]:=by
 apply zys;have h2:lo∈dq (([lo]++(if bH p d=i then p.cuts else []))++(if bH q d=i then q.cuts else [])):=by
  unfold dq;exact List.mem_mergeSort.2 (by simp)
 exact List.ne_nil_of_mem h2
theorem zyd {p q:Nd}{d:List Fc}{i lo y:Int}(h:y∈kF p q d i lo):y=lo∨y∈p.cuts∨y∈q.cuts:=by
 have h1:=zz9 h;unfold dq at h1;have h2:=List.mem_mergeSort.1 h1
 rcases List.mem_append.1 h2 with h3 |h3
 ·rcases List.mem_append.1 h3 with h4 |h4
  ·simp at h4;exact .inl h4
  ·split at h4
   ·exact .inr (.inl h4)
   ·cases h4
 ·split at h3
  ·exact .inr (.inr h3)
  ·cases h3
theorem Y3 (p q:Nd)(d:List Fc) (i lo:Int):(kF p q d i lo).length≤1+p.cuts.length+q.cuts.length:=by
 have h1:=SB (dq (([lo]++(if bH p d=i then p.cuts else []))++(if bH q d=i then q.cuts else [])));rw[Hk]at h1;unfold kF;refine Nat.le_trans h1 ?_;simp only[List.length_append,List.length_cons,List.length_nil];split <;> split <;> simp <;> omega
theorem xr {a b:List Nd}{d:List Fc}(ha:DgOk a d)(hb:DgOk b d){p q:Nd}(hp:p∈a)(hq:q∈b):0≤iX p q d∧iX p q d≤(d.length:Int)∧iX p q d≤bH p d∧iX p q d≤bH q d:=by
 obtain⟨a1,a2,_⟩:=DM ha hp;obtain⟨b1,b2,_⟩:=DM hb hq;unfold iX DO;omega
theorem vm {a:List Nd}{x:Nat}(hx:x<a.length):a.getD x (cj false)=a[x]:=by
 rw[an,aa hx,Option.getD_some]
theorem Hx (a b:List Nd)(d:List Fc)(hd:d.length≤1000)(hv:∀x∈d,x.lo≤x.hi∧cS x.lo∧cS x.hi)(ha:DgOk a d)(hb:DgOk b d):∀(k x y:Nat)(H:HS)(hx:x<a.length)(hy:y<b.length),(d.length:Int)+1≤k+iX a[x] b[y] d→k≤d.length+1→HI H→inn H.L≤20000+d.length+1→
  HI (eW a b d k x y H).2∧(0≤(eW a b d k x y H).1∧(eW a b d k x y H).1<((eW a b d k x y H).2.L.length:Int))∧pJ H (eW a b d k x y H).2∧inn (eW a b d k x y H).2.L≤max (inn H.L) (20000+k)
 |0,x,y,H,hx,hy,hk,_,_,_=>by
  have:=(xr ha hb (ai hx) (ai hy)).2.1;omega
 |k+1,x,y,H,hx,hy,hk,ei,h,cB=>by
  rw[eW];cases hg:kD ((x:Int),(y:Int)) H.M with
  |some v=>
   obtain⟨p,hp,e3⟩:=Y1 hg;have:=h.m p hp;simp only;exact⟨h,by rw[← e3];exact this,.refl H,by omega⟩
  |none=>
   simp only;rw[vm hx,vm hy];obtain⟨i1,i2,i3,i4⟩:=xr ha hb (ai hx) (ai hy);generalize hi:iX a[x] b[y] d=i at i1 i2 i3 i4 hk
   by_cases hc:i=(d.length:Int)∨20000<H.L.length
   ·rw[if_pos hc];obtain⟨a1,a2,a3,a4⟩:=zHt h (DD (a[x].leaf && b[y].leaf) H.L);exact⟨a1,a2,a3,by rw[if_pos (by rfl)]at a4;omega⟩
   ·rw[if_neg hc];have lF:i.toNat<d.length:=by omega
    have B7:H.L.length≤20000:=by omega
    have Fl:inn H.L≤20000:=Nat.le_trans (List.length_filter_le _ _) B7;obtain⟨f,hf⟩:∃f,f=d.getD i.toNat ⟨.empty,0,0,0⟩:=⟨_,rfl⟩;have zH:f∈d:=by
     rw[hf,an,aa lF];exact ai lF
    obtain⟨v1,v2,v3⟩:=hv f zH;rw[← hf];have aW:∀y'∈kF a[x] b[y] d i f.lo,cS y':=fun y' IN=>by
     rcases zyd IN with e |e |e
     ·rw[e];exact v2
     ·exact(ha.ni _ (ai hx)).2.1 _ e
     ·exact(hb.ni _ (ai hy)).2.1 _ e
    have kP:=Y3 a[x] b[y] d i f.lo;have l4:=ha.cu _ (ai hx);have kI:=hb.cu _ (ai hy);obtain⟨b1,b2,b3,b4,b5⟩:=zxx (g:=fun v H=>eW a b d k (er a[x] x i v).toNat (er b[y] y i v).toNat H) (B:=20000+k) (fun v S hS hSb=>by
     obtain⟨s1,s2,s3⟩:=BL ha hx i v i3 (by omega);obtain⟨t1,t2,t3⟩:=BL hb hy i v i4 (by omega);have mK:i+1≤iX (a[(er a[x] x i v).toNat]) (b[(er b[y] y i v).toNat]) d:=by
      unfold iX DO;omega
     obtain⟨a1,a2,a3,a4⟩:=Hx a b d hd hv ha hb k _ _ S s2 t2 (by omega) (by omega) hS (by omega);exact⟨a1,a2,a3,by omega⟩) (kF a[x] b[y] d i f.lo) H h (by omega)
    have hl:=b3.len;have oS:(fm (fun v H=>eW a b d k (er a[x] x i v).toNat (er b[y] y i v).toNat H) (kF a[x] b[y] d i f.lo) H).2.L.length≤inn (fm (fun v H=>eW a b d k (er a[x] x i v).toNat (er b[y] y i v).toNat H) (kF a[x] b[y] d i f.lo) H).2.L+2:=b1.g.len;obtain⟨c1,c2,c3,c4⟩:=zT4 (i:=i.toNat) (st:=kF a[x] b[y] d i f.lo) b1 (by omega) aW b2 (fun q=>by rw[q]at b5;simp at b5;exact Pq _ _ _ _ _ (au b5.symm)) (by omega) (by omega);refine⟨⟨c1.g,?_⟩,c2,b3.trans c3,?_⟩
    ·intro p hp
     rcases YI hp with q |q
     ·exact c1.m p q
     ·rw[q];exact c2
    ·refine Nat.le_trans c4 ?_;omega
end
end Go.Ev
namespace Go.Ev
open Go.Proofs Go.RowKit
noncomputable section
attribute [-go_sem] dw bP ep gH
theorem zSz:cx.ft.get 209=some Tryz.f209:=aT (by decide) (by kernel_rfl)
def Oo (k:Int×Int):AV:=.agg [.int .i64 k.1,.int .i64 k.2]
def lY:List ((Int×Int)×Int)→Nat→List (AV×AV×Nat)
 |[],_=>[]
 |(t,v)::l,n=>(Oo t,.int .i64 v,n)::lY l (n+1)
def yp (t:Int×Int):List ((Int×Int)×Int)→Nat→Option (Nat×AV)
 |[],_=>none
 |(k,v)::l,i=>if t=k then some (i,.int .i64 v) else yp t l (i+1)
theorem X7 (t:Int×Int):∀(l:List ((Int×Int)×Int)) (n:Nat),rl (.agg [.int .i64 t.1,.int .i64 t.2]) (lY l n) n=some (yp t l n)
 |[],n=>rfl
 |(k,v)::l,n=>by
  rw[lY,rl,yp]
  by_cases e:t=k
  ·subst e;simp[qA,Oo]
  ·have:¬(t.1=k.1∧t.2=k.2):=fun q=>e (Prod.ext q.1 q.2);simp only[qA,Oo,decide_eq_false this];rw[if_neg e];exact X7 t l (n+1)
@[go_sem] theorem zZi (x y:Int)(l:List ((Int×Int)×Int)):rl (.agg [.int .i64 x,.int .i64 y]) (lY l 0) 0=some (yp (x,y) l 0):=X7 (x,y) l 0
theorem Ju {t:Int×Int}:∀{l:List ((Int×Int)×Int)}(n:Nat),kD t l=none→yp t l n=none
 |[],_,_=>rfl
 |(k,v)::l,n,h=>by
  rw[kD]at h;rw[yp]
  by_cases e:t=k
  ·rw[if_pos e]at h;cases h
  ·rw[if_neg e]at h ⊢;exact Ju (n+1) h
theorem Ks {t:Int×Int}{v:Int}:∀{l:List ((Int×Int)×Int)}(n:Nat),kD t l=some v→∃j,yp t l n=some (n+j,.int .i64 v)∧j<l.length∧∀(w:Int) (m:Nat),(lY l m).modify j (fun e=>match e with |(_,_,n)=>(.agg [.int .i64 t.1,.int .i64 t.2],.int .i64 w,n))=lY (mr t w l) m
 |[],_,h=>by cases h
 |(k,u)::l,n,h=>by
  rw[kD]at h;rw[yp]
  by_cases e:t=k
  ·rw[if_pos e]at h ⊢;cases h;refine⟨0,rfl,by simp,fun w m=>?_⟩;rw[mr,if_pos e,lY,lY,← e];rfl
  ·rw[if_neg e]at h ⊢;obtain⟨j,h1,h2,h3⟩:=Ks (n+1) h;refine⟨j+1,by rw[h1,show n+1+j=n+(j+1) by omega],by simp;omega,fun w m=>?_⟩;rw[mr,if_neg e,lY,lY,← h3 w (m+1)];rfl
theorem Qr {t:Int×Int}{w:Int}:∀{l:List ((Int×Int)×Int)},kD t l=none→mr t w l=l++[(t,w)]
 |[],_=>rfl
 |(k,v)::l,h=>by
  rw[kD]at h;rw[mr]
  by_cases e:t=k
  ·rw[if_pos e]at h;cases h
  ·rw[if_neg e]at h ⊢;rw[Qr h];rfl
theorem Re (t:Int×Int) (w:Int):∀(l:List ((Int×Int)×Int)) (n:Nat),lY (l++[(t,w)]) n=lY l n++[(.agg [.int .i64 t.1,.int .i64 t.2],.int .i64 w,n+l.length)]
 |[],n=>rfl
 |(k,v)::l,n=>by
  rw[List.cons_append,lY,lY,Re t w l (n+1)];simp;omega
theorem Q4 {t:Int×Int}{w:Int}:∀{l:List ((Int×Int)×Int)}{v:Int},kD t l=some v→(mr t w l).length=l.length
 |[],_,h=>by cases h
 |(k,u)::l,v,h=>by
  rw[kD]at h;rw[mr]
  by_cases e:t=k
  ·rw[if_pos e];rfl
  ·rw[if_neg e]at h ⊢;simp[Q4 h]
def Q2 (e b:Nat):AV:=.func 209 [] [.ptr (b+3) 0,.ptr e 0,.ptr (e+1) 0,.ptr (e+2) 0,.ptr (b+1) 0,.ptr (b+4) 0]
structure js (O:Nat→Prop) (e b:Nat)(u v w:Bool)(x y:List Nd)(d:List Fc)(H:HS)(h:Tr ABlk) (nx:Nat):Prop where
 le:e+3≤b
 lb:b+5≤nx
 hO:∀k,O k→k=b∨b+5≤k
 gx:h.get e=some (bx 92 [.fz 4 u (bK x)] false 0)
 gy:h.get (e+1)=some (bx 92 [.fz 4 v (bK y)] false 0)
 gd:h.get (e+2)=some (bx 35 [.fz 4 w (aP d)] false 0)
 gm:h.get (b+1)=some (bx 182 [.ptr b 0] false 0)
 gM:h.get (b+2)=some (.map (lY H.M 0) H.M.length)
 gv:h.get (b+3)=some (bx 236 [.map (b+2)] false 0)
 gg:h.get (b+4)=some (bx 199 [Q2 e b] false 0)
 mkS:jC O h nx b H.L
def KH (O:Nat→Prop) (b:Nat)(h:Tr ABlk) (nx:Nat)(O':Nat→Prop)(g:Tr ABlk) (ny:Nat):Prop:=nx≤ny∧(∀k,k<nx→¬O k→k≠b+2→g.get k=h.get k)∧∀k,O' k→O k∨nx≤k
section
variable {O O' O1 O2 : Nat → Prop} {e b q : Nat} {u v w : Bool} {x y : List Nd} {d : List Fc} {H : HS} {h g f : Tr ABlk} {nx ny n1 n2 : Nat}
theorem js.ext (G:js O e b u v w x y d H h nx)(x':aA nx h g)(hn:nx≤ny):js O e b u v w x y d H g ny:=by
 obtain⟨le,lb,hO,gx,gy,gd,gm,gM,gv,gg,mk⟩:=G;refine⟨le,by omega,hO,?_,?_,?_,?_,?_,?_,?_,mk.ext x' hn⟩
 all_goals (rw[x' _ (by omega)];assumption)
theorem js.node {L':List Nd}(G:js O e b u v w x y d H h nx)(K:fh O h nx O' g ny)(m:jC O' g ny b L'):js O' e b u v w x y d { H with L:=L' } g ny:=by
 obtain⟨le,lb,hO,gx,gy,gd,gm,gM,gv,gg,mk⟩:=G;obtain⟨k1,k2,k3⟩:=K;have hn:∀k,O k→k=b∨b+5≤k:=hO;refine⟨le,by omega,fun k hk=>?_,?_,?_,?_,?_,?_,?_,?_,m⟩
 ·rcases k3 k hk with q |q
  ·exact hO k q
  ·exact .inr (by omega)
 all_goals (rw[k2 _ (by omega) (fun q=>by have:=hn _ q;omega)];assumption)
theorem js.setM (G:js O e b u v w x y d H h nx)(M':List ((Int×Int)×Int)):js O e b u v w x y d { H with M:=M' } (h.put (b+2) (some (.map (lY M' 0) M'.length))) nx:=by
 obtain⟨le,lb,hO,gx,gy,gd,gm,gM,gv,gg,mk⟩:=G;refine⟨le,lb,hO,?_,?_,?_,?_,by simp[go_sem],?_,?_,mk.mono (fun _ q=>q) (fun k hk q=>by have:=hO k q;rw[Tr.get_put,if_neg (by omega)]) (ae _)⟩
 all_goals (rw[Tr.get_put,if_neg (by omega)];assumption)
theorem js.but (G:js O e b u v w x y d H h nx)(hq:b+5≤q)(hO:¬O q)(x':∀k,k<nx→k≠q→g.get k=h.get k)(hn:nx≤ny):js O e b u v w x y d H g ny:=by
 obtain⟨le,lb,hO,gx,gy,gd,gm,gM,gv,gg,mk⟩:=G;refine⟨le,by omega,hO,?_,?_,?_,?_,?_,?_,?_,mk.mono (fun _ q=>q) (fun k hk ei=>x' k hk (fun e2=>by subst e2;contradiction)) hn⟩
 all_goals (rw[x' _ (by omega) (by omega)];assumption)
theorem js.low (G:js O e b u v w x y d H h nx):js (fun k=>O k∧k<nx) e b u v w x y d H h nx:=by
 obtain⟨le,lb,hO,gx,gy,gd,gm,gM,gv,gg,mk⟩:=G;exact⟨le,lb,fun k hk=>hO k hk.1,gx,gy,gd,gm,gM,gv,gg,mk.low⟩
theorem KH.trans (x:KH O b h nx O1 g n1)(y:KH O1 b g n1 O2 f n2):KH O b h nx O2 f n2:=by
 obtain⟨a1,a2,a3⟩:=x;obtain⟨b1,b2,b3⟩:=y;refine⟨by omega,fun k k1 k2 k3=>?_,fun k hk=>?_⟩
 ·rw[b2 k (by omega) (fun q=>by rcases a3 k q with r |r;exact k2 r;omega) k3,a2 k k1 k2 k3]
 ·rcases b3 k hk with q |q
  ·exact a3 k q
  ·exact .inr (by omega)
theorem KH.ofExt (x:aA nx h g)(hn:nx≤ny):KH O b h nx O g ny:=⟨hn,fun k hk _ _=>x k hk,fun _ h=>.inl h⟩
theorem KH.ofKept (K:fh O h nx O' g ny):KH O b h nx O' g ny:=⟨K.1,fun k hk ho _=>K.2.1 k hk ho,K.2.2⟩
theorem KH.setM (B:Option ABlk):KH O b h nx O (h.put (b+2) B) nx:=⟨ae _,fun k _ _ h4=>by rw[Tr.get_put,if_neg h4],fun _ h=>.inl h⟩
theorem KH.low (K:KH O b h nx O' g ny):KH O b h nx (fun k=>O' k∧k<ny) g ny:=⟨K.1,K.2.1,fun k hk=>K.2.2 k hk.1⟩
theorem KH.up (K:KH (fun k=>O k∧k<nx) b h nx O' g ny):KH O b h nx O' g ny:=⟨K.1,fun k h1 h2=>K.2.1 k h1 (fun q=>h2 q.1),fun k hk=>by rcases K.2.2 k hk with q |q;exact .inl q.1;exact .inr q⟩
theorem KH.but (K:KH O b h nx O1 g n1)(hq:nx≤q)(x:∀k,k<n1→k≠q→f.get k=g.get k)(hn:n1≤n2):KH O b h nx O1 f n2:=by
 obtain⟨a1,a2,a3⟩:=K;exact⟨by omega,fun k k1 k2 k3=>by rw[x k (by omega) (by omega),a2 k k1 k2 k3],a3⟩
theorem js.all (G:js O e b u v w x y d H h nx):∃a c,h.get b=some (bx 187 [a,c] false 0)∧((H.L.length=0∧a=.sl0)∨∃q,a=.sl q 0 H.L.length 0 true):=by
 obtain⟨_,a,c,h1,h2⟩:=G.mkS;refine⟨a,c,h1,?_⟩
 rcases h2.2.2.2 with⟨q1,q2,q3⟩ |⟨q1,m,q,_,_,_,_,_,_,_,_,_,q2,_⟩
 ·exact .inl ⟨by rw[q1];rfl,q2⟩
 ·exact .inr ⟨q,q2⟩
end
def QY (a b:List Nd)(d:List Fc) (e bb k x y:Nat)(u v w:Bool)(H:HS)(O:Nat→Prop)(h:Tr ABlk) (nx:Nat)(R:AV→Tr ABlk→Nat→Prop):Prop:=
 ∀O' g ny,KH O bb h nx O' g ny→js O' e bb u v w a b d (eW a b d k x y H).2 g ny→R (.int .i64 (eW a b d k x y H).1) g ny
def Rm (x y e b:Nat):List AV:=[.int .i64 (x:Int),.int .i64 (y:Int),.ptr (b+3) 0,.ptr e 0,.ptr (e+1) 0,.ptr (e+2) 0,.ptr (b+1) 0,.ptr (b+4) 0]
end
end Go.Ev
