/- Texts. -/
import Derived.Test.YtkdnmldmffkkoaaGreatDoorP25
set_option linter.unusedSimpArgs false
set_option linter.unusedVariables false
set_option maxRecDepth 100000
set_option maxHeartbeats 8000000
namespace Go.Ev
open Go.Proofs Go.RowKit
noncomputable section
attribute [-go_sem] dw bP ep gH
theorem zR9 {P:Program}{c:Cx}{inr:Bool}{sz:Nat}{code:Code}{Q:AX→AS→Prop}{s1 s2:AS}(S:AS→Prop)(h1:S s1)(h2:S s2)(h:∀s,S s→AW P c inr sz code Q s):AW P c inr sz code Q s1∧AW P c inr sz code Q s2:=⟨h _ h1,h _ h2⟩
theorem zya (l m:List Int):aI l++aI m=aI (l++m):=by simp[aI]
def LsI (lo no:Nat)(h:Tr ABlk) (n:Nat)(v:AV)(cs:List Int):Prop:=∃q cp o o2 e2,lo≤q∧q<n∧q≠no∧v=.sl q 0 cs.length cp o∧h.get q=some (bx 3 (aI cs) o2 e2)∧((cp=cs.length∧o=false)∨(cp=0∧o=true∧o2=true∧e2=1))
theorem zG7 (a b:List Nd)(d:List Fc)(hd:d.length≤1000)(hv:∀x∈d,x.lo≤x.hi∧cS x.lo∧cS x.hi)(ha:DgOk a d)(hb:DgOk b d)(u v w:Bool) (e bb:Nat):∀(k x y:Nat)(H:HS)(O:Nat→Prop)(h:Tr ABlk) (nx:Nat)(R:AV→Tr ABlk→Nat→Prop)(hx:x<a.length)(hy:y<b.length),(d.length:Int)+1≤k+iX a[x] b[y] d→k≤d.length+1→HI H→inn H.L≤20000+d.length+1→
  js O e bb u v w a b d H h nx→QY a b d e bb k x y u v w H O h nx R→aN Tryz.prog cx 209 (Rm x y e bb) h nx R:=by
 intro k
 induction k with
 |zero=>
  intro x y H O h nx R hx hy hk;have:=(xr ha hb (ai hx) (ai hy)).2.1;omega
 |succ k ih=>
  intro x y H O h nx R hx hy hk ei hH cB kg T4;have hS:=kg.low;have hR:QY a b d e bb (k+1) x y u v w H (fun k=>O k∧k<nx) h nx R:=fun O' g ny K G=>T4 O' g ny K.up G;obtain⟨O1,tX⟩:∃O1:Nat→Prop,O1=fun k=>O k∧k<nx:=⟨_,rfl⟩;have B8:∀k,O1 k→k<nx:=by rw[tX];exact fun k q=>q.2
  rw[← tX]at hS hR;clear tX;clear kg T4;unfold QY at hR;rw[eW]at hR;have uj:=hS.lb;have hle:=hS.le;have gm:=hS.gm;have gM:=hS.gM;have gv:=hS.gv;have gx:=hS.gx;have gy:=hS.gy;have gd:=hS.gd;have hHl:H.L.length≤inn H.L+2:=hH.g.len;refine aV (sz:=135) (rs:=[.tmp 10]) aE zSz rfl rfl rfl (by simp[Rm]) ?_;unfold Rm;cases hg:kD ((x:Int),(y:Int)) H.M with
  |some val=>
   obtain⟨j,f1,f2,f3⟩:=Ks 0 hg;simp-implicitDefEqProofs[go_sem,gv,gM,f1,bP,aG];rw[hg]at hR;exact hR O1 _ nx (KH.ofExt (aA.refl _ _) (ae _)) hS
  |none=>
   have f1:=Ju 0 hg;simp-implicitDefEqProofs[go_sem,gv,gM,f1,bP,aG];rw[hg]at hR;simp only[vm hx,vm hy]at hR;obtain⟨i1,i2,i3,i4⟩:=xr ha hb (ai hx) (ai hy);obtain⟨p,hp⟩:∃p,p=a[x]:=⟨_,rfl⟩;obtain⟨q,hq⟩:∃q,q=b[y]:=⟨_,rfl⟩;rw[← hp,← hq]at hR i1 i2 i3 i4 hk;refine Yh mixed aE eO 10 [10,11,12,13] [] [(1,10),(1,11),(4,10),(4,11),(6,10),(6,11),(6,12),(9,10),(9,11),(9,12)] (by kernel_rfl) (by kernel_rfl) (by kernel_rfl) ?_;have n1:¬e=nx:=by omega
   have n2:¬e=nx+1:=by omega
   have n3:¬e+1=nx:=by omega
   have n4:¬e+1=nx+1:=by omega
   simp-implicitDefEqProofs[go_sem,gx,gy,hx,hy,← hp,← hq,n1,n2,n3];refine zR9 (fun s=>∃tm M p1 p2,s=.mk tm M (nx+2) []∧nx≤p1∧p1<nx+2∧nx≤p2∧p2<nx+2∧p1≠p2∧aA nx h M∧M.get p1=some (bx 154 p.cs false 0)∧M.get p2=some (bx 154 q.cs false 0)∧tm.get 0=some (.int .i64 (x:Int))∧tm.get 1=some (.int .i64 (y:Int))∧tm.get 2=some (.ptr (bb+3) 0)∧tm.get 3=some (.ptr e 0)∧tm.get 4=some (.ptr (e+1) 0)∧tm.get 5=some (.ptr (e+2) 0)∧tm.get 6=some (.ptr (bb+1) 0)∧tm.get 7=some (.ptr (bb+4) 0)∧tm.get 13=some (.ptr p1 0)∧tm.get 14=some (.ptr p2 0)) ⟨_,_,nx,nx+1,rfl,by omega,by omega,by omega,by omega,by omega,?_,?_⟩ ⟨_,_,nx+1,nx,rfl,by omega,by omega,by omega,by omega,by omega,?_,?_⟩ ?_
   ·simp(disch:=omega)only[aL];exact aA.refl _ _
   ·simp-implicitDefEqProofs[go_sem]
   ·simp(disch:=omega)only[aL];exact aA.refl _ _
   ·simp-implicitDefEqProofs[go_sem]
   ·rintro s ⟨tm,M,p1,p2,rfl,p1a,p1b,p2a,p2b,p12,hE,gp,gq,t0,t1,t2,t3,t4,t5,t6,t7,t13,t14⟩
    clear gm gM gv gx gy gd;have hS:=hS.ext hE (show nx≤nx+2 by omega);have B6:KH O1 bb h nx O1 M (nx+2):=KH.ofExt hE (by omega);have gm:=hS.gm;have gx:=hS.gx;have gy:=hS.gy;have gd:=hS.gd;obtain⟨ma,mc,gb,hA⟩:=hS.all;refine ik mixed aE eO [] [2,5] [] (by kernel_rfl) ?_;simp-implicitDefEqProofs[go_sem,gp,gd,t5,t13];refine gR (Qi p w d) ?_;simp-implicitDefEqProofs[go_sem,fg,gq,gd,t5,t14];refine gR (Qi q w d) ?_;simp-implicitDefEqProofs[go_sem,gd,t5];have mK:min (bH p d) (bH q d)=iX p q d:=rfl;rw[mK];generalize hi:iX p q d=i at i1 i2 i3 i4 hR hk;have pO:∀(e:TypeId) (size b:Nat) (z:Option AV) (fs:List (Nat×Nat×Bool)) (g:Tr ABlk) (n:Nat),lP (.mk (.slice e) size b z fs) ma g n=.val (.int .i64 (H.L.length:Int)) g n:=by
     intro e' size b' z fs g n
     rcases hA with⟨h0,ha⟩ |⟨q,ha⟩
     ·rw[ha,GL,h0];rfl
     ·rw[ha,Hg]
    clear hA;have Ci:(aP d).length=d.length:=by simp[aP]
    have U7:p.cs[3]?=some (.bool p.leaf):=by cases p;rfl
    have ql3:q.cs[3]?=some (.bool q.leaf):=by cases q;rfl
    have qv:∀hh,p.cs[3]'hh=.bool p.leaf:=by cases p;intro hh;rfl
    have Gi:∀hh,q.cs[3]'hh=.bool q.leaf:=by cases q;intro hh;rfl
    by_cases hc:i=(d.length:Int)∨20000<H.L.length
    ·rw[if_pos hc]at hR;have eL:aN Tryz.prog cx 139 [.ptr bb 0,.agg [.int .i64 0,.sl0,.sl0,.bool (p.leaf && q.leaf)]] M (nx+2) fun v g ny=>R v g ny:=by
      refine aN.wk (Rl bb (p.leaf && q.leaf)) ?_;refine GK O1 _ _ bb H.L (cj (p.leaf && q.leaf)) hS.mkS (RE _) (by omega) _ fun O' g' ny K Mk=>?_;exact hR O' g' ny (B6.trans (KH.ofKept K)) (hS.node K Mk)
     cases pl:p.leaf with
     |true=>
      rw[pl]at eL U7 qv;simp only[Bool.true_and]at eL
      by_cases hid:i=(d.length:Int)
      ·skip
       simp-implicitDefEqProofs[go_sem,t6,t13,t14,gm,gp,gq,hid,qv,Gi,aG];refine eL.mono fun v g ny hh=>?_;simp-implicitDefEqProofs[go_sem,aB];exact hh
      ·skip
       have dH:20000<H.L.length:=by omega
       have cX:(20000:Int)<(H.L.length:Int):=by omega
       simp-implicitDefEqProofs[go_sem,t6,t13,t14,gm,gb,gp,gq,hid,pO,cX,qv,Gi,aG];refine eL.mono fun v g ny hh=>?_;simp-implicitDefEqProofs[go_sem,aB];exact hh
     |false=>
      rw[pl]at eL U7 qv;simp only[Bool.false_and]at eL
      by_cases hid:i=(d.length:Int)
      ·skip
       simp-implicitDefEqProofs[go_sem,t6,t13,t14,gm,gp,hid,qv,aG];refine eL.mono fun v g ny hh=>?_;simp-implicitDefEqProofs[go_sem,aB];exact hh
      ·skip
       have dH:20000<H.L.length:=by omega
       have cX:(20000:Int)<(H.L.length:Int):=by omega
       simp-implicitDefEqProofs[go_sem,t6,t13,t14,gm,gb,gp,hid,pO,cX,qv,aG];refine eL.mono fun v g ny hh=>?_;simp-implicitDefEqProofs[go_sem,aB];exact hh
    ·rw[if_neg hc]at hR;have hid:¬i=(d.length:Int):=fun q=>hc (.inl q);have dH:¬20000<H.L.length:=fun q=>hc (.inr q);have cX:¬(20000:Int)<(H.L.length:Int):=by omega
     obtain⟨m,rfl⟩:∃m:Nat,i=(m:Int):=⟨i.toNat,by omega⟩;have NC:m<d.length:=by omega
     obtain⟨f,hf⟩:∃f,f=d[m]:=⟨_,rfl⟩;have hfD:d.getD m ⟨.empty,0,0,0⟩=f:=by
      rw[hf,an,aa NC];rfl
     have bU:Fc.cs f=[.bs f.name,.int .i64 f.kind,.int .i64 f.lo,.int .i64 f.hi]:=by cases f;rfl
     simp only[Int.toNat_natCast,hfD]at hR;have z1:¬p1=nx+2:=by omega
     have z2:¬p2=nx+2:=by omega
     simp-implicitDefEqProofs[go_sem,t5,t6,t13,t14,gm,gd,gb,gp,gq,hid,Ci,pO,cX,NC,← hf,bU,aG,z1,z2];generalize zp:p.cs++_=PQ;have Ii:PQ.length=8:=by rw[← zp];cases p;cases q;rfl
     obtain⟨LW,Ey⟩:∃LW:Nat→List Int,LW=fun j=>if j=0 then [f.lo] else if j=1 then [f.lo]++(if bH p d=(m:Int) then p.cuts else []) else ([f.lo]++(if bH p d=(m:Int) then p.cuts else []))++(if bH q d=(m:Int) then q.cuts else []):=⟨_,rfl⟩
     have z3:¬nx+2=nx+2+1:=by omega
     refine bT (fun mm st=>∃tm h' ax j v cs,st=.mk tm h' ax []∧mm=2-j∧j≤2∧tm.get 0=some (.int .i64 (x:Int))∧tm.get 1=some (.int .i64 (y:Int))∧tm.get 2=some (.ptr (bb+3) 0)∧tm.get 3=some (.ptr e 0)∧tm.get 4=some (.ptr (e+1) 0)∧tm.get 5=some (.ptr (e+2) 0)∧tm.get 6=some (.ptr (bb+1) 0)∧tm.get 7=some (.ptr (bb+4) 0)∧tm.get 15=some (.int .i64 (m:Int))∧tm.get 16=some v∧tm.get 82=some (.sl (nx+3) 0 2 2 false)∧tm.get 83=some (.int .i64 2)∧tm.get 84=some (.int .i64 (j:Int))∧
      h'.get (nx+3)=some (bx 154 PQ false 0)∧aA (nx+2) M h'∧nx+4≤ax∧LsI (nx+2) (nx+3) h' ax v cs∧RowKit.Hid (cs=LW j)) ⟨2,_,_,_,0,.sl (nx+2) 0 1 1 false,[f.lo],rfl,rfl,by omega,?_⟩ ?_
     ·simp-implicitDefEqProofs[go_sem,t0,t1,t2,t3,t4,t5,t6,t7];refine⟨?_,⟨nx+2,1,false,false,0,by omega,by omega,by omega,rfl,?_,.inl ⟨rfl,rfl⟩⟩,Lib.hid (by rw[Ey];rfl)⟩
      ·simp(disch:=omega)only[aL];exact aA.refl _ _
      ·simp-implicitDefEqProofs[go_sem];rfl
     ·rintro mm st ⟨tm,h',ax,j,v',cs,rfl,rfl,hj,t0,t1,t2,t3,t4,t5,t6,t7,t15,t16,t82,t83,t84,Eh,B5,qan,B7,eh⟩ J hJ
      refine bt aE _ ?_;have Th:h'.get (e+2)=some (bx 35 [.fz 4 w (aP d)] false 0):=by rw[B5 _ (by omega)];exact gd
      have y1:¬e+2=ax:=by omega
      have y2:¬nx+3=ax:=by omega
      by_cases eK:j<2
      ·obtain⟨n,hn⟩:∃n,n=if j=0 then p else q:=⟨_,rfl⟩
       have aK:(PQ.drop (j * 4)).take 4=n.cs:=by
        rw[← zp,hn]
        rcases (by omega:j=0∨j=1) with rfl |rfl
        ·cases p;cases q;rfl
        ·cases p;cases q;rfl
       have mM:LW (j+1)=LW j++(if bH n d=(m:Int) then n.cuts else []):=by
        rw[Ey,hn]
        rcases (by omega:j=0∨j=1) with rfl |rfl
        ·rfl
        ·rfl
       have It:j * 4+4≤8:=by omega
       have Nl:(j:Int)<2:=by omega
       simp-implicitDefEqProofs[go_sem,t5,t82,t83,t84,Eh,Th,eK,Nl,Ii,aK,It,y1];refine ay.use (Qi n w d) ?_;have FE:(n∈a∧DgOk a d)∨(n∈b∧DgOk b d):=by
        rw[hn]
        rcases (by omega:j=0∨j=1) with rfl |rfl
        ·left;exact⟨by rw[if_pos rfl,hp];exact ai hx,ha⟩
        ·right;exact⟨by rw[if_neg (by decide),hq];exact ai hy,hb⟩
       have aX:cs.length≤40001:=by
        rw[eh.out,Ey];have l4:=ha.cu _ (ai hx);rw[← hp]at l4
        rcases (by omega:j=0∨j=1) with rfl |rfl
        ·simp
        ·simp only[Nat.reduceEqDiff,if_false,if_true,List.length_append,List.length_cons,List.length_nil];split <;> simp <;> omega
       obtain⟨lq,Cz,lo,uv,qS,l1,l2,l3,rfl,lg,lr⟩:=B7;have n1':n.cs[1]?=some (.fz 1 false (aI n.cuts)):=by cases n;rfl
       have n1:∀hh,n.cs[1]'hh=.fz 1 false (aI n.cuts):=by cases n;intro hh;rfl
       have cI:n.cs.length=4:=by cases n;rfl
       have y3:¬lq=ax:=by omega
       have y4:¬ax=lq:=by omega
       have y5:¬ax+1=lq:=by omega
       by_cases pY:bH n d=(m:Int)
       ·have aQ:¬n.cuts.length=0:=by
         have key:∀g:List Nd,n∈g→DgOk g d→¬n.cuts.length=0:=fun g hg hD q=>by
          rcases hD.pr n hg with⟨e1,_⟩ |⟨_,_,_,e2,_⟩
          ·rw[DS e1]at pY;omega
          ·exact e2 (au q)
         rcases FE with⟨q1,q2⟩ |⟨q1,q2⟩ <;> exact key _ q1 q2
        have qal:n.cuts.length≤40000:=by
         rcases FE with⟨q1,q2⟩ |⟨q1,q2⟩ <;> exact q2.cu n q1
        have FV:cs.length+n.cuts.length≤16777216:=by omega
        have fo:=ve n.cuts;have fc:=YD n.cuts;rw[if_pos pY,← eh.out]at mM
        rcases lr with⟨rfl,rfl⟩ |⟨rfl,rfl,rfl,rfl⟩
        ·simp-implicitDefEqProofs[go_sem,aB,t15,t16,t84,pY,n1,cI,lg,fo,fc,aQ,FV,y3];refine hJ (2-(j+1)) _ (by omega) ⟨_,_,_,j+1,.sl (ax+1) 0 (cs++n.cuts).length 0 true,cs++n.cuts,rfl,rfl,by omega,?_⟩;simp-implicitDefEqProofs (disch:=omega) [go_sem,t0,t1,t2,t3,t4,t5,t6,t7,t15,t82,t83,aY];refine⟨by (repeat rw[if_neg (by omega)]);exact Eh,?_,by omega,⟨ax+1,0,true,true,1,by omega,by omega,by omega,by simp,?_,.inr ⟨rfl,rfl,rfl,rfl⟩⟩,Lib.hid mM.symm⟩
         ·simp(disch:=omega)only[aL];exact B5
         ·rw[zya,Tr.get_put,if_pos rfl]
        ·simp-implicitDefEqProofs[go_sem,aB,t15,t16,t84,pY,n1,cI,lg,fo,fc,FV,y3];refine hJ (2-(j+1)) _ (by omega) ⟨_,_,_,j+1,.sl (ax+1) 0 (cs++n.cuts).length 0 true,cs++n.cuts,rfl,rfl,by omega,?_⟩;simp-implicitDefEqProofs (disch:=omega) [go_sem,t0,t1,t2,t3,t4,t5,t6,t7,t15,t82,t83,aY];refine⟨by (repeat rw[if_neg (by omega)]);exact Eh,?_,by omega,⟨ax+1,0,true,true,1,by omega,by omega,by omega,by simp,?_,.inr ⟨rfl,rfl,rfl,rfl⟩⟩,Lib.hid mM.symm⟩
         ·simp(disch:=omega)only[aL];exact B5
         ·rw[zya,Tr.get_put,if_pos rfl]
       ·rw[if_neg pY,List.append_nil,← eh.out]at mM;simp-implicitDefEqProofs[go_sem,aB,t15,t84,pY];refine hJ (2-(j+1)) _ (by omega) ⟨_,_,_,j+1,.sl lq 0 cs.length Cz lo,cs,rfl,rfl,by omega,?_⟩;simp-implicitDefEqProofs (disch:=omega) [go_sem,t0,t1,t2,t3,t4,t5,t6,t7,t15,t16,t82,t83,aY];refine⟨by (repeat rw[if_neg (by omega)]);exact Eh,?_,by omega,⟨lq,Cz,lo,uv,qS,by omega,by omega,by omega,rfl,?_,lr⟩,Lib.hid mM.symm⟩
        ·simp(disch:=omega)only[aL];exact B5
        ·rw[Tr.get_put,if_neg (by omega),Tr.get_put,if_neg (by omega)];exact lg
      ·obtain rfl:j=2:=by omega
       obtain⟨lq,Cz,lo,uv,qS,l1,l2,l3,rfl,lg,lr⟩:=B7;have vX:kF p q d (m:Int) f.lo=fy (dq cs):=by rw[eh.out,Ey];rfl
       rw[vX]at hR;have kP:(dq cs).length=cs.length:=Hk cs;have IF:∀a∈fy (dq cs),cS a:=fun a' pT=>by
        rw[← vX]at pT;have v1:=hv f (by rw[hf];exact ai NC)
        rcases zyd pT with e |e |e
        ·rw[e];exact v1.2.1
        ·rw[hp]at e;exact(ha.ni _ (ai hx)).2.1 _ e
        ·rw[hq]at e;exact(hb.ni _ (ai hy)).2.1 _ e
       have vV:fy (dq cs)≠[]:=by rw[← vX];exact Pq _ _ _ _ _
       have qar:(fy (dq cs)).length≤80001:=by
        rw[← vX];have:=Y3 p q d (m:Int) f.lo;have l4:=ha.cu _ (ai hx);have kI:=hb.cu _ (ai hy);rw[← hp]at l4;rw[← hq]at kI;omega
       have aX:cs.length≤80001:=by
        rw[eh.out,Ey];have l4:=ha.cu _ (ai hx);have kI:=hb.cu _ (ai hy);rw[← hp]at l4;rw[← hq]at kI;simp only[Nat.reduceEqDiff,if_false,List.length_append,List.length_cons,List.length_nil];split <;> split <;> simp <;> omega
       simp-implicitDefEqProofs[go_sem,t16,t83,t84];refine zzk cs h' ax lq Cz qS lo uv lg (by omega) _ ?_;simp-implicitDefEqProofs[go_sem,aB,t16];have xM:=Yd (dq cs) [] (h'.put lq (some (bx 3 (aI (dq cs)) uv qS))) ax lq Cz qS lo uv (by rw[List.append_nil];simp[go_sem]) (by omega);rw[kP]at xM;refine xM _ fun r'=>?_;generalize qas:fy (dq cs)=bO at *;simp-implicitDefEqProofs[go_sem,aB];generalize Mt:jo ((h'.put lq (some (bx 3 (aI (dq cs)) uv qS))).put lq (some (bx 3 (aI (bO++r')) uv qS))) [lq]=M3;have vC:=zd (g:=(h'.put lq (some (bx 3 (aI (dq cs)) uv qS))).put lq (some (bx 3 (aI (bO++r')) uv qS))) (F:=fun a=>a∈[lq]) (b:=lq) (s:=bO) (r:=r') (cp:=Cz) (esz:=qS) (op:=lo) (opn:=uv) (by simp) (by simp[go_sem]);refine GG (fun a=>a∈[lq]) (h':=M3) (by rw[← Mt];exact iy.kill _) ((rI.refl.put (k:=16) (by simp[go_sem]) vC).put (k:=102) (by simp[go_sem]) vC) ?_;have tU:aA (nx+2) M M3:=by
        intro k1 cO;rw[← Mt,oK (by simp;omega),Tr.get_put,if_neg (by omega),Tr.get_put,if_neg (by omega)];exact B5 k1 cO
       clear Mt vC xM lg lr Eh Th;have mM:nx+2≤ax:=by omega
       have pS:=hS.ext tU mM;have Es:KH O1 bb h nx O1 M3 ax:=B6.trans (KH.ofExt tU mM);clear tU B5;generalize M8:(fun v H=>eW a b d k (er p x (m:Int) v).toNat (er q y (m:Int) v).toNat H)=gg at hR;obtain⟨FG,Er⟩:∃FG,FG=fm gg bO H:=⟨_,rfl⟩;rw[← Er]at hR;have Ni:inn H.L≤20000:=Nat.le_trans (List.length_filter_le _ _) (by omega);refine bT (fun mm st=>∃tm h' n' j O' H' ks kv,st=.mk tm h' n' []∧mm=bO.length-j∧j≤bO.length∧tm.get 0=some (.int .i64 (x:Int))∧tm.get 1=some (.int .i64 (y:Int))∧tm.get 2=some (.ptr (bb+3) 0)∧tm.get 3=some (.ptr e 0)∧tm.get 4=some (.ptr (e+1) 0)∧tm.get 5=some (.ptr (e+2) 0)∧tm.get 6=some (.ptr (bb+1) 0)∧tm.get 7=some (.ptr (bb+4) 0)∧tm.get 15=some (.int .i64 (m:Int))∧tm.get 16=some (.fz 1 false (aI bO))∧tm.get 19=some kv∧tm.get 102=some (.fz 1 false (aI bO))∧tm.get 103=some (.int .i64 (bO.length:Int))∧tm.get 104=some (.int .i64 (j:Int))∧
        SK ax O' h' n' kv ks∧ks.length=j∧KH O1 bb M3 ax O' h' n'∧js O' e bb u v w a b d H' h' n'∧(∀a,O' a→a<n')∧HI H'∧inn H'.L≤20000+k∧(∀a∈ks,0≤a∧a<(H'.L.length:Int))∧
        RowKit.Hid (FG=(ks++(fm gg (bO.drop j) H').1,(fm gg (bO.drop j) H').2))) ⟨bO.length,_,_,_,0,O1,H,[],.sl0,rfl,by simp,by simp,?_⟩ ?_
       ·simp-implicitDefEqProofs[go_sem,t0,t1,t2,t3,t4,t5,t6,t7,t15];exact⟨.inl ⟨rfl,rfl⟩,KH.ofExt (aA.refl _ _) (ae _),pS,fun a pT=>by have:=B8 a pT;omega,hH,by omega,Lib.hid Er⟩
       ·rintro mm st ⟨tm,h',n',j,O',H',ks,kv,rfl,rfl,hj,t0,t1,t2,t3,t4,t5,t6,t7,t15,t16,t19,t102,t103,t104,zS,eZ,xH,qJ,Mx,nX,og,l5,bF⟩ J hJ
        refine bt aE _ ?_;have En:=qJ.gx;have gy':=qJ.gy;have Tj:=qJ.gg;have H4:=qJ.gm;have hL':H'.L.length≤inn H'.L+2:=nX.g.len;unfold Q2 at Tj
        by_cases az:j<bO.length
        ·obtain⟨z,hz⟩:∃z,z=bO[j]:=⟨_,rfl⟩;have aJ:=bF.out;rw[aj az,← hz,zL8]at aJ;have HV:=Lib.hid aJ;clear aJ bF;simp-implicitDefEqProofs[go_sem,t102,t103,t104,az,← hz];refine GN mixed aE eO 12 [] [6,11] [] [(0,19,108)] 2 (by kernel_rfl) (by kernel_rfl) ?_;simp-implicitDefEqProofs[go_sem,t0,t3,t7,t15,t19,En,Tj];have kx:¬(a[x]).kids=[]→(a[x]).kids.length=(a[x]).cuts.length+1:=fun q=>((DM ha (ai hx)).2.2 q).2.2;have ky:¬(b[y]).kids=[]→(b[y]).kids.length=(b[y]).cuts.length+1:=fun q=>((DM hb (ai hy)).2.2 q).2.2;have sx:=zyf u a x (m:Int) z hx kx (by have:=ha.cu _ (ai hx);omega);have sy:=zyf v b y (m:Int) z hy ky (by have:=hb.cu _ (ai hy);omega);obtain⟨s1,s2,s3⟩:=BL ha hx (m:Int) z (by rw[← hp];exact i3) (by omega);obtain⟨r1,r2,r3⟩:=BL hb hy (m:Int) z (by rw[← hq];exact i4) (by omega);simp only[← hp]at sx s1 s2 s3;simp only[← hq]at sy r1 r2 r3
         obtain⟨x',Cu⟩:∃x',x'=(er p x (m:Int) z).toNat:=⟨_,rfl⟩;obtain⟨y',IN⟩:∃y',y'=(er q y (m:Int) z).toNat:=⟨_,rfl⟩;have tO:er p x (m:Int) z=(x':Int):=by omega
         have Ta:er q y (m:Int) z=(y':Int):=by omega
         have Lt:gg z H'=eW a b d k x' y' H':=by rw[← M8,Cu,IN]
         simp only[← Cu]at s2 s3;simp only[← IN]at r2 r3;rw[tO]at sx;rw[Ta]at sy;rw[Lt]at HV;have mK:(m:Int)+1≤iX (a[x']) (b[y']) d:=by
          unfold iX DO;omega
         clear tO Ta s1 r1 kx ky;refine gR sx ?_;simp-implicitDefEqProofs[go_sem,fg,t1,t4,t15,t19,gy'];refine gR sy ?_;have ig:=Hx a b d hd hv ha hb k x' y' H' s2 r2 (by omega) (by omega) nX (by omega);refine ih x' y' H' O' h' n' _ s2 r2 (by omega) (by omega) nX (by omega) qJ ?_;intro O2 g2 n2 rK rJ;have K2:=rK.low;have G2:=rJ.low;clear rK rJ;generalize eW a b d k x' y' H'=GV at ig HV G2 ⊢;obtain⟨wv,S2⟩:=GV;obtain⟨q1,q2,q3,q4⟩:=ig;simp only at q1 q2 q3 q4 G2 ⊢;have q3l:=q3.len;have hKn:=xH.1;have oU:=K2.1;have pN:=xH.trans K2;have zU:∀a,a∈ks∨a=wv→0≤a∧a<(S2.L.length:Int):=fun a ha=>by
          rcases ha with ha |rfl
          ·have:=l5 a ha;omega
          ·exact q2
         rcases zS with⟨rfl,rfl⟩ |⟨fV,kq,UP,qn,qO,rfl,nA⟩
         ·simp-implicitDefEqProofs[go_sem,aB,t104];refine hJ (bO.length-(j+1)) _ (by omega) ⟨_,_,_,j+1,fun k=>O2 k∧k<n2,S2,[wv],.sl (n2+1) 0 1 0 true,rfl,rfl,by omega,?_⟩;simp-implicitDefEqProofs (disch:=omega) [go_sem,t0,t1,t2,t3,t4,t5,t6,t7,t15,t16,t102,t103,aY];refine⟨.inr ⟨by simp,n2+1,by omega,by omega,fun hq=>by omega,rfl,by simp[go_sem,aI]⟩,by simp at eZ;omega,pN.but (q:=n2) (by omega) (fun k k1 k2=>by rw[Tr.get_put,if_neg (by omega),Tr.get_put,if_neg (by omega)]) (by omega),G2.but (q:=n2) (by omega) (fun hq=>by omega) (fun k k1 k2=>by rw[Tr.get_put,if_neg (by omega),Tr.get_put,if_neg (by omega)]) (by omega),by intros;omega,q1,by omega,?_,Lib.hid (by have:=HV.out;simpa using this)⟩;exact q2
         ·have OF:¬(O2 kq∧kq<n2):=fun hq=>by
           rcases K2.2.2 kq hq with r |r
           ·exact qO r
           ·omega
          have vt:g2.get kq=some (bx 3 (aI ks) true 1):=by rw[K2.2.1 kq qn qO (by omega)];exact nA
          have z1:¬kq=n2:=by omega
          have z2:¬n2=kq:=by omega
          have z3:¬n2+1=kq:=by omega
          have fo:=ve ks;have vM:ks.length+1≤16777216:=by omega
          simp-implicitDefEqProofs[go_sem,aB,t104,vt,z1,vM];refine hJ (bO.length-(j+1)) _ (by omega) ⟨_,_,_,j+1,fun k=>O2 k∧k<n2,S2,ks++[wv],.sl (n2+1) 0 (ks.length+1) 0 true,rfl,rfl,by omega,?_⟩;simp-implicitDefEqProofs (disch:=omega) [go_sem,t0,t1,t2,t3,t4,t5,t6,t7,t15,t16,t102,t103,aY];refine⟨.inr ⟨by simp,n2+1,by omega,by omega,fun hq=>by omega,by simp,by simp[go_sem,aI]⟩,eZ,pN.but (q:=kq) (by omega) (fun k k1 k2=>by rw[Tr.get_put,if_neg (by omega),Tr.get_put,if_neg (by omega),Tr.get_put,if_neg (by omega)]) (by omega),G2.but (q:=kq) (by omega) OF (fun k k1 k2=>by rw[Tr.get_put,if_neg (by omega),Tr.get_put,if_neg (by omega),Tr.get_put,if_neg (by omega)]) (by omega),by intros;omega,q1,by omega,zU,Lib.hid (by have:=HV.out;simpa using this)⟩
        ·have zT:FG=(ks,H'):=by
          have:=bF.out;rw[aq (by omega)]at this;simpa[fm]using this
         have sB:ks.length=bO.length:=by omega
         rcases zS with⟨rfl,_⟩ |⟨fV,kq,UP,qn,qO,rfl,nA⟩
         ·exact absurd (au (by simpa using sB.symm)) vV
         obtain⟨k0,kt,lH⟩:∃k0 kt,ks=k0::kt:=by
          cases ks with
          |nil=>exact absurd rfl fV
          |cons a l=>exact⟨a,l,rfl⟩
         have xX:∀a∈k0::kt,cS a:=fun a ha=>by
          have:=l5 a (by rw[lH];exact ha);exact⟨by omega,by omega⟩
         have Nr:(k0::kt).length=bO.length:=by rw[← lH];exact sB
         have s5:IntKind.i64.wrap ((bO.length:Int))=(bO.length:Int):=by rw[aY] <;> omega
         simp-implicitDefEqProofs[go_sem,t6,t15,t16,t19,t103,t104,az,H4];refine DN (fun a=>a∈[kq]) (iy.kill _) (args':=[.ptr bb 0,.int .i64 (m:Int),.fz 1 false (aI bO),.fz 1 false (aI (k0::kt))]) ?_ ?_
         ·rw[← lH];exact .cons _ _ _ _ (.same _) (.cons _ _ _ _ (.same _) (.cons _ _ _ _ (.same _) (.cons _ _ _ _ (zd (s:=ks) (r:=[]) (by simp) (by rw[List.append_nil];exact nA)) .nil)))
         have zl:js O' e bb u v w a b d H' (jo h' [kq]) n':=qJ.but (q:=kq) (by omega) qO (fun k k1 k2=>oK (by simp;exact k2)) (ae _);have Et:KH O1 bb M3 ax O' (jo h' [kq]) n':=xH.but UP (fun k k1 k2=>oK (by simp;exact k2)) (ae _);have fin:∀(wv:Int) (O2:Nat→Prop) (L2:List Nd) (g2:Tr ABlk) (n2:Nat),KH O1 bb M3 ax O2 g2 n2→js O2 e bb u v w a b d { H' with L:=L2 } g2 n2→jW m bO ks H'=(wv,{ H' with L:=L2 })→R (.int .i64 wv) (g2.put (bb+2) (some (.map (lY (mr ((x:Int),(y:Int)) wv H'.M) 0) (mr ((x:Int),(y:Int)) wv H'.M).length))) n2:=by
          intro wv O2 L2 g2 n2 K2 G2 hI;rw[zT]at hR;simp only[hI]at hR;exact hR O2 _ n2 (Es.trans (K2.trans (KH.setM _))) (G2.setM _)
         have hIn:jW m bO ks H'=if (bG k0 [] [k0] bO (k0::kt)).2.2.length=1 then (k0,{ H' with L:=H'.L }) else ((mo H'.L ⟨(m:Int),(bG k0 [] [k0] bO (k0::kt)).2.1,(bG k0 [] [k0] bO (k0::kt)).2.2,false⟩:Int),{ H' with L:=iW H'.L ⟨(m:Int),(bG k0 [] [k0] bO (k0::kt)).2.1,(bG k0 [] [k0] bO (k0::kt)).2.2,false⟩ }):=by
          rw[lH];have hG:eu m bO (k0::kt) H'.gs=if (bG k0 [] [k0] bO (k0::kt)).2.2.length=1 then (k0,H'.gs) else cR ⟨(m:Int),(bG k0 [] [k0] bO (k0::kt)).2.1,(bG k0 [] [k0] bO (k0::kt)).2.2,false⟩ H'.gs:=rfl
          unfold jW;rw[hG]
          by_cases hh:(bG k0 [] [k0] bO (k0::kt)).2.2.length=1
          ·rw[if_pos hh,if_pos hh];rfl
          ·rw[if_neg hh,if_neg hh];rfl
         refine X9 O' _ n' bb H'.L (m:Int) k0 bO kt false false zl.mkS (by omega) ⟨by omega,by omega⟩ IF xX (by omega) (by omega) ⟨(m:Int),(bG k0 [] [k0] bO (k0::kt)).2.1,(bG k0 [] [k0] bO (k0::kt)).2.2,false⟩ rfl _ (fun g2 n2 c1 c2 c3=>?_) (fun O2 g2 n2 c1 c2 c3 c4=>?_)
         ·have G2:=zl.ext c2 c3;have fn:=fin k0 O' H'.L g2 n2 (Et.trans (KH.ofExt c2 c3)) G2 (by rw[hIn,if_pos c1]);have rS:=G2.gv;have pM:=G2.gM;cases dC:kD ((x:Int),(y:Int)) H'.M with
          |none=>
           have f2:=Ju 0 dC;rw[Qr dC,Re]at fn;simp-implicitDefEqProofs[go_sem,aB,t0,t1,t2,rS,pM,f2,aG];simpa using fn
          |some v2=>
           obtain⟨j2,f2,f3,f4⟩:=Ks 0 dC;rw[← f4,Q4 dC]at fn;simp-implicitDefEqProofs[go_sem,aB,t0,t1,t2,rS,pM,f2,aG];simpa using fn
         ·have G2:=zl.node c3 c4;have fn:=fin _ O2 _ g2 n2 (Et.trans (KH.ofKept c3)) G2 (by rw[hIn,if_neg c1]);have rS:=G2.gv;have pM:=G2.gM;simp only at fn pM;cases dC:kD ((x:Int),(y:Int)) H'.M with
          |none=>
           have f2:=Ju 0 dC;rw[Qr dC,Re]at fn;simp-implicitDefEqProofs[go_sem,aB,t0,t1,t2,rS,pM,f2,aG];simpa using fn
          |some v2=>
           obtain⟨j2,f2,f3,f4⟩:=Ks 0 dC;rw[← f4,Q4 dC]at fn;simp-implicitDefEqProofs[go_sem,aB,t0,t1,t2,rS,pM,f2,aG];simpa using fn
theorem zIm:cx.ft.get 148=some Tryz.f148:=aT (by decide) (by kernel_rfl)
def fR (a b:List Nd)(d:List Fc):Int×HS:=eW a b d (d.length+1) 0 0 ⟨[],[]⟩
def Hm (a b:List Nd)(d:List Fc):AV:=
 if dE a d=false∨dE b d=false then uK 1 else if 20000<(fR a b d).2.L.length then uK 2 else if 20000<(bl (fR a b d).2.L (fR a b d).1).length then uK 2 else .tup [.agg [.fz 4 false (bK (cL (fR a b d).2.L (fR a b d).1))],.int .i64 0]
theorem BK {g:List Nd}{d:List Fc}(h:dE g d=true):nS g d:=by
 by_cases hv:nS g d
 ·exact hv
 ·rw[Yf hv]at h;cases h
theorem ZL {d:List Fc}(h:eQ d=true):BF d:=by
 by_cases hv:BF d
 ·exact hv
 ·rw[KX hv]at h;cases h
theorem DP {a:List Nd}{d:List Fc}(hv:nS a d)(hN:∀n∈a,jH n)(hc:∀n∈a,n.cuts.length≤40000):DgOk a d:=⟨hv.2.2.2.1,hN,hc,by have:=hv.2.2.1;omega⟩
theorem DT {d:List Fc}(h:eQ d=true):d.length≤60∧∀x∈d,x.lo≤x.hi∧cS x.lo∧cS x.hi:=by
 obtain⟨⟨h1,_⟩,h2⟩:=ZL h;refine⟨h2,fun x hx=>?_⟩
 rcases (h1 x hx).1 with⟨_,e1,e2⟩ |⟨_,e1,e2,e3⟩
 ·rw[e1,e2];exact⟨by decide,⟨by omega,by omega⟩,⟨by omega,by omega⟩⟩
 ·exact⟨e2,⟨by omega,by omega⟩,⟨by omega,by omega⟩⟩
theorem zIh (u v w:Bool)(a b:List Nd)(d:List Fc)(vK:a.length≤1000000)(uj:b.length≤1000000)(hd:d.length≤1000000)(hs:∀f∈d,f.name.size≤1000000000)(TT:∀n∈a,jH n)(TU:∀n∈b,jH n)
  (df:dE a d=true→∀n∈a,n.cuts.length≤40000) (MO:dE b d=true→∀n∈b,n.cuts.length≤40000):
  ay Tryz.prog cx 148 [.agg [.fz 4 u (bK a)],.agg [.fz 4 v (bK b)],.agg [.fz 4 w (aP d)]] (Hm a b d):=by
 refine ay.mkW fun h nx R hR=>aV (sz:=42) (rs:=[.cell 6 92,.tmp 7]) aE zIm rfl rfl rfl (by simp) ?_;have hVa:=Kr u w a d vK hd hs TT;have hVb:=Kr v w b d uj hd hs TU;obtain⟨res,aH⟩:∃r,r=Hm a b d:=⟨_,rfl⟩;rw[← aH]at hR;unfold Hm at aH;have fT:∀(k:Int) (g:Tr ABlk) (ny:Nat),aA nx h g→res=uK k→R (.tup [.agg [.sl0],.int .i64 k]) g ny:=fun k g ny hE e=>by
  rw[e]at hR;exact hR _ _ _ (.tup [.agg [.sl0],.int .i64 k]) hE (.tup _ _ (.cons _ _ _ _ (.agg _ _ (.cons _ _ _ _ .sl0 .nil)) (.cons _ _ _ _ (.int _ _) .nil))) (.tup _ _ (.cons _ _ _ _ (.agg _ _ (.cons _ _ _ _ (.sl0 4 false) .nil)) (.cons _ _ _ _ (.same _) .nil)))
 have z1:¬nx=nx+1:=by omega
 have z2:¬nx=nx+1+1:=by omega
 have z3:¬nx=nx+1+1+1:=by omega
 have z4:¬nx+1=nx+1+1:=by omega
 have z5:¬nx+1=nx+1+1+1:=by omega
 have z6:¬nx+1+1=nx+1+1+1:=by omega
 simp-implicitDefEqProofs[go_sem,z2,z3];refine ay.use hVa ?_;cases Cs:dE a d with
 |false=>
  rw[if_pos (.inl Cs)]at aH;simp-implicitDefEqProofs[go_sem,aB,aG];refine fT 1 _ _ ?_ aH;simp(disch:=omega)only[aL];exact aA.refl _ _
 |true=>
  simp-implicitDefEqProofs[go_sem,aB];refine ay.use hVb ?_;cases kj:dE b d with
  |false=>
   rw[if_pos (.inr kj)]at aH;simp-implicitDefEqProofs[go_sem,aB,aG];refine fT 1 _ _ ?_ aH;simp(disch:=omega)only[aL];exact aA.refl _ _
  |true=>
   rw[if_neg (by rw[Cs,kj];simp)]at aH;have pa:=BK Cs;have pb:=BK kj;obtain⟨d1,d2⟩:=DT pa.1;have ha:=DP pa TT (df Cs);have hb:=DP pb TU (MO kj);simp-implicitDefEqProofs[go_sem,aB,aG];generalize bp:Tr.put _ _ (some (bx 199 [.func 209 [] _] false 0))=g3;have E3:aA nx h g3:=by
    rw[← bp];simp(disch:=omega)only[aL];exact aA.refl _ _
   have dr:g3.get (nx+1+1+1)=some (bx 92 [.sl0] false 0):=by rw[← bp];simp(disch:=omega) [go_sem,lh]
   have G3:js (fun k=>k=nx+4) nx (nx+4) u v w a b d ⟨[],[]⟩ g3 (nx+9):=by
    refine⟨by omega,by omega,fun k hk=>.inl hk,?_,?_,?_,?_,?_,?_,?_,⟨by simp,.sl0,.map0,?_,?_⟩⟩
    ·rw[← bp];simp(disch:=omega) [go_sem,lh]
    ·rw[← bp];simp(disch:=omega) [go_sem]
    ·rw[← bp];simp(disch:=omega) [go_sem]
    ·rw[← bp];simp(disch:=omega) [go_sem,lh]
    ·rw[← bp];simp(disch:=omega) [go_sem,lh,lY]
    ·rw[← bp];simp(disch:=omega) [go_sem]
    ·rw[← bp];simp(disch:=omega) [go_sem,Q2]
    ·rw[← bp];simp(disch:=omega) [go_sem]
    ·exact⟨rfl,rfl,by omega,.inl ⟨rfl,rfl,rfl⟩⟩
   clear bp;have ur:0<a.length:=pa.2.1;have uu:0<b.length:=pb.2.1;have BQ:HI ⟨[],[]⟩:=⟨⟨by simp[HS.gs],by intro n hn;simp[HS.gs]at hn,by simp[HS.gs],by simp[HS.gs],by simp[HS.gs]⟩,by simp⟩;have fC:=xr ha hb (ai ur) (ai uu);have ig:=Hx a b d (by omega) d2 ha hb (d.length+1) 0 0 ⟨[],[]⟩ ur uu (by omega) (ae _) BQ (by simp[inn]);refine zG7 a b d (by omega) d2 ha hb u v w nx (nx+4) (d.length+1) 0 0 ⟨[],[]⟩ (fun k=>k=nx+4) g3 (nx+9) _ ur uu (by omega) (ae _) BQ (by simp[inn]) G3 ?_;intro O2 g2 n2 rK rJ;have K2:=rK.low;have G2:=rJ.low;clear rK rJ;have zm:eW a b d (d.length+1) 0 0 ⟨[],[]⟩=fR a b d:=rfl;rw[zm]at ig G2 ⊢;generalize fR a b d=GV at ig G2 aH ⊢;obtain⟨wv,S2⟩:=GV;obtain⟨q1,q2,q3,q4⟩:=ig;simp only at q1 q2 q3 q4 G2 aH ⊢;have FH:=K2.1;have e3:g2.get (nx+1+1+1)=some (bx 92 [.sl0] false 0):=by
    rw[K2.2.1 _ (by omega) (by omega) (by omega)];exact dr
   have E4:aA nx h g2:=fun k hk=>by
    rw[K2.2.1 k (by omega) (by omega) (by omega)];exact E3 k hk
   have gm:g2.get (nx+4+1)=some (bx 182 [.ptr (nx+4) 0] false 0):=G2.gm;have hSL:S2.L.length≤inn S2.L+2:=q1.g.len;obtain⟨ma,mc,gb,hA⟩:=G2.all;have pO:∀(e:TypeId) (size b:Nat) (z:Option AV) (fs:List (Nat×Nat×Bool)) (g:Tr ABlk) (n:Nat),lP (.mk (.slice e) size b z fs) ma g n=.val (.int .i64 (S2.L.length:Int)) g n:=by
    intro e' size b' z fs g n
    rcases hA with⟨h0,ha⟩ |⟨q,ha⟩
    ·rw[ha,GL,h0];rfl
    ·rw[ha,Hg]
   by_cases dH:20000<S2.L.length
   ·have cX:(20000:Int)<(S2.L.length:Int):=by omega
    rw[if_pos dH]at aH;simp-implicitDefEqProofs[go_sem,aB,gm,gb,pO,cX,e3,aG];refine fT 2 _ _ ?_ aH;simp(disch:=omega)only[aL];exact E4
   ·have cX:¬(20000:Int)<(S2.L.length:Int):=by omega
    rw[if_neg dH]at aH;simp-implicitDefEqProofs[go_sem,aB,gm,gb,pO,cX];refine aN.useE (Qe _ S2.L (nx+4) n2 g2 wv G2.mkS (fun k hk=>hk.2) q1.g.wk (fun n hn=>by have:=(q1.g.ni n hn).2.2.2.2;omega) (by omega) q2) ?_
    by_cases oQ:20000<(bl S2.L wv).length
    ·rw[if_pos oQ]at aH;rw[if_pos oQ];simp-implicitDefEqProofs[go_sem,aB,e3,aG];rw[aH]at hR;refine hR _ _ _ _ ?_ (Fz.same _ (by simp[plain,bC])) (.same _);simp(disch:=omega)only[aL];exact E4
    ·rw[if_neg oQ]at aH;rw[if_neg oQ];simp-implicitDefEqProofs[go_sem,aB,e3,aG];rw[aH]at hR;refine hR _ _ _ _ ?_ (Fz.same _ (by simp[plain,bC,CZ])) (.same _);simp(disch:=omega)only[aL];exact E4
theorem zH5:cx.ft.get 131=some Tryz.f131:=aT (by decide) (by kernel_rfl)
def xp (nm:ByteArray→Bool):Fm→Bool
 |.mk o n c m kids=>
  if o≠3∧(c≠0∨m≠0) then false else if o≠3∧o≠4∧n≠⟨#[]⟩ then false else
  if o=1∨o=2 then decide (kids.length=0) else
  if o=3 then (decide (kids.length=0) && nm n) && (decide (1≤c) && decide (c≤6)) else
  if o=4 then decide (kids.length=0) && nm n else
  if o=5 then decide (kids.length=1) else
  if o=6∨o=7 then decide (2≤kids.length) else false
def Fm.nam:Fm→ByteArray
 |.mk _ n _ _ _=>n
theorem zMk (nm:ByteArray→Bool)(f:Fm)(iE:ay Tryz.prog cx 193 [.bs f.nam] (.bool (nm f.nam))):ay Tryz.prog cx 131 [.agg f.cs] (.bool (xp nm f)):=by
 refine ay.mk fun h nx R hR=>aV (sz:=79) (rs:=[.tmp 2]) aE zH5 rfl rfl rfl (by simp) ?_;obtain⟨o,n,c,m,kids⟩:=f;have FF:ay Tryz.prog cx 193 [.bs n] (.bool (nm n)):=iE;clear iE;have E:∀x,aA nx h (h.put nx x):=fun x=>(aA.refl nx h).put (ae _) _;obtain⟨r,hr⟩:∃r,r=xp nm (.mk o n c m kids):=⟨_,rfl⟩;rw[← hr]at hR;simp only[xp]at hr;have eX:∀b g ny,b=r→aA nx h g→R (.bool b) g ny:=fun b g ny hb hE=>hR _ _ _ hE (Fz.eq rfl (by rw[hb]));clear hR;have eZ:(cy kids).length=kids.length:=by simp[go_sem]
 have fV:(kids.length:Int)=0↔kids.length=0:=by omega
 by_cases o3:o=3
 ·subst o3;rw[if_neg (by simp),if_neg (by simp),if_neg (by simp),if_pos rfl]at hr
  by_cases k0:kids.length=0
  ·simp-implicitDefEqProofs[go_sem,Fm.cs,eZ,k0];refine ay.use FF ?_;cases hn:nm n with
   |false=>
    simp-implicitDefEqProofs[go_sem,aB];exact eX _ _ _ (by rw[hr];simp[*]) (E _)
   |true=>
    by_cases c1:1≤c
    ·simp-implicitDefEqProofs[go_sem,aB,c1];exact eX _ _ _ (by rw[hr];simp[*]) (E _)
    ·simp-implicitDefEqProofs[go_sem,aB,c1];exact eX _ _ _ (by rw[hr];simp[*]) (E _)
  ·have k0I:¬(kids.length:Int)=0:=by omega
   simp-implicitDefEqProofs[go_sem,Fm.cs,eZ,k0];exact eX _ _ _ (by rw[hr];simp[*]) (E _)
 by_cases hc:c=0
 ·by_cases hm:m=0
  ·subst hc;subst hm;rw[if_neg (by simp)]at hr
   by_cases o4:o=4
   ·subst o4;rw[if_neg (by simp),if_neg (by simp),if_neg (by simp),if_pos rfl]at hr
    by_cases k0:kids.length=0
    ·simp-implicitDefEqProofs[go_sem,Fm.cs,eZ,k0];refine ay.use FF ?_;simp-implicitDefEqProofs[go_sem,aB];exact eX _ _ _ (by rw[hr];simp[k0]) (E _)
    ·have k0I:¬(kids.length:Int)=0:=by omega
     simp-implicitDefEqProofs[go_sem,Fm.cs,eZ,k0];exact eX _ _ _ (by rw[hr];simp[k0]) (E _)
   by_cases hn:n=⟨#[]⟩
   ·rw[if_neg (by simp[hn])]at hr
    by_cases o1:o=1
    ·subst o1;rw[if_pos (.inl rfl)]at hr;simp-implicitDefEqProofs[go_sem,Fm.cs,eZ,hn];exact eX _ _ _ (by rw[hr,decide_eq_decide];simp) (E _)
    by_cases o2:o=2
    ·subst o2;rw[if_pos (.inr rfl)]at hr;simp-implicitDefEqProofs[go_sem,Fm.cs,eZ,hn];exact eX _ _ _ (by rw[hr,decide_eq_decide];simp) (E _)
    rw[if_neg (by omega),if_neg o3,if_neg o4]at hr
    by_cases o5:o=5
    ·subst o5;rw[if_pos rfl]at hr;simp-implicitDefEqProofs[go_sem,Fm.cs,eZ,hn];exact eX _ _ _ (by rw[hr,decide_eq_decide];omega) (E _)
    rw[if_neg o5]at hr
    by_cases o6:o=6
    ·subst o6;rw[if_pos (.inl rfl)]at hr;simp-implicitDefEqProofs[go_sem,Fm.cs,eZ,hn];exact eX _ _ _ (by rw[hr,decide_eq_decide];omega) (E _)
    by_cases o7:o=7
    ·subst o7;rw[if_pos (.inr rfl)]at hr;simp-implicitDefEqProofs[go_sem,Fm.cs,eZ,hn];exact eX _ _ _ (by rw[hr,decide_eq_decide];omega) (E _)
    rw[if_neg (by omega)]at hr;simp-implicitDefEqProofs[go_sem,Fm.cs,eZ,hn,o1,o2,o3,o4,o5,o6,o7];exact eX _ _ _ (by rw[hr]) (E _)
   ·rw[if_pos ⟨o3,o4,hn⟩]at hr;simp-implicitDefEqProofs[go_sem,Fm.cs,eZ,hn,o3,o4];exact eX _ _ _ (by rw[hr]) (E _)
  ·rw[if_pos ⟨o3,.inr hm⟩]at hr;simp-implicitDefEqProofs[go_sem,Fm.cs,eZ,o3,hc,hm];exact eX _ _ _ (by rw[hr]) (E _)
 ·rw[if_pos ⟨o3,.inl hc⟩]at hr;simp-implicitDefEqProofs[go_sem,Fm.cs,eZ,o3,hc];exact eX _ _ _ (by rw[hr]) (E _)
end
end Go.Ev
