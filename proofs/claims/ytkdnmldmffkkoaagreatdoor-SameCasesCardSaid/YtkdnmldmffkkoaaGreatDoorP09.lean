/- Texts. -/
import Derived.Test.YtkdnmldmffkkoaaGreatDoorP08
set_option linter.all false
set_option maxRecDepth 100000
set_option maxHeartbeats 8000000
namespace Go.Ev
noncomputable section
section
open Go.Proofs Go.RowKit
def zOt (d:List Fc)(hd:d.length≤1000)(hv:∀x∈d,x.lo≤x.hi∧dh x.lo∧dh x.hi)(u:Bool) (e b:Nat):∀(k i:Nat)(f:Fm)(S:GS)(O:Nat→Prop)(h:Tr ABlk) (nx:Nat)(R:AV→Tr ABlk→Nat→Prop),i+k=d.length→iY f→f.size≤1000→GI S→inn S.L≤20000+d.length+1→gj O e b u d S h nx→vT d u e b k f S O h nx R→
  di 138 [.agg f.cs,.int .i64 (i:Int),.ptr (b+1) 0,.ptr (b+4) 0,.ptr e 0,.ptr (b+3) 0,.ptr (b+5) 0] h nx R:=by
 intro k
 induction k with
 |zero=>
  intro i f S O h nx R hi hf hs hI hn hG hR;have:=hI.len;refine Sj d u e b 0 i f S O h nx R (by omega) hG hR (fun q=>?_) (fun q=>?_) (.inr (.inr (by omega)))
  ·rw[cr,if_pos q]
  ·rw[cr,if_neg q]
 |succ k ih=>
  intro i f S O h nx R hi hf hs hI hn hG hR;have:=hI.len
  by_cases q:f.op=1∨f.op=2
  ·refine Sj d u e b (k+1) i f S O h nx R (by omega) hG hR (fun q=>?_) (fun q2=>absurd q q2) (.inl q);rw[cr,if_pos q]
  ·cases hF:kI S with
   |true=>
    refine Sj d u e b (k+1) i f S O h nx R (by omega) hG hR (fun q2=>absurd q2 q) (fun q2=>?_) (.inr (.inl hF));rw[cr,if_neg q,if_pos hF,hF]
   |false=>
    refine zRp d hd hv u e b k i f S (fun k=>O k∧k<nx) h nx R (by omega) hf hs q hF hI hG.low (fun k hk=>hk.2) (fun O' g ny K G=>hR O' g ny K.up G) fun f S O h nx R hf hs hI hn hG hR=>?_;have:=ih (i+1) f S O h nx R (by omega) hf hs hI hn hG hR;simpa using this
end
section
open Go.Proofs Go.RowKit
attribute [-go_sem] dN bX fC jg
def zLt:cx.ft.get 93=some Tryz.f93:=aO
def vA (c:Int):AV:=.tup [.agg [.fz 4 false []],.int .i64 c]
def jP (d:List Fc)(f:Fm):Int×GS:=cr d d.length (bY .empty 0 f) ⟨[],[],false⟩
def D8 (c:Int)(d:List Fc)(f:Fm):AV:=
 if dH d=false∨c≠0 then vA 1 else if 24<(jz [] f).length then vA 2 else if (jP d f).2.full=true∨20000<(br (jP d f).2.L (jP d f).1).length then vA 2 else .tup [.agg [.fz 4 false (bQ (cV (jP d f).2.L (jP d f).1))],.int .i64 0]
def zQc (u:Bool)(d:List Fc)(f:Fm) (c:Int)(hl:d.length≤1000000000)(hs:∀f∈d,f.name.size≤1000000000)(hf:f.size≤1000000)
  (hC:aM 38 [.agg f.cs,.agg [.fz 4 u (aN d)],.sl0] (.int .i64 c))
  (s8:dH d=true→c=0→iY f∧f.size≤1000∧d.length≤1000∧∀x∈d,x.lo≤x.hi∧dh x.lo∧dh x.hi):
  aM 93 [.agg f.cs,.agg [.fz 4 u (aN d)]] (D8 c d f):=by
 refine aB.mkW fun h nx R hR=>aP zLt (sz:=42) (rs:=[.cell 4 92,.tmp 5]) ?_;obtain⟨cK,bn⟩:∃l,l=f.cs:=⟨_,rfl⟩;have iK:cK.length=5:=by rw[bn];cases f;rfl
 have bO:cK.take 5=cK:=ar (by omega);have z1:¬nx=nx+1:=by omega
 have z2:¬nx+1=nx+2:=by omega
 have z3:¬nx=nx+2:=by omega
 have z4:¬nx+1=nx+1+1:=by omega
 have z5:¬nx=nx+1+1:=by omega
 have nr:=Is u d hl hs;obtain⟨res,aH⟩:∃r,r=D8 c d f:=⟨_,rfl⟩;rw[← aH]at hR;unfold D8 at aH;have gP:∀(k:Int) (g:Tr ABlk) (ny:Nat),az nx h g→res=vA k→R (.tup [.agg [.sl0],.int .i64 k]) g ny:=fun k g ny hE e=>by
  rw[e]at hR;exact hR _ _ _ (.tup [.agg [.sl0],.int .i64 k]) hE (.tup _ _ (.cons _ _ _ _ (.agg _ _ (.cons _ _ _ _ .sl0 .nil)) (.cons _ _ _ _ (.int _ _) .nil))) (.tup _ _ (.cons _ _ _ _ (.agg _ _ (.cons _ _ _ _ (.sl0 4 false) .nil)) (.cons _ _ _ _ (.same _) .nil)))
 rw[← bn]at hC ⊢;simp[go_sem];refine aB.use nr ?_;cases kQ:dH d with
 |false=>
  rw[kQ,if_pos (.inl rfl)]at aH;simp[go_sem,aA,aI];refine gP 1 _ _ ?_ aH;simp(disch:=omega)only[aK,az.refl]
 |true=>
  rw[kQ]at aH;simp[go_sem,aA,iK,bO,z3];refine aB.use hC ?_
  by_cases hc:c=0
  ·subst hc;obtain⟨fG,fs,fd,fv⟩:=s8 kQ rfl;rw[if_neg (by simp)]at aH;simp[go_sem,aA,iK,bO,z3];generalize cY:Tr.put _ (nx+1+1+1) (some (ABlk.map [] 0))=g0;rw[bn];have E0:az nx h g0:=by rw[← cY];simp(disch:=omega)only[aK];exact az.refl _ _
   have a1:g0.get nx=some (bx 24 cK false 0):=by rw[← cY];simp(disch:=omega) [go_sem,lW]
   have a2:g0.get (nx+1)=some (bx 35 [.fz 4 u (aN d)] false 0):=by rw[← cY];simp(disch:=omega) [go_sem]
   have a3:g0.get (nx+1+1)=some (bx 92 [.sl0] false 0):=by rw[← cY];simp(disch:=omega) [go_sem]
   have a4:g0.get (nx+1+1+1)=some (jm []):=by rw[← cY];simp(disch:=omega) [go_sem,jm,gV]
   clear cY;refine zMj f.size f [] g0 _ (nx+1+1+1) _ (ae _) hf (by omega) a4 fun g ny c1 c2 c3=>?_;have E1:az nx h g:=fun k hk=>by rw[c1 k (by omega) (by omega)];exact E0 k hk
   have b1:g.get nx=some (bx 24 cK false 0):=by rw[c1 _ (by omega) (by omega)];exact a1
   have b2:g.get (nx+1)=some (bx 35 [.fz 4 u (aN d)] false 0):=by rw[c1 _ (by omega) (by omega)];exact a2
   have b3:g.get (nx+1+1)=some (bx 92 [.sl0] false 0):=by rw[c1 _ (by omega) (by omega)];exact a3
   clear a1 a2 a3 a4 c1 E0;have gC:∀(U:List ByteArray) (n:Nat),(gV U n).length=U.length:=by
    intro U
    induction U with
    |nil=>intro n;rfl
    |cons x U ih=>intro n;simp[gV,ih]
   by_cases Ui:24<(jz [] f).length
   ·rw[if_pos Ui]at aH;have zQ:(24:Int)<((jz [] f).length:Int):=by omega
    simp[go_sem,aA,c2,jm,gC,zQ,aI,b3];refine gP 2 _ _ ?_ aH;simp(disch:=omega)only[aK];exact E1
   ·rw[if_neg Ui]at aH;have zQ:¬(24:Int)<((jz [] f).length:Int):=by omega
    simp[go_sem,aA,c2,jm,gC,zQ,aI];generalize bz:Tr.put _ _ (some (bx 169 [.func 138 [] _] false 0))=g3;have E3:az nx h g3:=by
     rw[← bz];simp(disch:=omega)only[aK];exact E1
    have d1:g3.get nx=some (bx 24 cK false 0):=by rw[← bz];simp(disch:=omega) [go_sem,lW,b1]
    have d3:g3.get (nx+1+1)=some (bx 92 [.sl0] false 0):=by rw[← bz];simp(disch:=omega) [go_sem,lW,b3]
    have G3:gj (fun k=>k=ny) (nx+1) ny u d ⟨[],[],false⟩ g3 (ny+6):=by
     refine⟨by omega,by omega,fun k hk=>.inl hk,?_,?_,?_,?_,?_,?_,⟨by simp,.sl0,.map0,?_,?_⟩⟩
     ·rw[← bz];simp(disch:=omega) [go_sem,lW,b2]
     ·rw[← bz];simp(disch:=omega) [go_sem]
     ·rw[← bz];simp(disch:=omega) [go_sem,mH]
     ·rw[← bz];simp(disch:=omega) [go_sem]
     ·rw[← bz];simp(disch:=omega) [go_sem]
     ·rw[← bz];simp(disch:=omega) [go_sem]
     ·rw[← bz];simp(disch:=omega) [go_sem,lW]
     ·exact⟨rfl,rfl,by omega,.inl ⟨rfl,rfl,rfl⟩⟩
    clear bz b1 b2 b3 c2;have gg:g3.get (ny+2+1+1+1)=some (bx 169 [.func 138 [] [.ptr (ny+1) 0,.ptr (ny+2+1+1) 0,.ptr (nx+1) 0,.ptr (ny+2+1) 0,.ptr (ny+2+1+1+1) 0]] false 0):=G3.gg;have yz:=Zn f.size f .empty 0 (ae _) (by omega) fG.notOk;rw[← bn]at yz;obtain⟨gG,gS⟩:=Cm .empty 0 fG;have Cs:GI ⟨[],[],false⟩:=⟨by simp,by intro n hn;simp at hn,by simp,by simp,by simp⟩;have iM:=Ir d fd fv d.length (bY .empty 0 f) ⟨[],[],false⟩ (ae _) gG (by omega) Cs (by simp[inn]);have U1:=zOt d fd fv u (nx+1) ny d.length 0 (bY .empty 0 f) ⟨[],[],false⟩ (fun k=>k=ny) g3 (ny+6);refine Hz mixed iQ xh 3 [] [2] [] [] 0 (by kernel_rfl) (by kernel_rfl) ?_;simp[go_sem,d1,gg,iK,bO];refine dV yz ?_;simp[go_sem,cW];refine U1 _ (by omega) gG (by omega) Cs (by simp[inn]) G3 ?_;intro O2 g2 n2 sL sK;have K2:=sL.low;have G2:=sK.low;clear sL sK U1;have zV:cr d d.length (bY .empty 0 f) ⟨[],[],false⟩=jP d f:=rfl
    rw[zV]at iM G2 ⊢;generalize jP d f=GV at iM G2 aH ⊢;obtain⟨w,S2⟩:=GV;obtain⟨q1,q2,q3,q4⟩:=iM;simp only at q1 q2 q3 q4 G2 aH ⊢;have e3:g2.get (nx+1+1)=some (bx 92 [.sl0] false 0):=by
     rw[K2.2.1 _ (by omega) (by omega) (by omega) (by omega)];exact d3
    have E4:az nx h g2:=fun k hk=>by
     rw[K2.2.1 k (by omega) (by omega) (by omega) (by omega)];exact E3 k hk
    have AT:=K2.1;have gm:g2.get (ny+1)=some (bx 182 [.ptr ny 0] false 0):=G2.gm;have gf:g2.get (ny+2+1+1)=some (bx 4 [.bool S2.full] false 0):=G2.gf;have hSL:=q1.len;cases bS:S2.full with
    |true=>
     rw[bS]at gf;rw[if_pos (.inl bS)]at aH;simp[go_sem,aA,gf,e3,aI];refine gP 2 _ _ ?_ aH;simp(disch:=omega)only[aK];exact E4
    |false=>
     rw[bS]at gf;simp[go_sem,aA,gf,gm];refine bf.useE (Re _ S2.L ny n2 g2 w G2.mkS (fun k hk=>hk.2) q1.wk (fun n hn=>by have:=(q1.ni n hn).2.2.2.2;omega) (by have yB:inn ([]:List Nd)=0:=rfl;rw[yB]at q4;omega) q2) ?_
     by_cases dY:20000<(br S2.L w).length
     ·rw[if_pos (.inr dY)]at aH;rw[if_pos dY];simp[go_sem,aA,e3,aI];rw[aH]at hR;refine hR _ _ _ _ ?_ (Fz.same _ (by simp[plain,bJ])) (.same _);simp(disch:=omega)only[aK];exact E4
     ·rw[if_neg (by rw[bS];simpa using dY)]at aH;rw[if_neg dY];simp[go_sem,aA,e3,aI];rw[aH]at hR;refine hR _ _ _ _ ?_ (Fz.same _ (by simp[plain,bJ,DL])) (.same _);simp(disch:=omega)only[aK];exact E4
  ·rw[if_pos (.inr hc)]at aH;simp[go_sem,aA,hc,aI];refine gP 1 _ _ ?_ aH;simp(disch:=omega)only[aK,az.refl]
def zTw:cx.ft.get 208=some Tryz.f208:=aO
def mZ (g:List Nd)(d:List Fc):Prop:=dH d=true∧0<g.length∧g.length≤20000∧(∀n∈g,oz g n d)∧(g.map bV).Nodup∧cV g 0=g
def dU (g:List Nd)(d:List Fc):Bool:=@decide (mZ g d) (Classical.propDecidable _)
def ED {g d}(h:mZ g d):dU g d=true:=by unfold dU;exact @decide_eq_true _ (Classical.propDecidable _) h
def Zh {g d}(h:¬mZ g d):dU g d=false:=by unfold dU;exact @decide_eq_false _ (Classical.propDecidable _) h
def zxz {g:List Nd}{d:List Fc}(h:∀n∈g,oz g n d):WK g:=by
 intro n hn x hx
 rcases h n hn with⟨e,_⟩ |⟨_,_,_,_,_,_,_,h2⟩
 ·rw[e]at hx;cases hx
 ·obtain⟨k,hk,e⟩:=List.getElem_of_mem hx;have:=h2 k hk;rw[e]at this;unfold rG at this;have h1:¬x<0:=fun q=>this (.inl q);have h2:¬(g.length:Int)≤x:=fun q=>this (.inr (.inl q));omega
def zN9 {g:List Nd}(hw:WK g)(h0:0<g.length):(br g 0).length≤g.length:=
 (vX hw _ [] 0 ⟨List.nodup_nil,by simp⟩ ⟨Int.le_refl _,by omega⟩).1.len
def zy9 {g:List Nd}{d:List Fc}:(g.any fun n=>!xF g n d)=false↔∀n∈g,oz g n d:=by
 constructor
 ·intro h n hn;have:=List.any_eq_false.1 h n hn
  by_cases hp:oz g n d
  ·exact hp
  ·rw[zF9 hp]at this;simp at this
 ·intro h;refine List.any_eq_false.2 fun n hn=>?_;rw[XU (h n hn)];simp
def Li (u v:Bool)(g:List Nd)(d:List Fc)(hg:g.length≤1000000)(hd:d.length≤1000000)(hs:∀f∈d,f.name.size≤1000000000)(hN:∀n∈g,jE n):aM 208 [.agg [.fz 4 u (bQ g)],.agg [.fz 4 v (aN d)]] (.bool (dU g d)):=by
 refine aB.mk fun h nx R hR=>bf.ofLe fun hG=>aP zTw (sz:=57) (rs:=[.tmp 4]) ?_;have I5:∀g' ny,az nx h g'→mZ g d→R (.bool true) g' ny:=fun g' ny e hp=>hR _ _ _ e (Fz.eq rfl (by rw[ED hp]));have kM:∀g' ny,az nx h g'→¬mZ g d→R (.bool false) g' ny:=fun g' ny e hp=>hR _ _ _ e (Fz.eq rfl (by rw[Zh hp]));clear hR;have nr:=Is v d (by omega) hs;have z1:¬nx=nx+1:=by omega
 have z2:¬nx=nx+1+1:=by omega
 have pO:(bQ g).length=g.length:=by simp[bQ]
 cases kQ:dH d with
 |false=>
  simp[go_sem];refine aB.use nr ?_;simp[go_sem,aA,kQ];refine kM _ _ ?_ (fun q=>by rw[q.1]at kQ;cases kQ);simp(disch:=omega)only[aK,az.refl]
 |true=>
  by_cases h0:g.length=0
  ·simp[go_sem];refine aB.use nr ?_;simp[go_sem,aA,kQ,pO,h0];refine kM _ _ ?_ (fun q=>by have:=q.2.1;omega);simp(disch:=omega)only[aK,az.refl]
  by_cases h2:20000<g.length
  ·have zR:(20000:Int)<(g.length:Int):=(by omega);have h0I:¬(g.length:Int)=0:=(by omega);simp[go_sem];refine aB.use nr ?_;simp[go_sem,aA,kQ,pO,h0,zR];refine kM _ _ ?_ (fun q=>by have:=q.2.2.1;omega);simp(disch:=omega)only[aK,az.refl]
  have zR:¬(20000:Int)<(g.length:Int):=by omega
  have h0I:¬(g.length:Int)=0:=by omega
  have MY:=zHq u g 257 [.ip [.fz 4 u (bQ g)],.ip [.fz 4 v (aN d)]] (fun n=>!xF g n d) (by omega) (fun n hn=>by
   obtain⟨_,_,_,n4,n5⟩:=hN n hn;exact zJ6 u v g n d (by omega) (by omega) (by omega) (by omega))
  simp[go_sem];refine aB.use nr ?_;simp[go_sem,aA,kQ,pO,h0,zR];generalize Jb:(h.put nx (some (bx 92 [.fz 4 u (bQ g)] false 0))).put (nx+1) (some (bx 35 [.fz 4 v (aN d)] false 0))=h0;have E0:az nx h h0:=by rw[← Jb];simp(disch:=omega)only[aK];exact az.refl _ _
  have gb:h0.get nx=some (bx 92 [.fz 4 u (bQ g)] false 0):=by rw[← Jb];simp[go_sem]
  have ge:h0.get (nx+1)=some (bx 35 [.fz 4 v (aN d)] false 0):=by rw[← Jb];simp[go_sem]
  clear Jb;refine aB.useB uf MY rfl (.cons _ _ _ _ (Fz.same _ (by simp[plain,DL])) (.cons _ _ _ _ (.func 257 _ _ _ _ .nil (.cons _ _ _ _ (xp (t:=92) (opn:=false) (esz:=0) (by omega) gb (by simp[plain,bJ,DL])) (.cons _ _ _ _ (xp (t:=35) (opn:=false) (esz:=0) (by omega) ge (by simp[plain,bJ,DF])) .nil))) .nil)) ?_;cases Ae:(g.any fun n=>!xF g n d) with
  |true=>
   simp[go_sem,aA];exact kM _ _ E0 (fun q=>by rw[zy9.2 q.2.2.2.1]at Ae;cases Ae)
  |false=>
   have ik:=zy9.1 Ae;have hw:=zxz ik;have Da:=zN9 hw (by omega);have z3:¬nx=nx+2:=(by omega);simp[go_sem,aA,gb,z2];refine bF (fun mm st=>∃tm h' ax j O',st=.mk tm h' ax []∧mm=g.length-j∧j≤g.length∧tm.get 2=some (.ptr nx 0)∧tm.get 6=some (.ptr (nx+2) 0)∧tm.get 36=some (.fz 4 u (bQ g))∧tm.get 37=some (.int .i64 (g.length:Int))∧tm.get 38=some (.int .i64 (j:Int))∧h'.get nx=some (bx 92 [.fz 4 u (bQ g)] false 0)∧ke O' h' ax (nx+2) (g.take j)∧(∀k,O' k→nx+2≤k)∧nx+3≤ax∧az nx h h') ⟨g.length,_,_,_,0,fun k=>k=nx+2,rfl,by simp,by simp,?_⟩ ?_
   ·simp[go_sem];refine⟨by rw[if_neg z2];exact gb,⟨by simp,.sl0,.map0,by simp[go_sem],rfl,rfl,by omega,.inl ⟨rfl,rfl,rfl⟩⟩,?_⟩;simp(disch:=omega)only[aK];exact E0
   ·rintro mm st ⟨tm,h',ax,j,O',rfl,rfl,hj,t2,t6,t36,t37,t38,uI,hM,hO,ei,he⟩ J hJ
    refine bl ?_
    by_cases ay:j<g.length
    ·obtain⟨n,hn⟩:∃n,n=g[j]:=⟨_,rfl⟩;simp[go_sem,t6,t36,t37,t38,pO,ay,← hn,aI];have iC:n∈g:=by rw[hn];exact ah ay
     have uJ:∀(x y:Option ABlk),az ax h' ((h'.put ax x).put ax y):=fun x y=>by
      simp(disch:=omega)only[aK,az.refl]
     have AK:(g.take j).length=j:=by simp;omega
     refine Hx O' _ (ax+1) (nx+2) (g.take j) n (hM.ext (uJ _ _) (Nat.le_succ _)) (hN n iC) (by omega) _ fun O2 g2 n2 K M=>?_;obtain⟨k1,k2,k3⟩:=K;have E2:az nx h g2:=fun k hk=>by
      rw[k2 k (by omega) (fun q=>by have:=hO k q;omega),uJ _ _ k (by omega)];exact he k hk
     have zO:g2.get nx=some (bx 92 [.fz 4 u (bQ g)] false 0):=by
      rw[k2 nx (by omega) (fun q=>by have:=hO nx q;omega),uJ _ _ nx (by omega)];exact uI
     have dR:g.take (j+1)=g.take j++[n]:=by rw[hn];exact(List.take_append_getElem ay).symm
     by_cases ct:bV n∈(g.take j).map bV
     ·have jW:=zEp ct;have aT:¬mW (g.take j) n=j:=(by omega);have OP:¬(mW (g.take j) n:Int)=(j:Int):=(by omega);simp[go_sem,aA,OP];refine kM _ _ E2 fun q=>?_;have fH:=q.2.2.2.2.1;have o9:g.map bV=(g.take j).map bV++(g.drop j).map bV:=by rw[← List.map_append,List.take_append_drop]
      rw[o9]at fH;refine(List.nodup_append.1 fH).2.2 _ ct (bV n) ?_ rfl;rw[aj ay,← hn];exact aq
     ·have jW:=Tc ct;rw[AK]at jW;have NC:jB (g.take j) n=g.take (j+1):=by rw[dR];unfold jB;rw[if_neg ct]
      rw[NC]at M;simp[go_sem,aA,t38,jW];refine hJ (g.length-(j+1)) _ (by omega) ⟨_,_,_,j+1,O2,rfl,rfl,by omega,?_⟩;simp(disch:=omega) [go_sem,t2,t6,t36,t37,aS];exact⟨zO,M,fun k hk=>by
       rcases k3 k hk with q |q
       ·exact hO k q
       ·omega,by omega,E2⟩
    ·have yE:j=g.length:=(by omega);subst yE;rw[List.take_length]at hM;simp[go_sem,t6,t37,t38];have eO:∀n∈g,n.kids.length≤1000000:=fun n hn=>by have:=(hN n hn).2.2.2.2;omega
     have fH:=hM.1;refine bf.useE (Re _ g (nx+2) ax h' 0 hM.low (fun k hk=>hk.2) hw eO (by omega) ⟨by omega,by omega⟩) ?_;rw[if_neg (by omega)];have ij:(cV g 0).length=(br g 0).length:=by simp[cV]
     have Pa:=zPk false u (cV g 0) g (by omega) (fun a ha=>by
      obtain⟨i,_,rfl⟩:=List.mem_map.1 ha;have:∀x:Nat,(g.getD x ⟨0,[],[],false⟩).cuts.length≤1000000∧(g.getD x ⟨0,[],[],false⟩).kids.length≤1000000:=fun x=>by
       rw[ak]
       by_cases hx:x<g.length
       ·rw[aa hx];obtain⟨_,_,_,n4,n5⟩:=hN _ (ah hx);simp only[Option.getD_some];omega
       ·rw[List.getElem?_eq_none (by omega)];simp
      have:=this i.toNat;show (g.getD i.toNat ⟨0,[],[],false⟩).cuts.length≤1000000000∧((g.getD i.toNat ⟨0,[],[],false⟩).kids.map (cU (br g 0))).length≤1000000000;rw[List.length_map];omega)
     have z4:¬nx=ax:=(by omega);simp[go_sem,aA,t2,uI,z4,aI];refine aB.use Pa ?_;simp[go_sem,aA];have yl:∀(x y:Option ABlk),az nx h ((h'.put ax x).put ax y):=fun x y=>by
      simp(disch:=omega)only[aK,he]
     cases mO:nV (cV g 0) g with
     |true=>exact I5 _ _ (yl _ _) ⟨kQ,by omega,by omega,ik,fH,Tv.1 mO⟩
     |false=>exact kM _ _ (yl _ _) fun q=>by rw[Tv.2 q.2.2.2.2.2]at mO;cases mO
def yb {α:Type}{p:α→Bool}:∀{l:List α},(∃x∈l,p x=true)→∃j:Nat,bj p l=(j:Int)∧∃h:j<l.length,p l[j]=true
 |[],⟨x,hx,_⟩=>by cases hx
 |y::l,⟨x,hx,hp⟩=>by
  unfold bj
  by_cases hy:p y=true
  ·exact⟨0,by rw[if_pos hy];rfl,by simp,hy⟩
  ·have ow:x∈l:=by
    rcases List.mem_cons.1 hx with e |e
    ·subst e;exact absurd hp hy
    ·exact e
   obtain⟨j,h1,h2,h3⟩:=yb (l:=l) ⟨x,ow,hp⟩;refine⟨j+1,?_,by simp;omega,by simpa using h3⟩;rw[if_neg hy,if_neg (by omega),h1];omega
def Qu {α β:Type}{f:α→β}:∀{l:List α},(l.map f).Nodup→∀{i j:Nat}(hi:i<l.length)(hj:j<l.length),l[i]=l[j]→i=j
 |[],_,i,j,hi,_,_=>by simp at hi
 |x::l,h,i,j,hi,hj,e=>by
  rw[List.map_cons,List.nodup_cons]at h
  rcases i with _ |i <;> rcases j with _ |j
  ·rfl
  ·exfalso;simp only[List.getElem_cons_zero,List.getElem_cons_succ]at e;exact h.1 (List.mem_map.2 ⟨l[j]'(by simpa using hj),ah _,by rw[← e]⟩)
  ·exfalso;simp only[List.getElem_cons_zero,List.getElem_cons_succ]at e;exact h.1 (List.mem_map.2 ⟨l[i]'(by simpa using hi),ah _,by rw[e]⟩)
  ·simp only[List.getElem_cons_succ]at e;rw[Qu h.2 (by simpa using hi) (by simpa using hj) e]
def zEq {g:List Nd}{d:List Fc}{x:Int}(hp:∀n∈g,oz g n d)(h1:0≤x)(h2:x<(g.length:Int))(hb:iF g x=false):∃h:x.toNat<g.length,g[x.toNat]=⟨0,[],[],false⟩:=by
 have hl:x.toNat<g.length:=by omega
 refine⟨hl,?_⟩;unfold iF at hb;rw[aa hl]at hb;simp only at hb;have hm:=hp _ (ah hl);generalize g[x.toNat]=m at hb hm;obtain⟨f,c,k,lf⟩:=m;unfold oJ at hb;rw[Bool.or_eq_false_iff]at hb;obtain⟨b1,b2⟩:=hb;have hk:k=[]:=by simpa using b1
 subst hk;simp only at b2;subst b2
 rcases hm with⟨_,e1,e2⟩ |⟨e,_⟩
 ·simp only at e1 e2;subst e1;subst e2;rfl
 ·exact absurd rfl e
def Qz {g:List Nd}{d:List Fc}(hV:mZ g d)(hN:∀n∈g,jE n):zxl g d:=by
 obtain⟨v1,v2,v3,v4,v5,v6⟩:=hV;refine⟨v2,v1,fun a n ha hk=>?_⟩;have hn:n∈g:=List.mem_of_getElem? ha;have hNn:=hN n hn;have hw:=zxz v4
 rcases v4 n hn with⟨e,_⟩ |⟨_,p2,p3,p4,p5,p6,_,p8⟩
 ·exact absurd e hk
 have mL:∀(k:Nat) (hk:k<n.kids.length),0≤n.kids[k]∧n.kids[k]<(g.length:Int):=fun k hk=>hw n hn _ (ah hk);refine⟨n.fact.toNat,by omega,p6,p5,by have:=hNn.2.2.2.1;omega,fun x hx=>⟨x.toNat,by have:=hw n hn x hx;omega,by have:=hw n hn x hx;omega⟩,?_⟩;have hc:1≤n.cuts.length:=by
  rcases Nat.eq_zero_or_pos n.cuts.length with q |q
  ·exact absurd (au q) p4
  ·exact q
 have k0:0<n.kids.length:=by omega
 have k1:1<n.kids.length:=by omega
 have dZ:∃x∈n.kids,iF g x=true:=by
  by_cases g0:iF g n.kids[0]=true
  ·exact⟨_,ah k0,g0⟩
  by_cases g1:iF g n.kids[1]=true
  ·exact⟨_,ah k1,g1⟩
  exfalso;obtain⟨l0,e0⟩:=zEq v4 (mL 0 k0).1 (mL 0 k0).2 (by simpa using g0);obtain⟨l1,e1⟩:=zEq v4 (mL 1 k1).1 (mL 1 k1).2 (by simpa using g1);have:=Qu v5 l0 l1 (by rw[e0,e1]);have r0:=mL 0 k0;have r1:=mL 1 k1;refine p8 1 k1 (.inr (.inr (.inl ⟨by omega,?_⟩)));rw[ak,aa (by omega)];show n.kids[0]=n.kids[1];omega
 obtain⟨j,j1,j2,j3⟩:=yb dZ;have hr:=mL j j2;have ow:(n.kids[j]).toNat<g.length:=by omega
 refine⟨j,(n.kids[j]).toNat,g[(n.kids[j]).toNat],j1,j2,?_,aa ow,fun wO=>?_⟩
 ·rw[aa j2]
  congr 1
  omega
 ·have AR:=p8 j j2;unfold rG at AR;have:¬(g[(n.kids[j]).toNat]).fact≤n.fact:=fun q=>AR (.inr (.inr (.inr ⟨ow,wO,q⟩)));omega
def zSo (u v:Bool)(g:List Nd)(d:List Fc)(hg:g.length≤1000000)(hd:d.length≤1000000)(hs:∀f∈d,f.name.size≤1000000000)(hN:∀n∈g,jE n)(hV:mZ g d)(h:Tr ABlk) (nx:Nat)(R:AV→Tr ABlk→Nat→Prop)
  (hR:∀c g' ny,az nx h g'→nx≤ny→Hn nx ny g' (some c) (ff g (d.length+1) 0 (gN d)).2→(∃m,g[(ff g (d.length+1) 0 (gN d)).1]?=some m∧m.leaf=true)→R (.tup [c,.bool true]) g' ny)
  (fE:∀g' ny,az nx h g'→nx≤ny→(∃m,g[(ff g (d.length+1) 0 (gN d)).1]?=some m∧m.leaf=false)→R (.tup [.sl0,.bool false]) g' ny):di 150 [.agg [.fz 4 u (bQ g)],.agg [.fz 4 v (aN d)]] h nx R:=by
 have Fx:=Li u v g d hg hd hs hN;rw[ED hV]at Fx;exact zJh u v g d hg hd hs Fx (Qz hV hN) h nx R hR fE
end
section
open Go.Proofs Go.RowKit
structure HS where
 L:List Nd
 M:List ((Int×Int)×Int)
def HS.gs (H:HS):GS:=⟨H.L,[],false⟩
def ld (t:Int×Int):List ((Int×Int)×Int)→Option Int
 |[]=>none
 |(k,v)::l=>if t=k then some v else ld t l
def mX (t:Int×Int) (v:Int):List ((Int×Int)×Int)→List ((Int×Int)×Int)
 |[]=>[(t,v)]
 |(k,w)::l=>if t=k then (k,v)::l else (k,w)::mX t v l
def fR {T:Type}(g:Int→T→Int×T):List Int→T→List Int×T
 |[],S=>([],S)
 |v::l,S=>((g v S).1::(fR g l (g v S).2).1,(fR g l (g v S).2).2)
def zL8 {T:Type}(g:Int→T→Int×T) (v:Int)(l:List Int)(S:T):fR g (v::l) S=((g v S).1::(fR g l (g v S).2).1,(fR g l (g v S).2).2):=rfl
def ll (p q:Nd)(d:List Fc) (i:Int) (lo:Int):List Int:=fZ (dG (([lo]++(if bq p d=i then p.cuts else []))++(if bq q d=i then q.cuts else [])))
def vW (n:Nd)(H:HS):Int×HS:=((dp n H.gs).1,{ H with L:=(dp n H.gs).2.L })
def kK (i:Nat)(st ks:List Int)(H:HS):Int×HS:=((eT i st ks H.gs).1,{ H with L:=(eT i st ks H.gs).2.L })
def Ey (x y:Int):Int:=min x y
def jC (p q:Nd)(d:List Fc):Int:=Ey (bq p d) (bq q d)
def fD (a b:List Nd)(d:List Fc):Nat→Nat→Nat→HS→Int×HS
 |0,_,_,H=>(0,H)
 |k+1,x,y,H=>match ld ((x:Int),(y:Int)) H.M with
  |some v=>(v,H)
  |none=>
   let p:=a.getD x (cz false)
   let q:=b.getD y (cz false)
   let i:=jC p q d
   if i=(d.length:Int)∨20000<H.L.length then vW (cz (p.leaf && q.leaf)) H
   else
    let st:=ll p q d i (d.getD i.toNat ⟨.empty,0,0,0⟩).lo
    let r:=fR (fun v H=>fD a b d k (eR p x i v).toNat (eR q y i v).toNat H) st H
    let o:=kK i.toNat st r.1 r.2
    (o.1,{ o.2 with M:=mX ((x:Int),(y:Int)) o.1 o.2.M })
structure HI (H:HS):Prop where
 g:GI H.gs
 m:∀p∈H.M,0≤p.2∧p.2<(H.L.length:Int)
def qy (H H':HS):Prop:=∃t,H'.L=H.L++t
def qy.refl (H:HS):qy H H:=⟨[],by simp⟩
def qy.trans {A B C:HS}(h:qy A B)(k:qy B C):qy A C:=by
 obtain⟨t,e⟩:=h;obtain⟨u,e2⟩:=k;exact⟨t++u,by rw[e2,e,List.append_assoc]⟩
def qy.len {S S':HS}(h:qy S S'):S.L.length≤S'.L.length:=by
 obtain⟨t,e⟩:=h;rw[e];simp
def Z2 {t:Int×Int}{v:Int}:∀{D:List ((Int×Int)×Int)},ld t D=some v→(∃p∈D,p.2=v)
 |[],h=>by cases h
 |(k,w)::l,h=>by
  rw[ld]at h
  by_cases e:t=k
  ·rw[if_pos e]at h;cases h;exact⟨(k,v),aq,rfl⟩
  ·rw[if_neg e]at h;obtain⟨p,hp,e2⟩:=Z2 h;exact⟨p,an _ hp,e2⟩
def ZK {t:Int×Int}{v:Int}:∀{D:List ((Int×Int)×Int)}{p:(Int×Int)×Int},p∈mX t v D→p∈D∨p.2=v
 |[],p,h=>by
  simp[mX]at h;exact .inr (by rw[h])
 |(k,w)::l,p,h=>by
  rw[mX]at h
  by_cases e:t=k
  ·rw[if_pos e]at h
   rcases List.mem_cons.1 h with q |q
   ·exact .inr (by rw[q])
   ·exact .inl (an _ q)
  ·rw[if_neg e]at h
   rcases List.mem_cons.1 h with q |q
   ·exact .inl (by rw[q];exact aq)
   ·rcases ZK q with q |q
    ·exact .inl (an _ q)
    ·exact .inr q
def HI.up {H:HS}{L':List Nd}(h:HI H)(g:GI ⟨L',[],false⟩)(hl:∃t,L'=H.L++t):HI { H with L:=L' }:=by
 refine⟨g,fun p hp=>?_⟩;have:=h.m p hp;obtain⟨t,rfl⟩:=hl;simp;omega
def zHt {H:HS}{n:Nd}(h:HI H)(hn:Rx n H.L):HI (vW n H).2∧(0≤(vW n H).1∧(vW n H).1<((vW n H).2.L.length:Int))∧qy H (vW n H).2∧inn (vW n H).2.L≤inn H.L+(if n.kids=[] then 0 else 1):=by
 obtain⟨a1,a2,a3,a4⟩:=Eo (S:=H.gs) (n:=n) h.g hn;exact⟨h.up ⟨a1.nd,a1.wk,a1.ni,a1.lf,by simp⟩ a3.pre,a2,a3.pre,a4⟩
def zT4 {H:HS}{i:Nat}{st ks:List Int}(h:HI H)(hi:i≤1000)(aU:∀a∈st,dh a)(mM:∀a∈ks,0≤a∧a<(H.L.length:Int))(aT:ks≠[])(hlen:ks.length≤90000)(hL:H.L.length≤1000000):
  HI (kK i st ks H).2∧(0≤(kK i st ks H).1∧(kK i st ks H).1<((kK i st ks H).2.L.length:Int))∧qy H (kK i st ks H).2∧inn (kK i st ks H).2.L≤inn H.L+1:=by
 obtain⟨a1,a2,a3,a4⟩:=YD (S:=H.gs) (i:=i) (st:=st) (ks:=ks) h.g hi aU mM aT hlen hL;exact⟨h.up ⟨a1.nd,a1.wk,a1.ni,a1.lf,by simp⟩ a3.pre,a2,a3.pre,a4⟩
def zxx {g:Int→HS→Int×HS}{B:Nat}(hg:∀v S,HI S→inn S.L≤B→HI (g v S).2∧(0≤(g v S).1∧(g v S).1<((g v S).2.L.length:Int))∧qy S (g v S).2∧inn (g v S).2.L≤B):∀(l:List Int)(S:HS),HI S→inn S.L≤B→
  HI (fR g l S).2∧(∀a∈(fR g l S).1,0≤a∧a<((fR g l S).2.L.length:Int))∧qy S (fR g l S).2∧inn (fR g l S).2.L≤B∧(fR g l S).1.length=l.length
 |[],S,h,hb=>⟨h,by simp[fR],.refl S,hb,rfl⟩
 |v::l,S,h,hb=>by
  obtain⟨a1,a2,a3,a4⟩:=hg v S h hb;obtain⟨b1,b2,b3,b4,b5⟩:=zxx hg l (g v S).2 a1 a4;have:=b3.len;refine⟨b1,fun a ha=>?_,a3.trans b3,b4,by simp[fR,b5]⟩
  rcases List.mem_cons.1 ha with q |q
  ·subst q;simp only[fR];omega
  ·exact b2 a q
structure DgOk (a:List Nd)(d:List Fc):Prop where
 pr:∀n∈a,oz a n d
 ni:∀n∈a,jE n
 cu:∀n∈a,n.cuts.length≤40000
 ln:a.length≤1000000
def EA {n:Nd}{d:List Fc}(h:n.kids=[]):bq n d=(d.length:Int):=by rw[bq,if_pos h]
def Ex {a:List Nd}{d:List Fc}(h:DgOk a d){n:Nd}(hn:n∈a):0≤bq n d∧bq n d≤(d.length:Int)∧(¬n.kids=[]→bq n d=n.fact∧bq n d<(d.length:Int)∧n.kids.length=n.cuts.length+1):=by
 by_cases hk:n.kids=[]
 ·rw[EA hk];exact⟨by omega,by omega,fun q=>absurd hk q⟩
 ·rw[bq,if_neg hk]
  rcases h.pr n hn with⟨e,_⟩ |⟨_,_,p3,_,p5,p6,_⟩
  ·exact absurd e hk
  ·exact⟨p3,by omega,fun _=>⟨rfl,by omega,p5⟩⟩
def Cq {a:List Nd}{d:List Fc}(h:DgOk a d){x:Nat}(hx:x<a.length) (i v:Int)(hi:i≤bq a[x] d)(hid:i<(d.length:Int)):0≤eR a[x] x i v∧∃hs:(eR a[x] x i v).toNat<a.length,i+1≤bq (a[(eR a[x] x i v).toNat]) d:=by
 have hm:a[x]∈a:=ah hx;obtain⟨k1,k2,k3⟩:=Ex h hm;unfold eR
 by_cases hc:¬(a[x]).kids=[]∧(a[x]).fact=i
 ·rw[if_pos hc];obtain⟨q1,q2,q3⟩:=k3 hc.1;obtain⟨k,e1,e2⟩:=Mu (v:=v) q3;rw[e1,Int.toNat_natCast,ak,aa e2,Option.getD_some]
  rcases h.pr _ hm with⟨e,_⟩ |⟨_,_,p3,_,p5,p6,_,p8⟩
  ·exact absurd e hc.1
  ·have p9:=p8 k e2;generalize hz:(a[x]).kids[k]=z at p9;unfold rG at p9;have n1:¬z<0:=fun q=>p9 (.inl q);have n2:¬(a.length:Int)≤z:=fun q=>p9 (.inr (.inl q));have w6:z.toNat<a.length:=(by omega);refine⟨by omega,w6,?_⟩
   by_cases hk:(a[z.toNat]).kids=[]
   ·rw[EA hk];omega
   ·have n3:¬(a[z.toNat]).fact≤(a[x]).fact:=fun q=>p9 (.inr (.inr (.inr ⟨w6,hk,q⟩)));rw[bq,if_neg hk];omega
 ·rw[if_neg hc];refine⟨by omega,by simpa using hx,?_⟩;simp only[Int.toNat_natCast]
  by_cases hk:(a[x]).kids=[]
  ·rw[EA hk];omega
  ·obtain⟨q1,q2,q3⟩:=k3 hk;have:¬(a[x]).fact=i:=fun q=>hc ⟨hk,q⟩;omega
def Qn (p q:Nd)(d:List Fc) (i lo:Int):ll p q d i lo≠[]:=by
 apply zys;have h2:lo∈dG (([lo]++(if bq p d=i then p.cuts else []))++(if bq q d=i then q.cuts else [])):=by
  unfold dG;exact List.mem_mergeSort.2 (by simp)
 exact List.ne_nil_of_mem h2
def zyd {p q:Nd}{d:List Fc}{i lo y:Int}(h:y∈ll p q d i lo):y=lo∨y∈p.cuts∨y∈q.cuts:=by
 have h1:=zz9 h;unfold dG at h1;have h2:=List.mem_mergeSort.1 h1
 rcases List.mem_append.1 h2 with h3 |h3
 ·rcases List.mem_append.1 h3 with h4 |h4
  ·simp at h4;exact .inl h4
  ·split at h4
   ·exact .inr (.inl h4)
   ·cases h4
 ·split at h3
  ·exact .inr (.inr h3)
  ·cases h3
def Z4 (p q:Nd)(d:List Fc) (i lo:Int):(ll p q d i lo).length≤1+p.cuts.length+q.cuts.length:=by
 have h1:=Ty (dG (([lo]++(if bq p d=i then p.cuts else []))++(if bq q d=i then q.cuts else [])));rw[Ie]at h1;unfold ll;refine Nat.le_trans h1 ?_;simp only[List.length_append,List.length_cons,List.length_nil];split <;> split <;> simp <;> omega
def x9 {a b:List Nd}{d:List Fc}(ha:DgOk a d)(hb:DgOk b d){p q:Nd}(hp:p∈a)(hq:q∈b):0≤jC p q d∧jC p q d≤(d.length:Int)∧jC p q d≤bq p d∧jC p q d≤bq q d:=by
 obtain⟨a1,a2,_⟩:=Ex ha hp;obtain⟨b1,b2,_⟩:=Ex hb hq;unfold jC Ey;omega
def vY {a:List Nd}{x:Nat}(hx:x<a.length):a.getD x (cz false)=a[x]:=by
 rw[ak,aa hx,Option.getD_some]
def It (a b:List Nd)(d:List Fc)(hd:d.length≤1000)(hv:∀x∈d,x.lo≤x.hi∧dh x.lo∧dh x.hi)(ha:DgOk a d)(hb:DgOk b d):∀(k x y:Nat)(H:HS)(hx:x<a.length)(hy:y<b.length),(d.length:Int)+1≤k+jC a[x] b[y] d→k≤d.length+1→HI H→inn H.L≤20000+d.length+1→
  HI (fD a b d k x y H).2∧(0≤(fD a b d k x y H).1∧(fD a b d k x y H).1<((fD a b d k x y H).2.L.length:Int))∧qy H (fD a b d k x y H).2∧inn (fD a b d k x y H).2.L≤max (inn H.L) (20000+k)
 |0,x,y,H,hx,hy,hk,_,_,_=>by
  have:=(x9 ha hb (ah hx) (ah hy)).2.1;omega
 |k+1,x,y,H,hx,hy,hk,dK,h,ct=>by
  rw[fD];cases hg:ld ((x:Int),(y:Int)) H.M with
  |some v=>
   obtain⟨p,hp,e3⟩:=Z2 hg;have:=h.m p hp;simp only;exact⟨h,by rw[← e3];exact this,.refl H,by omega⟩
  |none=>
   simp only;rw[vY hx,vY hy];obtain⟨i1,i2,i3,i4⟩:=x9 ha hb (ah hx) (ah hy);generalize hi:jC a[x] b[y] d=i at i1 i2 i3 i4 hk
   by_cases hc:i=(d.length:Int)∨20000<H.L.length
   ·rw[if_pos hc];obtain⟨a1,a2,a3,a4⟩:=zHt h (En (a[x].leaf && b[y].leaf) H.L);exact⟨a1,a2,a3,by rw[if_pos (by rfl)]at a4;omega⟩
   ·rw[if_neg hc];have kp:i.toNat<d.length:=by omega
    have CU:H.L.length≤20000:=(by omega);have Gb:inn H.L≤20000:=Nat.le_trans (List.length_filter_le _ _) CU;obtain⟨f,hf⟩:∃f,f=d.getD i.toNat ⟨.empty,0,0,0⟩:=⟨_,rfl⟩;have Au:f∈d:=by
     rw[hf,ak,aa kp];exact ah kp
    obtain⟨v1,v2,v3⟩:=hv f Au;rw[← hf];have aU:∀y'∈ll a[x] b[y] d i f.lo,dh y':=fun y' Jv=>by
     rcases zyd Jv with e |e |e
     ·rw[e];exact v2
     ·exact(ha.ni _ (ah hx)).2.1 _ e
     ·exact(hb.ni _ (ah hy)).2.1 _ e
    have lI:=Z4 a[x] b[y] d i f.lo;have mK:=ha.cu _ (ah hx);have lB:=hb.cu _ (ah hy);obtain⟨b1,b2,b3,b4,b5⟩:=zxx (g:=fun v H=>fD a b d k (eR a[x] x i v).toNat (eR b[y] y i v).toNat H) (B:=20000+k) (fun v S hS hSb=>by
     obtain⟨s1,s2,s3⟩:=Cq ha hx i v i3 (by omega);obtain⟨t1,t2,t3⟩:=Cq hb hy i v i4 (by omega);have nI:i+1≤jC (a[(eR a[x] x i v).toNat]) (b[(eR b[y] y i v).toNat]) d:=by
      unfold jC Ey;omega
     obtain⟨a1,a2,a3,a4⟩:=It a b d hd hv ha hb k _ _ S s2 t2 (by omega) (by omega) hS (by omega);exact⟨a1,a2,a3,by omega⟩) (ll a[x] b[y] d i f.lo) H h (by omega)
    have hl:=b3.len;have pO:(fR (fun v H=>fD a b d k (eR a[x] x i v).toNat (eR b[y] y i v).toNat H) (ll a[x] b[y] d i f.lo) H).2.L.length≤inn (fR (fun v H=>fD a b d k (eR a[x] x i v).toNat (eR b[y] y i v).toNat H) (ll a[x] b[y] d i f.lo) H).2.L+2:=b1.g.len;obtain⟨c1,c2,c3,c4⟩:=zT4 (i:=i.toNat) (st:=ll a[x] b[y] d i f.lo) b1 (by omega) aU b2 (fun q=>by rw[q]at b5;simp at b5;exact Qn _ _ _ _ _ (au b5.symm)) (by omega) (by omega);refine⟨⟨c1.g,?_⟩,c2,b3.trans c3,?_⟩
    ·intro p hp
     rcases ZK hp with q |q
     ·exact c1.m p q
     ·rw[q];exact c2
    ·refine Nat.le_trans c4 ?_;omega
end
section
open Go.Proofs Go.RowKit
attribute [-go_sem] dN bX fC jg
def zSz:cx.ft.get 209=some Tryz.f209:=aO
def Pt (k:Int×Int):AV:=.agg [.int .i64 k.1,.int .i64 k.2]
def mI:List ((Int×Int)×Int)→Nat→List (AV×AV×Nat)
 |[],_=>[]
 |(t,v)::l,n=>(Pt t,.int .i64 v,n)::mI l (n+1)
def yX (t:Int×Int):List ((Int×Int)×Int)→Nat→Option (Nat×AV)
 |[],_=>none
 |(k,v)::l,i=>if t=k then some (i,.int .i64 v) else yX t l (i+1)
def Za (t:Int×Int):∀(l:List ((Int×Int)×Int)) (n:Nat),sk (.agg [.int .i64 t.1,.int .i64 t.2]) (mI l n) n=some (yX t l n)
 |[],n=>rfl
 |(k,v)::l,n=>by
  rw[mI,sk,yX]
  by_cases e:t=k
  ·subst e;simp[ry,Pt]
  ·have:¬(t.1=k.1∧t.2=k.2):=fun q=>e (Prod.ext q.1 q.2);simp only[ry,Pt,decide_eq_false this];rw[if_neg e];exact Za t l (n+1)
@[go_sem] theorem zZi (x y:Int)(l:List ((Int×Int)×Int)):sk (.agg [.int .i64 x,.int .i64 y]) (mI l 0) 0=some (yX (x,y) l 0):=Za (x,y) l 0
def Kl {t:Int×Int}:∀{l:List ((Int×Int)×Int)}(n:Nat),ld t l=none→yX t l n=none
 |[],_,_=>rfl
 |(k,v)::l,n,h=>by
  rw[ld]at h;rw[yX]
  by_cases e:t=k
  ·rw[if_pos e]at h;cases h
  ·rw[if_neg e]at h ⊢;exact Kl (n+1) h
def Lj {t:Int×Int}{v:Int}:∀{l:List ((Int×Int)×Int)}(n:Nat),ld t l=some v→∃j,yX t l n=some (n+j,.int .i64 v)∧j<l.length∧∀(w:Int) (m:Nat),(mI l m).modify j (fun e=>match e with |(_,_,n)=>(.agg [.int .i64 t.1,.int .i64 t.2],.int .i64 w,n))=mI (mX t w l) m
 |[],_,h=>by cases h
 |(k,u)::l,n,h=>by
  rw[ld]at h;rw[yX]
  by_cases e:t=k
  ·rw[if_pos e]at h ⊢;cases h;refine⟨0,rfl,by simp,fun w m=>?_⟩;rw[mX,if_pos e,mI,mI,← e];rfl
  ·rw[if_neg e]at h ⊢;obtain⟨j,h1,h2,h3⟩:=Lj (n+1) h;refine⟨j+1,by rw[h1,show n+1+j=n+(j+1) by omega],by simp;omega,fun w m=>?_⟩;rw[mX,if_neg e,mI,mI,← h3 w (m+1)];rfl
def Rq {t:Int×Int}{w:Int}:∀{l:List ((Int×Int)×Int)},ld t l=none→mX t w l=l++[(t,w)]
 |[],_=>rfl
 |(k,v)::l,h=>by
  rw[ld]at h;rw[mX]
  by_cases e:t=k
  ·rw[if_pos e]at h;cases h
  ·rw[if_neg e]at h ⊢;rw[Rq h];rfl
def Sk (t:Int×Int) (w:Int):∀(l:List ((Int×Int)×Int)) (n:Nat),mI (l++[(t,w)]) n=mI l n++[(.agg [.int .i64 t.1,.int .i64 t.2],.int .i64 w,n+l.length)]
 |[],n=>rfl
 |(k,v)::l,n=>by
  rw[List.cons_append,mI,mI,Sk t w l (n+1)];simp;omega
def Sb {t:Int×Int}{w:Int}:∀{l:List ((Int×Int)×Int)}{v:Int},ld t l=some v→(mX t w l).length=l.length
 |[],_,h=>by cases h
 |(k,u)::l,v,h=>by
  rw[ld]at h;rw[mX]
  by_cases e:t=k
  ·rw[if_pos e];rfl
  ·rw[if_neg e]at h ⊢;simp[Sb h]
def R9 (e b:Nat):AV:=.func 209 [] [.ptr (b+3) 0,.ptr e 0,.ptr (e+1) 0,.ptr (e+2) 0,.ptr (b+1) 0,.ptr (b+4) 0]
structure jR (O:Nat→Prop) (e b:Nat)(u v w:Bool)(x y:List Nd)(d:List Fc)(H:HS)(h:Tr ABlk) (nx:Nat):Prop where
 le:e+3≤b
 lb:b+5≤nx
 hO:∀k,O k→k=b∨b+5≤k
 gx:h.get e=some (bx 92 [.fz 4 u (bQ x)] false 0)
 gy:h.get (e+1)=some (bx 92 [.fz 4 v (bQ y)] false 0)
 gd:h.get (e+2)=some (bx 35 [.fz 4 w (aN d)] false 0)
 gm:h.get (b+1)=some (bx 182 [.ptr b 0] false 0)
 gM:h.get (b+2)=some (.map (mI H.M 0) H.M.length)
 gv:h.get (b+3)=some (bx 236 [.map (b+2)] false 0)
 gg:h.get (b+4)=some (bx 199 [R9 e b] false 0)
 mkS:ke O h nx b H.L
def KH (O:Nat→Prop) (b:Nat)(h:Tr ABlk) (nx:Nat)(O':Nat→Prop)(g:Tr ABlk) (ny:Nat):Prop:=nx≤ny∧(∀k,k<nx→¬O k→k≠b+2→g.get k=h.get k)∧∀k,O' k→O k∨nx≤k
section
variable {O O' O1 O2 : Nat → Prop} {e b q : Nat} {u v w : Bool} {x y : List Nd} {d : List Fc} {H : HS} {h g f : Tr ABlk} {nx ny n1 n2 : Nat}
def jR.ext (G:jR O e b u v w x y d H h nx)(x':az nx h g)(hn:nx≤ny):jR O e b u v w x y d H g ny:=by
 obtain⟨le,lb,hO,gx,gy,gd,gm,gM,gv,gg,mk⟩:=G;refine⟨le,by omega,hO,?_,?_,?_,?_,?_,?_,?_,mk.ext x' hn⟩
 all_goals (rw[x' _ (by omega)];assumption)
def jR.node {L':List Nd}(G:jR O e b u v w x y d H h nx)(K:ew O h nx O' g ny)(m:ke O' g ny b L'):jR O' e b u v w x y d { H with L:=L' } g ny:=by
 obtain⟨le,lb,hO,gx,gy,gd,gm,gM,gv,gg,mk⟩:=G;obtain⟨k1,k2,k3⟩:=K;have hn:∀k,O k→k=b∨b+5≤k:=hO;refine⟨le,by omega,fun k hk=>?_,?_,?_,?_,?_,?_,?_,?_,m⟩
 ·rcases k3 k hk with q |q
  ·exact hO k q
  ·exact .inr (by omega)
 all_goals (rw[k2 _ (by omega) (fun q=>by have:=hn _ q;omega)];assumption)
def jR.setM (G:jR O e b u v w x y d H h nx)(M':List ((Int×Int)×Int)):jR O e b u v w x y d { H with M:=M' } (h.put (b+2) (some (.map (mI M' 0) M'.length))) nx:=by
 obtain⟨le,lb,hO,gx,gy,gd,gm,gM,gv,gg,mk⟩:=G;refine⟨le,lb,hO,?_,?_,?_,?_,by simp[go_sem],?_,?_,mk.mono (fun _ q=>q) (fun k hk q=>by have:=hO k q;rw[Tr.get_put,if_neg (by omega)]) (ae _)⟩
 all_goals (rw[Tr.get_put,if_neg (by omega)];assumption)
def jR.but (G:jR O e b u v w x y d H h nx)(hq:b+5≤q)(hO:¬O q)(x':∀k,k<nx→k≠q→g.get k=h.get k)(hn:nx≤ny):jR O e b u v w x y d H g ny:=by
 obtain⟨le,lb,hO,gx,gy,gd,gm,gM,gv,gg,mk⟩:=G;refine⟨le,by omega,hO,?_,?_,?_,?_,?_,?_,?_,mk.mono (fun _ q=>q) (fun k hk dK=>x' k hk (fun e2=>by subst e2;contradiction)) hn⟩
 all_goals (rw[x' _ (by omega) (by omega)];assumption)
def jR.low (G:jR O e b u v w x y d H h nx):jR (fun k=>O k∧k<nx) e b u v w x y d H h nx:=by
 obtain⟨le,lb,hO,gx,gy,gd,gm,gM,gv,gg,mk⟩:=G;exact⟨le,lb,fun k hk=>hO k hk.1,gx,gy,gd,gm,gM,gv,gg,mk.low⟩
def KH.trans (x:KH O b h nx O1 g n1)(y:KH O1 b g n1 O2 f n2):KH O b h nx O2 f n2:=by
 obtain⟨a1,a2,a3⟩:=x;obtain⟨b1,b2,b3⟩:=y;refine⟨by omega,fun k k1 k2 k3=>?_,fun k hk=>?_⟩
 ·rw[b2 k (by omega) (fun q=>by rcases a3 k q with r |r;exact k2 r;omega) k3,a2 k k1 k2 k3]
 ·rcases b3 k hk with q |q
  ·exact a3 k q
  ·exact .inr (by omega)
def KH.ofExt (x:az nx h g)(hn:nx≤ny):KH O b h nx O g ny:=⟨hn,fun k hk _ _=>x k hk,fun _ h=>.inl h⟩
def KH.ofKept (K:ew O h nx O' g ny):KH O b h nx O' g ny:=⟨K.1,fun k hk ho _=>K.2.1 k hk ho,K.2.2⟩
def KH.setM (B:Option ABlk):KH O b h nx O (h.put (b+2) B) nx:=⟨ae _,fun k _ _ h4=>by rw[Tr.get_put,if_neg h4],fun _ h=>.inl h⟩
def KH.low (K:KH O b h nx O' g ny):KH O b h nx (fun k=>O' k∧k<ny) g ny:=⟨K.1,K.2.1,fun k hk=>K.2.2 k hk.1⟩
def KH.up (K:KH (fun k=>O k∧k<nx) b h nx O' g ny):KH O b h nx O' g ny:=⟨K.1,fun k h1 h2=>K.2.1 k h1 (fun q=>h2 q.1),fun k hk=>by rcases K.2.2 k hk with q |q;exact .inl q.1;exact .inr q⟩
def KH.but (K:KH O b h nx O1 g n1)(hq:nx≤q)(x:∀k,k<n1→k≠q→f.get k=g.get k)(hn:n1≤n2):KH O b h nx O1 f n2:=by
 obtain⟨a1,a2,a3⟩:=K;exact⟨by omega,fun k k1 k2 k3=>by rw[x k (by omega) (by omega),a2 k k1 k2 k3],a3⟩
def jR.all (G:jR O e b u v w x y d H h nx):∃a c,h.get b=some (bx 187 [a,c] false 0)∧((H.L.length=0∧a=.sl0)∨∃q,a=.sl q 0 H.L.length 0 true):=by
 obtain⟨_,a,c,h1,h2⟩:=G.mkS;refine⟨a,c,h1,?_⟩
 rcases h2.2.2.2 with⟨q1,q2,q3⟩ |⟨q1,m,q,_,_,_,_,_,_,_,_,_,q2,_⟩
 ·exact .inl ⟨by rw[q1];rfl,q2⟩
 ·exact .inr ⟨q,q2⟩
end
def R6 (a b:List Nd)(d:List Fc) (e bb k x y:Nat)(u v w:Bool)(H:HS)(O:Nat→Prop)(h:Tr ABlk) (nx:Nat)(R:AV→Tr ABlk→Nat→Prop):Prop:=
 ∀O' g ny,KH O bb h nx O' g ny→jR O' e bb u v w a b d (fD a b d k x y H).2 g ny→R (.int .i64 (fD a b d k x y H).1) g ny
def Ss (x y e b:Nat):List AV:=[.int .i64 (x:Int),.int .i64 (y:Int),.ptr (b+3) 0,.ptr e 0,.ptr (e+1) 0,.ptr (e+2) 0,.ptr (b+1) 0,.ptr (b+4) 0]
def zR9 {P:Program}{c:Cx}{inr:Bool}{sz:Nat}{code:Code}{Q:AX→AS→Prop}{s1 s2:AS}(S:AS→Prop)(h1:S s1)(h2:S s2)(h:∀s,S s→AW P c inr sz code Q s):AW P c inr sz code Q s1∧AW P c inr sz code Q s2:=⟨h _ h1,h _ h2⟩
def zya (l m:List Int):aG l++aG m=aG (l++m):=by simp[aG]
def LsI (lo no:Nat)(h:Tr ABlk) (n:Nat)(v:AV)(cs:List Int):Prop:=∃q cp o o2 e2,lo≤q∧q<n∧q≠no∧v=.sl q 0 cs.length cp o∧h.get q=some (bx 3 (aG cs) o2 e2)∧((cp=cs.length∧o=false)∨(cp=0∧o=true∧o2=true∧e2=1))
def zG7 (a b:List Nd)(d:List Fc)(hd:d.length≤1000)(hv:∀x∈d,x.lo≤x.hi∧dh x.lo∧dh x.hi)(ha:DgOk a d)(hb:DgOk b d)(u v w:Bool) (e bb:Nat):∀(k x y:Nat)(H:HS)(O:Nat→Prop)(h:Tr ABlk) (nx:Nat)(R:AV→Tr ABlk→Nat→Prop)(hx:x<a.length)(hy:y<b.length),(d.length:Int)+1≤k+jC a[x] b[y] d→k≤d.length+1→HI H→inn H.L≤20000+d.length+1→
  jR O e bb u v w a b d H h nx→R6 a b d e bb k x y u v w H O h nx R→di 209 (Ss x y e bb) h nx R:=by
 intro k
 induction k with
 |zero=>
  intro x y H O h nx R hx hy hk;have:=(x9 ha hb (ah hx) (ah hy)).2.1;omega
 |succ k ih=>
  intro x y H O h nx R hx hy hk dK hH ct kN UQ;have hS:=kN.low;have hR:R6 a b d e bb (k+1) x y u v w H (fun k=>O k∧k<nx) h nx R:=fun O' g ny K G=>UQ O' g ny K.up G;obtain⟨O1,uM⟩:∃O1:Nat→Prop,O1=fun k=>O k∧k<nx:=⟨_,rfl⟩;have CV:∀k,O1 k→k<nx:=by rw[uM];exact fun k q=>q.2
  rw[← uM]at hS hR;clear uM;clear kN UQ;unfold R6 at hR;rw[fD]at hR;have uZ:=hS.lb;have hle:=hS.le;have gm:=hS.gm;have gM:=hS.gM;have gv:=hS.gv;have gx:=hS.gx;have gy:=hS.gy;have gd:=hS.gd;have hHl:H.L.length≤inn H.L+2:=hH.g.len;refine zaa (sz:=135) (rs:=[.tmp 10]) iQ zSz rfl rfl rfl (by simp[Ss]) ?_;unfold Ss;cases hg:ld ((x:Int),(y:Int)) H.M with
  |some val=>
   obtain⟨j,f1,f2,f3⟩:=Lj 0 hg;simp[go_sem,gv,gM,f1,bX,aI];rw[hg]at hR;exact hR O1 _ nx (KH.ofExt (az.refl _ _) (ae _)) hS
  |none=>
   have f1:=Kl 0 hg;simp[go_sem,gv,gM,f1,bX,aI];rw[hg]at hR;simp only[vY hx,vY hy]at hR;obtain⟨i1,i2,i3,i4⟩:=x9 ha hb (ah hx) (ah hy);obtain⟨p,hp⟩:∃p,p=a[x]:=⟨_,rfl⟩;obtain⟨q,hq⟩:∃q,q=b[y]:=⟨_,rfl⟩;rw[← hp,← hq]at hR i1 i2 i3 i4 hk;refine Zj mixed iQ xh 10 [10,11,12,13] [] [(1,10),(1,11),(4,10),(4,11),(6,10),(6,11),(6,12),(9,10),(9,11),(9,12)] (by kernel_rfl) (by kernel_rfl) (by kernel_rfl) ?_;have n1:¬e=nx:=(by omega);have n2:¬e=nx+1:=(by omega);have n3:¬e+1=nx:=(by omega);have n4:¬e+1=nx+1:=(by omega);simp[go_sem,gx,gy,hx,hy,← hp,← hq,n1,n2,n3]
   refine zR9 (fun s=>∃tm M p1 p2,s=.mk tm M (nx+2) []∧nx≤p1∧p1<nx+2∧nx≤p2∧p2<nx+2∧p1≠p2∧az nx h M∧M.get p1=some (bx 154 p.cs false 0)∧M.get p2=some (bx 154 q.cs false 0)∧tm.get 0=some (.int .i64 (x:Int))∧tm.get 1=some (.int .i64 (y:Int))∧tm.get 2=some (.ptr (bb+3) 0)∧tm.get 3=some (.ptr e 0)∧tm.get 4=some (.ptr (e+1) 0)∧tm.get 5=some (.ptr (e+2) 0)∧tm.get 6=some (.ptr (bb+1) 0)∧tm.get 7=some (.ptr (bb+4) 0)∧tm.get 13=some (.ptr p1 0)∧tm.get 14=some (.ptr p2 0)) ⟨_,_,nx,nx+1,rfl,by omega,by omega,by omega,by omega,by omega,?_,?_⟩ ⟨_,_,nx+1,nx,rfl,by omega,by omega,by omega,by omega,by omega,?_,?_⟩ ?_
   ·simp(disch:=omega)only[aK,az.refl]
   ·simp[go_sem]
   ·simp(disch:=omega)only[aK,az.refl]
   ·simp[go_sem]
   ·rintro s ⟨tm,M,p1,p2,rfl,p1a,p1b,p2a,p2b,p12,hE,gp,gq,t0,t1,t2,t3,t4,t5,t6,t7,t13,t14⟩
    clear gm gM gv gx gy gd;have hS:=hS.ext hE (show nx≤nx+2 by omega);have CT:KH O1 bb h nx O1 M (nx+2):=KH.ofExt hE (by omega);have gm:=hS.gm;have gx:=hS.gx;have gy:=hS.gy;have gd:=hS.gd;obtain⟨ma,mc,gb,hA⟩:=hS.all;refine eI [] [2,5] [] ?_;simp[go_sem,gp,gd,t5,t13];refine dV (Ri p w d) ?_;simp[go_sem,cW,gq,gd,t5,t14];refine dV (Ri q w d) ?_;simp[go_sem,gd,t5];have nI:min (bq p d) (bq q d)=jC p q d:=rfl;rw[nI];generalize hi:jC p q d=i at i1 i2 i3 i4 hR hk;have qG:∀(e:TypeId) (size b:Nat) (z:Option AV) (fs:List (Nat×Nat×Bool)) (g:Tr ABlk) (n:Nat),k8 (.mk (.slice e) size b z fs) ma g n=.val (.int .i64 (H.L.length:Int)) g n:=by
     intro e' size b' z fs g n
     rcases hA with⟨h0,ha⟩ |⟨q,ha⟩
     ·rw[ha,Cp,h0];rfl
     ·rw[ha,H9]
    clear hA;have C7:(aN d).length=d.length:=by simp[aN]
    have VM:p.cs[3]?=some (.bool p.leaf):=by cases p;rfl
    have ql3:q.cs[3]?=some (.bool q.leaf):=by cases q;rfl
    have rp:∀hh,p.cs[3]'hh=.bool p.leaf:=by cases p;intro hh;rfl
    have G9:∀hh,q.cs[3]'hh=.bool q.leaf:=by cases q;intro hh;rfl
    by_cases hc:i=(d.length:Int)∨20000<H.L.length
    ·rw[if_pos hc]at hR;have fp:di 139 [.ptr bb 0,.agg [.int .i64 0,.sl0,.sl0,.bool (p.leaf && q.leaf)]] M (nx+2) fun v g ny=>R v g ny:=by
      refine bf.wk (Sr bb (p.leaf && q.leaf)) ?_;refine Hx O1 _ _ bb H.L (cz (p.leaf && q.leaf)) hS.mkS (SK _) (by omega) _ fun O' g' ny K Mk=>?_;exact hR O' g' ny (CT.trans (KH.ofKept K)) (hS.node K Mk)
     cases pl:p.leaf with
     |true=>
      rw[pl]at fp VM rp;simp only[Bool.true_and]at fp
      by_cases hid:i=(d.length:Int)
      ·skip
       simp[go_sem,t6,t13,t14,gm,gp,gq,hid,rp,G9,aI];refine fp.mono fun v g ny hh=>?_;simp[go_sem,aA];exact hh
      ·skip
       have dY:20000<H.L.length:=(by omega);have dq:(20000:Int)<(H.L.length:Int):=(by omega);simp[go_sem,t6,t13,t14,gm,gb,gp,gq,hid,qG,dq,rp,G9,aI];refine fp.mono fun v g ny hh=>?_;simp[go_sem,aA];exact hh
     |false=>
      rw[pl]at fp VM rp;simp only[Bool.false_and]at fp
      by_cases hid:i=(d.length:Int)
      ·skip
       simp[go_sem,t6,t13,t14,gm,gp,hid,rp,aI];refine fp.mono fun v g ny hh=>?_;simp[go_sem,aA];exact hh
      ·skip
       have dY:20000<H.L.length:=(by omega);have dq:(20000:Int)<(H.L.length:Int):=(by omega);simp[go_sem,t6,t13,t14,gm,gb,gp,hid,qG,dq,rp,aI];refine fp.mono fun v g ny hh=>?_;simp[go_sem,aA];exact hh
    ·rw[if_neg hc]at hR;have hid:¬i=(d.length:Int):=fun q=>hc (.inl q);have dY:¬20000<H.L.length:=fun q=>hc (.inr q);have dq:¬(20000:Int)<(H.L.length:Int):=by omega
     obtain⟨m,rfl⟩:∃m:Nat,i=(m:Int):=⟨i.toNat,by omega⟩;have OD:m<d.length:=by omega
     obtain⟨f,hf⟩:∃f,f=d[m]:=⟨_,rfl⟩;have hfD:d.getD m ⟨.empty,0,0,0⟩=f:=by
      rw[hf,ak,aa OD];rfl
     have bn:Fc.cs f=[.bs f.name,.int .i64 f.kind,.int .i64 f.lo,.int .i64 f.hi]:=by cases f;rfl
     simp only[Int.toNat_natCast,hfD]at hR;have z1:¬p1=nx+2:=by omega
     have z2:¬p2=nx+2:=(by omega);simp[go_sem,t5,t6,t13,t14,gm,gd,gb,gp,gq,hid,C7,qG,dq,OD,← hf,bn,aI,z1,z2];generalize zZ:p.cs++_=PQ;have I4:PQ.length=8:=by rw[← zZ];cases p;cases q;rfl
     obtain⟨LW,Fo⟩:∃LW:Nat→List Int,LW=fun j=>if j=0 then [f.lo] else if j=1 then [f.lo]++(if bq p d=(m:Int) then p.cuts else []) else ([f.lo]++(if bq p d=(m:Int) then p.cuts else []))++(if bq q d=(m:Int) then q.cuts else []):=⟨_,rfl⟩
     have z3:¬nx+2=nx+2+1:=(by omega);refine bF (fun mm st=>∃tm h' ax j v cs,st=.mk tm h' ax []∧mm=2-j∧j≤2∧tm.get 0=some (.int .i64 (x:Int))∧tm.get 1=some (.int .i64 (y:Int))∧tm.get 2=some (.ptr (bb+3) 0)∧tm.get 3=some (.ptr e 0)∧tm.get 4=some (.ptr (e+1) 0)∧tm.get 5=some (.ptr (e+2) 0)∧tm.get 6=some (.ptr (bb+1) 0)∧tm.get 7=some (.ptr (bb+4) 0)∧tm.get 15=some (.int .i64 (m:Int))∧tm.get 16=some v∧tm.get 82=some (.sl (nx+3) 0 2 2 false)∧tm.get 83=some (.int .i64 2)∧tm.get 84=some (.int .i64 (j:Int))∧
      h'.get (nx+3)=some (bx 154 PQ false 0)∧az (nx+2) M h'∧nx+4≤ax∧LsI (nx+2) (nx+3) h' ax v cs∧RowKit.Hid (cs=LW j)) ⟨2,_,_,_,0,.sl (nx+2) 0 1 1 false,[f.lo],rfl,rfl,by omega,?_⟩ ?_
     ·simp[go_sem,t0,t1,t2,t3,t4,t5,t6,t7];refine⟨?_,⟨nx+2,1,false,false,0,by omega,by omega,by omega,rfl,?_,.inl ⟨rfl,rfl⟩⟩,Lib.hid (by rw[Fo];rfl)⟩
      ·simp(disch:=omega)only[aK,az.refl]
      ·simp[go_sem];rfl
     ·rintro mm st ⟨tm,h',ax,j,v',cs,rfl,rfl,hj,t0,t1,t2,t3,t4,t5,t6,t7,t15,t16,t82,t83,t84,EY,CS,qam,CU,dD⟩ J hJ
      refine bl ?_;have Ub:h'.get (e+2)=some (bx 35 [.fz 4 w (aN d)] false 0):=by rw[CS _ (by omega)];exact gd
      have y1:¬e+2=ax:=(by omega);have y2:¬nx+3=ax:=by omega
      by_cases fm:j<2
      ·obtain⟨n,hn⟩:∃n,n=if j=0 then p else q:=⟨_,rfl⟩
       have aJ:(PQ.drop (j * 4)).take 4=n.cs:=by
        rw[← zZ,hn]
        rcases (by omega:j=0∨j=1) with rfl |rfl
        ·cases p;cases q;rfl
        ·cases p;cases q;rfl
       have nJ:LW (j+1)=LW j++(if bq n d=(m:Int) then n.cuts else []):=by
        rw[Fo,hn]
        rcases (by omega:j=0∨j=1) with rfl |rfl
        ·rfl
        ·rfl
       have Jd:j * 4+4≤8:=(by omega);have Oj:(j:Int)<2:=(by omega);simp[go_sem,t5,t82,t83,t84,EY,Ub,fm,Oj,I4,aJ,Jd,y1];refine aB.use (Ri n w d) ?_;have Gt:(n∈a∧DgOk a d)∨(n∈b∧DgOk b d):=by
        rw[hn]
        rcases (by omega:j=0∨j=1) with rfl |rfl
        ·left;exact⟨by rw[if_pos rfl,hp];exact ah hx,ha⟩
        ·right;exact⟨by rw[if_neg (by decide),hq];exact ah hy,hb⟩
       have aX:cs.length≤40001:=by
        rw[dD.out,Fo];have mK:=ha.cu _ (ah hx);rw[← hp]at mK
        rcases (by omega:j=0∨j=1) with rfl |rfl
        ·simp
        ·simp only[Nat.reduceEqDiff,if_false,if_true,List.length_append,List.length_cons,List.length_nil];split <;> simp <;> omega
       obtain⟨lq,Dn,lo,vl,rT,l1,l2,l3,rfl,lg,lr⟩:=CU;have n1':n.cs[1]?=some (.fz 1 false (aG n.cuts)):=by cases n;rfl
       have n1:∀hh,n.cs[1]'hh=.fz 1 false (aG n.cuts):=by cases n;intro hh;rfl
       have cS:n.cs.length=4:=by cases n;rfl
       have y3:¬lq=ax:=(by omega);have y4:¬ax=lq:=(by omega);have y5:¬ax+1=lq:=by omega
       by_cases qS:bq n d=(m:Int)
       ·have aT:¬n.cuts.length=0:=by
         have key:∀g:List Nd,n∈g→DgOk g d→¬n.cuts.length=0:=fun g hg hD q=>by
          rcases hD.pr n hg with⟨e1,_⟩ |⟨_,_,_,e2,_⟩
          ·rw[EA e1]at qS;omega
          ·exact e2 (au q)
         rcases Gt with⟨q1,q2⟩ |⟨q1,q2⟩ <;> exact key _ q1 q2
        have qak:n.cuts.length≤40000:=by
         rcases Gt with⟨q1,q2⟩ |⟨q1,q2⟩ <;> exact q2.cu n q1
        have GH:cs.length+n.cuts.length≤16777216:=(by omega);have fo:=vU n.cuts;have fc:=ZF n.cuts;rw[if_pos qS,← dD.out]at nJ
        rcases lr with⟨rfl,rfl⟩ |⟨rfl,rfl,rfl,rfl⟩
        ·simp[go_sem,aA,t15,t16,t84,qS,n1,cS,lg,fo,fc,aT,GH,y3];refine hJ (2-(j+1)) _ (by omega) ⟨_,_,_,j+1,.sl (ax+1) 0 (cs++n.cuts).length 0 true,cs++n.cuts,rfl,rfl,by omega,?_⟩;simp(disch:=omega) [go_sem,t0,t1,t2,t3,t4,t5,t6,t7,t15,t82,t83,aS];refine⟨by (repeat rw[if_neg (by omega)]);exact EY,?_,by omega,⟨ax+1,0,true,true,1,by omega,by omega,by omega,by simp,?_,.inr ⟨rfl,rfl,rfl,rfl⟩⟩,Lib.hid nJ.symm⟩
         ·simp(disch:=omega)only[aK,CS]
         ·rw[zya,Tr.get_put,if_pos rfl]
        ·simp[go_sem,aA,t15,t16,t84,qS,n1,cS,lg,fo,fc,GH,y3];refine hJ (2-(j+1)) _ (by omega) ⟨_,_,_,j+1,.sl (ax+1) 0 (cs++n.cuts).length 0 true,cs++n.cuts,rfl,rfl,by omega,?_⟩;simp(disch:=omega) [go_sem,t0,t1,t2,t3,t4,t5,t6,t7,t15,t82,t83,aS];refine⟨by (repeat rw[if_neg (by omega)]);exact EY,?_,by omega,⟨ax+1,0,true,true,1,by omega,by omega,by omega,by simp,?_,.inr ⟨rfl,rfl,rfl,rfl⟩⟩,Lib.hid nJ.symm⟩
         ·simp(disch:=omega)only[aK,CS]
         ·rw[zya,Tr.get_put,if_pos rfl]
       ·rw[if_neg qS,List.append_nil,← dD.out]at nJ;simp[go_sem,aA,t15,t84,qS];refine hJ (2-(j+1)) _ (by omega) ⟨_,_,_,j+1,.sl lq 0 cs.length Dn lo,cs,rfl,rfl,by omega,?_⟩;simp(disch:=omega) [go_sem,t0,t1,t2,t3,t4,t5,t6,t7,t15,t16,t82,t83,aS];refine⟨by (repeat rw[if_neg (by omega)]);exact EY,?_,by omega,⟨lq,Dn,lo,vl,rT,by omega,by omega,by omega,rfl,?_,lr⟩,Lib.hid nJ.symm⟩
        ·simp(disch:=omega)only[aK,CS]
        ·rw[Tr.get_put,if_neg (by omega),Tr.get_put,if_neg (by omega)];exact lg
      ·obtain rfl:j=2:=by omega
       obtain⟨lq,Dn,lo,vl,rT,l1,l2,l3,rfl,lg,lr⟩:=CU;have wW:ll p q d (m:Int) f.lo=fZ (dG cs):=by rw[dD.out,Fo];rfl
       rw[wW]at hR;have lI:(dG cs).length=cs.length:=Ie cs;have Jo:∀a∈fZ (dG cs),dh a:=fun a' qM=>by
        rw[← wW]at qM;have v1:=hv f (by rw[hf];exact ah OD)
        rcases zyd qM with e |e |e
        ·rw[e];exact v1.2.1
        ·rw[hp]at e;exact(ha.ni _ (ah hx)).2.1 _ e
        ·rw[hq]at e;exact(hb.ni _ (ah hy)).2.1 _ e
       have wU:fZ (dG cs)≠[]:=by rw[← wW];exact Qn _ _ _ _ _
       have qaq:(fZ (dG cs)).length≤80001:=by
        rw[← wW];have:=Z4 p q d (m:Int) f.lo;have mK:=ha.cu _ (ah hx);have lB:=hb.cu _ (ah hy);rw[← hp]at mK;rw[← hq]at lB;omega
       have aX:cs.length≤80001:=by
        rw[dD.out,Fo];have mK:=ha.cu _ (ah hx);have lB:=hb.cu _ (ah hy);rw[← hp]at mK;rw[← hq]at lB;simp only[Nat.reduceEqDiff,if_false,List.length_append,List.length_cons,List.length_nil];split <;> split <;> simp <;> omega
       simp[go_sem,t16,t83,t84];refine zzk cs h' ax lq Dn rT lo vl lg (by omega) _ ?_;simp[go_sem,aA,t16];have yw:=Zf (dG cs) [] (h'.put lq (some (bx 3 (aG (dG cs)) vl rT))) ax lq Dn rT lo vl (by rw[List.append_nil];simp[go_sem]) (by omega);rw[lI]at yw;refine yw _ fun r'=>?_;generalize qar:fZ (dG cs)=bW at *;simp[go_sem,aA];generalize rM:jA ((h'.put lq (some (bx 3 (aG (dG cs)) vl rT))).put lq (some (bx 3 (aG (bW++r')) vl rT))) [lq]=M3;have wB:=zN (g:=(h'.put lq (some (bx 3 (aG (dG cs)) vl rT))).put lq (some (bx 3 (aG (bW++r')) vl rT))) (F:=fun a=>a∈[lq]) (b:=lq) (s:=bW) (r:=r') (cp:=Dn) (esz:=rT) (op:=lo) (opn:=vl) (by simp) (by simp[go_sem]);refine Co (fun a=>a∈[lq]) (h':=M3) (by rw[← rM];exact iG.kill _) ((qw.refl.put (k:=16) (by simp[go_sem]) wB).put (k:=102) (by simp[go_sem]) wB) ?_;have qE:az (nx+2) M M3:=by
        intro k1 dB;rw[← rM,oF (by simp;omega),Tr.get_put,if_neg (by omega),Tr.get_put,if_neg (by omega)];exact CS k1 dB
       clear rM wB yw lg lr EY Ub;have nJ:nx+2≤ax:=by omega
       have qL:=hS.ext qE nJ;have Fi:KH O1 bb h nx O1 M3 ax:=CT.trans (KH.ofExt qE nJ);clear qE CS;generalize N6:(fun v H=>fD a b d k (eR p x (m:Int) v).toNat (eR q y (m:Int) v).toNat H)=gg at hR;obtain⟨FG,Fg⟩:∃FG,FG=fR gg bW H:=⟨_,rfl⟩;rw[← Fg]at hR;have Og:inn H.L≤20000:=Nat.le_trans (List.length_filter_le _ _) (by omega);refine bF (fun mm st=>∃tm h' n' j O' H' ks kv,st=.mk tm h' n' []∧mm=bW.length-j∧j≤bW.length∧tm.get 0=some (.int .i64 (x:Int))∧tm.get 1=some (.int .i64 (y:Int))∧tm.get 2=some (.ptr (bb+3) 0)∧tm.get 3=some (.ptr e 0)∧tm.get 4=some (.ptr (e+1) 0)∧tm.get 5=some (.ptr (e+2) 0)∧tm.get 6=some (.ptr (bb+1) 0)∧tm.get 7=some (.ptr (bb+4) 0)∧tm.get 15=some (.int .i64 (m:Int))∧tm.get 16=some (.fz 1 false (aG bW))∧tm.get 19=some kv∧tm.get 102=some (.fz 1 false (aG bW))∧tm.get 103=some (.int .i64 (bW.length:Int))∧tm.get 104=some (.int .i64 (j:Int))∧
        TM ax O' h' n' kv ks∧ks.length=j∧KH O1 bb M3 ax O' h' n'∧jR O' e bb u v w a b d H' h' n'∧(∀a,O' a→a<n')∧HI H'∧inn H'.L≤20000+k∧(∀a∈ks,0≤a∧a<(H'.L.length:Int))∧
        RowKit.Hid (FG=(ks++(fR gg (bW.drop j) H').1,(fR gg (bW.drop j) H').2))) ⟨bW.length,_,_,_,0,O1,H,[],.sl0,rfl,by simp,by simp,?_⟩ ?_
       ·simp[go_sem,t0,t1,t2,t3,t4,t5,t6,t7,t15];exact⟨.inl ⟨rfl,rfl⟩,KH.ofExt (az.refl _ _) (ae _),qL,fun a qM=>by have:=CV a qM;omega,hH,by omega,Lib.hid Fg⟩
       ·rintro mm st ⟨tm,h',n',j,O',H',ks,kv,rfl,rfl,hj,t0,t1,t2,t3,t4,t5,t6,t7,t15,t16,t19,t102,t103,t104,AD,eO,yq,rL,Nu,oP,oU,mL,bM⟩ J hJ
        refine bl ?_;have Fa:=rL.gx;have gy':=rL.gy;have Ud:=rL.gg;have IP:=rL.gm;have hL':H'.L.length≤inn H'.L+2:=oP.g.len;unfold R9 at Ud
        by_cases ay:j<bW.length
        ·obtain⟨z,hz⟩:∃z,z=bW[j]:=⟨_,rfl⟩;have aF:=bM.out;rw[aj ay,← hz,zL8]at aF;have HV:=Lib.hid aF;clear aF bM;simp[go_sem,t102,t103,t104,ay,← hz];refine Hz mixed iQ xh 12 [] [6,11] [] [(0,19,108)] 2 (by kernel_rfl) (by kernel_rfl) ?_;simp[go_sem,t0,t3,t7,t15,t19,Fa,Ud];have kx:¬(a[x]).kids=[]→(a[x]).kids.length=(a[x]).cuts.length+1:=fun q=>((Ex ha (ah hx)).2.2 q).2.2;have ky:¬(b[y]).kids=[]→(b[y]).kids.length=(b[y]).cuts.length+1:=fun q=>((Ex hb (ah hy)).2.2 q).2.2;have sx:=zyf u a x (m:Int) z hx kx (by have:=ha.cu _ (ah hx);omega);have sy:=zyf v b y (m:Int) z hy ky (by have:=hb.cu _ (ah hy);omega);obtain⟨s1,s2,s3⟩:=Cq ha hx (m:Int) z (by rw[← hp];exact i3) (by omega);obtain⟨r1,r2,r3⟩:=Cq hb hy (m:Int) z (by rw[← hq];exact i4) (by omega);simp only[← hp]at sx s1 s2 s3;simp only[← hq]at sy r1 r2 r3;obtain⟨x',Dh⟩:∃x',x'=(eR p x (m:Int) z).toNat:=⟨_,rfl⟩
         obtain⟨y',Jv⟩:∃y',y'=(eR q y (m:Int) z).toNat:=⟨_,rfl⟩;have qA:eR p x (m:Int) z=(x':Int):=by omega
         have T6:eR q y (m:Int) z=(y':Int):=(by omega);have Mw:gg z H'=fD a b d k x' y' H':=by rw[← N6,Dh,Jv]
         simp only[← Dh]at s2 s3;simp only[← Jv]at r2 r3;rw[qA]at sx;rw[T6]at sy;rw[Mw]at HV;have nI:(m:Int)+1≤jC (a[x']) (b[y']) d:=by
          unfold jC Ey;omega
         clear qA T6 s1 r1 kx ky;refine dV sx ?_;simp[go_sem,cW,t1,t4,t15,t19,gy'];refine dV sy ?_;have iM:=It a b d hd hv ha hb k x' y' H' s2 r2 (by omega) (by omega) oP (by omega);refine ih x' y' H' O' h' n' _ s2 r2 (by omega) (by omega) oP (by omega) rL ?_;intro O2 g2 n2 sL sK;have K2:=sL.low;have G2:=sK.low;clear sL sK;generalize fD a b d k x' y' H'=GV at iM HV G2 ⊢;obtain⟨wv,S2⟩:=GV;obtain⟨q1,q2,q3,q4⟩:=iM;simp only at q1 q2 q3 q4 G2 ⊢;have q3l:=q3.len;have hKn:=yq.1;have qX:=K2.1;have qF:=yq.trans K2;have AF:∀a,a∈ks∨a=wv→0≤a∧a<(S2.L.length:Int):=fun a ha=>by
          rcases ha with ha |rfl
          ·have:=mL a ha;omega
          ·exact q2
         rcases AD with⟨rfl,rfl⟩ |⟨eY,kq,VG,qn,qO,rfl,oc⟩
         ·simp[go_sem,aA,t104];refine hJ (bW.length-(j+1)) _ (by omega) ⟨_,_,_,j+1,fun k=>O2 k∧k<n2,S2,[wv],.sl (n2+1) 0 1 0 true,rfl,rfl,by omega,?_⟩;simp(disch:=omega) [go_sem,t0,t1,t2,t3,t4,t5,t6,t7,t15,t16,t102,t103,aS];refine⟨.inr ⟨by simp,n2+1,by omega,by omega,fun hq=>by omega,rfl,by simp[go_sem,aG]⟩,by simp at eO;omega,qF.but (q:=n2) (by omega) (fun k k1 k2=>by rw[Tr.get_put,if_neg (by omega),Tr.get_put,if_neg (by omega)]) (by omega),G2.but (q:=n2) (by omega) (fun hq=>by omega) (fun k k1 k2=>by rw[Tr.get_put,if_neg (by omega),Tr.get_put,if_neg (by omega)]) (by omega),by intros;omega,q1,by omega,?_,Lib.hid (by have:=HV.out;simpa using this)⟩;exact q2
         ·have PF:¬(O2 kq∧kq<n2):=fun hq=>by
           rcases K2.2.2 kq hq with r |r
           ·exact qO r
           ·omega
          have wi:g2.get kq=some (bx 3 (aG ks) true 1):=by rw[K2.2.1 kq qn qO (by omega)];exact oc
          have z1:¬kq=n2:=(by omega);have z2:¬n2=kq:=(by omega);have z3:¬n2+1=kq:=(by omega);have fo:=vU ks;have wJ:ks.length+1≤16777216:=(by omega);simp[go_sem,aA,t104,wi,z1,wJ];refine hJ (bW.length-(j+1)) _ (by omega) ⟨_,_,_,j+1,fun k=>O2 k∧k<n2,S2,ks++[wv],.sl (n2+1) 0 (ks.length+1) 0 true,rfl,rfl,by omega,?_⟩;simp(disch:=omega) [go_sem,t0,t1,t2,t3,t4,t5,t6,t7,t15,t16,t102,t103,aS];refine⟨.inr ⟨by simp,n2+1,by omega,by omega,fun hq=>by omega,by simp,by simp[go_sem,aG]⟩,eO,qF.but (q:=kq) (by omega) (fun k k1 k2=>by rw[Tr.get_put,if_neg (by omega),Tr.get_put,if_neg (by omega),Tr.get_put,if_neg (by omega)]) (by omega),G2.but (q:=kq) (by omega) PF (fun k k1 k2=>by rw[Tr.get_put,if_neg (by omega),Tr.get_put,if_neg (by omega),Tr.get_put,if_neg (by omega)]) (by omega),by intros;omega,q1,by omega,AF,Lib.hid (by have:=HV.out;simpa using this)⟩
        ·have AE:FG=(ks,H'):=by
          have:=bM.out;rw[al (by omega)]at this;simpa[fR]using this
         have tA:ks.length=bW.length:=by omega
         rcases AD with⟨rfl,_⟩ |⟨eY,kq,VG,qn,qO,rfl,oc⟩
         ·exact absurd (au (by simpa using tA.symm)) wU
         obtain⟨k0,kt,mi⟩:∃k0 kt,ks=k0::kt:=by
          cases ks with
          |nil=>exact absurd rfl eY
          |cons a l=>exact⟨a,l,rfl⟩
         have yG:∀a∈k0::kt,dh a:=fun a ha=>by
          have:=mL a (by rw[mi];exact ha);exact⟨by omega,by omega⟩
         have Oq:(k0::kt).length=bW.length:=by rw[← mi];exact tA
         have qh:IntKind.i64.wrap ((bW.length:Int))=(bW.length:Int):=by rw[aS] <;> omega
         simp[go_sem,t6,t15,t16,t19,t103,t104,ay,IP];refine Hu (fun a=>a∈[kq]) (iG.kill _) (args':=[.ptr bb 0,.int .i64 (m:Int),.fz 1 false (aG bW),.fz 1 false (aG (k0::kt))]) ?_ ?_
         ·rw[← mi];exact .cons _ _ _ _ (.same _) (.cons _ _ _ _ (.same _) (.cons _ _ _ _ (.same _) (.cons _ _ _ _ (zN (s:=ks) (r:=[]) (by simp) (by rw[List.append_nil];exact oc)) .nil)))
         have zU:jR O' e bb u v w a b d H' (jA h' [kq]) n':=rL.but (q:=kq) (by omega) qO (fun k k1 k2=>oF (by simp;exact k2)) (ae _);have Fj:KH O1 bb M3 ax O' (jA h' [kq]) n':=yq.but VG (fun k k1 k2=>oF (by simp;exact k2)) (ae _);have fin:∀(wv:Int) (O2:Nat→Prop) (L2:List Nd) (g2:Tr ABlk) (n2:Nat),KH O1 bb M3 ax O2 g2 n2→jR O2 e bb u v w a b d { H' with L:=L2 } g2 n2→kK m bW ks H'=(wv,{ H' with L:=L2 })→R (.int .i64 wv) (g2.put (bb+2) (some (.map (mI (mX ((x:Int),(y:Int)) wv H'.M) 0) (mX ((x:Int),(y:Int)) wv H'.M).length))) n2:=by
          intro wv O2 L2 g2 n2 K2 G2 hI;rw[AE]at hR;simp only[hI]at hR;exact hR O2 _ n2 (Fi.trans (K2.trans (KH.setM _))) (G2.setM _)
         have hIn:kK m bW ks H'=if (bN k0 [] [k0] bW (k0::kt)).2.2.length=1 then (k0,{ H' with L:=H'.L }) else ((mW H'.L ⟨(m:Int),(bN k0 [] [k0] bW (k0::kt)).2.1,(bN k0 [] [k0] bW (k0::kt)).2.2,false⟩:Int),{ H' with L:=jB H'.L ⟨(m:Int),(bN k0 [] [k0] bW (k0::kt)).2.1,(bN k0 [] [k0] bW (k0::kt)).2.2,false⟩ }):=by
          rw[mi];have hG:eT m bW (k0::kt) H'.gs=if (bN k0 [] [k0] bW (k0::kt)).2.2.length=1 then (k0,H'.gs) else dp ⟨(m:Int),(bN k0 [] [k0] bW (k0::kt)).2.1,(bN k0 [] [k0] bW (k0::kt)).2.2,false⟩ H'.gs:=rfl
          unfold kK;rw[hG]
          by_cases hh:(bN k0 [] [k0] bW (k0::kt)).2.2.length=1
          ·rw[if_pos hh,if_pos hh];rfl
          ·rw[if_neg hh,if_neg hh];rfl
         refine Zc O' _ n' bb H'.L (m:Int) k0 bW kt false false zU.mkS (by omega) ⟨by omega,by omega⟩ Jo yG (by omega) (by omega) ⟨(m:Int),(bN k0 [] [k0] bW (k0::kt)).2.1,(bN k0 [] [k0] bW (k0::kt)).2.2,false⟩ rfl _ (fun g2 n2 c1 c2 c3=>?_) (fun O2 g2 n2 c1 c2 c3 c4=>?_)
         ·have G2:=zU.ext c2 c3;have fn:=fin k0 O' H'.L g2 n2 (Fj.trans (KH.ofExt c2 c3)) G2 (by rw[hIn,if_pos c1]);have sT:=G2.gv;have qC:=G2.gM;cases dO:ld ((x:Int),(y:Int)) H'.M with
          |none=>
           have f2:=Kl 0 dO;rw[Rq dO,Sk]at fn;simp[go_sem,aA,t0,t1,t2,sT,qC,f2,aI];simpa using fn
          |some v2=>
           obtain⟨j2,f2,f3,f4⟩:=Lj 0 dO;rw[← f4,Sb dO]at fn;simp[go_sem,aA,t0,t1,t2,sT,qC,f2,aI];simpa using fn
         ·have G2:=zU.node c3 c4;have fn:=fin _ O2 _ g2 n2 (Fj.trans (KH.ofKept c3)) G2 (by rw[hIn,if_neg c1]);have sT:=G2.gv;have qC:=G2.gM;simp only at fn qC;cases dO:ld ((x:Int),(y:Int)) H'.M with
          |none=>
           have f2:=Kl 0 dO;rw[Rq dO,Sk]at fn;simp[go_sem,aA,t0,t1,t2,sT,qC,f2,aI];simpa using fn
          |some v2=>
           obtain⟨j2,f2,f3,f4⟩:=Lj 0 dO;rw[← f4,Sb dO]at fn;simp[go_sem,aA,t0,t1,t2,sT,qC,f2,aI];simpa using fn
def zIm:cx.ft.get 148=some Tryz.f148:=aO
def gL (a b:List Nd)(d:List Fc):Int×HS:=fD a b d (d.length+1) 0 0 ⟨[],[]⟩
def Ig (a b:List Nd)(d:List Fc):AV:=
 if dU a d=false∨dU b d=false then vA 1 else if 20000<(gL a b d).2.L.length then vA 2 else if 20000<(br (gL a b d).2.L (gL a b d).1).length then vA 2 else .tup [.agg [.fz 4 false (bQ (cV (gL a b d).2.L (gL a b d).1))],.int .i64 0]
def Cn {g:List Nd}{d:List Fc}(h:dU g d=true):mZ g d:=by
 by_cases hv:mZ g d
 ·exact hv
 ·rw[Zh hv]at h;cases h
def zJ8 {d:List Fc}(h:dH d=true):Ci d:=by
 by_cases hv:Ci d
 ·exact hv
 ·rw[LM hv]at h;cases h
def Ez {a:List Nd}{d:List Fc}(hv:mZ a d)(hN:∀n∈a,jE n)(hc:∀n∈a,n.cuts.length≤40000):DgOk a d:=⟨hv.2.2.2.1,hN,hc,by have:=hv.2.2.1;omega⟩
def EC {d:List Fc}(h:dH d=true):d.length≤60∧∀x∈d,x.lo≤x.hi∧dh x.lo∧dh x.hi:=by
 obtain⟨⟨h1,_⟩,h2⟩:=zJ8 h;refine⟨h2,fun x hx=>?_⟩
 rcases (h1 x hx).1 with⟨_,e1,e2⟩ |⟨_,e1,e2,e3⟩
 ·rw[e1,e2];exact⟨by decide,⟨by omega,by omega⟩,⟨by omega,by omega⟩⟩
 ·exact⟨e2,⟨by omega,by omega⟩,⟨by omega,by omega⟩⟩
def zIh (u v w:Bool)(a b:List Nd)(d:List Fc)(wG:a.length≤1000000)(uZ:b.length≤1000000)(hd:d.length≤1000000)(hs:∀f∈d,f.name.size≤1000000000)(UJ:∀n∈a,jE n)(UK:∀n∈b,jE n)
  (dA:dU a d=true→∀n∈a,n.cuts.length≤40000) (NM:dU b d=true→∀n∈b,n.cuts.length≤40000):
  aM 148 [.agg [.fz 4 u (bQ a)],.agg [.fz 4 v (bQ b)],.agg [.fz 4 w (aN d)]] (Ig a b d):=by
 refine aB.mkW fun h nx R hR=>aP zIm (sz:=42) (rs:=[.cell 6 92,.tmp 7]) ?_;have hVa:=Li u w a d wG hd hs UJ;have hVb:=Li v w b d uZ hd hs UK;obtain⟨res,aH⟩:∃r,r=Ig a b d:=⟨_,rfl⟩;rw[← aH]at hR;unfold Ig at aH;have gP:∀(k:Int) (g:Tr ABlk) (ny:Nat),az nx h g→res=vA k→R (.tup [.agg [.sl0],.int .i64 k]) g ny:=fun k g ny hE e=>by
  rw[e]at hR;exact hR _ _ _ (.tup [.agg [.sl0],.int .i64 k]) hE (.tup _ _ (.cons _ _ _ _ (.agg _ _ (.cons _ _ _ _ .sl0 .nil)) (.cons _ _ _ _ (.int _ _) .nil))) (.tup _ _ (.cons _ _ _ _ (.agg _ _ (.cons _ _ _ _ (.sl0 4 false) .nil)) (.cons _ _ _ _ (.same _) .nil)))
 have z1:¬nx=nx+1:=by omega
 have z2:¬nx=nx+1+1:=by omega
 have z3:¬nx=nx+1+1+1:=by omega
 have z4:¬nx+1=nx+1+1:=by omega
 have z5:¬nx+1=nx+1+1+1:=by omega
 have z6:¬nx+1+1=nx+1+1+1:=by omega
 simp[go_sem,z2,z3];refine aB.use hVa ?_;cases Df:dU a d with
 |false=>
  rw[if_pos (.inl Df)]at aH;simp[go_sem,aA,aI];refine gP 1 _ _ ?_ aH;simp(disch:=omega)only[aK,az.refl]
 |true=>
  simp[go_sem,aA];refine aB.use hVb ?_;cases kQ:dU b d with
  |false=>
   rw[if_pos (.inr kQ)]at aH;simp[go_sem,aA,aI];refine gP 1 _ _ ?_ aH;simp(disch:=omega)only[aK,az.refl]
  |true=>
   rw[if_neg (by rw[Df,kQ];simp)]at aH;have pa:=Cn Df;have pb:=Cn kQ;obtain⟨d1,d2⟩:=EC pa.1;have ha:=Ez pa UJ (dA Df);have hb:=Ez pb UK (NM kQ);simp[go_sem,aA,aI];generalize bz:Tr.put _ _ (some (bx 199 [.func 209 [] _] false 0))=g3;have E3:az nx h g3:=by
    rw[← bz];simp(disch:=omega)only[aK,az.refl]
   have dr:g3.get (nx+1+1+1)=some (bx 92 [.sl0] false 0):=by rw[← bz];simp(disch:=omega) [go_sem,lW]
   have G3:jR (fun k=>k=nx+4) nx (nx+4) u v w a b d ⟨[],[]⟩ g3 (nx+9):=by
    refine⟨by omega,by omega,fun k hk=>.inl hk,?_,?_,?_,?_,?_,?_,?_,⟨by simp,.sl0,.map0,?_,?_⟩⟩
    ·rw[← bz];simp(disch:=omega) [go_sem,lW]
    ·rw[← bz];simp(disch:=omega) [go_sem]
    ·rw[← bz];simp(disch:=omega) [go_sem]
    ·rw[← bz];simp(disch:=omega) [go_sem,lW]
    ·rw[← bz];simp(disch:=omega) [go_sem,lW,mI]
    ·rw[← bz];simp(disch:=omega) [go_sem]
    ·rw[← bz];simp(disch:=omega) [go_sem,R9]
    ·rw[← bz];simp(disch:=omega) [go_sem]
    ·exact⟨rfl,rfl,by omega,.inl ⟨rfl,rfl,rfl⟩⟩
   clear bz;have vi:0<a.length:=pa.2.1;have vj:0<b.length:=pb.2.1;have Ct:HI ⟨[],[]⟩:=⟨⟨by simp[HS.gs],by intro n hn;simp[HS.gs]at hn,by simp[HS.gs],by simp[HS.gs],by simp[HS.gs]⟩,by simp⟩;have gw:=x9 ha hb (ah vi) (ah vj);have iM:=It a b d (by omega) d2 ha hb (d.length+1) 0 0 ⟨[],[]⟩ vi vj (by omega) (ae _) Ct (by simp[inn]);refine zG7 a b d (by omega) d2 ha hb u v w nx (nx+4) (d.length+1) 0 0 ⟨[],[]⟩ (fun k=>k=nx+4) g3 (nx+9) _ vi vj (by omega) (ae _) Ct (by simp[inn]) G3 ?_;intro O2 g2 n2 sL sK;have K2:=sL.low;have G2:=sK.low;clear sL sK;have zV:fD a b d (d.length+1) 0 0 ⟨[],[]⟩=gL a b d:=rfl;rw[zV]at iM G2 ⊢;generalize gL a b d=GV at iM G2 aH ⊢;obtain⟨wv,S2⟩:=GV;obtain⟨q1,q2,q3,q4⟩:=iM;simp only at q1 q2 q3 q4 G2 aH ⊢;have AT:=K2.1;have e3:g2.get (nx+1+1+1)=some (bx 92 [.sl0] false 0):=by
    rw[K2.2.1 _ (by omega) (by omega) (by omega)];exact dr
   have E4:az nx h g2:=fun k hk=>by
    rw[K2.2.1 k (by omega) (by omega) (by omega)];exact E3 k hk
   have gm:g2.get (nx+4+1)=some (bx 182 [.ptr (nx+4) 0] false 0):=G2.gm;have hSL:S2.L.length≤inn S2.L+2:=q1.g.len;obtain⟨ma,mc,gb,hA⟩:=G2.all;have qG:∀(e:TypeId) (size b:Nat) (z:Option AV) (fs:List (Nat×Nat×Bool)) (g:Tr ABlk) (n:Nat),k8 (.mk (.slice e) size b z fs) ma g n=.val (.int .i64 (S2.L.length:Int)) g n:=by
    intro e' size b' z fs g n
    rcases hA with⟨h0,ha⟩ |⟨q,ha⟩
    ·rw[ha,Cp,h0];rfl
    ·rw[ha,H9]
   by_cases dY:20000<S2.L.length
   ·have dq:(20000:Int)<(S2.L.length:Int):=(by omega);rw[if_pos dY]at aH;simp[go_sem,aA,gm,gb,qG,dq,e3,aI];refine gP 2 _ _ ?_ aH;simp(disch:=omega)only[aK];exact E4
   ·have dq:¬(20000:Int)<(S2.L.length:Int):=(by omega);rw[if_neg dY]at aH;simp[go_sem,aA,gm,gb,qG,dq];refine bf.useE (Re _ S2.L (nx+4) n2 g2 wv G2.mkS (fun k hk=>hk.2) q1.g.wk (fun n hn=>by have:=(q1.g.ni n hn).2.2.2.2;omega) (by omega) q2) ?_
    by_cases pL:20000<(br S2.L wv).length
    ·rw[if_pos pL]at aH;rw[if_pos pL];simp[go_sem,aA,e3,aI];rw[aH]at hR;refine hR _ _ _ _ ?_ (Fz.same _ (by simp[plain,bJ])) (.same _);simp(disch:=omega)only[aK];exact E4
    ·rw[if_neg pL]at aH;rw[if_neg pL];simp[go_sem,aA,e3,aI];rw[aH]at hR;refine hR _ _ _ _ ?_ (Fz.same _ (by simp[plain,bJ,DL])) (.same _);simp(disch:=omega)only[aK];exact E4
def zH5:cx.ft.get 131=some Tryz.f131:=aO
def rJ (nm:ByteArray→Bool):Fm→Bool
 |.mk o n c m kids=>
  if o≠3∧(c≠0∨m≠0) then false else if o≠3∧o≠4∧n≠⟨#[]⟩ then false else
  if o=1∨o=2 then decide (kids.length=0) else
  if o=3 then (decide (kids.length=0) && nm n) && (decide (1≤c) && decide (c≤6)) else
  if o=4 then decide (kids.length=0) && nm n else
  if o=5 then decide (kids.length=1) else
  if o=6∨o=7 then decide (2≤kids.length) else false
def Fm.nam:Fm→ByteArray
 |.mk _ n _ _ _=>n
def zMk (nm:ByteArray→Bool)(f:Fm)(iC:aM 193 [.bs f.nam] (.bool (nm f.nam))):aM 131 [.agg f.cs] (.bool (rJ nm f)):=by
 refine aB.mk fun h nx R hR=>aP zH5 (sz:=79) (rs:=[.tmp 2]) ?_;obtain⟨o,n,c,m,kids⟩:=f;have Gu:aM 193 [.bs n] (.bool (nm n)):=iC;clear iC;have E:∀x,az nx h (h.put nx x):=fun x=>(az.refl nx h).put (ae _) _;obtain⟨r,hr⟩:∃r,r=rJ nm (.mk o n c m kids):=⟨_,rfl⟩;rw[← hr]at hR;simp only[rJ]at hr;have fE:∀b g ny,b=r→az nx h g→R (.bool b) g ny:=fun b g ny hb hE=>hR _ _ _ hE (Fz.eq rfl (by rw[hb]));clear hR;have eO:(bU kids).length=kids.length:=by simp[go_sem]
 have eY:(kids.length:Int)=0↔kids.length=0:=by omega
 by_cases o3:o=3
 ·subst o3;rw[if_neg (by simp),if_neg (by simp),if_neg (by simp),if_pos rfl]at hr
  by_cases k0:kids.length=0
  ·simp[go_sem,Fm.cs,eO,k0];refine aB.use Gu ?_;cases hn:nm n with
   |false=>
    simp[go_sem,aA];exact fE _ _ _ (by rw[hr];simp[*]) (E _)
   |true=>
    by_cases c1:1≤c
    ·simp[go_sem,aA,c1];exact fE _ _ _ (by rw[hr];simp[*]) (E _)
    ·simp[go_sem,aA,c1];exact fE _ _ _ (by rw[hr];simp[*]) (E _)
  ·have k0I:¬(kids.length:Int)=0:=(by omega);simp[go_sem,Fm.cs,eO,k0];exact fE _ _ _ (by rw[hr];simp[*]) (E _)
 by_cases hc:c=0
 ·by_cases hm:m=0
  ·subst hc;subst hm;rw[if_neg (by simp)]at hr
   by_cases o4:o=4
   ·subst o4;rw[if_neg (by simp),if_neg (by simp),if_neg (by simp),if_pos rfl]at hr
    by_cases k0:kids.length=0
    ·simp[go_sem,Fm.cs,eO,k0];refine aB.use Gu ?_;simp[go_sem,aA];exact fE _ _ _ (by rw[hr];simp[k0]) (E _)
    ·have k0I:¬(kids.length:Int)=0:=(by omega);simp[go_sem,Fm.cs,eO,k0];exact fE _ _ _ (by rw[hr];simp[k0]) (E _)
   by_cases hn:n=⟨#[]⟩
   ·rw[if_neg (by simp[hn])]at hr
    by_cases o1:o=1
    ·subst o1;rw[if_pos (.inl rfl)]at hr;simp[go_sem,Fm.cs,eO,hn];exact fE _ _ _ (by rw[hr,decide_eq_decide];simp) (E _)
    by_cases o2:o=2
    ·subst o2;rw[if_pos (.inr rfl)]at hr;simp[go_sem,Fm.cs,eO,hn];exact fE _ _ _ (by rw[hr,decide_eq_decide];simp) (E _)
    rw[if_neg (by omega),if_neg o3,if_neg o4]at hr
    by_cases o5:o=5
    ·subst o5;rw[if_pos rfl]at hr;simp[go_sem,Fm.cs,eO,hn];exact fE _ _ _ (by rw[hr,decide_eq_decide];omega) (E _)
    rw[if_neg o5]at hr
    by_cases o6:o=6
    ·subst o6;rw[if_pos (.inl rfl)]at hr;simp[go_sem,Fm.cs,eO,hn];exact fE _ _ _ (by rw[hr,decide_eq_decide];omega) (E _)
    by_cases o7:o=7
    ·subst o7;rw[if_pos (.inr rfl)]at hr;simp[go_sem,Fm.cs,eO,hn];exact fE _ _ _ (by rw[hr,decide_eq_decide];omega) (E _)
    rw[if_neg (by omega)]at hr;simp[go_sem,Fm.cs,eO,hn,o1,o2,o3,o4,o5,o6,o7];exact fE _ _ _ (by rw[hr]) (E _)
   ·rw[if_pos ⟨o3,o4,hn⟩]at hr;simp[go_sem,Fm.cs,eO,hn,o3,o4];exact fE _ _ _ (by rw[hr]) (E _)
  ·rw[if_pos ⟨o3,.inr hm⟩]at hr;simp[go_sem,Fm.cs,eO,o3,hc,hm];exact fE _ _ _ (by rw[hr]) (E _)
 ·rw[if_pos ⟨o3,.inl hc⟩]at hr;simp[go_sem,Fm.cs,eO,o3,hc];exact fE _ _ _ (by rw[hr]) (E _)
def zT8:cx.ft.get 85=some Tryz.f85:=aO
def lU (nm kn:ByteArray→Bool)(d:List Fc)(f:Fm):Int:=
 if rJ nm f=false then 1 else
 match f with
 |.mk o n _ m _=>if o=3∧(m<0∨1000000<m) then 10 else if (o=3∧bj (fun x:Fc=>decide (x.name=n)) d<0)∨(o=4∧kn n=false) then 7 else 0
def eN (nm kn:ByteArray→Bool)(d:List Fc) (s:Int)(f:Fm):Int×Bool:=if lU nm kn d f=0 then (s,true) else (lU nm kn d f,false)
def rH (nm kn:ByteArray→Bool)(d:List Fc)(f:Fm):Int:=
 if 200<f.size∨20<f.deep then 2 else (df (eN nm kn d) 0 f).1
def BH {i:Nat}{K:AV→Tr ABlk→Nat→Prop}{tm fL:Tr AV}{h:Tr ABlk}{nx sz db:Nat}{ds:List DE}{fn:FuncId}{st:LoopState}{bh:Option Code}{ps:Array Tmp}{x y:Code}{rb rec:ABlk}(hb:ABlk.loop st bh fn sz fL ps x y db=rb)(hi:h.get i=some rb)(hr:ABlk.loop .done (some .ret) fn sz fL ps x y db=rec)(hk:K (.bool false) (h.put i (some rec)) nx):R0 i K .ret (.mk tm h nx ds):=by
 subst hb;subst hr;exact⟨_,_,_,_,_,_,_,_,_,hi,hk⟩
def zxv {Q:AX→AS→Prop}{v:AV}{tm fL:Tr AV}{g:Tr ABlk}{nx ny sz db:Nat}{ds:List DE}{fn:FuncId}{ps:Array Tmp}{x y:Code}{rec:ABlk}(hr:ABlk.loop .done (some .ret) fn sz fL ps x y db=rec)(hi:g.get (nx+1)=some rec)(hk:Q .ret (.mk tm (g.put (nx+1) none) ny (.mark nx::ds))):Tz tm ds nx Q v g ny:=by
 subst hr;exact⟨_,_,_,_,_,_,_,_,_,hi,by simp,hk⟩
mutual
def Iw {S:Type}{step:S→Fm→S×Bool}(h:∀s x,(step s x).2=true→(step s x).1=s):∀s f,(df step s f).2=true→(df step s f).1=s
 |s,.mk o n c m kids,hv=>by
  rw[df]at hv ⊢
  by_cases h1:(step s (.mk o n c m kids)).2=true
  ·rw[if_pos h1]at hv ⊢;rw[h _ _ h1]at hv ⊢;exact zEu h s kids hv
  ·rw[if_neg h1]at hv;cases hv
def zEu {S:Type}{step:S→Fm→S×Bool}(h:∀s x,(step s x).2=true→(step s x).1=s):∀s l,(gh step s l).2=true→(gh step s l).1=s
 |s,[],_=>by rw[gh]
 |s,f::l,hv=>by
  rw[gh]at hv ⊢
  by_cases h1:(df step s f).2=true
  ·rw[if_pos h1]at hv ⊢;rw[Iw h s f h1]at hv ⊢;exact zEu h s l hv
  ·rw[if_neg h1]at hv;cases hv
end
def J6 (nm kn:ByteArray→Bool)(d:List Fc) (s:Int)(x:Fm)(h:(eN nm kn d s x).2=true):(eN nm kn d s x).1=s:=by
 unfold eN at h ⊢
 by_cases h1:lU nm kn d x=0
 ·rw[if_pos h1]
 ·rw[if_neg h1]at h;cases h
def JC (nx:Nat)(rec dv fv:ABlk) (s:Int)(O:Nat→Prop)(h:Tr ABlk) (n:Nat):Prop:=
 h.get (nx+1)=some dv∧h.get (nx+2)=some fv∧h.get (nx+3)=some (bx 44 [.int .i64 s] false 0)∧h.get (nx+4)=some .dfr∧h.get (nx+5)=some rec∧(∀k,O k↔nx≤k∧k≤nx+5)∧nx+6≤n
def XF (nm kn:ByteArray→Bool)(u:Bool)(d:List Fc)(kf:FuncId)(cap:List AV)(f:Fm)(hf:f.size≤1000000)(hd:d.length≤1000000000)(iC:∀s,aM 193 [.bs s] (.bool (nm s)))(Gd:∀s,aM kf ([.bs s]++cap) (.bool (kn s))):
  aM 85 [.agg f.cs,.agg [.fz 4 u (aN d)],.func kf [] cap] (.int .i64 (rH nm kn d f)):=by
 refine aB.mk fun h nx R hR=>aP zT8 (sz:=63) (rs:=[.cell 6 44]) ?_;obtain⟨r,hr⟩:∃r,r=rH nm kn d f:=⟨_,rfl⟩;rw[← hr]at hR;unfold rH at hr;have fE:∀b g ny,b=r→az nx h g→R (.int .i64 b) g ny:=fun b g ny hb hE=>hR _ _ _ hE (Fz.eq rfl (by rw[hb]));clear hR;obtain⟨cK,bn⟩:∃l,l=f.cs:=⟨_,rfl⟩;have iK:cK.length=5:=by rw[bn];cases f;rfl
 have bO:cK.take 5=cK:=ar (by omega);have bC:=zMv f.size f (ae _) (by omega);have fH:=zxf f;rw[← bn]at bC fH ⊢;have z1:¬nx=nx+1:=by omega
 have z2:¬nx=nx+1+1:=by omega
 have z3:¬nx=nx+2+1:=by omega
 have z4:¬nx=nx+1+1+1:=by omega
 simp[go_sem,iK,bO,z2,z3];refine aB.use bC ?_;have wC:(f.size:Int)≤200↔f.size≤200:=by omega
 by_cases h1:200<f.size
 ·have yj:(200:Int)<(f.size:Int):=by omega
  rw[if_pos (.inl h1)]at hr;simp[go_sem,aA,aI,yj];refine fE _ _ _ hr.symm ?_;simp(disch:=omega)only[aK,az.refl]
 have yj:¬(200:Int)<(f.size:Int):=by omega
 by_cases h2:20<f.deep
 ·have zR:(20:Int)<(f.deep:Int):=by omega
  rw[if_pos (.inr h2)]at hr;simp[go_sem,aA,aI,yj,zR];refine fE _ _ _ hr.symm ?_;simp(disch:=omega)only[aK,az.refl]
 have zR:¬(20:Int)<(f.deep:Int):=by omega
 rw[if_neg (by omega)]at hr;simp[go_sem,aA,iK,bO,z2,z3,yj,zR];refine aB.use fH ?_;simp[go_sem,aA];obtain⟨fn,_⟩:∃fn:FuncId,fn=fn:=⟨0,rfl⟩;refine Lf iQ QH (first:=[]) (cap:=[.ip cK]) (fn0:=fn) (by simp[go_sem]) ?_;generalize cN:ABlk.loop LoopState.ready none fn 63 _ _ _ _ _=rec;obtain⟨iP,nK⟩:∃iP,iP=(match rec with |.loop _ _ fn sz tm ps x y db=>ABlk.loop .done (some .ret) fn sz tm ps x y db |b=>b):=⟨_,rfl⟩;rw[bn];refine(zEy (S:=Int) (step:=eN nm kn d) (Pre:=fun _ _=>True) (i:=nx+5)
  (J:=JC nx rec (bx 35 [.fz 4 u (aN d)] false 0) (bx 48 [.func kf [] cap] false 0)) (JE:=JC nx iP (bx 35 [.fz 4 u (aN d)] false 0) (bx 48 [.func kf [] cap] false 0)) ?_ f 0 (fun k=>nx≤k∧k≤nx+5) _ _ (by omega) (R5 (mu:=fun _=>0) (N:=16777216) (fun _ _=>Nat.zero_le _) (fun _ _ _=>trivial) 0 f (by show 0+f.size≤_;omega)) ?_).mono ?_
 ·refine⟨?_,fun s O h' n hj k hk=>by obtain⟨_,_,_,_,_,j1,j2⟩:=hj;have:=(j1 k).1 hk;omega,?_⟩
  ·rintro s O h1 n1 h2 n2 ⟨j1,j2,j3,j4,j5,j6,j7⟩ hk hle
   refine⟨?_,?_,?_,?_,?_,j6,by omega⟩
   all_goals (rw[hk _ ((j6 _).2 (by omega))];assumption)
  ·intro s O x h1 n1 _ hj;obtain⟨K,hK⟩:∃K:AV→Tr ABlk→Nat→Prop,K=fun v g ny=>v=.bool (eN nm kn d s x).2∧∃O',ew O h1 n1 O' g ny∧(if (eN nm kn d s x).2 then JC nx rec (bx 35 [.fz 4 u (aN d)] false 0) (bx 48 [.func kf [] cap] false 0) (eN nm kn d s x).1 O' g ny else JC nx iP (bx 35 [.fz 4 u (aN d)] false 0) (bx 48 [.func kf [] cap] false 0) (eN nm kn d s x).1 O' g ny):=⟨_,rfl⟩;rw[← hK];obtain⟨j1,j2,j3,j4,j5,j6,j7⟩:=hj;have hL:=j5;rw[← cN]at hL;refine Kg hL rfl (by simp) (bl ?_);have hxf:=zMk nm x (iC _);have nl:¬nx+5=n1:=by omega
   have pZ:¬n1=nx+5:=(by omega);have nl3:¬nx+3=nx+5:=(by omega);have Ds:¬nx+3=n1:=(by omega);have nl5:¬nx+1=nx+5:=(by omega);have JA:¬nx+1=n1:=(by omega);have Px:¬nx+2=nx+5:=(by omega);have yP:¬nx+2=n1:=(by omega);have yM:∀st bh fn sz tm ps x y db,ABlk.loop st bh fn sz tm ps x y db=rec→ABlk.loop .done (some .ret) fn sz tm ps x y db=iP:=by
    intro st bh fn sz tm ps x y db e;rw[nK,← e]
   have yr:∀g:Tr ABlk,(∀k,k<n1→k≠nx+5→k≠nx+3→g.get k=h1.get k)→ew O h1 n1 O g (n1+1):=fun g hg=>⟨Nat.le_succ _,fun k hk ho=>hg k hk (fun e=>ho ((j6 k).2 (by omega))) (fun e=>ho ((j6 k).2 (by omega))),fun k hk=>.inl hk⟩;have fg:∀(c:Int) (M:Tr ABlk),c≠0→lU nm kn d x=c→(∀k,k<n1→k≠nx+5→M.get k=h1.get k)→K (.bool false) ((M.put (nx+3) (some (bx 44 [.int .i64 c] false 0))).put (nx+5) (some iP)) (n1+1):=by
    intro c M gQ hc hM;have aU:eN nm kn d s x=(c,false):=by unfold eN;rw[hc,if_neg gQ]
    rw[hK,aU];refine⟨rfl,O,yr _ (fun k k1 k2 k3=>by rw[Tr.get_put,if_neg k2,Tr.get_put,if_neg k3];exact hM k k1 k2),?_⟩;rw[if_neg (by simp)];refine⟨?_,?_,?_,?_,?_,j6,by omega⟩
    ·rw[Tr.get_put,if_neg (by omega),Tr.get_put,if_neg (by omega),hM _ (by omega) (by omega)];exact j1
    ·rw[Tr.get_put,if_neg (by omega),Tr.get_put,if_neg (by omega),hM _ (by omega) (by omega)];exact j2
    ·rw[Tr.get_put,if_neg (by omega),Tr.get_put,if_pos rfl]
    ·rw[Tr.get_put,if_neg (by omega),Tr.get_put,if_neg (by omega),hM _ (by omega) (by omega)];exact j4
    ·rw[Tr.get_put,if_pos rfl]
   have yn:∀(M:Tr ABlk),lU nm kn d x=0→(∀k,k<n1→k≠nx+5→M.get k=h1.get k)→K (.bool true) (M.put (nx+5) (some rec)) (n1+1):=by
    intro M hc hM;have aU:eN nm kn d s x=(s,true):=by unfold eN;rw[hc,if_pos rfl]
    rw[hK,aU];refine⟨rfl,O,yr _ (fun k k1 k2 k3=>by rw[Tr.get_put,if_neg k2];exact hM k k1 k2),?_⟩;rw[if_pos rfl];refine⟨?_,?_,?_,?_,?_,j6,by omega⟩
    ·rw[Tr.get_put,if_neg (by omega),hM _ (by omega) (by omega)];exact j1
    ·rw[Tr.get_put,if_neg (by omega),hM _ (by omega) (by omega)];exact j2
    ·rw[Tr.get_put,if_neg (by omega),hM _ (by omega) (by omega)];exact j3
    ·rw[Tr.get_put,if_neg (by omega),hM _ (by omega) (by omega)];exact j4
    ·rw[Tr.get_put,if_pos rfl]
   cases x with
   |mk o nn cm m kids=>
   simp only[lU]at fg yn;simp[go_sem,putP,Fm.cs,aI];refine⟨none,fn,63,_,_,_,_,nx+1+1+1+1,by simp[go_sem,nl];exact hL,bl ?_⟩;generalize mJ:ABlk.loop LoopState.busy none fn 63 _ _ _ _ _=JG;have qI:∀(X Y:Option ABlk) (k:Nat),k<n1→k≠nx+5→(((h1.put n1 X).put n1 Y).put (nx+5) (some JG)).get k=h1.get k:=fun X Y k k1 k2=>by
    rw[Tr.get_put,if_neg k2,Tr.get_put,if_neg (by omega),Tr.get_put,if_neg (by omega)]
   simp[go_sem,pZ];refine aB.use hxf ?_;cases yx:rJ nm (.mk o nn cm m kids) with
   |false=>
    rw[yx]at fg;simp[go_sem,aA,Ds,j3];refine BH mJ (by simp[go_sem]) (yM _ _ _ _ _ _ _ _ _ cN) ?_;exact fg 1 _ (by decide) rfl (qI _ _)
   |true=>
    rw[yx]at fg yn
    by_cases o3:o=3
    ·subst o3
     by_cases m0:m<0
     ·simp[go_sem,aA,pZ,Ds,j3,m0];refine BH mJ (by simp[go_sem]) (yM _ _ _ _ _ _ _ _ _ cN) ?_;exact fg 10 _ (by decide) (by simp[m0]) (qI _ _)
     by_cases m1:1000000<m
     ·simp[go_sem,aA,pZ,Ds,j3,m0,m1];refine BH mJ (by simp[go_sem]) (yM _ _ _ _ _ _ _ _ _ cN) ?_;exact fg 10 _ (by decide) (by simp[m0,m1]) (qI _ _)
     simp[go_sem,aA,pZ,JA,j1,m0,m1];refine aB.use (zxo u d nn hd) ?_
     by_cases jW:bj (fun x:Fc=>decide (x.name=nn)) d<0
     ·simp[go_sem,aA,Ds,j3,jW];refine BH mJ (by simp[go_sem]) (yM _ _ _ _ _ _ _ _ _ cN) ?_;exact fg 7 _ (by decide) (by simp[m0,m1,jW]) (qI _ _)
     ·simp[go_sem,aA,pZ,yP,j2,jW];refine xx mJ (by simp[go_sem]) cN ?_;exact yn _ (by simp[m0,m1,jW]) (qI _ _)
    by_cases o4:o=4
    ·subst o4;have dB:=Gd nn;simp[go_sem,aA,pZ,JA,yP,j1,j2];refine aB.use dB ?_;cases fV:kn nn with
     |false=>
      simp[go_sem,aA,Ds,j3];refine BH mJ (by simp[go_sem]) (yM _ _ _ _ _ _ _ _ _ cN) ?_;exact fg 7 _ (by decide) (by simp[fV]) (qI _ _)
     |true=>
      simp[go_sem,aA];refine xx mJ (by simp[go_sem]) cN ?_;exact yn _ (by simp[fV]) (qI _ _)
    simp[go_sem,aA,pZ,JA,yP,j1,j2,o3,o4];refine xx mJ (by simp[go_sem]) cN ?_;exact yn _ (by simp[o3,o4]) (qI _ _)
 ·refine⟨?_,?_,?_,?_,?_,fun k=>Iff.rfl,by omega⟩
  all_goals (simp(disch:=omega) [go_sem])
 ·rintro v g ny ⟨O',hK,hq⟩
  have E1:az nx h g:=by
   intro k hk;have:=hK.2.1 k (by omega) (by omega);rw[this];simp(disch:=omega) [go_sem,show ¬k=nx by omega,show ¬k=nx+1 by omega,show ¬k=nx+2 by omega,show ¬k=nx+3 by omega,show ¬k=nx+4 by omega,show ¬k=nx+5 by omega]
  by_cases hs:(df (eN nm kn d) 0 f).2=true
  ·rw[if_pos hs]at hq;obtain⟨j1,j2,j3,j4,j5,j6,j7⟩:=hq;refine RI cN j5 ?_;simp[go_sem,j3,j4];refine fE _ _ _ ?_ ?_
   ·rw[hr,Iw (J6 nm kn d) 0 f hs]
   ·simp(disch:=omega)only[aK];exact E1
  ·rw[if_neg hs]at hq;obtain⟨j1,j2,j3,j4,j5,j6,j7⟩:=hq;refine zxv (by rw[nK,← cN]) j5 ?_;simp[go_sem,j3,j4];refine fE _ _ _ hr.symm ?_;simp(disch:=omega)only[aK];exact E1
def Y6:cx.ft.get 38=some Tryz.f38:=aO
def zGt (s:ByteArray):aM 86 ([.bs s]++[.ip [.sl0]]) (.bool false):=by
 refine aB.mk fun h nx R hR=>aP Zu (sz:=7) (rs:=[.tmp 3]) ?_;simp[go_sem];refine aB.use (zzi s) ?_;simp[go_sem,aA];exact hR _ _ _ (az.refl _ _) (Fz.eq rfl rfl)
def zH8 (v:Bool)(l:List ByteArray)(s:ByteArray)(hl:l.length≤1000000000):aM 86 ([.bs s]++[.ip [.fz 1 v (bp l)]]) (.bool (decide (0≤fy s l))):=by
 refine aB.mk fun h nx R hR=>aP Zu (sz:=7) (rs:=[.tmp 3]) ?_;simp[go_sem];refine aB.use (zyt v l s hl) ?_;simp[go_sem,aA];exact hR _ _ _ (az.refl _ _) (Fz.eq rfl rfl)
def XY (nm:ByteArray→Bool)(u:Bool)(d:List Fc)(f:Fm)(hf:f.size≤1000000)(hd:d.length≤1000000000)(iC:∀s,aM 193 [.bs s] (.bool (nm s))):
  aM 38 [.agg f.cs,.agg [.fz 4 u (aN d)],.sl0] (.int .i64 (rH nm (fun _=>false) d f)):=by
 refine aB.mk fun h nx R hR=>bf.ofLe fun hG=>aP Y6 (sz:=11) (rs:=[.tmp 6]) ?_;have hc:=XF nm (fun _=>false) u d 86 [.ip [.sl0]] f hf hd iC zGt;obtain⟨cK,bn⟩:∃l,l=f.cs:=⟨_,rfl⟩;have iK:cK.length=5:=by rw[bn];cases f;rfl
 have bO:cK.take 5=cK:=ar (by omega);have qZ:bJ cK=true:=by rw[bn];exact f.cs_plain
 rw[← bn]at hc ⊢;have z1:¬nx=nx+1:=by omega
 have z2:¬nx=nx+1+1:=by omega
 have z3:¬nx=nx+2:=by omega
 simp[go_sem,iK,bO,z2];refine aB.useB uf hc rfl (.cons _ _ _ _ (Fz.same _ (by simp[plain,qZ])) (.cons _ _ _ _ (Fz.same _ (by simp[plain,bJ,DF])) (.cons _ _ _ _ (.func 86 _ _ _ _ .nil (.cons _ _ _ _ (xp (t:=25) (opn:=false) (esz:=0) (by omega) (by simp[go_sem]) (by simp[plain,bJ])) .nil)) .nil))) ?_;simp[go_sem,aA];refine hR _ _ _ ?_ (Fz.eq rfl rfl);simp(disch:=omega)only[aK,az.refl]
def zJv (nm:ByteArray→Bool)(u v:Bool)(d:List Fc)(l:List ByteArray)(f:Fm)(hf:f.size≤1000000)(hd:d.length≤1000000000)(hl:l.length≤1000000000)(iC:∀s,aM 193 [.bs s] (.bool (nm s))):
  aM 38 [.agg f.cs,.agg [.fz 4 u (aN d)],.fz 1 v (bp l)] (.int .i64 (rH nm (fun s=>decide (0≤fy s l)) d f)):=by
 refine aB.mk fun h nx R hR=>bf.ofLe fun hG=>aP Y6 (sz:=11) (rs:=[.tmp 6]) ?_;have hc:=XF nm (fun s=>decide (0≤fy s l)) u d 86 [.ip [.fz 1 v (bp l)]] f hf hd iC (fun s=>zH8 v l s hl);obtain⟨cK,bn⟩:∃l,l=f.cs:=⟨_,rfl⟩;have iK:cK.length=5:=by rw[bn];cases f;rfl
 have bO:cK.take 5=cK:=ar (by omega);have qZ:bJ cK=true:=by rw[bn];exact f.cs_plain
 have hpB:bJ (bp l)=true:=by
  clear hl hc hR
  induction l with
  |nil=>rfl
  |cons x l ih=>simp[bp,bJ,plain]at ih ⊢;exact ih
 rw[← bn]at hc ⊢;have z1:¬nx=nx+1:=by omega
 have z2:¬nx=nx+1+1:=by omega
 have z3:¬nx=nx+2:=by omega
 simp[go_sem,iK,bO,z2];refine aB.useB uf hc rfl (.cons _ _ _ _ (Fz.same _ (by simp[plain,qZ])) (.cons _ _ _ _ (Fz.same _ (by simp[plain,bJ,DF])) (.cons _ _ _ _ (.func 86 _ _ _ _ .nil (.cons _ _ _ _ (xp (t:=25) (opn:=false) (esz:=0) (by omega) (by simp[go_sem]) (by simp[plain,bJ,hpB])) .nil)) .nil))) ?_;simp[go_sem,aA];refine hR _ _ _ ?_ (Fz.eq rfl rfl);simp(disch:=omega)only[aK,az.refl]
end
section
open Go.Proofs Go.RowKit
def zMq {nm kn:ByteArray→Bool}{d:List Fc}(iC:∀s,nm s=true→s.size≤1000){o c m:Int}{n:ByteArray}{kids:List Fm}(h:lU nm kn d (.mk o n c m kids)=0):dh o∧dh c∧dh m∧n.size≤1000∧(o=5→kids≠[]):=by
 simp only[lU]at h;cases hf:rJ nm (.mk o n c m kids) with
 |false=>rw[hf]at h;simp at h
 |true=>
  rw[hf,if_neg (by simp)]at h;simp only[rJ]at hf
  by_cases h1:o≠3∧(c≠0∨m≠0)
  ·rw[if_pos h1]at hf;cases hf
  rw[if_neg h1]at hf
  by_cases h2:o≠3∧o≠4∧n≠⟨#[]⟩
  ·rw[if_pos h2]at hf;cases hf
  rw[if_neg h2]at hf;have hz:∀k:Int,0≤k→k≤1000000→dh k:=fun k a b=>⟨by omega,by omega⟩
  by_cases o3:o=3
  ·subst o3;rw[if_neg (by omega),if_pos rfl]at hf;simp only[ao,decide_eq_true_eq]at hf;obtain⟨⟨_,hn⟩,c1,c6⟩:=hf
   by_cases hm:(3:Int)=3∧(m<0∨1000000<m)
   ·rw[if_pos hm]at h;simp at h
   ·exact⟨hz _ (by omega) (by omega),hz _ (by omega) (by omega),hz _ (by omega) (by omega),iC _ hn,fun e=>absurd e (by omega)⟩
  ·have hc:c=0:=by
    rcases Int.lt_trichotomy c 0 with q |q |q
    ·exact absurd ⟨o3,.inl (by omega)⟩ h1
    ·exact q
    ·exact absurd ⟨o3,.inl (by omega)⟩ h1
   have hm:m=0:=by
    rcases Int.lt_trichotomy m 0 with q |q |q
    ·exact absurd ⟨o3,.inr (by omega)⟩ h1
    ·exact q
    ·exact absurd ⟨o3,.inr (by omega)⟩ h1
   subst hc;subst hm
   by_cases G7:o=1∨o=2
   ·refine⟨hz _ (by omega) (by omega),hz _ (by omega) (by omega),hz _ (by omega) (by omega),?_,fun e=>absurd e (by omega)⟩
    by_cases hn:n=⟨#[]⟩
    ·rw[hn];decide
    ·exact absurd ⟨o3,by omega,hn⟩ h2
   rw[if_neg G7,if_neg o3]at hf
   by_cases o4:o=4
   ·subst o4;rw[if_pos rfl]at hf;simp only[ao,decide_eq_true_eq]at hf;exact⟨hz _ (by omega) (by omega),hz _ (by omega) (by omega),hz _ (by omega) (by omega),iC _ hf.2,fun e=>absurd e (by omega)⟩
   have hn:n=⟨#[]⟩:=by
    by_cases hn:n=⟨#[]⟩
    ·exact hn
    ·exact absurd ⟨o3,o4,hn⟩ h2
   have AO:n.size≤1000:=by rw[hn];decide
   rw[if_neg o4]at hf
   by_cases o5:o=5
   ·subst o5;rw[if_pos rfl]at hf;simp only[decide_eq_true_eq]at hf;exact⟨hz _ (by omega) (by omega),hz _ (by omega) (by omega),hz _ (by omega) (by omega),AO,fun _ e=>by rw[e]at hf;simp at hf⟩
   rw[if_neg o5]at hf
   by_cases G8:o=6∨o=7
   ·exact⟨hz _ (by omega) (by omega),hz _ (by omega) (by omega),hz _ (by omega) (by omega),AO,fun e=>absurd e o5⟩
   ·rw[if_neg G8]at hf;cases hf
mutual
def Tx {nm kn:ByteArray→Bool}{d:List Fc}(iC:∀s,nm s=true→s.size≤1000):∀f,(df (eN nm kn d) 0 f).1=0→(df (eN nm kn d) 0 f).2=true∧iY f
 |.mk o n c m kids,h=>by
  rw[df]at h ⊢
  by_cases hc:lU nm kn d (.mk o n c m kids)=0
  ·have hs:eN nm kn d 0 (.mk o n c m kids)=(0,true):=by unfold eN;rw[if_pos hc]
   rw[hs]at h ⊢;simp only[if_true]at h ⊢;obtain⟨a1,a2⟩:=zxt iC kids h;obtain⟨b1,b2,b3,b4,b5⟩:=zMq iC hc;exact⟨a1,b1,b2,b3,b4,b5,a2⟩
  ·have hs:eN nm kn d 0 (.mk o n c m kids)=(lU nm kn d (.mk o n c m kids),false):=by unfold eN;rw[if_neg hc]
   rw[hs]at h;simp at h;exact absurd h hc
def zxt {nm kn:ByteArray→Bool}{d:List Fc}(iC:∀s,nm s=true→s.size≤1000):∀l,(gh (eN nm kn d) 0 l).1=0→(gh (eN nm kn d) 0 l).2=true∧kF l
 |[],_=>⟨by rw[gh],trivial⟩
 |f::l,h=>by
  rw[gh]at h ⊢
  by_cases h1:(df (eN nm kn d) 0 f).2=true
  ·rw[if_pos h1]at h ⊢;have h0:=Iw (J6 nm kn d) 0 f h1;rw[h0]at h ⊢;obtain⟨a1,a2⟩:=Tx iC f h0;obtain⟨b1,b2⟩:=zxt iC l h;exact⟨b1,a2,b2⟩
  ·rw[if_neg h1]at h;exact absurd (Tx iC f h).1 h1
end
def Mo {nm kn:ByteArray→Bool}{d:List Fc}{f:Fm}(iC:∀s,nm s=true→s.size≤1000)(h:rH nm kn d f=0):iY f∧f.size≤200:=by
 unfold rH at h
 by_cases h1:200<f.size∨20<f.deep
 ·rw[if_pos h1]at h;simp at h
 ·rw[if_neg h1]at h;exact⟨(Tx iC f h).2,by omega⟩
def zN0 {l:List Fc}(h:dH l=true):Ci l:=by
 by_cases hp:Ci l
 ·exact hp
 ·rw[LM hp]at h;cases h
def zIe (nm:ByteArray→Bool)(u:Bool)(d:List Fc)(f:Fm)(hl:d.length≤1000000000)(hs:∀f∈d,f.name.size≤1000000000)(hf:f.size≤1000000)(iC:∀s,aM 193 [.bs s] (.bool (nm s)))(qX:∀s,nm s=true→s.size≤1000):
  aM 93 [.agg f.cs,.agg [.fz 4 u (aN d)]] (D8 (rH nm (fun _=>false) d f) d f):=by
 refine zQc u d f _ hl hs hf (XY nm u d f hf hl iC) fun h1 h2=>?_;obtain⟨a1,a2⟩:=Mo qX h2;obtain⟨⟨b1,_⟩,b2⟩:=zN0 h1;refine⟨a1,by omega,by omega,fun x hx=>?_⟩
 rcases (b1 x hx).1 with⟨_,e1,e2⟩ |⟨_,e1,e2,e3⟩
 ·exact⟨by omega,⟨by omega,by omega⟩,⟨by omega,by omega⟩⟩
 ·exact⟨by omega,⟨by omega,by omega⟩,⟨by omega,by omega⟩⟩
end
section
open Go.Proofs Go.RowKit
attribute [-go_sem] dN bX fC jg
def zMb:cx.ft.get 223=some Tryz.f223:=aO
def zMi:cx.ft.get 264=some Tryz.f264:=aO
def zEv (l:List UInt8):bT l=l.map fun z=>.int .u8 (Int.ofNat z.toNat):=by
 induction l with
 |nil=>rfl
 |cons x l ih=>rw[show bT (x::l)=.int .u8 (x.toNat:Int)::bT l from rfl,ih];rfl
@[go_sem] theorem zX6 (e s1 s2 d1 d2 t1 t2:Nat)(s3 d3 t3:Option AV)(s4 d4 t4:List (Nat×Nat×Bool))(b:ByteArray)(h:Tr ABlk) (nx:Nat):
  fC (.mk .string s1 s2 s3 s4) (.mk (.slice e) d1 d2 d3 d4) (some (.mk (.int .u8) t1 t2 t3 t4)) e (.bs b) h nx=.val (.sl nx 0 b.size 0 true) (h.put nx (some (bx e (bT b.data.toList) true 1))) (nx+1):=by
 have hl:(bT b.data.toList).length=b.size:=by rw[ux,Array.length_toList];rfl
 have hb:Nat.beq e e=true:=Nat.beq_refl e;simp only[fC,hb];unfold bx;rw[hl,zEv]
def vO (l:List UInt8) (a:Int):Int:=l.foldl (fun a z=>a * 10+((z.toNat:Int)-48)) a
def Cw:Nat→Int
 |0=>0
 |n+1=>Cw n * 10+9
def zO5:∀j,j<8→Cw j≤9999999:=by decide
def zNb (s:ByteArray)(h1:1≤s.size)(h7:s.size≤7)(hd:∀z∈s.data.toList,48≤z.toNat∧z.toNat≤57):aM 264 [.bs s] (.tup [.int .i64 (vO s.data.toList 0),.nilIface]):=by
 refine aB.mk fun h nx R hR=>aP zMi (sz:=77) (rs:=[.tmp 2,.tmp 3]) ?_;have q1:(0:Int)<(s.size:Int):=by omega
 have q2:(s.size:Int)<10:=by omega
 have q3:(s.size:Int)<19:=by omega
 have q4:0<s.size:=by omega
 have bC:s.data.toList.length=s.size:=by rw[Array.length_toList];rfl
 have pV:48≤(s[0]'q4).toNat:=(hd _ (by rw[ByteArray.getElem_eq_getElem_data];simp)).1;have n45:¬(((s[0]'q4).toNat:Int)=45):=by omega
 have n43:¬(((s[0]'q4).toNat:Int)=43):=by omega
 have m45:¬((s[0]'q4).toNat=45):=by omega
 have m43:¬((s[0]'q4).toNat=43):=by omega
 have nC:=ux s.data.toList;simp[go_sem,q3,q4,n45,n43];refine bF (fun mm st=>∃tm j a,st=.mk tm (h.put nx (some (bx 5 (bT s.data.toList) true 1))) (nx+1) []∧mm=s.size-j∧j≤s.size∧tm.get 5=some (.bs s)∧tm.get 6=some (.int .i64 a)∧tm.get 47=some (.sl nx 0 s.size 0 true)∧tm.get 48=some (.int .i64 (s.size:Int))∧tm.get 49=some (.int .i64 (j:Int))∧0≤a∧a≤Cw j∧RowKit.Hid (vO s.data.toList 0=vO (s.data.toList.drop j) a)) ⟨s.size,_,0,0,rfl,by simp,by simp,?_⟩ ?_
 ·simp[go_sem];exact⟨by simp[Cw],Lib.hid trivial⟩
 ·rintro mm st ⟨tm,j,a,rfl,rfl,hj,t5,t6,t47,t48,t49,a0,ab,hv⟩ J hJ
  refine bl ?_
  by_cases ay:j<s.size
  ·have kr:j<s.data.toList.length:=(by omega);obtain⟨z,hz⟩:∃z,z=s.data.toList[j]:=⟨_,rfl⟩;obtain⟨z1,z2⟩:=hd z (by rw[hz];exact ah kr);have ig:∀hh,(bT s.data.toList)[j]'hh=.int .u8 (z.toNat:Int):=fun hh=>by
    simp only[zEv,List.getElem_map,← hz];rfl
   have aF:=hv.out;rw[aj kr,← hz]at aF;have bg:vO s.data.toList 0=vO (s.data.toList.drop (j+1)) (a * 10+((z.toNat:Int)-48)):=aF;have HV:=Lib.hid bg;clear aF bg hv;have w8:IntKind.u8.wrap ((z.toNat:Int)-48)=(z.toNat:Int)-48:=by
    simp only[IntKind.wrap,IntKind.signed,IntKind.bits,Bool.false_and,Bool.false_eq_true,if_false];exact Int.emod_eq_of_lt (by omega) (by show _<(256:Int);omega)
   have tf:Cw (j+1)=Cw j * 10+9:=rfl;have hb7:=zO5 (j+1) (by omega);have wa:IntKind.i64.wrap (a * 10)=a * 10:=aS _ (by omega) (by omega);have wb:IntKind.i64.wrap ((z.toNat:Int)-48)=(z.toNat:Int)-48:=aS _ (by omega) (by omega);have wc:IntKind.i64.wrap (a * 10+((z.toNat:Int)-48))=a * 10+((z.toNat:Int)-48):=aS _ (by omega) (by omega);have g9:¬(9:Int)<(z.toNat:Int)-48:=(by omega);simp[go_sem,t6,t47,t48,t49,ay,ig,nC,bC,w8,wa,wb,wc,g9];refine hJ (s.size-(j+1)) _ (by omega) ⟨_,j+1,a * 10+((z.toNat:Int)-48),rfl,rfl,by omega,?_⟩;simp(disch:=omega) [go_sem,t5,t47,t48,aS];exact⟨by omega,by omega,HV⟩
  ·have yE:j=s.size:=(by omega);have aF:=hv.out;rw[al (by omega)]at aF;simp[go_sem,t5,t6,t48,t49,ay,q4,n45];have bg:vO s.data.toList 0=a:=aF;refine hR _ _ _ ?_ ?_
   ·simp(disch:=omega)only[aK,az.refl]
   ·rw[bg];exact Fz.same _ rfl
def zQx (s:ByteArray)(h1:1≤s.size)(h7:s.size≤7)(hd:∀z∈s.data.toList,48≤z.toNat∧z.toNat≤57):aM 223 [.bs s] (.tup [.int .i64 (vO s.data.toList 0),.nilIface]):=by
 refine aB.mk fun h nx R hR=>aP zMb (sz:=18) (rs:=[.tmp 2,.tmp 3]) ?_;simp[go_sem];refine aB.use (zNb s h1 h7 hd) ?_;simp[go_sem,aA];exact hR _ _ _ (az.refl _ _) (Fz.same _ rfl)
end
inductive CO where
 |ok (v:AV) (h:Tr ABlk) (nx:Nat)
 |fail
inductive OS where
 |ok (tm:Tr AV) (h:Tr ABlk) (nx:Nat)
 |fail
inductive ER where
 |norm (tm:Tr AV) (h:Tr ABlk) (nx:Nat) (ds:List DE)
 |exit (id:Nat) (tm:Tr AV) (h:Tr ABlk) (nx:Nat) (ds:List DE)
 |ret (tm:Tr AV) (h:Tr ABlk) (nx:Nat) (ds:List DE)
 |fail
abbrev Ca:=FuncId→List AV→Tr ABlk→Nat→CO
abbrev Ya:=Nat→List AV→Tr ABlk→Nat→CO
def zL (v:AV)(g:Tr ABlk) (ny:Nat):AV→Tr ABlk→Nat→Prop:=fun v' g' pc=>v'=v∧g'=g∧pc=ny
def jO (P:Program)(c:Cx)(ca:Ca):Prop:=∀f args h nx v g ny,ca f args h nx=.ok v g ny→bf P c f args h nx (zL v g ny)
def qt (P:Program)(c:Cx)(ya:Ya):Prop:=∀i args h nx v g ny,ya i args h nx=.ok v g ny→ui P c i args h nx (zL v g ny)
noncomputable section
def vy (sz:Nat)(d:Option Tmp)(v:AV)(tm:Tr AV)(k:Tr AV→OS):OS:=
 match d with
 |none=>k tm
 |some d=>match Nat.ble (Nat.succ d) sz with
  |true=>tm.putK (some v) d k
  |false=>.fail
def zGc (sz:Nat)(dst:Option Tmp)(tm:Tr AV)(k:Tr AV→Tr ABlk→Nat→OS)(r:R):OS:=
 match r with
 |.val v h nx=>vy sz dst v tm fun tm=>k tm h nx
 |.unit h nx=>vy sz dst (.tup []) tm fun tm=>k tm h nx
 |.fail=>.fail
def Me (sz:Nat)(dst:Option Tmp)(tm:Tr AV)(k:Tr AV→Tr ABlk→Nat→OS)(r:CO):OS:=
 match r with
 |.ok v h nx=>vy sz dst v tm fun tm=>k tm h nx
 |.fail=>.fail
def KQ (ca:Ca)(ya:Ya)(f:Option AV)(l:Option (List AV))(h:Tr ABlk) (nx:Nat):CO:=
 match f with
 |some (.func fid first cap)=>match l with
  |some l=>ca fid (first++(l++cap)) h nx
  |none=>.fail
 |some (.yld i)=>match l with
  |some l=>ya i l h nx
  |none=>.fail
 |_=>.fail
def CD (c:Cx)(op:Op)(tm:Tr AV)(h:Tr ABlk) (nx:Nat):R:=match op with
 |.slice t x (some lo) none none=>match c.tt.get t with
  |some (.mk (.slice _) _ _ _ ((_,s,_)::_))=>match aL c.G tm x with
   |some (.sl _ _ len _ true)=>match aL c.G tm lo with
    |some (.int .i64 (.ofNat l))=>match Nat.beq l len with
     |true=>.val (.fz s false []) h nx
     |false=>.fail
    |_=>.fail
   |_=>.fail
  |_=>.fail
 |_=>.fail
def PA (r q:R):R:=match r with
 |.val v h nx=>.val v h nx
 |.unit h nx=>.unit h nx
 |.fail=>q
def zy0 (c:Cx)(ca:Ca)(ya:Ya) (sz:Nat)(o:Oper)(tm:Tr AV)(h:Tr ABlk) (nx:Nat)(k:Tr AV→Tr ABlk→Nat→OS):OS:=
 match kZ o.op with
 |some (f,args)=>Me sz o.dst tm k (KQ ca ya (aL c.G tm f) (dz c.G tm args.toList) h nx)
 |none=>match rA o.op with
  |true=>.fail
  |false=>zGc sz o.dst tm k (PA (k7 c o.op tm h nx) (CD c o.op tm h nx))
def Ik (c:Cx)(ca:Ca)(ya:Ya) (sz:Nat)(ops:List Oper)(o:Oper)(tm:Tr AV)(h:Tr ABlk) (nx:Nat)(k:Tr AV→Tr ABlk→Nat→OS):OS:=
 match gU ops tm o with
 |none=>.fail
 |some false=>vy sz o.dst (.tup []) tm fun tm=>k tm h nx
 |some true=>zy0 c ca ya sz o tm h nx k
def Ia (c:Cx)(ca:Ca)(ya:Ya) (sz:Nat)(ops:List Oper)(l:List Oper):Tr AV→Tr ABlk→Nat→OS:=
 List.rec (motive:=fun _=>Tr AV→Tr ABlk→Nat→OS) (fun tm h nx=>.ok tm h nx) (fun o _ ih tm h nx=>Ik c ca ya sz ops o tm h nx ih) l
def KL (ds:List DE)(r:OS):ER:=match r with
 |.ok tm h nx=>.norm tm h nx ds
 |.fail=>.fail
abbrev CE:=Tr AV→Tr ABlk→Nat→List DE→ER
abbrev Ed:=Nat→Array Oper→Tr AV→Tr ABlk→Nat→OS
def zKa (c:Cx)(ca:Ca)(ya:Ya)(ed:Ed) (sz:Nat)(ops:Array Oper)(draw:Bool)(tm:Tr AV)(h:Tr ABlk) (nx:Nat)(ds:List DE):ER:=
 match draw with
 |false=>KL ds (Ia c ca ya sz ops.toList ops.toList tm h nx)
 |true=>KL ds (ed sz ops tm h nx)
def xT (k:CE)(r:ER):ER:=match r with
 |.norm tm h nx ds=>k tm h nx ds
 |.exit id tm h nx ds=>.exit id tm h nx ds
 |.ret tm h nx ds=>.ret tm h nx ds
 |.fail=>.fail
def zIj (ih:Code→CE)(a b:Code)(tm:Tr AV)(h:Tr ABlk) (nx:Nat)(ds:List DE):ER:=xT (ih b) (ih a tm h nx ds)
def zJt (ih:Code→CE)(a:Code)(tm:Tr AV)(h:Tr ABlk) (nx:Nat)(ds:List DE):ER:=xT (ih (.loop a)) (ih a tm h nx ds)
def zMx (c:Cx)(ih:Code→CE)(x:Operand)(a b:Code)(tm:Tr AV)(h:Tr ABlk) (nx:Nat)(ds:List DE):ER:=match aL c.G tm x with
 |some (.bool true)=>ih a tm h nx ds
 |some (.bool false)=>ih b tm h nx ds
 |_=>.fail
def XN (id:Nat)(r:ER):ER:=match r with
 |.norm tm h nx ds=>.norm tm h nx ds
 |.exit iD tm h nx ds=>match Nat.beq iD id with
  |true=>.norm tm h nx ds
  |false=>.exit iD tm h nx ds
 |.ret tm h nx ds=>.ret tm h nx ds
 |.fail=>.fail
def zP8 (ih:Code→CE) (id:Nat)(a:Code)(tm:Tr AV)(h:Tr ABlk) (nx:Nat)(ds:List DE):ER:=XN id (ih a tm h nx ds)
def zUs:CE:=fun _ _ _ _=>.fail
def busy:LoopState→Bool
 |.busy=>true
 |_=>false
def Yg (tm:Tr AV)(ds:List DE) (nx:Nat)(r:CO):ER:=match r with
 |.ok _ g ny=>match g.get (Nat.succ nx) with
  |some (.loop st bh _ _ _ _ _ _ _)=>match busy st with
   |true=>.fail
   |false=>match bh with
    |none=>g.putK none (Nat.succ nx) fun g=>.norm tm g ny (.mark nx::ds)
    |some .ret=>g.putK none (Nat.succ nx) fun g=>.ret tm g ny (.mark nx::ds)
    |some (.exit id)=>g.putK none (Nat.succ nx) fun g=>.exit id tm g ny (.mark nx::ds)
    |_=>.fail
  |_=>.fail
 |.fail=>.fail
def Rk (c:Cx)(ca:Ca)(inr:Bool) (sz:Nat)(go:Operand)(ps:Array Tmp)(assign body:Code)(tm:Tr AV)(h:Tr ABlk) (nx:Nat)(ds:List DE):ER:=match inr with
 |true=>.fail
 |false=>match aL c.G tm go with
  |some (.func fid first cap)=>match c.ft.get fid with
   |some _=>fN (Nat.succ nx) fun n1=>fN (Nat.succ n1) fun n2=>h.putK (some .dfr) nx fun h=>h.putK (some (.loop .ready none 0 sz tm ps assign body nx)) n1 fun h=>Yg tm ds nx (ca fid (first++(.yld n1::cap)) h n2)
   |none=>.fail
  |_=>.fail
def zS5 (c:Cx)(ca:Ca)(ya:Ya)(ed:Ed)(inr:Bool) (sz:Nat)(ih:Code→CE)(code:Code):CE:=
 match code with
 |.skip=>ER.norm
 |.label _=>ER.norm
 |.region _ ops draw=>zKa c ca ya ed sz ops draw
 |.seq a b=>zIj ih a b
 |.cond x a b=>zMx c ih x a b
 |.block id a=>zP8 ih id a
 |.loop a=>zJt ih a
 |.rangeFunc go ps x y=>Rk c ca inr sz go ps x y
 |.scope a=>ih a
 |.exit id=>ER.exit id
 |.ret=>ER.ret
 |_=>zUs
def jU (c:Cx)(ca:Ca)(ya:Ya)(ed:Ed)(inr:Bool) (sz:Nat) (m:Nat):Code→CE:=
 Nat.rec (motive:=fun _=>Code→CE) (fun _ _ _ _ _=>.fail) (fun _ ih=>zS5 c ca ya ed inr sz ih) m
def Tj (h:Tr ABlk)(ds:List DE)(k:Tr ABlk→CO):CO:=
 List.rec (motive:=fun _=>Tr ABlk→CO) k (fun d _ ih h=>match d with
  |.mark i=>match h.get i with
   |some .dfr=>h.putK none i ih
   |_=>.fail
  |.fn _ _ _=>.fail) ds h
def Mg (c:Cx)(rs:List ResultVar)(tm:Tr AV)(h:Tr ABlk) (nx:Nat)(ds:List DE):CO:=
 Tj h ds fun h=>match jy c tm h nx rs with
  |some l=>.ok (qj l) h nx
  |none=>.fail
def SW (c:Cx)(ca:Ca)(ya:Ya)(ed:Ca→Ya→Ed) (m:Nat):Ca:=fun f args h nx=>
 match c.ft.get f with
 |none=>.fail
 |some fn=>match fn.body with
  |none=>.fail
  |some code=>match Nat.ble args.length fn.ntmps with
   |false=>.fail
   |true=>rZ args .nil 0 fun tm=>match jU c ca ya (ed ca ya) false fn.ntmps m code tm h nx [] with
    |.norm tm h nx ds=>Mg c fn.results.toList tm h nx ds
    |.ret tm h nx ds=>Mg c fn.results.toList tm h nx ds
    |_=>.fail
def putPK (ps:List Tmp)(vs:List AV)(tm:Tr AV)(k:Tr AV→CO):CO:=
 List.rec (motive:=fun _=>List AV→Tr AV→CO) (fun _ tm=>k tm) (fun t _ ih vs tm=>match vs with
  |[]=>k tm
  |v::vs=>tm.putK (some v) t (ih vs)) ps vs tm
def Hp (i:Nat)(h:Tr ABlk)(b:Bool)(st:LoopState)(bh:Option Code) (nx:Nat):CO:=match h.get i with
 |some (.loop _ _ fn sz tm ps x y db)=>h.putK (some (.loop st bh fn sz tm ps x y db)) i fun h=>.ok (.bool b) h nx
 |_=>.fail
def Tt (c:Cx)(ca:Ca)(ya:Ya)(ed:Ca→Ya→Ed) (m:Nat):Ya:=fun i args h nx=>
 match h.get i with
 |some (.loop .ready _ _ sz fL ps assign body _)=>match Nat.beq args.length ps.toList.length && eJ ps.toList (fun t=>Nat.ble (Nat.succ t) sz) with
  |false=>.fail
  |true=>putPK ps.toList args fL fun tm=>match jU c ca ya (ed ca ya) true sz m assign tm h nx [] with
   |.norm tm h nx ds=>match h.get i with
    |some (.loop .ready bh fn Dv fL ps x y db)=>h.putK (some (.loop .busy bh fn Dv fL ps x y db)) i fun h=>match jU c ca ya (ed ca ya) true sz m body tm h nx ds with
     |.norm _ h nx _=>Hp i h true .ready none nx
     |.ret _ h nx _=>Hp i h false .done (some .ret) nx
     |.exit id _ h nx _=>Hp i h false .done (some (.exit id)) nx
     |.fail=>.fail
    |_=>.fail
   |_=>.fail
 |_=>.fail
inductive CY where
 |mk (ca:Ca) (ya:Ya)
def CY.ca:CY→Ca |.mk a _=>a
def CY.ya:CY→Ya |.mk _ y=>y
def ev (c:Cx)(tH:Ca→Ca)(ed:Ca→Ya→Ed) (m:Nat) (n:Nat):CY:=
 Nat.rec (motive:=fun _=>CY) (.mk (fun _ _ _ _=>.fail) (fun _ _ _ _=>.fail)) (fun _ ih=>.mk (tH (SW c ih.ca ih.ya ed m)) (Tt c ih.ca ih.ya ed m)) n
end
end
end Go.Ev
