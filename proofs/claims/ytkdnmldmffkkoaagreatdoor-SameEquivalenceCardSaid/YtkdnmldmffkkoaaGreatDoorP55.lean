/- Texts. -/
import Derived.Test.YtkdnmldmffkkoaaGreatDoorP54
set_option linter.unusedSimpArgs false
set_option linter.unusedVariables false
set_option maxRecDepth 100000
namespace Go.Ev
open Go.Proofs
noncomputable section
theorem V5 {α β:Type}{f:α→β}{P:α→Prop}(hf:∀x y,P x→P y→f x=f y→x=y):∀{l m:List α},(∀x∈l,P x)→(∀x∈m,P x)→l.map f=m.map f→l=m
 |[],[],_,_,_=>rfl
 |[],_::_,_,_,h=>by simp at h
 |_::_,[],_,_,h=>by simp at h
 |x::l,y::m,hl,hm,h=>by
  simp only[List.map_cons,List.cons.injEq]at h;rw[hf x y (hl x ao) (hm y ao) h.1,V5 hf (fun z hz=>hl z (ak _ hz)) (fun z hz=>hm z (ak _ hz)) h.2]
theorem yi3 {S:GS}{d:List Fc}(hg:GI S)(hc:uz d S.L)(hv:eQ d=true){root:Int}(hr:0≤root∧root<(S.L.length:Int))(hl:(bl S.L root).length≤20000):nS (cL S.L root) d:=by
 obtain⟨⟨t,ht⟩,ho,aX⟩:=Pe hg.wk hr;have oS:(cL S.L root).length=(bl S.L root).length:=by simp[cL]
 have gD:∀{i:Int},i∈bl S.L root→∃m,S.L[i.toNat]?=some m∧m∈S.L∧oD S.L i=m.kids∧dN S.L (bl S.L root) i=⟨m.fact,m.cuts,m.kids.map (cK (bl S.L root)),m.leaf⟩:=fun {i} hi=>by
  have h:=ho.2 i hi;have lF:i.toNat<S.L.length:=by omega
  have e:=aa lF;refine⟨S.L[i.toNat],e,ai lF,?_,?_⟩
  ·unfold oD;rw[CM e]
  ·unfold dN;rw[CM e]
 refine⟨hv,?_,by omega,fun n hn=>?_,?_,yii hg.wk hr⟩
 ·rw[oS,ht];simp
 ·obtain⟨i,hi,rfl⟩:=List.mem_map.1 hn;obtain⟨m,m1,m2,m3,m4⟩:=gD hi;rw[m4]
  by_cases hk:m.kids=[]
  ·refine .inl ⟨by simp[hk],?_⟩
   rcases hg.lf m m2 hk with e |e <;> rw[e] <;> exact⟨rfl,rfl⟩
  ·obtain⟨h1,h2,h3,h4,h5,h6,h7,h8,h9⟩:=hc m m2 hk;have Tq:m.fact.toNat<d.length:=by omega
   have e:d.getD m.fact.toNat ⟨.empty,0,0,0⟩=d[m.fact.toNat]:=by rw[an,aa Tq];rfl
   rw[e]at h6 h7;refine .inr ⟨by simpa using hk,h1,h2,h4,by simpa using h5,Tq,VB h6 h7,fun k eZ lz=>?_⟩;have ui:k<m.kids.length:=by simpa using eZ
   have vZ:m.kids[k]∈bl S.L root:=aX i hi _ (by rw[m3];exact ai ui);have hx:(m.kids.map (cK (bl S.L root)))[k]'eZ=(my (bl S.L root) m.kids[k]:Int):=by
    rw[List.getElem_map,uA vZ]
   have qi:=AY vZ;simp only[qH]at lz;rw[hx]at lz
   rcases lz with q |q |⟨q1,q2⟩ |⟨q1,q2,q3⟩
   ·omega
   ·omega
   ·have cO:k-1<m.kids.length:=by omega
    have Ol:m.kids[k-1]∈bl S.L root:=aX i hi _ (by rw[m3];exact ai cO);rw[an,List.getElem?_map,aa cO]at q2;have q3:cK (bl S.L root) m.kids[k-1]=cK (bl S.L root) m.kids[k]:=by rw[uA vZ];exact q2
    have q4:=Pg Ol vZ q3;have q5:=h8 (k-1) (by omega);rw[an,an,show k-1+1=k by omega,aa cO,aa ui]at q5;exact q5 q4
   ·have Cf:=O3 (L:=S.L) (root:=root) vZ;rw[Int.toNat_natCast]at q1;have lD:(cL S.L root)[my (bl S.L root) m.kids[k]]=dN S.L (bl S.L root) m.kids[k]:=by
     rw[aa q1]at Cf;exact Option.some.inj Cf
    obtain⟨m',n1,n2,n3,n4⟩:=gD vZ;simp only[Int.toNat_natCast]at q2 q3;rw[lD,n4]at q2 q3;simp only at q2 q3;obtain⟨_,m'',r1,r2⟩:=h9 _ (ai ui);rw[n1]at r1;cases r1;rw[bH,if_neg (by simpa using q2)]at r2;omega
 ·unfold cL;rw[List.map_map];refine List.pairwise_map.2 (ho.1.imp_of_mem fun {x y} hx hy aQ e=>aQ ?_);have e2:=VZ e;obtain⟨m,m1,m2,m3,m4⟩:=gD hx;obtain⟨n,n1,n2,n3,n4⟩:=gD hy;rw[m4,n4]at e2;simp only[Nd.mk.injEq]at e2;obtain⟨e3,e4,e5,e6⟩:=e2;have e7:m.kids=n.kids:=V5 (P:=fun z=>z∈bl S.L root) (fun a b ha hb h=>Pg ha hb h) (fun z hz=>aX x hx z (by rw[m3];exact hz)) (fun z hz=>aX y hy z (by rw[n3];exact hz)) e5;have e8:m=n:=by
   obtain⟨a1,a2,a3,a4⟩:=m;obtain⟨b1,b2,b3,b4⟩:=n;simp only at e3 e4 e6 e7;rw[e3,e4,e6,e7]
  have nJ:=ho.2 x hx;have Oj:=ho.2 y hy;have:=Px hg.nd (i:=x.toNat) (j:=y.toNat) (by omega) (by omega) (by
   rw[aa (by omega)]at m1 n1;rw[Option.some.inj m1,Option.some.inj n1,e8])
  omega
theorem yj9 {n:Nd}{w:Int}{j:Nat}(hk:n.kids.length=n.cuts.length+1)(hj:j≤n.cuts.length)(h1:∀(i:Nat)(h:i<n.cuts.length),i<j→n.cuts[i]≤w)(h2:∀h:j<n.cuts.length,w<n.cuts[j]):k9 n w=(j:Int):=by
 unfold k9
 by_cases e:j<n.cuts.length
 ·have hs:n.cuts=n.cuts.take j++n.cuts[j]::n.cuts.drop (j+1):=by rw[← aj e,List.take_append_drop]
  have hi:bS (fun c=>decide (w<c)) n.cuts=(j:Int):=by
   rw[hs,O7 (p:=fun c=>decide (w<c)) (by simpa using h2 e) fun x hx=>by
    obtain⟨i,hi,e2⟩:=List.getElem_of_mem hx;rw[List.getElem_take]at e2;rw[List.length_take]at hi;have:=h1 i (by omega) (by omega);rw[e2]at this;simp;omega]
   rw[List.length_take];omega
  rw[hi,if_neg (by omega)]
 ·rw[Gs fun x hx=>by
   obtain⟨i,hi,e2⟩:=List.getElem_of_mem hx;have:=h1 i hi (by omega);rw[e2]at this;simp;omega,if_pos (by omega)]
  omega
def BT (cs:List Int):Int→Int:=fun i=>cs.getD i.toNat 0
def AO (d:List Fc)(cs:List Int):Prop:=cs.length=d.length∧∀(k:Nat)(h:k<d.length),(d[k]).lo≤cs.getD k 0∧cs.getD k 0≤(d[k]).hi
theorem yio (cs:List Int) (i k:Nat) (x:Int):(cs.set i x).getD k 0=if i=k∧k<cs.length then x else cs.getD k 0:=by
 simp only[an,List.getElem?_set]
 by_cases e:i=k
 ·subst e
  by_cases h:i<cs.length
  ·simp[h]
  ·simp[h]
 ·simp[e]
theorem yj1 {g:List Nd}{d:List Fc}(hV:nS g d)(hN:∀n∈g,jH n):∀(f at_:Nat)(cs:List Int)(n:Nd),g[at_]?=some n→tI n=true→(d.length:Int)+1≤f+bH n d→AO d cs→(∀(k:Nat)(h:k<d.length),bH n d≤(k:Int)→cs.getD k 0=(d[k]).lo)→
  (∃m,g[(gW g f at_ cs).1]?=some m∧m.leaf=true)∧AO d (gW g f at_ cs).2∧(∀k:Nat,(k:Int)<bH n d→(gW g f at_ cs).2.getD k 0=cs.getD k 0)∧cV g (BT (gW g f at_ cs).2) (at_:Int) true:=by
 have hW:=(ZU hV hN).2.2;have iF:=hV.2.2.2.1;intro f
 induction f with
 |zero=>
  intro at_ cs n hn _ hf;have:bH n d≤d.length:=by
   rcases iF n (List.mem_of_getElem? hn) with⟨e,_⟩ |⟨e1,_,_,_,_,h6,_⟩
   ·rw[bH,if_pos e];exact Int.le_refl _
   ·rw[bH,if_neg e1];omega
  omega
 |succ f ih=>
  intro at_ cs n hn iC hf eh fu;have iE:=List.mem_of_getElem? hn;rw[gW];simp only[hn]
  by_cases hk:n.kids=[]
  ·rw[if_pos hk];have Cj:n.leaf=true:=by
    unfold tI at iC;simpa[hk]using iC
   refine⟨⟨n,hn,Cj⟩,eh,fun k _=>rfl,?_⟩;rw[← Cj];exact cV.leaf (by omega) (by rw[Int.toNat_natCast];exact hn) hk
  ·rw[if_neg hk];obtain⟨fi,e1,e2,e3,_,_,j,xi,m,j1,j2,j3,j4,j5⟩:=hW at_ n hn hk;have r9:bH n d=(fi:Int):=by rw[bH,if_neg hk,e1]
   rcases iF n iE with⟨e,_⟩ |⟨_,_,_,uc,_,h6,h7,_⟩
   ·exact absurd e hk
   obtain⟨c1,c2⟩:=OW h7;have Ua:n.fact.toNat=fi:=by omega
   have qL:d[n.fact.toNat]=d[fi]:=by congr 1
   rw[qL]at c1 c2;have c3:=(List.pairwise_cons.1 c1).1;have c4:=List.pairwise_iff_getElem.1 (List.pairwise_cons.1 c1).2;have sv:n.kids.getD (bS (mw g) n.kids).toNat 0=(xi:Int):=by
    rw[j1,Int.toNat_natCast,an,j3];rfl
   have sh:tI m=true:=by
    obtain⟨j',q1,q2,q3⟩:=HC (p:=mw g) (l:=n.kids) (by
     by_cases hx:∃x∈n.kids,mw g x=true
     ·exact hx
     ·have:=Gs (p:=mw g) (l:=n.kids) fun x IL=>by
       cases q:mw g x with
       |false=>rfl
       |true=>exact absurd ⟨x,IL,q⟩ hx
      omega)
    have:j'=j:=by omega
    subst this;rw[aa q2]at j3;rw[Option.some.inj j3]at q3;unfold mw at q3;rw[Int.toNat_natCast,j4]at q3;exact q3
   have dJ:bH n d<bH m d:=by
    rw[r9]
    by_cases FC:m.kids=[]
    ·rw[bH,if_pos FC];omega
    ·rw[bH,if_neg FC,← e1];exact j5 FC
   rw[sv,Int.toNat_natCast,Ua,j1];obtain⟨val,dn⟩:∃val,val=if 0<j then n.cuts.getD (j-1) 0 else (d[fi]).lo:=⟨_,rfl⟩
   have pU:∀h:0<j,∃hj:j-1<n.cuts.length,n.cuts.getD (j-1) 0=n.cuts[j-1]:=fun h=>⟨by omega,by rw[an,aa (by omega)];rfl⟩;obtain⟨yY,zB⟩:∃yY,yY=if 0<(j:Int) then cs.set fi (n.cuts.getD ((j:Int).toNat-1) 0) else cs:=⟨_,rfl⟩
   rw[← zB];have dC:∀k:Nat,yY.getD k 0=if k=fi then val else cs.getD k 0:=by
    intro k;rw[zB,dn]
    by_cases h:0<j
    ·rw[if_pos (by omega),if_pos h,yio,Int.toNat_natCast]
     by_cases e:fi=k
     ·rw[if_pos ⟨e,by have:=eh.1;omega⟩,if_pos e.symm]
     ·rw[if_neg (fun q=>e q.1),if_neg (fun q=>e q.symm)]
    ·rw[if_neg (by omega),if_neg h]
     by_cases e:k=fi
     ·rw[if_pos e,e];exact fu fi e2 (by omega)
     ·rw[if_neg e]
   have jd:yY.length=d.length:=by
    rw[zB];split
    ·rw[List.length_set];exact eh.1
    ·exact eh.1
   have hvr:(d[fi]).lo≤val∧val≤(d[fi]).hi:=by
    rw[dn];split
    ·rename_i h;obtain⟨q1,q2⟩:=pU h;rw[q2];have:=c3 _ (ai q1);exact⟨by omega,c2 _ (ai q1)⟩
    ·have:=eh.2 fi e2;rw[fu fi e2 (by omega)]at this;exact this
   have xO:AO d yY:=⟨jd,fun k h=>by
    rw[dC]
    by_cases e:k=fi
    ·subst e;rw[if_pos rfl];exact hvr
    ·rw[if_neg e];exact eh.2 k h⟩
   obtain⟨r1,r2,r3,r4⟩:=ih xi yY m j4 sh (by omega) xO fun k h hle=>by
    rw[dC,if_neg (by omega)];exact fu k h (by omega)
   refine⟨r1,r2,fun k az=>?_,?_⟩
   ·rw[r3 k (by omega),dC,if_neg (by omega)]
   ·have hv:BT (gW g f xi yY).2 n.fact=val:=by
     unfold BT;rw[Ua,r3 fi (by omega),dC,if_pos rfl]
    have x8:k9 n val=(j:Int):=by
     refine yj9 e3 (by omega) (fun i hi nE=>?_) fun hj=>?_
     ·rw[dn,if_pos (by omega)];obtain⟨q1,q2⟩:=pU (by omega);rw[q2]
      by_cases e:i=j-1
      ·subst e;exact Int.le_refl _
      ·exact Int.le_of_lt (c4 i (j-1) hi q1 (by omega))
     ·rw[dn];split
      ·rename_i h;obtain⟨q1,q2⟩:=pU h;rw[q2];exact c4 (j-1) j q1 hj (by omega)
      ·exact c3 _ (ai hj)
    exact cV.node (by omega) (by rw[Int.toNat_natCast];exact hn) hk (by rw[hv,x8,Int.toNat_natCast];exact j3) r4
theorem yj2 {d:List Fc}(hv:eQ d=true):AO d (gV d)∧∀(k:Nat)(h:k<d.length),(gV d).getD k 0=(d[k]).lo:=by
 have h1:∀(k:Nat) (h:k<d.length),(gV d).getD k 0=(d[k]).lo:=fun k h=>by
  unfold gV;rw[if_pos hv,an,List.getElem?_map,aa h];rfl
 refine⟨⟨by unfold gV;rw[if_pos hv];simp,fun k h=>?_⟩,h1⟩;rw[h1 k h];have:=((DT hv).2 _ (ai h)).1;omega
theorem yj3 {g:List Nd}{d:List Fc}(hV:nS g d)(hN:∀n∈g,jH n):((jG g d).2=true→AO d (jG g d).1∧cV g (BT (jG g d).1) 0 true)∧((jG g d).2=false→∀v,cV g v 0 false):=by
 have h0:0<g.length:=hV.2.1;have dh:=aa h0;have FD:∀n∈g,0≤bH n d:=fun n hn=>by
  rcases hV.2.2.2.1 n hn with⟨e,_⟩ |⟨e1,_,h3,_⟩
  ·rw[bH,if_pos e];omega
  ·rw[bH,if_neg e1];exact h3
 obtain⟨l1,l2⟩:=yj2 hV.1
 by_cases iC:tI g[0]=true
 ·obtain⟨⟨m,m1,m2⟩,r2,_,r4⟩:=yj1 hV hN (d.length+1) 0 (gV d) g[0] dh iC (by have:=FD _ (ai h0);omega) l1 fun k h _=>l2 k h;have hL:jG g d=((gW g (d.length+1) 0 (gV d)).2,true):=by
   unfold jG;rw[if_pos (HB hV),m1];simp only[m2,if_true]
  rw[hL];exact⟨fun _=>⟨r2,r4⟩,fun h=>(by cases h)⟩
 ·have hb:(g[0]).kids=[]∧(g[0]).leaf=false:=by
   unfold tI at iC;simpa using iC
  have fE:gW g (d.length+1) 0 (gV d)=(0,gV d):=by
   rw[gW,dh];simp only[hb.1,if_true]
  have hL:jG g d=([],false):=by
   unfold jG;rw[if_pos (HB hV),fE];simp only[dh,hb.2];rfl
  rw[hL];refine⟨fun h=>(by cases h),fun _ v=>?_⟩;have:=cV.leaf (v:=v) (i:=0) (Int.le_refl _) dh hb.1;rw[hb.2]at this;exact this
def NQ (d:List Fc):ByteArray→Prop:=fun n=>n∈d.map Fc.name
theorem yhw {d:List Fc}{n:ByteArray}(h:¬bS (fun x:Fc=>decide (x.name=n)) d<0):NQ d n:=by
 by_cases e:NQ d n
 ·exact e
 ·rw[Gs fun x hx=>by
   simp only[decide_eq_false_iff_not];exact fun q=>e (List.mem_map.2 ⟨x,hx,q⟩)]at h
  omega
theorem yi9 {nm kn:ByteArray→Bool}{d:List Fc}{o c m:Int}{n:ByteArray}{kids:List Fm}(h:pG nm kn d (.mk o n c m kids)=0):((o=1∨o=2)∧n=.empty∧c=0∧m=0∧kids=[])∨(o=3∧NQ d n∧0≤m∧m≤1000000∧kids=[])∨(o=4∧kn n=true∧kids=[])∨(o=5∧n=.empty∧c=0∧m=0∧kids.length=1)∨((o=6∨o=7)∧n=.empty∧c=0∧m=0∧2≤kids.length):=by
 simp only[pG]at h;cases hf:xp nm (.mk o n c m kids) with
 |false=>rw[hf]at h;simp at h
 |true=>
  rw[hf,if_neg (by simp)]at h;simp only[xp]at hf
  by_cases h1:o≠3∧(c≠0∨m≠0)
  ·rw[if_pos h1]at hf;cases hf
  rw[if_neg h1]at hf
  by_cases h2:o≠3∧o≠4∧n≠⟨#[]⟩
  ·rw[if_pos h2]at hf;cases hf
  rw[if_neg h2]at hf
  by_cases o3:o=3
  ·subst o3;rw[if_neg (by omega),if_pos rfl]at hf;simp only[al,decide_eq_true_eq]at hf
   by_cases hm:(3:Int)=3∧(m<0∨1000000<m)
   ·rw[if_pos hm]at h;simp at h
   ·rw[if_neg hm]at h
    by_cases hi:((3:Int)=3∧bS (fun x:Fc=>decide (x.name=n)) d<0)∨((3:Int)=4∧kn n=false)
    ·rw[if_pos hi]at h;simp at h
    ·exact .inr (.inl ⟨rfl,yhw fun q=>hi (.inl ⟨rfl,q⟩),by omega,by omega,au hf.1.1⟩)
  ·have hc:c=0:=by
    by_cases q:c=0
    ·exact q
    ·exact absurd ⟨o3,.inl q⟩ h1
   have hm:m=0:=by
    by_cases q:m=0
    ·exact q
    ·exact absurd ⟨o3,.inr q⟩ h1
   have hn:o≠4→n=.empty:=fun o4=>by
    by_cases q:n=⟨#[]⟩
    ·exact q
    ·exact absurd ⟨o3,o4,q⟩ h2
   by_cases Gc:o=1∨o=2
   ·rw[if_pos Gc]at hf;exact .inl ⟨Gc,hn (by omega),hc,hm,au (of_decide_eq_true hf)⟩
   rw[if_neg Gc,if_neg o3]at hf
   by_cases o4:o=4
   ·subst o4;rw[if_pos rfl]at hf;simp only[al,decide_eq_true_eq]at hf;rw[if_neg (by omega)]at h
    by_cases hi:((4:Int)=3∧bS (fun x:Fc=>decide (x.name=n)) d<0)∨((4:Int)=4∧kn n=false)
    ·rw[if_pos hi]at h;simp at h
    ·refine .inr (.inr (.inl ⟨rfl,?_,au hf.1⟩));cases q:kn n with
     |true=>rfl
     |false=>exact absurd (.inr ⟨rfl,q⟩) hi
   rw[if_neg o4]at hf
   by_cases o5:o=5
   ·rw[if_pos o5]at hf;exact .inr (.inr (.inr (.inl ⟨o5,hn o4,hc,hm,of_decide_eq_true hf⟩)))
   rw[if_neg o5]at hf
   by_cases Gd:o=6∨o=7
   ·rw[if_pos Gd]at hf;exact .inr (.inr (.inr (.inr ⟨Gd,hn o4,hc,hm,of_decide_eq_true hf⟩)))
   ·rw[if_neg Gd]at hf;cases hf
mutual
theorem Pm {nm kn:ByteArray→Bool}{d:List Fc}:∀f,(dt (fA nm kn d) 0 f).1=0→(dt (fA nm kn d) 0 f).2=true∧RW (NQ d) (fun n=>kn n=true) f
 |.mk o n c m kids,h=>by
  rw[dt]at h ⊢
  by_cases hc:pG nm kn d (.mk o n c m kids)=0
  ·have hs:fA nm kn d 0 (.mk o n c m kids)=(0,true):=by unfold fA;rw[if_pos hc]
   rw[hs]at h ⊢;simp only[if_true]at h ⊢;obtain⟨a1,a2⟩:=Wm kids h;refine⟨a1,?_⟩
   rcases yi9 hc with q |q |q |⟨q1,q2,q3,q4,q5⟩ |⟨q1,q2,q3,q4,q5⟩
   ·exact .inl q
   ·exact .inr (.inl q)
   ·exact .inr (.inr (.inl q))
   ·exact .inr (.inr (.inr (.inl ⟨q1,q2,q3,q4,q5,a2⟩)))
   ·exact .inr (.inr (.inr (.inr ⟨q1,q2,q3,q4,q5,a2⟩)))
  ·have hs:fA nm kn d 0 (.mk o n c m kids)=(pG nm kn d (.mk o n c m kids),false):=by unfold fA;rw[if_neg hc]
   rw[hs]at h;simp at h;exact absurd h hc
theorem Wm {nm kn:ByteArray→Bool}{d:List Fc}:∀l,(ir (fA nm kn d) 0 l).1=0→(ir (fA nm kn d) 0 l).2=true∧oM (NQ d) (fun n=>kn n=true) l
 |[],_=>⟨by rw[ir],trivial⟩
 |f::l,h=>by
  rw[ir]at h ⊢
  by_cases h1:(dt (fA nm kn d) 0 f).2=true
  ·rw[if_pos h1]at h ⊢;have h0:=Lo (Pn nm kn d) 0 f h1;rw[h0]at h ⊢;obtain⟨a1,a2⟩:=Pm f h0;obtain⟨b1,b2⟩:=Wm l h;exact⟨b1,a2,b2⟩
  ·rw[if_neg h1]at h;exact absurd (Pm f h).1 h1
end
theorem Vw {nm kn:ByteArray→Bool}{d:List Fc}{f:Fm}(h:rF nm kn d f=0):RW (NQ d) (fun n=>kn n=true) f:=by
 unfold rF at h
 by_cases h1:200<f.size∨20<f.deep
 ·rw[if_pos h1]at h;simp at h
 ·rw[if_neg h1]at h;exact(Pm f h).2
mutual
theorem RW.imp {Q T T':ByteArray→Prop}(hT:∀n,T n→T' n):∀{f:Fm},RW Q T f→RW Q T' f
 |.mk o n c m kids,h=>by
  rcases h with q |q |⟨q1,q2,q3⟩ |⟨q1,q2,q3,q4,q5,q6⟩ |⟨q1,q2,q3,q4,q5,q6⟩
  ·exact .inl q
  ·exact .inr (.inl q)
  ·exact .inr (.inr (.inl ⟨q1,hT n q2,q3⟩))
  ·exact .inr (.inr (.inr (.inl ⟨q1,q2,q3,q4,q5,oM.imp hT q6⟩)))
  ·exact .inr (.inr (.inr (.inr ⟨q1,q2,q3,q4,q5,oM.imp hT q6⟩)))
theorem oM.imp {Q T T':ByteArray→Prop}(hT:∀n,T n→T' n):∀{l:List Fm},oM Q T l→oM Q T' l
 |[],_=>trivial
 |_::_,h=>⟨RW.imp hT h.1,oM.imp hT h.2⟩
end
theorem Pl {d:List Fc}(h:eQ d=true):(d.map Fc.name).Nodup∧∀x∈d,xu x.name:=by
 obtain⟨⟨h1,h2⟩,_⟩:=ZL h;refine⟨h2,fun x hx=>?_⟩;have:=(h1 x hx).2;unfold vf at this;exact @of_decide_eq_true _ (Classical.propDecidable _) this
theorem Vt {d:List Fc}{f:Fm}(h:eA d f=0):eQ d=true∧tM d f=0∧(jq d f).2.full=false∧(bl (jq d f).2.L (jq d f).1).length≤20000:=by
 unfold eA at h
 by_cases h1:eQ d=false∨tM d f≠0
 ·rw[if_pos h1]at h;cases h
 ·rw[if_neg h1]at h
  by_cases h2:24<(iV [] f).length
  ·rw[if_pos h2]at h;cases h
  ·rw[if_neg h2]at h
   by_cases h3:(jq d f).2.full=true∨20000<(bl (jq d f).2.L (jq d f).1).length
   ·rw[if_pos h3]at h;cases h
   ·refine⟨?_,?_,?_,by omega⟩
    ·cases hv:eQ d with
     |false=>exact absurd (.inl hv) h1
     |true=>rfl
    ·by_cases hc:tM d f=0
     ·exact hc
     ·exact absurd (.inr hc) h1
    ·cases hv:(jq d f).2.full with
     |true=>exact absurd (.inl hv) h3
     |false=>rfl
theorem Vu {d:List Fc}{f:Fm}(h:eA d f=0)(ρ:ByteArray→Int)(hr:oC d ρ):cV (cM d f) (vD d ρ) 0 (hF ρ f):=by
 obtain⟨h1,h2,h3,h4⟩:=Vt h;obtain⟨n1,n2⟩:=Pl h1;obtain⟨d1,d2⟩:=DT h1;obtain⟨fG,fs⟩:=Lp (fun s h=>by have:=Ln h;omega) h2;have hw:RW (NQ d) yi f:=(Vw h2).imp fun n q=>by simp at q
 obtain⟨gG,gS⟩:=BJ .empty 0 fG;have BP:GI ⟨[],[],false⟩:=⟨by simp,by intro n hn;simp at hn,by simp,by simp,by simp⟩;obtain⟨q1,q2,_,_⟩:=Hw d (by omega) d2 d.length (bQ .empty 0 f) ⟨[],[],false⟩ (ae _) gG (by omega) BP (by simp[inn]);obtain⟨r1,r2⟩:=Jc (Q':=QD d (d.length-d.length)) (nm:=.empty) 0 ρ (fun n q _=>by
  unfold QD;rw[Nat.sub_self,List.drop_zero];exact q) f hw
 have hs:=(yiq n1 n2 (fun x hx=>(d2 x hx).1) d.length (bQ .empty 0 f) ⟨[],[],false⟩ (ae _) r1 (fun p hp=>(by cases hp)) h3).2.2 ρ hr;have he:hF ρ (bQ .empty 0 f)=hF ρ f:=by
  rw[r2];refine O5 (Q:=NQ d) (T:=yi) (fun n q=>?_) (fun n q=>q.elim) hw;obtain⟨x,hx,e⟩:=List.mem_map.1 q;have:=(n2 x hx).2.1;rw[e]at this;unfold lM;rw[if_neg this]
 rw[he]at hs;unfold cM;rw[if_pos h];exact VI q1.wk q2 hs
theorem yhz {a b:List Nd}{d:List Fc}(h:nj a b d=0):nS a d∧nS b d∧(fR a b d).2.L.length≤20000∧(bl (fR a b d).2.L (fR a b d).1).length≤20000:=by
 unfold nj at h
 by_cases h1:dE a d=false∨dE b d=false
 ·rw[if_pos h1]at h;cases h
 ·rw[if_neg h1]at h
  by_cases h2:20000<(fR a b d).2.L.length
  ·rw[if_pos h2]at h;cases h
  ·rw[if_neg h2]at h
   by_cases h3:20000<(bl (fR a b d).2.L (fR a b d).1).length
   ·rw[if_pos h3]at h;cases h
   ·refine⟨BK ?_,BK ?_,by omega,by omega⟩
    ·cases hv:dE a d with
     |false=>exact absurd (.inl hv) h1
     |true=>rfl
    ·cases hv:dE b d with
     |false=>exact absurd (.inr hv) h1
     |true=>rfl
theorem yi0 {a b:List Nd}{d:List Fc}(ha:vn a)(hb:vn b)(h:nj a b d=0):nS (nu a b d) d∧∀ρ,oC d ρ→∀p q,cV a (vD d ρ) 0 p→cV b (vD d ρ) 0 q→cV (nu a b d) (vD d ρ) 0 (p && q):=by
 obtain⟨va,vb,h1,h2⟩:=yhz h;obtain⟨d1,d2⟩:=DT va.1;have da:=DP va ha.ni ha.cu;have db:=DP vb hb.ni hb.cu;have ur:0<a.length:=va.2.1;have uu:0<b.length:=vb.2.1;have BQ:HI ⟨[],[]⟩:=⟨⟨by simp[HS.gs],by intro n hn;simp[HS.gs]at hn,by simp[HS.gs],by simp[HS.gs],by simp[HS.gs]⟩,by simp⟩;have fC:=xr da db (ai ur) (ai uu);obtain⟨q1,q2,_,_⟩:=Hx a b d (by omega) d2 da db (d.length+1) 0 0 ⟨[],[]⟩ ur uu (by omega) (ae _) BQ (by simp[inn]);obtain⟨⟨s1,_⟩,_,s3,_⟩:=yi2 da db (fun x hx=>(d2 x hx).1) (d.length+1) 0 0 ⟨[],[]⟩ ur uu (by omega) h1 ⟨fun n hn=>(by cases hn),fun p hp=>(by cases hp)⟩;have e:nu a b d=cL (fR a b d).2.gs.L (fR a b d).1:=by unfold nu;rw[if_pos h];rfl
 rw[e];refine⟨yi3 q1.g s1 va.1 q2 h2,fun ρ hr p q hp hq=>VI q1.g.wk q2 (s3 ρ hr p q hp hq)⟩
theorem cV.congr {g:List Nd}{v w:Int→Int}{i:Int}{b:Bool}(hvw:∀n∈g,n.kids≠[]→v n.fact=w n.fact)(h:cV g v i b):cV g w i b:=by
 induction h with
 |leaf h1 h2 h3=>exact .leaf h1 h2 h3
 |node h1 h2 h3 h4 _ ih=>exact .node h1 h2 h3 (by rw[← hvw _ (List.mem_of_getElem? h2) h3];exact h4) ih
def AR (d:List Fc)(cs:List Int):ByteArray→Int:=fun n=>cs.getD (bS (fun f:Fc=>decide (f.name=n)) d).toNat 0
theorem VR {d:List Fc}(hn:(d.map Fc.name).Nodup){k:Nat}(hk:k<d.length):bS (fun f:Fc=>decide (f.name=(d[k]).name)) d=(k:Int):=by
 obtain⟨j,h1,h2,h3⟩:=HC (p:=fun f:Fc=>decide (f.name=(d[k]).name)) (l:=d) ⟨_,ai hk,by simp⟩;have h4:(d[j]).name=(d[k]).name:=of_decide_eq_true h3;have:j=k:=(List.getElem?_inj (l:=d.map Fc.name) (by simpa using h2) hn).1 (by rw[List.getElem?_map,List.getElem?_map,aa h2,aa hk,Option.map_some,Option.map_some,h4]);rw[h1,this]
theorem OY {d:List Fc}(hn:(d.map Fc.name).Nodup){cs:List Int}(h:AO d cs):oC d (AR d cs):=by
 intro x hx;obtain⟨k,hk,rfl⟩:=List.getElem_of_mem hx;unfold AR;rw[VR hn hk,Int.toNat_natCast];exact h.2 k hk
theorem yic {d:List Fc}(hn:(d.map Fc.name).Nodup)(cs:List Int){i:Int}(h0:0≤i)(h1:i<(d.length:Int)):BT cs i=vD d (AR d cs) i:=by
 have hi:i.toNat<d.length:=by omega
 have e:d.getD i.toNat ⟨.empty,0,0,0⟩=d[i.toNat]:=by rw[an,aa hi];rfl
 unfold vD AR BT;rw[e,VR hn hi,Int.toNat_natCast]
theorem Wq {a b:Fm}{D:List Fc}(ha:eA D a=0)(hb:eA D b=0)(he:(iP (cM D a) (cM D b) D).e=0):((iP (cM D a) (cM D b) D).ok=true→AO D (iP (cM D a) (cM D b) D).c∧hF (AR D (iP (cM D a) (cM D b) D).c) a=true∧hF (AR D (iP (cM D a) (cM D b) D).c) b=false)∧((iP (cM D a) (cM D b) D).ok=false→∀ρ,oC D ρ→hF ρ a=true→hF ρ b=false→False):=by
 have iA:=DQ ha;have iB:=ZO (DQ hb);unfold iP at he ⊢
 by_cases hz:nj (cM D a) ((cM D b).map eB) D=0
 ·rw[if_neg (by simpa using hz)]at he ⊢;obtain⟨v1,v2⟩:=yi0 iA iB hz;have hNI:=(ZK iA iB hz).1;obtain⟨l1,l2⟩:=yj3 v1 hNI;obtain⟨n1,n2⟩:=Pl v1.1;have iz:∀ρ,oC D ρ→cV (nu (cM D a) ((cM D b).map eB) D) (vD D ρ) 0 (hF ρ a && !hF ρ b):=fun ρ hr=>v2 ρ hr _ _ (Vu ha ρ hr) (yjb (Vu hb ρ hr));refine⟨fun h=>?_,fun h ρ hr q1 q2=>?_⟩
  ·obtain⟨c1,c2⟩:=l1 h;have ib:=OY n1 c1;have c3:=c2.congr (w:=vD D (AR D (jG (nu (cM D a) ((cM D b).map eB) D) D).1)) fun n hn hk=>by
    rcases v1.2.2.2.1 n hn with⟨q,_⟩ |⟨_,_,q3,_,_,q6,_⟩
    ·exact absurd q hk
    ·exact yic n1 _ q3 (by omega)
   have:=c3.det (iz _ ib);have h2:=this.symm;rw[al]at h2;exact⟨c1,h2.1,by simpa using h2.2⟩
  ·have:=(iz ρ hr).det (l2 h (vD D ρ));rw[q1,q2]at this;cases this
 ·rw[if_pos hz]at he;exact absurd he hz
theorem yi6 {a b:Fm}{D:List Fc}(he:(kE a b D).e=0):(kE a b D).f=true↔∃ρ,oC D ρ∧hF ρ a≠hF ρ b:=by
 unfold kE at he ⊢
 by_cases h1:eA D (bz a)=0
 ·rw[if_neg (by simpa using h1)]at he ⊢
  by_cases h2:eA D (bz b)=0
  ·rw[if_neg (by simpa using h2)]at he ⊢;have hn:=(Pl (Vt h1).1).1;generalize hX:iP (cM D (bz a)) (cM D (bz b)) D=X at he ⊢;generalize hY:iP (cM D (bz b)) (cM D (bz a)) D=Y at he ⊢;unfold HA at he ⊢
   by_cases h3:X.e=0
   ·rw[if_neg (by simpa using h3)]at he ⊢
    by_cases h4:Y.e=0
    ·rw[if_neg (by simpa using h4)]at he ⊢;have wx:=Wq h1 h2 (by rw[hX];exact h3);have wy:=Wq h2 h1 (by rw[hY];exact h4);rw[hX]at wx;rw[hY]at wy;simp only[VM]at wx wy;obtain⟨x1,x2⟩:=wx;obtain⟨y1,y2⟩:=wy;simp only;constructor
     ·intro h
      rcases Bool.or_eq_true_iff.1 h with q |q
      ·obtain⟨c1,c2,c3⟩:=x1 q;exact⟨_,OY hn c1,by rw[c2,c3];simp⟩
      ·obtain⟨c1,c2,c3⟩:=y1 q;exact⟨_,OY hn c1,by rw[c2,c3];simp⟩
     ·rintro⟨ρ,r1,r2⟩
      cases qx:X.ok with
      |true=>rfl
      |false=>
       cases qy:Y.ok with
       |true=>rfl
       |false=>
        exfalso;cases e1:hF ρ a <;> cases e2:hF ρ b
        ·rw[e1,e2]at r2;exact r2 rfl
        ·exact y2 qy ρ r1 e2 e1
        ·exact x2 qx ρ r1 e1 e2
        ·rw[e1,e2]at r2;exact r2 rfl
    ·rw[if_pos h4]at he;exact absurd he h4
   ·rw[if_pos h3]at he;exact absurd he h3
  ·rw[if_pos h2]at he;exact absurd he h2
 ·rw[if_pos h1]at he;exact absurd he h1
theorem Pb {d:List Fc}:∀(l:List ByteArray)(seen:List ByteArray)(D D':List Fc),(∀n∈seen,(⟨n,1,0,1⟩:Fc)∈D)→np d l seen D=some D'→(∀n∈l,¬NQ d n)∧∀ρ,oC D' ρ↔oC D ρ∧∀n∈l,0≤ρ n∧ρ n≤1
 |[],seen,D,D',_,h=>by
  simp only[np,Option.some.injEq]at h;subst h;exact⟨by simp,fun ρ=>by simp⟩
 |n::l,seen,D,D',hs,h=>by
  rw[np]at h
  by_cases h1:bS (fun f:Fc=>decide (f.name=n)) d<0
  ·rw[if_neg (by simpa using h1)]at h;have eE:¬NQ d n:=fun q=>by
    obtain⟨x,hx,e⟩:=List.mem_map.1 q;obtain⟨j,q1,_⟩:=HC (p:=fun f:Fc=>decide (f.name=n)) (l:=d) ⟨x,hx,by simpa using e⟩;omega
   by_cases h2:n∈seen
   ·rw[if_pos h2]at h;obtain⟨a1,a2⟩:=Pb l seen D D' hs h;refine⟨fun k hk=>?_,fun ρ=>?_⟩
    ·rcases List.mem_cons.1 hk with q |q
     ·rw[q];exact eE
     ·exact a1 k q
    ·rw[a2 ρ];constructor
     ·rintro⟨q1,q2⟩
      refine⟨q1,fun k hk=>?_⟩
      rcases List.mem_cons.1 hk with q |q
      ·rw[q];exact q1 _ (hs n h2)
      ·exact q2 k q
     ·exact fun q=>⟨q.1,fun k hk=>q.2 k (ak _ hk)⟩
   ·rw[if_neg h2]at h;obtain⟨a1,a2⟩:=Pb l (seen++[n]) (D++[⟨n,1,0,1⟩]) D' (fun k hk=>by
     rcases List.mem_append.1 hk with q |q
     ·exact List.mem_append_left _ (hs k q)
     ·simp only[List.mem_singleton]at q;rw[q];simp) h
    refine⟨fun k hk=>?_,fun ρ=>?_⟩
    ·rcases List.mem_cons.1 hk with q |q
     ·rw[q];exact eE
     ·exact a1 k q
    ·rw[a2 ρ];constructor
     ·rintro⟨q1,q2⟩
      refine⟨fun x hx=>q1 x (List.mem_append_left _ hx),fun k hk=>?_⟩
      rcases List.mem_cons.1 hk with q |q
      ·rw[q];exact q1 ⟨n,1,0,1⟩ (by simp)
      ·exact q2 k q
     ·rintro⟨q1,q2⟩
      refine⟨fun x hx=>?_,fun k hk=>q2 k (ak _ hk)⟩
      rcases List.mem_append.1 hx with q |q
      ·exact q1 x q
      ·simp only[List.mem_singleton]at q;rw[q];exact q2 n ao
  ·rw[if_pos h1]at h;cases h
def nv (a b:Pv):Bool:=eH a.begin_ b.begin_ && eH a.end_ b.end_ && eH a.again b.again
def AT (l:List ByteArray)(ρ:ByteArray→Int):Prop:=∀n∈l,0≤ρ n∧ρ n≤1
def xv (a b:Pv)(d:List Fc):Prop:=∃ρ,oC d ρ∧AT (dR a.when_) ρ∧AT (dR b.when_) ρ∧hF ρ a.when_≠hF ρ b.when_
structure DifK (a b:Pv)(d:List Fc) (k:Int):Prop where
 ca:k8 d a.when_=0
 cb:k8 d b.when_=0
 na:∀n∈dR a.when_,¬NQ d n
 nb:∀n∈dR b.when_,¬NQ d n
 kd:(¬ew a b∧k=1)∨(ew a b∧nv a b=false∧k=2)∨(ew a b∧nv a b=true∧xv a b d∧k=3)∨(ew a b∧nv a b=true∧¬xv a b d∧k=0)
theorem Gr {a b:Pv}{d:List Fc}(h:(cG a b d).e=0):DifK a b d (cG a b d).k:=by
 unfold cG at h ⊢
 by_cases h1:eQ d=false
 ·rw[if_pos h1]at h;cases h
 rw[if_neg h1]at h ⊢
 by_cases h2:k8 d a.when_=0
 case neg=>rw[if_pos h2]at h;exact absurd h h2
 rw[if_neg (by simpa using h2)]at h ⊢
 by_cases h3:k8 d b.when_=0
 case neg=>rw[if_pos h3]at h;exact absurd h h3
 rw[if_neg (by simpa using h3)]at h ⊢;cases hm:np d (dR a.when_++dR b.when_) [] d with
 |none=>rw[hm]at h;cases h
 |some D=>
  rw[hm]at h;simp only at h ⊢;obtain⟨m1,m2⟩:=Pb _ [] d D (by simp) hm;refine⟨h2,h3,fun n hn=>m1 n (List.mem_append_left _ hn),fun n hn=>m1 n (List.mem_append_right _ hn),?_⟩;unfold lV at h ⊢
  by_cases h4:60<D.length
  ·rw[if_pos h4]at h;cases h
  rw[if_neg h4]at h ⊢
  by_cases h5:ew a b
  case neg=>
   rw[if_pos h5];exact .inl ⟨h5,rfl⟩
  rw[if_neg (by simpa using h5)]at h ⊢
  by_cases h6:(eH a.begin_ b.begin_ && eH a.end_ b.end_ && eH a.again b.again)=false
  ·rw[if_pos h6];exact .inr (.inl ⟨h5,h6,rfl⟩)
  rw[if_neg h6]at h ⊢;have Tt:nv a b=true:=by
   unfold nv;cases q:(eH a.begin_ b.begin_ && eH a.end_ b.end_ && eH a.again b.again) with
   |false=>exact absurd q h6
   |true=>rfl
  by_cases h7:(kE a.when_ b.when_ D).e=0
  case neg=>rw[if_pos h7]at h;exact absurd h h7
  rw[if_neg (by simpa using h7)];have hi:=yi6 h7;have hd:(∃ρ,oC D ρ∧hF ρ a.when_≠hF ρ b.when_)↔xv a b d:=by
   constructor
   ·rintro⟨ρ,r1,r2⟩
    obtain⟨r3,r4⟩:=(m2 ρ).1 r1;exact⟨ρ,r3,fun n hn=>r4 n (List.mem_append_left _ hn),fun n hn=>r4 n (List.mem_append_right _ hn),r2⟩
   ·rintro⟨ρ,r1,r2,r3,r4⟩
    refine⟨ρ,(m2 ρ).2 ⟨r1,fun n hn=>?_⟩,r4⟩
    rcases List.mem_append.1 hn with q |q
    ·exact r2 n q
    ·exact r3 n q
  by_cases h8:(kE a.when_ b.when_ D).f=true
  ·rw[if_pos h8];exact .inr (.inr (.inl ⟨h5,Tt,hd.1 (hi.1 h8),rfl⟩))
  ·rw[if_neg h8];exact .inr (.inr (.inr ⟨h5,Tt,fun q=>h8 (hi.2 (hd.2 q)),rfl⟩))
mutual
theorem Wc:∀a b:br,eH a b=true↔a=b
 |.mk o n d k,.mk o' n' d' k'=>by
  have:=Wb k k';simp only[eH,al,decide_eq_true_eq,this,br.mk.injEq,and_assoc]
theorem Wb:∀a b:List br,mg a b=true↔a=b
 |[],[]=>by simp[mg]
 |[],_::_=>by simp[mg]
 |_::_,[]=>by simp[mg]
 |a::l,b::m=>by
  simp only[mg,al,Wc a b,Wb l m,List.cons.injEq]
end
theorem CJ (a b:Pv):nv a b=true↔a.begin_=b.begin_∧a.end_=b.end_∧a.again=b.again:=by
 unfold nv;simp only[al,Wc,and_assoc]
theorem ew.symm {a b:Pv}(h:ew a b):ew b a:=⟨h.1.symm,h.2.1.symm,h.2.2.1.symm,h.2.2.2.1.symm,h.2.2.2.2.1.symm,fun x=>(h.2.2.2.2.2 x).symm⟩
theorem ew.trans {a b c:Pv}(h:ew a b)(k:ew b c):ew a c:=⟨h.1.trans k.1,h.2.1.trans k.2.1,h.2.2.1.trans k.2.2.1,h.2.2.2.1.trans k.2.2.2.1,h.2.2.2.2.1.trans k.2.2.2.2.1,fun x=>(h.2.2.2.2.2 x).trans (k.2.2.2.2.2 x)⟩
theorem yhy (a b:Pv):nv a b=nv b a:=by
 have:nv a b=true↔nv b a=true:=by
  rw[CJ,CJ];constructor
  ·exact fun h=>⟨h.1.symm,h.2.1.symm,h.2.2.symm⟩
  ·exact fun h=>⟨h.1.symm,h.2.1.symm,h.2.2.symm⟩
 cases h1:nv a b <;> cases h2:nv b a <;> simp[h1,h2]at this ⊢
theorem xv.symm {a b:Pv}{d:List Fc}(h:xv a b d):xv b a d:=by
 obtain⟨ρ,h1,h2,h3,h4⟩:=h;exact⟨ρ,h1,h3,h2,fun q=>h4 q.symm⟩
theorem VP {x:ByteArray}:∀{l:List ByteArray},0≤fQ x l→x∈l
 |[],h=>by simp[fQ]at h
 |y::l,h=>by
  rw[fQ]at h
  by_cases e:x=y
  ·rw[e];exact ao
  ·rw[if_neg e]at h
   by_cases e2:fQ x l<0
   ·rw[if_pos e2]at h;omega
   ·exact ak _ (VP (by omega))
open Classical in
def flat (d:List Fc)(ρ:ByteArray→Int):ByteArray→Int:=fun n=>if NQ d n∨(0≤ρ n∧ρ n≤1) then ρ n else 0
theorem VE {d:List Fc}{f:Fm}(h:k8 d f=0){ρ:ByteArray→Int}(hr:AT (dR f) ρ):hF (flat d ρ) f=hF ρ f:=by
 refine O5 (fun n q=>?_) (fun n q=>?_) (Vw h)
 ·unfold flat;rw[if_pos (.inl q)]
 ·have:=hr n (VP (of_decide_eq_true q));unfold flat;rw[if_pos (.inr this)]
theorem yie {d:List Fc}{ρ:ByteArray→Int}(hr:oC d ρ):oC d (flat d ρ):=by
 intro x hx;unfold flat;rw[if_pos (.inl (List.mem_map.2 ⟨x,hx,rfl⟩))];exact hr x hx
theorem OZ {d:List Fc}{ρ:ByteArray→Int}{l:List ByteArray}(hl:∀n∈l,¬NQ d n):AT l (flat d ρ):=by
 intro n hn;unfold flat;split
 ·rename_i h
  rcases h with q |q
  ·exact absurd q (hl n hn)
  ·exact q
 ·omega
theorem yid (a b c:Pv)(d:List Fc):OR a b c d:=by
 intro h1 h2 h3 h4 h5;have k1:=Gr h1;have k2:=Gr h2;have k3:=Gr h3;have k4:=Gr h4;have k5:=Gr h5;refine⟨?_,?_,fun z2 z4=>?_⟩
 ·have hs:nv a a=true:=(CJ a a).2 ⟨rfl,rfl,rfl⟩;have hf:ew a a:=⟨rfl,rfl,rfl,rfl,rfl,fun _=>Iff.rfl⟩
  rcases k1.kd with⟨q,_⟩ |⟨_,q,_⟩ |⟨_,_,⟨_,_,_,_,q⟩,_⟩ |⟨_,_,_,q⟩
  ·exact absurd hf q
  ·rw[hs]at q;cases q
  ·exact absurd rfl q
  ·exact q
 ·have hs:=yhy a b
  rcases k2.kd with⟨q,e⟩ |⟨q,q2,e⟩ |⟨q,q2,q3,e⟩ |⟨q,q2,q3,e⟩ <;> rcases k3.kd with⟨r,f⟩ |⟨r,r2,f⟩ |⟨r,r2,r3,f⟩ |⟨r,r2,r3,f⟩
  ·rw[e,f]
  ·exact absurd r.symm q
  ·exact absurd r.symm q
  ·exact absurd r.symm q
  ·exact absurd q.symm r
  ·rw[e,f]
  ·rw[q2,r2]at hs;cases hs
  ·rw[q2,r2]at hs;cases hs
  ·exact absurd q.symm r
  ·rw[q2,r2]at hs;cases hs
  ·rw[e,f]
  ·exact absurd q3.symm r3
  ·exact absurd q.symm r
  ·rw[q2,r2]at hs;cases hs
  ·exact absurd r3.symm q3
  ·rw[e,f]
 ·have hz:∀{x y:Pv} {k:Int},DifK x y d k→k=0→ew x y∧nv x y=true∧¬xv x y d:=fun {x y k} h e=>by
   rcases h.kd with⟨_,q⟩ |⟨_,_,q⟩ |⟨_,_,_,q⟩ |⟨q1,q2,q3,_⟩
   ·omega
   ·omega
   ·omega
   ·exact⟨q1,q2,q3⟩
  obtain⟨a1,a2,a3⟩:=hz k2 z2;obtain⟨b1,b2,b3⟩:=hz k4 z4;have c1:=a1.trans b1;have c2:nv a c=true:=by
   obtain⟨p1,p2,p3⟩:=(CJ a b).1 a2;obtain⟨r1,r2,r3⟩:=(CJ b c).1 b2;exact(CJ a c).2 ⟨p1.trans r1,p2.trans r2,p3.trans r3⟩
  have c3:¬xv a c d:=by
   rintro⟨ρ,r1,r2,r3,r4⟩
   have ea:=VE k2.ca r2;have ec:=VE k4.cb r3;have fd:=yie r1;have fa:AT (dR a.when_) (flat d ρ):=OZ k2.na;have fb:AT (dR b.when_) (flat d ρ):=OZ k2.nb;have fc:AT (dR c.when_) (flat d ρ):=OZ k4.nb;have e1:hF (flat d ρ) a.when_=hF (flat d ρ) b.when_:=by
    by_cases q:hF (flat d ρ) a.when_=hF (flat d ρ) b.when_
    ·exact q
    ·exact absurd ⟨_,fd,fa,fb,q⟩ a3
   have e2:hF (flat d ρ) b.when_=hF (flat d ρ) c.when_:=by
    by_cases q:hF (flat d ρ) b.when_=hF (flat d ρ) c.when_
    ·exact q
    ·exact absurd ⟨_,fd,fb,fc,q⟩ b3
   exact r4 (by rw[← ea,← ec,e1,e2])
  rcases k5.kd with⟨q,_⟩ |⟨_,q,_⟩ |⟨_,_,q,_⟩ |⟨_,_,_,q⟩
  ·exact absurd c1 q
  ·rw[c2]at q;cases q
  ·exact absurd q c3
  ·exact q
end
end Go.Ev
