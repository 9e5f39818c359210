/- Texts. -/
import Derived.Test.YtkdnmldmffkkoaaGreatDoorP19
set_option linter.all false
set_option maxRecDepth 100000
set_option maxHeartbeats 8000000
namespace Go.Ev
noncomputable section
section
open Go.Proofs
def WD {α β:Type}{f:α→β}{P:α→Prop}(hf:∀x y,P x→P y→f x=f y→x=y):∀{l m:List α},(∀x∈l,P x)→(∀x∈m,P x)→l.map f=m.map f→l=m
 |[],[],_,_,_=>rfl
 |[],_::_,_,_,h=>by simp at h
 |_::_,[],_,_,h=>by simp at h
 |x::l,y::m,hl,hm,h=>by
  simp only[List.map_cons,List.cons.injEq]at h;rw[hf x y (hl x aq) (hm y aq) h.1,WD hf (fun z hz=>hl z (an _ hz)) (fun z hz=>hm z (an _ hz)) h.2]
def yi3 {S:GS}{d:List Fc}(hg:GI S)(hc:vp d S.L)(hv:dH d=true){root:Int}(hr:0≤root∧root<(S.L.length:Int))(hl:(br S.L root).length≤20000):mZ (cV S.L root) d:=by
 obtain⟨⟨t,ht⟩,ho,aX⟩:=P5 hg.wk hr;have pO:(cV S.L root).length=(br S.L root).length:=by simp[cV]
 have ig:∀{i:Int},i∈br S.L root→∃m,S.L[i.toNat]?=some m∧m∈S.L∧ph S.L i=m.kids∧eh S.L (br S.L root) i=⟨m.fact,m.cuts,m.kids.map (cU (br S.L root)),m.leaf⟩:=fun {i} hi=>by
  have h:=ho.2 i hi;have kp:i.toNat<S.L.length:=by omega
  have e:=aa kp;refine⟨S.L[i.toNat],e,ah kp,?_,?_⟩
  ·unfold ph;rw[Dy e]
  ·unfold eh;rw[Dy e]
 refine⟨hv,?_,by omega,fun n hn=>?_,?_,yii hg.wk hr⟩
 ·rw[pO,ht];simp
 ·obtain⟨i,hi,rfl⟩:=List.mem_map.1 hn;obtain⟨m,m1,m2,m3,m4⟩:=ig hi;rw[m4]
  by_cases hk:m.kids=[]
  ·refine .inl ⟨by simp[hk],?_⟩
   rcases hg.lf m m2 hk with e |e <;> rw[e] <;> exact⟨rfl,rfl⟩
  ·obtain⟨h1,h2,h3,h4,h5,h6,h7,h8,h9⟩:=hc m m2 hk;have Uj:m.fact.toNat<d.length:=by omega
   have e:d.getD m.fact.toNat ⟨.empty,0,0,0⟩=d[m.fact.toNat]:=by rw[ak,aa Uj];rfl
   rw[e]at h6 h7;refine .inr ⟨by simpa using hk,h1,h2,h4,by simpa using h5,Uj,Wh h6 h7,fun k eO l6=>?_⟩;have uY:k<m.kids.length:=by simpa using eO
   have wY:m.kids[k]∈br S.L root:=aX i hi _ (by rw[m3];exact ah uY);have hx:(m.kids.map (cU (br S.L root)))[k]'eO=(nh (br S.L root) m.kids[k]:Int):=by
    rw[List.getElem_map,vq wY]
   have qZ:=By wY;simp only[rG]at l6;rw[hx]at l6
   rcases l6 with q |q |⟨q1,q2⟩ |⟨q1,q2,q3⟩
   ·omega
   ·omega
   ·have dB:k-1<m.kids.length:=(by omega);have Pq:m.kids[k-1]∈br S.L root:=aX i hi _ (by rw[m3];exact ah dB);rw[ak,List.getElem?_map,aa dB]at q2;have q3:cU (br S.L root) m.kids[k-1]=cU (br S.L root) m.kids[k]:=by rw[vq wY];exact q2
    have q4:=P7 Pq wY q3;have q5:=h8 (k-1) (by omega);rw[ak,ak,show k-1+1=k by omega,aa dB,aa uY]at q5;exact q5 q4
   ·have C5:=PW (L:=S.L) (root:=root) wY;rw[Int.toNat_natCast]at q1;have kP:(cV S.L root)[nh (br S.L root) m.kids[k]]=eh S.L (br S.L root) m.kids[k]:=by
     rw[aa q1]at C5;exact Option.some.inj C5
    obtain⟨m',n1,n2,n3,n4⟩:=ig wY;simp only[Int.toNat_natCast]at q2 q3;rw[kP,n4]at q2 q3;simp only at q2 q3;obtain⟨_,m'',r1,r2⟩:=h9 _ (ah uY);rw[n1]at r1;cases r1;rw[bq,if_neg (by simpa using q2)]at r2;omega
 ·unfold cV;rw[List.map_map];refine List.pairwise_map.2 (ho.1.imp_of_mem fun {x y} hx hy aT e=>aT ?_);have e2:=WB e;obtain⟨m,m1,m2,m3,m4⟩:=ig hx;obtain⟨n,n1,n2,n3,n4⟩:=ig hy;rw[m4,n4]at e2;simp only[Nd.mk.injEq]at e2;obtain⟨e3,e4,e5,e6⟩:=e2;have e7:m.kids=n.kids:=WD (P:=fun z=>z∈br S.L root) (fun a b ha hb h=>P7 ha hb h) (fun z hz=>aX x hx z (by rw[m3];exact hz)) (fun z hz=>aX y hy z (by rw[n3];exact hz)) e5;have e8:m=n:=by
   obtain⟨a1,a2,a3,a4⟩:=m;obtain⟨b1,b2,b3,b4⟩:=n;simp only at e3 e4 e6 e7;rw[e3,e4,e6,e7]
  have ow:=ho.2 x hx;have Pp:=ho.2 y hy;have:=Qu hg.nd (i:=x.toNat) (j:=y.toNat) (by omega) (by omega) (by
   rw[aa (by omega)]at m1 n1;rw[Option.some.inj m1,Option.some.inj n1,e8])
  omega
def yj9 {n:Nd}{w:Int}{j:Nat}(hk:n.kids.length=n.cuts.length+1)(hj:j≤n.cuts.length)(h1:∀(i:Nat)(h:i<n.cuts.length),i<j→n.cuts[i]≤w)(h2:∀h:j<n.cuts.length,w<n.cuts[j]):kl n w=(j:Int):=by
 unfold kl
 by_cases e:j<n.cuts.length
 ·have hs:n.cuts=n.cuts.take j++n.cuts[j]::n.cuts.drop (j+1):=by rw[← aj e,List.take_append_drop]
  have hi:bj (fun c=>decide (w<c)) n.cuts=(j:Int):=by
   rw[hs,PZ (p:=fun c=>decide (w<c)) (by simpa using h2 e) fun x hx=>by
    obtain⟨i,hi,e2⟩:=List.getElem_of_mem hx;rw[List.getElem_take]at e2;rw[List.length_take]at hi;have:=h1 i (by omega) (by omega);rw[e2]at this;simp;omega]
   rw[List.length_take];omega
  rw[hi,if_neg (by omega)]
 ·rw[DC fun x hx=>by
   obtain⟨i,hi,e2⟩:=List.getElem_of_mem hx;have:=h1 i hi (by omega);rw[e2]at this;simp;omega,if_pos (by omega)]
  omega
def pE (cs:List Int):Int→Int:=fun i=>cs.getD i.toNat 0
def iq (d:List Fc)(cs:List Int):Prop:=cs.length=d.length∧∀(k:Nat)(h:k<d.length),(d[k]).lo≤cs.getD k 0∧cs.getD k 0≤(d[k]).hi
def Qc (cs:List Int) (i k:Nat) (x:Int):(cs.set i x).getD k 0=if i=k∧k<cs.length then x else cs.getD k 0:=by
 simp only[ak,List.getElem?_set]
 by_cases e:i=k
 ·subst e
  by_cases h:i<cs.length
  ·simp[h]
  ·simp[h]
 ·simp[e]
def JZ {g:List Nd}{d:List Fc}(hV:mZ g d)(hN:∀n∈g,jE n):∀(f at_:Nat)(cs:List Int)(n:Nd),g[at_]?=some n→oJ n=true→(d.length:Int)+1≤f+bq n d→iq d cs→(∀(k:Nat)(h:k<d.length),bq n d≤(k:Int)→cs.getD k 0=(d[k]).lo)→
  (∃m,g[(ff g f at_ cs).1]?=some m∧m.leaf=true)∧iq d (ff g f at_ cs).2∧(∀k:Nat,(k:Int)<bq n d→(ff g f at_ cs).2.getD k 0=cs.getD k 0)∧cP g (pE (ff g f at_ cs).2) (at_:Int) true:=by
 have hW:=(Qz hV hN).2.2;have ik:=hV.2.2.2.1;intro f
 induction f with
 |zero=>
  intro at_ cs n hn _ hf;have:bq n d≤d.length:=by
   rcases ik n (List.mem_of_getElem? hn) with⟨e,_⟩ |⟨e1,_,_,_,_,h6,_⟩
   ·rw[bq,if_pos e];exact Int.le_refl _
   ·rw[bq,if_neg e1];omega
  omega
 |succ f ih=>
  intro at_ cs n hn dZ hf dD eE;have iC:=List.mem_of_getElem? hn;rw[ff];simp only[hn]
  by_cases hk:n.kids=[]
  ·rw[if_pos hk];have C8:n.leaf=true:=by
    unfold oJ at dZ;simpa[hk]using dZ
   refine⟨⟨n,hn,C8⟩,dD,fun k _=>rfl,?_⟩;rw[← C8];exact cP.leaf (by omega) (by rw[Int.toNat_natCast];exact hn) hk
  ·rw[if_neg hk];obtain⟨fi,e1,e2,e3,_,_,j,xi,m,j1,j2,j3,j4,j5⟩:=hW at_ n hn hk;have qN:bq n d=(fi:Int):=by rw[bq,if_neg hk,e1]
   rcases ik n iC with⟨e,_⟩ |⟨_,_,_,tg,_,h6,h7,_⟩
   ·exact absurd e hk
   obtain⟨c1,c2⟩:=JV h7;have F1:n.fact.toNat=fi:=by omega
   have pM:d[n.fact.toNat]=d[fi]:=by congr 1
   rw[pM]at c1 c2;have c3:=(List.pairwise_cons.1 c1).1;have c4:=List.pairwise_iff_getElem.1 (List.pairwise_cons.1 c1).2;have jX:n.kids.getD (bj (iF g) n.kids).toNat 0=(xi:Int):=by
    rw[j1,Int.toNat_natCast,ak,j3];rfl
   have pP:oJ m=true:=by
    obtain⟨j',q1,q2,q3⟩:=yb (p:=iF g) (l:=n.kids) (by
     by_cases hx:∃x∈n.kids,iF g x=true
     ·exact hx
     ·have:=DC (p:=iF g) (l:=n.kids) fun x Di=>by
       cases q:iF g x with
       |false=>rfl
       |true=>exact absurd ⟨x,Di,q⟩ hx
      omega)
    have:j'=j:=(by omega);subst this;rw[aa q2]at j3;rw[Option.some.inj j3]at q3;unfold iF at q3;rw[Int.toNat_natCast,j4]at q3;exact q3
   have dL:bq n d<bq m d:=by
    rw[qN]
    by_cases wO:m.kids=[]
    ·rw[bq,if_pos wO];omega
    ·rw[bq,if_neg wO,← e1];exact j5 wO
   rw[jX,Int.toNat_natCast,F1,j1];obtain⟨val,dw⟩:∃val,val=if 0<j then n.cuts.getD (j-1) 0 else (d[fi]).lo:=⟨_,rfl⟩
   have qP:∀h:0<j,∃hj:j-1<n.cuts.length,n.cuts.getD (j-1) 0=n.cuts[j-1]:=fun h=>⟨by omega,by rw[ak,aa (by omega)];rfl⟩;obtain⟨jT,l8⟩:∃jT,jT=if 0<(j:Int) then cs.set fi (n.cuts.getD ((j:Int).toNat-1) 0) else cs:=⟨_,rfl⟩
   rw[← l8];have dO:∀k:Nat,jT.getD k 0=if k=fi then val else cs.getD k 0:=by
    intro k;rw[l8,dw]
    by_cases h:0<j
    ·rw[if_pos (by omega),if_pos h,Qc,Int.toNat_natCast]
     by_cases e:fi=k
     ·rw[if_pos ⟨e,by have:=dD.1;omega⟩,if_pos e.symm]
     ·rw[if_neg (fun q=>e q.1),if_neg (fun q=>e q.symm)]
    ·rw[if_neg (by omega),if_neg h]
     by_cases e:k=fi
     ·rw[if_pos e,e];exact eE fi e2 (by omega)
     ·rw[if_neg e]
   have iO:jT.length=d.length:=by
    rw[l8];split
    ·rw[List.length_set];exact dD.1
    ·exact dD.1
   have hvr:(d[fi]).lo≤val∧val≤(d[fi]).hi:=by
    rw[dw];split
    ·rename_i h;obtain⟨q1,q2⟩:=qP h;rw[q2];have:=c3 _ (ah q1);exact⟨by omega,c2 _ (ah q1)⟩
    ·have:=dD.2 fi e2;rw[eE fi e2 (by omega)]at this;exact this
   have tj:iq d jT:=⟨iO,fun k h=>by
    rw[dO]
    by_cases e:k=fi
    ·subst e;rw[if_pos rfl];exact hvr
    ·rw[if_neg e];exact dD.2 k h⟩
   obtain⟨r1,r2,r3,r4⟩:=ih xi jT m j4 pP (by omega) tj fun k h hle=>by
    rw[dO,if_neg (by omega)];exact eE k h (by omega)
   refine⟨r1,r2,fun k ay=>?_,?_⟩
   ·rw[r3 k (by omega),dO,if_neg (by omega)]
   ·have hv:pE (ff g f xi jT).2 n.fact=val:=by
     unfold pE;rw[F1,r3 fi (by omega),dO,if_pos rfl]
    have vd:kl n val=(j:Int):=by
     refine yj9 e3 (by omega) (fun i hi nD=>?_) fun hj=>?_
     ·rw[dw,if_pos (by omega)];obtain⟨q1,q2⟩:=qP (by omega);rw[q2]
      by_cases e:i=j-1
      ·subst e;exact Int.le_refl _
      ·exact Int.le_of_lt (c4 i (j-1) hi q1 (by omega))
     ·rw[dw];split
      ·rename_i h;obtain⟨q1,q2⟩:=qP h;rw[q2];exact c4 (j-1) j q1 hj (by omega)
      ·exact c3 _ (ah hj)
    exact cP.node (by omega) (by rw[Int.toNat_natCast];exact hn) hk (by rw[hv,vd,Int.toNat_natCast];exact j3) r4
def W5 {d:List Fc}(hv:dH d=true):iq d (gN d)∧∀(k:Nat)(h:k<d.length),(gN d).getD k 0=(d[k]).lo:=by
 have h1:∀(k:Nat) (h:k<d.length),(gN d).getD k 0=(d[k]).lo:=fun k h=>by
  unfold gN;rw[if_pos hv,ak,List.getElem?_map,aa h];rfl
 refine⟨⟨by unfold gN;rw[if_pos hv];simp,fun k h=>?_⟩,h1⟩;rw[h1 k h];have:=((EC hv).2 _ (ah h)).1;omega
def W6 {g:List Nd}{d:List Fc}(hV:mZ g d)(hN:∀n∈g,jE n):((iX g d).2=true→iq d (iX g d).1∧cP g (pE (iX g d).1) 0 true)∧((iX g d).2=false→∀v,cP g v 0 false):=by
 have h0:0<g.length:=hV.2.1;have cY:=aa h0;have AO:∀n∈g,0≤bq n d:=fun n hn=>by
  rcases hV.2.2.2.1 n hn with⟨e,_⟩ |⟨e1,_,h3,_⟩
  ·rw[bq,if_pos e];omega
  ·rw[bq,if_neg e1];exact h3
 obtain⟨l1,l2⟩:=W5 hV.1
 by_cases dZ:oJ g[0]=true
 ·obtain⟨⟨m,m1,m2⟩,r2,_,r4⟩:=JZ hV hN (d.length+1) 0 (gN d) g[0] cY dZ (by have:=AO _ (ah h0);omega) l1 fun k h _=>l2 k h;have hL:iX g d=((ff g (d.length+1) 0 (gN d)).2,true):=by
   unfold iX;rw[if_pos (ED hV),m1];simp only[m2,if_true]
  rw[hL];exact⟨fun _=>⟨r2,r4⟩,fun h=>(by cases h)⟩
 ·have hb:(g[0]).kids=[]∧(g[0]).leaf=false:=by
   unfold oJ at dZ;simpa using dZ
  have fj:ff g (d.length+1) 0 (gN d)=(0,gN d):=by
   rw[ff,cY];simp only[hb.1,if_true]
  have hL:iX g d=([],false):=by
   unfold iX;rw[if_pos (ED hV),fj];simp only[cY,hb.2];rfl
  rw[hL];refine⟨fun h=>(by cases h),fun _ v=>?_⟩;have:=cP.leaf (v:=v) (i:=0) (Int.le_refl _) cY hb.1;rw[hb.2]at this;exact this
def NQ (d:List Fc):ByteArray→Prop:=fun n=>n∈d.map Fc.name
def yhw {d:List Fc}{n:ByteArray}(h:¬bj (fun x:Fc=>decide (x.name=n)) d<0):NQ d n:=by
 by_cases e:NQ d n
 ·exact e
 ·rw[DC fun x hx=>by
   simp only[decide_eq_false_iff_not];exact fun q=>e (List.mem_map.2 ⟨x,hx,q⟩)]at h
  omega
def WZ {nm kn:ByteArray→Bool}{d:List Fc}{o c m:Int}{n:ByteArray}{kids:List Fm}(h:lU nm kn d (.mk o n c m kids)=0):((o=1∨o=2)∧n=.empty∧c=0∧m=0∧kids=[])∨(o=3∧NQ d n∧0≤m∧m≤1000000∧kids=[])∨(o=4∧kn n=true∧kids=[])∨(o=5∧n=.empty∧c=0∧m=0∧kids.length=1)∨((o=6∨o=7)∧n=.empty∧c=0∧m=0∧2≤kids.length):=by
 simp only[lU]at h;cases hf:rJ nm (.mk o n c m kids) with
 |false=>rw[hf]at h;simp at h
 |true=>
  rw[hf,if_neg (by simp)]at h;simp only[rJ]at hf
  by_cases h1:o≠3∧(c≠0∨m≠0)
  ·rw[if_pos h1]at hf;cases hf
  rw[if_neg h1]at hf
  by_cases h2:o≠3∧o≠4∧n≠⟨#[]⟩
  ·rw[if_pos h2]at hf;cases hf
  rw[if_neg h2]at hf
  by_cases o3:o=3
  ·subst o3;rw[if_neg (by omega),if_pos rfl]at hf;simp only[ao,decide_eq_true_eq]at hf
   by_cases hm:(3:Int)=3∧(m<0∨1000000<m)
   ·rw[if_pos hm]at h;simp at h
   ·rw[if_neg hm]at h
    by_cases hi:((3:Int)=3∧bj (fun x:Fc=>decide (x.name=n)) d<0)∨((3:Int)=4∧kn n=false)
    ·rw[if_pos hi]at h;simp at h
    ·exact .inr (.inl ⟨rfl,yhw fun q=>hi (.inl ⟨rfl,q⟩),by omega,by omega,au hf.1.1⟩)
  ·have hc:c=0:=by
    by_cases q:c=0
    ·exact q
    ·exact absurd ⟨o3,.inl q⟩ h1
   have hm:m=0:=by
    by_cases q:m=0
    ·exact q
    ·exact absurd ⟨o3,.inr q⟩ h1
   have hn:o≠4→n=.empty:=fun o4=>by
    by_cases q:n=⟨#[]⟩
    ·exact q
    ·exact absurd ⟨o3,o4,q⟩ h2
   by_cases G7:o=1∨o=2
   ·rw[if_pos G7]at hf;exact .inl ⟨G7,hn (by omega),hc,hm,au (of_decide_eq_true hf)⟩
   rw[if_neg G7,if_neg o3]at hf
   by_cases o4:o=4
   ·subst o4;rw[if_pos rfl]at hf;simp only[ao,decide_eq_true_eq]at hf;rw[if_neg (by omega)]at h
    by_cases hi:((4:Int)=3∧bj (fun x:Fc=>decide (x.name=n)) d<0)∨((4:Int)=4∧kn n=false)
    ·rw[if_pos hi]at h;simp at h
    ·refine .inr (.inr (.inl ⟨rfl,?_,au hf.1⟩));cases q:kn n with
     |true=>rfl
     |false=>exact absurd (.inr ⟨rfl,q⟩) hi
   rw[if_neg o4]at hf
   by_cases o5:o=5
   ·rw[if_pos o5]at hf;exact .inr (.inr (.inr (.inl ⟨o5,hn o4,hc,hm,of_decide_eq_true hf⟩)))
   rw[if_neg o5]at hf
   by_cases G8:o=6∨o=7
   ·rw[if_pos G8]at hf;exact .inr (.inr (.inr (.inr ⟨G8,hn o4,hc,hm,of_decide_eq_true hf⟩)))
   ·rw[if_neg G8]at hf;cases hf
mutual
def JX {nm kn:ByteArray→Bool}{d:List Fc}:∀f,(df (eN nm kn d) 0 f).1=0→(df (eN nm kn d) 0 f).2=true∧RW (NQ d) (fun n=>kn n=true) f
 |.mk o n c m kids,h=>by
  rw[df]at h ⊢
  by_cases hc:lU nm kn d (.mk o n c m kids)=0
  ·have hs:eN nm kn d 0 (.mk o n c m kids)=(0,true):=by unfold eN;rw[if_pos hc]
   rw[hs]at h ⊢;simp only[if_true]at h ⊢;obtain⟨a1,a2⟩:=WT kids h;refine⟨a1,?_⟩
   rcases WZ hc with q |q |q |⟨q1,q2,q3,q4,q5⟩ |⟨q1,q2,q3,q4,q5⟩
   ·exact .inl q
   ·exact .inr (.inl q)
   ·exact .inr (.inr (.inl q))
   ·exact .inr (.inr (.inr (.inl ⟨q1,q2,q3,q4,q5,a2⟩)))
   ·exact .inr (.inr (.inr (.inr ⟨q1,q2,q3,q4,q5,a2⟩)))
  ·have hs:eN nm kn d 0 (.mk o n c m kids)=(lU nm kn d (.mk o n c m kids),false):=by unfold eN;rw[if_neg hc]
   rw[hs]at h;simp at h;exact absurd h hc
def WT {nm kn:ByteArray→Bool}{d:List Fc}:∀l,(gh (eN nm kn d) 0 l).1=0→(gh (eN nm kn d) 0 l).2=true∧ko (NQ d) (fun n=>kn n=true) l
 |[],_=>⟨by rw[gh],trivial⟩
 |f::l,h=>by
  rw[gh]at h ⊢
  by_cases h1:(df (eN nm kn d) 0 f).2=true
  ·rw[if_pos h1]at h ⊢;have h0:=Iw (J6 nm kn d) 0 f h1;rw[h0]at h ⊢;obtain⟨a1,a2⟩:=JX f h0;obtain⟨b1,b2⟩:=WT l h;exact⟨b1,a2,b2⟩
  ·rw[if_neg h1]at h;exact absurd (JX f h).1 h1
end
def Wd {nm kn:ByteArray→Bool}{d:List Fc}{f:Fm}(h:rH nm kn d f=0):RW (NQ d) (fun n=>kn n=true) f:=by
 unfold rH at h
 by_cases h1:200<f.size∨20<f.deep
 ·rw[if_pos h1]at h;simp at h
 ·rw[if_neg h1]at h;exact(JX f h).2
mutual
def RW.imp {Q T T':ByteArray→Prop}(hT:∀n,T n→T' n):∀{f:Fm},RW Q T f→RW Q T' f
 |.mk o n c m kids,h=>by
  rcases h with q |q |⟨q1,q2,q3⟩ |⟨q1,q2,q3,q4,q5,q6⟩ |⟨q1,q2,q3,q4,q5,q6⟩
  ·exact .inl q
  ·exact .inr (.inl q)
  ·exact .inr (.inr (.inl ⟨q1,hT n q2,q3⟩))
  ·exact .inr (.inr (.inr (.inl ⟨q1,q2,q3,q4,q5,ko.imp hT q6⟩)))
  ·exact .inr (.inr (.inr (.inr ⟨q1,q2,q3,q4,q5,ko.imp hT q6⟩)))
def ko.imp {Q T T':ByteArray→Prop}(hT:∀n,T n→T' n):∀{l:List Fm},ko Q T l→ko Q T' l
 |[],_=>trivial
 |_::_,h=>⟨RW.imp hT h.1,ko.imp hT h.2⟩
end
def Hi {d:List Fc}(h:dH d=true):(d.map Fc.name).Nodup∧∀x∈d,pC x.name:=by
 obtain⟨⟨h1,h2⟩,_⟩:=zJ8 h;refine⟨h2,fun x hx=>?_⟩;have:=(h1 x hx).2;unfold vV at this;exact @of_decide_eq_true _ (Classical.propDecidable _) this
def Wc {d:List Fc}{f:Fm}(h:eL d f=0):dH d=true∧uG d f=0∧(jP d f).2.full=false∧(br (jP d f).2.L (jP d f).1).length≤20000:=by
 unfold eL at h
 by_cases h1:dH d=false∨uG d f≠0
 ·rw[if_pos h1]at h;cases h
 ·rw[if_neg h1]at h
  by_cases h2:24<(jz [] f).length
  ·rw[if_pos h2]at h;cases h
  ·rw[if_neg h2]at h
   by_cases h3:(jP d f).2.full=true∨20000<(br (jP d f).2.L (jP d f).1).length
   ·rw[if_pos h3]at h;cases h
   ·refine⟨?_,?_,?_,by omega⟩
    ·cases hv:dH d with
     |false=>exact absurd (.inl hv) h1
     |true=>rfl
    ·by_cases hc:uG d f=0
     ·exact hc
     ·exact absurd (.inr hc) h1
    ·cases hv:(jP d f).2.full with
     |true=>exact absurd (.inl hv) h3
     |false=>rfl
def JY {d:List Fc}{f:Fm}(h:eL d f=0)(ρ:ByteArray→Int)(hr:yT d ρ):cP (cH d f) (vD d ρ) 0 (hF ρ f):=by
 obtain⟨h1,h2,h3,h4⟩:=Wc h;obtain⟨n1,n2⟩:=Hi h1;obtain⟨d1,d2⟩:=EC h1;obtain⟨fG,fs⟩:=Mo (fun s h=>by have:=Ml h;omega) h2;have hw:RW (NQ d) yQ f:=(Wd h2).imp fun n q=>by simp at q
 obtain⟨gG,gS⟩:=Cm .empty 0 fG;have Cs:GI ⟨[],[],false⟩:=⟨by simp,by intro n hn;simp at hn,by simp,by simp,by simp⟩;obtain⟨q1,q2,_,_⟩:=Ir d (by omega) d2 d.length (bY .empty 0 f) ⟨[],[],false⟩ (ae _) gG (by omega) Cs (by simp[inn]);obtain⟨r1,r2⟩:=JQ (Q':=QD d (d.length-d.length)) (nm:=.empty) 0 ρ (fun n q _=>by
  unfold QD;rw[Nat.sub_self,List.drop_zero];exact q) f hw
 have hs:=(yiq n1 n2 (fun x hx=>(d2 x hx).1) d.length (bY .empty 0 f) ⟨[],[],false⟩ (ae _) r1 (fun p hp=>(by cases hp)) h3).2.2 ρ hr;have he:hF ρ (bY .empty 0 f)=hF ρ f:=by
  rw[r2];refine V8 (Q:=NQ d) (T:=yQ) (fun n q=>?_) (fun n q=>q.elim) hw;obtain⟨x,hx,e⟩:=List.mem_map.1 q;have:=(n2 x hx).2.1;rw[e]at this;unfold mw;rw[if_neg this]
 rw[he]at hs;unfold cH;rw[if_pos h];exact Wp q1.wk q2 hs
def yhz {a b:List Nd}{d:List Fc}(h:mY a b d=0):mZ a d∧mZ b d∧(gL a b d).2.L.length≤20000∧(br (gL a b d).2.L (gL a b d).1).length≤20000:=by
 unfold mY at h
 by_cases h1:dU a d=false∨dU b d=false
 ·rw[if_pos h1]at h;cases h
 ·rw[if_neg h1]at h
  by_cases h2:20000<(gL a b d).2.L.length
  ·rw[if_pos h2]at h;cases h
  ·rw[if_neg h2]at h
   by_cases h3:20000<(br (gL a b d).2.L (gL a b d).1).length
   ·rw[if_pos h3]at h;cases h
   ·refine⟨Cn ?_,Cn ?_,by omega,by omega⟩
    ·cases hv:dU a d with
     |false=>exact absurd (.inl hv) h1
     |true=>rfl
    ·cases hv:dU b d with
     |false=>exact absurd (.inr hv) h1
     |true=>rfl
def WY {a b:List Nd}{d:List Fc}(ha:vZ a)(hb:vZ b)(h:mY a b d=0):mZ (nY a b d) d∧∀ρ,yT d ρ→∀p q,cP a (vD d ρ) 0 p→cP b (vD d ρ) 0 q→cP (nY a b d) (vD d ρ) 0 (p && q):=by
 obtain⟨va,vb,h1,h2⟩:=yhz h;obtain⟨d1,d2⟩:=EC va.1;have da:=Ez va ha.ni ha.cu;have db:=Ez vb hb.ni hb.cu;have vi:0<a.length:=va.2.1;have vj:0<b.length:=vb.2.1;have Ct:HI ⟨[],[]⟩:=⟨⟨by simp[HS.gs],by intro n hn;simp[HS.gs]at hn,by simp[HS.gs],by simp[HS.gs],by simp[HS.gs]⟩,by simp⟩;have gw:=x9 da db (ah vi) (ah vj);obtain⟨q1,q2,_,_⟩:=It a b d (by omega) d2 da db (d.length+1) 0 0 ⟨[],[]⟩ vi vj (by omega) (ae _) Ct (by simp[inn]);obtain⟨⟨s1,_⟩,_,s3,_⟩:=yi2 da db (fun x hx=>(d2 x hx).1) (d.length+1) 0 0 ⟨[],[]⟩ vi vj (by omega) h1 ⟨fun n hn=>(by cases hn),fun p hp=>(by cases hp)⟩;have e:nY a b d=cV (gL a b d).2.gs.L (gL a b d).1:=by unfold nY;rw[if_pos h];rfl
 rw[e];refine⟨yi3 q1.g s1 va.1 q2 h2,fun ρ hr p q hp hq=>Wp q1.g.wk q2 (s3 ρ hr p q hp hq)⟩
def cP.congr {g:List Nd}{v w:Int→Int}{i:Int}{b:Bool}(hvw:∀n∈g,n.kids≠[]→v n.fact=w n.fact)(h:cP g v i b):cP g w i b:=by
 induction h with
 |leaf h1 h2 h3=>exact .leaf h1 h2 h3
 |node h1 h2 h3 h4 _ ih=>exact .node h1 h2 h3 (by rw[← hvw _ (List.mem_of_getElem? h2) h3];exact h4) ih
def fM (d:List Fc)(cs:List Int):ByteArray→Int:=fun n=>cs.getD (bj (fun f:Fc=>decide (f.name=n)) d).toNat 0
def Qb {d:List Fc}(hn:(d.map Fc.name).Nodup){k:Nat}(hk:k<d.length):bj (fun f:Fc=>decide (f.name=(d[k]).name)) d=(k:Int):=by
 obtain⟨j,h1,h2,h3⟩:=yb (p:=fun f:Fc=>decide (f.name=(d[k]).name)) (l:=d) ⟨_,ah hk,by simp⟩;have h4:(d[j]).name=(d[k]).name:=of_decide_eq_true h3;have:j=k:=(List.getElem?_inj (l:=d.map Fc.name) (by simpa using h2) hn).1 (by rw[List.getElem?_map,List.getElem?_map,aa h2,aa hk,Option.map_some,Option.map_some,h4]);rw[h1,this]
def JW {d:List Fc}(hn:(d.map Fc.name).Nodup){cs:List Int}(h:iq d cs):yT d (fM d cs):=by
 intro x hx;obtain⟨k,hk,rfl⟩:=List.getElem_of_mem hx;unfold fM;rw[Qb hn hk,Int.toNat_natCast];exact h.2 k hk
def W4 {d:List Fc}(hn:(d.map Fc.name).Nodup)(cs:List Int){i:Int}(h0:0≤i)(h1:i<(d.length:Int)):pE cs i=vD d (fM d cs) i:=by
 have hi:i.toNat<d.length:=by omega
 have e:d.getD i.toNat ⟨.empty,0,0,0⟩=d[i.toNat]:=by rw[ak,aa hi];rfl
 unfold vD fM pE;rw[e,Qb hn hi,Int.toNat_natCast]
def WX {a b:Fm}{D:List Fc}(ha:eL D a=0)(hb:eL D b=0)(he:(gX (cH D a) (cH D b) D).e=0):((gX (cH D a) (cH D b) D).ok=true→iq D (gX (cH D a) (cH D b) D).c∧hF (fM D (gX (cH D a) (cH D b) D).c) a=true∧hF (fM D (gX (cH D a) (cH D b) D).c) b=false)∧((gX (cH D a) (cH D b) D).ok=false→∀ρ,yT D ρ→hF ρ a=true→hF ρ b=false→False):=by
 have iA:=zI ha;have iB:=Qy (zI hb);unfold gX at he ⊢
 by_cases hz:mY (cH D a) ((cH D b).map eQ) D=0
 ·rw[if_neg (by simpa using hz)]at he ⊢;obtain⟨v1,v2⟩:=WY iA iB hz;have I1:=(Qv iA iB hz).1;obtain⟨l1,l2⟩:=W6 v1 I1;obtain⟨n1,n2⟩:=Hi v1.1;have fU:∀ρ,yT D ρ→cP (nY (cH D a) ((cH D b).map eQ) D) (vD D ρ) 0 (hF ρ a && !hF ρ b):=fun ρ hr=>v2 ρ hr _ _ (JY ha ρ hr) (W7 (JY hb ρ hr));refine⟨fun h=>?_,fun h ρ hr q1 q2=>?_⟩
  ·obtain⟨c1,c2⟩:=l1 h;have bG:=JW n1 c1;have c3:=c2.congr (w:=vD D (fM D (iX (nY (cH D a) ((cH D b).map eQ) D) D).1)) fun n hn hk=>by
    rcases v1.2.2.2.1 n hn with⟨q,_⟩ |⟨_,_,q3,_,_,q6,_⟩
    ·exact absurd q hk
    ·exact W4 n1 _ q3 (by omega)
   have:=c3.det (fU _ bG);have h2:=this.symm;rw[ao]at h2;exact⟨c1,h2.1,by simpa using h2.2⟩
  ·have:=(fU ρ hr).det (l2 h (vD D ρ));rw[q1,q2]at this;cases this
 ·rw[if_pos hz]at he;exact absurd he hz
end
section
open Go.Proofs Go.RowKit
attribute [-go_sem] dN bX fC jg
def yfa (w:Bool){a b:Pv}{d:List Fc}(qa:rY a 40)(qb:rY b 40)(qd:yW d 8):aM 12 [.agg a.cs,.agg b.cs,.agg [.fz 4 w (aN d)]] (jx a b d).v:=
 QA w a b d (by have:=qa.2.1;omega) (by have:=qb.2.1;omega) (by have:=qd.1;omega) (fun f hf=>by
  obtain⟨i,hi,rfl⟩:=List.getElem_of_mem hf;have:=qd.2 i hi;omega) (by have:=qa.1.1;omega) (by have:=qb.1.1;omega) (by obtain⟨_,_,e1,e2,e3⟩:=qa;omega) (by obtain⟨_,_,e1,e2,e3⟩:=qb;omega)
end
section
open Go.Proofs
def My (a b:Pv):Bool:=fP a.begin_ b.begin_ && fP a.end_ b.end_ && fP a.again b.again
def yc (p n:Nat)(a b:List Int):Prop:=(∀k,p≤k→k<n→a.getD k 0=b.getD k 0)∨∃k,p≤k∧k<n∧a.getD k 0<b.getD k 0∧∀j,p≤j→j<k→a.getD j 0=b.getD j 0
def yc.head {p n q:Nat}{a b:List Int}(Vh:p≤q)(h:∀k,p≤k→k<q→k<n→a.getD k 0≤b.getD k 0)(h2:(∀k,p≤k→k<q→k<n→a.getD k 0=b.getD k 0)→yc q n a b):yc p n a b:=by
 by_cases he:∀k,p≤k→k<q→k<n→a.getD k 0=b.getD k 0
 ·rcases h2 he with h3 |⟨k,k1,k2,k3,k4⟩
  ·refine .inl fun k k1 k2=>?_
   by_cases hk:k<q
   ·exact he k k1 hk k2
   ·exact h3 k (by omega) k2
  ·refine .inr ⟨k,by omega,k2,k3,fun j j1 j2=>?_⟩
   by_cases hj:j<q
   ·exact he j j1 hj (by omega)
   ·exact k4 j (by omega) j2
 ·
  have hex:∃k,p≤k∧k<q∧k<n∧¬a.getD k 0=b.getD k 0:=by
   by_cases hx:∃k,p≤k∧k<q∧k<n∧¬a.getD k 0=b.getD k 0
   ·exact hx
   ·refine absurd (fun k k1 k2 k3=>?_) he
    by_cases e:a.getD k 0=b.getD k 0
    ·exact e
    ·exact absurd ⟨k,k1,k2,k3,e⟩ hx
  obtain⟨k,hk⟩:=hex
  induction k using Nat.strongRecOn with
  |_ k ih=>
   obtain⟨k1,k2,k3,k4⟩:=hk
   by_cases hb:∃j,j<k∧p≤j∧¬a.getD j 0=b.getD j 0
   ·obtain⟨j,j1,j2,j3⟩:=hb;exact ih j j1 ⟨j2,by omega,by omega,j3⟩
   ·have:=h k k1 k2 k3;refine .inr ⟨k,k1,k3,by omega,fun j j1 j2=>?_⟩
    by_cases e:a.getD j 0=b.getD j 0
    ·exact e
    ·exact absurd ⟨j,j2,j1,e⟩ hb
def cP.good {g:List Nd}{v:Int→Int}{i:Int}{b:Bool}(h:cP g v i b)(hb:b=true):iF g i=true:=by
 cases h with
 |leaf h1 h2 h3=>
  unfold iF;rw[h2];simp[oJ,hb]
 |node h1 h2 h3 _ _=>
  unfold iF;rw[h2];simp[oJ,h3]
def Qh {α:Type}{p:α→Bool}:∀{l:List α}{j k:Nat},bj p l=(j:Int)→∀h:k<l.length,p l[k]=true→j≤k
 |[],_,_,_,h,_=>by simp at h
 |y::l,j,k,hj,h,hp=>by
  unfold bj at hj
  by_cases hy:p y=true
  ·rw[if_pos hy]at hj;omega
  ·rw[if_neg hy]at hj;cases k with
   |zero=>exact absurd hp hy
   |succ k=>
    obtain⟨j',q1,_⟩:=yb (p:=p) (l:=l) ⟨_,ah (by simpa using h),hp⟩;rw[if_neg (by omega)]at hj;have:=Qh (l:=l) (j:=j') (k:=k) q1 (by simpa using h) hp;omega
def Xu {n:Nd}{w:Int}(hk:n.kids.length=n.cuts.length+1){j:Nat}(h:kl n w=(j:Int))(h0:0<j):∃hj:j-1<n.cuts.length,n.cuts[j-1]≤w:=by
 unfold kl at h;have key:∀(l:List Int),bj (fun c=>decide (w<c)) l<0→∀x∈l,x≤w:=fun l hl x hx=>by
  by_cases e:w<x
  ·obtain⟨j,q,_⟩:=yb (p:=fun c=>decide (w<c)) (l:=l) ⟨x,hx,by simpa using e⟩;omega
  ·omega
 have Pu:∀(l:List Int) (j:Nat),bj (fun c=>decide (w<c)) l=(j:Int)→∀i (hi:i<l.length),i<j→l[i]≤w:=fun l j hj i hi nD=>by
  by_cases e:w<l[i]
  ·have:=Qh hj hi (by simpa using e);omega
  ·omega
 by_cases e:bj (fun c=>decide (w<c)) n.cuts<0
 ·rw[if_pos e]at h;exact⟨by omega,key _ e _ (ah _)⟩
 ·rw[if_neg e]at h;have ay:=TD (fun c=>decide (w<c)) n.cuts;exact⟨by omega,Pu _ j h _ (by omega) (by omega)⟩
def ymu {g:List Nd}{d:List Fc}(hV:mZ g d)(hN:∀n∈g,jE n):∀(f at_ p:Nat)(cs:List Int)(n:Nd),g[at_]?=some n→oJ n=true→(d.length:Int)+1≤f+bq n d→iq d cs→(p:Int)≤bq n d→(∀(k:Nat)(h:k<d.length),p≤k→cs.getD k 0=(d[k]).lo)→∀c',iq d c'→cP g (pE c') (at_:Int) true→yc p d.length (ff g f at_ cs).2 c':=by
 have hW:=(Qz hV hN).2.2;have ik:=hV.2.2.2.1;intro f
 induction f with
 |zero=>
  intro at_ p cs n hn _ hf;have:bq n d≤d.length:=by
   rcases ik n (List.mem_of_getElem? hn) with⟨e,_⟩ |⟨e1,_,_,_,_,h6,_⟩
   ·rw[bq,if_pos e];exact Int.le_refl _
   ·rw[bq,if_neg e1];omega
  omega
 |succ f ih=>
  intro at_ p cs n hn dZ hf dD hp eE c' uR fU;have iC:=List.mem_of_getElem? hn;obtain⟨_,bG,hag,_⟩:=JZ hV hN (f+1) at_ cs n hn dZ hf dD fun k h hk=>eE k h (by omega)
  by_cases hk:n.kids=[]
  ·have fj:ff g (f+1) at_ cs=(at_,cs):=by
    rw[ff];simp only[hn,hk,if_true]
   rw[fj];refine yc.head (q:=d.length) (by rw[bq,if_pos hk]at hp;omega) (fun k k1 k2 k3=>?_) (fun _=>.inl fun k k1 k2=>by omega);rw[eE k k3 k1];exact(uR.2 k k3).1
  ·obtain⟨fi,e1,e2,e3,_,_,j,xi,m,j1,j2,j3,j4,j5⟩:=hW at_ n hn hk;have qN:bq n d=(fi:Int):=by rw[bq,if_neg hk,e1]
   have F1:n.fact.toNat=fi:=by omega
   rcases ik n iC with⟨e,_⟩ |⟨_,_,_,tg,_,h6,h7,_⟩
   ·exact absurd e hk
   obtain⟨c1,c2⟩:=JV h7;have pM:d[n.fact.toNat]=d[fi]:=by congr 1
   rw[pM]at c1 c2;have c3:=(List.pairwise_cons.1 c1).1;have c4:=List.pairwise_iff_getElem.1 (List.pairwise_cons.1 c1).2;have jX:n.kids.getD (bj (iF g) n.kids).toNat 0=(xi:Int):=by
    rw[j1,Int.toNat_natCast,ak,j3];rfl
   have pP:oJ m=true:=by
    obtain⟨j',q1,q2,q3⟩:=yb (p:=iF g) (l:=n.kids) (by
     by_cases hx:∃x∈n.kids,iF g x=true
     ·exact hx
     ·have:=DC (p:=iF g) (l:=n.kids) fun x Di=>by
       cases q:iF g x with
       |false=>rfl
       |true=>exact absurd ⟨x,Di,q⟩ hx
      omega)
    have:j'=j:=(by omega);subst this;rw[aa q2]at j3;rw[Option.some.inj j3]at q3;unfold iF at q3;rw[Int.toNat_natCast,j4]at q3;exact q3
   have dL:(fi:Int)+1≤bq m d:=by
    by_cases wO:m.kids=[]
    ·rw[bq,if_pos wO];omega
    ·rw[bq,if_neg wO];have:=j5 wO;omega
   obtain⟨jT,l8⟩:∃jT,jT=if 0<(j:Int) then cs.set fi (n.cuts.getD ((j:Int).toNat-1) 0) else cs:=⟨_,rfl⟩
   have fj:ff g (f+1) at_ cs=ff g f xi jT:=by
    rw[ff];simp only[hn];rw[if_neg hk,jX,Int.toNat_natCast,F1,j1,l8]
   have iO:jT.length=d.length:=by
    rw[l8];split
    ·rw[List.length_set];exact dD.1
    ·exact dD.1
   have dO:∀k:Nat,k≠fi→jT.getD k 0=cs.getD k 0:=fun k aT=>by
    rw[l8];split
    ·rw[Qc,if_neg (fun q=>aT q.1.symm)]
    ·rfl
   have bg:(0<j→∃hj:j-1<n.cuts.length,jT.getD fi 0=n.cuts[j-1])∧(j=0→jT.getD fi 0=(d[fi]).lo):=by
    refine⟨fun h=>⟨by omega,?_⟩,fun h=>?_⟩
    ·rw[l8,if_pos (by omega),Qc,if_pos ⟨rfl,by have:=dD.1;omega⟩,Int.toNat_natCast,ak,aa (by omega)];rfl
    ·rw[l8,if_neg (by omega)];exact eE fi e2 (by omega)
   have tj:iq d jT:=⟨iO,fun k h=>by
    by_cases e:k=fi
    ·subst e
     by_cases h0:0<j
     ·obtain⟨q1,q2⟩:=bg.1 h0;rw[q2];have:=c3 _ (ah q1);exact⟨by omega,c2 _ (ah q1)⟩
     ·rw[bg.2 (by omega)];have:=dD.2 k h;rw[eE k h (by omega)]at this;exact this
    ·rw[dO k e];exact dD.2 k h⟩
   have Gm:∀(k:Nat) (h:k<d.length),fi+1≤k→jT.getD k 0=(d[k]).lo:=fun k h dK=>by
    rw[dO k (by omega)];exact eE k h (by omega)
   obtain⟨_,_,FB,_⟩:=JZ hV hN f xi jT m j4 pP (by omega) tj fun k h dK=>Gm k h (by omega);rw[fj]at hag ⊢;obtain⟨j',z,k1,k2,k3⟩:∃(j':Nat) (z:Int),kl n (pE c' n.fact)=(j':Int)∧n.kids[j']?=some z∧cP g (pE c') z true:=by
    generalize yv:true=bt at fU;cases fU with
    |leaf _ q2 q3=>
     rw[Int.toNat_natCast,hn]at q2;cases q2;exact absurd q3 hk
    |node _ q2 _ q4 q5=>
     rw[Int.toNat_natCast,hn]at q2;cases q2;obtain⟨j',r1,r2⟩:=Mu (v:=pE c' n.fact) e3;rw[r1,Int.toNat_natCast]at q4;exact⟨j',_,r1,q4,yv ▸ q5⟩
   have Gc:j'<n.kids.length:=by
    by_cases q:j'<n.kids.length
    ·exact q
    ·rw[List.getElem?_eq_none (by omega)]at k2;cases k2
   have yE:j≤j':=Qh j1 Gc (by
    rw[aa Gc]at k2;rw[Option.some.inj k2];exact k3.good rfl)
   have hcv:pE c' n.fact=c'.getD fi 0:=by unfold pE;rw[F1]
   rw[hcv]at k1;have NX:=uR.2 fi e2;have hle:jT.getD fi 0≤c'.getD fi 0∧(j<j'→jT.getD fi 0<c'.getD fi 0):=by
    by_cases h0:0<j
    ·obtain⟨q1,q2⟩:=bg.1 h0;obtain⟨r1,r2⟩:=Xu e3 k1 (by omega);rw[q2]
     by_cases e:j=j'
     ·subst e;exact⟨r2,fun q=>by omega⟩
     ·have:=c4 (j-1) (j'-1) q1 r1 (by omega);exact⟨by omega,fun _=>by omega⟩
    ·rw[bg.2 (by omega)];refine⟨NX.1,fun q=>?_⟩;obtain⟨r1,r2⟩:=Xu e3 k1 (by omega);have:=c3 _ (ah r1);omega
   have aH:(ff g f xi jT).2.getD fi 0=jT.getD fi 0:=FB fi (by omega);refine yc.head (q:=fi+1) (by omega) (fun k q1 q2 q3=>?_) fun heq=>?_
   ·by_cases e:k=fi
    ·subst e;rw[aH];exact hle.1
    ·rw[FB k (by omega),Gn (dO k e) (eE k q3 q1)];exact(uR.2 k q3).1
   ·have wz:j=j':=by
     by_cases e:j<j'
     ·have:=hle.2 e;have:=heq fi (by omega) (by omega) e2;omega
     ·omega
    subst wz;rw[j3]at k2;cases k2;exact ih xi (fi+1) jT m j4 pP (by omega) tj (by omega) Gm c' uR k3
 where
 Gn {a b c:Int} (h:a=b) (k:b=c):a=c:=h.trans k
def ymv {g:List Nd}{d:List Fc}(hV:mZ g d)(hN:∀n∈g,jE n)(h:(iX g d).2=true){c':List Int}(hc:iq d c')(he:cP g (pE c') 0 true):yc 0 d.length (iX g d).1 c':=by
 have h0:0<g.length:=hV.2.1;have cY:=aa h0;have AO:∀n∈g,0≤bq n d:=fun n hn=>by
  rcases hV.2.2.2.1 n hn with⟨e,_⟩ |⟨e1,_,h3,_⟩
  ·rw[bq,if_pos e];omega
  ·rw[bq,if_neg e1];exact h3
 obtain⟨l1,l2⟩:=W5 hV.1;have dZ:oJ g[0]=true:=by
  have:=he.good rfl;unfold iF at this;simpa[cY]using this
 have ha:=AO _ (ah h0);obtain⟨⟨m,m1,m2⟩,_,_,_⟩:=JZ hV hN (d.length+1) 0 (gN d) g[0] cY dZ (by omega) l1 fun k h _=>l2 k h;have hL:iX g d=((ff g (d.length+1) 0 (gN d)).2,true):=by
  unfold iX;rw[if_pos (ED hV),m1];simp only[m2,if_true]
 rw[hL];exact ymu hV hN (d.length+1) 0 0 (gN d) g[0] cY dZ (by omega) l1 (by omega) (fun k h _=>l2 k h) c' hc he
def Xo:∀{a b c:List Int},ir a b=true→ir b c=true→ir a c=true
 |[],_,_,h,_=>by simp[ir]at h
 |_::_,[],_,h,_=>by simp[ir]at h
 |_::_,_::_,[],_,h=>by simp[ir]at h
 |x::a,y::b,z::c,h,k=>by
  rw[ir]at h k ⊢
  by_cases e1:x=y
  ·subst e1;rw[if_pos rfl]at h
   by_cases e2:x=z
   ·rw[if_pos e2]at k ⊢;exact Xo h k
   ·rw[if_neg e2]at k ⊢;exact k
  ·rw[if_neg e1]at h
   by_cases e2:y=z
   ·subst e2;rw[if_neg e1];exact h
   ·rw[if_neg e2]at k;have h1:=of_decide_eq_true h;have k1:=of_decide_eq_true k;rw[if_neg (by omega)];exact decide_eq_true (by omega)
def Xn:∀{a b c:List Int},a.length=b.length→b.length=c.length→ir a c=true→ir a b=false→ir b c=true
 |[],_,_,_,_,h,_=>by simp[ir]at h
 |_::_,[],_,h1,_,_,_=>by simp at h1
 |_::_,_::_,[],_,h2,_,_=>by simp at h2
 |x::a,y::b,z::c,h1,h2,h,k=>by
  rw[ir]at h k ⊢
  by_cases e1:x=y
  ·subst e1;rw[if_pos rfl]at k
   by_cases e2:x=z
   ·rw[if_pos e2]at h ⊢;exact Xn (by simpa using h1) (by simpa using h2) h k
   ·rw[if_neg e2]at h ⊢;exact h
  ·rw[if_neg e1]at k;have k1:=of_decide_eq_false k
   by_cases e2:x=z
   ·subst e2;rw[if_neg (fun q=>e1 q.symm)];exact decide_eq_true (by omega)
   ·rw[if_neg e2]at h;have h3:=of_decide_eq_true h;rw[if_neg (by omega)];exact decide_eq_true (by omega)
def Qf:∀{a b:List Int},a.length=b.length→(oI a b<0↔ir a b=true)
 |[],[],_=>by simp[oI,ir]
 |[],_::_,h=>by simp at h
 |_::_,[],h=>by simp at h
 |x::a,y::b,h=>by
  rw[oI,ir];have ih:=Qf (a:=a) (b:=b) (by simpa using h);unfold zF
  by_cases e:x=y
  ·subst e;simp[ih]
  ·by_cases e2:x<y
   ·simp[e,e2]
   ·have e3:y<x:=(by omega);simp[e,e2,e3]
def W9:∀{a b:List Int}{n:Nat},a.length=n→b.length=n→yc 0 n a b→ir b a=false
 |[],b,n,h1,h2,_=>by
  subst h1;have:b=[]:=au h2;subst this;rfl
 |x::a,[],n,h1,h2,_=>by simp at h1 h2;omega
 |x::a,y::b,n,h1,h2,h=>by
  obtain⟨m,rfl⟩:∃m,n=m+1:=⟨a.length,by simpa using h1.symm⟩;rw[ir];have hs:∀k,(x::a).getD (k+1) 0=a.getD k 0:=fun k=>by simp[ak]
  have ku:∀k,(y::b).getD (k+1) 0=b.getD k 0:=fun k=>by simp[ak]
  have h0:(x::a).getD 0 0=x:=rfl;have IT:(y::b).getD 0 0=y:=rfl
  by_cases e:y=x
  ·rw[if_pos e];refine W9 (n:=m) (by simpa using h1) (by simpa using h2) ?_
   rcases h with h |⟨k,k1,k2,k3,k4⟩
   ·refine .inl fun k k1 k2=>?_;have:=h (k+1) (by omega) (by omega);rw[hs,ku]at this;exact this
   ·cases k with
    |zero=>rw[h0,IT]at k3;omega
    |succ k=>
     rw[hs,ku]at k3;refine .inr ⟨k,by omega,by omega,k3,fun j j1 j2=>?_⟩;have:=k4 (j+1) (by omega) (by omega);rw[hs,ku]at this;exact this
  ·rw[if_neg e];refine decide_eq_false fun q=>?_
   rcases h with h |⟨k,k1,k2,k3,k4⟩
   ·have:=h 0 (by omega) (by omega);rw[h0,IT]at this;omega
   ·cases k with
    |zero=>rw[h0,IT]at k3;omega
    |succ k=>
     have:=k4 0 (by omega) (by omega);rw[h0,IT]at this;omega
def XB {a b:Fm}{D:List Fc}(ha:eL D a=0)(hb:eL D b=0)(he:(gX (cH D a) (cH D b) D).e=0)(oY:(gX (cH D a) (cH D b) D).ok=true){c':List Int}(hc:iq D c')(h1:hF (fM D c') a=true)(h2:hF (fM D c') b=false):ir c' (gX (cH D a) (cH D b) D).c=false:=by
 have iA:=zI ha;have iB:=Qy (zI hb);unfold gX at he oY ⊢
 by_cases hz:mY (cH D a) ((cH D b).map eQ) D=0
 ·rw[if_neg (by simpa using hz)]at he oY ⊢;obtain⟨v1,v2⟩:=WY iA iB hz;have I1:=(Qv iA iB hz).1;obtain⟨n1,n2⟩:=Hi v1.1;have bG:=JW n1 hc;have fU:=v2 _ bG _ _ (JY ha _ bG) (W7 (JY hb _ bG));rw[h1,h2]at fU;have me:=fU.congr (w:=pE c') fun n hn hk=>by
   rcases v1.2.2.2.1 n hn with⟨q,_⟩ |⟨_,_,q3,_,_,q6,_⟩
   ·exact absurd q hk
   ·exact(W4 n1 c' q3 (by omega)).symm
  have hl:=ymv v1 I1 oY hc me;have rO:=((W6 v1 I1).1 oY).1;exact W9 rO.1 hc.1 hl
 ·rw[if_pos hz]at oY;cases oY
def ylq {a b:Fm}{D:List Fc}(he:(kj a b D).e=0):dH D=true∧((kj a b D).f=true→iq D (kj a b D).c∧hF (fM D (kj a b D).c) a≠hF (fM D (kj a b D).c) b)∧∀c',iq D c'→hF (fM D c') a≠hF (fM D c') b→(kj a b D).f=true∧ir c' (kj a b D).c=false:=by
 unfold kj at he ⊢
 by_cases h1:eL D (bL a)=0
 case neg=>rw[if_pos h1]at he;exact absurd he h1
 rw[if_neg (by simpa using h1)]at he ⊢
 by_cases h2:eL D (bL b)=0
 case neg=>rw[if_pos h2]at he;exact absurd he h2
 rw[if_neg (by simpa using h2)]at he ⊢;have hv:=(Wc h1).1;have hn:=(Hi hv).1;generalize hX:gX (cH D (bL a)) (cH D (bL b)) D=X at he ⊢;generalize hY:gX (cH D (bL b)) (cH D (bL a)) D=Y at he ⊢;unfold Mp at he ⊢
 by_cases h3:X.e=0
 case neg=>rw[if_pos h3]at he;exact absurd he h3
 rw[if_neg (by simpa using h3)]at he ⊢
 by_cases h4:Y.e=0
 case neg=>rw[if_pos h4]at he;exact absurd he h4
 rw[if_neg (by simpa using h4)]at he ⊢;have wx:=WX h1 h2 (by rw[hX];exact h3);have wy:=WX h2 h1 (by rw[hY];exact h4);have mx:=fun q c' (hc:iq D c')=>XB h1 h2 (by rw[hX];exact h3) (by rw[hX];exact q) hc;have my:=fun q c' (hc:iq D c')=>XB h2 h1 (by rw[hY];exact h4) (by rw[hY];exact q) hc;rw[hX]at wx mx;rw[hY]at wy my;simp only[Wt]at wx wy mx my;obtain⟨x1,x2⟩:=wx;obtain⟨y1,y2⟩:=wy;simp only;refine⟨hv,fun h=>?_,fun c' hc hd=>?_⟩
 ·by_cases eU:X.ok=false∨(Y.ok=true∧oI Y.c X.c<0)
  ·rw[if_pos eU];have hy:Y.ok=true:=by
    rcases eU with q |q
    ·rw[q]at h;simpa using h
    ·exact q.1
   obtain⟨c1,c2,c3⟩:=y1 hy;exact⟨c1,by rw[c2,c3];simp⟩
  ·rw[if_neg eU];have hx:X.ok=true:=by
    cases q:X.ok with
    |true=>rfl
    |false=>exact absurd (.inl q) eU
   obtain⟨c1,c2,c3⟩:=x1 hx;exact⟨c1,by rw[c2,c3];simp⟩
 ·cases e1:hF (fM D c') a <;> cases e2:hF (fM D c') b
  ·rw[e1,e2]at hd;exact absurd rfl hd
  ·
   have hy:Y.ok=true:=by
    cases q:Y.ok with
    |true=>rfl
    |false=>exact(y2 q _ (JW hn hc) e2 e1).elim
   have Gr:=my hy c' hc e2 e1;refine⟨by rw[hy];simp,?_⟩
   by_cases eU:X.ok=false∨(Y.ok=true∧oI Y.c X.c<0)
   ·rw[if_pos eU];exact Gr
   ·rw[if_neg eU];have hx:X.ok=true:=by
     cases q:X.ok with
     |true=>rfl
     |false=>exact absurd (.inl q) eU
    have lx:=(x1 hx).1.1;have ly:=(y1 hy).1.1;cases q:ir c' X.c with
    |false=>rfl
    |true=>
     have:=Xn (by rw[hc.1,ly]) (by rw[lx,ly]) q Gr;exact absurd (.inr ⟨hy,(Qf (by rw[lx,ly])).2 this⟩) eU
  ·have hx:X.ok=true:=by
    cases q:X.ok with
    |true=>rfl
    |false=>exact(x2 q _ (JW hn hc) e1 e2).elim
   have Va:=mx hx c' hc e1 e2;refine⟨by rw[hx];simp,?_⟩
   by_cases eU:X.ok=false∨(Y.ok=true∧oI Y.c X.c<0)
   ·rw[if_pos eU]
    rcases eU with q |⟨q1,q2⟩
    ·rw[q]at hx;cases hx
    ·have lx:=(x1 hx).1.1;have ly:=(y1 q1).1.1;have Bd:=(Qf (by rw[lx,ly])).1 q2;cases q:ir c' Y.c with
     |false=>rfl
     |true=>
      have:=Xo q Bd;rw[Va]at this;cases this
   ·rw[if_neg eU];exact Va
  ·rw[e1,e2]at hd;exact absurd rfl hd
def ylt {n:Nat}(h:nZ (rI n:Int)=true):iV 1 (n:Int):=by
 unfold iV
 by_cases h1:(97≤n∧n≤122)∨(65≤n∧n≤90)
 ·left;omega
 by_cases h2:48≤n∧n≤57
 ·right;exact⟨by decide,by omega⟩
 by_cases h3:n=95
 ·right;exact⟨by decide,by omega⟩
 exfalso;unfold rI at h;rw[if_neg h1,if_neg h2]at h
 repeat' split at h
 all_goals first
  |contradiction
  |(simp[nZ]at h)
def yls {n:Nat}(h:rI n=3):iV 0 (n:Int):=by
 unfold iV
 by_cases h1:(97≤n∧n≤122)∨(65≤n∧n≤90)
 ·left;omega
 exfalso;unfold rI at h;rw[if_neg h1]at h
 repeat' split at h
 all_goals cases h
def yn6 (src:ByteArray) (i:Nat)(h0:(eK src i).1.code=0)(h1:(eK src i).1.kind=1):pC (eK src i).1.text:=by
 have bC:=zMa src i h1 h0;unfold eK at h1 h0 bC ⊢
 by_cases c3:cl src i=3
 ·rw[if_pos c3]at bC ⊢;simp only at bC ⊢;have ay:i<src.size:=by
   rcases Nat.lt_or_ge i src.size with q |q
   ·exact q
   ·rw[Mm q]at c3;cases c3
  have hle:=Iv nZ rfl src src.size i (by omega);have rP:=Qk (p:=nZ) rfl ay (by rw[c3];rfl);have aQ:=Qs nZ src src.size i;generalize fY nZ src src.size i=j at bC hle rP aQ ⊢;have oT:=extract_size (s:=src) (i:=i) (j:=j) (by omega) hle.2;refine⟨fun k hk=>?_,fun e=>?_,bC⟩
  ·rw[oT]at hk;have pQ:i+k<src.size:=by omega
   rw[ByteArray.getElem_extract];cases k with
   |zero=>
    refine yls ?_;have:=Qw ay;rw[c3]at this;have e2:rI (src[i]).toNat=3:=by omega
    simpa using e2
   |succ k=>
    have hw:=aQ (i+(k+1)) (by omega) (by omega);rw[Qw pQ]at hw;have:=ylt hw;unfold iV at this ⊢
    rcases this with q |⟨_,q⟩
    ·exact .inl q
    ·exact .inr ⟨by omega,q⟩
  ·rw[e]at oT;simp at oT;omega
 ·rw[if_neg c3]at h1
  by_cases c4:cl src i=4
  ·rw[if_pos c4]at h1;simp only at h1;split at h1 <;> cases h1
  ·rw[if_neg c4]at h1
   by_cases c6:cl src i=6∨cl src i=7∨cl src i=8
   ·rw[if_pos c6]at h1;split at h1 <;> cases h1
   ·rw[if_neg c6]at h1;cases h1
def Xs {s:ByteArray}(h:n9 s=true):pC s:=by
 have hv:=W8 (P:=fun t=>t.kind=1→pC t.text) (s:=s) fun i h0 h1=>yn6 s i h0 h1;unfold n9 at h;generalize sH s=r at h hv;obtain⟨ts,e,a⟩:=r;simp only at h hv
 rcases ts with _ |⟨t,_ |⟨t2,l⟩⟩
 ·simp at h
 ·simp at h;have:=hv t (by simp) h.2.1;rw[h.2.2]at this;exact this
 ·simp at h
mutual
def rW (p:Fm→Prop):Fm→Prop
 |.mk o n c m kids=>p (.mk o n c m kids)∧rX p kids
def rX (p:Fm→Prop):List Fm→Prop
 |[]=>True
 |f::l=>rW p f∧rX p l
end
def rX.get {p:Fm→Prop}:∀{l:List Fm}{k:Nat},rX p l→∀h:k<l.length,rW p l[k]
 |_::_,0,h,_=>h.1
 |_::l,k+1,h,hk=>rX.get (l:=l) h.2 (by simpa using hk)
def ko.get {Q T:ByteArray→Prop}:∀{l:List Fm}{k:Nat},ko Q T l→∀h:k<l.length,RW Q T l[k]
 |_::_,0,h,_=>h.1
 |_::l,k+1,h,hk=>ko.get (l:=l) h.2 (by simpa using hk)
def DD (d:List Fc)(f:Fm):Prop:=Qd f∧(match f with |.mk o n _ m _=>o=3→NQ d n∧0≤m∧m≤1000000)
def ylu {kn:ByteArray→Bool}{d:List Fc}{f:Fm}(h:lU n9 kn d f=0):DD d f:=by
 obtain⟨o,n,c,m,kids⟩:=f;have hr:=WZ h;have hf:rJ n9 (.mk o n c m kids)=true:=by
  unfold lU at h;cases q:rJ n9 (.mk o n c m kids) with
  |true=>rfl
  |false=>rw[q]at h;simp at h
 unfold DD Qd
 rcases hr with⟨e,e1,e2,e3,e4⟩ |⟨e,q,q1,q2,e4⟩ |⟨e,q,e4⟩ |⟨e,e1,e2,e3,e4⟩ |⟨e,e1,e2,e3,e4⟩
 ·exact⟨.inl ⟨e,e1,e2,e3,e4⟩,fun q=>by omega⟩
 ·subst e;have hc:n9 n=true∧1≤c∧c≤6:=by
   simp[rJ]at hf;exact⟨hf.1.2,hf.2.1,hf.2.2⟩
  exact⟨.inr (.inl ⟨rfl,Xs hc.1,hc.2.1,hc.2.2,e4⟩),fun _=>⟨q,q1,q2⟩⟩
 ·subst e;have hz:c=0∧m=0∧n9 n=true:=by
   simp only[rJ]at hf
   by_cases q1:(4:Int)≠3∧(c≠0∨m≠0)
   ·rw[if_pos q1]at hf;cases hf
   ·rw[if_neg q1,if_neg (by omega),if_neg (by omega),if_neg (by omega),if_pos trivial]at hf;simp only[ao]at hf;exact⟨by omega,by omega,hf.2⟩
  exact⟨.inr (.inr (.inl ⟨rfl,Xs hz.2.2,hz.1,hz.2.1,e4⟩)),fun q=>by omega⟩
 ·exact⟨.inr (.inr (.inr (.inl ⟨e,e1,e2,e3,e4⟩))),fun q=>by omega⟩
 ·exact⟨.inr (.inr (.inr (.inr ⟨e,e1,e2,e3,e4⟩))),fun q=>by omega⟩
mutual
def Xy {nm kn:ByteArray→Bool}{d:List Fc}:∀f,(df (eN nm kn d) 0 f).1=0→rW (fun x=>lU nm kn d x=0) f
 |.mk o n c m kids,h=>by
  rw[df]at h
  by_cases hc:lU nm kn d (.mk o n c m kids)=0
  ·have hs:eN nm kn d 0 (.mk o n c m kids)=(0,true):=by unfold eN;rw[if_pos hc]
   rw[hs]at h;simp only[if_true]at h;exact⟨hc,Xx kids h⟩
  ·have hs:eN nm kn d 0 (.mk o n c m kids)=(lU nm kn d (.mk o n c m kids),false):=by unfold eN;rw[if_neg hc]
   rw[hs]at h;simp at h;exact absurd h hc
def Xx {nm kn:ByteArray→Bool}{d:List Fc}:∀l,(gh (eN nm kn d) 0 l).1=0→rX (fun x=>lU nm kn d x=0) l
 |[],_=>trivial
 |f::l,h=>by
  rw[gh]at h
  by_cases h1:(df (eN nm kn d) 0 f).2=true
  ·rw[if_pos h1]at h;have h0:=Iw (J6 nm kn d) 0 f h1;rw[h0]at h;exact⟨Xy f h0,Xx l h⟩
  ·rw[if_neg h1]at h;exact absurd (JX f h).1 h1
end
mutual
def rW.imp {p q:Fm→Prop}(h:∀f,p f→q f):∀f,rW p f→rW q f
 |.mk _ _ _ _ kids,a=>⟨h _ a.1,rX.imp h kids a.2⟩
def rX.imp {p q:Fm→Prop}(h:∀f,p f→q f):∀l,rX p l→rX q l
 |[],_=>trivial
 |f::l,a=>⟨rW.imp h f a.1,rX.imp h l a.2⟩
end
def ylr {d:List Fc}{f:Fm}(h:kJ d f=0):rW (DD d) f∧f.size≤200∧f.deep≤20:=by
 unfold kJ rH at h
 by_cases h1:200<f.size∨20<f.deep
 ·rw[if_pos h1]at h;simp at h
 ·rw[if_neg h1]at h;exact⟨rW.imp (fun _=>ylu) f (Xy f h),by omega,by omega⟩
def J0 {x:ByteArray}:∀{l:List ByteArray},fy x l<0↔¬x∈l
 |[]=>by simp[fy]
 |y::l=>by
  have ih:=J0 (x:=x) (l:=l)
  by_cases e:x=y
  ·simp[fy,e]
  ·by_cases h:fy x l<0
   ·have:=ih.1 h;simp[fy,e,h,this]
   ·have h2:x∈l:=Classical.byContradiction fun q=>h (ih.2 q);simp only[fy,if_neg e,if_neg h,List.mem_cons,h2,or_true,not_true_eq_false,iff_false];omega
mutual
def Xz:∀(f:Fm)(s:List ByteArray),df lh s f=(mA s f,true)
 |.mk o n c m kids,s=>by
  have e:lh s (.mk o n c m kids)=((if o=4 then fO s n else s),true):=by
   unfold lh fO
   by_cases h4:o=4
   ·by_cases hm:n∈s
    ·have:¬fy n s<0:=fun q=>J0.1 q hm;simp only[h4,hm,this,and_false,if_false,if_true]
    ·have:fy n s<0:=J0.2 hm;simp only[h4,hm,this,and_self,if_false,if_true]
   ·simp only[h4,false_and,if_false]
  rw[df,e];simp only[if_true];rw[XA kids,mA]
def XA:∀(l:List Fm)(s:List ByteArray),gh lh s l=(qi s l,true)
 |[],s=>by rw[gh,qi]
 |f::l,s=>by
  rw[gh,Xz f s];simp only[if_true];rw[XA l,qi]
end
def J4 (f:Fm):eM f=mA [] f:=by unfold eM;rw[Xz]
def yll {l:List ByteArray}{n:ByteArray}(h:l.Nodup):(fO l n).Nodup:=by
 unfold fO;split
 ·exact h
 ·rename_i q;rw[List.nodup_append];exact⟨h,by simp,fun x hx y hy e=>by simp at hy;exact q (hy ▸ e ▸ hx)⟩
mutual
def Xp:∀(f:Fm){l:List ByteArray},l.Nodup→(mA l f).Nodup
 |.mk o n c m kids,l,h=>by
  rw[mA];refine Xr kids ?_;split
  ·exact yll h
  ·exact h
def Xr:∀(t:List Fm){l:List ByteArray},l.Nodup→(qi l t).Nodup
 |[],l,h=>h
 |f::t,l,h=>Xr t (Xp f h)
end
def Xd:∀(m:List ByteArray){l:List ByteArray},(l++m).Nodup→m.foldl fO l=l++m
 |[],l,_=>by simp
 |x::m,l,h=>by
  have hx:¬x∈l:=fun q=>(List.nodup_append.1 h).2.2 x q x aq rfl;have e:fO l x=l++[x]:=by unfold fO;rw[if_neg hx]
  rw[List.foldl_cons,e,Xd m (by simpa using h)];simp
def Qi {d:List Fc}:∀(l seen:List ByteArray)(D D':List Fc),oG d l seen D=some D'→(∀n∈l,¬NQ d n)∧∃add,l.foldl fO seen=seen++add∧D'=D++dM add
 |[],seen,D,D',h=>by
  simp only[oG,Option.some.injEq]at h;exact⟨by simp,[],by simp,by simp[dM,h]⟩
 |n::l,seen,D,D',h=>by
  rw[oG]at h
  by_cases h1:bj (fun f:Fc=>decide (f.name=n)) d<0
  ·rw[if_neg (by simpa using h1)]at h;have gE:¬NQ d n:=fun q=>by
    obtain⟨x,hx,e⟩:=List.mem_map.1 q;obtain⟨j,q1,_⟩:=yb (p:=fun f:Fc=>decide (f.name=n)) (l:=d) ⟨x,hx,by simpa using e⟩;omega
   by_cases h2:n∈seen
   ·rw[if_pos h2]at h;obtain⟨a0,add,a1,a2⟩:=Qi l seen D D' h;refine⟨fun x hx=>(List.mem_cons.1 hx).elim (fun q=>q ▸ gE) (a0 x),add,?_,a2⟩;rw[List.foldl_cons,← a1]
    congr 1
    unfold fO;rw[if_pos h2]
   ·rw[if_neg h2]at h;obtain⟨a0,add,a1,a2⟩:=Qi l (seen++[n]) (D++[⟨n,1,0,1⟩]) D' h;refine⟨fun x hx=>(List.mem_cons.1 hx).elim (fun q=>q ▸ gE) (a0 x),n::add,?_,by rw[a2];simp[dM]⟩;have e:fO seen n=seen++[n]:=by unfold fO;rw[if_neg h2]
    rw[List.foldl_cons,e,a1];simp
  ·rw[if_pos h1]at h;cases h
def ymy {d D:List Fc}{f g:Fm}(h:oG d (eM f++eM g) [] d=some D):D=d++dM (nT f g)∧(∀n∈eM f,¬NQ d n)∧∀n∈eM g,¬NQ d n:=by
 obtain⟨a0,add,a1,a2⟩:=Qi _ [] d D h;refine⟨?_,fun n hn=>a0 n (List.mem_append_left _ hn),fun n hn=>a0 n (List.mem_append_right _ hn)⟩;rw[a2]
 congr 2
 have h1:(eM f).Nodup:=by rw[J4];exact Xp f (by simp)
 rw[List.foldl_append,Xd (eM f) (l:=[]) (by simpa using h1)]at a1;simp only[List.nil_append,J4]at a1;rw[← a1];rfl
def ylk {l:List ByteArray}{n x:ByteArray}:x∈fO l n↔x∈l∨x=n:=by
 unfold fO;split
 ·rename_i q;exact⟨.inl,fun h=>h.elim id fun e=>e ▸ q⟩
 ·simp
def Xc {x:ByteArray}:∀(m:List ByteArray){l:List ByteArray},x∈m.foldl fO l↔x∈l∨x∈m
 |[],l=>by simp
 |y::m,l=>by
  rw[List.foldl_cons,Xc m,ylk,List.mem_cons];simp only[or_assoc]
def Xw {f g:Fm}{x:ByteArray}:x∈nT f g↔x∈eM f∨x∈eM g:=by
 unfold nT;rw[Xc,J4,J4]
def Xj {α:Type}{p:α→Bool}:∀{l m:List α},0≤bj p l→bj p (l++m)=bj p l
 |[],m,h=>by simp[bj]at h
 |x::l,m,h=>by
  rw[bj]at h;rw[List.cons_append,bj,bj]
  by_cases e:p x=true
  ·rw[if_pos e,if_pos e]
  ·rw[if_neg e]at h;rw[if_neg e,if_neg e]
   by_cases q:bj p l<0
   ·rw[if_pos q]at h;simp at h
   ·rw[Xj (l:=l) (m:=m) (by omega)]
def Qe {d:List Fc}{n:ByteArray}(h:NQ d n):0≤bj (fun f:Fc=>decide (f.name=n)) d∧bj (fun f:Fc=>decide (f.name=n)) d<d.length:=by
 obtain⟨x,hx,e⟩:=List.mem_map.1 h;obtain⟨j,q1,q2,_⟩:=yb (p:=fun f:Fc=>decide (f.name=n)) (l:=d) ⟨x,hx,by simpa using e⟩;rw[q1];omega
def ylw {d E:List Fc}{cs:List Int}{n:ByteArray}(h:NQ d n):fM (d++E) cs n=(cs.take d.length).getD (bj (fun f:Fc=>decide (f.name=n)) d).toNat 0:=by
 have hi:=Qe h;unfold fM;rw[Xj hi.1];simp only[ak,List.getElem?_take];rw[if_pos (by omega)]
def ylx {d:List Fc}{T:List ByteArray}{cs:List Int}(hn:((d++dM T).map Fc.name).Nodup){n:ByteArray}(h:n∈T):n∈mQ cs T d.length↔fM (d++dM T) cs n=1:=by
 obtain⟨k,hk,rfl⟩:=List.getElem_of_mem h;have dK:d.length+k<(d++dM T).length:=by simp[dM];omega
 have he:((d++dM T)[d.length+k]).name=T[k]:=by
  rw[List.getElem_append_right (by omega)];simp[dM]
 have hi:=Qb hn dK;rw[he]at hi;have hT:T.Nodup:=by
  have:(dM T).map Fc.name=T:=by unfold dM;rw[List.map_map];exact List.map_id' T
  rw[List.map_append,this]at hn;exact(List.nodup_append.1 hn).2.1
 unfold fM;rw[hi,Int.toNat_natCast,Xg];constructor
 ·rintro⟨j,hj,e1,e2⟩
  have:j=k:=(List.getElem?_inj (by omega) hT).1 (by rw[aa hj,aa hk,e1]);rw[← this];exact e2
 ·exact fun e=>⟨k,hk,rfl,e⟩
def yly {d E:List Fc}{cs:List Int}(h:iq (d++E) cs):iq d (cs.take d.length):=by
 have hl:d.length≤cs.length:=by rw[h.1,List.length_append];omega
 refine⟨by rw[List.length_take];omega,fun k hk=>?_⟩;have:=h.2 k (by rw[List.length_append];omega);rw[List.getElem_append_left hk]at this;simp only[ak,List.getElem?_take]at this ⊢;rw[if_pos hk];exact this
structure CaseK (a b:Fm)(d:List Fc)(r:uE):Prop where
 ca:kJ d a=0
 cb:kJ d b=0
 v:dH d=true
 vD:dH (d++dM (nT a b))=true
 len:(d++dM (nT a b)).length≤60
 kd:r.k=0∨r.k=3
 yes:r.k=3→iq (d++dM (nT a b)) r.c∧hF (fM (d++dM (nT a b)) r.c) a≠hF (fM (d++dM (nT a b)) r.c) b
 all:∀c',iq (d++dM (nT a b)) c'→hF (fM (d++dM (nT a b)) c') a≠hF (fM (d++dM (nT a b)) c') b→r.k=3∧ir c' r.c=false
def ylp {a b:Pv}{d:List Fc}(hF:sq a b)(hS:My a b=true)(h:(jx a b d).e=0):CaseK a.when_ b.when_ d (jx a b d):=by
 unfold jx at h ⊢
 by_cases h1:dH d=false
 ·rw[if_pos h1]at h;cases h
 rw[if_neg h1]at h ⊢;have hv:dH d=true:=by
  cases q:dH d with
  |true=>rfl
  |false=>exact absurd q h1
 by_cases h2:kJ d a.when_=0
 case neg=>rw[if_pos h2]at h;exact absurd h h2
 rw[if_neg (by simpa using h2)]at h ⊢
 by_cases h3:kJ d b.when_=0
 case neg=>rw[if_pos h3]at h;exact absurd h h3
 rw[if_neg (by simpa using h3)]at h ⊢;cases hm:oG d (eM a.when_++eM b.when_) [] d with
 |none=>rw[hm]at h;cases h
 |some D=>
  rw[hm]at h;simp only at h ⊢;obtain⟨hD,_,_⟩:=ymy hm;subst hD;unfold Bz at h ⊢
  by_cases h4:60<(d++dM (nT a.when_ b.when_)).length
  ·rw[if_pos h4]at h;cases h
  rw[if_neg h4,if_neg (by simpa using hF)]at h ⊢;unfold My at hS;rw[if_neg (by rw[hS];simp)]at h ⊢
  by_cases h7:(kj a.when_ b.when_ (d++dM (nT a.when_ b.when_))).e=0
  case neg=>rw[if_pos h7]at h;exact absurd h h7
  rw[if_neg (by simpa using h7)];obtain⟨m1,m2,m3⟩:=ylq h7
  by_cases h8:(kj a.when_ b.when_ (d++dM (nT a.when_ b.when_))).f=true
  ·rw[if_pos h8];exact⟨h2,h3,hv,m1,by omega,.inr rfl,fun _=>m2 h8,fun c' q1 q2=>⟨rfl,(m3 c' q1 q2).2⟩⟩
  ·rw[if_neg h8];exact⟨h2,h3,hv,m1,by omega,.inl rfl,fun q=>(by cases q),fun c' q1 q2=>absurd (m3 c' q1 q2).1 h8⟩
end
section
open Go.Proofs
attribute [-go_sem] dN bX
def ym5:cx.ft.get 113=some Tryz.f113:=aO
def ymj:cx.ft.get 56=some Tryz.f56:=aO
def yn7 (u v:Bool)(d:List Fc)(cs:List Int)(l:List ByteArray)(ρ:ByteArray→Int)(T:ByteArray→Prop)(hd:d.length≤1000000)(hc:cs.length=d.length)(hl:l.length≤1000000000)(hN:∀n,NQ d n→ρ n=cs.getD (bj (fun f:Fc=>decide (f.name=n)) d).toNat 0)(hT:∀n,T n→(n∈l↔ρ n=1)) (m:Nat):∀f:Fm,f.size≤m→m≤1000000→RW (NQ d) T f→aM 113 [.agg f.cs,.agg [.fz 4 u (aN d)],.fz 1 v (aG cs),fe l] (.bool (hF ρ f)):=by
 have ct:=Xl l;generalize fe l=L at ct ⊢
 induction m with
 |zero=>intro f hf;cases f;simp[Fm.size]at hf
 |succ m ih=>
 rintro⟨o,nm,cm,n,kids⟩ hf hb vg
 simp only[Fm.size]at hf;refine aB.mk fun h nx R hR=>aP ym5 (sz:=81) (rs:=[.tmp 8]) ?_;obtain⟨H,hH⟩:∃H,H=(h.put nx (some (bx 24 [.int .i64 o,.bs nm,.int .i64 cm,.int .i64 n,.fz 5 false (bU kids)] false 0))).put (nx+1) (some (bx 35 [.fz 4 u (aN d)] false 0)):=⟨_,rfl⟩;have g0:H.get nx=some (bx 24 [.int .i64 o,.bs nm,.int .i64 cm,.int .i64 n,.fz 5 false (bU kids)] false 0):=by rw[hH];simp[go_sem]
 have g1:H.get (nx+1)=some (bx 35 [.fz 4 u (aN d)] false 0):=by rw[hH];simp[go_sem]
 have he:az nx h H:=by
  rw[hH];simp(disch:=omega)only[aK,az.refl]
 have fin:∀b,b=hF ρ (.mk o nm cm n kids)→R (.bool b) H (nx+1+1):=fun b hb=>hR _ _ _ he (Fz.eq rfl (by rw[hb]));clear hR;have jX:∀(k:Nat) (hk:k<kids.length),ko (NQ d) T kids→aM 113 [.agg (kids[k]).cs,.agg [.fz 4 u (aN d)],.fz 1 v (aG cs),L] (.bool (hF ρ kids[k])):=fun k hk q=>ih _ (by have:=(nX hk).2.2;omega) (by omega) (ko.get q hk);have eO:=sI kids
 by_cases o1:o=1
 ·subst o1;simp[go_sem,Fm.cs];rw[← hH];exact fin _ (by simp[hF])
 by_cases o3:o=3
 ·subst o3;have hq:NQ d nm:=by
   rcases vg with⟨e,_⟩ |⟨_,q,_⟩ |⟨e,_⟩ |⟨e,_⟩ |⟨e,_⟩
   ·omega
   ·exact q
   ·cases e
   ·cases e
   ·omega
  have hi:=Qe hq;have hv:=hN nm hq;obtain⟨i,qR⟩:∃i:Nat,bj (fun f:Fc=>decide (f.name=nm)) d=(i:Int):=⟨(bj (fun f:Fc=>decide (f.name=nm)) d).toNat,by omega⟩;have hI:=Xm u d nm (by omega);rw[qR]at hI hv hi;have kp:i<cs.length:=by omega
  have hx:cs.getD i 0=cs[i]:=by rw[ak,aa kp];rfl
  rw[Int.toNat_natCast,hx]at hv;simp[go_sem,Fm.cs];rw[← hH];refine eI [] [4,11] [] ?_;simp[go_sem,g0,g1];refine dV hI ?_;simp[go_sem,cW,g0,g1,kp];refine dV (ylv cs[i] cm n) ?_;exact fin _ (by simp[hF,hv])
 by_cases o4:o=4
 ·subst o4;have hq:T nm:=by
   rcases vg with⟨e,_⟩ |⟨e,_⟩ |⟨_,q,_⟩ |⟨e,_⟩ |⟨e,_⟩
   ·omega
   ·cases e
   ·exact q
   ·cases e
   ·omega
  simp[go_sem,Fm.cs];rw[← hH];refine aB.use (ct nm hl) ?_;simp[go_sem,aA];refine fin _ ?_;have:=hT nm hq;simp[hF,js,this]
 by_cases o5:o=5
 ·subst o5;obtain⟨hk,hr⟩:kids.length=1∧ko (NQ d) T kids:=by
   rcases vg with⟨e,_⟩ |⟨e,_⟩ |⟨e,_⟩ |⟨_,_,_,_,q1,q2⟩ |⟨e,_⟩
   ·omega
   ·cases e
   ·cases e
   ·exact⟨q1,q2⟩
   ·omega
  have eY:0<kids.length:=by omega
  have gQ:=jX 0 eY hr;have dw:hF ρ (.mk 5 nm cm n kids)=!(hF ρ kids[0]):=by
   obtain⟨k0,rfl⟩:∃k0,kids=[k0]:=List.length_eq_one_iff.1 hk;simp[hF,hA]
  simp[go_sem,Fm.cs,eY];rw[← hH];refine eI [] [7] [] ?_;simp[go_sem,g0,g1,eY];refine dV gQ ?_;simp[go_sem,cW];exact fin _ dw.symm
 by_cases o6:o=6
 ·subst o6;have hr:ko (NQ d) T kids:=by
   rcases vg with⟨e,_⟩ |⟨e,_⟩ |⟨e,_⟩ |⟨e,_⟩ |⟨_,_,_,_,_,q⟩
   ·omega
   ·cases e
   ·cases e
   ·cases e
   ·exact q
  have dw:hF ρ (.mk 6 nm cm n kids)=hA ρ kids:=by simp[hF]
  rw[dw]at fin;simp[go_sem,Fm.cs];rw[← hH];refine bF (fun mm st=>∃tm k,st=.mk tm H (nx+1+1) []∧mm=kids.length-k∧k≤kids.length∧tm.get 2=some (.fz 1 v (aG cs))∧tm.get 3=some L∧tm.get 4=some (.ptr nx 0)∧tm.get 5=some (.ptr (nx+1) 0)∧tm.get 9=some (.int .i64 (k:Int))∧RowKit.Hid (hA ρ kids=hA ρ (kids.drop k))) ⟨kids.length,_,0,rfl,by simp,by simp,?_⟩ ?_
  ·simp[go_sem];exact Lib.hid (by simp)
  ·rintro mm st ⟨tm,k,rfl,rfl,hk,t2,t3,t4,t5,t9,hv⟩ J hJ
   refine bl ?_;have aF:=hv.out
   by_cases ay:k<kids.length
   ·rw[aj ay,hA]at aF;have gQ:=jX k ay hr;simp[go_sem,t2,t3,t4,t5,t9,g0,ay];refine eI [] [8] [] ?_;simp[go_sem,t2,t3,t4,t5,t9,g0,g1,ay];refine dV gQ ?_;cases hb:hF ρ kids[k] with
    |false=>
     rw[hb,Bool.false_and]at aF;simp[go_sem,cW];exact fin _ aF.symm
    |true=>
     rw[hb,Bool.true_and]at aF;simp[go_sem,cW,t9];refine hJ (kids.length-(k+1)) _ (by omega) ⟨_,k+1,rfl,rfl,by omega,?_⟩;simp(disch:=omega) [go_sem,t2,t3,t4,t5,aS];exact Lib.hid aF
   ·rw[al (by omega),hA]at aF;simp[go_sem,t4,t9,g0,ay];exact fin _ aF.symm
 ·have hr:ko (NQ d) T kids∧hF ρ (.mk o nm cm n kids)=hO ρ kids:=by
   rcases vg with⟨e,_,_,_,q⟩ |⟨e,_⟩ |⟨e,_⟩ |⟨e,_⟩ |⟨e,_,_,_,_,q⟩
   ·rw[q];exact⟨trivial,by simp[hF,hO,show o=2 by omega]⟩
   ·omega
   ·omega
   ·omega
   ·exact⟨q,by simp[hF,show o=7 by omega]⟩
  obtain⟨hr,dw⟩:=hr;rw[dw]at fin;simp[go_sem,Fm.cs,o1,o3,o4,o5,o6];rw[← hH];refine bF (fun mm st=>∃tm k,st=.mk tm H (nx+1+1) []∧mm=kids.length-k∧k≤kids.length∧tm.get 2=some (.fz 1 v (aG cs))∧tm.get 3=some L∧tm.get 4=some (.ptr nx 0)∧tm.get 5=some (.ptr (nx+1) 0)∧tm.get 10=some (.int .i64 (k:Int))∧RowKit.Hid (hO ρ kids=hO ρ (kids.drop k))) ⟨kids.length,_,0,rfl,by simp,by simp,?_⟩ ?_
  ·simp[go_sem];exact Lib.hid (by simp)
  ·rintro mm st ⟨tm,k,rfl,rfl,hk,t2,t3,t4,t5,t10,hv⟩ J hJ
   refine bl ?_;have aF:=hv.out
   by_cases ay:k<kids.length
   ·rw[aj ay,hO]at aF;have gQ:=jX k ay hr;simp[go_sem,t2,t3,t4,t5,t10,g0,ay];refine eI [] [8] [] ?_;simp[go_sem,t2,t3,t4,t5,t10,g0,g1,ay];refine dV gQ ?_;cases hb:hF ρ kids[k] with
    |true=>
     rw[hb,Bool.true_or]at aF;simp[go_sem,cW];exact fin _ aF.symm
    |false=>
     rw[hb,Bool.false_or]at aF;simp[go_sem,cW,t10];refine hJ (kids.length-(k+1)) _ (by omega) ⟨_,k+1,rfl,rfl,by omega,?_⟩;simp(disch:=omega) [go_sem,t2,t3,t4,t5,aS];exact Lib.hid aF
   ·rw[al (by omega),hO]at aF;simp[go_sem,t4,t10,g0,ay];exact fin _ aF.symm
def yn0 (u:Bool)(d:List Fc)(hd:d.length≤1000000) (m:Nat):∀f:Fm,f.size≤m→m≤1000000→rW (DD d) f→aM 154 [.agg f.cs,.agg [.fz 4 u (aN d)],.sl0,.bool true] (.int .i64 0):=by
 induction m with
 |zero=>intro f hf;cases f;simp[Fm.size]at hf
 |succ m ih=>
 rintro⟨o,nm,cm,n,kids⟩ hf hb ⟨⟨hp,hn⟩,ha⟩
 simp only[Fm.size]at hf;refine aB.mk fun h nx R hR=>aP ym7 (sz:=72) (rs:=[.tmp 8]) ?_;obtain⟨H,hH⟩:∃H,H=(h.put nx (some (bx 24 [.int .i64 o,.bs nm,.int .i64 cm,.int .i64 n,.fz 5 false (bU kids)] false 0))).put (nx+1) (some (bx 35 [.fz 4 u (aN d)] false 0)):=⟨_,rfl⟩;have g0:H.get nx=some (bx 24 [.int .i64 o,.bs nm,.int .i64 cm,.int .i64 n,.fz 5 false (bU kids)] false 0):=by rw[hH];simp[go_sem]
 have g1:H.get (nx+1)=some (bx 35 [.fz 4 u (aN d)] false 0):=by rw[hH];simp[go_sem]
 have he:az nx h H:=by
  rw[hH];simp(disch:=omega)only[aK,az.refl]
 have fin:R (.int .i64 0) H (nx+1+1):=hR _ _ _ he (Fz.eq rfl rfl);clear hR;have eO:=sI kids;have yy:=ym2 (.mk o nm cm n kids) hp;simp only[Fm.cs]at yy;simp[go_sem,Fm.cs];rw[← hH];refine aB.use yy ?_;obtain⟨Iz,wq⟩:∃Iz:Nat→AS→Prop,Iz=fun mm st=>∃tm k,st=.mk tm H (nx+1+1) []∧mm=kids.length-k∧k≤kids.length∧tm.get 2=some .sl0∧tm.get 3=some (.bool true)∧tm.get 4=some (.ptr nx 0)∧tm.get 5=some (.ptr (nx+1) 0)∧tm.get 9=some (.int .i64 (k:Int)):=⟨_,rfl⟩
 by_cases o3:o=3
 ·subst o3;obtain⟨q,q1,q2⟩:=hn rfl;have hi:=Qe q;have hI:=Xm u d nm (by omega);generalize bj (fun f:Fc=>decide (f.name=nm)) d=i at hI hi;have n1:¬n<0:=by omega
  have n2:¬1000000<n:=by omega
  have n3:¬i<0:=by omega
  have eY:kids=[]:=by
   rcases hp with⟨e,_⟩ |⟨_,_,_,_,q⟩ |⟨e,_⟩ |⟨e,_⟩ |⟨e,_⟩
   ·omega
   ·exact q
   ·cases e
   ·cases e
   ·omega
  subst eY;simp[go_sem,aA,g0,g1,n1,n2];refine aB.use hI ?_;simp[go_sem,aA,g0,g1,n3];refine bF Iz ⟨0,by rw[wq];exact⟨_,0,rfl,rfl,ae _,by simp[go_sem]⟩⟩ ?_;rw[wq]
  rintro mm st ⟨tm,k,rfl,rfl,hk,t2,t3,t4,t5,t9⟩ J hJ
  refine bl ?_;have ay:¬(k:Int)<0:=by omega
  simp[go_sem,t4,t9,g0,ay];exact fin
 ·simp +contextual -implicitDefEqProofs[go_sem,aA,g0,g1,o3];refine bF Iz ⟨kids.length,by rw[wq];exact⟨_,0,rfl,by simp,by simp,by simp[go_sem]⟩⟩ ?_;rw[wq]
  rintro mm st ⟨tm,k,rfl,rfl,hk,t2,t3,t4,t5,t9⟩ J hJ
  refine bl ?_
  by_cases ay:k<kids.length
  ·have gQ:=ih kids[k] (by have:=(nX ay).2.2;omega) (by omega) (rX.get ha ay);simp[go_sem,t2,t3,t4,t5,t9,g0,ay];refine eI [] [8] [] ?_;simp[go_sem,t2,t3,t4,t5,t9,g0,g1,ay];refine dV gQ ?_;simp[go_sem,cW,t9];refine hJ (kids.length-(k+1)) _ (by omega) ⟨_,k+1,rfl,rfl,by omega,?_⟩;simp(disch:=omega) [go_sem,t2,t3,t4,t5,aS]
  ·simp[go_sem,t4,t9,g0,ay];exact fin
def ym1 (u:Bool)(d:List Fc)(f:Fm)(hd:d.length≤1000000)(hf:f.size≤200)(C4:f.deep≤20)(ha:rW (DD d) f):aM 111 [.agg f.cs,.agg [.fz 4 u (aN d)]] (.bool true):=by
 refine aB.mk fun h nx R hR=>aP ym3 (sz:=14) (rs:=[.tmp 4]) ?_;obtain⟨cK,bn⟩:∃l,l=f.cs:=⟨_,rfl⟩;have iK:cK.length=5:=by rw[bn];cases f;rfl
 have bO:cK.take 5=cK:=ar (by omega);have c1:=ymt f hf C4;have c2:=yn0 u d hd f.size f (ae _) (by omega) ha;rw[← bn]at c1 c2 ⊢;simp[go_sem,iK,bO];refine aB.use c1 ?_;simp[go_sem,aA,iK,bO];refine aB.use c2 ?_;simp[go_sem,aA];refine hR _ _ _ ?_ (Fz.eq rfl rfl);simp(disch:=omega)only[aK,az.refl]
def ylz (u v:Bool)(d:List Fc)(c:List Int)(hd:d.length≤1000000)(hc:iq d c):aM 112 [.agg [.fz 4 u (aN d)],.fz 1 v (aG c)] (.bool true):=by
 refine aB.mk fun h nx R hR=>aP ym4 (sz:=42) (rs:=[.tmp 4]) ?_;obtain⟨H,hH⟩:∃H,H=h.put nx (some (bx 35 [.fz 4 u (aN d)] false 0)):=⟨_,rfl⟩;have g0:H.get nx=some (bx 35 [.fz 4 u (aN d)] false 0):=by rw[hH];simp[go_sem]
 have he:az nx h H:=by rw[hH];exact(az.refl nx h).put (ae _) _
 have hl:=hc.1;have Gh:(c.length:Int)=(d.length:Int):=by omega
 simp[go_sem,Gh,hl];rw[← hH];refine bF (fun mm st=>∃tm k,st=.mk tm H (nx+1) []∧mm=d.length-k∧k≤d.length∧tm.get 1=some (.fz 1 v (aG c))∧tm.get 2=some (.ptr nx 0)∧tm.get 5=some (.int .i64 (k:Int))) ⟨d.length,_,0,rfl,by simp,by simp,?_⟩ ?_
 ·simp[go_sem]
 ·rintro mm st ⟨tm,k,rfl,rfl,hk,t1,t2,t5⟩ J hJ
  refine bl ?_
  by_cases ay:k<d.length
  ·have dE:k<c.length:=(by omega);have bG:=hc.2 k ay;rw[ak,aa dE,Option.getD_some]at bG;generalize hx:c[k]=x at bG;generalize uS:d[k]=f at bG;obtain⟨fn,fk,pH,pG⟩:=f;have b1:¬x<pH:=by have:=bG.1;simp only at this;omega
   have b2:¬pG<x:=by have:=bG.2;simp only at this;omega
   simp[go_sem,t1,t2,t5,dE];refine eI [] [] [] ?_;simp[go_sem,t1,t2,t5,g0,ay,dE,uS,hx,Fc.cs,b1,b2];refine hJ (d.length-(k+1)) _ (by omega) ⟨_,k+1,rfl,rfl,by omega,?_⟩;simp(disch:=omega) [go_sem,t1,t2,aS]
  ·have dE:¬k<c.length:=(by omega);simp[go_sem,t1,t5,dE];exact hR _ _ _ he (Fz.eq rfl rfl)
def ymp (u w v:Bool)(d:List Fc)(cs:List Int)(l:List ByteArray)(ρ:ByteArray→Int)(T:ByteArray→Prop)(f:Fm)(hd:d.length≤1000000)(hc:iq d cs)(hl:l.length≤1000000000)(hN:∀n,NQ d n→ρ n=cs.getD (bj (fun f:Fc=>decide (f.name=n)) d).toNat 0)(hT:∀n,T n→(n∈l↔ρ n=1))(hf:f.size≤200)(C4:f.deep≤20)(ha:rW (DD d) f)(vg:RW (NQ d) T f):aM 56 [.agg f.cs,.agg [.fz 4 u (aN d)],.fz 1 v (aG cs),fe l] (.bool (hF ρ f)):=by
 have c1:=ym1 u d f hd hf C4 ha;have c2:=ylz u v d cs hd hc;have c3:=yn7 u v d cs l ρ T hd hc.1 hl hN hT f.size f (ae _) (by omega) vg;generalize fe l=L at c3 ⊢;generalize hF ρ f=res at c3 ⊢;refine aB.mk fun h nx R hR=>aP ymj (sz:=24) (rs:=[.tmp 8]) ?_;obtain⟨cK,bn⟩:∃l,l=f.cs:=⟨_,rfl⟩;have iK:cK.length=5:=by rw[bn];cases f;rfl
 have bO:cK.take 5=cK:=ar (by omega);rw[← bn]at c1 c3 ⊢;simp[go_sem,iK,bO];refine aB.use c1 ?_;simp[go_sem,aA,iK,bO];refine aB.use c2 ?_;simp[go_sem,aA,iK,bO];refine aB.use c3 ?_;simp[go_sem,aA];refine hR _ _ _ ?_ (Fz.eq rfl rfl);simp(disch:=omega)only[aK,az.refl]
def Xh (cs:List Int):∀(l:List ByteArray)(x:ByteArray) (i:Nat),mQ cs (l++[x]) i=mQ cs l i++(if cs.getD (i+l.length) 0=1 then [x] else [])
 |[],x,i=>by simp[mQ]
 |n::l,x,i=>by
  have ih:=Xh cs l x (i+1);rw[List.cons_append,mQ,mQ,ih,show i+1+l.length=i+(n::l).length by simp;omega];split <;> simp
def Xi (u v:Bool)(a:Pv)(d:List Fc)(T:List ByteArray)(cs:List Int)(hd:d.length≤1000000)(hT:T.length≤1000000)(hc:iq (d++dM T) cs)(fH:((d++dM T).map Fc.name).Nodup)(Al:kJ d a.when_=0)(nL:∀n∈eM a.when_,n∈T):aM 25 [.agg a.cs,.agg [.fz 4 u (aN d)],fe T,.fz 1 v (aG cs)] (.bool (hF (fM (d++dM T) cs) a.when_)):=by
 have aX:cs.length=d.length+T.length:=by rw[hc.1];simp[dM]
 obtain⟨ha,bC,C4⟩:=ylr Al;have vg:RW (NQ d) (fun n=>n∈T) a.when_:=(Wd Al).imp fun n q=>nL n (Classical.byContradiction fun h=>by
  have:=J0.2 h;have:=of_decide_eq_true q;omega)
 have hh:=fun vv=>ymp u u vv d (cs.take d.length) (mQ cs T d.length) (fM (d++dM T) cs) (fun n=>n∈T) a.when_ hd (yly hc) (by have:=Xf cs T d.length;omega) (fun n q=>ylw q) (fun n q=>ylx fH q) bC C4 ha vg;generalize hF (fM (d++dM T) cs) a.when_=res at hh ⊢;clear hc fH Al nL ha bC C4 vg
 rcases a with⟨id,rank,kind,name,value,⟨w1,w2,w3,w4,w5⟩,ex,⟨b1,b2,b3,b4⟩,⟨e1,e2,e3,e4⟩,⟨g1,g2,g3,g4⟩⟩
 simp only[Fm.cs]at hh;refine aB.mk fun h nx R hR=>bf.ofLe fun hG=>aP ymf (sz:=61) (rs:=[.tmp 8]) ?_;have hf:∀g ny,az nx h g→R (.bool res) g ny:=fun g ny he=>hR _ _ _ he (Fz.eq rfl rfl);clear hR;obtain⟨H,hH⟩:∃H,H=(h.put nx (some (bx 30 (Pv.cs ⟨id,rank,kind,name,value,⟨w1,w2,w3,w4,w5⟩,ex,⟨b1,b2,b3,b4⟩,⟨e1,e2,e3,e4⟩,⟨g1,g2,g3,g4⟩⟩) false 0))).put (nx+1) (some (bx 35 [.fz 4 u (aN d)] false 0)):=⟨_,rfl⟩;simp only[Pv.cs,Fm.cs,bB.cs,List.cons_append,List.nil_append]at hH;have r0:=congrArg (fun t=>Tr.get t nx) hH;have r1:H.get (nx+1)=some (bx 35 [.fz 4 u (aN d)] false 0):=by rw[hH];simp[go_sem]
 simp[go_sem]at r0;have he:az nx h H:=by
  rw[hH];simp(disch:=omega)only[aK,az.refl]
 simp[go_sem,Pv.cs,Fm.cs,bB.cs];rw[← hH];clear hH;obtain⟨S,hS⟩:∃S,S=fe T:=⟨_,rfl⟩;rw[← hS];have tB:∀(e:TypeId) (size b:Nat) (z:Option AV) (fs:List (Nat×Nat×Bool)) (g:Tr ABlk) (n:Nat),k8 (.mk (.slice e) size b z fs) S g n=.val (.int .i64 (T.length:Int)) g n:=fun e size b z fs g n=>by
  rw[hS];unfold fe
  by_cases h0:T=[]
  ·rw[if_pos h0,Cp,h0];rfl
  ·rw[if_neg h0,zYs,uD]
 have kP:(d.length:Int)≤(cs.length:Int):=by omega
 refine bF (fun mm st=>∃tm h' n' k v' O Lc,st=.mk tm h' n' []∧mm=T.length-k∧k≤T.length∧tm.get 2=some S∧tm.get 3=some (.fz 1 v (aG cs))∧tm.get 4=some (.ptr nx 0)∧tm.get 5=some (.ptr (nx+1) 0)∧tm.get 9=some v'∧tm.get 10=some (.int .i64 (k:Int))∧h'.get nx=H.get nx∧h'.get (nx+1)=H.get (nx+1)∧az nx h h'∧nx+1<n'∧km O h' n' v' Lc∧(∀j,O j→nx+1<j)∧Lc.length≤k∧RowKit.Hid (Lc=mQ cs (T.take k) d.length)) ⟨T.length,_,_,_,0,.sl0,fun _=>False,[],rfl,by simp,by simp,?_⟩ ?_
 ·simp[go_sem];exact⟨he,.inl ⟨rfl,rfl⟩,Lib.hid (by simp[mQ])⟩
 ·rintro mm st ⟨tm,h',n',k,v',O,Lc,rfl,rfl,hk,t2,t3,t4,t5,t9,t10,m0,m1,hE,hn,hN,hO,hLc,hv⟩ J hJ
  refine bl ?_;rw[r0]at m0;rw[r1]at m1;have aF:=hv.out
  by_cases ay:k<T.length
  ·have fT:S=.fz 1 false (bp T):=by
    rw[hS];unfold fe;rw[if_neg (fun q=>by rw[q]at ay;simp at ay)]
   obtain⟨j,hj⟩:∃j,j=d.length+k:=⟨_,rfl⟩;have dE:j<cs.length:=by omega
   have AH:(j:Int)<(cs.length:Int):=(by omega);have hw:IntKind.i64.wrap ((d.length:Int)+(k:Int))=(j:Int):=by rw[aS _ (by omega) (by omega)];omega
   obtain⟨y,hy⟩:∃y,y=cs[j]:=⟨_,rfl⟩;obtain⟨x,hx⟩:∃x,x=T[k]:=⟨_,rfl⟩;have hyD:cs.getD (d.length+k) 0=y:=by rw[← hj,ak,aa dE,hy];rfl
   have eP:mQ cs (T.take (k+1)) d.length=Lc++(if y=1 then [x] else []):=by
    rw[List.take_succ_eq_append_getElem ay,Xh,← aF,List.length_take,Nat.min_eq_left (by omega),hyD,hx]
   by_cases h1:y=1
   ·rw[if_pos h1]at eP;have HN:=Lib.hid eP.symm;clear eP hv aF
    rcases hN with⟨rfl,rfl⟩ |⟨e,p,p1,p2,p3,rfl,p4⟩
    ·simp[go_sem,t2,t3,t5,t9,t10,m1,fT,ay,hw,dE,AH,← hy,← hx,h1];refine hJ (T.length-(k+1)) _ (by omega) ⟨_,_,_,k+1,.sl (n'+1) 0 1 0 true,fun j=>j=n'+1,[x],rfl,rfl,by omega,?_⟩;have y0:¬nx=n':=by omega
     have y1:¬nx+1=n':=(by omega);have y2:¬nx=n'+1:=(by omega);simp(disch:=omega) [go_sem,t2,t3,t4,t5,aS,fT,m0,m1,r0,r1,y0,y1,y2];refine⟨?_,.inr ⟨by simp,n'+1,rfl,by omega,by omega,rfl,?_⟩,by omega,HN⟩
     ·simp(disch:=omega)only[aK,hE]
     ·simp[go_sem,bp]
    ·have nb:¬p=n':=(by omega);have pY:¬n'=p:=(by omega);have fo:=EB Lc;have hle:Lc.length+1≤16777216:=(by omega);have hp:=hO p p1;simp[go_sem,t2,t3,t5,t9,t10,m1,fT,ay,hw,dE,AH,← hy,← hx,h1,p4,nb,pY,fo,hle];refine hJ (T.length-(k+1)) _ (by omega) ⟨_,_,_,k+1,.sl (n'+1) 0 (Lc.length+1) 0 true,fun j=>j=n'+1,Lc++[x],rfl,rfl,by omega,?_⟩;have y0:¬nx=n':=(by omega);have y1:¬nx+1=n':=(by omega);have y2:¬nx=n'+1:=(by omega);have y3:¬nx=p:=(by omega);have y4:¬nx+1=p:=(by omega);simp(disch:=omega) [go_sem,t2,t3,t4,t5,aS,fT,m0,m1,r0,r1,y0,y1,y2,y3,y4];refine⟨?_,.inr ⟨by simp,n'+1,rfl,by omega,by omega,by simp,?_⟩,by omega,by omega,HN⟩
     ·simp(disch:=omega)only[aK,hE]
     ·simp[go_sem,Qg]
   ·rw[if_neg h1,List.append_nil]at eP;have HN:=Lib.hid eP.symm;clear eP hv aF;simp[go_sem,t2,t3,t5,t9,t10,m1,fT,ay,hw,dE,AH,← hy,← hx,h1];refine hJ (T.length-(k+1)) _ (by omega) ⟨_,_,_,k+1,v',O,Lc,rfl,rfl,by omega,?_⟩;simp(disch:=omega) [go_sem,t2,t3,t4,t5,t9,aS,fT,m0,m1,r0,r1];exact⟨hE,hn,hN,hO,by omega,HN⟩
  ·rw[ar (by omega)]at aF;rw[← aF]at hh;obtain⟨L9,Fl,wB⟩:∃L9:List Nat,(∀kk,kk≤nx+1→¬kk∈L9)∧Fy h' (fun a=>a∈L9) v' (fe Lc):=by
    rcases hN with⟨h0,rfl⟩ |⟨h0,q,q1,_,q2,rfl,q4⟩
    ·exact⟨[],fun _ _=>by simp,by rw[h0];exact .same _⟩
    ·have:=hO q q1;exact⟨[q],fun kk hk=>by simp;omega,by unfold fe;rw[if_neg h0];exact MJ (by simp) q4⟩
   simp[go_sem,t2,t10,tB,ay];refine Co (fun a=>a∈L9) (h':=jA h' L9) (iG.kill _) (qw.refl.put (k:=9) (by simp[go_sem,t9]) wB) ?_;obtain⟨g9,tq⟩:∃g9,g9=jA h' L9:=⟨_,rfl⟩;rw[← tq];have ot:∀kk,kk≤nx+1→g9.get kk=h'.get kk:=fun kk hk=>by rw[tq];exact oF (Fl kk hk)
   have q0:=(ot nx (by omega)).trans m0;have q1:=(ot (nx+1) (by omega)).trans m1;have yl:az nx h g9:=fun kk hk=>by rw[ot kk (by omega)];exact hE kk hk
   clear tq ot Fl wB;have dR:(aG cs).take d.length=aG (cs.take d.length):=by simp[aG,List.map_take]
   have hle:d.length≤cs.length:=(by omega);refine eI [] [16] [] ?_;simp[go_sem,t3,t4,t5,q0,q1,kP,hle,dR];refine dV (hh _) ?_;simp[go_sem,cW];exact hf _ _ yl
end
section
open Go.Proofs
attribute [-go_sem] dN bX
def ud (b lo:Nat)(h:Tr ABlk) (n:Nat)(v:AV)(l:List Fc):Prop:=∃q,lo≤q∧q<n∧q≠b∧((l=[]∧v=.sl q 0 0 0 false∧h.get q=some (bx 65 [] false 0))∨(v=.sl q 0 l.length 0 true∧h.get q=some (bx 65 (l.flatMap Fc.cs) true 4)))
def yln (e size:Nat) (q:Nat)(h:Tr ABlk) (n:Nat)(hq:h.get q=some (bx 65 [] false 0)):lS true 0 [] e size (.sl q 0 0 0 false) h n=.val (.sl q 0 0 0 false) h n:=by
 unfold lS;simp only[hq,bx];simp
def Xa {b lo n m:Nat}{h:Tr ABlk}{v:AV}{ta tb:List Fc}{news:List AV}(o:ud b lo h n v ta)(eE:lo≤n)(hb:b<n)(hm:m=tb.length)(hn:news=tb.flatMap Fc.cs)(hl:ta.length+tb.length≤16777216):
  ∃v' g n',lS true m news 65 4 v h n=.val v' g n'∧n≤n'∧(∀k,k<lo∨k=b→g.get k=h.get k)∧ud b lo g n' v' (ta++tb):=by
 subst hm;subst hn;obtain⟨q,q1,q2,q3,⟨rfl,rfl,q4⟩ |⟨rfl,q4⟩⟩:=o
 ·cases tb with
  |nil=>
   exact⟨_,_,_,yln _ _ _ _ _ q4,ae _,fun _ _=>rfl,q,q1,q2,q3,.inl ⟨rfl,rfl,q4⟩⟩
  |cons x l=>
   rw[List.length_cons,ybv,q4,zZr _ _ _ _ _ _ _ _ _ _ (by simpa using hl)];refine⟨_,_,_,rfl,Nat.le_succ _,fun k hk=>?_,n,eE,Nat.lt_succ_self _,by omega,.inr ⟨by simp,by rw[Tr.get_put,if_pos rfl];simp⟩⟩;rw[Tr.get_put,if_neg (by omega)]
 ·rw[Qr,q4,Qo _ _ _ _ _ _ _ _ _ (by rw[zNt]) (by omega)];refine⟨_,_,_,rfl,Nat.le_succ _,fun k hk=>?_,n,eE,Nat.lt_succ_self _,by omega,.inr ⟨by simp,by rw[Tr.get_put,if_pos rfl];simp⟩⟩;rw[Tr.get_put,if_neg (by omega),Tr.get_put,if_neg (by omega)]
def ud.ext {b lo n n':Nat}{h g:Tr ABlk}{v:AV}{l:List Fc}(o:ud b lo h n v l)(hk:∀k,lo≤k→k<n→k≠b→g.get k=h.get k)(hn:n≤n'):ud b lo g n' v l:=by
 obtain⟨q,q1,q2,q3,q4⟩:=o;exact⟨q,q1,by omega,q3,by rw[hk q q1 q2 q3];exact q4⟩
def ud.sl {b lo n:Nat}{h:Tr ABlk}{v:AV}{l:List Fc}(o:ud b lo h n v l):∃y1 y2 y3 y4,v=.sl y1 0 y2 y3 y4:=by
 obtain⟨q,_,_,_,⟨_,e,_⟩ |⟨e,_⟩⟩:=o <;> exact⟨_,_,_,_,e⟩
def Xb:∀s:List Fc,bJ (s.flatMap Fc.cs)=true
 |[]=>rfl
 |x::l=>by rw[List.flatMap_cons];exact zE _ _ rfl (Xb l)
def ud.fz {b lo n nx:Nat}{h:Tr ABlk}{v:AV}{l:List Fc}(o:ud b lo h n v l)(hb:nx≤lo):Fz h nx v (.fz 4 false (aN l)):=by
 have key:∀(q esz:Nat) (op opn:Bool),lo≤q→h.get q=some (bx 65 (l.flatMap Fc.cs) opn esz)→Fz h nx (.sl q 0 l.length 0 op) (.fz 4 false (aN l)):=fun q esz op opn h1 h2=>
  .slz q 0 _ 0 op 65 _ _ opn esz 4 (l.flatMap Fc.cs) (l.flatMap Fc.cs) (aN l) (by omega) h2 (by simp) (fun j hj=>by rw[Nat.zero_add,fX]) (cE.same _ (Xb l)) (Qt l) (Ix l)
 obtain⟨q,q1,_,_,⟨e,rfl,q4⟩ |⟨rfl,q4⟩⟩:=o
 ·subst e;exact key q 0 false false q1 q4
 ·exact key q 4 true true q1 q4
def ymm (u:Bool)(d:List Fc)(T:List ByteArray)(hd:d.length≤1000000)(hT:T.length≤1000000):aM 23 [.agg [.fz 4 u (aN d)],fe T] (.agg [.fz 4 false (aN (d++dM T))]):=by
 refine aB.mkW fun h nx R hR=>bf.ofLe fun hG=>aP ymd (sz:=29) (rs:=[.cell 4 35]) ?_;have J5:¬nx=nx+1+1:=by omega
 have XC:¬nx=nx+1:=by omega
 simp[go_sem,zLu,Ql,Ix,J5,XC];obtain⟨v1,g1,n1,T4,u9,N4,M4⟩:=Xa (b:=nx) (lo:=nx+1+1) (m:=d.length) (news:=d.flatMap Fc.cs) (h:=((h.put nx (some (bx 35 [.fz 4 u (aN d)] false 0))).put (nx+1) (some (bx 35 [.sl0] false 0))).put (nx+1+1) (some (bx 65 [] false 0))) (n:=nx+1+1+1) (v:=.sl (nx+1+1) 0 0 0 false) (ta:=[]) (tb:=d) ⟨nx+1+1,ae _,Nat.lt_succ_self _,by omega,.inl ⟨rfl,rfl,by rw[Tr.get_put,if_pos rfl]⟩⟩ (Nat.le_succ _) (by omega) rfl rfl (by simp;omega);rw[T4];have Uu:az nx h g1:=fun k hk=>by
  rw[N4 k (.inl (by omega))];have k0:¬k=nx:=by omega
  have k1:¬k=nx+1:=by omega
  have k2:¬k=nx+1+1:=by omega
  simp[go_sem,k0,k1,k2]
 have tf:g1.get (nx+1)=some (bx 35 [.sl0] false 0):=by
  rw[N4 _ (.inl (by omega))];simp[go_sem]
 obtain⟨H,hH⟩:∃H,H=(g1.put n1 (some (bx 35 [.sl0] false 0))).put n1 (some (bx 35 [v1] false 0)):=⟨_,rfl⟩;have hC:ud n1 (nx+1+1) H (n1+1) v1 d:=by
  obtain⟨q,q1,q2,_,q4⟩:=M4;have e:H.get q=g1.get q:=by rw[hH,Tr.get_put,if_neg (by omega),Tr.get_put,if_neg (by omega)]
  rw[List.nil_append]at q4;exact⟨q,q1,by omega,by omega,by rw[e];exact q4⟩
 have hHn:H.get n1=some (bx 35 [v1] false 0):=by rw[hH,Tr.get_put,if_pos rfl]
 have hHb:H.get (nx+1)=some (bx 35 [.sl0] false 0):=by rw[hH,Tr.get_put,if_neg (by omega),Tr.get_put,if_neg (by omega)];exact tf
 have hHE:az nx h H:=fun k hk=>by rw[hH,Tr.get_put,if_neg (by omega),Tr.get_put,if_neg (by omega)];exact Uu k hk
 obtain⟨x1,x2,x3,x4,aF⟩:=M4.sl;clear M4 N4 T4 Uu tf;subst aF;simp[go_sem];rw[← hH];clear hH;have qX:nx+1+1<n1:=by omega
 clear u9;obtain⟨n2,OI⟩:∃n2,n2=n1+1:=⟨_,rfl⟩;rw[← OI]at hC ⊢;obtain⟨S,hS⟩:∃S,S=fe T:=⟨_,rfl⟩;rw[← hS];have tB:∀(e:TypeId) (size b:Nat) (z:Option AV) (fs:List (Nat×Nat×Bool)) (g:Tr ABlk) (n:Nat),k8 (.mk (.slice e) size b z fs) S g n=.val (.int .i64 (T.length:Int)) g n:=fun e size b z fs g n=>by
  rw[hS];unfold fe
  by_cases h0:T=[]
  ·rw[if_pos h0,Cp,h0];rfl
  ·rw[if_neg h0,zYs,uD]
 refine bF (fun mm st=>∃tm h' n' k v,st=.mk tm h' n' []∧mm=T.length-k∧k≤T.length∧tm.get 1=some S∧tm.get 4=some (.ptr (nx+1) 0)∧tm.get 5=some (.ptr n1 0)∧tm.get 6=some (.int .i64 (k:Int))∧h'.get n1=some (bx 35 [v] false 0)∧h'.get (nx+1)=some (bx 35 [.sl0] false 0)∧az nx h h'∧n1<n'∧ud n1 (nx+1+1) h' n' v (d++dM (T.take k))) ⟨T.length,_,H,n2,0,.sl x1 0 x2 x3 x4,rfl,by simp,by simp,?_⟩ ?_
 ·simp[go_sem];exact⟨hHn,hHb,hHE,by omega,by simpa[dM]using hC⟩
 ·rintro mm st ⟨tm,h',n',k,v,rfl,rfl,hk,t1,t4,t5,t6,m1,m2,hE,hn,hO⟩ J hJ
  refine bl ?_
  by_cases ay:k<T.length
  ·have fT:S=.fz 1 false (bp T):=by
    rw[hS];unfold fe;rw[if_neg (fun q=>by rw[q]at ay;simp at ay)]
   obtain⟨x,hx⟩:∃x,x=T[k]:=⟨_,rfl⟩;have hgx:(bp T)[k]'(by rw[uD];exact ay)=.bs x:=by rw[hx];simp[bp]
   obtain⟨y1,y2,y3,y4,hv⟩:=hO.sl;simp[go_sem,t1,t6,fT,ay];refine TE mixed iQ (fun k'=>if k'=0 then .ptr n1 0 else if k'=1 then v else if k'=2 then .fz 1 false (bp T) else .int .i64 (k:Int)) [(0,18),(1,19),(2,20),(3,21)] [(4,[(2,20),(3,21)]),(5,[]),(6,[]),(7,[]),(8,[(0,18),(1,19)]),(9,[]),(10,[])] (by kernel_rfl) (by decide) ?_;subst hv;have zn:¬n1=n':=by omega
   simp[go_sem,jq,k7,t1,t5,t6,m1,fT,hgx,uD,ay,aI,zn];obtain⟨v2,g2,n3,ev2,AP,dO,Ur⟩:=Xa (m:=1) (news:=[.bs x,.int .i64 1,.int .i64 0,.int .i64 1]) (tb:=dM [x]) (hO.ext (g:=h'.put n' (some (bx 65 [.bs x,.int .i64 1,.int .i64 0,.int .i64 1] false 0))) (n':=n'+1) (fun kk _ hk _=>by rw[Tr.get_put,if_neg (by omega)]) (Nat.le_succ _)) (by omega) (by omega) rfl rfl (by simp[dM];omega);rw[ev2];obtain⟨z1,z2,z3,z4,bg⟩:=Ur.sl;subst bg;have q1:g2.get n1=some (bx 35 [.sl y1 0 y2 y3 y4] false 0):=by rw[dO _ (.inr rfl),Tr.get_put,if_neg zn];exact m1
   have q2:g2.get (nx+1)=some (bx 35 [.sl0] false 0):=by rw[dO _ (.inl (by omega)),Tr.get_put,if_neg (by omega)];exact m2
   have hEg:az nx h g2:=fun kk hk=>by rw[dO _ (.inl (by omega)),Tr.get_put,if_neg (by omega)];exact hE kk hk
   have vd:d++dM (T.take (k+1))=d++dM (T.take k)++dM [x]:=by rw[List.take_succ_eq_append_getElem ay,← hx];simp[dM]
   have z1n:¬nx+1=n1:=(by omega);simp[go_sem,t5,t6,q1,aI];refine hJ (T.length-(k+1)) _ (by omega) ⟨_,g2.put n1 (some (bx 35 [.sl z1 0 z2 z3 z4] false 0)),n3,k+1,.sl z1 0 z2 z3 z4,rfl,rfl,by omega,?_⟩;rw[vd];simp(disch:=omega) [go_sem,t1,t4,t5,aS,q1,q2,z1n,fT];rw[← List.append_assoc];refine⟨?_,by omega,Ur.ext (fun kk _ _ hk=>by rw[Tr.get_put,if_neg hk]) (ae _)⟩;simp(disch:=omega)only[aK,hEg]
  ·rw[ar (by omega)]at hO;have z1:¬nx+1=n1:=by omega
   obtain⟨y1,y2,y3,y4,hv⟩:=hO.sl;subst hv;simp[go_sem,t1,t4,t5,t6,tB,ay,m1,m2,aI];have hO2:=(hO.ext (g:=h'.put (nx+1) (some (bx 35 [.sl y1 0 y2 y3 y4] false 0))) (fun kk h1 _ _=>by rw[Tr.get_put,if_neg (by omega)]) (ae _)).fz (nx:=nx) (by omega);refine hR _ _ _ _ ?_ (.agg _ _ (.cons _ _ _ _ hO2 .nil)) (.same _);simp(disch:=omega)only[aK,hE]
end
section
open Go.Proofs
attribute [-go_sem] dN bX
open Classical in
def ym0 (u v:Bool)(d:List Fc)(c:List Int)(hd:d.length≤1000000)(hs:∀f∈d,f.name.size≤1000000000)(hc:c.length≤1000000):aM 24 [.agg [.fz 4 u (aN d)],.fz 1 v (aG c)] (.bool (decide (dH d=true∧iq d c))):=by
 refine aB.mk fun h nx R hR=>aP yme (sz:=43) (rs:=[.tmp 4]) ?_;have hf:∀b g ny,az nx h g→(b=true↔dH d=true∧iq d c)→R (.bool b) g ny:=fun b g ny he hb=>hR _ _ _ he (Fz.eq rfl (by
  congr 1
  cases b
  ·exact(decide_eq_false (fun q=>by have:=hb.2 q;cases this)).symm
  ·exact(decide_eq_true (hb.1 rfl)).symm))
 clear hR;have E1:az nx h (h.put nx (some (bx 35 [.fz 4 u (aN d)] false 0))):=(az.refl nx h).put (ae _) _;simp[go_sem];refine aB.use (Is u d (by omega) hs) ?_;cases hv:dH d with
 |false=>
  simp[go_sem,aA];exact hf _ _ _ E1 (by simp[hv])
 |true=>
  by_cases hl:c.length=d.length
  ·have Gh:(c.length:Int)=(d.length:Int):=(by omega);simp[go_sem,aA,Gh,hl];refine bF (fun mm st=>∃tm h' n' k,st=.mk tm h' n' []∧mm=d.length-k∧k≤d.length∧tm.get 1=some (.fz 1 v (aG c))∧tm.get 19=some (.fz 4 u (aN d))∧tm.get 20=some (.int .i64 (d.length:Int))∧tm.get 21=some (.int .i64 (k:Int))∧az nx h h'∧nx<n'∧RowKit.Hid (∀j (hj:j<d.length),j<k→(d[j]).lo≤c.getD j 0∧c.getD j 0≤(d[j]).hi)) ⟨d.length,_,_,_,0,rfl,by simp,by simp,?_⟩ ?_
   ·simp[go_sem];exact⟨E1,Lib.hid trivial⟩
   ·rintro mm st ⟨tm,h',n',k,rfl,rfl,hk,t1,t19,t20,t21,he,hn,hI⟩ J hJ
    refine bl ?_
    by_cases ay:k<d.length
    ·have dE:k<c.length:=(by omega);obtain⟨f,uS⟩:∃f,f=d[k]:=⟨_,rfl⟩;obtain⟨x,hx⟩:∃x,x=c[k]:=⟨_,rfl⟩;have GR:c.getD k 0=x:=by rw[ak,aa dE,hx];rfl
     obtain⟨fn,fk,pH,pG⟩:=f;simp[go_sem,t1,t19,t20,t21,ay,dE,← uS,← hx,Fc.cs];refine eI [] [] [] ?_
     by_cases b1:x<pH
     ·simp[go_sem,t1,dE,← hx,b1];refine hf _ _ _ ?_ ⟨fun q=>(by cases q),fun q=>?_⟩
      ·simp(disch:=omega)only[aK,he]
      ·have:=(q.2.2 k ay).1;rw[← uS,GR]at this;exact absurd b1 (Int.not_lt.2 this)
     ·by_cases b2:pG<x
      ·simp[go_sem,t1,dE,← hx,b1,b2];refine hf _ _ _ ?_ ⟨fun q=>(by cases q),fun q=>?_⟩
       ·simp(disch:=omega)only[aK,he]
       ·have:=(q.2.2 k ay).2;rw[← uS,GR]at this;exact absurd b2 (Int.not_lt.2 this)
      ·simp[go_sem,t1,t21,dE,← hx,b1,b2];refine hJ (d.length-(k+1)) _ (by omega) ⟨_,_,_,k+1,rfl,rfl,by omega,?_⟩;simp(disch:=omega) [go_sem,t1,t19,t20,aS];refine⟨?_,Lib.hid fun j hj yF=>?_⟩
       ·simp(disch:=omega)only[aK,he]
       ·have uW:j<c.length:=(by omega);have e:c.getD j 0=c[j]:=by rw[ak,aa uW];rfl
        rw[← e]
        by_cases q:j<k
        ·exact hI.out j hj q
        ·have:j=k:=(by omega);subst this;rw[← uS,GR];exact⟨Int.not_lt.1 b1,Int.not_lt.1 b2⟩
    ·have dK:k=d.length:=(by omega);simp[go_sem,t20,t21,ay];exact hf _ _ _ he ⟨fun _=>⟨hv,hl,fun j hj=>hI.out j hj (by omega)⟩,fun _=>rfl⟩
  ·have Gh:¬(c.length:Int)=(d.length:Int):=(by omega);simp[go_sem,aA,Gh,hl];exact hf _ _ _ E1 ⟨fun q=>(by cases q),fun q=>absurd q.2.1 hl⟩
end
section
open Go.Proofs Go.RowKit
attribute [-go_sem] dN bX fC jg
def ft7:cx.ft.get 7=some Tryz.f7:=aO
def Hj (a b:Pv):Pv:={ a with when_:=b.when_ }
def yna (a b:Pv):aI a.cs 5 b.when_.cs=(Hj a b).cs:=by
 rcases a with⟨id,rank,kind,name,value,⟨w1,w2,w3,w4,w5⟩,ex,⟨b1,b2,b3,b4⟩,⟨e1,e2,e3,e4⟩,⟨g1,g2,g3,g4⟩⟩
 rcases b with⟨iD,jf,jc,jd,fw,⟨qh,Hb,Hc,Hd,He⟩,qA,⟨yd,rK,Cv,ye⟩,⟨jF,pF,sN,qz⟩,⟨CH,CI,CJ,CM⟩⟩
 rfl
def yn8 (b:Pv):(b.cs.drop 5).take 5=b.when_.cs:=by
 rcases b with⟨iD,jf,jc,jd,fw,⟨qh,Hb,Hc,Hd,He⟩,qA,⟨yd,rK,Cv,ye⟩,⟨jF,pF,sN,qz⟩,⟨CH,CI,CJ,CM⟩⟩
 rfl
open Classical in
def yn4 (Fh:aM 8 [] (.bool true))(w v:Bool)(a b:Pv)(c:List Int)(d:List Fc):aM 7 [.agg a.cs,.agg b.cs,.fz 1 v (aG c),.agg [.fz 4 w (aN d)]] (.bool true):=by
 refine aB.mk fun h nx R hR=>bf.ofLe fun hG=>aP ft7 (sz:=113) (rs:=[.tmp 8]) ?_;have hf:∀g ny,az nx h g→R (.bool true) g ny:=fun g ny he=>hR _ _ _ he (Fz.eq rfl rfl);clear hR;have V:=Pz nx;have wb:=yn8 b;have ws:=yna a b;have lL:(Hj a b).when_=b.when_:=rfl;have Uz:sq a (Hj a b):=⟨rfl,rfl,rfl,rfl,rfl,fun _=>Iff.rfl⟩;have UR:My a (Hj a b)=true:=by
  show (fP a.begin_ a.begin_ && fP a.end_ a.end_ && fP a.again a.again)=true;simp[ZX]
 have wl:b.when_.cs.length=5:=by cases b.when_;rfl
 have wo:dS b.when_.cs=true:=by cases b.when_;rfl
 generalize Hj a b=b2 at ws lL Uz UR;have la:=a.cs_len;have lb:=b.cs_len;have Dm:=b2.cs_len;have oa:=yV a;have ob:=yV b;have ob2:=yV b2;have ta:a.cs.take 23=a.cs:=ar (by omega);have tb:b.cs.take 23=b.cs:=ar (by omega);have Dw:b2.cs.take 23=b2.cs:=ar (by omega);have F0:=zu2 w false d [a,b2] (by simp);simp[go_sem];refine aB.use Fh ?_;simp[go_sem,aA,la,lb,ta,V,wb,ws,wl,oa,wo];simp[go_sem,la,Dm,ta,Dw,oa,ob2,aI,V];generalize qH:Tr.put _ (nx+1+1+1+1) (some (bx 30 (a.cs++_) false 0))=M;have m0:M.get nx=some (bx 30 a.cs false 0):=by rw[← qH];simp[go_sem,V]
 have m1:M.get (nx+1)=some (bx 30 b2.cs false 0):=by rw[← qH];simp[go_sem]
 have m2:M.get (nx+1+1)=some (bx 35 [.fz 4 w (aN d)] false 0):=by rw[← qH];simp[go_sem]
 have m3:∃T,M.get (nx+1+1+1+1)=some (bx 30 (a.cs++(b2.cs++T)) false 0):=by rw[← qH,Tr.get_put,if_pos rfl];exact⟨_,rfl⟩
 have hE:az nx h M:=by
  rw[← qH];simp(disch:=omega)only[aK,az.refl]
 clear qH;obtain⟨T,m3⟩:=m3;refine aB.useB uf F0 rfl (.cons _ _ _ _ (Fz.same _ (by simp[plain,bJ,DF])) (.cons _ _ _ _ (zu9 (by omega) m3) .nil)) ?_;clear m3 F0
 by_cases hq:(∀i (h:i < [a,b2].length),rY [a,b2][i] 40)∧yW d 8
 ·have qa:rY a 40:=hq.1 0 (by simp);have qb:rY b2 40:=hq.1 1 (by simp);have qd:=hq.2;rw[decide_eq_true hq]
  by_cases aX:c.length≤100
  ·have Ap:¬(100:Int)<(c.length:Int):=(by omega);have D1:=yfa w qa qb qd;have wH:=fun q=>ylp (d:=d) Uz UR q;rw[lL]at wH;generalize hDR:jx a b2 d=R1 at D1 wH;obtain⟨k,x,e⟩:=R1;simp only[uE.v]at D1;simp[go_sem,aA,m0,m1,m2,la,Dm,ta,Dw,Ap];refine aB.use D1 ?_
   by_cases he:e=0
   ·subst he;have K:=wH rfl;obtain⟨ca,cb,_,vD,hlen,kd,yes,all⟩:=K;simp only at kd yes all;obtain⟨L,hL⟩:∃L,L=nT a.when_ b.when_:=⟨_,rfl⟩;rw[← hL]at vD hlen yes all;obtain⟨nd,nP⟩:=Hi vD;have UF:L.length≤60:=by rw[List.length_append]at hlen;simp[dM]at hlen;omega
    have PT:=yn3 a b2 (by have:=qa.2.1;omega) (by have:=qb.2.1;omega);rw[lL,← hL]at PT;have nB:d.length≤1000000:=by have:=qd.1;omega
    have FU:=ymm w d L nB (by omega);have bC:∀f∈d++dM L,f.name.size≤1000000000:=fun f hf=>by have:=(nP f hf).2.2;omega
    have FX:=fun vv (c':List Int) (uR:c'.length≤1000000)=>ym0 false vv (d++dM L) c' (by omega) bC uR;have HA:=fun vv (c':List Int) (uR:iq (d++dM L) c')=>Xi w vv a d L c' nB (by omega) uR nd ca (fun n h=>by rw[hL];exact Xw.2 (.inl h));have HB:=fun vv (c':List Int) (uR:iq (d++dM L) c')=>Xi w vv b2 d L c' nB (by omega) uR nd (by rw[lL];exact cb) (fun n h=>by rw[hL];rw[lL]at h;exact Xw.2 (.inr h));rw[lL]at HB;generalize d++dM L=D at *;simp[go_sem,aA,aI,m0,m1,m2,la,Dm,ta,Dw,V];generalize uL:(M.put (nx+1+1+1+1+1) _).put (nx+1+1+1+1+1) (some (bx 43 [.int .i64 k,.fz 1 false (aG x)] false 0))=M2;have p0:M2.get nx=some (bx 30 a.cs false 0):=by rw[← uL];simp[go_sem,m0,V]
    have p1:M2.get (nx+1)=some (bx 30 b2.cs false 0):=by rw[← uL];simp[go_sem,m1,V]
    have p2:M2.get (nx+1+1)=some (bx 35 [.fz 4 w (aN d)] false 0):=by rw[← uL];simp[go_sem,m2,V]
    have p5:M2.get (nx+1+1+1+1+1)=some (bx 43 [.int .i64 k,.fz 1 false (aG x)] false 0):=by rw[← uL];simp[go_sem]
    have pJ:az nx h M2:=by
     rw[← uL];simp(disch:=omega)only[aK,hE]
    clear uL m0 m1 m2 hE;refine aB.use PT ?_;simp[go_sem,aA,p2];refine aB.use FU ?_;obtain⟨M3,rM⟩:∃M3,M3=(M2.put (nx+1+1+1+1+1+1) (some (bx 35 [.sl0] false 0))).put (nx+1+1+1+1+1+1) (some (bx 35 [.fz 4 false (aN D)] false 0)):=⟨_,rfl⟩;have r0:M3.get nx=some (bx 30 a.cs false 0):=by rw[rM];simp[go_sem,p0,V]
    have r1:M3.get (nx+1)=some (bx 30 b2.cs false 0):=by rw[rM];simp[go_sem,p1,V]
    have r2:M3.get (nx+1+1)=some (bx 35 [.fz 4 w (aN d)] false 0):=by rw[rM];simp[go_sem,p2,V]
    have r5:M3.get (nx+1+1+1+1+1)=some (bx 43 [.int .i64 k,.fz 1 false (aG x)] false 0):=by rw[rM];simp[go_sem,p5,V]
    have r6:M3.get (nx+1+1+1+1+1+1)=some (bx 35 [.fz 4 false (aN D)] false 0):=by rw[rM];simp[go_sem]
    have qE:az nx h M3:=by
     rw[rM];simp(disch:=omega)only[aK,pJ]
    simp[go_sem,aA,aI,V,p5];rw[← rM];clear rM p0 p1 p2 p5 pJ PT FU D1 wH;have FC:=FX v c (by omega)
    rcases kd with hk |hk
    ·subst hk;simp[go_sem,r5];refine eI [] [7,15,21] [] ?_;simp[go_sem,r5];refine eI [] [2,9,14] [] ?_;simp[go_sem,r6];refine dV FC ?_
     by_cases bG:dH D=true∧iq D c
     ·rw[decide_eq_true bG];have e:hF (fM D c) a.when_=hF (fM D c) b.when_:=Classical.byContradiction fun q=>by have:=(all c bG.2 q).1;cases this
      simp[go_sem,cW,r0,r2,la,ta];refine dV (HA v c bG.2) ?_;simp[go_sem,cW,r1,r2,Dm,Dw];refine dV (HB v c bG.2) ?_;rw[e];cases hF (fM D c) b.when_ <;> (simp[go_sem,cW];exact hf _ _ qE)
     ·rw[decide_eq_false bG];simp[go_sem,cW];exact hf _ _ qE
    ·subst hk;obtain⟨y1,y2⟩:=yes rfl;simp[go_sem,r5];refine eI [] [7,15,21] [] ?_;simp[go_sem,r5,r6];refine dV (FX false x (by have:=y1.1;omega)) ?_;rw[decide_eq_true ⟨vD,y1⟩];simp[go_sem,cW,r0,r2,r5,la,ta];refine dV (HA false x y1) ?_;simp[go_sem,cW,r1,r2,r5,Dm,Dw];refine dV (HB false x y1) ?_;generalize hF (fM D x) a.when_=ua at y2 ⊢;generalize hF (fM D x) b.when_=ub at y2 ⊢;have TH:=HA v c;have TJ:=HB v c;have aQ:=all c;clear HA HB all yes FX;generalize hF (fM D c) a.when_=va at TH aQ;generalize hF (fM D c) b.when_=vb at TJ aQ;cases ua <;> cases ub <;> first |exact absurd rfl y2 |skip
     all_goals
      simp[go_sem,cW];refine eI [] [2,9,14] [] ?_;simp[go_sem,r6];refine dV FC ?_
      by_cases bG:dH D=true∧iq D c
      ·rw[decide_eq_true bG];simp[go_sem,cW,r0,r2,la,ta];refine dV (TH bG.2) ?_;simp[go_sem,cW,r1,r2,Dm,Dw];refine dV (TJ bG.2) ?_;have hl:=aQ bG.2;cases va <;> cases vb
       all_goals simp[go_sem,cW,r5]
       all_goals first
        |exact hf _ _ qE
        |(refine aB.use (ymw v false c x (by omega)) ?_
          rw[(hl (by simp)).2];simp[go_sem,aA];exact hf _ _ qE)
      ·rw[decide_eq_false bG];simp[go_sem,cW];exact hf _ _ qE
   ·simp[go_sem,aA,aI,he];refine hf _ _ ?_;simp(disch:=omega)only[aK,hE]
  ·have Ap:(100:Int)<(c.length:Int):=(by omega);simp[go_sem,aA,Ap];exact hf _ _ hE
 ·rw[decide_eq_false hq];simp[go_sem,aA];exact hf _ _ hE
end
end
end Go.Ev
