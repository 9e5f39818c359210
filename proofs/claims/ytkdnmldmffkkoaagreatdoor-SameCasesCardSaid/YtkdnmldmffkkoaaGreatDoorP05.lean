/- Texts. -/
import Derived.Test.YtkdnmldmffkkoaaGreatDoorP04
set_option linter.all false
set_option maxRecDepth 100000
set_option maxHeartbeats 8000000
namespace Go.Ev
noncomputable section
section
open Go.Proofs
def fe (l:List ByteArray):AV:=if l=[] then .sl0 else .fz 1 false (bp l)
def lh (s:List ByteArray)(x:Fm):List ByteArray×Bool:=match x with
 |.mk o n _ _ _=>(if o=4∧fy n s<0 then s++[n] else s,true)
def Ze (s:List ByteArray)(x:Fm):(lh s x).1.length≤s.length+1:=by
 cases x;simp only[lh];split <;> simp
def zIc:cx.ft.get 39=some Tryz.f39:=aO
def Mb (a L:Nat)(s:List ByteArray)(O:Nat→Prop)(h:Tr ABlk):Prop:=
 (s=[]∧h.get a=some (bx 25 [.sl0] false 0))∨(s≠[]∧∃b,b≠a∧b≠L∧a≤b∧O b∧h.get a=some (bx 25 [.sl b 0 s.length 0 true] false 0)∧h.get b=some (bx 9 (bp s) true 1))
def Mb.ext {a L:Nat}{s:List ByteArray}{O:Nat→Prop}{h g:Tr ABlk}(hO:Mb a L s O h)(o1:O a)(aT:a≠L)(hk:∀k,O k→k≠L→g.get k=h.get k):Mb a L s O g:=by
 rcases hO with⟨e,g1⟩ |⟨e,b,b1,b2,b3,b4,g1,g2⟩
 ·exact .inl ⟨e,by rw[hk _ o1 aT];exact g1⟩
 ·exact .inr ⟨e,b,b1,b2,b3,b4,by rw[hk _ o1 aT];exact g1,by rw[hk _ b4 b2];exact g2⟩
def JT (nx:Nat)(rec:ABlk)(s:List ByteArray)(O:Nat→Prop)(h:Tr ABlk) (n:Nat):Prop:=
 Mb (nx+1) (nx+1+1+1) s O h∧h.get (nx+1+1+1)=some rec∧O (nx+1)∧O (nx+1+1+1)∧(∀k,O k→k<n∧nx<k)∧nx+4≤n
def JT.keep {nx:Nat}{rec:ABlk}{s:List ByteArray}{O:Nat→Prop}{h g:Tr ABlk}{n m:Nat}(hj:JT nx rec s O h n)(hle:n≤m)(hg:∀k,k<n→k≠nx+1+1+1→g.get k=h.get k)(hL:g.get (nx+1+1+1)=some rec):ew O h n O g m∧JT nx rec s O g m:=by
 obtain⟨j1,j2,j3,j4,j5,j6⟩:=hj;refine⟨⟨hle,fun k hk ho=>hg k hk (fun e=>ho (e ▸ j4)),fun k hk=>.inl hk⟩,j1.ext j3 (by omega) (fun k hk aT=>hg k (j5 k hk).1 aT),hL,j3,j4,fun k hk=>⟨by have:=(j5 k hk).1;omega,(j5 k hk).2⟩,by omega⟩
def JT.grow {nx:Nat}{rec:ABlk}{s s':List ByteArray}{O:Nat→Prop}{h g:Tr ABlk}{n m q:Nat}(hj:JT nx rec s O h n)(h1:n≤q)(h2:q<m)(hs:s'≠[])(hg:∀k,k<n→¬O k→g.get k=h.get k)(hL:g.get (nx+1+1+1)=some rec)(ga:g.get (nx+1)=some (bx 25 [.sl q 0 s'.length 0 true] false 0))(gq:g.get q=some (bx 9 (bp s') true 1)):
  ew O h n (fun k=>O k∨k=q) g m∧JT nx rec s' (fun k=>O k∨k=q) g m:=by
 obtain⟨j1,j2,j3,j4,j5,j6⟩:=hj;refine⟨⟨by omega,fun k hk ho=>hg k hk ho,fun k hk=>?_⟩,.inr ⟨hs,q,by omega,by omega,by omega,.inr rfl,ga,gq⟩,hL,.inl j3,.inl j4,fun k hk=>?_,by omega⟩
 ·rcases hk with hk |hk
  ·exact .inl hk
  ·exact .inr (by omega)
 ·rcases hk with hk |hk
  ·exact⟨by have:=(j5 k hk).1;omega,(j5 k hk).2⟩
  ·omega
def xx {i:Nat}{K:AV→Tr ABlk→Nat→Prop}{tm fL:Tr AV}{h:Tr ABlk}{nx sz db:Nat}{ds:List DE}{fn:FuncId}{st:LoopState}{bh:Option Code}{ps:Array Tmp}{x y:Code}{rb rec:ABlk}(hb:ABlk.loop st bh fn sz fL ps x y db=rb)(hi:h.get i=some rb)(hr:ABlk.loop .ready none fn sz fL ps x y db=rec)(hk:K (.bool true) (h.put i (some rec)) nx):R0 i K .norm (.mk tm h nx ds):=by
 subst hb;subst hr;exact⟨_,_,_,_,_,_,_,_,_,hi,hk⟩
def RI {Q:AX→AS→Prop}{v:AV}{tm fL:Tr AV}{g:Tr ABlk}{nx ny sz db:Nat}{ds:List DE}{fn:FuncId}{ps:Array Tmp}{x y:Code}{rec:ABlk}(hr:ABlk.loop .ready none fn sz fL ps x y db=rec)(hi:g.get (nx+1)=some rec)(hk:Q .norm (.mk tm (g.put (nx+1) none) ny (.mark nx::ds))):Tz tm ds nx Q v g ny:=by
 subst hr;exact⟨_,_,_,_,_,_,_,_,_,hi,by simp,hk⟩
def SM:∀l:List ByteArray,rD 1 (bp l) (bp l)
 |[]=>rfl
 |x::l=>⟨[.bs x],bp l,rfl,rfl,rfl,.inr rfl,SM l⟩
def Zw {g:Tr ABlk}{nx:Nat}:∀l:List ByteArray,cE g nx (bp l) (bp l)
 |[]=>.nil
 |x::l=>.cons _ _ _ _ (.bs x) (Zw l)
def IN {g:Tr ABlk}{nx b:Nat}{s:List ByteArray}{cp esz:Nat}{op opn:Bool}(hb:nx≤b)(hg:g.get b=some (bx 9 (bp s) opn esz)):Fz g nx (.sl b 0 s.length cp op) (.fz 1 false (bp s)):=
 .slz b 0 _ cp op 9 _ _ opn esz 1 (bp s) (bp s) (bp s) hb hg (by simp) (fun j hj=>by rw[Nat.zero_add,fX]) (Zw s) (SM s) (uD s)
def zU8 (x:ByteArray):aM 132 [.sl0,.bs x] (.int .i64 (-1)):=by
 refine aB.mk fun h nx R hR=>aP zy8 (sz:=19) (rs:=[.tmp 4]) ?_;simp[go_sem];refine bF (fun mm st=>∃tm,st=.mk tm h nx []∧mm=0∧tm.get 7=some (.int .i64 0)∧tm.get 8=some (.int .i64 0)) ⟨0,_,rfl,rfl,?_⟩ ?_
 ·simp[go_sem]
 ·rintro mm st ⟨tm,rfl,rfl,t7,t8⟩ J hJ
  refine bl ?_;simp[go_sem,t7,t8];exact hR _ _ _ (az.refl _ _) (Fz.int _ _)
def zzi (x:ByteArray):aM 87 [.sl0,.bs x] (.bool false):=by
 refine aB.mk fun h nx R hR=>aP Zi (sz:=9) (rs:=[.tmp 4]) ?_;simp[go_sem];refine aB.use (zU8 x) ?_;simp[go_sem,aA];exact hR _ _ _ (az.refl _ _) (Fz.bool _)
def zF6 (f:Fm)(hf:f.size≤16777216):aM 39 [.agg f.cs] (fe (df lh [] f).1):=by
 refine aB.mk fun h nx R hR=>bf.ofLe fun hG=>aP zIc (sz:=24) (rs:=[.tmp 2]) ?_;simp[go_sem];refine aB.use (zxf f) ?_;simp[go_sem,aA];obtain⟨fn,_⟩:∃fn:FuncId,fn=fn:=⟨0,rfl⟩;refine Lf iQ QH (first:=[]) (cap:=[.ip f.cs]) (fn0:=fn) (by simp[go_sem]) ?_;generalize cN:ABlk.loop LoopState.ready none fn 24 _ _ _ _ _=rec;refine(zEy (S:=List ByteArray) (step:=lh) (Pre:=fun s _=>s.length<16777216) (i:=nx+1+1+1)
  (J:=JT nx rec) (JE:=fun _ _ _ _=>False) ?_ f [] (fun k=>k=nx+1∨k=nx+1+1+1) _ _ (by omega) (R5 (mu:=List.length) (N:=16777216) Ze (fun _ _ h=>h) [] f (by simpa using hf)) ?_).mono ?_
 ·refine⟨?_,fun s O h' n hj k hk=>(hj.2.2.2.2.1 k hk).1,?_⟩
  ·rintro s O h1 n1 h2 n2 ⟨hO,hL,o1,o2,ho,hn⟩ hk hle
   exact⟨hO.ext o1 (by omega) (fun k h1 _=>hk k h1),by rw[hk _ o2];exact hL,o1,o2,fun k aW=>⟨by have:=(ho k aW).1;omega,(ho k aW).2⟩,by omega⟩
  ·intro s O x h1 n1 hp hj;obtain⟨K,hK⟩:∃K:AV→Tr ABlk→Nat→Prop,K=fun v g ny=>v=.bool (lh s x).2∧∃O',ew O h1 n1 O' g ny∧(if (lh s x).2 then JT nx rec (lh s x).1 O' g ny else False):=⟨_,rfl⟩;rw[← hK];have yD:=hj;obtain⟨hO,hL,o1,o2,ho,hn⟩:=yD;rw[← cN]at hL;refine Kg hL rfl (by simp) (bl ?_);have na:¬nx+1=n1:=by omega
   have nb:¬nx+1+1=n1:=(by omega);have nc:¬nx=n1:=(by omega);have nd:¬nx=n1+1:=(by omega);have nl:¬nx+1+1+1=n1:=(by omega);have Dq:¬n1=nx+1+1+1:=(by omega);have G5:¬n1=nx+1+1:=(by omega);have G4:¬n1=nx+1:=(by omega);have ne:¬nx+1+1=nx:=(by omega);have nf:¬n1+1=nx:=(by omega);have ng:¬n1=nx:=(by omega);cases x with
   |mk o nm cm m kids=>
   simp[go_sem,na,nl,putP,Fm.cs];refine⟨none,fn,24,_,_,_,_,nx+1+1,by simp[go_sem,nl];exact hL,bl ?_⟩;generalize mJ:ABlk.loop LoopState.busy none fn 24 _ _ _ _ _=JG
   by_cases h4:o=4
   ·rcases hO with⟨rfl,g1⟩ |⟨e,b,b1,b2,b3,b4,g1,g2⟩
    ·simp[go_sem,na,nl,Dq,h4,g1];refine aB.use (zzi nm) ?_;simp[go_sem,aA,na,nb,nc,nd,nl,Dq,G5,G4,h4,g1];refine xx mJ (by simp[go_sem,nb,na,nc,nd,ne,nf,ng]) cN ?_;rw[hK,lh,if_pos ⟨h4,by simp[fy]⟩];refine⟨rfl,(fun k=>O k∨k=n1+1+1),?_⟩;rw[if_pos rfl];refine hj.grow (by omega) (by omega) (by simp) ?_ ?_ ?_ ?_
     ·intro k hk gE;have k1:¬k=nx+1:=fun e=>gE (e ▸ o1);have k2:¬k=nx+1+1+1:=fun e=>gE (e ▸ o2);have k3:¬k=n1:=by omega
      have k4:¬k=n1+1:=(by omega);have k5:¬k=n1+1+1:=(by omega);simp[go_sem,k1,k2,k3,k4,k5]
     ·simp[go_sem]
     ·simp[go_sem,na,nb,nc,nd]
     ·simp[go_sem,G4,G5,bp,na,nb,nc,nd,ne,nf,ng]
    ·have b5:=(ho b b4).1;have c0:¬b=n1:=(by omega);have c1:¬b=n1+1:=(by omega);have c2:¬n1+1=b:=(by omega);have c3:¬b=nx+1+1+1:=b2;have c4:¬nx+1=b:=fun e=>b1 e.symm;have c5:¬nx+1+1+1=b:=fun e=>b2 e.symm;simp[go_sem,na,nl,Dq,h4,g1];refine aB.useB uf (zyt false s nm (by omega)) rfl (.cons _ _ _ _ (IN (opn:=true) (esz:=1) (by omega) ?_) (.cons _ _ _ _ (.bs _) .nil)) ?_
     ·simp[go_sem,c0,c3,g2]
     ·by_cases hx:fy nm s<0
      ·have Dh:¬0≤fy nm s:=(by omega);have Jl:s.length+1≤16777216:=(by omega);simp[go_sem,aA,na,nb,nc,nd,nl,Dq,G5,G4,h4,g1,g2,Dh,Jl,c0,c1,c2,c3,c4,c5];refine xx mJ (by simp[go_sem,nb,na,nc,nd,ne,nf,ng,c0,c1,c2,c3,c4,c5]) cN ?_;rw[hK,lh,if_pos ⟨h4,hx⟩];refine⟨rfl,(fun k=>O k∨k=n1+1+1),?_⟩;rw[if_pos rfl];refine hj.grow (by omega) (by omega) (by simp) ?_ ?_ ?_ ?_
       ·intro k hk gE;have k1:¬k=nx+1:=fun e=>gE (e ▸ o1);have k2:¬k=nx+1+1+1:=fun e=>gE (e ▸ o2);have k3:¬k=n1:=by omega
        have k4:¬k=n1+1:=(by omega);have k5:¬k=n1+1+1:=(by omega);have k6:¬k=b:=fun e=>gE (e ▸ b4);simp[go_sem,k1,k2,k3,k4,k5,k6]
       ·simp[go_sem]
       ·simp[go_sem,na,nb,nc,nd,ne,nf,ng,c0,c1,c2,c3,c4,c5]
       ·simp[go_sem,G4,G5,bp,na,nb,nc,nd,ne,nf,ng,c0,c1,c2,c3,c4,c5]
      ·have Dh:0≤fy nm s:=(by omega);simp[go_sem,aA,na,nb,nc,nd,nl,Dq,G5,G4,h4,g1,Dh];refine xx mJ (by simp[go_sem,nb,na,nc,nd,ne,nf,ng]) cN ?_;rw[hK,lh,if_neg (fun q=>hx q.2)];refine⟨rfl,O,?_⟩;rw[if_pos rfl];refine hj.keep (by omega) (fun k hk aT=>?_) (by simp[go_sem]);have k3:¬k=n1:=(by omega);simp[go_sem,aT,k3]
   ·simp[go_sem,na,nl,Dq,h4];refine xx mJ (by simp[go_sem,nb,na,nc,nd,ne,nf,ng]) cN ?_;rw[hK,lh,if_neg (fun q=>h4 q.1)];refine⟨rfl,O,?_⟩;rw[if_pos rfl];refine hj.keep (by omega) (fun k hk aT=>?_) (by simp[go_sem]);have k3:¬k=n1:=by omega
    simp[go_sem,aT,k3]
 ·refine⟨.inl ⟨rfl,by simp[go_sem]⟩,by simp[go_sem],.inl rfl,.inr rfl,fun k hk=>by omega,by omega⟩
 ·rintro v g ny ⟨O',hK,hq⟩
  by_cases hs:(df lh [] f).2=true
  ·rw[if_pos hs]at hq;obtain⟨hO,hL,o1,o2,ho,hn⟩:=hq;refine RI cN hL ?_;have gd:g.get (nx+1+1)=some .dfr:=by
    rw[hK.2.1 (nx+1+1) (by omega) (by omega)];simp[go_sem]
   have na:¬nx+1=nx+1+1+1:=(by omega);have ex:az nx h ((g.put (nx+1+1+1) none).put (nx+1+1) none):=by
    intro k hk;have k0:¬k=nx:=by omega
    have k1:¬k=nx+1:=(by omega);have k2:¬k=nx+1+1:=(by omega);have k3:¬k=nx+1+1+1:=(by omega);have:=hK.2.1 k (by omega) (by omega);simp[go_sem,k0,k1,k2,k3]at this ⊢;exact this
   rcases hO with⟨e,g1⟩ |⟨e,b,b1,b2,b3,b4,g1,g2⟩
   ·simp[go_sem,gd,g1,na];refine hR _ _ _ ex ?_;rw[fe,if_pos e];exact .sl0
   ·have b5:¬b=nx+1+1:=by
     intro q;rw[q,gd]at g2;cases g2
    simp[go_sem,gd,g1,g2,na];refine hR _ _ _ ex ?_;rw[fe,if_neg e];exact IN (opn:=true) (esz:=1) (by omega) (by simp[go_sem,b2,b5,g2])
  ·rw[if_neg hs]at hq;exact hq.elim
structure Fc where
 name:ByteArray
 kind:Int
 lo:Int
 hi:Int
def Fc.cs (f:Fc):List AV:=[.bs f.name,.int .i64 f.kind,.int .i64 f.lo,.int .i64 f.hi]
def aN (l:List Fc):List AV:=l.map fun f=>.agg f.cs
@[go_sem] theorem Ix (l:List Fc):(aN l).length=l.length:=by simp[aN]
@[go_sem] theorem yab (l:List Fc) (k:Nat)(hk:k<(aN l).length):(aN l)[k]=.agg (l[k]'(by simpa[aN]using hk)).cs:=by simp[aN]
@[go_sem] theorem Fc.cs_len (f:Fc):f.cs.length=4:=by cases f;rfl
@[go_sem] theorem Fc.cs_take (f:Fc):f.cs.take 4=f.cs:=by cases f;rfl
def DF:∀l:List Fc,bJ (aN l)=true
 |[]=>rfl
 |f::l=>by
  have:=DF l;rw[show aN (f::l)=.agg f.cs::aN l from rfl];simp[bJ,plain,Fc.cs,this]
def xp {g:Tr ABlk}{nx i:Nat}{t:TypeId}{l:List AV}{opn:Bool}{esz:Nat}(hi:nx≤i)(hg:g.get i=some (bx t l opn esz))(hp:bJ l=true):Fz g nx (.ptr i 0) (.ip l):=
 .pin i 0 t _ _ opn esz l l hi hg (by simp) (fun j hj=>by rw[Nat.zero_add,fX]) (cE.same _ hp)
def bj {α:Type}(p:α→Bool):List α→Int
 |[]=>-1
 |y::l=>if p y=true then 0 else (if bj p l<0 then -1 else bj p l+1)
def rF {α:Type}(p:α→Bool)(l:List α) (k:Nat):Int:=if bj p (l.drop k)<0 then -1 else bj p (l.drop k)+k
def Mr {α:Type}{p:α→Bool}{l:List α}{k:Nat}(hk:k<l.length)(e:p l[k]=true):rF p l k=k:=by
 unfold rF;rw[aj hk,bj,if_pos e];simp
def Q6 {α:Type}(p:α→Bool):∀l,-1≤bj p l∧(bj p l<0→bj p l=-1)
 |[]=>by simp[bj]
 |y::l=>by
  have:=Q6 p l;unfold bj;split
  ·omega
  ·split <;> omega
def Mn {α:Type}{p:α→Bool}{l:List α}{k:Nat}(hk:k<l.length)(e:¬p l[k]=true):rF p l k=rF p l (k+1):=by
 unfold rF;rw[aj hk,bj,if_neg e];have:=Q6 p (l.drop (k+1))
 repeat' split
 all_goals omega
def Mj {α:Type}{p:α→Bool}{l:List α}{k:Nat}(hk:l.length≤k):rF p l k=-1:=by
 unfold rF;rw[al hk,bj];simp
def Mt {α:Type}(p:α→Bool)(l:List α):rF p l 0=bj p l:=by
 have:=Q6 p l;unfold rF;rw[List.drop_zero]
 repeat' split
 all_goals omega
def zH2:cx.ft.get 42=some Tryz.f42:=aO
def zNs:cx.ft.get 89=some Tryz.f89:=aO
def zUt:cx.ft.get 90=some Tryz.f90:=aO
def ZN (f:Fc)(x:ByteArray):aM 90 [.agg f.cs,.ip [.bs x]] (.bool (decide (f.name=x))):=by
 refine aB.mk fun h nx R hR=>aP zUt (sz:=8) (rs:=[.tmp 3]) ?_
 by_cases e:f.name=x
 ·simp[go_sem,Fc.cs,e];exact hR _ _ _ ((az.refl nx h).put (ae _) _) (Fz.eq rfl (by simp[e]))
 ·simp[go_sem,Fc.cs,e];exact hR _ _ _ ((az.refl nx h).put (ae _) _) (Fz.eq rfl (by simp[e]))
def zGh (full:Bool)(l:List Fc)(x:ByteArray)(hl:l.length≤1000000000):aM 89 [.fz 4 full (aN l),.func 90 [] [.ip [.bs x]]] (.int .i64 (bj (fun f=>decide (f.name=x)) l)):=by
 refine aB.mk fun h nx R hR=>aP zNs (sz:=19) (rs:=[.tmp 4]) ?_;simp[go_sem];refine bF (fun mm st=>∃tm k,st=.mk tm h nx []∧mm=l.length-k∧k≤l.length∧tm.get 0=some (.fz 4 full (aN l))∧tm.get 1=some (.func 90 [] [.ip [.bs x]])∧tm.get 7=some (.int .i64 (l.length:Int))∧tm.get 8=some (.int .i64 (k:Int))∧RowKit.Hid (bj (fun f=>decide (f.name=x)) l=rF (fun f=>decide (f.name=x)) l k)) ⟨l.length,_,0,rfl,by simp,by simp,?_⟩ ?_
 ·simp[go_sem];exact Lib.hid (Mt _ l).symm
 ·rintro mm st ⟨tm,k,rfl,rfl,hk,t0,t1,t7,t8,hv⟩ J hJ
  refine bl ?_
  by_cases ay:k<l.length
  ·by_cases he:(l[k]).name=x
   ·have:=Mr (p:=fun f:Fc=>decide (f.name=x)) ay (by simpa using he);simp[go_sem,t0,t1,t7,t8,ay];refine aB.use (ZN _ x) ?_;simp[go_sem,aA,t0,t1,t7,t8,ay,he];refine hR _ _ _ (az.refl _ _) (Fz.eq rfl ?_);rw[hv.out,this]
   ·have:=Mn (p:=fun f:Fc=>decide (f.name=x)) ay (by simpa using he);have HM:=Lib.hid this;clear this;simp[go_sem,t0,t1,t7,t8,ay];refine aB.use (ZN _ x) ?_;simp[go_sem,aA,t0,t1,t7,t8,ay,he];refine hJ (l.length-(k+1)) _ (by omega) ⟨_,k+1,rfl,rfl,by omega,?_⟩;simp(disch:=omega) [go_sem,t0,t1,t7,t8,aS];exact Lib.hid (by rw[hv.out,HM.out])
  ·have:=Mj (p:=fun f:Fc=>decide (f.name=x)) (l:=l) (k:=k) (by omega);simp[go_sem,t0,t1,t7,t8,ay];refine hR _ _ _ (az.refl _ _) (Fz.eq rfl ?_);rw[hv.out,this]
def zxo (full:Bool)(l:List Fc)(x:ByteArray)(hl:l.length≤1000000000):aM 42 [.agg [.fz 4 full (aN l)],.bs x] (.int .i64 (bj (fun f=>decide (f.name=x)) l)):=by
 refine aB.mk fun h nx R hR=>bf.ofLe fun hG=>aP zH2 (sz:=9) (rs:=[.tmp 4]) ?_;simp[go_sem];refine aB.useB uf (zGh full l x hl) rfl (.cons _ _ _ _ (Fz.eq (by simp[plain,DF]) rfl) (.cons _ _ _ _ (.func 90 _ _ _ _ .nil (.cons _ _ _ _ (xp (t:=9) (opn:=false) (esz:=0) (by omega) (by simp[go_sem]) (by simp[plain,bJ])) .nil)) .nil)) ?_;simp[go_sem,aA];exact hR _ _ _ (((az.refl nx h).put (ae _) _).put (by omega) _) (Fz.eq rfl rfl)
end
section
open Go
variable {P : Program} {c : Cx}
def ug (q:Prop):Prop:=¬q
@[go_sem] theorem zXz:ug False=True:=by simp[ug]
def rm (q:Prop)(v:AV):AV:=@ite _ q (Classical.propDecidable q) v (.tup [])
def Du (q:Prop)(v u:AV):AV:=@ite _ q (Classical.propDecidable q) v u
def sj (q:Prop)(r:R)(h:Tr ABlk) (nx:Nat):R:=@ite _ q (Classical.propDecidable q) (r.rem h nx) (.val (.tup []) h nx)
def DP (q:Prop)(r s:R)(h:Tr ABlk) (nx:Nat):R:=@ite _ q (Classical.propDecidable q) (r.rem h nx) (s.rem h nx)
section
variable {q : Prop} {v u : AV} {r s : R} {h : Tr ABlk} {nx : Nat}
def Ee (hq:q):rm q v=v:=if_pos hq
def DG (hq:¬q):rm q v=.tup []:=if_neg hq
def SN (hq:q):Du q v u=v:=if_pos hq
def SD (hq:¬q):Du q v u=u:=if_neg hq
def Lo (hq:q):sj q r h nx=r.rem h nx:=if_pos hq
def Ep (hq:¬q):sj q r h nx=.val (.tup []) h nx:=if_neg hq
def KT (hq:q):DP q r s h nx=r.rem h nx:=if_pos hq
def Kh (hq:¬q):DP q r s h nx=s.rem h nx:=if_neg hq
@[go_sem] theorem zV9:rm True v=v:=Ee trivial
@[go_sem] theorem zVs:rm False v=.tup []:=DG id
@[go_sem] theorem zZ2:Du True v u=v:=SN trivial
@[go_sem] theorem zVf:Du False v u=u:=SD id
@[go_sem] theorem zVw:sj False r h nx=.val (.tup []) h nx:=Ep id
@[congr] theorem zWt {q q':Prop}{r r':R}{h:Tr ABlk}{nx:Nat}(hq:q=q')(hr:q'→r=r'):sj q r h nx=sj q' r' h nx:=by
 subst hq
 by_cases hh:q
 ·rw[Lo hh,Lo hh,hr hh]
 ·rw[Ep hh,Ep hh]
@[congr] theorem zWa {q q':Prop}{r r' s s':R}{h:Tr ABlk}{nx:Nat}(hq:q=q')(hr:q'→r=r')(hs:ug q'∧¬q'→s=s'):DP q r s h nx=DP q' r' s' h nx:=by
 subst hq
 by_cases hh:q
 ·rw[KT hh,KT hh,hr hh]
 ·rw[Kh hh,Kh hh,hs ⟨hh,hh⟩]
@[congr] theorem zY2 {q q':Prop}{r r':AV}(hq:q=q')(hr:q'→r=r'):rm q r=rm q' r':=by
 subst hq
 by_cases hh:q
 ·rw[Ee hh,Ee hh,hr hh]
 ·rw[DG hh,DG hh]
@[go_sem] theorem zXq (v:AV)(h':Tr ABlk) (ax:Nat):(R.val v h' ax).rem h nx=.val v h nx:=rfl
@[go_sem] theorem yau (v:AV)(h':Tr ABlk) (ax:Nat):sj q (.val v h' ax) h nx=.val (rm q v) h nx:=by
 by_cases hh:q
 ·rw[Lo hh,Ee hh];rfl
 ·rw[Ep hh,DG hh]
@[go_sem] theorem zVc (v u:AV)(h' h'':Tr ABlk) (ax Py:Nat):DP q (.val v h' ax) (.val u h'' Py) h nx=.val (Du q v u) h nx:=by
 by_cases hh:q
 ·rw[KT hh,SN hh];rfl
 ·rw[Kh hh,SD hh];rfl
open Classical in
@[go_sem] theorem yct (b d:Bool):Du q (.bool b) (.bool d)=.bool (decide ((q∧b=true)∨(¬q∧d=true))):=by
 by_cases hh:q
 ·rw[SN hh];simp[hh]
 ·rw[SD hh];simp[hh]
end
section
variable {sz : Nat} {ops : List Oper} {K : AS → Prop} {tm : Tr AV} {h : Tr ABlk} {nx : Nat} {ds : List DE} (want : Bool) (dst : Option Tmp) (op : Op) (ty : TypeId) (pos : String) (aY : Array Edge)
def gK (c:Cx)(op:Op):Bool:=match op with
 |.move _=>true |.assign _=>true |.pick _ _ _=>true |.build _ _=>true |.load _ _=>true |.nilCheck _=>true |.binOp _ _ _ _ _=>true |.unOp _ _ _=>true
 |.makeInterface _ _=>true |.makeFunc _ _ _=>true |.slice _ _ _ _ _=>true |.fieldAddr _ _ _=>true |.field _ _ _=>true |.indexAddr _ _ _=>true |.index _ _ _=>true
 |.lookup t _ _ _=>!vM c t |.typeAssert _ _ _ _=>true |.extract _ _=>true
 |.call cl=>match cl.callee with
  |.builtin .len=>true
  |.builtin .cap=>true
  |_=>false
 |_=>false
@[go_sem] theorem ycz (x:Operand):gK c (.move x)=true:=by simp[gK]
@[go_sem] theorem zZd (t:TypeId)(x:Operand):gK c (.load t x)=true:=by simp[gK]
@[go_sem] theorem zYd (o:BinOp)(t t':TypeId)(x y:Operand):gK c (.binOp o t x y t')=true:=by simp[gK]
@[go_sem] theorem yaa (o:UnOp)(t:TypeId)(x:Operand):gK c (.unOp o t x)=true:=by simp[gK]
@[go_sem] theorem zXf (t:TypeId)(x:Operand) (k:Nat):gK c (.fieldAddr t x k)=true:=by simp[gK]
@[go_sem] theorem ydo (t:TypeId)(x i:Operand):gK c (.index t x i)=true:=by simp[gK]
@[go_sem] theorem zYt (t:TypeId)(m k:Operand)(ok:Bool):gK c (.lookup t m k ok)=!vM c t:=by simp[gK]
@[go_sem] theorem zWm (x y z:Operand):gK c (.pick x y z)=true:=by simp[gK]
@[go_sem] theorem zZw (args:Array Operand)(iz:Array TypeId):gK c (.call ⟨.builtin .len,args,iz⟩)=true:=by simp[gK]
def zFl (v:AV)(h':Tr ABlk) (ax:Nat):dF sz dst tm ds K (.val v h' ax)=dj sz dst v (.mk tm h' ax ds) K:=by cases dst <;> rfl
def zGu (hs:gK c op=true):cI P c sz ops ⟨dst,op,ty,pos,aY,none⟩ K (.mk tm h nx ds)=dF sz dst tm ds K (cG c op tm h nx):=by
 cases op
 case lookup t x k ok=>
  have hk:vM c t=false:=by simpa[gK]using hs
  rw[zOx,hk];rfl
 all_goals try (first |rfl |(cases hs;done))
 rename_i cl;obtain⟨callee,args,iz⟩:=cl;cases callee <;> try (cases hs;done)
 rfl
def zJe (hG:c.G.sym=true)(hs:gK c op=true):(cG c op tm h nx).rem h nx=cG c op tm h nx:=by
 refine(YH hG op ?_ (HH _ _)).symm;cases op <;> try (first |rfl |(cases hs;done))
 rename_i cl;obtain⟨callee,args,iz⟩:=cl;cases callee <;> try (cases hs;done)
 rename_i b;cases b <;> first |rfl |(cases hs;done)
def QM (b:Bool)(hG:c.G.sym=true)(hs:gK c op=true):kD P c sz ops (some (.bool b)) want dst op ty pos aY K tm h nx ds=dF sz dst tm ds K (sj (b=want) (cG c op tm h nx) h nx):=by
 by_cases e:b=want
 ·simp only[kD];rw[if_pos e,zGu dst op ty pos aY hs,Lo e,zJe op hG hs]
 ·simp only[kD];rw[if_neg e,Ep e,zFl]
def SL (b:Bool):ug (b=true)=(b=false):=by cases b <;> simp[ug]
@[go_sem] theorem zWs (b:Bool)(hG:c.G.sym=true)(hs:gK c op=true):kD P c sz ops (some (.bool b)) true dst op ty pos aY K tm h nx ds=dF sz dst tm ds K (sj (b=true) (cG c op tm h nx) h nx):=QM true dst op ty pos aY b hG hs
@[go_sem] theorem zZ0 (b:Bool)(hG:c.G.sym=true)(hs:gK c op=true):kD P c sz ops (some (.bool b)) false dst op ty pos aY K tm h nx ds=dF sz dst tm ds K (sj (ug (b=true)) (cG c op tm h nx) h nx):=by
 rw[SL];exact QM false dst op ty pos aY b hG hs
def XJ (p:Prop)(b:Bool)(hG:c.G.sym=true)(hs:gK c op=true):kD P c sz ops (some (rm p (.bool b))) want dst op ty pos aY K tm h nx ds=dF sz dst tm ds K (sj (p∧b=want) (cG c op tm h nx) h nx):=by
 by_cases hp:p
 ·rw[Ee hp,QM want dst op ty pos aY b hG hs];simp[hp]
 ·rw[DG hp,Ep (fun q=>hp q.1),zFl];rfl
@[go_sem] theorem zVd (p:Prop)(b:Bool)(hG:c.G.sym=true)(hs:gK c op=true):kD P c sz ops (some (rm p (.bool b))) true dst op ty pos aY K tm h nx ds=dF sz dst tm ds K (sj (p∧b=true) (cG c op tm h nx) h nx):=XJ true dst op ty pos aY p b hG hs
@[go_sem] theorem zZ8 (p:Prop)(b:Bool)(hG:c.G.sym=true)(hs:gK c op=true):kD P c sz ops (some (rm p (.bool b))) false dst op ty pos aY K tm h nx ds=dF sz dst tm ds K (sj (p∧ug (b=true)) (cG c op tm h nx) h nx):=by
 rw[SL];exact XJ false dst op ty pos aY p b hG hs
end
section
def QN (v:Option AV)(a b:R)(h:Tr ABlk) (nx:Nat):R:=match v with
 |some (.bool true)=>a.rem h nx
 |some (.bool false)=>b.rem h nx
 |_=>.fail
end
section
variable {tm : Tr AV} {h : Tr ABlk} {nx : Nat}
@[go_sem high] theorem zZy (x a b:Operand):dN c x a b tm h nx=QN (aL c.G tm x) (kX c a tm h nx) (kX c b tm h nx) h nx:=by
 have hm:∀a,(kX c a tm h nx).rem h nx=kX c a tm h nx:=fun a=>by
  unfold kX bR;cases aL c.G tm a <;> rfl
 unfold dN QN;simp only[hm];cases aL c.G tm x with
 |none=>rfl
 |some v=>
  cases v <;> try rfl
  rename_i b;cases b <;> rfl
@[go_sem] theorem ydj (b:Bool)(r s:R):QN (some (.bool b)) r s h nx=DP (b=true) r s h nx:=by
 cases b
 ·rw[Kh (by simp)];rfl
 ·rw[KT rfl];rfl
end
@[go_sem] theorem ydf:cx.G.sym=true:=rfl
@[go_sem] theorem yas:G0.sym=true:=rfl
@[go_sem] theorem zXa (v:AV)(h h':Tr ABlk) (nx ax:Nat):(R.val v h' ax).rem h nx=.val v h nx:=rfl
def ZL {sz:Nat}{ops:List Oper}{K:AS→Prop}{tm:Tr AV}{h:Tr ABlk}{nx:Nat}{ds:List DE}{want b:Bool}{dst:Option Tmp}{f:Operand}{args:Array Operand}{iz:Array TypeId}{ty:TypeId}{pos:String}{aY:Array Edge}{fid:FuncId}{first cap l:List AV}{u:AV}{q:Prop}(e:(b=want)=q)
  (hf:aL c.G tm f=some (.func fid first cap)) (hl:q→dz c.G tm args.toList=some l) (hr:q→aB P c fid (first++(l++cap)) u) (hk:dj sz dst (rm q u) (.mk tm h nx ds) K):
  kD P c sz ops (some (.bool b)) want dst (.call ⟨.value f,args,iz⟩) ty pos aY K tm h nx ds:=by
 subst e;simp only[kD]
 by_cases e:b=want
 ·rw[if_pos e];rw[Ee e]at hk;simp only[cI,tW,gU,kZ,hf,hl e,uu];exact aB.use (hr e) hk
 ·rw[if_neg e];rw[DG e]at hk;exact hk
section
variable {sz : Nat} {ops : List Oper} {K : AS → Prop} {tm : Tr AV} {h : Tr ABlk} {nx : Nat} {ds : List DE} {b : Bool} {dst : Option Tmp} {f : Operand} {args : Array Operand} {iz : Array TypeId} {ty : TypeId} {pos : String} {aY : Array Edge} {fid : FuncId} {first cap l : List AV} {u : AV}
def zK0 (hf:aL c.G tm f=some (.func fid first cap))(hl:b=true→dz c.G tm args.toList=some l)(hr:aB P c fid (first++(l++cap)) u)(hk:dj sz dst (rm (b=true) u) (.mk tm h nx ds) K):
  kD P c sz ops (some (.bool b)) true dst (.call ⟨.value f,args,iz⟩) ty pos aY K tm h nx ds:=ZL rfl hf hl (fun _=>hr) hk
def QL (hf:aL c.G tm f=some (.func fid first cap))(hl:ug (b=true)→dz c.G tm args.toList=some l)(hr:aB P c fid (first++(l++cap)) u)(hk:dj sz dst (rm (ug (b=true)) u) (.mk tm h nx ds) K):
  kD P c sz ops (some (.bool b)) false dst (.call ⟨.value f,args,iz⟩) ty pos aY K tm h nx ds:=ZL (SL b).symm hf hl (fun _=>hr) hk
end
end
section
open Go.Proofs
attribute [-go_sem] dN
def iV (i:Nat) (c:Int):Prop:=((97≤c∧c≤122)∨(65≤c∧c≤90))∨(i≠0∧((48≤c∧c≤57)∨c=95))
def pC (s:ByteArray):Prop:=(∀i (h:i<s.size),iV i ((s[i]).toNat:Int))∧s≠.empty∧s.size≤24
def vV (s:ByteArray):Bool:=@decide (pC s) (Classical.propDecidable _)
def Lr {s:ByteArray}(h:pC s):vV s=true:=by unfold vV;exact @decide_eq_true _ (Classical.propDecidable _) h
def Zk {s:ByteArray}(h:¬pC s):vV s=false:=by unfold vV;exact @decide_eq_false _ (Classical.propDecidable _) h
@[go_sem] theorem zWr (size b:Nat)(z:Option AV)(fs:List (Nat×Nat×Bool))(v:ByteArray)(k:IntKind)(h:Tr ABlk) (nx:Nat)(hn:0<v.size):uy (.mk .string size b z fs) (.bs v) (.int k 0) h nx=.val (.int .u8 ((v[0]).toNat:Int)) h nx:=
 zU3 size b z fs v k 0 h nx hn
def zTi:cx.ft.get 84=some Tryz.f84:=aO
def zSe (s:ByteArray)(hs:s.size≤1000000000):aM 84 [.bs s] (.bool (vV s)):=by
 refine aB.mk fun h nx R hR=>aP zTi (sz:=57) (rs:=[.tmp 2]) ?_;simp[go_sem];refine bF (fun mm st=>∃tm k,st=.mk tm h nx []∧mm=s.size-k∧k≤s.size∧tm.get 0=some (.bs s)∧tm.get 8=some (.int .i64 (s.size:Int))∧tm.get 9=some (.int .i64 (k:Int))∧RowKit.Hid (∀i (h:i<s.size),i<k→iV i ((s[i]).toNat:Int))) ⟨s.size,_,0,rfl,by simp,by simp,?_⟩ ?_
 ·simp[go_sem];exact Lib.hid trivial
 ·rintro mm st ⟨tm,k,rfl,rfl,hk,t0,t8,t9,hv⟩ J hJ
  refine bl ?_
  by_cases ay:k<s.size
  ·obtain⟨c,hc⟩:∃c:Int,((s[k]).toNat:Int)=c:=⟨_,rfl⟩;simp +contextual -implicitDefEqProofs[go_sem,t0,t8,t9,ay,hc];refine zG (fun hb=>?_) (fun hb=>?_)
   ·simp[go_sem,t0,t8,t9];refine hR _ _ _ (az.refl _ _) (Fz.eq rfl ?_);rw[Zk (fun hn=>?_)];have:=hn.1 k ay;rw[hc]at this;unfold iV at this;simp at hb;omega
   ·simp[go_sem,t0,t8,t9];refine hJ (s.size-(k+1)) _ (by omega) ⟨_,k+1,rfl,rfl,by omega,?_⟩;simp(disch:=omega) [go_sem,t0,t8,t9,aS];refine Lib.hid (fun i h hi=>?_)
    by_cases e:i=k
    ·subst e;rw[hc];unfold iV;simp at hb;omega
    ·exact hv.out i h (by omega)
  ·have aQ:∀i (h:i<s.size),iV i ((s[i]).toNat:Int):=fun i h=>hv.out i h (by omega);simp +contextual -implicitDefEqProofs[go_sem,t0,t8,t9,ay];refine hR _ _ _ (az.refl _ _) (Fz.eq rfl ?_)
   by_cases hn:pC s
   ·have e1:¬s=(⟨#[]⟩:ByteArray):=hn.2.1;have e2:(s.size:Int)≤24:=by have:=hn.2.2;omega
    rw[Lr hn];simp[e1,e2]
   ·rw[Zk hn]
    congr 1
    by_cases e1:s=(⟨#[]⟩:ByteArray)
    ·simp[e1]
    ·have e2:¬(s.size:Int)≤24:=fun h=>hn ⟨aQ,e1,by omega⟩;simp[e2]
end
section
open Go.Proofs
attribute [-go_sem] dN bX
def gV:List ByteArray→Nat→List (AV×AV×Nat)
 |[],_=>[]
 |x::l,n=>(.bs x,.bool true,n)::gV l (n+1)
def Ip (x:ByteArray):∀(l:List ByteArray) (n:Nat),gV l n++[(.bs x,.bool true,n+l.length)]=gV (l++[x]) n
 |[],n=>rfl
 |y::l,n=>by
  have:=Ip x l (n+1);simp only[gV,List.cons_append,List.length_cons];rw[← this,show n+(l.length+1)=n+1+l.length by omega]
def sO (x:ByteArray):List ByteArray→Nat→Option (Nat×AV)
 |[],_=>none
 |y::l,i=>if x=y then some (i,.bool true) else sO x l (i+1)
def X3 (x:ByteArray):∀(l:List ByteArray) (n i:Nat),mU .string (.bs x) (gV l n) i=some (sO x l i)
 |[],n,i=>rfl
 |y::l,n,i=>by
  rw[gV,Er,sO]
  by_cases e:x=y
  ·simp[mC,e]
  ·simp[mC,e,fN_eq,X3 x l (n+1) (i+1)]
attribute [go_sem] X3
open Classical in
@[go_sem] theorem zTp (x:ByteArray)(h:Tr ABlk) (nx:Nat):∀(l:List ByteArray) (i:Nat),bX false (.bool false) (sO x l i) h nx=.val (.bool (decide (x∈l))) h nx
 |[],i=>by simp[sO,bX]
 |y::l,i=>by
  have:=zTp x h nx l (i+1);rw[sO]
  by_cases e:x=y
  ·simp[e,bX]
  ·simp[e,this]
@[go_sem] theorem zzx {x:ByteArray}:∀{l:List ByteArray}(i:Nat),¬x∈l→sO x l i=none
 |[],_,_=>rfl
 |y::l,i,h=>by
  simp at h;rw[sO,if_neg h.1,zzx (i+1) h.2]
def H0 (f:Fc):Prop:=(f.kind=1∧f.lo=0∧f.hi=1)∨((f.kind=2∨f.kind=3)∧0≤f.lo∧f.lo≤f.hi∧f.hi≤1000000)
def Lh (l:List Fc):Prop:=(∀f∈l,H0 f∧vV f.name=true)∧(l.map Fc.name).Nodup
def Ci (l:List Fc):Prop:=Lh l∧l.length≤60
def dH (l:List Fc):Bool:=@decide (Ci l) (Classical.propDecidable _)
def RG {s:List Fc}(h:Ci s):dH s=true:=by unfold dH;exact @decide_eq_true _ (Classical.propDecidable _) h
def LM {s:List Fc}(h:¬Ci s):dH s=false:=by unfold dH;exact @decide_eq_false _ (Classical.propDecidable _) h
def zRe {α:Type}{m:List α}{k:Nat}(hn:m.Nodup)(hk:k<m.length):¬m[k]∈m.take k:=by
 intro hm;have e:m=m.take k++m[k]::m.drop (k+1):=by
  rw[← aj hk,List.take_append_drop]
 rw[e,List.nodup_append]at hn;exact hn.2.2 _ hm _ (aq) rfl
def zKf {l:List Fc}{k:Nat}(hk:k<l.length)(hv:Lh (l.take k))(h1:H0 l[k])(h2:vV (l[k]).name=true)(h3:¬(l[k]).name∈(l.map Fc.name).take k):Lh (l.take (k+1)):=by
 have e:l.take (k+1)=l.take k++[l[k]]:=List.take_succ_eq_append_getElem hk;rw[e];refine⟨fun f hf=>?_,?_⟩
 ·rcases List.mem_append.1 hf with h |h
  ·exact hv.1 f h
  ·simp at h;subst h;exact⟨h1,h2⟩
 ·rw[List.map_append,List.nodup_append];refine⟨hv.2,by simp,?_⟩;intro a ha b hb e;simp at hb;subst hb;subst e;rw[← List.map_take]at h3;exact h3 ha
def zS6:cx.ft.get 37=some Tryz.f37:=aO
def Is (full:Bool)(l:List Fc)(hl:l.length≤1000000000)(hs:∀f∈l,f.name.size≤1000000000):aM 37 [.agg [.fz 4 full (aN l)]] (.bool (dH l)):=by
 refine aB.mk fun h nx R hR=>aP zS6 (sz:=80) (rs:=[.tmp 2]) ?_;simp[go_sem];refine bF (fun mm st=>∃tm h' ax k,st=.mk tm h' ax []∧mm=l.length-k∧k≤l.length∧tm.get 1=some (.ptr nx 0)∧tm.get 3=some (.map (nx+1))∧tm.get 10=some (.fz 4 full (aN l))∧tm.get 11=some (.int .i64 (l.length:Int))∧tm.get 12=some (.int .i64 (k:Int))∧az nx h h'∧nx+2≤ax∧h'.get nx=some (bx 35 [.fz 4 full (aN l)] false 0)∧h'.get (nx+1)=some (.map (gV ((l.take k).map Fc.name) 0) k)∧RowKit.Hid (Lh (l.take k))) ⟨l.length,_,_,_,0,rfl,by simp,by simp,?_⟩ ?_
 ·simp[go_sem,gV];exact⟨((az.refl nx h).put (ae _) _).put (by omega) _,Lib.hid ⟨by simp,by simp⟩⟩
 ·rintro mm st ⟨tm,h',ax,k,rfl,rfl,hk,t1,t3,t10,t11,t12,he,hn,g0,g1,hv⟩ J hJ
  refine bl ?_;have n0:¬nx=ax:=by omega
  have n1:¬nx+1=ax:=by omega
  by_cases ay:k<l.length
  ·obtain⟨f,hf⟩:∃f,l[k]=f:=⟨_,rfl⟩;simp +contextual -implicitDefEqProofs[go_sem,t1,t3,t10,t11,t12,ay,g0,g1,n0,n1,hf,Fc.cs];have Au:f∈l:=hf ▸ ah ay;refine QL (fid:=84) (first:=[]) (cap:=[]) (l:=[.bs f.name]) (by simp[go_sem]) ?_ (zSe f.name (hs f Au)) ?_
   ·simp +contextual [go_sem]
   simp +contextual -implicitDefEqProofs[go_sem,cW,t1,t3,t10,t11,t12,ay,g0,g1,n0,n1];refine zG (fun hb=>?_) (fun hb=>?_)
   ·simp[go_sem];refine hR _ _ _ ((he.put (by omega) _).put (by omega) _) (Fz.eq rfl ?_);rw[LM];intro bg;obtain⟨h1,h2⟩:=bg.1.1 f Au;have h3:=zRe bg.1.2 (k:=k) (by simpa using ay);rw[List.getElem_map,hf]at h3;unfold H0 at h1;simp[h2,h3]at hb;omega
   ·have iJ:H0 f∧vV f.name=true∧¬f.name∈List.take k (List.map Fc.name l):=by
     simp at hb;unfold H0
     by_cases e1:vV f.name=true
     ·by_cases e2:f.name∈List.take k (List.map Fc.name l)
      ·simp[e1,e2]at hb;omega
      ·refine⟨?_,e1,e2⟩;simp[e1,e2]at hb;omega
     ·simp[e1]at hb;omega
    obtain⟨b1,b2,b3⟩:=iJ;clear hb;simp[go_sem,t1,t3,t10,t11,t12,g0,g1,n0,n1,b3];have wN:gV (List.take k (List.map Fc.name l)) 0++[(.bs f.name,.bool true,k)]=gV ((l.take (k+1)).map Fc.name) 0:=by
     have h1:=Ip f.name (List.take k (List.map Fc.name l)) 0;have h2:(List.take k (List.map Fc.name l)).length=k:=by simp;omega
     rw[h2,Nat.zero_add]at h1;rw[h1,List.take_succ_eq_append_getElem ay,List.map_append,List.map_take,hf];rfl
    have HM:=Lib.hid wN;clear wN;have HV:=Lib.hid (zKf ay hv.out (hf ▸ b1) (hf ▸ b2) (hf ▸ b3));refine hJ (l.length-(k+1)) _ (by omega) ⟨_,_,_,k+1,rfl,rfl,by omega,?_⟩;simp(disch:=omega) [go_sem,t1,t3,t10,t11,t12,aS];refine⟨((he.put (by omega) _).put (by omega) _).put (by omega) _,by omega,by rw[if_neg n0,if_neg n0];exact g0,?_,HV⟩;have:=HM.out;rw[List.map_take]at this;exact this
  ·simp +contextual [go_sem,t1,t3,t10,t11,t12,ay,g0,g1,n0,n1];refine hR _ _ _ he (Fz.eq rfl ?_);have:l.take k=l:=ar (by omega);rw[this]at hv
   by_cases h6:l.length≤60
   ·have h7:(l.length:Int)≤60:=(by omega);rw[RG ⟨hv.out,h6⟩];simp[h7]
   ·have h7:¬(l.length:Int)≤60:=(by omega);rw[LM (fun q=>h6 q.2)];simp[h7]
def Zu:cx.ft.get 86=some Tryz.f86:=aO
def zJl:cx.ft.get 92=some Tryz.f92:=aO
def zO4:cx.ft.get 136=some Tryz.f136:=aO
def zOb (l m:List bB)(hl:l.length≤1000000000)(hm:m.length≤1000000000)(hp:∀a∈l,∀b∈m,aM 92 [.agg a.cs,.agg b.cs] (.bool (fP a b))):aM 136 [.fz 4 false (mR l),.fz 4 false (mR m),.func 92 [] []] (.bool (pj l m)):=by
 refine aB.mk fun h nx R hR=>aP zO4 (sz:=32) (rs:=[.tmp 6]) ?_
 by_cases hlen:l.length=m.length
 ·simp[go_sem,hlen];refine bF (fun mm st=>∃tm h' ax k,st=.mk tm h' ax []∧mm=m.length-k∧k≤m.length∧tm.get 1=some (.fz 4 false (mR m))∧tm.get 2=some (.func 92 [] [])∧tm.get 15=some (.fz 4 false (mR l))∧tm.get 16=some (.int .i64 (m.length:Int))∧tm.get 17=some (.int .i64 (k:Int))∧az nx h h'∧nx≤ax∧RowKit.Hid (pj l m=pj (l.drop k) (m.drop k))) ⟨m.length,_,_,_,0,rfl,by simp,by simp,?_⟩ ?_
  ·simp[go_sem];exact⟨az.refl _ _,Lib.hid trivial⟩
  ·rintro mm st ⟨tm,h',ax,k,rfl,rfl,hk,t1,t2,t15,t16,t17,he,hn,hv⟩ J hJ
   refine bl ?_
   by_cases ay:k<m.length
   ·have cv:k<l.length:=(by omega);have HD:=Lib.hid (show pj (l.drop k) (m.drop k)=(fP l[k] m[k] && pj (l.drop (k+1)) (m.drop (k+1))) by
     rw[aj ay,aj cv,pj])
    simp[go_sem,t1,t2,t15,t16,t17,ay,cv];refine aB.use (hp _ (ah cv) _ (ah ay)) ?_
    by_cases hs:fP l[k] m[k]=true
    ·simp[go_sem,aA,t1,t2,t15,t16,t17,hs];refine hJ (m.length-(k+1)) _ (by omega) ⟨_,_,_,k+1,rfl,rfl,by omega,?_⟩;simp(disch:=omega) [go_sem,t1,t2,t15,t16,t17,aS];have hd:=HD.out;rw[hs,Bool.true_and]at hd;refine⟨((((he.put (by omega) _).put (by omega) _).put (by omega) _).put (by omega) _),by omega,Lib.hid (by rw[hv.out,hd])⟩
    ·have jJ:fP l[k] m[k]=false:=by simpa using hs
     simp[go_sem,aA,t1,t2,t15,t16,t17,jJ];refine hR _ _ _ ((((he.put (by omega) _).put (by omega) _).put (by omega) _).put (by omega) _) (Fz.eq rfl ?_);rw[hv.out,HD.out,jJ,Bool.false_and]
   ·simp[go_sem,t1,t2,t15,t16,t17,ay];refine hR _ _ _ he (Fz.eq rfl ?_);rw[hv.out,al (by omega),al (by omega),pj]
 ·have hi:¬(l.length:Int)=(m.length:Int):=by omega
  simp[go_sem,hlen,hi];refine hR _ _ _ (az.refl _ _) (Fz.eq rfl ?_);rw[zvp hlen]
def bB.size_mem {a:bB}:∀{l:List bB},a∈l→a.size≤iv l
 |b::l,h=>by
  simp only[iv]
  rcases List.mem_cons.1 h with h |h
  ·subst h;omega
  ·have:=bB.size_mem h;omega
def QX (n:Nat):∀(a b:bB),a.size≤n→n≤1000000000→b.size≤1000000000→aM 92 [.agg a.cs,.agg b.cs] (.bool (fP a b)):=by
 induction n with
 |zero=>intro a b ha;cases a;simp[bB.size]at ha
 |succ n ih=>
 rintro⟨o,nm,d,k⟩ ⟨o',nm',d',k'⟩ ha hn hb
 simp only[bB.size]at ha hb;have l1:=QC k;have l2:=QC k';have hc:=zOb k k' (by omega) (by omega) (fun x hx y hy=>ih x y (by have:=bB.size_mem hx;omega) (by omega) (by have:=bB.size_mem hy;omega));refine aB.mk fun h nx R hR=>aP zJl (sz:=31) (rs:=[.tmp 4]) ?_;simp +contextual -implicitDefEqProofs[go_sem,bB.cs];refine zK0 (fid:=136) (first:=[]) (cap:=[]) (l:=[.fz 4 false (mR k),.fz 4 false (mR k'),.func 92 [] []]) (by simp[go_sem]) ?_ hc ?_
 ·simp +contextual [go_sem]
 simp +contextual [go_sem,cW];refine hR _ _ _ (((az.refl nx h).put (ae _) _).put (by omega) _) (Fz.eq rfl ?_);simp[fP]
structure Pv where
 id:ByteArray
 rank:Int
 kind:Int
 name:ByteArray
 value:Int
 when_:Fm
 except:List ByteArray
 begin_:bB
 end_:bB
 again:bB
def Pv.cs (p:Pv):List AV:=[.bs p.id,.int .i64 p.rank,.int .i64 p.kind,.bs p.name,.int .i64 p.value]++(p.when_.cs++([.fz 1 false (bp p.except)]++(p.begin_.cs++(p.end_.cs++p.again.cs))))
def zIt:cx.ft.get 44=some Tryz.f44:=aO
def zKw (a b:Pv)(v:AV)(ha:a.begin_.size≤1000000000∧a.end_.size≤1000000000∧a.again.size≤1000000000)(hb:b.begin_.size≤1000000000∧b.end_.size≤1000000000∧b.again.size≤1000000000):aM 44 [.ip (a.cs++(b.cs++[v]))] (.tup [.bool (!(fP a.begin_ b.begin_ && fP a.end_ b.end_ && fP a.again b.again)),.sl0,.int .i64 0]):=by
 have c1:=QX 1000000000 a.begin_ b.begin_ ha.1 (ae _) hb.1;have c2:=QX 1000000000 a.end_ b.end_ ha.2.1 (ae _) hb.2.1;have c3:=QX 1000000000 a.again b.again ha.2.2 (ae _) hb.2.2
 rcases a with⟨id,rank,kind,name,value,⟨w1,w2,w3,w4,w5⟩,ex,⟨b1,b2,b3,b4⟩,⟨e1,e2,e3,e4⟩,⟨g1,g2,g3,g4⟩⟩
 rcases b with⟨iD,jf,jc,jd,fw,⟨qh,Hb,Hc,Hd,He⟩,qA,⟨yd,rK,Cv,ye⟩,⟨jF,pF,sN,qz⟩,⟨CH,CI,CJ,CM⟩⟩
 dsimp only at c1 c2 c3 ⊢
 generalize A7:fP (.mk b1 b2 b3 b4) (.mk yd rK Cv ye)=s1 at c1 ⊢;generalize ku:fP (.mk e1 e2 e3 e4) (.mk jF pF sN qz)=s2 at c2 ⊢;generalize Vp:fP (.mk g1 g2 g3 g4) (.mk CH CI CJ CM)=s3 at c3 ⊢;simp only[bB.cs]at c1 c2 c3;refine aB.mk fun h nx R hR=>aP zIt (sz:=45) (rs:=[.tmp 2,.tmp 3,.tmp 4]) ?_;simp[go_sem];refine eI [] [10,22,35] [] ?_;simp[go_sem,Pv.cs,Fm.cs,bB.cs];refine dV c1 ?_;have fin:∀x:Bool,x=!(s1 && s2 && s3)→R (.tup [.bool x,.sl0,.int .i64 0]) h nx:=fun x hx=>hR _ _ _ (az.refl _ _) (Fz.eq rfl (by rw[hx]));cases s1
 ·simp[go_sem,cW];exact fin _ (by simp)
 ·simp[go_sem,cW];refine dV c2 ?_;cases s2
  ·simp[go_sem,cW];exact fin _ (by simp)
  ·simp[go_sem,cW];refine dV c3 ?_;cases s3
   ·simp[go_sem,cW];exact fin _ (by simp)
   ·simp[go_sem,cW];exact fin _ (by simp)
def aG (l:List Int):List AV:=l.map (.int .i64)
@[go_sem] theorem Kk (l:List Int):(aG l).length=l.length:=by simp[aG]
@[go_sem] theorem zYa (l:List Int) (k:Nat)(hk:k<(aG l).length):(aG l)[k]=.int .i64 (l[k]'(by simpa[aG]using hk)):=by simp[aG]
def zIs:cx.ft.get 20=some Tryz.f20:=aO
def Z7 (u v:Bool)(l m:List Int)(hl:l.length≤1000000000):aM 20 [.fz 1 u (aG l),.fz 1 v (aG m)] (.bool (decide (l=m))):=by
 refine aB.mk fun h nx R hR=>aP zIs (sz:=26) (rs:=[.tmp 4]) ?_
 by_cases hlen:l.length=m.length
 ·simp[go_sem,hlen];refine bF (fun mm st=>∃tm k,st=.mk tm h nx []∧mm=l.length-k∧k≤l.length∧tm.get 0=some (.fz 1 u (aG l))∧tm.get 1=some (.fz 1 v (aG m))∧tm.get 5=some (.int .i64 (k:Int))∧RowKit.Hid (l.take k=m.take k)) ⟨l.length,_,0,rfl,by simp,by simp,?_⟩ ?_
  ·simp[go_sem];exact Lib.hid trivial
  ·rintro mm st ⟨tm,k,rfl,rfl,hk,t0,t1,t5,hv⟩ J hJ
   refine bl ?_
   by_cases ay:k<l.length
   ·have cv:k<m.length:=(by omega);simp[go_sem,t0,t1,t5,ay,cv];refine eI [] [] [] ?_;simp[go_sem,t0,t1,t5,ay,cv];refine zG (fun hb=>?_) (fun hb=>?_)
    ·simp at hb;simp[go_sem];refine hR _ _ _ (az.refl _ _) (Fz.eq rfl ?_);have:¬l=m:=fun e=>hb (by subst e;rfl);simp[this]
    ·simp at hb;simp[go_sem,t0,t1,t5];refine hJ (l.length-(k+1)) _ (by omega) ⟨_,k+1,rfl,rfl,by omega,?_⟩;simp(disch:=omega) [go_sem,t0,t1,t5,aS];refine Lib.hid ?_;rw[List.take_succ_eq_append_getElem ay,List.take_succ_eq_append_getElem cv,hv.out,hb]
   ·have:=hv.out;rw[ar (by omega),ar (by omega)]at this;simp[go_sem,t0,t1,t5,ay];refine hR _ _ _ (az.refl _ _) (Fz.eq rfl ?_);simp[this]
 ·have hi:¬(l.length:Int)=(m.length:Int):=by omega
  simp[go_sem,hlen,hi];refine hR _ _ _ (az.refl _ _) (Fz.eq rfl ?_);have:¬l=m:=fun e=>hlen (by rw[e]);simp[this]
def zMg:cx.ft.get 114=some Tryz.f114:=aO
def zR8 (b:Nat):∀(f:Fm) (m:Nat),f.size≤b→m≤1000000000→aM 114 [.agg f.cs,.int .i64 (m:Int)] (.int .i64 ((min f.size (m+1):Nat):Int)):=by
 induction b with
 |zero=>intro f m hf;cases f;simp[Fm.size]at hf
 |succ b ih=>
 rintro⟨o,nm,cm,n,kids⟩ m hf hm
 simp only[Fm.size]at hf ⊢;refine aB.mk fun h nx R hR=>aP zMg (sz:=31) (rs:=[.tmp 4]) ?_;simp[go_sem,Fm.cs];refine bF (fun mm st=>∃tm h' ax k z,st=.mk tm h' ax []∧mm=kids.length-k∧k≤kids.length∧k≤z∧tm.get 1=some (.int .i64 (m:Int))∧tm.get 2=some (.ptr nx 0)∧tm.get 5=some (.int .i64 (z:Int))∧tm.get 6=some (.int .i64 (k:Int))∧RowKit.Hid (z=min (1+bd (kids.take k)) (m+1))∧h'.get nx=some (bx 24 [.int .i64 o,.bs nm,.int .i64 cm,.int .i64 n,.fz 5 false (bU kids)] false 0)∧az nx h h'∧nx<ax) ⟨kids.length,_,_,_,0,1,rfl,by simp,by simp,by simp,?_⟩ ?_
 ·simp[go_sem,bd];exact⟨Lib.hid (by first |trivial |omega |(simp[Nat.min_def])),(az.refl nx h).put (ae _) _⟩
 ·rintro mm st ⟨tm,h',ax,k,z,rfl,rfl,hk,hz,t1,t2,t5,t6,hv,g0,he,hn⟩ J hJ
  refine bl ?_;have fu:=hv.out
  by_cases ay:k<kids.length
  ·by_cases Be:z≤m
   ·obtain⟨s1,s2,s3⟩:=nX ay;have e1:IntKind.i64.wrap ((m:Int)-(z:Int))=((m-z:Nat):Int):=by rw[aS _ (by omega) (by omega)];omega
    simp[go_sem,t1,t2,t5,t6,g0,ay,Be,e1];refine aB.use (ih _ (m-z) (by omega) (by omega)) ?_;simp[go_sem,aA,t1,t2,t5,t6,g0,ay,Be];have cM:=size_pos kids[k];refine hJ (kids.length-(k+1)) _ (by omega) ⟨_,_,_,k+1,z+min kids[k].size (m-z+1),rfl,rfl,by omega,by omega,?_⟩;simp(disch:=omega) [go_sem,t1,t2,t5,t6,aS];exact⟨Lib.hid (by omega),g0,he,hn⟩
   ·simp[go_sem,t1,t2,t5,t6,g0,ay,Be];refine hR _ _ _ he (Fz.eq rfl ?_);have h2:bd kids=bd (kids.take k)+bd (kids.drop k):=by rw[← L6,List.take_append_drop]
    congr 1
    omega
  ·simp[go_sem,t1,t2,t5,t6,g0,ay];refine hR _ _ _ he (Fz.eq rfl ?_);rw[ar (by omega)]at fu
   congr 1
   omega
def LX (l m:List bB):iv (l++m)=iv l+iv m:=by
 induction l with
 |nil=>simp[iv]
 |cons f l ih=>simp[iv,ih];omega
def zK8 {l:List bB}{k:Nat}(hk:k<l.length):iv (l.take (k+1))=iv (l.take k)+(l[k]).size∧iv (l.take k)+(l[k]).size≤iv l:=by
 have h1:l.take (k+1)=l.take k++[l[k]]:=List.take_succ_eq_append_getElem hk;have h2:iv l=iv (l.take (k+1))+iv (l.drop (k+1)):=by rw[← LX,List.take_append_drop]
 rw[h1,LX]at h2;rw[h1,LX];simp only[iv,Nat.add_zero]at h2 ⊢;exact⟨trivial,by omega⟩
def zLq:cx.ft.get 58=some Tryz.f58:=aO
def zHi:cx.ft.get 57=some Tryz.f57:=aO
def Ru (b:Nat):∀(f:bB) (m:Nat),f.size≤b→m≤1000000000→aM 58 [.agg f.cs,.int .i64 (m:Int)] (.int .i64 ((min f.size (m+1):Nat):Int)):=by
 induction b with
 |zero=>intro f m hf;cases f;simp[bB.size]at hf
 |succ b ih=>
 rintro⟨o,nm,cm,kids⟩ m hf hm
 simp only[bB.size]at hf ⊢;refine aB.mk fun h nx R hR=>aP zLq (sz:=31) (rs:=[.tmp 4]) ?_;simp[go_sem,bB.cs];refine bF (fun mm st=>∃tm h' ax k z,st=.mk tm h' ax []∧mm=kids.length-k∧k≤kids.length∧k≤z∧tm.get 1=some (.int .i64 (m:Int))∧tm.get 2=some (.ptr nx 0)∧tm.get 5=some (.int .i64 (z:Int))∧tm.get 6=some (.int .i64 (k:Int))∧RowKit.Hid (z=min (1+iv (kids.take k)) (m+1))∧h'.get nx=some (bx 28 [.int .i64 o,.bs nm,.int .i64 cm,.fz 4 false (mR kids)] false 0)∧az nx h h'∧nx<ax) ⟨kids.length,_,_,_,0,1,rfl,by simp,by simp,by simp,?_⟩ ?_
 ·simp[go_sem,iv];exact⟨Lib.hid (by first |trivial |omega |(simp[Nat.min_def])),(az.refl nx h).put (ae _) _⟩
 ·rintro mm st ⟨tm,h',ax,k,z,rfl,rfl,hk,hz,t1,t2,t5,t6,hv,g0,he,hn⟩ J hJ
  refine bl ?_;have fu:=hv.out
  by_cases ay:k<kids.length
  ·by_cases Be:z≤m
   ·obtain⟨s1,s3⟩:=zK8 ay;have e1:IntKind.i64.wrap ((m:Int)-(z:Int))=((m-z:Nat):Int):=by rw[aS _ (by omega) (by omega)];omega
    simp[go_sem,t1,t2,t5,t6,g0,ay,Be,e1];refine aB.use (ih _ (m-z) (by omega) (by omega)) ?_;simp[go_sem,aA,t1,t2,t5,t6,g0,ay,Be];have cM:=bB.size_pos kids[k];refine hJ (kids.length-(k+1)) _ (by omega) ⟨_,_,_,k+1,z+min kids[k].size (m-z+1),rfl,rfl,by omega,by omega,?_⟩;simp(disch:=omega) [go_sem,t1,t2,t5,t6,aS];exact⟨Lib.hid (by omega),g0,he,hn⟩
   ·simp[go_sem,t1,t2,t5,t6,g0,ay,Be];refine hR _ _ _ he (Fz.eq rfl ?_);have h2:iv kids=iv (kids.take k)+iv (kids.drop k):=by rw[← LX,List.take_append_drop]
    congr 1
    omega
  ·simp[go_sem,t1,t2,t5,t6,g0,ay];refine hR _ _ _ he (Fz.eq rfl ?_);rw[ar (by omega)]at fu
   congr 1
   omega
def zJz (f:Fm) (m:Nat)(hm:m≤1000000000):aM 57 [.agg f.cs,.int .i64 (m:Int)] (.bool (decide (f.size≤m))):=by
 refine aB.mk fun h nx R hR=>aP zHi (sz:=10) (rs:=[.tmp 4]) ?_;simp[go_sem];refine aB.use (zR8 f.size f m (ae _) hm) ?_;simp[go_sem,aA];refine hR _ _ _ ((az.refl nx h).put (ae _) _) (Fz.eq rfl ?_)
 congr 1
 by_cases e:f.size≤m
 ·simp[e];omega
 ·simp[e];omega
def zL6:cx.ft.get 29=some Tryz.f29:=aO
def yW (l:List Fc) (m:Nat):Prop:=l.length≤m∧∀i (h:i<l.length),(l[i]).name.size≤100
open Classical in
def zIv (full:Bool)(l:List Fc) (m:Nat)(hm:m≤1000000000):aM 29 [.agg [.fz 4 full (aN l)],.int .i64 (m:Int)] (.bool (decide (yW l m))):=by
 refine aB.mk fun h nx R hR=>aP zL6 (sz:=31) (rs:=[.tmp 4]) ?_;simp[go_sem];obtain⟨H,hH⟩:∃H,H=h.put nx (some (bx 35 [.fz 4 full (aN l)] false 0)):=⟨_,rfl⟩;have g0:H.get nx=some (bx 35 [.fz 4 full (aN l)] false 0):=by rw[hH];simp[go_sem]
 have he:az nx h H:=by rw[hH];exact(az.refl nx h).put (ae _) _
 rw[← hH];clear hH;refine bF (fun mm st=>∃tm k,st=.mk tm H (nx+1) []∧mm=m-k∧k≤l.length∧k≤m∧tm.get 1=some (.int .i64 (m:Int))∧tm.get 2=some (.ptr nx 0)∧tm.get 5=some (.int .i64 (k:Int))∧RowKit.Hid (∀i (h:i<l.length),i<k→(l[i]).name.size≤100)) ⟨m,_,0,rfl,by simp,by simp,by simp,?_⟩ ?_
 ·simp[go_sem];exact Lib.hid trivial
 ·rintro mm st ⟨tm,k,rfl,rfl,hk,uY,t1,t2,t5,hv⟩ J hJ
  refine bl ?_
  by_cases ay:k<l.length
  ·by_cases tD:k<m
   ·obtain⟨f,hf⟩:∃f,l[k]=f:=⟨_,rfl⟩;simp[go_sem,t1,t2,t5,g0,ay,tD,hf,Fc.cs];refine zG (fun hb=>?_) (fun hb=>?_)
    ·simp at hb;simp[go_sem];refine hR _ _ _ he (Fz.eq rfl ?_);have:¬yW l m:=fun q=>by have:=q.2 k ay;rw[hf]at this;omega
     simp[this]
    ·simp at hb;simp[go_sem,t1,t2,t5,g0];refine hJ (m-(k+1)) _ (by omega) ⟨_,k+1,rfl,rfl,by omega,by omega,?_⟩;simp(disch:=omega) [go_sem,t1,t2,t5,aS];refine Lib.hid (fun i h hi=>?_)
     by_cases e:i=k
     ·subst e;rw[hf];omega
     ·exact hv.out i h (by omega)
   ·simp[go_sem,t1,t2,t5,g0,ay,tD];refine hR _ _ _ he (Fz.eq rfl ?_);have:¬yW l m:=fun q=>by have:=q.1;omega
    have h2:¬(l.length:Int)≤(m:Int):=(by omega);simp[this,h2]
    try omega
  ·simp[go_sem,t1,t2,t5,g0,ay];refine hR _ _ _ he (Fz.eq rfl ?_);have:yW l m:=⟨by omega,fun i h=>hv.out i h (by omega)⟩;simp[this]
   try omega
def zHs:cx.ft.get 28=some Tryz.f28:=aO
def rY (p:Pv) (m:Nat):Prop:=(p.except.length≤30∧∀i (h:i<p.except.length),(p.except[i]).size≤60)∧p.when_.size≤m∧p.begin_.size≤m∧p.end_.size≤m∧p.again.size≤m
open Classical in
def zMw (p:Pv) (m:Nat)(hm:m≤1000000000):aM 28 [.agg p.cs,.int .i64 (m:Int)] (.bool (decide (rY p m))):=by
 have cw:=zJz p.when_ m hm;have c1:=Ru _ p.begin_ m (ae _) hm;have c2:=Ru _ p.end_ m (ae _) hm;have c3:=Ru _ p.again m (ae _) hm;obtain⟨Q,hQ⟩:∃Q,Q=rY p m:=⟨_,rfl⟩;rw[← hQ];unfold rY at hQ
 rcases p with⟨id,rank,kind,name,value,⟨w1,w2,w3,w4,w5⟩,ex,⟨b1,b2,b3,b4⟩,⟨e1,e2,e3,e4⟩,⟨g1,g2,g3,g4⟩⟩
 dsimp only at cw c1 c2 c3 hQ ⊢
 generalize (Fm.mk w1 w2 w3 w4 w5).size=sw at cw hQ;generalize (bB.mk b1 b2 b3 b4).size=s1 at c1 hQ;generalize (bB.mk e1 e2 e3 e4).size=s2 at c2 hQ;generalize (bB.mk g1 g2 g3 g4).size=s3 at c3 hQ;simp only[bB.cs,Fm.cs]at cw c1 c2 c3;refine aB.mk fun h nx R hR=>aP zHs (sz:=58) (rs:=[.tmp 4]) ?_;simp[go_sem,Pv.cs,Fm.cs,bB.cs];generalize hB:bx 30 _ false 0=B;have fin:∀(H:Tr ABlk) (ny:Nat) (x:Bool),az nx h H→(x=true↔Q)→R (.bool x) H ny:=fun H ny x he hx=>hR _ _ _ he (Fz.eq rfl (by congr 1;by_cases q:Q <;> simp[q]at hx ⊢ <;> exact hx));refine bF (fun mm st=>∃tm k,st=.mk tm (h.put nx (some B)) (nx+1) []∧mm=30-k∧k≤ex.length∧k≤30∧tm.get 1=some (.int .i64 (m:Int))∧tm.get 2=some (.ptr nx 0)∧tm.get 5=some (.int .i64 (k:Int))∧RowKit.Hid (∀i (h:i<ex.length),i<k→(ex[i]).size≤60)) ⟨30,_,0,rfl,by simp,by simp,by simp,?_⟩ ?_
 ·simp[go_sem];exact Lib.hid trivial
 ·rintro mm st ⟨tm,k,rfl,rfl,hk,uY,t1,t2,t5,hv⟩ J hJ
  refine bl ?_;have he:az nx h (h.put nx (some B)):=(az.refl nx h).put (ae _) _;subst hB
  by_cases ay:k<ex.length
  ·by_cases tD:k<30
   ·have AL:(k:Int)<30:=(by omega);simp[go_sem,t1,t2,t5,ay,AL];refine zG (fun hb=>?_) (fun hb=>?_)
    ·simp at hb;simp[go_sem];refine fin _ _ _ he ?_;rw[hQ];simp;intro q1 q2;have:=q2 k ay;omega
    ·simp at hb;simp[go_sem,t1,t2,t5];refine hJ (30-(k+1)) _ (by omega) ⟨_,k+1,rfl,rfl,by omega,by omega,?_⟩;simp(disch:=omega) [go_sem,t1,t2,t5,aS];refine Lib.hid (fun i h hi=>?_)
     by_cases e:i=k
     ·subst e;omega
     ·exact hv.out i h (by omega)
   ·have MT:¬(ex.length:Int)≤30:=(by omega);have AL:¬(k:Int)<30:=(by omega);simp[go_sem,t1,t2,t5,ay,AL,MT];refine fin _ _ _ he ?_;rw[hQ];simp;intro q1;omega
  ·have MT:(ex.length:Int)≤30:=(by omega);have aQ:ex.length≤30∧∀i (h:i<ex.length),(ex[i]).size≤60:=⟨by omega,fun i h=>hv.out i h (by omega)⟩;have Fs:Q↔sw≤m∧s1≤m∧s2≤m∧s3≤m:=by rw[hQ];exact⟨fun q=>q.2,fun q=>⟨aQ,q⟩⟩
   have HQ:=Lib.hid Fs;clear Fs hQ aQ;simp[go_sem,t1,t2,t5,ay,MT];refine aB.use cw ?_
   by_cases d0:sw≤m
   ·simp[go_sem,aA,t1,t2,t5,d0];refine aB.use c1 ?_
    by_cases d1:min s1 (m+1)≤m
    ·simp[go_sem,aA,t1,t2,t5,d0,d1];refine aB.use c2 ?_
     by_cases d2:min s2 (m+1)≤m
     ·simp[go_sem,aA,t1,t2,t5,d0,d1,d2];refine aB.use c3 ?_
      by_cases d3:min s3 (m+1)≤m
      ·simp[go_sem,aA,t1,t2,t5,d0,d1,d2,d3];refine fin _ _ _ he ?_;rw[HQ.out];simp only[true_iff];omega
      ·simp[go_sem,aA,t1,t2,t5,d0,d1,d2,d3];refine fin _ _ _ he ?_;rw[HQ.out];simp only[Bool.false_eq_true,false_iff];omega
     ·simp[go_sem,aA,t1,t2,t5,d0,d1,d2];refine fin _ _ _ he ?_;rw[HQ.out];simp only[Bool.false_eq_true,false_iff];omega
    ·simp[go_sem,aA,t1,t2,t5,d0,d1];refine fin _ _ _ he ?_;rw[HQ.out];simp only[Bool.false_eq_true,false_iff];omega
   ·simp[go_sem,aA,t1,t2,t5,d0];refine fin _ _ _ he ?_;rw[HQ.out];simp[d0]
def vL (l:List Pv):List AV:=l.map fun p=>.agg p.cs
@[go_sem] theorem zWd (l:List Pv):(vL l).length=l.length:=by simp[vL]
@[go_sem] theorem zVz (l:List Pv) (k:Nat)(hk:k<(vL l).length):(vL l)[k]=.agg (l[k]'(by simpa[vL]using hk)).cs:=by simp[vL]
@[go_sem] theorem Pv.cs_len (p:Pv):p.cs.length=23:=by simp[Pv.cs,Fm.cs_len,bB.cs_len]
@[go_sem] theorem Pv.cs_take (p:Pv):p.cs.take 23=p.cs:=ar (by simp[Pv.cs_len])
def ft9:cx.ft.get 9=some Tryz.f9:=aO
open Classical in
def zu2 (u v:Bool)(l:List Fc)(ps:List Pv)(hp:ps.length≤1000000000):aM 9 [.agg [.fz 4 u (aN l)],.fz 23 v (vL ps)] (.bool (decide ((∀i (h:i<ps.length),rY ps[i] 40)∧yW l 8))):=by
 refine aB.mk fun h nx R hR=>aP ft9 (sz:=20) (rs:=[.tmp 4]) ?_;simp[go_sem];refine bF (fun mm st=>∃tm k,st=.mk tm (h.put nx (some (bx 35 [.fz 4 u (aN l)] false 0))) (nx+1) []∧mm=ps.length-k∧k≤ps.length∧tm.get 1=some (.fz 23 v (vL ps))∧tm.get 2=some (.ptr nx 0)∧tm.get 5=some (.int .i64 (k:Int))∧RowKit.Hid (∀i (h:i<ps.length),i<k→rY ps[i] 40)) ⟨ps.length,_,0,rfl,by simp,by simp,?_⟩ ?_
 ·simp[go_sem];exact Lib.hid trivial
 ·rintro mm st ⟨tm,k,rfl,rfl,hk,t1,t2,t5,hv⟩ J hJ
  refine bl ?_;have he:az nx h (h.put nx (some (bx 35 [.fz 4 u (aN l)] false 0))):=(az.refl nx h).put (ae _) _
  by_cases ay:k<ps.length
  ·simp[go_sem,t1,t2,t5,ay];refine aB.use (zMw ps[k] 40 (by omega)) ?_
   by_cases hq:rY ps[k] 40
   ·simp[go_sem,aA,t1,t2,t5,hq];refine hJ (ps.length-(k+1)) _ (by omega) ⟨_,k+1,rfl,rfl,by omega,?_⟩;simp(disch:=omega) [go_sem,t1,t2,t5,aS];refine Lib.hid (fun i h hi=>?_)
    by_cases e:i=k
    ·subst e;exact hq
    ·exact hv.out i h (by omega)
   ·simp[go_sem,aA,t1,t2,t5,hq];refine hR _ _ _ he (Fz.eq rfl ?_)
    congr 1
    symm
    exact decide_eq_false (fun q=>hq (q.1 k ay))
  ·simp[go_sem,t1,t2,t5,ay];refine aB.use (zIv u l 8 (by omega)) ?_;simp[go_sem,aA];refine hR _ _ _ he (Fz.eq rfl ?_)
   congr 1
   have aQ:∀i (h:i<ps.length),rY ps[i] 40:=fun i h=>hv.out i h (by omega)
   by_cases q:yW l 8
   ·rw[decide_eq_true q,decide_eq_true ⟨aQ,q⟩]
   ·rw[decide_eq_false q,decide_eq_false (fun x=>q x.2)]
end
section
variable {P : Program} {c : Cx} {σ τ υ : Sg} {h g f : Tr ABlk} {nx ny nz sz : Nat} {ds : List DE} {w x y : World} {tm : Tr AV} {a : Act} {G : Gl}
mutual
inductive Fy (g:Tr ABlk) (F:Nat→Prop):AV→AV→Prop
 |same (v:AV):Fy g F v v
 |agg (l m:List AV):dJ g F l m→Fy g F (.agg l) (.agg m)
 |tup (l m:List AV):dJ g F l m→Fy g F (.tup l) (.tup m)
 |iface (t:TypeId) (v u:AV):Fy g F v u→Fy g F (.iface t v) (.iface t u)
 |func (fn:FuncId) (l m l' m':List AV):dJ g F l m→dJ g F l' m'→Fy g F (.func fn l l') (.func fn m m')
 |pin (i o e n:Nat) (c:Tr AV) (opn:Bool) (esz:Nat) (cs ds:List AV):F i→g.get i=some (.cells e n c opn esz)→o+cs.length≤n→(∀j,j<cs.length→c.get (o+j)=cs[j]?)→dJ g F cs ds→Fy g F (.ptr i o) (.ip ds)
 |slz (i o len cp:Nat) (op:Bool) (e n:Nat) (c:Tr AV) (opn:Bool) (esz es:Nat) (cs ds xs:List AV):F i→g.get i=some (.cells e n c opn esz)→o+cs.length≤n→(∀j,j<cs.length→c.get (o+j)=cs[j]?)→dJ g F cs ds→rD es xs ds→xs.length=len→Fy g F (.sl i o len cp op) (.fz es false xs)
inductive dJ (g:Tr ABlk) (F:Nat→Prop):List AV→List AV→Prop
 |nil:dJ g F [] []
 |cons (v u:AV) (l m:List AV):Fy g F v u→dJ g F l m→dJ g F (v::l) (u::m)
end
def dJ.same {F:Nat→Prop}:∀l:List AV,dJ g F l l
 |[]=>.nil
 |v::l=>.cons _ _ _ _ (.same v) (dJ.same l)
open Classical in
def Sg.fry (σ:Sg)(x:World)(g:Tr ABlk)(F:Nat→Prop):Sg where
 blk:=σ.blk
 cap:=σ.cap
 opq:=σ.opq
 imm:=fun b=>match σ.imm b with
  |some C=>some C
  |none=>if ∃i e n c opn esz,F i∧g.get i=some (.cells e n c opn esz)∧σ.blk i=some b then (match x.heap[b]? with |some (.cells C _ _)=>some C.toList |_=>none) else none
def Sg.fry_le (σ:Sg)(x:World)(g:Tr ABlk)(F:Nat→Prop):σ.Le (σ.fry x g F):=
 ⟨fun _ _ h=>⟨h,rfl⟩,rfl,fun b C h=>by simp only[Sg.fry];rw[h]⟩
def Tg (hk:Ok G σ h nx w){F:Nat→Prop}{i e n esz b:Nat}{c:Tr AV}{opn:Bool}(hn:F i)(hg:h.get i=some (.cells e n c opn esz))(hb:σ.blk i=some b):
  ∃C fr,w.heap[b]?=some (.cells C e fr)∧(σ.fry w h F).imm b=some C.toList∧∀k,k<n→∃v V,c.get k=some v∧C[k]?=some V∧av σ v V:=by
 obtain⟨b',C,fr,aV,aE,aJ,_,_⟩:=hk.cells hg;rw[hb]at aV;cases aV;refine⟨C,fr,aE,?_,aJ⟩;have gE:σ.imm b=none:=by
  cases hi:σ.imm b with
  |none=>rfl
  |some D=>exact absurd hb ((hk.imm b D hi).2 i _ hg)
 show (match σ.imm b with |some C=>some C |none=>_)=_;rw[gE];simp only;rw[if_pos ⟨i,e,n,c,opn,esz,hn,hg,hb⟩,aE]
mutual
def Fy.rel (hk:Ok G σ h nx w){F:Nat→Prop}:∀{v u:AV},Fy h F v u→∀V,av σ v V→av (σ.fry w h F) u V
 |_,_,.same v,V,h=>h.mono (Sg.fry_le _ _ _ _)
 |_,_,.agg l m hl,V,h=>by
  simp only[av]at h ⊢;obtain⟨L,e,h1⟩:=h;exact⟨L,e,dJ.rel hk hl L h1⟩
 |_,_,.tup l m hl,V,h=>by
  simp only[av]at h ⊢;obtain⟨L,e,h1⟩:=h;exact⟨L,e,dJ.rel hk hl L h1⟩
 |_,_,.iface t v u hu,V,h=>by
  simp only[av]at h ⊢;obtain⟨U,e,h1⟩:=h;exact⟨U,e,Fy.rel hk hu U h1⟩
 |_,_,.func fn l m l' m' h1 h2,V,h=>by
  simp only[av]at h ⊢;obtain⟨A,C,e,q1,q2⟩:=h;exact⟨A,C,e,dJ.rel hk h1 A q1,dJ.rel hk h2 C q2⟩
 |_,_,.pin i o e n c opn esz cs ds hn hg hle dD hl,V,h=>by
  simp only[av]at h ⊢;obtain⟨b,hb,e1⟩:=h;obtain⟨C,fr,aE,jV,aJ⟩:=Tg hk hn hg hb;obtain⟨L,r1,r2⟩:=LH aJ hle dD;exact⟨b,o,C.toList,L,e1,jV,dJ.rel hk hl L r1,r2⟩
 |_,_,.slz i o len cp op e n c opn esz es cs ds xs hn hg hle dD hl NN hlen,V,h=>by
  simp only[av]at h ⊢;obtain⟨b,hb,e1,dE⟩:=h;obtain⟨C,fr,aE,jV,aJ⟩:=Tg hk hn hg hb;obtain⟨L,r1,r2⟩:=LH aJ hle dD;obtain⟨XS,q1,q2⟩:=NN.rel (dJ.rel hk hl L r1);refine⟨_,_,by rw[hlen];exact e1,by rw[hlen];exact dE,(fun hf=>by cases hf),(fun hf=>by cases hf),fun hx=>⟨b,o,C.toList,XS,rfl,jV,q1,?_⟩⟩;rw[r2]at q2;exact gH.of_take q2
def dJ.rel (hk:Ok G σ h nx w){F:Nat→Prop}:∀{l m:List AV},dJ h F l m→∀L,aC σ l L→aC (σ.fry w h F) m L
 |_,_,.nil,L,h=>by simpa only[aC]using h
 |_,_,.cons v u l m h1 h2,L,h=>by
  simp only[aC]at h ⊢;obtain⟨V,L',e,q1,q2⟩:=h;exact⟨V,L',e,Fy.rel hk h1 V q1,dJ.rel hk h2 L' q2⟩
end
inductive EH (g:Tr ABlk) (F:Nat→Prop):ABlk→ABlk→Prop
 |same (B:ABlk):EH g F B B
 |cells (e n:Nat) (c c':Tr AV) (opn:Bool) (esz:Nat):(∀k,k<n→∀v,c.get k=some v→∃u,c'.get k=some u∧Fy g F v u)→EH g F (.cells e n c opn esz) (.cells e n c' opn esz)
def qw (h:Tr ABlk)(F:Nat→Prop)(tm tm':Tr AV):Prop:=∀t u,tm'.get t=some u→∃v,tm.get t=some v∧Fy h F v u
def qw.refl {F:Nat→Prop}:qw h F tm tm:=fun _ u e=>⟨u,e,.same u⟩
def qw.put {F:Nat→Prop}{tm':Tr AV}(ht:qw h F tm tm'){k:Nat}{v u:AV}(hk:tm.get k=some v)(hu:Fy h F v u):qw h F tm (tm'.put k (some u)):=by
 intro t z e;rw[Tr.get_put]at e;split at e
 ·rename_i e1;cases e;exact⟨v,by rw[e1];exact hk,hu⟩
 ·exact ht t z e
def iG (h:Tr ABlk)(F:Nat→Prop)(h':Tr ABlk):Prop:=∀i B',h'.get i=some B'→¬F i∧∃B,h.get i=some B∧EH h F B B'
def jA (h:Tr ABlk):List Nat→Tr ABlk
 |[]=>h
 |i::l=>(jA h l).put i none
def ze (h:Tr ABlk) (k:Nat):∀l:List Nat,(jA h l).get k=if k∈l then none else h.get k
 |[]=>by simp[jA]
 |i::l=>by
  rw[jA,Tr.get_put,ze h k l]
  by_cases e:k=i
  ·simp[e]
  ·simp[e]
def iG.kill (l:List Nat):iG h (fun i=>i∈l) (jA h l):=by
 intro i B e;rw[ze]at e;split at e
 ·cases e
 ·rename_i hn;exact⟨hn,B,e,.same B⟩
def iG.put {F:Nat→Prop}{h':Tr ABlk}(hh:iG h F h'){i:Nat}{B B':ABlk}(hF:¬F i)(hi:h.get i=some B)(hb:EH h F B B'):iG h F (h'.put i (some B')):=by
 intro k C e;rw[Tr.get_put]at e;split at e
 ·rename_i e1;subst e1;cases e;exact⟨hF,B,hi,hb⟩
 ·exact hh k C e
def Post.fry (hk:Ok G σ h nx w){F:Nat→Prop}{h':Tr ABlk}(hh:iG h F h'):Post G σ h nx w (σ.fry w h F) h' nx w:=by
 have hle:=σ.fry_le w h F;refine⟨⟨hk.glob,hk.le,hk.fresh,fun i j b B B' h1 h2 h3 h4=>?_,fun i B h1=>?_,fun b C hb=>?_,fun i cs hi=>(hk.gl i cs hi).mono hle⟩,hle,⟨rfl,rfl,rfl,ae _,fun _ _ _=>rfl,fun i B b h1 h2=>?_,fun b C hb=>?_⟩,ae _⟩
 ·obtain⟨_,C,g1,_⟩:=hh i B h1;obtain⟨_,C',g2,_⟩:=hh j B' h2;exact hk.inj i j b C C' g1 g2 h3 h4
 ·obtain⟨_,C,g1,g2⟩:=hh i B h1;obtain⟨b,o,q1,q2,q3⟩:=hk.blk i C g1;refine⟨b,o,q1,q2,?_⟩;cases g2 with
  |same=>exact q3.mono hle q1
  |cells e n c c' opn esz hc=>
   simp only[cq]at q3 ⊢;obtain⟨D,fr,e1,h1,h2,h3⟩:=q3;refine⟨D,fr,e1,fun k aW=>?_,h2,h3⟩;obtain⟨v,V,r1,r2,r3⟩:=h1 k aW;obtain⟨u,s1,s2⟩:=hc k aW v r1;exact⟨u,V,s1,r2,s2.rel hk V r3⟩
 ·have jV:(σ.imm b=some C)∨(σ.imm b=none∧∃i e n c opn esz,F i∧h.get i=some (.cells e n c opn esz)∧σ.blk i=some b):=by
   simp only[Sg.fry]at hb;cases hi:σ.imm b with
   |some D=>rw[hi]at hb;exact .inl hb
   |none=>
    rw[hi]at hb;simp only at hb;split at hb
    ·exact .inr ⟨rfl,by assumption⟩
    ·cases hb
  rcases jV with hi |⟨_,i,e,n,c,opn,esz,h1,h2,h3⟩
  ·obtain⟨q1,q2⟩:=hk.imm b C hi;refine⟨q1,fun j B hj e=>?_⟩;obtain⟨_,B0,g1,_⟩:=hh j B hj;exact q2 j B0 g1 e
  ·obtain⟨D,fr,r1,r2,_⟩:=Tg hk h1 h2 h3;rw[hb]at r2;cases r2;refine⟨⟨e,fr,by simpa using r1⟩,fun j B hj e'=>?_⟩;obtain⟨n1,B0,g1,_⟩:=hh j B hj;have:=hk.inj j i b B0 _ g1 h2 e' h3;subst this;exact n1 h1
 ·obtain⟨_,C,g1,_⟩:=hh i B h1;exact .inr ⟨i,C,g1,h2⟩
 ·simp only[Sg.fry]at hb;cases hi:σ.imm b with
  |some D=>rw[hi]at hb;cases hb;exact .inl rfl
  |none=>
   rw[hi]at hb;simp only at hb;split at hb
   ·rename_i hex;obtain⟨i,e,n,c,opn,esz,_,h2,h3⟩:=hex;exact .inr (.inr ⟨i,_,h2,h3⟩)
   ·cases hb
def Co (F:Nat→Prop){inr:Bool}{code:Code}{Q:AX→AS→Prop}{tm':Tr AV}{h':Tr ABlk}(hh:iG h F h')(ht:qw h F tm tm')
  (hw:AW P c inr sz code Q (.mk tm' h' nx ds)):AW P c inr sz code Q (.mk tm h nx ds):=by
 intro r hi σ a w ok st;simp only[AS.h,AS.nx,AS.tm,AS.ds]at ok st;have p:=Post.fry ok hh;have rq:St (σ.fry w h F) tm' a sz ds:=by
  refine⟨fun t u e=>?_,st.size,st.defers.mono p.le⟩;obtain⟨v,e1,e2⟩:=ht t u e;exact e2.rel ok _ (st.tm t v e1)
 exact wpIn_mono (hw r hi _ a w p.ok rq) fun e a' w' q=>AQ.trans p q
def Hu (F:Nat→Prop){fid:FuncId}{args args':List AV}{R:AV→Tr ABlk→Nat→Prop}{h':Tr ABlk}(hh:iG h F h')(ha:dJ h F args args')
  (hw:bf P c fid args' h' nx R):bf P c fid args h nx R:=by
 intro σ w A ok hA;have p:=Post.fry ok hh;refine(hw _ w A p.ok (ha.rel ok A hA)).mono fun V x ⟨τ,v,g,ny,h1,h2,h3⟩=>⟨τ,v,g,ny,h1,p.trans h2,h3⟩
end
section
open Go.Proofs
attribute [-go_sem] dN bX
def zQt:cx.ft.get 135=some Tryz.f135:=aO
def zI3:cx.ft.get 91=some Tryz.f91:=aO
open Classical in
def jk (l:List ByteArray)(x:ByteArray):List ByteArray:=if x∈l then l else l++[x]
def cZ (l:List ByteArray):List ByteArray:=l.foldl jk []
def zKu (l:List ByteArray)(x:ByteArray):cZ (l++[x])=jk (cZ l) x:=by simp[cZ]
def zRh {l:List ByteArray}{x y:ByteArray}:y∈jk l x↔y∈l∨y=x:=by
 unfold jk;split
 ·rename_i h;exact⟨.inl,fun h1=>by rcases h1 with h1 |h1;exact h1;rw[h1];exact h⟩
 ·simp
def vw (y:ByteArray)(l:List ByteArray):y∈cZ l↔y∈l:=by
 have key:∀(l a:List ByteArray),y∈l.foldl jk a↔y∈a∨y∈l:=by
  intro l
  induction l with
  |nil=>intro a;simp
  |cons x l ih=>
   intro a;rw[List.foldl_cons,ih,zRh];simp[or_assoc]
 simpa[cZ]using key l []
def zKj (l:List ByteArray):(cZ l).length≤l.length:=by
 have key:∀(l a:List ByteArray),(l.foldl jk a).length≤a.length+l.length:=by
  intro l
  induction l with
  |nil=>intro a;simp
  |cons x l ih=>
   intro a;rw[List.foldl_cons];have:=ih (jk a x);have h2:(jk a x).length≤a.length+1:=by unfold jk;split <;> simp
   simp;omega
 simpa[cZ]using key l []
def Rm (l:List ByteArray):(cZ l).Nodup:=by
 have key:∀(l a:List ByteArray),a.Nodup→(l.foldl jk a).Nodup:=by
  intro l
  induction l with
  |nil=>intro a h;exact h
  |cons x l ih=>
   intro a h;rw[List.foldl_cons];refine ih _ ?_;unfold jk;split
   ·exact h
   ·rename_i hx;rw[List.nodup_append];exact⟨h,by simp,fun a ha b hb e=>by simp at hb;subst hb;subst e;exact hx ha⟩
 exact key l [] (by simp)
def Sn (l:List ByteArray):∀(n i:Nat),(gV l n)[i]?=(l[i]?).map fun x=>(.bs x,.bool true,n+i):=by
 induction l with
 |nil=>intro n i;simp[gV]
 |cons y l ih=>
  intro n i;cases i with
  |zero=>simp[gV]
  |succ i=>simp[gV,ih,show n+1+i=n+(i+1) by omega]
def Kd {x:ByteArray}:∀{l:List ByteArray}(i:Nat),x∈l→∃j,l[j]?=some x∧sO x l i=some (i+j,.bool true)
 |[],_,h=>by cases h
 |y::l,i,h=>by
  rw[sO]
  by_cases e:x=y
  ·exact⟨0,by simp[e],by simp[e]⟩
  ·rw[if_neg e];have hm:x∈l:=by
    rcases List.mem_cons.1 h with h1 |h1
    ·exact absurd h1 e
    ·exact h1
   obtain⟨j,h1,h2⟩:=Kd (i+1) hm;exact⟨j+1,by simpa using h1,by rw[h2];congr 2;omega⟩
def Tm {x:ByteArray}{l:List ByteArray}{j:Nat}(hj:l[j]?=some x):(gV l 0).modify j (fun e=>match e with |(_,_,n)=>(.bs x,.bool true,n))=gV l 0:=by
 apply List.ext_getElem?;intro i;rw[List.getElem?_modify,Sn]
 by_cases e:j=i
 ·subst e;simp[hj]
 ·simp[e]
def setM (l:List ByteArray):ABlk:=.map (gV (cZ l) 0) (cZ l).length
def Y1 (full:Bool)(l:List ByteArray)(hl:l.length≤1000000000)(h:Tr ABlk) (nx:Nat)(R:AV→Tr ABlk→Nat→Prop)(hR:∀g,az nx h g→g.get nx=some (setM l)→R (.map nx) g (nx+1)):di 135 [.fz 1 full (bp l)] h nx R:=by
 refine aP zQt (sz:=17) (rs:=[.tmp 2]) ?_;simp[go_sem];refine bF (fun mm st=>∃tm h' k,st=.mk tm h' (nx+1) []∧mm=l.length-k∧k≤l.length∧tm.get 3=some (.map nx)∧tm.get 7=some (.fz 1 full (bp l))∧tm.get 8=some (.int .i64 (l.length:Int))∧tm.get 9=some (.int .i64 (k:Int))∧az nx h h'∧h'.get nx=some (.map (gV (cZ (l.take k)) 0) (cZ (l.take k)).length)) ⟨l.length,_,_,0,rfl,by simp,by simp,?_⟩ ?_
 ·simp[go_sem,gV,cZ];exact(az.refl nx h).put (ae _) _
 ·rintro mm st ⟨tm,h',k,rfl,rfl,hk,t3,t7,t8,t9,he,g0⟩ J hJ
  refine bl ?_
  by_cases ay:k<l.length
  ·have ht:cZ (l.take (k+1))=jk (cZ (l.take k)) l[k]:=by rw[List.take_succ_eq_append_getElem ay,zKu]
   by_cases hx:l[k]∈cZ (l.take k)
   ·obtain⟨j,h1,h2⟩:=Kd 0 hx;rw[Nat.zero_add]at h2;have h3:=Tm h1;have Pe:cZ (l.take (k+1))=cZ (l.take k):=by rw[ht,jk,if_pos hx]
    simp[go_sem,t3,t7,t8,t9,ay,g0,h2];refine hJ (l.length-(k+1)) _ (by omega) ⟨_,_,k+1,rfl,rfl,by omega,?_⟩;simp(disch:=omega) [go_sem,t3,t7,t8,t9,aS];refine⟨he.put (ae _) _,?_⟩;rw[Pe];simpa using h3
   ·have Pe:cZ (l.take (k+1))=cZ (l.take k)++[l[k]]:=by rw[ht,jk,if_neg hx]
    simp[go_sem,t3,t7,t8,t9,ay,g0,hx];refine hJ (l.length-(k+1)) _ (by omega) ⟨_,_,k+1,rfl,rfl,by omega,?_⟩;simp(disch:=omega) [go_sem,t3,t7,t8,t9,aS];refine⟨he.put (ae _) _,?_⟩;rw[Pe,← Ip];simp
  ·simp[go_sem,t3,t7,t8,t9,ay];refine hR _ he ?_;rw[g0,ar (by omega)];rfl
def L8 {l:List ByteArray}{e:AV×AV×Nat}:e∈gV l 0↔∃i,∃h:i<l.length,e=(.bs l[i],.bool true,i):=by
 rw[List.mem_iff_getElem?];constructor
 ·rintro⟨i,h⟩
  rw[Sn]at h;cases hi:l[i]? with
  |none=>rw[hi]at h;cases h
  |some x=>
   rw[hi]at h;obtain⟨h1,h2⟩:=List.getElem?_eq_some_iff.1 hi;simp at h;exact⟨i,h1,by rw[← h,h2]⟩
 ·rintro⟨i,h,e⟩
  refine⟨i,?_⟩;rw[Sn,aa h,e];simp
def ZW (l:List ByteArray):∀n,(gV l n).map (fun e=>e.2.2)=(List.range l.length).map (n+·):=by
 induction l with
 |nil=>intro n;rfl
 |cons x l ih=>
  intro n;rw[gV,List.map_cons,ih,List.length_cons,List.range_succ_eq_map];simp[List.map_map];intro a _;omega
def zMm (l:List ByteArray):((gV l 0).map (fun e=>e.2.2)).Nodup:=by
 rw[ZW];simp;exact List.nodup_range
def H3 {α:Type}:∀{s t:List α},s.Nodup→(∀x∈s,x∈t)→s.length≤t.length
 |[],t,_,_=>by simp
 |x::s,t,hn,h=>by
  obtain⟨l1,l2,rfl⟩:=List.append_of_mem (h x aq);rw[List.nodup_cons]at hn;have:=H3 (t:=l1++l2) hn.2 fun y hy=>by
   have h1:=h y (an _ hy);simp only[List.mem_append,List.mem_cons]at h1 ⊢
   rcases h1 with h1 |h1 |h1
   ·exact .inl h1
   ·exact absurd (h1 ▸ hy) hn.1
   ·exact .inr h1
  simp at this ⊢;omega
def zL5 {n:Nat}{s:List Nat}(h1:s.Nodup)(h2:∀b∈s,b<n):s.length≤n:=by
 have:=H3 h1 (t:=List.range n) fun b hb=>List.mem_range.2 (h2 b hb);simpa using this
def zTt {a b:List ByteArray}(h:∀x,x∈a→x∈b):((cZ a).length=(cZ b).length↔∀x,x∈b→x∈a):=by
 have hs:∀x∈cZ a,x∈cZ b:=fun x hx=>(vw x b).2 (h x ((vw x a).1 hx));have s1:=H3 (Rm a) hs;constructor
 ·intro e x hx
  rcases Classical.em (x∈a) with h1 |h1
  ·exact h1
  ·have h2:¬x∈cZ a:=fun q=>h1 ((vw x a).1 q);have:=H3 (s:=x::cZ a) (t:=cZ b) (List.nodup_cons.2 ⟨h2,Rm a⟩) fun y hy=>by
    rcases List.mem_cons.1 hy with h3 |h3
    ·rw[h3];exact(vw x b).2 hx
    ·exact hs y h3
   simp at this;omega
 ·intro h2;have s2:=H3 (Rm b) (t:=cZ a) (fun x hx=>(vw x a).2 (h2 x ((vw x b).1 hx)));omega
def SX (o:Option ABlk)(h:Tr ABlk) (nx:Nat):R:=match o with
 |some (.map es _)=>.val (.int .i64 (es.length:Int)) h nx
 |_=>.fail
@[go_sem] theorem ye8 (k e:TypeId) (s b:Nat)(z:Option AV)(f:List (Nat×Nat×Bool)) (i:Nat)(h:Tr ABlk) (nx:Nat):k8 (.mk (.map k e) s b z f) (.map i) h nx=SX (h.get i) h nx:=by
 unfold k8 SX;simp only;cases h.get i with
 |none=>rfl
 |some B=>cases B <;> simp[vInt,fN_eq]
@[go_sem] theorem ycr (es:List (AV×AV×Nat)) (cl:Nat)(h:Tr ABlk) (nx:Nat):SX (some (.map es cl)) h nx=.val (.int .i64 (es.length:Int)) h nx:=rfl
open Classical in
def zG2 (fa fb:Bool)(a b:List ByteArray)(ha:a.length≤1000000000)(hb:b.length≤1000000000):aM 91 [.fz 1 fa (bp a),.fz 1 fb (bp b)] (.bool (decide (∀x,x∈a↔x∈b))):=by
 refine aB.mk fun h nx R hR=>aP zI3 (sz:=27) (rs:=[.tmp 4]) ?_;simp[go_sem];refine Y1 fa a ha _ _ _ fun g1 e1 m1=>?_;simp[go_sem,aA];refine Y1 fb b hb _ _ _ fun g2 e2 m2=>?_;have VH:g2.get nx=some (setM a):=by rw[e2 nx (by omega)];exact m1
 have E:az nx h g2:=fun k hk=>by rw[e2 k (by omega)];exact e1 k hk
 have la:=zKj a;simp[go_sem,aA];refine⟨nx,_,_,_,_,_,_,_,_,by simp[go_sem],VH,zIx,?_⟩;simp[go_sem,cW];refine bF (fun mm st=>∃tm h' seen cl,st=.mk tm h' (nx+1+1+1) []∧mm=(cZ a).length-seen.length∧tm.get 5=some (.map nx)∧tm.get 6=some (.map (nx+1))∧tm.get 13=some (.ptr (nx+1+1) 0)∧az nx h h'∧h'.get nx=some (setM a)∧h'.get (nx+1)=some (setM b)∧h'.get (nx+1+1)=some (.miter nx (cZ a).length seen cl)∧(cZ a).length≤cl∧RowKit.Hid (seen.Nodup∧(∀q∈seen,q<(cZ a).length)∧∀q (hq:q<(cZ a).length),q∈seen→(cZ a)[q]∈b)) ⟨(cZ a).length,_,_,[],(cZ a).length,rfl,by simp,?_⟩ ?_
 ·have k1:¬nx=nx+1+1:=by omega
  have k2:¬nx+1=nx+1+1:=by omega
  simp[go_sem,k1,k2,VH,m2];exact⟨E.put (by omega) _,Lib.hid trivial⟩
 ·rintro mm st ⟨tm,h',seen,cl,rfl,rfl,t5,t6,t13,hE,g1,g2,g3,aX,hv⟩ J hJ
  refine bl ?_;have k1:¬nx=nx+1+1:=by omega
  have k2:¬nx+1=nx+1+1:=by omega
  have bM:=hv.out;simp[go_sem,t5,t6,t13];refine⟨nx+1+1,nx,(cZ a).length,seen,cl,_,_,by simp[go_sem,t13],g3,g1,fun e he=>?_,aX,fun aQ=>?_,fun e he oW=>?_⟩
  ·obtain⟨i,hi,rfl⟩:=L8.1 he;exact hi
  ·have nL:∀x,x∈a→x∈b:=by
    intro x hx;obtain⟨i,hi,e⟩:=List.getElem_of_mem ((vw x a).2 hx);have:=bM.2.2 i hi (aQ _ (L8.2 ⟨i,hi,rfl⟩));rw[e]at this;exact this
   have heq:=zTt nL;simp[go_sem,cW,t5,t6,t13,g1,g2,setM];refine hR _ _ _ hE (Fz.eq rfl ?_)
   congr 1
   have hlen:∀l:List ByteArray,(gV l 0).length=l.length:=fun l=>by
    have:=congrArg List.length (ZW l 0);simpa using this
   by_cases hq:(cZ a).length=(cZ b).length
   ·have:=heq.1 hq;have h3:∀x,x∈a↔x∈b:=fun x=>⟨nL x,this x⟩;simp[hlen,hq,h3]
   ·have h3:¬∀x,x∈a↔x∈b:=fun h3=>hq (heq.2 fun x hx=>(h3 x).2 hx);have h4:¬((cZ a).length:Int)=((cZ b).length:Int):=(by omega);simp[hlen,h4,h3]
  ·obtain⟨i,hi,rfl⟩:=L8.1 he;simp only at oW;simp[go_sem,cW,t5,t6,t13];refine⟨nx+1+1,nx,(cZ a).length,seen,gV (cZ a) 0,(cZ a).length,(.bs (cZ a)[i],.bool true,i),by simp[go_sem,t13],by simp[go_sem],by simp[go_sem,k1];exact g1,L8.2 ⟨i,hi,rfl⟩,zMm _,?_⟩
   by_cases iJ:(cZ a)[i]∈cZ b
   ·simp[go_sem,cW,t5,t6,t13,k1,k2,g1,g2,setM,iJ];have qX:(seen++[i]).Nodup:=by
     rw[List.nodup_append];exact⟨bM.1,by simp,fun x hx y hy e=>by simp at hy;subst hy;subst e;exact oW hx⟩
    have cy:∀q∈seen++[i],q<(cZ a).length:=by
     intro q hq
     rcases List.mem_append.1 hq with h1 |h1
     ·exact bM.2.1 q h1
     ·simp at h1;omega
    have iO:=zL5 qX cy;simp at iO;refine hJ ((cZ a).length-(seen++[i]).length) _ (by simp;omega) ⟨_,_,seen++[i],(cZ a).length,rfl,rfl,?_⟩;simp[go_sem,t5,t6,t13,k1,k2,g1,g2,setM];refine⟨hE.put (by omega) _,Lib.hid ⟨qX,fun q hq=>cy q (by simpa using hq),fun q hq hm=>?_⟩⟩
    rcases hm with h1 |h1
    ·exact bM.2.2 q hq h1
    ·subst h1;exact(vw _ b).1 iJ
   ·simp[go_sem,cW,t5,t6,t13,k1,k2,g1,g2,setM,iJ,bX];refine hR _ _ _ (hE.put (i:=nx+1+1) (by omega) _) (Fz.eq rfl ?_);have h3:¬∀x,x∈a↔x∈b:=fun h3=>iJ ((vw _ b).2 ((h3 _).1 ((vw _ a).1 (ah hi))));simp[h3]
end
section
variable {P : Program} {c : Cx} {σ τ υ : Sg} {h h' g f : Tr ABlk} {nx ax ny nz sz : Nat} {ds : List DE} {w x y : World} {tm tm' : Tr AV} {a : Act} {G : Gl} {r : Option Nat}
def Ka (d:Option Tmp)(tm:Tr AV)(K:AS→Prop)(s:AS):Prop:=K s∧∀t,d≠some t→s.tm.get t=tm.get t
def xX {d:Option Tmp}{v:AV}{K:AS→Prop}(hp:dj sz d v (.mk tm h nx ds) K):dj sz d v (.mk tm h nx ds) (Ka d tm K):=by
 cases d with
 |none=>exact⟨hp,fun t _=>rfl⟩
 |some d=>
  refine⟨hp.1,hp.2,fun t ht=>?_⟩;show (tm.put d (some v)).get t=tm.get t;rw[Tr.get_put,if_neg (fun e=>ht (by rw[e]))]
def XH {ops:List Oper}{o:Oper}{K:AS→Prop}(hs:cI P c sz ops o K (.mk tm h nx ds)):cI P c sz ops o (Ka o.dst tm K) (.mk tm h nx ds):=by
 have pe:∀r:R,dF sz o.dst tm ds K r→dF sz o.dst tm ds (Ka o.dst tm K) r:=by
  intro r hq;unfold dF at *;cases r with
  |fail=>exact hq.elim
  |val v g ny=>exact xX hq
  |unit g ny=>exact xX hq
 have plain:=pe (jq c o.op tm h nx);have call:∀fv l,uu P c sz o.dst tm h nx ds K fv l→uu P c sz o.dst tm h nx ds (Ka o.dst tm K) fv l:=by
  intro fv l hq;unfold uu at *;cases fv with
  |none=>exact hq.elim
  |some fv=>
   cases fv <;> try exact hq.elim
   ·cases l with
    |none=>exact hq.elim
    |some l=>exact bf.mono hq fun v g ny q=>xX q
   ·cases l with
    |none=>exact hq.elim
    |some l=>exact ui.mono hq fun v g ny q=>xX q
 unfold cI at *;simp only at hs ⊢;cases hw:gU ops tm o with
 |none=>rw[hw]at hs;exact hs.elim
 |some b=>
  rw[hw]at hs;cases b with
  |false=>exact xX hs
  |true=>
   simp only at hs ⊢;obtain⟨dst,op,type,pos,after,guard⟩:=o;cases op <;> try exact plain hs
   case lookup t x k ok=>exact pe _ hs
   case mapUpdate t x k v=>exact pe _ hs
   case range t x=>
    obtain⟨m,es,cl,k,e,q1,q2,q3,q4,e1,e2,e3,e4⟩:=hs;exact⟨m,es,cl,k,e,q1,q2,q3,q4,e1,e2,e3,xX e4⟩
   case next x b=>
    cases b with
    |true=>exact hs.elim
    |false=>
     obtain⟨it,m,since,seen,st,es,cl,e1,e2,e3,e4,e5,e6,e7⟩:=hs;exact⟨it,m,since,seen,st,es,cl,e1,e2,e3,e4,e5,fun q=>xX (e6 q),fun e he hn=>xX (e7 e he hn)⟩
   case entry x=>
    obtain⟨it,m,since,seen,es,cl,e,e1,e2,e3,e4,e5,e6⟩:=hs;exact⟨it,m,since,seen,es,cl,e,e1,e2,e3,e4,e5,xX e6⟩
   case call cl=>
    obtain⟨callee,args,argTypes⟩:=cl;cases callee <;> try exact plain hs
    exact call _ _ hs
def sh:List (Nat×Nat×Nat)→Tr AV→Tr AV
 |[],tm=>tm
 |p::l,tm=>(sh l tm).put p.2.2 none
def sc:List (Nat×Nat×Nat)→Tr AV→Tr AV→Tr AV
 |[],_,tm=>tm
 |p::l,eg,tm=>(sc l eg tm).put p.2.2 (eg.get p.2.2)
def L4 (t:Nat):∀(l:List (Nat×Nat×Nat))(tm:Tr AV),(sh l tm).get t=if t∈l.map (fun p=>p.2.2) then none else tm.get t
 |[],tm=>by simp[sh]
 |p::l,tm=>by
  rw[sh,Tr.get_put,L4 t l tm]
  by_cases e:t=p.2.2
  ·simp[e]
  ·simp only[List.map_cons,List.mem_cons,e,false_or,if_false]
def Sf (t:Nat):∀(l:List (Nat×Nat×Nat))(eg tm:Tr AV),(sc l eg tm).get t=if t∈l.map (fun p=>p.2.2) then eg.get t else tm.get t
 |[],eg,tm=>by simp[sc]
 |p::l,eg,tm=>by
  rw[sc,Tr.get_put,Sf t l eg tm]
  by_cases e:t=p.2.2
  ·simp[e]
  ·simp only[List.map_cons,List.mem_cons,e,false_or,if_false]
def si (fl:List (Nat×Nat×Nat))(eg:Tr AV):AS→AS
 |.mk tm h nx ds=>.mk (sc fl eg tm) h nx ds
def If (o:Oper) (t d:Nat):Bool:=match o.op,o.guard,o.dst with
 |.move (.tmp t'),none,some d'=>Nat.beq t' t && Nat.beq d' d
 |_,_,_=>false
def DV (o:Oper) (t:Nat):Bool:=match o.dst with
 |none=>true
 |some d=>!(Nat.beq d t)
def rl (i:Nat):List (Nat×Nat×Nat)→Bool
 |[]=>false
 |p::l=>match Nat.beq i p.1 with
  |true=>true
  |false=>rl i l
def Ke (ms:List Nat)(l1 l2:List Oper)(Wl:List Nat)(fl:List (Nat×Nat×Nat)) (m2:Nat):Bool:=
 eJ l1 (fun o=>match o.guard with |none=>true |some (j,_)=>Nat.ble (Nat.succ j) l1.length) &&
 eJ fl (fun p=>(match l1[p.1]? with |some o=>If o p.2.1 p.2.2 |none=>false) && !(bA p.1 Wl) &&
  eJ (jM (l1++l2).length) (fun j=>match (l1++l2)[j]? with
   |none=>true
   |some o=>(Nat.beq j p.1 || DV o p.2.2) && (Nat.ble j p.1 || (Nat.ble (Nat.add l1.length m2) j || DV o p.2.1))) && eJ fl (fun q=>!(Nat.beq q.2.2 p.2.1))) &&
 eJ (jM (l1++l2).length) (fun j=>match Nat.ble l1.length j with
  |false=>true
  |true=>(match (l1++l2)[j]? with
    |none=>true
    |some o=>eJ o.after.toList (fun e=>match Region.binds .any e with |true=>Nat.ble (Nat.succ e.on) j |false=>true)) &&
   eJ (jM j) (fun i=>dn ms i j || (rl i fl && Nat.ble (Nat.succ j) (Nat.add l1.length m2)))) && Nat.ble 1 l2.length && Nat.ble m2 l2.length
structure SplitOk (ms:List Nat)(l1 l2:List Oper)(Wl:List Nat)(fl:List (Nat×Nat×Nat)) (m2:Nat):Prop where
 guard:∀o∈l1,∀j b,o.guard=some (j,b)→j<l1.length
 mov:∀p∈fl,∃o,l1[p.1]?=some o∧If o p.2.1 p.2.2=true
 nw:∀p∈fl,bA p.1 Wl=false
 dst:∀p∈fl,∀j o,(l1++l2)[j]?=some o→j≠p.1→o.dst≠some p.2.2
 src:∀p∈fl,∀j o,(l1++l2)[j]?=some o→p.1<j→j<l1.length+m2→o.dst≠some p.2.1
 src2:∀p∈fl,∀q∈fl,q.2.2≠p.2.1
 back:∀j o,l1.length≤j→(l1++l2)[j]?=some o→∀e∈o.after.toList,Region.binds .any e=true→e.on<j
 bef:∀j,l1.length≤j→j<(l1++l2).length→∀i,i<j→dn ms i j=true∨(rl i fl=true∧j<l1.length+m2)
 pos:1≤l2.length
 le:m2≤l2.length
def zRx {a b:Nat}(h:Nat.beq a b=false):a≠b:=fun e=>by subst e;simp at h
def LA {o:Oper}{t:Nat}(h:DV o t=true):o.dst≠some t:=by
 intro e;unfold DV at h;rw[e]at h;simp at h
def zHr {ms:List Nat}{l1 l2:List Oper}{Wl:List Nat}{fl:List (Nat×Nat×Nat)}{m2:Nat}(h:Ke ms l1 l2 Wl fl m2=true):SplitOk ms l1 l2 Wl fl m2:=by
 unfold Ke at h;simp only[ao]at h;obtain⟨⟨⟨⟨h1,h2⟩,h3⟩,h4⟩,h5⟩:=h;have hf:∀p∈fl,(∃o,l1[p.1]?=some o∧If o p.2.1 p.2.2=true)∧bA p.1 Wl=false∧(∀j o,(l1++l2)[j]?=some o→(j≠p.1→o.dst≠some p.2.2)∧(p.1<j→j<l1.length+m2→o.dst≠some p.2.1))∧∀q∈fl,q.2.2≠p.2.1:=by
  intro p hp;have:=ep h2 p hp;simp only[ao]at this;obtain⟨⟨⟨q1,q2⟩,q3⟩,q4⟩:=this;refine⟨?_,by simpa using q2,fun j o ho=>?_,fun q hq=>?_⟩
  ·cases ho:l1[p.1]? with
   |none=>rw[ho]at q1;cases q1
   |some o=>rw[ho]at q1;exact⟨o,rfl,q1⟩
  ·have ay:j<(l1++l2).length:=(List.getElem?_eq_some_iff.1 ho).1;have:=ep q3 j (List.mem_range.2 ay);rw[ho]at this;simp only[ao,Bool.or_eq_true]at this;refine⟨fun aT=>?_,fun ay cy=>?_⟩
   ·rcases this.1 with e |e
    ·exact absurd (ad e) aT
    ·exact LA e
   ·rcases this.2 with e |e |e
    ·have:=ai e;omega
    ·have:l1.length+m2≤j:=ai e;omega
    ·exact LA e
  ·have:=ep q4 q hq;exact zRx (by simpa using this)
 refine⟨fun o ho j b hg=>?_,fun p hp=>(hf p hp).1,fun p hp=>(hf p hp).2.1,fun p hp j o ho=>((hf p hp).2.2.1 j o ho).1,fun p hp j o ho=>((hf p hp).2.2.1 j o ho).2,fun p hp=>(hf p hp).2.2.2,fun j o hj ho e he hb=>?_,fun j hj ay i hi=>?_,ai h4,ai h5⟩
 ·have:=ep h1 o ho;rw[hg]at this;exact ai this
 ·have ay:j<(l1++l2).length:=(List.getElem?_eq_some_iff.1 ho).1;have:=ep h3 j (List.mem_range.2 ay);rw[Nat.ble_eq_true_of_le hj]at this;simp only[ao]at this;have h6:=this.1;rw[ho]at h6;have:=ep h6 e he;rw[hb]at this;exact ai this
 ·have:=ep h3 j (List.mem_range.2 ay);rw[Nat.ble_eq_true_of_le hj]at this;simp only[ao]at this;have h6:=ep this.2 i (List.mem_range.2 hi);simp only[Bool.or_eq_true,ao]at h6
  rcases h6 with e |⟨e1,e2⟩
  ·exact .inl e
  ·exact .inr ⟨e1,ai e2⟩
def H8 {i:Nat}:∀{l:List (Nat×Nat×Nat)},rl i l=true→∃p∈l,p.1=i
 |[],h=>by cases h
 |p::l,h=>by
  simp only[rl]at h;split at h
  ·rename_i e;exact⟨p,aq,(ad e).symm⟩
  ·obtain⟨q,h1,h2⟩:=H8 h;exact⟨q,an _ h1,h2⟩
structure SInv (P:Program)(c:Cx) (sz:Nat)(l1 l2:List Oper)(fl:List (Nat×Nat×Nat)) (m2:Nat)(u:Nat×Nat×Nat→AV)(K1:AS→Prop)(Kf:AS→Prop)(σ0:Sg)(h0:Tr ABlk) (n0:Nat)(w0:World)(ds:List DE)(l:Array Bool)(a:Act)(w:World):Prop where
 ex:∃m τ tm h nx,l1.length≤m∧m≤(l1++l2).length∧(∀j,l1.length≤j→j<(l1++l2).length→(l.getD j false=true↔j<m))∧
  (∀i,i<l1.length→rl i fl=false→l.getD i false=true)∧Post c.G σ0 h0 n0 w0 τ h nx w∧St τ tm a sz ds∧
  ((m<l1.length+m2∧gZ P c sz (l1++l2) K1 ((l2.take m2).drop (m-l1.length)) (.mk tm h nx ds)∧(∀p∈fl,tm.get p.2.2=none∧tm.get p.2.1=some (u p)∧p.2.2<sz∧(l.getD p.1 false=true→av τ (u p) (a.tmps.getD p.2.2 undef)))) ∨
   (l1.length+m2≤m∧m=l1.length+m2∧K1 (.mk tm h nx ds)∧(∀p∈fl,tm.get p.2.2=none∧tm.get p.2.1=some (u p)∧p.2.2<sz∧(l.getD p.1 false=true→av τ (u p) (a.tmps.getD p.2.2 undef)))) ∨
   (l1.length+m2<m∧(∀i,i<l1.length→l.getD i false=true)∧gZ P c sz (l1++l2) Kf (l2.drop (m-l1.length)) (.mk tm h nx ds)))
def zQ6 {ops xb:Array Oper}{Q:Exit→Act→World→Prop}{K:Act→World→Prop}{i k:Nat}(hi:i<k)(gF:∀j,j<k→xb[j]?=ops[j]?)(hg:∀o,ops[i]?=some o→∀j b,o.guard=some (j,b)→j<k)
  (h:wpOpIn (dT r) 0 P ops Q i K a w):wpOpIn (dT r) 0 P xb Q i K a w:=by
 unfold wpOpIn at *;rw[gF i hi];cases ho:ops[i]? with
 |none=>rw[ho]at h;exact h
 |some o=>
  rw[ho]at h;simp only at h ⊢;have hw:Region.wanted o (yielded xb a.tmps)=Region.wanted o (yielded ops a.tmps):=by
   unfold Region.wanted;cases Av:o.guard with
   |none=>rfl
   |some p=>
    obtain⟨j,b⟩:=p;have:yielded xb a.tmps j=yielded ops a.tmps j:=by
     unfold yielded;rw[gF j (hg o ho j b Av)]
    simp only[this]
  rw[hw];exact h
def Ku (P:Program)(c:Cx) (sz:Nat)(l1 l2:List Oper)(fl:List (Nat×Nat×Nat)) (m2:Nat)(Kf:AS→Prop)(s:AS):Prop:=match s with
 |.mk eg h nx ds=>(∀p∈fl,∃u,eg.get p.2.2=some u∧eg.get p.2.1=some u∧p.2.2<sz)∧gZ P c sz (l1++l2) (fun s'=>gZ P c sz (l1++l2) Kf (l2.drop m2) (si fl eg s')) (l2.take m2) (.mk (sh fl eg) h nx ds)
def QR {o:Oper}{t d:Nat}(h:If o t d=true):o.op=.move (.tmp t)∧o.guard=none∧o.dst=some d:=by
 unfold If at h;split at h
 ·rename_i t' d' e1 e2 e3;rw[ao]at h;rw[e1,e2,e3,ad h.1,ad h.2];exact⟨rfl,rfl,rfl⟩
 ·cases h
def zz {l:Array Bool}{k i:Nat}(hi:i<k):(l.extract 0 k).getD i false=l.getD i false:=by
 simp only[Array.getD_eq_getD_getElem?,Array.getElem?_extract]
 by_cases h1:i<l.size
 ·have h2:i<min k l.size:=by omega
  simp[h1,h2]
 ·have h2:¬i<min k l.size:=by omega
  simp[h1,h2]
def Ye {l:Array Bool}{k i:Nat}(hi:k≤i):(l.extract 0 k).getD i false=false:=by
 simp only[Array.getD_eq_getD_getElem?];rw[Array.getElem?_eq_none (by simp;omega)];rfl
def zT2 {l:Array Bool}{k i:Nat}(hi:i<k):(l.setIfInBounds i true).extract 0 k=(l.extract 0 k).setIfInBounds i true:=by
 apply Array.ext_getElem?;intro j;simp only[Array.getElem?_extract,Array.getElem?_setIfInBounds,Array.size_extract,Array.size_setIfInBounds,Nat.zero_add,Nat.sub_zero]
 by_cases h1:j<min k l.size
 ·by_cases h2:i=j
  ·subst h2;simp[h1];omega
  ·simp[h1,h2]
 ·by_cases h2:i=j
  ·subst h2;simp[h1]
  ·simp[h1,h2]
def DN {a:Act}{d:Option Tmp}{V:Value}{t:Nat}(h:d≠some t):(a.put d V).tmps.getD t undef=a.tmps.getD t undef:=by
 cases d with
 |none=>rfl
 |some d=>
  have:¬d=t:=fun e=>h (by rw[e]);simp[Act.put,Array.getD_eq_getD_getElem?,this]
section
variable {l1 l2 : List Oper} {Wl : List Nat} {fl : List (Nat × Nat × Nat)} {m2 : Nat} {S : Nat → Tr AV × Tr ABlk × Nat} {v : Nat → AV} {bef : Nat → Nat → Bool} {Kf : AS → Prop}
def tY (eg:Tr AV)(p:Nat×Nat×Nat):AV:=(eg.get p.2.2).getD .nilFunc
def toS {ms:List Nat}(X:SplitOk ms l1 l2 Wl fl m2)(R:Dr P c r sz l1.toArray S v (fun i=>bA i Wl) bef){D0:List Deferred}{l:Array Bool}{a1:Act}{w1:World}(bC:l.size=(l1++l2).length)(I:DInv c sz l1.toArray S v (fun i=>bA i Wl) σ w D0 (l.extract 0 l1.length) a1 w1)
  (hD:zy σ ds D0) (pS:∀i,i<l1.length→rl i fl=false→l.getD i false=true) (hj:∀j,l1.length≤j→l.getD j false=false)
  (hq:Ku P c sz l1 l2 fl m2 Kf (.mk (S l1.length).1 (S l1.length).2.1 (S l1.length).2.2 ds)):
  SInv P c sz l1 l2 fl m2 (tY (S l1.length).1) (fun s'=>gZ P c sz (l1++l2) Kf (l2.drop m2) (si fl (S l1.length).1 s')) Kf σ (S 0).2.1 (S 0).2.2 w ds l a1 w1:=by
 obtain⟨p,τ,hp,ve,cM,bE,rQ⟩:=I.pos;have mo:l1.toArray.size=l1.length:=by simp
 rw[mo]at hp cM rQ;have oV:∀j,p≤j→j<p+(l1.length-p)→bA j Wl=false:=by
  intro j h1 h2;cases hw:bA j Wl with
  |false=>rfl
  |true=>
   have OQ:rl j fl=false:=by
    cases hf:rl j fl with
    |false=>rfl
    |true=>
     obtain⟨q,q1,q2⟩:=H8 hf;have:=X.nw q q1;rw[q2,hw]at this;cases this
   have:=(cM j (by omega) hw).1 (by rw[zz (by omega)];exact pS j (by omega) OQ);omega
 have cO:=R.same p (l1.length-p) (by rw[mo];omega) oV;rw[Nat.add_sub_cancel' hp]at cO;rw[cO]at bE;have GM:=R.text l1.length (by rw[mo];exact ae _);have bH:∀j,l1.toArray[j]?=l1[j]?:=fun j=>List.getElem?_toArray;have OG:∀p∈fl,∃o,l1[p.1]?=some o∧o.op=.move (.tmp p.2.1)∧o.guard=none∧o.dst=some p.2.2:=by
  intro p hp;obtain⟨o,h1,h2⟩:=X.mov p hp;exact⟨o,h1,QR h2⟩
 have Ph:∀t u,¬t∈fl.map (fun p=>p.2.2)→(S l1.length).1.get t=some u→av τ u (a1.tmps.getD t undef):=by
  intro t u hnt e;refine rQ t u ?_;rw[← e,GM t];refine(zB l1.length fun j hj hd=>?_);show (l.extract 0 l1.length).getD j false=true;rw[zz hj];refine pS j hj ?_;cases hf:rl j fl with
  |false=>rfl
  |true=>
   obtain⟨q,q1,q2⟩:=H8 hf;obtain⟨o,o1,_,_,o2⟩:=OG q q1;rw[bH,← q2,o1]at hd;simp only[Option.bind_some,o2]at hd;cases hd;exact absurd (List.mem_map.2 ⟨q,q1,rfl⟩) hnt
 have ij:∀p∈fl,(S l1.length).1.get p.2.2=some (tY (S l1.length).1 p)∧(S l1.length).1.get p.2.1=some (tY (S l1.length).1 p)∧p.2.2<sz:=by
  intro p hp;obtain⟨u,e1,e2,e3⟩:=hq.1 p hp;have:tY (S l1.length).1 p=u:=by unfold tY;rw[e1];rfl
  rw[this];exact⟨e1,e2,e3⟩
 have facts:∀p∈fl,(sh fl (S l1.length).1).get p.2.2=none∧(sh fl (S l1.length).1).get p.2.1=some (tY (S l1.length).1 p)∧p.2.2<sz∧(l.getD p.1 false=true→av τ (tY (S l1.length).1 p) (a1.tmps.getD p.2.2 undef)):=by
  intro p hp;obtain⟨e1,e2,e3⟩:=ij p hp;refine⟨?_,?_,e3,fun hl=>?_⟩
  ·rw[L4,if_pos (List.mem_map.2 ⟨p,hp,rfl⟩)]
  ·rw[L4,if_neg]
   ·exact e2
   ·intro hm;obtain⟨q,q1,q2⟩:=List.mem_map.1 hm;exact X.src2 p hp q q1 q2
  ·refine rQ p.2.2 _ ?_;rw[← e1,GM p.2.2];refine(zB l1.length fun j hj hd=>?_);show (l.extract 0 l1.length).getD j false=true;rw[zz hj]
   by_cases e:j=p.1
   ·rw[e];exact hl
   ·exfalso;have wR:(l1++l2)[j]?=l1[j]?:=List.getElem?_append_left hj;rw[bH,aa hj]at hd;exact X.dst p hp j l1[j] (by rw[wR,aa hj]) e hd
 refine⟨l1.length,τ,sh fl (S l1.length).1,(S l1.length).2.1,(S l1.length).2.2,ae _,by simp,fun j h1 h2=>?_,pS,bE,⟨fun t u e=>?_,I.size,by rw[I.defers];exact hD.mono bE.le⟩,?_⟩
 ·rw[hj j h1];constructor
  ·intro e;cases e
  ·intro e;omega
 ·rw[L4]at e;split at e
  ·cases e
  ·rename_i hn;exact Ph t u hn e
 ·by_cases hm:m2=0
  ·subst hm;refine .inr (.inl ⟨by omega,by omega,?_,facts⟩);exact hq.2
  ·exact .inl ⟨by omega,by simpa using hq.2,facts⟩
def zN2 (hc:CxOk P c){ms:List Nat}(X:SplitOk ms l1 l2 Wl fl m2)(dL:xC (l1++l2).toArray ms)(gC:ms.length=(l1++l2).length){u:Nat×Nat×Nat→AV}{eg:Tr AV}(hu:∀p∈fl,eg.get p.2.2=some (u p)){σ0:Sg}{h0:Tr ABlk}{n0:Nat}{w0:World}{l:Array Bool}{a1:Act}{w1:World}{QQ:Exit→Act→World→Prop}{i:Nat}
  (bC:l.size=(l1++l2).length) (aX:qm (l1++l2).toArray l) (hi:i<(l1++l2).length) (cS:l.getD i false=false) (ba:∀k,gO (l1++l2).toArray k i=true→l.getD k false=true)
  (I:SInv P c sz l1 l2 fl m2 u (fun s'=>gZ P c sz (l1++l2) Kf (l2.drop m2) (si fl eg s')) Kf σ0 h0 n0 w0 ds l a1 w1):
  wpOpIn (dT r) 0 P (l1++l2).toArray QQ i (SInv P c sz l1 l2 fl m2 u (fun s'=>gZ P c sz (l1++l2) Kf (l2.drop m2) (si fl eg s')) Kf σ0 h0 n0 w0 ds (l.setIfInBounds i true)) a1 w1:=by
 obtain⟨m,τ,tm,h,nx,uY,Ji,lE,gF,bE,st,lC⟩:=I;have iZ:i<l.size:=by omega
 have cg:∀j,(l.setIfInBounds i true).getD j false=if j=i then true else l.getD j false:=fun j=>zq iZ
 have bH:∀j,(l1++l2).toArray[j]?=(l1++l2)[j]?:=fun j=>List.getElem?_toArray;have bw:∀k,dn ms k i=true→l.getD k false=true:=by
  intro k hb;unfold dn at hb;rw[DI]at hb;obtain⟨mm,lG⟩:∃mm,ms[i]?=some mm:=⟨_,aa (by omega)⟩;have e:ms.getD i 0=mm:=by simp[List.getD,lG]
  rw[e]at hb;exact dL i mm lG k hb l aX ba
 unfold wpOpIn;rw[bH,aa hi];simp only
 by_cases pQ:i<l1.length
 ·
  have hf:rl i fl=true:=by
   cases hf:rl i fl with
   |true=>rfl
   |false=>rw[gF i pQ hf]at cS;cases cS
  obtain⟨p,hp,tI⟩:=H8 hf;obtain⟨o,o1,o2⟩:=X.mov p hp;obtain⟨m1,m3,m4⟩:=QR o2;have ho:(l1++l2)[i]=o:=by
   have h1:(l1++l2)[i]?=some o:=by rw[List.getElem?_append_left pQ,← tI];exact o1
   rw[aa hi]at h1;exact Option.some.inj h1
  rw[ho];have OE:(m<l1.length+m2∧gZ P c sz (l1++l2) (fun s'=>gZ P c sz (l1++l2) Kf (l2.drop m2) (si fl eg s')) ((l2.take m2).drop (m-l1.length)) (.mk tm h nx ds)∨(l1.length+m2≤m∧m=l1.length+m2∧gZ P c sz (l1++l2) Kf (l2.drop m2) (si fl eg (.mk tm h nx ds))))∧(∀p∈fl,tm.get p.2.2=none∧tm.get p.2.1=some (u p)∧p.2.2<sz∧(l.getD p.1 false=true→av τ (u p) (a1.tmps.getD p.2.2 undef))):=by
   rcases lC with⟨c1,c2,c3⟩ |⟨c1,c2,c3,c4⟩ |⟨c1,c2,c3⟩
   ·exact⟨.inl ⟨c1,c2⟩,c3⟩
   ·exact⟨.inr ⟨c1,c2,c3⟩,c4⟩
   ·rw[c2 i pQ]at cS;cases cS
  obtain⟨Gs,yI⟩:=OE;obtain⟨f1,f2,f3,_⟩:=yI p hp;have cD:Region.wanted o (yielded (l1++l2).toArray a1.tmps)=true:=by unfold Region.wanted;rw[m3]
  rw[cD];simp only[if_true];refine kG (fun cl e=>by rw[m1]at e;cases e) ?_;have hex:(execOp a1.eval o).run P w1=.ok (.value (a1.eval (.tmp p.2.1))) w1:=by
   obtain⟨dst,op,type,pos,after,guard⟩:=o;simp only at m1;subst m1;rfl
  rw[hex];show SInv P c sz l1 l2 fl m2 u _ Kf σ0 h0 n0 w0 ds _ (a1.put o.dst (a1.eval (.tmp p.2.1))) w1;rw[m4];have hV:av τ (u p) (a1.eval (.tmp p.2.1)):=st.tm p.2.1 (u p) f2;have FV:p.2.2<a1.tmps.size:=by rw[st.size];exact f3
  have facts:∀q∈fl,tm.get q.2.2=none∧tm.get q.2.1=some (u q)∧q.2.2<sz∧((l.setIfInBounds i true).getD q.1 false=true→av τ (u q) ((a1.put (some p.2.2) (a1.eval (.tmp p.2.1))).tmps.getD q.2.2 undef)):=by
   intro q hq;obtain⟨g1,g2,g3,g4⟩:=yI q hq;refine⟨g1,g2,g3,fun hl=>?_⟩
   by_cases e:q.2.2=p.2.2
   ·have huq:u q=u p:=by
     have h1:=hu q hq;rw[e,hu p hp]at h1;exact(Option.some.inj h1).symm
    rw[huq,e];simpa[Act.put,Array.getD_eq_getD_getElem?,FV]using hV
   ·rw[DN (fun e2=>e (Option.some.inj e2).symm)];refine g4 ?_;rw[cg]at hl
    by_cases e2:q.1=i
    ·exfalso;obtain⟨o',vn,w9⟩:=X.mov q hq;obtain⟨_,_,VI⟩:=QR w9;rw[e2,← tI,o1]at vn;cases vn;rw[m4]at VI;exact e (Option.some.inj VI).symm
    ·rw[if_neg e2]at hl;exact hl
  refine⟨m,τ,tm,h,nx,uY,Ji,fun j h1 h2=>?_,fun j h1 h2=>?_,bE,⟨fun t' u' e=>?_,by simpa[Act.put]using st.size,st.defers⟩,?_⟩
  ·rw[cg,if_neg (by omega)];exact lE j h1 h2
  ·rw[cg]
   by_cases e:j=i
   ·rw[if_pos e]
   ·rw[if_neg e];exact gF j h1 h2
  ·have aT:some p.2.2≠some t':=fun e2=>by rw[← Option.some.inj e2,f1]at e;cases e
   rw[DN aT];exact st.tm t' u' e
  ·rcases Gs with⟨c1,c2⟩ |⟨c1,c2,c3⟩
   ·exact .inl ⟨c1,c2,facts⟩
   ·exact .inr (.inl ⟨c1,c2,c3,facts⟩)
 ·have him:i=m:=by
   have h1:¬i<m:=fun hh=>by rw[(lE i (by omega) hi).2 hh]at cS;cases cS
   rcases Nat.lt_or_ge m i with h2 |h2
   ·exfalso
    rcases X.bef i (by omega) hi m h2 with e |⟨e,_⟩
    ·have:=(lE m uY (by omega)).1 (bw m e);omega
    ·obtain⟨p,hp,yK⟩:=H8 e;obtain⟨o,o1,_⟩:=X.mov p hp;have:=(List.getElem?_eq_some_iff.1 o1).1;omega
   ·omega
  subst him;have iO:(l1++l2)[i]=l2[i-l1.length]'(by simp at hi;omega):=by
   rw[List.getElem_append_right (by omega)]
  have cy:i-l1.length<l2.length:=by simp at hi;omega
  have tC:∀j,l1.length≤j→j<(l1++l2).length→((l.setIfInBounds i true).getD j false=true↔j<i+1):=by
   intro j h1 h2;rw[cg]
   by_cases e:j=i
   ·rw[if_pos e];exact⟨fun _=>by omega,fun _=>rfl⟩
   ·rw[if_neg e,lE j h1 h2];omega
  have yL:∀j,j<l1.length→rl j fl=false→(l.setIfInBounds i true).getD j false=true:=by
   intro j h1 h2;rw[cg,if_neg (by omega)];exact gF j h1 h2
  have oX:(l1++l2)[i]?=some (l1++l2)[i]:=aa hi;have eZ:∀q∈fl,(l1++l2)[i].dst≠some q.2.2∧(i<l1.length+m2→(l1++l2)[i].dst≠some q.2.1):=by
   intro q hq;obtain⟨o,o1,_⟩:=X.mov q hq;have:=(List.getElem?_eq_some_iff.1 o1).1;exact⟨X.dst q hq i _ oX (by omega),X.src q hq i _ oX (by omega)⟩
  have late:∀(xd:Tr AV),gZ P c sz (l1++l2) Kf (l2.drop (i-l1.length)) (.mk xd h nx ds)→St τ xd a1 sz ds→l1.length+m2≤i→(∀j,j<l1.length→l.getD j false=true)→
    if Region.wanted (l1++l2)[i] (yielded (l1++l2).toArray a1.tmps)=true then (l1++l2)[i].wpIn (dT r) 0 P a1 w1 (SInv P c sz l1 l2 fl m2 u (fun s'=>gZ P c sz (l1++l2) Kf (l2.drop m2) (si fl eg s')) Kf σ0 h0 n0 w0 ds (l.setIfInBounds i true)) QQ
    else (∀f,(l1++l2)[i].about P w1 a1.eval=some f→(dT r).fn f)∧SInv P c sz l1 l2 fl m2 u (fun s'=>gZ P c sz (l1++l2) Kf (l2.drop m2) (si fl eg s')) Kf σ0 h0 n0 w0 ds (l.setIfInBounds i true) (a1.put (l1++l2)[i].dst undef) w1:=by
   intro xd hw vo kP aQ;rw[aj cy,← iO]at hw;have Bb:cI P c sz (l1++l2).toArray.toList (l1++l2)[i] (gZ P c sz (l1++l2) Kf (l2.drop (i-l1.length+1))) (.mk xd h nx ds):=hw;refine J7 hc (ops:=(l1++l2).toArray) Bb bE.ok vo QQ _ fun υ aZ V w2 h2 rU k1 p1 s1=>?_;refine⟨i+1,υ,aZ,h2,rU,by omega,by omega,tC,yL,bE.trans p1,s1,.inr (.inr ⟨by omega,fun j hj=>by rw[cg,if_neg (by omega)];exact aQ j hj,?_⟩)⟩;rw[show i+1-l1.length=i-l1.length+1 by omega];exact k1
  rcases lC with⟨c1,c2,c3⟩ |⟨c1,c2,c3,c4⟩ |⟨c1,c2,c3⟩
  ·have I7:(l2.take m2).drop (i-l1.length)=(l1++l2)[i]::(l2.take m2).drop (i-l1.length+1):=by
    rw[aj (by simp;omega)]
    congr 1
    rw[iO,List.getElem_take]
   rw[I7]at c2;have Bb:cI P c sz (l1++l2).toArray.toList (l1++l2)[i] (gZ P c sz (l1++l2) (fun s'=>gZ P c sz (l1++l2) Kf (l2.drop m2) (si fl eg s')) ((l2.take m2).drop (i-l1.length+1))) (.mk tm h nx ds):=c2;refine J7 hc (ops:=(l1++l2).toArray) (XH Bb) bE.ok st QQ _ fun υ aZ V w2 h2 rU k1 p1 s1=>?_;obtain⟨k1,k2⟩:=k1;have facts:∀q∈fl,aZ.get q.2.2=none∧aZ.get q.2.1=some (u q)∧q.2.2<sz∧((l.setIfInBounds i true).getD q.1 false=true→av υ (u q) ((a1.put (l1++l2)[i].dst V).tmps.getD q.2.2 undef)):=by
    intro q hq;obtain⟨g1,g2,g3,g4⟩:=c3 q hq;obtain⟨n1,n2⟩:=eZ q hq;refine⟨by rw[← g1];exact k2 _ n1,by rw[← g2];exact k2 _ (n2 c1),g3,fun hl=>?_⟩;rw[DN n1];refine(g4 ?_).mono p1.le;obtain⟨o,o1,_⟩:=X.mov q hq;have:=(List.getElem?_eq_some_iff.1 o1).1;rw[cg,if_neg (by omega)]at hl;exact hl
   refine⟨i+1,υ,aZ,h2,rU,by omega,by omega,tC,yL,bE.trans p1,s1,?_⟩
   by_cases nG:i+1<l1.length+m2
   ·refine .inl ⟨nG,?_,facts⟩;rw[show i+1-l1.length=i-l1.length+1 by omega];exact k1
   ·refine .inr (.inl ⟨by omega,by omega,?_,facts⟩);have uk:(l2.take m2).drop (i-l1.length+1)=[]:=al (by simp;omega);rw[uk]at k1;exact k1
  ·have aQ:∀j,j<l1.length→l.getD j false=true:=by
    intro j hj
    rcases X.bef i (by omega) hi j (by omega) with e |⟨_,e⟩
    ·exact bw j e
    ·omega
   have vo:St τ (sc fl eg tm) a1 sz ds:=by
    refine⟨fun t u' e=>?_,st.size,st.defers⟩;rw[Sf]at e;split at e
    ·rename_i hm;obtain⟨q,q1,q2⟩:=List.mem_map.1 hm;subst q2;obtain⟨_,_,_,g4⟩:=c4 q q1;rw[hu q q1]at e;cases e;obtain⟨o,o1,_⟩:=X.mov q q1;exact g4 (aQ _ (List.getElem?_eq_some_iff.1 o1).1)
    ·exact st.tm t u' e
   have IF:gZ P c sz (l1++l2) Kf (l2.drop m2) (.mk (sc fl eg tm) h nx ds):=c3;exact late _ (by rw[show i-l1.length=m2 by omega];exact IF) vo c1 aQ
  ·exact late _ c3 st (by omega) c2
def zMl (hm:P.follows .mixedOrders=true)(hc:CxOk P c)(hG:c.G.sym=true){inr:Bool}{id:Nat}{l1 l2:List Oper}(Wl Cl:List Nat)(U:List (Nat×Nat))(fl:List (Nat×Nat×Nat)) (m2:Nat)(cC:uB c l1 (bP l1 []) Wl Cl U=true)(o9:Ke (bP (l1++l2) []) l1 l2 Wl fl m2=true){Q:AX→AS→Prop}{s:AS}
  (hw:pD P c sz l1 Wl Cl U (Ku P c sz l1 l2 fl m2 (Q .norm)) l1 0 (fun _=>.nil) s):AW P c inr sz (.region id (l1++l2).toArray true) Q s:=by
 intro r hi σ a w ok st;cases s with
 |mk tm h nx ds=>
 simp only[AS.tm,AS.h,AS.nx,AS.ds]at ok st ⊢;obtain⟨S,v,bef,kN,q3,R⟩:=zxq hc hG Wl Cl U cC hw r;have X:=zHr o9;have dL:xC (l1++l2).toArray (bP (l1++l2) []):=Eu (l1++l2) [] (fun j m hj=>by simp at hj) fun j=>by simp
 have gC:(bP (l1++l2) []).length=(l1++l2).length:=by
  have key:∀(l:List Oper) (acc:List Nat),(bP l acc).length=acc.length+l.length:=by
   intro l
   induction l with
   |nil=>intro acc;rfl
   |cons o l ih=>
    intro acc;show (bP l (acc++[vm acc o.after.toList])).length=_;rw[ih];simp;omega
  simpa using key (l1++l2) []
 refine wpIn_region_any hm ?_;have Fv:(S 0).2.1=h∧(S 0).2.2=nx:=by rw[kN];exact⟨rfl,rfl⟩
 have jt:=Post.drawn ok (w.drawn+1);generalize hQ:AQ c.G σ h nx w sz Q=QQ;have tQ:(l1++l2).toArray.size=(l1++l2).length:=by simp
 have mo:l1.toArray.size=l1.length:=by simp
 have bH:∀j,(l1++l2).toArray[j]?=(l1++l2)[j]?:=fun j=>List.getElem?_toArray;have dQ:∀n i,(Array.replicate n false).getD i false=false:=by
  intro n i;simp only[Array.getD_eq_getD_getElem?,Array.getElem?_replicate];split <;> rfl
 have ij:∀p∈fl,(S l1.length).1.get p.2.2=some (tY (S l1.length).1 p):=by
  intro p hp;obtain⟨u,e1,_,_⟩:=q3.1 p hp;unfold tY;rw[e1];rfl
 have lA:∀i,i<(l1++l2).toArray.size→∀k,gO (l1++l2).toArray k i=true→k<i:=by
  intro i hi k hk;rw[tQ]at hi
  by_cases pQ:i<l1.length
  ·refine R.back i (by rw[mo];exact pQ) k ?_;unfold gO at hk ⊢;rw[bH,List.getElem?_append_left pQ]at hk;rw[List.getElem?_toArray];exact hk
  ·unfold gO at hk;rw[bH,aa hi]at hk;simp only[Option.map_some,Option.getD_some,Array.any_eq_true']at hk;obtain⟨e,he,hb⟩:=hk;rw[ao]at hb;have yJ:e.on=k:=by simpa using hb.2
   rw[← yJ];exact X.back i _ (by omega) (aa hi) e (by simpa using he) hb.1
 let K1:AS→Prop:=fun s'=>gZ P c sz (l1++l2) (Q .norm) (l2.drop m2) (si fl (S l1.length).1 s')
 let I:Array Bool→Act→World→Prop:=fun l a' w'=>qm (l1++l2).toArray l∧(((∀j,l1.length≤j→l.getD j false=false)∧DInv c sz l1.toArray S v (fun i=>bA i Wl) σ w a.defers (l.extract 0 l1.length) a' w')∨SInv P c sz l1 l2 fl m2 (tY (S l1.length).1) K1 (Q .norm) σ (S 0).2.1 (S 0).2.2 w ds l a' w')
 have eC:∀(l:Array Bool) (i:Nat),i<l.size→qm (l1++l2).toArray l→(∀k,gO (l1++l2).toArray k i=true→l.getD k false=true)→qm (l1++l2).toArray (l.setIfInBounds i true):=by
  intro l i iZ aX ba j hj k aW;rw[zq iZ]at hj ⊢
  by_cases qT:k=i
  ·rw[if_pos qT]
  ·rw[if_neg qT]
   by_cases eX:j=i
   ·subst eX;exact ba k aW
   ·rw[if_neg eX]at hj;exact aX j hj k aW
 refine Lx I ?step ?done (l1++l2).toArray.size _ a _ (by simp) ?count ?init
 case count=>simp
 case init=>
  refine⟨(fun j hj=>by rw[dQ]at hj;cases hj),.inl ⟨fun j _=>dQ _ j,?_⟩⟩;refine⟨(fun j hj=>by
   rcases Nat.lt_or_ge j l1.length with h1 |h1
   ·rw[zz h1,dQ]at hj;cases hj
   ·rw[Ye h1]at hj;cases hj),(fun i hi=>by
   rcases Nat.lt_or_ge i l1.length with h1 |h1
   ·rw[mo];exact h1
   ·rw[Ye h1]at hi;cases hi),⟨0,σ,by omega,.inl rfl,(fun j hj hw=>⟨(fun e=>by rw[zz (by omega),dQ]at e;cases e),(fun e=>by omega)⟩),?_,?_⟩,st.size,rfl⟩
  ·rw[kN];exact jt
  ·intro t u e;have:(TL l1.toArray v (S 0).1 (lf ((Array.replicate (l1++l2).toArray.size false).extract 0 l1.length)) l1.toArray.size).get t=(S 0).1.get t:=by
    have:=zc (tm:=(S 0).1) (ops:=l1.toArray) (v:=v) (l:=lf ((Array.replicate (l1++l2).toArray.size false).extract 0 l1.length)) (t:=t) 0 l1.toArray.size fun j _ hj _=>by
     show ((Array.replicate (l1++l2).toArray.size false).extract 0 l1.length).getD j false=false;rw[zz (by omega),dQ]
    rw[Nat.zero_add]at this;exact this
   rw[this,kN]at e;exact st.tm t u e
 case done=>
  intro l a1 w1 hs hI hr;have aQ:=Mf lA hr hs;have hp:=X.pos;obtain⟨_,hI⟩:=hI
  rcases hI with⟨hA,_⟩ |hS
  ·have:=aQ l1.length (by simp;omega);rw[hA l1.length (ae _)]at this;cases this
  ·obtain⟨m,τ,tm',h',ax,uY,Ji,lE,gF,bE,rq,lC⟩:=hS;have qaj:m=(l1++l2).length:=by
    rcases Nat.lt_or_ge m (l1++l2).length with h1 |h1
    ·have:=(lE m uY h1).1 (aQ m (by rw[tQ];exact h1));omega
    ·omega
   have hle:=X.le;have hlen:(l1++l2).length=l1.length+l2.length:=(by simp);rw[← hQ];rw[Fv.1,Fv.2]at bE
   rcases lC with⟨c1,_,_⟩ |⟨c1,c2,c3,c4⟩ |⟨c1,c2,c3⟩
   ·omega
   ·have hd:l2.drop m2=[]:=al (by omega);have IF:gZ P c sz (l1++l2) (Q .norm) (l2.drop m2) (.mk (sc fl (S l1.length).1 tm') h' ax ds):=c3;rw[hd]at IF;refine⟨.norm,_,_,_,ds,τ,rfl,bE,⟨fun t u' e=>?_,rq.size,rq.defers⟩,IF⟩;rw[Sf]at e;split at e
    ·rename_i wK;obtain⟨q,q1,q2⟩:=List.mem_map.1 wK;subst q2;obtain⟨_,_,_,g4⟩:=c4 q q1;rw[ij q q1]at e;cases e;obtain⟨o,o1,_⟩:=X.mov q q1;exact g4 (aQ _ (by rw[tQ];have:=(List.getElem?_eq_some_iff.1 o1).1;omega))
    ·exact rq.tm t u' e
   ·have hd:l2.drop (m-l1.length)=[]:=al (by omega);rw[hd]at c3;exact⟨.norm,_,_,_,ds,τ,rfl,bE,rq,c3⟩
 case step=>
  intro l a1 w1 i hs hI hi;obtain⟨ct,tF,ba⟩:=BQ.1 hi;have iZ:i<l.size:=by omega
  have cS:l.getD i false=false:=by simpa[Array.getD,iZ]using tF
  rw[tQ]at ct;obtain⟨aX,hI⟩:=hI;have yf:SInv P c sz l1 l2 fl m2 (tY (S l1.length).1) K1 (Q .norm) σ (S 0).2.1 (S 0).2.2 w ds l a1 w1→wpOpIn (dT r) 0 P (l1++l2).toArray QQ i (I (l.setIfInBounds i true)) a1 w1:=by
   intro hS;refine wpOpIn_mono (fun a' w' q=>⟨eC l i iZ aX ba,.inr q⟩) (zN2 hc X dL gC ij (by omega) aX ct cS ba hS)
  rcases hI with⟨hA,hD⟩ |hS
  ·by_cases pQ:i<l1.length
   ·have As:(l.extract 0 l1.length).size=l1.toArray.size:=by simp at hs ⊢;omega
    have aU:=R.stepI (QQ:=QQ) As hD (i:=i) (by rw[mo];exact pQ) (by rw[zz pQ];exact cS) (fun k hk=>by
     have dK:gO (l1++l2).toArray k i=true:=by
      unfold gO at hk ⊢;rw[bH,List.getElem?_append_left pQ];rw[List.getElem?_toArray]at hk;exact hk
     have ay:=lA i (by rw[tQ];exact ct) k dK;rw[zz (by omega)];exact ba k dK)
    refine zQ6 pQ (fun j hj=>by rw[bH,List.getElem?_append_left hj,List.getElem?_toArray]) (fun o ho j b hg=>X.guard o (List.mem_of_getElem? (by rw[List.getElem?_toArray]at ho;exact ho)) j b hg) (wpOpIn_mono (fun a' w' q=>⟨eC l i iZ aX ba,.inl ⟨fun j hj=>?_,by rw[zT2 pQ];exact q⟩⟩) aU);rw[zq iZ,if_neg (by omega)];exact hA j hj
   ·have bw:∀k,dn (bP (l1++l2) []) k i=true→l.getD k false=true:=by
     intro k hb;unfold dn at hb;rw[DI]at hb;obtain⟨mm,lG⟩:∃mm,(bP (l1++l2) [])[i]?=some mm:=⟨_,aa (by omega)⟩;have e:(bP (l1++l2) []).getD i 0=mm:=by simp[List.getD,lG]
     rw[e]at hb;exact dL i mm lG k hb l aX ba
    refine yf (toS X R (by omega) hD st.defers (fun j hj hf=>?_) hA q3)
    rcases X.bef i (by omega) ct j (by omega) with e |⟨e,_⟩
    ·exact bw j e
    ·rw[hf]at e;cases e
  ·exact yf hS
end
end
end
end Go.Ev
