/- Texts. -/
import Derived.Test.YtkdnmldmffkkoaaGreatDoorP23
set_option linter.unusedSimpArgs false
set_option linter.unusedVariables false
set_option maxRecDepth 100000
set_option maxHeartbeats 8000000
namespace Go.Ev
open Go.Proofs Go.RowKit
noncomputable section
structure GS where
 L:List Nd
 D:List (ByteArray×Int)
 full:Bool
def cj (b:Bool):Nd:=⟨0,[],[],b⟩
def cR (n:Nd)(S:GS):Int×GS:=((mo S.L n:Int),{ S with L:=iW S.L n })
def kC (t:ByteArray):List (ByteArray×Int)→Option Int
 |[]=>none
 |(k,v)::l=>if t=k then some v else kC t l
def lS (t:ByteArray) (v:Int):List (ByteArray×Int)→List (ByteArray×Int)
 |[]=>[(t,v)]
 |(k,w)::l=>if t=k then (k,v)::l else (k,w)::lS t v l
def dQ (g:Int→GS→Int×GS):List Int→GS→List Int×GS
 |[],S=>([],S)
 |v::l,S=>((g v S).1::(dQ g l (g v S).2).1,(dQ g l (g v S).2).2)
def rH (i:Nat)(f:Fm):ByteArray:=⟨(Lib.itoa (i:Int)).toArray⟩++⟨(iv f).toArray⟩
def iO (l:List Int):Int:=l.headD 0
def eu (i:Nat)(st ks:List Int)(S:GS):Int×GS:=
 let n:Nd:=⟨(i:Int),(bG (iO ks) [] [iO ks] st ks).2.1,(bG (iO ks) [] [iO ks] st ks).2.2,false⟩
 if n.kids.length=1 then (iO ks,S) else cR n S
def jU (S:GS):Bool:=S.full || decide (20000<S.L.length)
def bZ (d:List Fc):Nat→Fm→GS→Int×GS
 |0,f,S=>if f.op=1∨f.op=2 then cR (cj (decide (f.op=1))) S else cR (cj false) { S with full:=jU S }
 |k+1,f,S=>if f.op=1∨f.op=2 then cR (cj (decide (f.op=1))) S else
   if jU S then cR (cj false) { S with full:=true } else
   match kC (rH (d.length-(k+1)) f) S.D with
   |some v=>(v,{ S with full:=false })
   |none=>
    let x:=d.getD (d.length-(k+1)) ⟨.empty,0,0,0⟩
    let r:=dQ (fun v S=>bZ d k (bQ x.name v f) S) (fj f x) { S with full:=false }
    let o:=eu (d.length-(k+1)) (fj f x) r.1 r.2
    (o.1,{ o.2 with D:=lS (rH (d.length-(k+1)) f) o.1 o.2.D })
def Ba (n:Nd):Bool:=!n.kids.isEmpty
def inn (L:List Nd):Nat:=(L.filter Ba).length
structure GI (S:GS):Prop where
 nd:(S.L.map bN).Nodup
 wk:WK S.L
 ni:∀n∈S.L,jH n
 lf:∀n∈S.L,n.kids=[]→n=cj true∨n=cj false
 dv:∀p∈S.D,0≤p.2∧p.2<(S.L.length:Int)
theorem zy7 {α:Type} [DecidableEq α]:∀{l m:List α},l.Nodup→(∀x∈l,x∈m)→l.length≤m.length
 |[],m,_,_=>by simp
 |x::t,m,h,hs=>by
  have hx:x∈m:=hs x ao;obtain⟨h1,h2⟩:=List.nodup_cons.1 h;have:=zy7 (l:=t) (m:=m.erase x) h2 fun y hy=>(List.mem_erase_of_ne (fun e:y=x=>h1 (e ▸ hy))).2 (hs y (ak _ hy));rw[List.length_erase_of_mem hx]at this;have:=List.length_pos_of_mem hx;simp only[List.length_cons];omega
theorem ZC {α:Type}(p:α→Bool):∀l:List α,l.length=(l.filter p).length+(l.filter fun x=>!p x).length
 |[]=>rfl
 |x::l=>by
  have:=ZC p l;cases h:p x <;> simp[h] <;> omega
open Classical in
theorem GI.len {S:GS}(h:GI S):S.L.length≤inn S.L+2:=by
 have h1:(S.L.filter fun n=>!Ba n).length≤2:=by
  have hn:(S.L.filter fun n=>!Ba n).Nodup:=by
   have:S.L.Nodup:=by
    have:=List.pairwise_map.1 h.nd;exact this.imp fun {a b} aQ e=>aQ (by rw[e])
   exact this.filter _
  have:=zy7 (α:=Nd) (m:=[cj true,cj false]) hn fun x hx=>by
   obtain⟨a,b⟩:=List.mem_filter.1 hx;have hk:x.kids=[]:=by
    unfold Ba at b;cases hk:x.kids with
    |nil=>rfl
    |cons y ys=>rw[hk]at b;simp at b
   rcases h.lf x a hk with e |e <;> simp[e]
  simpa using this
 have h2:=ZC Ba S.L;unfold inn;omega
structure pI (S S':GS):Prop where
 pre:∃t,S'.L=S.L++t
theorem pI.refl (S:GS):pI S S:=⟨⟨[],by simp⟩⟩
theorem pI.trans {A B C:GS}(h:pI A B)(k:pI B C):pI A C:=by
 obtain⟨t,e⟩:=h.pre;obtain⟨u,e2⟩:=k.pre;exact⟨⟨t++u,by rw[e2,e,List.append_assoc]⟩⟩
theorem pI.len {S S':GS}(h:pI S S'):S.L.length≤S'.L.length:=by
 obtain⟨t,e⟩:=h.pre;rw[e];simp
def Qy (n:Nd)(L:List Nd):Prop:=jH n∧(n.kids=[]→n=cj true∨n=cj false)∧∀x∈n.kids,0≤x∧x<(L.length:Int)
theorem DD (b:Bool)(L:List Nd):Qy (cj b) L:=⟨⟨re (by simp[cj]) (by simp[cj]),by simp[cj],by simp[cj],by simp[cj],by simp[cj]⟩,fun _=>by cases b <;> simp,by simp[cj]⟩
theorem DF {S:GS}{n:Nd}(h:GI S)(hn:Qy n S.L):GI (cR n S).2∧(0≤(cR n S).1∧(cR n S).1<((cR n S).2.L.length:Int))∧pI S (cR n S).2∧inn (cR n S).2.L≤inn S.L+(if n.kids=[] then 0 else 1):=by
 have az:=zM3 S.L n;obtain⟨n1,n2,n3⟩:=hn;refine⟨?_,⟨by simp[cR],by simp only[cR];omega⟩,?_,?_⟩
 ·by_cases hm:bN n∈S.L.map bN
  ·have:(cR n S).2=S:=by simp[cR,iW,hm]
   rw[this];exact h
  ·have hL:(cR n S).2.L=S.L++[n]:=by simp[cR,iW,hm]
   have hD:(cR n S).2.D=S.D:=rfl;refine⟨?_,?_,?_,?_,?_⟩
   ·rw[hL,List.map_append];refine List.nodup_append.2 ⟨h.nd,by simp,?_⟩;intro x hx y hy e;simp at hy;subst hy;exact hm (e ▸ hx)
   ·rw[hL];intro x hx y hy;rw[List.length_append]
    rcases List.mem_append.1 hx with q |q
    ·have:=h.wk x q y hy;simp;omega
    ·simp at q;subst q;have:=n3 y hy;simp;omega
   ·rw[hL];intro x hx
    rcases List.mem_append.1 hx with q |q
    ·exact h.ni x q
    ·simp at q;subst q;exact n1
   ·rw[hL];intro x hx
    rcases List.mem_append.1 hx with q |q
    ·exact h.lf x q
    ·simp at q;subst q;exact n2
   ·rw[hL,hD];intro p hp;have:=h.dv p hp;rw[List.length_append];simp;omega
 ·unfold cR iW
  by_cases hm:bN n∈S.L.map bN
  ·rw[if_pos hm];exact⟨⟨[],by simp⟩⟩
  ·rw[if_neg hm];exact⟨⟨[n],rfl⟩⟩
 ·unfold cR iW
  by_cases hm:bN n∈S.L.map bN
  ·simp only[if_pos hm];omega
  ·simp only[if_neg hm];unfold inn;rw[List.filter_append,List.length_append]
   by_cases hk:n.kids=[]
   ·rw[if_pos hk];simp[Ba,hk]
   ·rw[if_neg hk];have:=List.length_filter_le Ba [n];simp at this;omega
theorem GI.full {S:GS}(h:GI S)(b:Bool):GI { S with full:=b }:=⟨h.nd,h.wk,h.ni,h.lf,h.dv⟩
theorem zxn {t:ByteArray}{v:Int}:∀{D:List (ByteArray×Int)},kC t D=some v→(∃p∈D,p.2=v)
 |[],h=>by cases h
 |(k,w)::l,h=>by
  rw[kC]at h
  by_cases e:t=k
  ·rw[if_pos e]at h;cases h;exact⟨(k,v),ao,rfl⟩
  ·rw[if_neg e]at h;obtain⟨p,hp,e2⟩:=zxn h;exact⟨p,ak _ hp,e2⟩
theorem zy3 {t:ByteArray}{v:Int}:∀{D:List (ByteArray×Int)}{p:ByteArray×Int},p∈lS t v D→p∈D∨p.2=v
 |[],p,h=>by
  simp[lS]at h;exact .inr (by rw[h])
 |(k,w)::l,p,h=>by
  rw[lS]at h
  by_cases e:t=k
  ·rw[if_pos e]at h
   rcases List.mem_cons.1 h with q |q
   ·exact .inr (by rw[q])
   ·exact .inl (ak _ q)
  ·rw[if_neg e]at h
   rcases List.mem_cons.1 h with q |q
   ·exact .inl (by rw[q];exact ao)
   ·rcases zy3 q with q |q
    ·exact .inl (ak _ q)
    ·exact .inr q
theorem Lq (P Q:Int→Prop):∀(ss ys:List Int) (x:Int)(c k:List Int),(∀a∈c,P a)→(∀a∈ss,P a)→(∀a∈k,Q a)→(∀a∈ys,Q a)→
  (∀a∈(bG x c k ss ys).2.1,P a)∧(∀a∈(bG x c k ss ys).2.2,Q a)∧k.length≤(bG x c k ss ys).2.2.length∧(bG x c k ss ys).2.2.length≤k.length+ys.length∧(bG x c k ss ys).2.1.length≤c.length+ys.length
 |[],ys,x,c,k,h1,_,h3,_=>⟨h1,h3,by simp[bG],by simp[bG],by simp[bG]⟩
 |s::ss,[],x,c,k,h1,_,h3,_=>⟨h1,h3,by simp[bG],by simp[bG],by simp[bG]⟩
 |s::ss,y::ys,x,c,k,h1,h2,h3,h4=>by
  by_cases e:y=x
  ·rw[BO e];obtain⟨a1,a2,a3,a4,a5⟩:=Lq P Q ss ys x c k h1 (fun a ha=>h2 a (ak _ ha)) h3 (fun a ha=>h4 a (ak _ ha));exact⟨a1,a2,a3,by simp;omega,by simp;omega⟩
  ·rw[DU e];obtain⟨a1,a2,a3,a4,a5⟩:=Lq P Q ss ys y (c++[s]) (k++[y]) (fun a ha=>by
     rcases List.mem_append.1 ha with q |q
     ·exact h1 a q
     ·simp at q;subst q;exact h2 a ao) (fun a ha=>h2 a (ak _ ha)) (fun a ha=>by
     rcases List.mem_append.1 ha with q |q
     ·exact h3 a q
     ·simp at q;subst q;exact h4 a ao) (fun a ha=>h4 a (ak _ ha))
   simp only[List.length_append,List.length_cons,List.length_nil]at a3 a4 a5;exact⟨a1,a2,by omega,by simp;omega,by simp;omega⟩
theorem XA {S:GS}{i:Nat}{st ks:List Int}(h:GI S)(hi:i≤1000)(aW:∀a∈st,cS a)(l6:∀a∈ks,0≤a∧a<(S.L.length:Int))(aQ:ks≠[])(hlen:ks.length≤90000)(hL:S.L.length≤1000000):
  GI (eu i st ks S).2∧(0≤(eu i st ks S).1∧(eu i st ks S).1<((eu i st ks S).2.L.length:Int))∧pI S (eu i st ks S).2∧inn (eu i st ks S).2.L≤inn S.L+1:=by
 have hh:iO ks∈ks:=by
  cases ks with
  |nil=>exact absurd rfl aQ
  |cons x xs=>exact ao
 have hr:=l6 _ hh;have hI:∀a:Int,0≤a∧a<(S.L.length:Int)→cS a:=fun a ha=>⟨by omega,by omega⟩;obtain⟨a1,a2,a3,a4,a5⟩:=Lq cS (fun a=>0≤a∧a<(S.L.length:Int)) st ks (iO ks) [] [iO ks] (by simp) aW (by simpa using hr) l6;simp only[List.length_cons,List.length_nil]at a3 a4 a5;unfold eu;simp only
 by_cases e:(bG (iO ks) [] [iO ks] st ks).2.2.length=1
 ·rw[if_pos e];exact⟨h,hr,.refl S,Nat.le_succ _⟩
 ·rw[if_neg e];have Nb:cS (i:Int):=⟨by omega,by omega⟩;have Us:(bG (iO ks) [] [iO ks] st ks).2.2≠[]:=fun q=>by rw[q]at a3;simp at a3
  obtain⟨b1,b2,b3,b4⟩:=DF (n:=⟨(i:Int),(bG (iO ks) [] [iO ks] st ks).2.1,(bG (iO ks) [] [iO ks] st ks).2.2,false⟩) h ⟨⟨Nb,a1,fun a ha=>hI a (a2 a ha),Nat.le_trans a5 (by omega),Nat.le_trans a4 (by omega)⟩,fun q=>absurd q Us,a2⟩;refine⟨b1,b2,b3,?_⟩;rw[if_neg Us]at b4;exact b4
theorem zzo {g:Int→GS→Int×GS}{B:Nat}(hg:∀v S,GI S→inn S.L≤B→GI (g v S).2∧(0≤(g v S).1∧(g v S).1<((g v S).2.L.length:Int))∧pI S (g v S).2∧inn (g v S).2.L≤B):∀(l:List Int)(S:GS),GI S→inn S.L≤B→
  GI (dQ g l S).2∧(∀a∈(dQ g l S).1,0≤a∧a<((dQ g l S).2.L.length:Int))∧pI S (dQ g l S).2∧inn (dQ g l S).2.L≤B∧(dQ g l S).1.length=l.length
 |[],S,h,hb=>⟨h,by simp[dQ],.refl S,hb,rfl⟩
 |v::l,S,h,hb=>by
  obtain⟨a1,a2,a3,a4⟩:=hg v S h hb;obtain⟨b1,b2,b3,b4,b5⟩:=zzo hg l (g v S).2 a1 a4;have:=b3.len;refine⟨b1,fun a ha=>?_,a3.trans b3,b4,by simp[dQ,b5]⟩
  rcases List.mem_cons.1 ha with q |q
  ·subst q;simp only[dQ];omega
  ·exact b2 a q
theorem Hw (d:List Fc)(hd:d.length≤1000)(hv:∀x∈d,x.lo≤x.hi∧cS x.lo∧cS x.hi):∀(k:Nat)(f:Fm)(S:GS),k≤d.length→iw f→f.size≤1000→GI S→inn S.L≤20000+d.length+1→
  GI (bZ d k f S).2∧(0≤(bZ d k f S).1∧(bZ d k f S).1<((bZ d k f S).2.L.length:Int))∧pI S (bZ d k f S).2∧inn (bZ d k f S).2.L≤max (inn S.L) (20000+k)
 |0,f,S,_,_,_,h,_=>by
  rw[bZ]
  by_cases e:f.op=1∨f.op=2
  ·rw[if_pos e];obtain⟨a1,a2,a3,a4⟩:=DF h (DD (decide (f.op=1)) S.L);exact⟨a1,a2,a3,by rw[if_pos (by rfl)]at a4;omega⟩
  ·rw[if_neg e];obtain⟨a1,a2,a3,a4⟩:=DF (h.full (jU S)) (DD false S.L);exact⟨a1,a2,⟨a3.pre⟩,by rw[if_pos (by rfl)]at a4;simp only at a4;omega⟩
 |k+1,f,S,hk,hf,hfs,h,hb=>by
  rw[bZ]
  by_cases e:f.op=1∨f.op=2
  ·rw[if_pos e];obtain⟨a1,a2,a3,a4⟩:=DF h (DD (decide (f.op=1)) S.L);exact⟨a1,a2,a3,by rw[if_pos (by rfl)]at a4;omega⟩
  ·rw[if_neg e]
   by_cases e2:jU S=true
   ·rw[if_pos e2];obtain⟨a1,a2,a3,a4⟩:=DF (h.full true) (DD false S.L);exact⟨a1,a2,⟨a3.pre⟩,by rw[if_pos (by rfl)]at a4;simp only at a4;omega⟩
   ·rw[if_neg e2];have B7:S.L.length≤20000:=by
     unfold jU at e2;simp at e2;exact e2.2
    have cB:inn S.L≤20000:=Nat.le_trans (List.length_filter_le _ _) B7;cases hg:kC (rH (d.length-(k+1)) f) S.D with
    |some v=>
     obtain⟨p,hp,e3⟩:=zxn hg;have:=h.dv p hp;simp only;exact⟨h.full false,by rw[← e3];exact this,⟨⟨[],by simp⟩⟩,by omega⟩
    |none=>
     simp only;have jw:d.length-(k+1)<d.length:=by omega
     obtain⟨x,hx⟩:∃x,x=d.getD (d.length-(k+1)) ⟨.empty,0,0,0⟩:=⟨_,rfl⟩;have Aw:x∈d:=by
      rw[hx,an,aa jw];exact ai jw
     obtain⟨v1,v2,v3⟩:=hv x Aw;rw[← hx];obtain⟨b1,b2,b3,b4,b5⟩:=zzo (g:=fun v S=>bZ d k (bQ x.name v f) S) (B:=20000+k) (fun v S hS hSb=>by
      obtain⟨g1,g2⟩:=BJ x.name v hf;obtain⟨a1,a2,a3,a4⟩:=Hw d hd hv k (bQ x.name v f) S (by omega) g1 (by omega) hS (by omega);exact⟨a1,a2,a3,by omega⟩) (fj f x) { S with full:=false } (h.full false) (by simp only;omega)
     have hl:=b1.len;have kP:=Sx f x;have aQ:=Ps f x v1;have Fl:=XH f x;obtain⟨c1,c2,c3,c4⟩:=XA (i:=d.length-(k+1)) (st:=fj f x) b1 (by omega) (fun a ha=>by
      have:=Fl a ha;obtain⟨p1,p2⟩:=v2;obtain⟨p3,p4⟩:=v3;exact⟨by omega,by omega⟩) b2 (fun q=>by rw[q]at b5;simp at b5;exact aQ (au b5.symm)) (by omega) (by omega)
     have ET:=c3.len;refine⟨⟨c1.nd,c1.wk,c1.ni,c1.lf,?_⟩,c2,?_,?_⟩
     ·intro p hp
      rcases zy3 hp with q |q
      ·exact c1.dv p q
      ·rw[q];exact c2
     ·obtain⟨t,ht⟩:=(b3.trans c3).pre;exact⟨⟨t,ht⟩⟩
     ·omega
end
end Go.Ev
namespace Go.Ev
open Go.Proofs Go.RowKit
noncomputable section
attribute [-go_sem] dw bP ep gH
theorem Y6:cx.ft.get 138=some Tryz.f138:=aT (by decide) (by kernel_rfl)
@[go_sem] theorem zXi (a b:ByteArray)(h:Tr ABlk) (nx:Nat)(hs:a.size+b.size≤9223372036854775807):gH .add a b h nx=.val (.bs (a++b)) h nx:=by
 have:Nat.ble (Nat.add a.size b.size) 9223372036854775807=true:=Nat.ble_eq_true_of_le hs;simp only[gH,this]
@[go_sem] theorem ycn (a b:ByteArray)(h:Tr ABlk) (nx:Nat):gH .eql a b h nx=.val (.bool (decide (a=b))) h nx:=rfl
@[go_sem] theorem ydc (a b:ByteArray)(h:Tr ABlk) (nx:Nat):gH .neq a b h nx=.val (.bool (!(decide (a=b)))) h nx:=rfl
def lX:List (ByteArray×Int)→Nat→List (AV×AV×Nat)
 |[],_=>[]
 |(t,v)::l,n=>(.bs t,.int .i64 v,n)::lX l (n+1)
def yr (t:ByteArray):List (ByteArray×Int)→Nat→Option (Nat×AV)
 |[],_=>none
 |(k,v)::l,i=>if t=k then some (i,.int .i64 v) else yr t l (i+1)
theorem WU (t:ByteArray):∀(l:List (ByteArray×Int)) (n:Nat),mj .string (.bs t) (lX l n) n=some (yr t l n)
 |[],n=>rfl
 |(k,v)::l,n=>by
  rw[lX,DH,yr]
  by_cases e:t=k
  ·simp[lR,e]
  ·simp[lR,e,fN_eq,WU t l (n+1)]
@[go_sem] theorem zWf (t:ByteArray)(l:List (ByteArray×Int)):mj .string (.bs t) (lX l 0) 0=some (yr t l 0):=WU t l 0
theorem KP {t:ByteArray}:∀{l:List (ByteArray×Int)}(n:Nat),kC t l=none→yr t l n=none
 |[],_,_=>rfl
 |(k,v)::l,n,h=>by
  rw[kC]at h;rw[yr]
  by_cases e:t=k
  ·rw[if_pos e]at h;cases h
  ·rw[if_neg e]at h ⊢;exact KP (n+1) h
theorem JX {t:ByteArray}{v:Int}:∀{l:List (ByteArray×Int)}(n:Nat),kC t l=some v→∃j,yr t l n=some (n+j,.int .i64 v)∧j<l.length∧∀(w:Int) (m:Nat),(lX l m).modify j (fun e=>match e with |(_,_,n)=>(.bs t,.int .i64 w,n))=lX (lS t w l) m
 |[],_,h=>by cases h
 |(k,u)::l,n,h=>by
  rw[kC]at h;rw[yr]
  by_cases e:t=k
  ·rw[if_pos e]at h ⊢;cases h;refine⟨0,rfl,by simp,fun w m=>?_⟩;rw[lS,if_pos e,lX,lX,e];rfl
  ·rw[if_neg e]at h ⊢;obtain⟨j,h1,h2,h3⟩:=JX (n+1) h;refine⟨j+1,by rw[h1,show n+1+j=n+(j+1) by omega],by simp;omega,fun w m=>?_⟩;rw[lS,if_neg e,lX,lX,← h3 w (m+1)];rfl
theorem Qt {t:ByteArray}{w:Int}:∀{l:List (ByteArray×Int)},kC t l=none→lS t w l=l++[(t,w)]
 |[],_=>rfl
 |(k,v)::l,h=>by
  rw[kC]at h;rw[lS]
  by_cases e:t=k
  ·rw[if_pos e]at h;cases h
  ·rw[if_neg e]at h ⊢;rw[Qt h];rfl
theorem Rv (t:ByteArray) (w:Int):∀(l:List (ByteArray×Int)) (n:Nat),lX (l++[(t,w)]) n=lX l n++[(.bs t,.int .i64 w,n+l.length)]
 |[],n=>rfl
 |(k,v)::l,n=>by
  rw[List.cons_append,lX,lX,Rv t w l (n+1)];simp;omega
theorem Qs {t:ByteArray}{w:Int}:∀{l:List (ByteArray×Int)}{v:Int},kC t l=some v→(lS t w l).length=l.length
 |[],_,h=>by cases h
 |(k,u)::l,v,h=>by
  rw[kC]at h;rw[lS]
  by_cases e:t=k
  ·rw[if_pos e];rfl
  ·rw[if_neg e]at h ⊢;simp[Qs h]
structure fB (O:Nat→Prop) (e b:Nat)(u:Bool)(d:List Fc)(S:GS)(h:Tr ABlk) (nx:Nat):Prop where
 le:e<b
 lb:b+6≤nx
 hO:∀k,O k→k=b∨b+6≤k
 ge:h.get e=some (bx 35 [.fz 4 u (aP d)] false 0)
 gm:h.get (b+1)=some (bx 182 [.ptr b 0] false 0)
 gd:h.get (b+2)=some (.map (lX S.D 0) S.D.length)
 gv:h.get (b+3)=some (bx 183 [.map (b+2)] false 0)
 gf:h.get (b+4)=some (bx 4 [.bool S.full] false 0)
 gg:h.get (b+5)=some (bx 169 [.func 138 [] [.ptr (b+1) 0,.ptr (b+4) 0,.ptr e 0,.ptr (b+3) 0,.ptr (b+5) 0]] false 0)
 mkS:jC O h nx b S.L
def KG (O:Nat→Prop) (b:Nat)(h:Tr ABlk) (nx:Nat)(O':Nat→Prop)(g:Tr ABlk) (ny:Nat):Prop:=nx≤ny∧(∀k,k<nx→¬O k→k≠b+2→k≠b+4→g.get k=h.get k)∧∀k,O' k→O k∨nx≤k
theorem fB.ext {O:Nat→Prop}{e b:Nat}{u:Bool}{d:List Fc}{S:GS}{h g:Tr ABlk}{nx ny:Nat}(G:fB O e b u d S h nx)(x:aA nx h g)(hn:nx≤ny):fB O e b u d S g ny:=by
 obtain⟨le,lb,hO,ge,gm,gd,gv,gf,gg,mk⟩:=G;refine⟨le,by omega,hO,?_,?_,?_,?_,?_,?_,mk.ext x hn⟩
 all_goals (rw[x _ (by omega)];assumption)
theorem fB.node {O O':Nat→Prop}{e b:Nat}{u:Bool}{d:List Fc}{S:GS}{L':List Nd}{h g:Tr ABlk}{nx ny:Nat}(G:fB O e b u d S h nx)(K:fh O h nx O' g ny)(m:jC O' g ny b L'):fB O' e b u d { S with L:=L' } g ny:=by
 obtain⟨le,lb,hO,ge,gm,gd,gv,gf,gg,mk⟩:=G;obtain⟨k1,k2,k3⟩:=K;have hn:∀k,O k→k=b∨b+6≤k:=hO;refine⟨le,by omega,fun k hk=>?_,?_,?_,?_,?_,?_,?_,m⟩
 ·rcases k3 k hk with q |q
  ·exact hO k q
  ·exact .inr (by omega)
 all_goals (rw[k2 _ (by omega) (fun q=>by have:=hn _ q;omega)];assumption)
theorem fB.setF {O:Nat→Prop}{e b:Nat}{u:Bool}{d:List Fc}{S:GS}{h:Tr ABlk}{nx:Nat}(G:fB O e b u d S h nx)(f:Bool):fB O e b u d { S with full:=f } (h.put (b+4) (some (bx 4 [.bool f] false 0))) nx:=by
 obtain⟨le,lb,hO,ge,gm,gd,gv,gf,gg,mk⟩:=G;refine⟨le,lb,hO,?_,?_,?_,?_,by simp[go_sem],?_,mk.mono (fun _ q=>q) (fun k hk q=>by have:=hO k q;rw[Tr.get_put,if_neg (by omega)]) (ae _)⟩
 all_goals (rw[Tr.get_put,if_neg (by omega)];assumption)
theorem fB.setD {O:Nat→Prop}{e b:Nat}{u:Bool}{d:List Fc}{S:GS}{h:Tr ABlk}{nx:Nat}(G:fB O e b u d S h nx)(D':List (ByteArray×Int)):fB O e b u d { S with D:=D' } (h.put (b+2) (some (.map (lX D' 0) D'.length))) nx:=by
 obtain⟨le,lb,hO,ge,gm,gd,gv,gf,gg,mk⟩:=G;refine⟨le,lb,hO,?_,?_,by simp[go_sem],?_,?_,?_,mk.mono (fun _ q=>q) (fun k hk q=>by have:=hO k q;rw[Tr.get_put,if_neg (by omega)]) (ae _)⟩
 all_goals (rw[Tr.get_put,if_neg (by omega)];assumption)
theorem Rl (b:Nat)(x:Bool):fp [.ptr b 0,.agg [.int .i64 0,.sl0,.sl0,.bool x]] [.ptr b 0,.agg (cj x).cs]:=
 .cons _ _ _ _ (.same _) (.cons _ _ _ _ (.agg _ _ (.cons _ _ _ _ (.same _) (.cons _ _ _ _ (.sl0 1 false) (.cons _ _ _ _ (.sl0 1 false) (.cons _ _ _ _ (.same _) .nil))))) .nil)
theorem KG.trans {O O1 O2:Nat→Prop}{b:Nat}{h g f:Tr ABlk}{nx n1 n2:Nat}(x:KG O b h nx O1 g n1)(y:KG O1 b g n1 O2 f n2):KG O b h nx O2 f n2:=by
 obtain⟨a1,a2,a3⟩:=x;obtain⟨b1,b2,b3⟩:=y;refine⟨by omega,fun k k1 k2 k3 k4=>?_,fun k hk=>?_⟩
 ·rw[b2 k (by omega) (fun q=>by rcases a3 k q with r |r;exact k2 r;omega) k3 k4,a2 k k1 k2 k3 k4]
 ·rcases b3 k hk with q |q
  ·exact a3 k q
  ·exact .inr (by omega)
theorem KG.ofExt {O:Nat→Prop}{b:Nat}{h g:Tr ABlk}{nx ny:Nat}(x:aA nx h g)(hn:nx≤ny):KG O b h nx O g ny:=⟨hn,fun k hk _ _ _=>x k hk,fun _ h=>.inl h⟩
theorem KG.ofKept {O O':Nat→Prop}{b:Nat}{h g:Tr ABlk}{nx ny:Nat}(K:fh O h nx O' g ny):KG O b h nx O' g ny:=⟨K.1,fun k hk ho _ _=>K.2.1 k hk ho,K.2.2⟩
theorem KG.setF {O:Nat→Prop}{b:Nat}{h:Tr ABlk}{nx:Nat}(B:Option ABlk):KG O b h nx O (h.put (b+4) B) nx:=⟨ae _,fun k _ _ _ h4=>by rw[Tr.get_put,if_neg h4],fun _ h=>.inl h⟩
theorem KG.setD {O:Nat→Prop}{b:Nat}{h:Tr ABlk}{nx:Nat}(B:Option ABlk):KG O b h nx O (h.put (b+2) B) nx:=⟨ae _,fun k _ _ h4 _=>by rw[Tr.get_put,if_neg h4],fun _ h=>.inl h⟩
theorem RE (b:Bool):jH (cj b):=(DD b []).1
theorem fB.all {O:Nat→Prop}{e b:Nat}{u:Bool}{d:List Fc}{S:GS}{h:Tr ABlk}{nx:Nat}(G:fB O e b u d S h nx):∃a c,h.get b=some (bx 187 [a,c] false 0)∧((S.L.length=0∧a=.sl0)∨∃q,a=.sl q 0 S.L.length 0 true):=by
 obtain⟨_,a,c,h1,h2⟩:=G.mkS;refine⟨a,c,h1,?_⟩
 rcases h2.2.2.2 with⟨q1,q2,q3⟩ |⟨q1,m,q,_,_,_,_,_,_,_,_,_,q2,_⟩
 ·exact .inl ⟨by rw[q1];rfl,q2⟩
 ·exact .inr ⟨q,q2⟩
theorem jC.low {O:Nat→Prop}{h:Tr ABlk}{nx p:Nat}{L:List Nd}(m:jC O h nx p L):jC (fun k=>O k∧k<nx) h nx p L:=by
 obtain⟨h1,a,c,h2,u1,u2,u3,u4⟩:=m;refine⟨h1,a,c,h2,u1,⟨u2,u3⟩,u3,?_⟩
 rcases u4 with u4 |⟨u4,m,q,o1,o2,m1,q1,rest⟩
 ·exact .inl u4
 ·exact .inr ⟨u4,m,q,⟨o1,m1⟩,⟨o2,q1⟩,m1,q1,rest⟩
theorem fB.low {O:Nat→Prop}{e b:Nat}{u:Bool}{d:List Fc}{S:GS}{h:Tr ABlk}{nx:Nat}(G:fB O e b u d S h nx):fB (fun k=>O k∧k<nx) e b u d S h nx:=by
 obtain⟨le,lb,hO,ge,gm,gd,gv,gf,gg,mk⟩:=G;exact⟨le,lb,fun k hk=>hO k hk.1,ge,gm,gd,gv,gf,gg,mk.low⟩
theorem KG.low {O O':Nat→Prop}{b:Nat}{h g:Tr ABlk}{nx ny:Nat}(K:KG O b h nx O' g ny):KG O b h nx (fun k=>O' k∧k<ny) g ny:=⟨K.1,K.2.1,fun k hk=>K.2.2 k hk.1⟩
theorem KG.up {O O':Nat→Prop}{b:Nat}{h g:Tr ABlk}{nx ny:Nat}(K:KG (fun k=>O k∧k<nx) b h nx O' g ny):KG O b h nx O' g ny:=⟨K.1,fun k h1 h2=>K.2.1 k h1 (fun q=>h2 q.1),fun k hk=>by rcases K.2.2 k hk with q |q;exact .inl q.1;exact .inr q⟩
def vd (d:List Fc)(u:Bool) (e b k:Nat)(f:Fm)(S:GS)(O:Nat→Prop)(h:Tr ABlk) (nx:Nat)(R:AV→Tr ABlk→Nat→Prop):Prop:=
 ∀O' g ny,KG O b h nx O' g ny→fB O' e b u d (bZ d k f S).2 g ny→R (.int .i64 (bZ d k f S).1) g ny
theorem WM {d:List Fc}{u:Bool}{e b k:Nat}{f:Fm}{S:GS}{O:Nat→Prop}{h:Tr ABlk}{nx:Nat}{R:AV→Tr ABlk→Nat→Prop}(hL:S.L.length<1000000)(hG:fB O e b u d S h nx)(hR:vd d u e b k f S O h nx R)(x:Bool)(hx:bZ d k f S=cR (cj x) S)(g:Tr ABlk)(hE:aA nx h g):
  aN Tryz.prog cx 139 [.ptr b 0,.agg [.int .i64 0,.sl0,.sl0,.bool x]] g (nx+1) R:=by
 unfold vd at hR;refine aN.wk (Rl b x) ?_;refine GK O _ _ b S.L (cj x) ((hG.ext hE (by omega)).mkS) (RE x) (by omega) _ fun O' g' ny K M=>?_;rw[hx]at hR;exact hR O' g' ny ((KG.ofExt hE (by omega)).trans (KG.ofKept K)) ((hG.ext hE (by omega)).node K M)
theorem Qd {d:List Fc}{u:Bool}{e b k:Nat}{f:Fm}{S:GS}{O:Nat→Prop}{h:Tr ABlk}{nx:Nat}{R:AV→Tr ABlk→Nat→Prop}(hL:S.L.length<1000000)(hG:fB O e b u d S h nx)(hR:vd d u e b k f S O h nx R)(x:Bool)(hx:bZ d k f S=cR (cj false) { S with full:=x })(g:Tr ABlk)(hE:aA nx h g):
  aN Tryz.prog cx 139 [.ptr b 0,.agg [.int .i64 0,.sl0,.sl0,.bool false]] (g.put (b+4) (some (bx 4 [.bool x] false 0))) (nx+1) R:=by
 unfold vd at hR;have Mh:=(hG.ext hE (Nat.le_succ nx)).setF x;refine aN.wk (Rl b false) ?_;refine GK O _ _ b S.L (cj false) Mh.mkS (RE false) (by omega) _ fun O' g' ny K M=>?_;rw[hx]at hR;exact hR O' g' ny (((KG.ofExt hE (Nat.le_succ nx)).trans (KG.setF _)).trans (KG.ofKept K)) (Mh.node K M)
theorem Rc (d:List Fc)(u:Bool) (e b k i:Nat)(f:Fm)(S:GS)(O:Nat→Prop)(h:Tr ABlk) (nx:Nat)(R:AV→Tr ABlk→Nat→Prop)(hL:S.L.length<1000000)(hG:fB O e b u d S h nx)(hR:vd d u e b k f S O h nx R)
  (h1:f.op=1∨f.op=2→bZ d k f S=cR (cj (decide (f.op=1))) S) (h2:¬(f.op=1∨f.op=2)→bZ d k f S=cR (cj false) { S with full:=jU S }) (h3:(f.op=1∨f.op=2)∨jU S=true∨i=d.length):
  aN Tryz.prog cx 138 [.agg f.cs,.int .i64 (i:Int),.ptr (b+1) 0,.ptr (b+4) 0,.ptr e 0,.ptr (b+3) 0,.ptr (b+5) 0] h nx R:=by
 obtain⟨o,nn,cm,m,kids⟩:=f;have uj:=hG.lb;have hle:=hG.le;have sh:=hG.gm;have lD:=hG.ge;have ud:=hG.gf;obtain⟨ma,mc,gb,hA⟩:=hG.all;have b1:¬b+1=nx:=by omega
 have b2:¬b+4=nx:=by omega
 have b3:¬e=nx:=by omega
 have b4:¬b=nx:=by omega
 have b5:¬e=b+4:=by omega
 have vx:∀x,aA nx h (h.put nx x):=fun x=>by simp(disch:=omega)only[aL];exact aA.refl _ _
 refine aV (sz:=107) (rs:=[.tmp 9]) aE Y6 rfl rfl rfl (by simp) ?_
 by_cases o1:o=1
 ·subst o1;simp-implicitDefEqProofs[go_sem,Fm.cs,sh,b1];refine(WM hL hG hR true (by rw[h1 (.inl rfl)];rfl) _ (vx _)).mono fun v g ny hh=>?_;simp-implicitDefEqProofs[go_sem,aB];exact hh
 by_cases o2:o=2
 ·subst o2;simp-implicitDefEqProofs[go_sem,Fm.cs,sh,b1];refine(WM hL hG hR false (by rw[h1 (.inr rfl)];rfl) _ (vx _)).mono fun v g ny hh=>?_;simp-implicitDefEqProofs[go_sem,aB];exact hh
 have eE:¬((Fm.mk o nn cm m kids).op=1∨(Fm.mk o nn cm m kids).op=2):=by show ¬(o=1∨o=2);omega
 have uf:∀x,jU S=x→bZ d k (.mk o nn cm m kids) S=cR (cj false) { S with full:=x }:=fun x hx=>by
  rw[h2 eE,hx]
 cases hF:S.full with
 |true=>
  rw[hF]at ud;have ia:=Qd hL hG hR true (uf true (by unfold jU;rw[hF];rfl)) _ (vx (some (bx 24 [.int .i64 o,.bs nn,.int .i64 cm,.int .i64 m,.fz 5 false (cy kids)] false 0)));simp-implicitDefEqProofs[go_sem,Fm.cs,sh,ud,b1,b2,o1,o2];refine ia.mono fun v g ny hh=>?_;simp-implicitDefEqProofs[go_sem,aB];exact hh
 |false=>
  rw[hF]at ud;have Ci:(aP d).length=d.length:=by simp[aP]
  by_cases dH:20000<S.L.length
  ·have ia:=Qd hL hG hR true (uf true (by unfold jU;rw[hF];simpa using dH)) _ (vx (some (bx 24 [.int .i64 o,.bs nn,.int .i64 cm,.int .i64 m,.fz 5 false (cy kids)] false 0)));have cX:(20000:Int)<(S.L.length:Int):=by omega
   rcases hA with⟨h0,_⟩ |⟨q,ha⟩
   ·omega
   ·subst ha;simp-implicitDefEqProofs[go_sem,Fm.cs,sh,ud,gb,b1,b2,b4,o1,o2,cX];refine ia.mono fun v g ny hh=>?_;simp-implicitDefEqProofs[go_sem,aB];exact hh
  ·have ia:=Qd hL hG hR false (uf false (by unfold jU;rw[hF];simpa using dH)) _ (vx (some (bx 24 [.int .i64 o,.bs nn,.int .i64 cm,.int .i64 m,.fz 5 false (cy kids)] false 0)));have cX:¬(20000:Int)<(S.L.length:Int):=by omega
   have hid:i=d.length:=by
    rcases h3 with q |q |q
    ·exact absurd q eE
    ·unfold jU at q;rw[hF]at q;simp at q;omega
    ·exact q
   subst hid
   rcases hA with⟨h0,ha⟩ |⟨q,ha⟩
   ·subst ha;simp-implicitDefEqProofs[go_sem,Fm.cs,sh,ud,lD,gb,b1,b2,b3,b4,b5,o1,o2,Ci];refine ia.mono fun v g ny hh=>?_;simp-implicitDefEqProofs[go_sem,aB];exact hh
   ·subst ha;simp-implicitDefEqProofs[go_sem,Fm.cs,sh,ud,lD,gb,b1,b2,b3,b4,b5,o1,o2,cX,Ci];refine ia.mono fun v g ny hh=>?_;simp-implicitDefEqProofs[go_sem,aB];exact hh
theorem fB.but {O:Nat→Prop}{e b q:Nat}{u:Bool}{d:List Fc}{S:GS}{h g:Tr ABlk}{nx ny:Nat}(G:fB O e b u d S h nx)(hq:b+6≤q)(hO:¬O q)(x:∀k,k<nx→k≠q→g.get k=h.get k)(hn:nx≤ny):fB O e b u d S g ny:=by
 obtain⟨le,lb,hO,ge,gm,gd,gv,gf,gg,mk⟩:=G;refine⟨le,by omega,hO,?_,?_,?_,?_,?_,?_,mk.mono (fun _ q=>q) (fun k hk ei=>x k hk (fun e2=>by subst e2;contradiction)) hn⟩
 all_goals (rw[x _ (by omega) (by omega)];assumption)
theorem KG.but {O O1:Nat→Prop}{b q:Nat}{h g f:Tr ABlk}{nx n1 n2:Nat}(K:KG O b h nx O1 g n1)(hq:nx≤q)(x:∀k,k<n1→k≠q→f.get k=g.get k)(hn:n1≤n2):KG O b h nx O1 f n2:=by
 obtain⟨a1,a2,a3⟩:=K;exact⟨by omega,fun k k1 k2 k3 k4=>by rw[x k (by omega) (by omega),a2 k k1 k2 k3 k4],a3⟩
def SK (lo:Nat)(O:Nat→Prop)(h:Tr ABlk) (nx:Nat)(v:AV)(ks:List Int):Prop:=(ks=[]∧v=.sl0)∨(ks≠[]∧∃q,lo≤q∧q<nx∧¬O q∧v=.sl q 0 ks.length 0 true∧h.get q=some (bx 3 (aI ks) true 1))
theorem zPh (g:Int→GS→Int×GS) (v:Int)(l:List Int)(S:GS):dQ g (v::l) S=((g v S).1::(dQ g l (g v S).2).1,(dQ g l (g v S).2).2):=rfl
theorem zRp (d:List Fc)(hd:d.length≤1000)(hv:∀x∈d,x.lo≤x.hi∧cS x.lo∧cS x.hi)(u:Bool) (e b k i:Nat)(f:Fm)(S:GS)(O:Nat→Prop)(h:Tr ABlk) (nx:Nat)(R:AV→Tr ABlk→Nat→Prop)(hi:i+(k+1)=d.length)(Ip:iw f)(hfs:f.size≤1000)(eE:¬(f.op=1∨f.op=2))(sF:jU S=false)(hGI:GI S)(hG:fB O e b u d S h nx)(B8:∀k,O k→k<nx)(hR:vd d u e b (k+1) f S O h nx R)
  (ih:∀(f:Fm) (S:GS) (O:Nat→Prop) (h:Tr ABlk) (nx:Nat) (R:AV→Tr ABlk→Nat→Prop),iw f→f.size≤1000→GI S→inn S.L≤20000+d.length+1→fB O e b u d S h nx→vd d u e b k f S O h nx R→
   aN Tryz.prog cx 138 [.agg f.cs,.int .i64 ((i:Int)+1),.ptr (b+1) 0,.ptr (b+4) 0,.ptr e 0,.ptr (b+3) 0,.ptr (b+5) 0] h nx R):
  aN Tryz.prog cx 138 [.agg f.cs,.int .i64 (i:Int),.ptr (b+1) 0,.ptr (b+4) 0,.ptr e 0,.ptr (b+3) 0,.ptr (b+5) 0] h nx R:=by
 have hF:S.full=false:=by unfold jU at sF;simp at sF;exact sF.1
 have dH:¬20000<S.L.length:=by unfold jU at sF;simp at sF;omega
 have cX:¬(20000:Int)<(S.L.length:Int):=by omega
 have ox:(iv f).length≤1100000:=by have:=Ip.spell;omega
 have hfI:DV f:=Ip.I;have FT:=zRb f;have uj:=hG.lb;have hle:=hG.le;have sh:=hG.gm;have lD:=hG.ge;have ud:=hG.gf;obtain⟨ma,mc,gb,hA⟩:=hG.all;have b1:¬b+1=nx:=by omega
 have b2:¬b+4=nx:=by omega
 have b3:¬e=nx:=by omega
 have b4:¬b=nx:=by omega
 have b5:¬e=b+4:=by omega
 have b6:¬nx=b+4:=by omega
 have b7:¬nx=nx+1:=by omega
 have b8:¬nx+1=b+4:=by omega
 have o1:¬f.op=1:=fun q=>eE (.inl q);have o2:¬f.op=2:=fun q=>eE (.inr q);have hid:¬i=d.length:=by omega
 obtain⟨ez,bU⟩:∃l,l=f.cs:=⟨_,rfl⟩;have nD:ez.length=5:=by rw[bU];cases f;rfl
 have Io:∀hh,ez[0]'hh=.int .i64 f.op:=by subst bU;intro hh;cases f;rfl
 have cA:ez.take 5=ez:=ar (by omega);have Ci:(aP d).length=d.length:=by simp[aP]
 rw[← bU];rw[hF]at ud;have xT:(i:Int)<1000:=by omega
 refine aV (sz:=107) (rs:=[.tmp 9]) aE Y6 rfl rfl rfl (by simp) ?_;obtain⟨SH,qae⟩:∃B,B=some (bx 24 ez false 0):=⟨_,rfl⟩;have Mh:=(hG.ext (g:=h.put nx SH) (by simp(disch:=omega)only[aL];exact aA.refl _ _) (Nat.le_succ nx)).setF false;have pN:KG O b h nx O ((h.put nx SH).put (b+4) (some (bx 4 [.bool false] false 0))) (nx+1):=(KG.ofExt (by simp(disch:=omega)only[aL];exact aA.refl _ _) (Nat.le_succ nx)).trans (KG.setF _);have pO:∀(e:TypeId) (size b:Nat) (z:Option AV) (fs:List (Nat×Nat×Bool)) (g:Tr ABlk) (n:Nat),lP (.mk (.slice e) size b z fs) ma g n=.val (.int .i64 (S.L.length:Int)) g n:=by
  intro e' size b' z fs g n
  rcases hA with⟨h0,ha⟩ |⟨q,ha⟩
  ·rw[ha,GL,h0];rfl
  ·rw[ha,Hg]
 clear hA;have Nc:¬(i:Int)=(d.length:Int):=by omega
 simp-implicitDefEqProofs[go_sem,sh,ud,lD,gb,b1,b2,b3,b4,b5,b6,o1,o2,cX,pO,Ci,nD,Io,cA,aG,Nc];have E0:aA nx h (h.put nx (some (bx 24 ez false 0))):=by simp(disch:=omega)only[aL];exact aA.refl _ _
 have H9:=(hG.ext E0 (Nat.le_succ nx)).setF false;have B6:KG O b h nx O _ (nx+1):=(KG.ofExt E0 (Nat.le_succ nx)).trans (KG.setF (some (bx 4 [.bool false] false 0)));have Mu:((h.put nx (some (bx 24 ez false 0))).put (b+4) (some (bx 4 [.bool false] false 0))).get nx=some (bx 24 ez false 0):=by simp[go_sem,b6]
 generalize hM:(h.put nx (some (bx 24 ez false 0))).put (b+4) (some (bx 4 [.bool false] false 0))=M at H9 B6 Mu;have MS:=H9.ge;clear hM E0 sh lD ud gb pO Io;have Tz:rm (M.put (nx+1) (some (bx 192 [.ptr0,.sl0] false 0))) (nx+1+1) (nx+1) (nx+1) []:=⟨by omega,.inl ⟨rfl,by simp[go_sem]⟩⟩
 conv=>arg 4;rw[bU]
 refine zM8 f.size (nx+1) f [] _ _ (nx+1) _ (ae _) (by omega) hfI Tz (by simp;omega) fun v g ny q' c1 c2 c3 c4=>?_;have qj:nx+1<q':=by
  rcases c4.2 with⟨e1,_⟩ |⟨_,_,e1,_⟩
  ·exact absurd e1 (by simpa using FT)
  ·omega
 have E1:aA (nx+1) M (g.put q' none):=fun k1 cO=>by
  rw[Tr.get_put,if_neg (by omega),c2 k1 (by omega) (by omega) (by omega),Tr.get_put,if_neg (by omega)]
 have xE:=H9.ext E1 (show nx+1≤ny by omega);have Es:KG O b h nx O (g.put q' none) ny:=B6.trans (KG.ofExt E1 (by omega));have od:(g.put q' none).get nx=some (bx 24 ez false 0):=by rw[E1 nx (by omega)];exact Mu
 rw[List.nil_append]at c4;simp-implicitDefEqProofs[go_sem,aB];refine ay.use (K3 (i:Int) (by omega) (by omega)) ?_;simp-implicitDefEqProofs[go_sem,aB];have lF:=wK (i:Int) ⟨by omega,by omega⟩;obtain⟨ta,sS⟩:∃t:ByteArray,t=⟨(Lib.itoa (i:Int)).toArray⟩:=⟨_,rfl⟩;obtain⟨tb,FW⟩:∃t:ByteArray,t=⟨(iv f).toArray⟩:=⟨_,rfl⟩;have hz:ta.size+tb.size≤9223372036854775807:=by
  rw[sS,FW];simp[ByteArray.size];omega
 have UB:rH i f=ta++tb:=by rw[sS,FW];rfl
 refine zSx g ny (nx+1) q' (iv f) FT (by omega) c4 _ ?_;rw[← sS,← FW];generalize (g.put q' none)=M3 at xE Es od;clear c2 c3 c4 E1 H9 B6 Mu MS sS FW Tz qj;have gm3:=xE.gm;have ge3:=xE.ge;have Tn:=xE.gv;have Ti:=xE.gd;have gg3:=xE.gg;cases ug:kC (ta++tb) S.D with
 |some v=>
  obtain⟨j,f1,f2,f3⟩:=JX 0 ug;simp-implicitDefEqProofs[go_sem,aB,hz,Tn,Ti,f1,bP];have uf:bZ d (k+1) f S=(v,{ S with full:=false }):=by
   rw[bZ,if_neg eE,sF,show d.length-(k+1)=i by omega,UB,ug];rfl
  unfold vd at hR;rw[uf]at hR;exact hR O _ ny Es xE
 |none=>
  have f1:=KP 0 ug;simp-implicitDefEqProofs[go_sem,aB,hz,Tn,Ti,f1,bP];have lF:i<d.length:=by omega
  obtain⟨x,hx⟩:∃x,x=d[i]:=⟨_,rfl⟩;have Aw:x∈d:=by rw[hx];exact ai lF
  obtain⟨v1,v2,v3⟩:=hv x Aw;have hxD:d.getD i ⟨.empty,0,0,0⟩=x:=by
   rw[hx,an,aa lF];rfl
  have uf:bZ d (k+1) f S=((eu i (fj f x) (dQ (fun v S=>bZ d k (bQ x.name v f) S) (fj f x) { S with full:=false }).1 (dQ (fun v S=>bZ d k (bQ x.name v f) S) (fj f x) { S with full:=false }).2).1,{ (eu i (fj f x) (dQ (fun v S=>bZ d k (bQ x.name v f) S) (fj f x) { S with full:=false }).1 (dQ (fun v S=>bZ d k (bQ x.name v f) S) (fj f x) { S with full:=false }).2).2 with D:=lS (ta++tb) (eu i (fj f x) (dQ (fun v S=>bZ d k (bQ x.name v f) S) (fj f x) { S with full:=false }).1 (dQ (fun v S=>bZ d k (bQ x.name v f) S) (fj f x) { S with full:=false }).2).1 (eu i (fj f x) (dQ (fun v S=>bZ d k (bQ x.name v f) S) (fj f x) { S with full:=false }).1 (dQ (fun v S=>bZ d k (bQ x.name v f) S) (fj f x) { S with full:=false }).2).2.D }):=by
   rw[bZ,if_neg eE,sF,show d.length-(k+1)=i by omega,UB,ug,hxD];rfl
  have aW:=zGv f x (by omega);rw[← bU]at aW;have kP:=Sx f x;have vV:=Ps f x v1;have FR:∀a∈fj f x,cS a:=fun a ha=>by
   have:=XH f x a ha;obtain⟨p1,p2⟩:=v2;obtain⟨p3,p4⟩:=v3;exact⟨by omega,by omega⟩
  generalize fj f x=bO at aW kP vV FR uf;generalize M8:(fun v S=>bZ d k (bQ x.name v f) S)=gg at uf;obtain⟨FG,Er⟩:∃FG,FG=dQ gg bO { S with full:=false }:=⟨_,rfl⟩;rw[← Er]at uf;refine ik mixed aE eO [] [6] [] (by kernel_rfl) ?_;simp-implicitDefEqProofs[go_sem,od,ge3,lF,← hx,nD,cA];refine gR aW ?_;simp-implicitDefEqProofs[go_sem,fg];have hnO:¬O nx:=fun q=>by have:=B8 nx q;omega
  have Ni:inn S.L≤20000:=Nat.le_trans (List.length_filter_le _ _) (by omega);have Oh:Fc.cs x=[.bs x.name,.int .i64 x.kind,.int .i64 x.lo,.int .i64 x.hi]:=by cases x;rfl
  have w1:IntKind.i64.wrap ((i:Int)+1)=(i:Int)+1:=by rw[aY] <;> omega
  refine bT (fun mm st=>∃tm h' ax j O' S' ks kv,st=.mk tm h' ax []∧mm=bO.length-j∧j≤bO.length∧tm.get 1=some (.int .i64 (i:Int))∧tm.get 2=some (.ptr (b+1) 0)∧tm.get 4=some (.ptr e 0)∧tm.get 5=some (.ptr (b+3) 0)∧tm.get 6=some (.ptr (b+5) 0)∧tm.get 7=some (.ptr nx 0)∧tm.get 11=some (.bs (ta++tb))∧tm.get 14=some (.fz 1 false (aI bO))∧tm.get 15=some kv∧tm.get 75=some (.fz 1 false (aI bO))∧tm.get 76=some (.int .i64 (bO.length:Int))∧tm.get 77=some (.int .i64 (j:Int))∧
   SK ny O' h' ax kv ks∧ks.length=j∧KG O b M3 ny O' h' ax∧fB O' e b u d S' h' ax∧(∀a,O' a→a<ax)∧GI S'∧inn S'.L≤20000+k∧(∀a∈ks,0≤a∧a<(S'.L.length:Int))∧
   RowKit.Hid (FG=(ks++(dQ gg (bO.drop j) S').1,(dQ gg (bO.drop j) S').2))) ⟨bO.length,_,_,_,0,O,{ S with full:=false },[],.sl0,rfl,by simp,by simp,?_⟩ ?_
  ·simp-implicitDefEqProofs[go_sem];exact⟨.inl ⟨rfl,rfl⟩,KG.ofExt (aA.refl _ _) (ae _),xE,fun a ha=>by have:=B8 a ha;omega,hGI.full false,by omega,Lib.hid Er⟩
  ·rintro mm st ⟨tm,h',ax,j,O',S',ks,kv,rfl,rfl,hj,t1,t2,t4,t5,t6,t7,t11,t14,t15,t75,t76,t77,zS,eZ,xH,qJ,Mx,nX,og,l5,bF⟩ J hJ
   refine bt aE _ ?_;have ML:h'.get nx=some (bx 24 ez false 0):=by rw[xH.2.1 nx (by omega) hnO (by omega) (by omega)];exact od
   have M7:=qJ.ge;have M9:=qJ.gg;have Na:=qJ.gm;have hL':=nX.len
   by_cases az:j<bO.length
   ·obtain⟨y,hy⟩:∃y,y=bO[j]:=⟨_,rfl⟩;have aJ:=bF.out;rw[aj az,← hy,zPh]at aJ;have HV:=Lib.hid aJ;clear aJ bF;have xR:=Yl f.size f x.name y (ae _) (by omega) Ip.notOk;rw[← bU]at xR;obtain⟨gG,gS⟩:=BJ x.name y Ip;simp-implicitDefEqProofs[go_sem,t75,t76,t77,az,← hy];refine GN mixed aE eO 13 [] [10] [] [(0,15,81)] 2 (by kernel_rfl) (by kernel_rfl) ?_;simp-implicitDefEqProofs[go_sem,t1,t4,t6,t7,t15,ML,M7,M9,lF,← hx,Oh,nD,cA];refine gR xR ?_;simp-implicitDefEqProofs[go_sem,fg,w1,t1,t15];have ig:=Hw d hd hv k (bQ x.name y f) S' (by omega) gG (by omega) nX (by omega);have Lt:gg y S'=bZ d k (bQ x.name y f) S':=by rw[← M8]
    rw[Lt]at HV;refine ih _ S' O' h' ax _ gG (by omega) nX (by omega) qJ ?_;intro O2 g2 n2 rK rJ;have K2:=rK.low;have G2:=rJ.low;clear rK rJ;generalize bZ d k (bQ x.name y f) S'=GV at ig HV G2 ⊢;obtain⟨w,S2⟩:=GV;obtain⟨q1,q2,q3,q4⟩:=ig;simp only at q1 q2 q3 q4 G2 ⊢;have q3l:=q3.len;have hKn:=xH.1;have oU:=K2.1;have pN:=xH.trans K2;have zU:∀a,a∈ks∨a=w→0≤a∧a<(S2.L.length:Int):=fun a ha=>by
     rcases ha with ha |rfl
     ·have:=l5 a ha;omega
     ·exact q2
    rcases zS with⟨rfl,rfl⟩ |⟨fV,q,lq,qn,qO,rfl,gq⟩
    ·simp-implicitDefEqProofs[go_sem,aB,t77];refine hJ (bO.length-(j+1)) _ (by omega) ⟨_,_,_,j+1,fun k=>O2 k∧k<n2,S2,[w],.sl (n2+1) 0 1 0 true,rfl,rfl,by omega,?_⟩;simp-implicitDefEqProofs (disch:=omega) [go_sem,t1,t2,t4,t5,t6,t7,t11,t14,t75,t76,aY];refine⟨.inr ⟨by simp,n2+1,by omega,by omega,fun hq=>by omega,rfl,by simp[go_sem,aI]⟩,by simp at eZ;omega,pN.but (q:=n2) (by omega) (fun k k1 k2=>by rw[Tr.get_put,if_neg (by omega),Tr.get_put,if_neg (by omega)]) (by omega),G2.but (q:=n2) (by omega) (fun hq=>by omega) (fun k k1 k2=>by rw[Tr.get_put,if_neg (by omega),Tr.get_put,if_neg (by omega)]) (by omega),by intros;omega,q1,by omega,?_,Lib.hid (by have:=HV.out;simpa using this)⟩;exact q2
    ·have OF:¬(O2 q∧q<n2):=fun hq=>by
      rcases K2.2.2 q hq with r |r
      ·exact qO r
      ·omega
     have vt:g2.get q=some (bx 3 (aI ks) true 1):=by rw[K2.2.1 q qn qO (by omega) (by omega)];exact gq
     have z1:¬q=n2:=by omega
     have z2:¬n2=q:=by omega
     have z3:¬n2+1=q:=by omega
     have fo:=ve ks;have vM:ks.length+1≤16777216:=by omega
     simp-implicitDefEqProofs[go_sem,aB,t77,vt,z1,vM];refine hJ (bO.length-(j+1)) _ (by omega) ⟨_,_,_,j+1,fun k=>O2 k∧k<n2,S2,ks++[w],.sl (n2+1) 0 (ks.length+1) 0 true,rfl,rfl,by omega,?_⟩;simp-implicitDefEqProofs (disch:=omega) [go_sem,t1,t2,t4,t5,t6,t7,t11,t14,t75,t76,aY];refine⟨.inr ⟨by simp,n2+1,by omega,by omega,fun hq=>by omega,by simp,by simp[go_sem,aI]⟩,eZ,pN.but (q:=q) (by omega) (fun k k1 k2=>by rw[Tr.get_put,if_neg (by omega),Tr.get_put,if_neg (by omega),Tr.get_put,if_neg (by omega)]) (by omega),G2.but (q:=q) (by omega) OF (fun k k1 k2=>by rw[Tr.get_put,if_neg (by omega),Tr.get_put,if_neg (by omega),Tr.get_put,if_neg (by omega)]) (by omega),by intros;omega,q1,by omega,zU,Lib.hid (by have:=HV.out;simpa using this)⟩
   ·have zT:FG=(ks,S'):=by
     have:=bF.out;rw[aq (by omega)]at this;simpa[dQ]using this
    have sB:ks.length=bO.length:=by omega
    rcases zS with⟨rfl,_⟩ |⟨fV,q,lq,qn,qO,rfl,gq⟩
    ·exact absurd (au (by simpa using sB.symm)) vV
    obtain⟨k0,kt,lH⟩:∃k0 kt,ks=k0::kt:=by
     cases ks with
     |nil=>exact absurd rfl fV
     |cons a l=>exact⟨a,l,rfl⟩
    have xX:∀a∈k0::kt,cS a:=fun a ha=>by
     have:=l5 a (by rw[lH];exact ha);exact⟨by omega,by omega⟩
    have Nr:(k0::kt).length=bO.length:=by rw[← lH];exact sB
    simp-implicitDefEqProofs[go_sem,t1,t2,t14,t15,t76,t77,az,Na];refine DN (fun a=>a∈[q]) (iy.kill _) (args':=[.ptr b 0,.int .i64 (i:Int),.fz 1 false (aI bO),.fz 1 false (aI (k0::kt))]) ?_ ?_
    ·rw[← lH];exact .cons _ _ _ _ (.same _) (.cons _ _ _ _ (.same _) (.cons _ _ _ _ (.same _) (.cons _ _ _ _ (zd (s:=ks) (r:=[]) (by simp) (by rw[List.append_nil];exact gq)) .nil)))
    have zl:fB O' e b u d S' (jo h' [q]) ax:=qJ.but (q:=q) (by omega) qO (fun k k1 k2=>oK (by simp;exact k2)) (ae _);have Et:KG O b M3 ny O' (jo h' [q]) ax:=xH.but lq (fun k k1 k2=>oK (by simp;exact k2)) (ae _);have fin:∀(w:Int) (O2:Nat→Prop) (S2:GS) (g2:Tr ABlk) (n2:Nat),KG O b M3 ny O2 g2 n2→fB O2 e b u d S2 g2 n2→eu i bO ks S'=(w,S2)→R (.int .i64 w) (g2.put (b+2) (some (.map (lX (lS (ta++tb) w S2.D) 0) (lS (ta++tb) w S2.D).length))) n2:=by
     intro w O2 S2 g2 n2 K2 G2 hI;unfold vd at hR;rw[uf,zT]at hR;simp only[hI]at hR;exact hR O2 _ n2 (Es.trans (K2.trans (KG.setD _))) (G2.setD _)
    have hIn:eu i bO ks S'=if (bG k0 [] [k0] bO (k0::kt)).2.2.length=1 then (k0,S') else cR ⟨(i:Int),(bG k0 [] [k0] bO (k0::kt)).2.1,(bG k0 [] [k0] bO (k0::kt)).2.2,false⟩ S':=by
     rw[lH];rfl
    refine X9 O' _ ax b S'.L (i:Int) k0 bO kt false false zl.mkS (by omega) ⟨by omega,by omega⟩ FR xX (by omega) (by omega) ⟨(i:Int),(bG k0 [] [k0] bO (k0::kt)).2.1,(bG k0 [] [k0] bO (k0::kt)).2.2,false⟩ rfl _ (fun g2 n2 c1 c2 c3=>?_) (fun O2 g2 n2 c1 c2 c3 c4=>?_)
    ·have G2:=zl.ext c2 c3;have fn:=fin k0 O' S' g2 n2 (Et.trans (KG.ofExt c2 c3)) G2 (by rw[hIn,if_pos c1]);have rS:=G2.gv;have pM:=G2.gd;cases dC:kC (ta++tb) S'.D with
     |none=>
      have f2:=KP 0 dC;rw[Qt dC,Rv]at fn;simp-implicitDefEqProofs[go_sem,aB,t5,t11,rS,pM,f2];simpa using fn
     |some v2=>
      obtain⟨j2,f2,f3,f4⟩:=JX 0 dC;rw[← f4,Qs dC]at fn;simp-implicitDefEqProofs[go_sem,aB,t5,t11,rS,pM,f2];exact fn
    ·have G2:=zl.node c3 c4;have fn:=fin _ O2 _ g2 n2 (Et.trans (KG.ofKept c3)) G2 (by rw[hIn,if_neg c1];rfl);have rS:=G2.gv;have pM:=G2.gd;simp only at fn pM;cases dC:kC (ta++tb) S'.D with
     |none=>
      have f2:=KP 0 dC;rw[Qt dC,Rv]at fn;simp-implicitDefEqProofs[go_sem,aB,t5,t11,rS,pM,f2];simpa using fn
     |some v2=>
      obtain⟨j2,f2,f3,f4⟩:=JX 0 dC;rw[← f4,Qs dC]at fn;simp-implicitDefEqProofs[go_sem,aB,t5,t11,rS,pM,f2];exact fn
end
end Go.Ev
namespace Go.Ev
open Go.Proofs Go.RowKit
noncomputable section
theorem zOt (d:List Fc)(hd:d.length≤1000)(hv:∀x∈d,x.lo≤x.hi∧cS x.lo∧cS x.hi)(u:Bool) (e b:Nat):∀(k i:Nat)(f:Fm)(S:GS)(O:Nat→Prop)(h:Tr ABlk) (nx:Nat)(R:AV→Tr ABlk→Nat→Prop),i+k=d.length→iw f→f.size≤1000→GI S→inn S.L≤20000+d.length+1→fB O e b u d S h nx→vd d u e b k f S O h nx R→
  aN Tryz.prog cx 138 [.agg f.cs,.int .i64 (i:Int),.ptr (b+1) 0,.ptr (b+4) 0,.ptr e 0,.ptr (b+3) 0,.ptr (b+5) 0] h nx R:=by
 intro k
 induction k with
 |zero=>
  intro i f S O h nx R hi hf hs hI hn hG hR;have:=hI.len;refine Rc d u e b 0 i f S O h nx R (by omega) hG hR (fun q=>?_) (fun q=>?_) (.inr (.inr (by omega)))
  ·rw[bZ,if_pos q]
  ·rw[bZ,if_neg q]
 |succ k ih=>
  intro i f S O h nx R hi hf hs hI hn hG hR;have:=hI.len
  by_cases q:f.op=1∨f.op=2
  ·refine Rc d u e b (k+1) i f S O h nx R (by omega) hG hR (fun q=>?_) (fun q2=>absurd q q2) (.inl q);rw[bZ,if_pos q]
  ·cases hF:jU S with
   |true=>
    refine Rc d u e b (k+1) i f S O h nx R (by omega) hG hR (fun q2=>absurd q2 q) (fun q2=>?_) (.inr (.inl hF));rw[bZ,if_neg q,if_pos hF,hF]
   |false=>
    refine zRp d hd hv u e b k i f S (fun k=>O k∧k<nx) h nx R (by omega) hf hs q hF hI hG.low (fun k hk=>hk.2) (fun O' g ny K G=>hR O' g ny K.up G) fun f S O h nx R hf hs hI hn hG hR=>?_;have:=ih (i+1) f S O h nx R (by omega) hf hs hI hn hG hR;simpa using this
end
end Go.Ev
