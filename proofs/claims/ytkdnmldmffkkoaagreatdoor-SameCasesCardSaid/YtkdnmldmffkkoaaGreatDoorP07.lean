/- Texts. -/
import Derived.Test.YtkdnmldmffkkoaaGreatDoorP06
set_option linter.all false
set_option maxRecDepth 100000
set_option maxHeartbeats 8000000
namespace Go.Ev
noncomputable section
section
open Go.Proofs Go.Sort
attribute [-go_sem] dN bX fC
def zQ4:cx.ft.get 254=some Tryz.f254:=aO
def zTe:cx.ft.get 198=some Tryz.f198:=aO
def zR1:cx.ft.get 141=some Tryz.f141:=aO
@[go_sem] theorem zVv (l:List UInt8):sC (bT l)=some l:=zy6 l
@[go_sem] theorem yde (k:IntKind):ox (.int k 1)=some 1:=rfl
@[go_sem] theorem zZg (k:IntKind):ox (.int k 0)=some 0:=rfl
@[go_sem] theorem zHa (n0:Nat)(e:TypeId) (size b:Nat)(z:Option AV) (x:Nat) (s:Nat)(y:Bool)(fs:List (Nat×Nat×Bool)) (i o:Nat)(k:IntKind) (n:Nat)(h:Tr ABlk) (nx:Nat)(hn:n<n0):
  kh (.mk (.array n0 e) size b z ((x,s,y)::fs)) (.ptr i o) (.int k (n:Int)) h nx=.val (.ptr i (o+n * s)) h nx:=by
 simp[kh,BJ,jn,Nat.succ_le_of_lt hn,fN_eq]
@[go_sem] theorem yay (n0:Nat)(e:TypeId) (size b:Nat)(z:Option AV) (x:Nat) (s:Nat)(y:Bool)(fs:List (Nat×Nat×Bool)) (i o:Nat)(k:IntKind)(h:Tr ABlk) (nx:Nat)(hn:0<n0):
  kh (.mk (.array n0 e) size b z ((x,s,y)::fs)) (.ptr i o) (.int k 0) h nx=.val (.ptr i o) h nx:=by
 have:=zHa n0 e size b z x s y fs i o k 0 h nx hn;simpa using this
def RF (B:Option ABlk) (o l:Nat)(h:Tr ABlk) (nx:Nat):R:=match B with
 |some (.cells _ n c _ _)=>match Nat.ble (Nat.add o l) n with
  |true=>match ji c l o with
   |some cs=>match sC cs with
    |some r=>.val (.bs ⟨r.toArray⟩) h nx
    |none=>.fail
   |none=>.fail
  |false=>.fail
 |_=>.fail
def ZC (r:Option (List UInt8))(h:Tr ABlk) (nx:Nat):R:=match r with
 |some r=>.val (.bs ⟨r.toArray⟩) h nx
 |none=>.fail
@[go_sem] theorem zVk (ts:TI)(k k':IntKind) (d1 d2:Nat)(d3:Option AV)(d4:List (Nat×Nat×Bool))(te:Option TI)(et:TypeId) (n:Int)(h:Tr ABlk) (nx:Nat):fC ts (.mk (.int k) d1 d2 d3 d4) te et (.int k' n) h nx=.val (.int k (k.wrap n)) h nx:=by
 cases ts;rfl
@[go_sem high] theorem zZh (e s1 s2 d1 d2 t1 t2:Nat)(s3 d3 t3:Option AV)(s4 d4 t4:List (Nat×Nat×Bool)) (i o l cp:Nat)(opn:Bool)(h:Tr ABlk) (nx:Nat):
  fC (.mk (.slice e) s1 s2 s3 s4) (.mk .string d1 d2 d3 d4) (some (.mk (.int .u8) t1 t2 t3 t4)) e (.sl i o l cp opn) h nx=RF (h.get i) o l h nx:=by
 simp only[fC,Nat.beq_refl];rfl
@[go_sem] theorem zYi (t:TypeId)(L:List AV)(opn:Bool) (esz o l:Nat)(h:Tr ABlk) (nx:Nat)(hl:o+l≤L.length):RF (some (bx t L opn esz)) o l h nx=ZC (sC ((L.drop o).take l)) h nx:=by
 have e1:Nat.ble (Nat.add o l) L.length=true:=Nat.ble_eq_true_of_le hl;simp only[RF,bx,e1,KE L l o hl];cases sC ((L.drop o).take l) <;> rfl
@[go_sem] theorem yb4 (r:List UInt8)(h:Tr ABlk) (nx:Nat):ZC (some r) h nx=.val (.bs ⟨r.toArray⟩) h nx:=rfl
def zJr (i:Int)(h0:-9223372036854775808≤i)(h1:i≤9223372036854775807):aM 254 [.int .i64 i,.int .i64 10] (.bs ⟨(Lib.itoa i).toArray⟩):=by
 refine aB.mk fun h nx R hR=>aP zQ4 (sz:=54) (rs:=[.tmp 4]) ?_
 by_cases c1:0≤i∧i<100
 ·obtain⟨u,hu⟩:∃u:Nat,i=(u:Int):=⟨i.toNat,by omega⟩;have hit:Lib.itoa i=Lib.decDigits u:=by rw[Lib.itoa,if_neg (by omega),hu];simp
  rw[hit]at hR;have hc:=zyw u (by omega);rw[← hu]at hc;simp[go_sem,c1.1,c1.2];refine aB.use hc ?_;simp[go_sem,aA];exact hR _ _ _ (az.refl _ _) (Fz.eq rfl rfl)
 ·by_cases c:i<0
  ·have c2:¬0≤i:=(by omega);obtain⟨u,hu⟩:∃u:Nat,i=-(u:Int):=⟨i.natAbs,by omega⟩;have hw:IntKind.u64.wrap (-IntKind.u64.wrap i)=(u:Int):=by rw[hu];exact zxh u (by omega) (by omega)
   have hit:Lib.itoa i=45::Lib.decDigits u:=by rw[Lib.itoa,if_pos c,hu];simp
   rw[hit]at hR;have kz:u<18446744073709551616:=by omega
   have n20:=HZ u (by omega) kz;have n1:=Lib.nDigits_pos u;have nlt:=Sq u;have FT:=Rh u;have nB:=KM (Lib.nDigits u) u;simp[go_sem,c,c2,hw];refine aB.use (Ta u (by omega) kz) ?_;generalize Lib.nDigits u=n at *;obtain⟨m,hm⟩:∃m,m=n+1:=⟨_,rfl⟩;have w1:IntKind.i64.wrap (1+(n:Int))=(m:Int):=by rw[hm,aS] <;> omega
   have m24:m≤24:=(by omega);have m1:1≤m:=(by omega);have mn:m-1=n:=(by omega);simp[go_sem,aA,m24,m1,mn,w1];refine RH _ _ nx u 1 n 23 0 289 false false (List.replicate 24 0) (by simp only[Tr.get_put,if_true];rfl) (by simp;omega) (by omega) nlt kz _ ?_;have kO:(List.take 1 (List.replicate 24 (0:UInt8))++(er n u++List.drop (1+n) (List.replicate 24 0)))=0::(er n u++List.replicate (23-n) 0):=by
    rw[List.drop_replicate,show 24-(1+n)=23-n by omega];rfl
   rw[kO];have tN:aI (bT (0::(er n u++List.replicate (23-n) 0))) 0 [.int .u8 45]=bT (45::(er n u++List.replicate (23-n) 0)):=rfl;have qU:(bT (0::(er n u++List.replicate (23-n) 0))).length=24:=by simp[ux,nB];omega
   have Gk:(bT (45::(er n u++List.replicate (23-n) 0))).length=24:=by simp[ux,nB];omega
   have dR:(bT (45::(er n u++List.replicate (23-n) 0))).take m=bT (45::er n u):=by
    rw[show bT (45::(er n u++List.replicate (23-n) 0))=bT (45::er n u)++bT (List.replicate (23-n) 0) by rw[← xj];rfl];exact List.take_left' (by rw[ux];simp[nB];omega)
   rw[FT]at hR;generalize bT (45::(er n u++List.replicate (23-n) 0))=qaa at tN dR Gk;generalize bT (0::(er n u++List.replicate (23-n) 0))=TW at tN qU;simp[go_sem,aA,m24,w1,c,tN,qU,Gk,dR];refine hR _ _ _ ?_ (Fz.eq rfl rfl);simp(disch:=omega)only[aK,az.refl]
  ·have c2:¬i<100:=(by omega);have c3:0≤i:=(by omega);obtain⟨u,hu⟩:∃u:Nat,i=(u:Int):=⟨i.toNat,by omega⟩;have hw:IntKind.u64.wrap i=(u:Int):=by rw[hu];exact zxs _ (by omega) (by omega)
   have hit:Lib.itoa i=Lib.decDigits u:=by rw[Lib.itoa,if_neg c,hu];simp
   rw[hit]at hR;have kz:u<18446744073709551616:=by omega
   have n20:=HZ u (by omega) kz;have n1:=Lib.nDigits_pos u;have nlt:=Sq u;have FT:=Rh u;have nB:=KM (Lib.nDigits u) u;simp[go_sem,c,c2,c3,hw];refine aB.use (Ta u (by omega) kz) ?_;generalize Lib.nDigits u=n at *;obtain⟨m,hm⟩:∃m,m=n+1:=⟨_,rfl⟩;have w1:IntKind.i64.wrap (1+(n:Int))=(m:Int):=by rw[hm,aS] <;> omega
   have m24:m≤24:=(by omega);have m1:1≤m:=(by omega);have mn:m-1=n:=(by omega);simp[go_sem,aA,m24,m1,mn,w1];refine RH _ _ nx u 1 n 23 0 289 false false (List.replicate 24 0) (by simp only[Tr.get_put,if_true];rfl) (by simp;omega) (by omega) nlt kz _ ?_;have kO:(List.take 1 (List.replicate 24 (0:UInt8))++(er n u++List.drop (1+n) (List.replicate 24 0)))=0::(er n u++List.replicate (23-n) 0):=by
    rw[List.drop_replicate,show 24-(1+n)=23-n by omega];rfl
   rw[kO];have qU:(bT (0::(er n u++List.replicate (23-n) 0))).length=24:=by simp[ux,nB];omega
   have dR:((bT (0::(er n u++List.replicate (23-n) 0))).drop 1).take n=bT (er n u):=by
    rw[show (bT (0::(er n u++List.replicate (23-n) 0))).drop 1=bT (er n u)++bT (List.replicate (23-n) 0) by rw[← xj];rfl];exact List.take_left' (by rw[ux];exact nB)
   rw[FT]at hR;have hbd:1+n≤24:=by omega
   generalize bT (0::(er n u++List.replicate (23-n) 0))=TW at dR qU;rw[List.drop_one]at dR;simp[go_sem,aA,m24,m1,mn,w1,c,qU,hbd,dR];refine hR _ _ _ ?_ (Fz.eq rfl rfl);simp(disch:=omega)only[aK,az.refl]
def zOh (i:Int)(h0:-9223372036854775808≤i)(h1:i≤9223372036854775807):aM 198 [.int .i64 i] (.bs ⟨(Lib.itoa i).toArray⟩):=by
 refine aB.mk fun h nx R hR=>aP zTe (sz:=5) (rs:=[.tmp 2]) ?_;simp[go_sem];refine aB.use (zJr i h0 h1) ?_;simp[go_sem,aA];exact hR _ _ _ (az.refl _ _) (Fz.eq rfl rfl)
def LR (i:Int)(h0:-9223372036854775808≤i)(h1:i≤9223372036854775807):aM 141 [.int .i64 i] (.bs ⟨(Lib.itoa i).toArray⟩):=by
 refine aB.mk fun h nx R hR=>aP zR1 (sz:=5) (rs:=[.tmp 2]) ?_;simp[go_sem];refine aB.use (zOh i h0 h1) ?_;simp[go_sem,aA];exact hR _ _ _ (az.refl _ _) (Fz.eq rfl rfl)
end
section
open Go.Proofs
attribute [-go_sem] dN bX
def zLc:cx.ft.get 294=some Tryz.f294:=aO
def zHn:cx.ft.get 293=some Tryz.f293:=aO
def zGx:cx.ft.get 292=some Tryz.f292:=aO
def zLb:cx.ft.get 260=some Tryz.f260:=aO
def Yy (u v:Bool)(l m:List Int)(hl:l.length≤1000000000):aM 294 [.fz 1 u (aG l),.fz 1 v (aG m)] (.bool (decide (l=m))):=by
 refine aB.mk fun h nx R hR=>aP zLc (sz:=26) (rs:=[.tmp 4]) ?_
 by_cases hlen:l.length=m.length
 ·simp[go_sem,hlen];refine bF (fun mm st=>∃tm k,st=.mk tm h nx []∧mm=l.length-k∧k≤l.length∧tm.get 0=some (.fz 1 u (aG l))∧tm.get 1=some (.fz 1 v (aG m))∧tm.get 12=some (.int .i64 (l.length:Int))∧tm.get 13=some (.int .i64 (k:Int))∧RowKit.Hid (l.take k=m.take k)) ⟨l.length,_,0,rfl,by simp,by simp,?_⟩ ?_
  ·simp[go_sem,hlen];exact Lib.hid trivial
  ·rintro mm st ⟨tm,k,rfl,rfl,hk,t0,t1,t12,t13,hv⟩ J hJ
   refine bl ?_
   by_cases ay:k<l.length
   ·have cv:k<m.length:=(by omega);simp[go_sem,t12,t13,ay];refine eI [] [] [] ?_;simp[go_sem,t0,t1,ay,cv];refine zG (fun hb=>?_) (fun hb=>?_)
    ·simp at hb;simp[go_sem];refine hR _ _ _ (az.refl _ _) (Fz.eq rfl ?_);have:¬l=m:=fun e=>hb (by subst e;rfl);simp[this]
    ·simp at hb;simp[go_sem,t13];refine hJ (l.length-(k+1)) _ (by omega) ⟨_,k+1,rfl,rfl,by omega,?_⟩;simp(disch:=omega) [go_sem,t0,t1,t12,aS];refine Lib.hid ?_;rw[List.take_succ_eq_append_getElem ay,List.take_succ_eq_append_getElem cv,hv.out,hb]
   ·have:=hv.out;rw[ar (by omega),ar (by omega)]at this;simp[go_sem,t12,t13,ay];refine hR _ _ _ (az.refl _ _) (Fz.eq rfl ?_);simp[this]
 ·have hi:¬(l.length:Int)=(m.length:Int):=by omega
  simp[go_sem,hi];refine hR _ _ _ (az.refl _ _) (Fz.eq rfl ?_);have:¬l=m:=fun e=>hlen (by rw[e]);simp[this]
def vB (a b:Nd):Bool:=decide (a.fact=b.fact) && (decide (a.leaf=b.leaf) && (decide (a.cuts=b.cuts) && decide (a.kids=b.kids)))
def zKd (a b:Nd)(h1:a.cuts.length≤1000000000)(h2:a.kids.length≤1000000000):aM 293 [.agg a.cs,.agg b.cs] (.bool (vB a b)):=by
 obtain⟨fa,ca,ka,la⟩:=a;obtain⟨fb,cb,kb,lb⟩:=b;simp only at h1 h2;have c1:=Classical.em (fa=fb);have c2:=Classical.em (ca=cb);cases la <;> cases lb <;> rcases c1 with c1 |c1 <;> rcases c2 with c2 |c2
 all_goals
  refine aB.mk fun h nx R hR=>aP zHn (sz:=31) (rs:=[.tmp 4]) ?_;have E:∀x y,az nx h ((h.put nx x).put (nx+1) y):=fun x y=>((az.refl nx h).put (ae _) _).put (by omega) _;simp[go_sem,Nd.cs,c1]
 all_goals first
  |(refine hR _ _ _ (E _ _) (Fz.eq rfl ?_)
    simp[vB,c1,c2])
  |(refine aB.use (Yy false false ca cb h1) ?_
    simp[go_sem,aA,c2])
 all_goals first
  |(refine hR _ _ _ (E _ _) (Fz.eq rfl ?_)
    simp[vB,c1,c2])
  |(refine aB.use (Yy false false ka kb h2) ?_
    simp[go_sem,aA];refine hR _ _ _ (E _ _) (Fz.eq rfl ?_);simp[vB,c1,c2])
def nV:List Nd→List Nd→Bool
 |[],[]=>true
 |a::l,b::m=>vB a b && nV l m
 |_,_=>false
def zEs:∀{l m:List Nd},¬l.length=m.length→nV l m=false
 |[],[],h=>absurd rfl h
 |[],_::_,_=>rfl
 |_::_,[],_=>rfl
 |a::l,b::m,h=>by
  have:=zEs (l:=l) (m:=m) (by simpa using h);simp[nV,this]
def Tv:∀{l m:List Nd},nV l m=true↔l=m
 |[],[]=>by simp[nV]
 |[],_::_=>by simp[nV]
 |_::_,[]=>by simp[nV]
 |a::l,b::m=>by
  have:=Tv (l:=l) (m:=m);cases a;cases b;simp[nV,vB,this,and_assoc,and_comm,and_left_comm]
def zSf (u v:Bool)(l m:List Nd)(hl:l.length≤1000000000)(hp:∀a∈l,∀b∈m,aM 293 [.agg a.cs,.agg b.cs] (.bool (vB a b))):aM 292 [.fz 4 u (bQ l),.fz 4 v (bQ m),.func 293 [] []] (.bool (nV l m)):=by
 refine aB.mk fun h nx R hR=>aP zGx (sz:=32) (rs:=[.tmp 6]) ?_
 by_cases hlen:l.length=m.length
 ·simp[go_sem,hlen];refine bF (fun mm st=>∃tm h' ax k,st=.mk tm h' ax []∧mm=m.length-k∧k≤m.length∧tm.get 1=some (.fz 4 v (bQ m))∧tm.get 2=some (.func 293 [] [])∧tm.get 15=some (.fz 4 u (bQ l))∧tm.get 16=some (.int .i64 (m.length:Int))∧tm.get 17=some (.int .i64 (k:Int))∧az nx h h'∧nx≤ax∧RowKit.Hid (nV l m=nV (l.drop k) (m.drop k))) ⟨m.length,_,_,_,0,rfl,by simp,by simp,?_⟩ ?_
  ·simp[go_sem];exact⟨az.refl _ _,Lib.hid trivial⟩
  ·rintro mm st ⟨tm,h',ax,k,rfl,rfl,hk,t1,t2,t15,t16,t17,he,hn,hv⟩ J hJ
   refine bl ?_
   by_cases ay:k<m.length
   ·have cv:k<l.length:=(by omega);have HD:=Lib.hid (show nV (l.drop k) (m.drop k)=(vB l[k] m[k] && nV (l.drop (k+1)) (m.drop (k+1))) by
     rw[aj ay,aj cv,nV])
    simp[go_sem,t1,t2,t15,t16,t17,ay,cv];refine aB.use (hp _ (ah cv) _ (ah ay)) ?_
    by_cases hs:vB l[k] m[k]=true
    ·simp[go_sem,aA,t17,hs];refine hJ (m.length-(k+1)) _ (by omega) ⟨_,_,_,k+1,rfl,rfl,by omega,?_⟩;simp(disch:=omega) [go_sem,t1,t2,t15,t16,aS];have hd:=HD.out;rw[hs,Bool.true_and]at hd;refine⟨((((he.put (by omega) _).put (by omega) _).put (by omega) _).put (by omega) _),by omega,Lib.hid (by rw[hv.out,hd])⟩
    ·have jJ:vB l[k] m[k]=false:=by simpa using hs
     simp[go_sem,aA,jJ];refine hR _ _ _ ((((he.put (by omega) _).put (by omega) _).put (by omega) _).put (by omega) _) (Fz.eq rfl ?_);rw[hv.out,HD.out,jJ,Bool.false_and]
   ·simp[go_sem,t16,t17,ay];refine hR _ _ _ he (Fz.eq rfl ?_);rw[hv.out,al (by omega),al (by omega),nV]
 ·have hi:¬(l.length:Int)=(m.length:Int):=by omega
  simp[go_sem,hi];refine hR _ _ _ (az.refl _ _) (Fz.eq rfl ?_);rw[zEs hlen]
def zPk (u v:Bool)(l m:List Nd)(hl:l.length≤1000000000)(h1:∀a∈l,a.cuts.length≤1000000000∧a.kids.length≤1000000000):aM 260 [.agg [.fz 4 u (bQ l)],.agg [.fz 4 v (bQ m)]] (.bool (nV l m)):=by
 refine aB.mk fun h nx R hR=>aP zLb (sz:=10) (rs:=[.tmp 4]) ?_;have E:∀x y,az nx h ((h.put nx x).put (nx+1) y):=fun x y=>((az.refl nx h).put (ae _) _).put (by omega) _;simp[go_sem];refine aB.use (zSf u v l m hl fun a ha b _=>zKd a b (h1 a ha).1 (h1 a ha).2) ?_;simp[go_sem,aA];exact hR _ _ _ (E _ _) (Fz.eq rfl rfl)
def zJu:cx.ft.get 149=some Tryz.f149:=aO
def BG (l:List Nd):(l.flatMap Nd.cs).length=l.length * 4:=by
 induction l with
 |nil=>rfl
 |cons x l ih=>simp[Nd.cs,ih];omega
def To:∀l:List Nd,dS (l.flatMap Nd.cs)=true
 |[]=>rfl
 |x::l=>by
  have h1:=To l;simp[Nd.cs,dS,AV.one];exact h1
def Zl:∀l:List Nd,bJ (l.flatMap Nd.cs)=true
 |[]=>rfl
 |x::l=>by
  have h1:=Zl l;simp[Nd.cs,bJ,plain,vP,h1]
def KU:∀(l:List Nd) (k:Nat)(x:Nd),l[k]?=some x→((l.flatMap Nd.cs).drop (k * 4)).take 4=x.cs
 |[],k,x,h=>by simp at h
 |y::l,0,x,h=>by
  simp at h;subst h;simp[Nd.cs]
 |y::l,k+1,x,h=>by
  have:=KU l k x (by simpa using h);rw[show (k+1) * 4=k * 4+4 by omega];simp[Nd.cs]at this ⊢;exact this
def Yk:∀(l:List Nd) (k:Nat)(x:Nd)(b:Bool),l[k]?=some x→aI (l.flatMap Nd.cs) (k * 4+3) [.bool b]=(l.set k ⟨x.fact,x.cuts,x.kids,b⟩).flatMap Nd.cs
 |[],k,x,b,h=>by simp at h
 |y::l,0,x,b,h=>by
  simp at h;subst h;simp[Nd.cs,aI]
 |y::l,k+1,x,b,h=>by
  have:=Yk l k x b (by simpa using h);rw[show (k+1) * 4+3=(k * 4+3)+4 by omega];rw[List.set_cons_succ,List.flatMap_cons,List.flatMap_cons,← this];simp[Nd.cs,aI]
def Z9:∀l:List Nd,rD 4 (bQ l) (l.flatMap Nd.cs)
 |[]=>rfl
 |x::l=>⟨x.cs,l.flatMap Nd.cs,by simp,rfl,by cases x;rfl,.inl rfl,Z9 l⟩
def T8 {g:Tr ABlk}{nx b:Nat}{s:List Nd}{cp esz:Nat}{op opn:Bool}(hb:nx≤b)(hg:g.get b=some (bx 154 (s.flatMap Nd.cs) opn esz)):Fz g nx (.sl b 0 s.length cp op) (.fz 4 false (bQ s)):=
 .slz b 0 _ cp op 154 _ _ opn esz 4 (s.flatMap Nd.cs) (s.flatMap Nd.cs) (bQ s) hb hg (by simp) (fun j hj=>by rw[Nat.zero_add,fX]) (cE.same _ (Zl s)) (Z9 s) (zyp s)
def zNn (l:List Nd):(bQ l).flatMap AV.cells=l.flatMap Nd.cs:=by
 induction l with
 |nil=>rfl
 |cons x l ih=>
  rw[show bQ (x::l)=.agg x.cs::bQ l from rfl,List.flatMap_cons,List.flatMap_cons,ih];rfl
def eQ (n:Nd):Nd:=if n.kids=[] then ⟨n.fact,n.cuts,n.kids,!n.leaf⟩ else n
def zJs (full:Bool)(n0:Nd)(ns:List Nd)(hl:ns.length<1000000):aM 149 [.agg [.fz 4 full (bQ (n0::ns))]] (.agg [.fz 4 false (bQ ((n0::ns).map eQ))]):=by
 refine aB.mk fun h nx R hR=>aP zJu (sz:=32) (rs:=[.cell 2 92]) ?_;have aX:=zMy full (.agg n0.cs) (bQ ns);rw[show (AV.agg n0.cs)::bQ ns=bQ (n0::ns) from rfl,zNn,zyp,show ns.length+1=(n0::ns).length from rfl]at aX;have pO:(n0::ns).length≤1000000:=by simp;omega
 have hgp:0<(n0::ns).length:=by simp
 generalize (n0::ns)=g at *;simp[go_sem];refine aX (To g) (by omega) _ _ _ fun g1 q ny e1 q1 q2 gq=>?_;have gx:g1.get (nx+1)=some (bx 92 [.sl0] false 0):=by rw[e1 _ (by omega)];simp[go_sem]
 have E1:az nx h g1:=by
  intro k hk;rw[e1 k (by omega)];simp[go_sem,show ¬k=nx by omega,show ¬k=nx+1 by omega]
 have nq:¬q=ny:=by omega
 simp[go_sem,aA];refine bF (fun mm st=>∃tm h' ax k cur,st=.mk tm h' ax []∧mm=g.length-k∧k≤g.length∧tm.get 2=some (.ptr (nx+1) 0)∧tm.get 3=some (.ptr ny 0)∧tm.get 11=some (.sl q 0 g.length 0 true)∧tm.get 12=some (.int .i64 (g.length:Int))∧tm.get 13=some (.int .i64 (k:Int))∧h'.get q=some (bx 154 (cur.flatMap Nd.cs) true 4)∧h'.get ny=some (bx 92 [.sl q 0 g.length 0 true] false 0)∧h'.get (nx+1)=some (bx 92 [.sl0] false 0)∧az nx h h'∧ny<ax∧RowKit.Hid (cur.length=g.length∧∀j,cur[j]?=if j<k then (g[j]?).map eQ else g[j]?)) ⟨g.length,_,_,_,0,g,rfl,by simp,by simp,?_⟩ ?_
 ·simp[go_sem,nq,gq,gx,show ¬nx+1=ny by omega];refine⟨?_,Lib.hid trivial⟩;simp(disch:=omega)only[aK];exact E1
 ·rintro mm st ⟨tm,h',ax,k,cur,rfl,rfl,hk,t2,t3,t11,t12,t13,oc,IQ,Fa,he,ei,hv⟩ J hJ
  refine bl ?_;obtain⟨v1,v2⟩:=hv.out;have m1:¬q=ax:=by omega
  have m2:¬ny=ax:=by omega
  have m3:¬nx+1=ax:=by omega
  have m4:¬ax=q:=by omega
  have m5:¬ny=q:=by omega
  have m6:¬nx+1=q:=by omega
  by_cases ay:k<g.length
  ·have a0:cur[k]?=some g[k]:=by rw[v2 k,if_neg (by omega)];simp[ay]
   have a1:=KU cur k _ a0;have a2:=Yk cur k _ (!(g[k]).leaf) a0;have a3:(cur.flatMap Nd.cs).length=cur.length * 4:=BG cur;have eP:∀zJ,zJ=cur.set k (eQ g[k])→(zJ.length=g.length∧∀j,zJ[j]?=if j<k+1 then (g[j]?).map eQ else g[j]?):=by
    rintro _ rfl
    refine⟨by simp[v1],fun j=>?_⟩
    by_cases hj:j=k
    ·subst hj;rw[List.getElem?_set_self (by omega),if_pos (by omega)];simp[ay]
    ·rw[List.getElem?_set_ne (by omega),v2 j]
     by_cases fm:j<k
     ·rw[if_pos fm,if_pos (by omega)]
     ·rw[if_neg fm,if_neg (by omega)]
   have uX:k * 4+4≤(cur.flatMap Nd.cs).length:=(by omega);have hk5:k * 4+3+1≤(cur.flatMap Nd.cs).length:=(by omega);clear v2 hv;obtain⟨L,hL⟩:∃L,L=cur.flatMap Nd.cs:=⟨_,rfl⟩;rw[← hL]at a1 a2 uX hk5 oc;generalize hgk:g[k]=x at a1 a2 eP
   by_cases c1:x.kids=[]
   ·have vd:cur.set k (eQ x)=cur.set k ⟨x.fact,x.cuts,x.kids,!x.leaf⟩:=by rw[eQ,if_pos c1]
    have HN:=Lib.hid (eP _ vd.symm);clear eP;simp only[Nd.cs,c1]at a1;simp[go_sem,t3,t11,t12,t13,ay,oc,IQ,m1,m2,uX,a1];refine hJ (g.length-(k+1)) _ (by omega) ⟨_,_,_,k+1,cur.set k ⟨x.fact,x.cuts,x.kids,!x.leaf⟩,rfl,rfl,by omega,?_⟩;simp(disch:=omega) [go_sem,t2,t3,t11,t12,IQ,Fa,m2,m3,m5,m6,aS];refine⟨by rw[a2],?_,by omega,by first |exact Lib.hid ⟨v1,HN.out.2⟩ |exact Lib.hid HN.out.2⟩;simp(disch:=omega)only[aK,he]
   ·have vd:cur.set k (eQ x)=cur:=by
     rw[eQ,if_neg c1];apply List.ext_getElem?;intro j
     by_cases hj:j=k
     ·subst hj;rw[List.getElem?_set_self (by omega),a0,hgk]
     ·rw[List.getElem?_set_ne (by omega)]
    have HN:=Lib.hid (eP _ vd.symm);clear eP;have ql:¬x.kids.length=0:=fun e=>c1 (au e);simp only[Nd.cs]at a1;simp[go_sem,t11,t12,t13,ay,oc,uX,a1,ql];refine hJ (g.length-(k+1)) _ (by omega) ⟨_,_,_,k+1,cur,rfl,rfl,by omega,?_⟩;simp(disch:=omega) [go_sem,t2,t3,t11,t12,oc,IQ,Fa,m1,m2,m3,aS,hL];refine⟨?_,by omega,by first |exact HN |exact Lib.hid HN.out.2⟩;simp(disch:=omega)only[aK,he]
  ·have hc:cur=g.map eQ:=by
    apply List.ext_getElem?;intro j;rw[v2 j]
    by_cases hj:j<k
    ·rw[if_pos hj];simp
    ·rw[if_neg hj,List.getElem?_eq_none (by omega),List.getElem?_eq_none (by simp;omega)]
   simp[go_sem,t2,t3,t12,t13,ay,IQ,Fa,aI];refine hR _ _ _ ?_ ?_
   ·simp(disch:=omega)only[aK,he]
   ·refine .agg _ _ (.cons _ _ _ _ ?_ .nil);have An:g.length=(g.map eQ).length:=by simp
    rw[An];refine T8 (opn:=true) (esz:=4) (by omega) ?_;rw[← hc];simp[go_sem,oc,show ¬q=nx+1 by omega]
def xG:List ByteArray→Nat→List (AV×AV×Nat)
 |[],_=>[]
 |x::l,n=>(.bs x,.int .i64 (n:Int),n)::xG l (n+1)
def zxk (x:ByteArray):∀(l:List ByteArray) (n:Nat),xG l n++[(.bs x,.int .i64 ((n+l.length:Nat):Int),n+l.length)]=xG (l++[x]) n
 |[],n=>rfl
 |y::l,n=>by
  have:=zxk x l (n+1);simp only[xG,List.cons_append,List.length_cons];rw[← this,show n+(l.length+1)=n+1+l.length by omega]
def zj (x:ByteArray):List ByteArray→Nat→Option (Nat×AV)
 |[],_=>none
 |y::l,i=>if x=y then some (i,.int .i64 (i:Int)) else zj x l (i+1)
def zxg (x:ByteArray):∀(l:List ByteArray) (n:Nat),mU .string (.bs x) (xG l n) n=some (zj x l n)
 |[],n=>rfl
 |y::l,n=>by
  rw[xG,Er,zj]
  by_cases e:x=y
  ·simp[mC,e]
  ·simp[mC,e,fN_eq,zxg x l (n+1)]
@[go_sem] theorem zW2 (x:ByteArray)(l:List ByteArray):mU .string (.bs x) (xG l 0) 0=some (zj x l 0):=zxg x l 0
def YJ {x:ByteArray}:∀{l:List ByteArray}(i:Nat),¬x∈l→zj x l i=none
 |[],_,_=>rfl
 |y::l,i,h=>by
  simp at h;rw[zj,if_neg h.1,YJ (i+1) h.2]
def Zg {x:ByteArray}:∀{l:List ByteArray}(i:Nat),x∈l→∃j,l[j]?=some x∧zj x l i=some (i+j,.int .i64 ((i+j:Nat):Int))
 |[],_,h=>by cases h
 |y::l,i,h=>by
  rw[zj]
  by_cases e:x=y
  ·exact⟨0,by simp[e],by simp[e]⟩
  ·rw[if_neg e];have hm:x∈l:=by
    rcases List.mem_cons.1 h with h1 |h1
    ·exact absurd h1 e
    ·exact h1
   obtain⟨j,h1,h2⟩:=Zg (i+1) hm;exact⟨j+1,by simpa using h1,by rw[h2,show i+1+j=i+(j+1) by omega]⟩
def zTx:cx.ft.get 194=some Tryz.f194:=aO
def DM (O:Nat→Prop)(h:Tr ABlk) (nx p:Nat)(a b:AV)(ks:List ByteArray)(L:List Nd):Prop:=ks.length=L.length∧O p∧p<nx∧
 ((L=[]∧a=.sl0∧b=.map0)∨(L≠[]∧∃m q,O m∧O q∧m<nx∧q<nx∧m≠p∧q≠p∧q≠m∧b=.map m∧h.get m=some (.map (xG ks 0) ks.length)∧a=.sl q 0 L.length 0 true∧h.get q=some (bx 154 (L.flatMap Nd.cs) true 4)))
def zGp (O:Nat→Prop)(h:Tr ABlk) (nx p T:Nat)(a b:AV)(rest:List AV)(ks:List ByteArray)(L:List Nd)(key:ByteArray)(n:Nd)(hp:h.get p=some (bx T (a::b::rest) false 0))(hU:DM O h nx p a b ks L)(hL:L.length<1000000)(R:AV→Tr ABlk→Nat→Prop)
  (Ft:∀(j:Nat) g ny,ks[j]?=some key→az nx h g→nx≤ny→R (.int .i64 (j:Int)) g ny)
  (fE:∀g ny a' b',¬key∈ks→nx≤ny→g.get p=some (bx T (a'::b'::rest) false 0)→DM (fun k=>O k∨nx≤k) g ny p a' b' (ks++[key]) (L++[n])→(∀k,k<nx→¬O k→g.get k=h.get k)→R (.int .i64 (L.length:Int)) g ny):
  di 194 [.ptr p 0,.bs key,.agg n.cs] h nx R:=by
 refine aP zTx (sz:=51) (rs:=[.tmp 6]) ?_;obtain⟨u1,u2,u3,hU⟩:=hU;have n1:¬p=nx:=by omega
 rcases hU with⟨rfl,rfl,rfl⟩ |⟨l0,m,q,o1,o2,m1,q1,m2,q2,q3,rfl,gm,rfl,gq⟩
 ·simp at u1;subst u1;have z1:¬p=nx+1:=by omega
  have z2:¬nx+1=p:=by omega
  have z3:¬nx=p:=by omega
  simp[go_sem,hp,n1,z1,z2,bX,mU,aI];refine eI [6,7,10] [] [(4,6)] ?_;have z4:¬p=nx+1+1:=by omega
  have z5:¬nx=nx+1+1:=by omega
  simp[go_sem,z1,z3,z4,Nd.cs,aI];refine fE _ _ _ _ (by simp) (by omega) (by rw[Tr.get_put,if_pos rfl]) ?_ ?_
  ·refine⟨rfl,.inl u2,by omega,.inr ⟨by simp,nx+1,_,.inr (by omega),.inr ?_,by omega,?_,by omega,?_,?_,rfl,?_,rfl,?_⟩⟩
   all_goals first |omega |skip
   ·simp[go_sem,z2,xG]
   ·simp[go_sem,Nd.cs,show ¬nx+1+1=p by omega]
  ·intro k dB dK;have k1:¬k=p:=fun e=>dK (e ▸ u2);simp[go_sem,k1,show ¬k=nx by omega,show ¬k=nx+1 by omega,show ¬k=nx+1+1 by omega]
 ·by_cases hk:key∈ks
  ·obtain⟨j,j1,j2⟩:=Zg 0 hk;simp only[Nat.zero_add]at j2;have m3:¬m=nx:=by omega
   simp[go_sem,hp,n1,gm,m3,j2,bX];refine Ft j _ _ j1 ?_ ?_
   ·simp(disch:=omega)only[aK,az.refl]
   ·omega
  ·have j2:=YJ 0 hk;have m3:¬m=nx:=(by omega);have m4:¬nx=m:=(by omega);have m5:¬p=m:=(by omega);simp[go_sem,hp,n1,gm,m3,j2,bX];refine eI [6,7,10] [] [(4,6)] ?_;have z1:¬p=nx+1:=(by omega);have z2:¬q=nx+1:=(by omega);have z3:¬q=nx:=(by omega);have z4:¬p=q:=(by omega);have z5:¬nx=q:=(by omega);have z6:¬nx+1=q:=(by omega);have z7:¬p=nx+1+1:=(by omega);have z8:¬nx=nx+1+1:=(by omega);have fl:=BG L;have fo:=To L;have hle:L.length+1≤16777216:=(by omega);simp[go_sem,hp,n1,gq,m4,m5,q3,z1,z3,z4,fl,hle,Nd.cs,aI];refine fE _ _ _ _ hk (by omega) (by rw[Tr.get_put,if_pos rfl]) ?_ ?_
   ·refine⟨by simp[u1],.inl u2,by omega,.inr ⟨by simp,m,_,.inl o1,.inr ?_,by omega,?_,m2,?_,?_,rfl,?_,by simp;rfl,?_⟩⟩
    all_goals first |omega |skip
    ·simp[go_sem,show ¬m=p from m2,show ¬m=nx+1 by omega,show ¬m=q by omega];rw[← zxk];simp[u1]
    ·simp[go_sem,Nd.cs,show ¬nx+1=p by omega]
   ·intro k dB dK;have k1:¬k=p:=fun e=>dK (e ▸ u2);have k2:¬k=m:=fun e=>dK (e ▸ o1);have k3:¬k=q:=fun e=>dK (e ▸ o2);simp[go_sem,k1,k2,k3,show ¬k=nx by omega,show ¬k=nx+1 by omega]
end
section
open Go.Proofs
attribute [-go_sem] dN bX fC
def zHb:cx.ft.get 195=some Tryz.f195:=aO
def mF:List Int→List UInt8
 |[]=>[]
 |k::l=>Lib.itoa k++44::mF l
def Hk (n:Nd):List UInt8:=(if n.leaf then 49 else 48)::(Lib.itoa n.fact++(58::mF n.cuts++(58::mF n.kids)))
def bV (n:Nd):ByteArray:=⟨(Hk n).toArray⟩
def dh (i:Int):Prop:=-9223372036854775808≤i∧i≤9223372036854775807
def jE (n:Nd):Prop:=dh n.fact∧(∀x∈n.cuts,dh x)∧(∀x∈n.kids,dh x)∧n.cuts.length≤100000∧n.kids.length≤100000
def xw (i:Int)(h:dh i):(Lib.itoa i).length≤21:=by
 obtain⟨h0,h1⟩:=h;rw[Lib.itoa]
 by_cases c:i<0
 ·rw[if_pos c];have:i.natAbs<18446744073709551616:=by omega
  have:=HZ i.natAbs (by omega) this;simp[Lib.decDigits_length];omega
 ·rw[if_neg c,Lib.decDigits_length]
  rcases Nat.eq_zero_or_pos i.toNat with e |e
  ·rw[e,Lib.nDigits_small (by omega)];omega
  ·have:=HZ i.toNat e (by omega);omega
@[go_sem] theorem ye4 (e:TypeId) (size b:Nat)(z:Option AV) (x:Nat) (s:Nat)(y:Bool)(fs:List (Nat×Nat×Bool)) (i o l cp:Nat)(opn:Bool)(k:IntKind)(h:Tr ABlk) (nx:Nat)(hn:1<l):
  kh (.mk (.slice e) size b z ((x,s,y)::fs)) (.sl i o l cp opn) (.int k 1) h nx=.val (.ptr i (o+s)) h nx:=by
 have:=Zo e size b z x s y fs i o l cp opn k 1 h nx hn;simpa using this
def uo.mono {h g:Tr ABlk}{nx ny q:Nat}{v:AV}{l:List UInt8}(o:uo h nx q v l)(e:g.get q=h.get q)(hn:nx≤ny):uo g ny q v l:=by
 obtain⟨h1,h2⟩:=o;exact⟨by omega,by rw[e];exact h2⟩
def vH (cuts kids:List Int):Nat→List UInt8
 |0=>58::mF cuts++58::mF kids
 |1=>58::mF kids
 |_=>[]
def zQa (n:Nd)(hn:jE n):aM 195 [.agg n.cs] (.bs (bV n)):=by
 refine aB.mk fun h nx R hR=>aP zHb (sz:=48) (rs:=[.tmp 2]) ?_;obtain⟨f,cuts,kids,leaf⟩:=n;obtain⟨hf,hc,hk,dE,C9⟩:=hn;simp only at hf hc hk dE C9;have a1:¬nx=nx+1:=by omega
 obtain⟨lf,C8⟩:∃lf:UInt8,lf=if leaf then 49 else 48:=⟨_,rfl⟩
 have tx:bV ⟨f,cuts,kids,leaf⟩=⟨(([lf]++Lib.itoa f)++vH cuts kids 0).toArray⟩:=by
  simp[bV,Hk,vH,C8]
 rw[tx]at hR;have kp:=xw f hf;obtain⟨I8,uS⟩:=hf;cases leaf
 all_goals
  simp at C8;have w1:IntKind.u8.wrap 49=49:=rfl;simp-implicitDefEqProofs[go_sem,Nd.cs,aI,w1];refine zyb _ _ (nx+1) _ [lf] f ⟨by omega,.inr ⟨by simp,by simp[go_sem,bT,C8]⟩⟩ (by simp) I8 uS _ fun g ny q b1 b2 b3 b4=>?_;have E1:az nx h g:=by
   intro k hk;rw[b3 k (by omega) (by omega)];simp[go_sem,show ¬k=nx by omega,show ¬k=nx+1 by omega]
  obtain⟨lv,gn⟩:∃lv,g.get nx=some (bx 154 [.int .i64 f,.fz 1 false (aG cuts),.fz 1 false (aG kids),.bool lv] false 0):=by
   rw[b3 nx (by omega) (by omega)];simp[go_sem]
  have fF:([lf]++Lib.itoa f).length≤30:=by simp;omega
  generalize hA:[lf]++Lib.itoa f=A at b4 hR fF ⊢;have b5:¬nx=ny:=by omega
  simp-implicitDefEqProofs[go_sem,aA,gn,aI];refine bF (fun mm st=>∃tm h' ax k acc q v,st=.mk tm h' ax []∧mm=2-k∧k≤2∧tm.get 24=some (.sl ny 0 2 2 false)∧tm.get 25=some (.int .i64 2)∧tm.get 26=some (.int .i64 (k:Int))∧tm.get 3=some v∧uo h' ax q v acc∧nx≤q∧q≠ny∧ny<ax∧h'.get ny=some (bx 40 [.fz 1 false (aG cuts),.fz 1 false (aG kids)] false 0)∧az nx h h'∧acc.length≤30+k * 2200001∧RowKit.Hid (A++vH cuts kids 0=acc++vH cuts kids k)) ⟨2,_,_,_,0,A,q,.sl q 0 A.length 0 true,rfl,by simp,by simp,?_⟩ ?_
  ·simp-implicitDefEqProofs[go_sem];refine⟨b4.mono (by simp[go_sem,show ¬q=ny by have:=b4.1;omega]) (by omega),by omega,by have:=b4.1;omega,?_,fF,Lib.hid trivial⟩;simp(disch:=omega)only[aK];exact E1
  ·rintro mm st ⟨tm,h',ax,k,acc,q',v',rfl,rfl,dK,t24,t25,t26,t3,ho,vf,rf,AT,gb,he,od,hv⟩ J hJ
   refine bl ?_
   by_cases ay:k<2
   ·obtain⟨re,hq⟩:=ho;have m1:¬ny=ax:=by omega
    have m2:¬q'=ax:=(by omega);have fo:=vE acc;have wZ:acc.length+1≤16777216:=(by omega);have qX:¬ny=q':=fun e=>rf e.symm;have AP:¬ny=ax+1:=(by omega);obtain⟨L,gT,hL,I0,hI,Jg,hx⟩:∃(L:List Int) (gT:List UInt8),vH cuts kids k=58::mF L++gT∧vH cuts kids (k+1)=gT∧(∀x∈L,dh x)∧L.length≤100000∧∀hh,[AV.fz 1 false (aG cuts),AV.fz 1 false (aG kids)][k]'hh=AV.fz 1 false (aG L):=by
     rcases (by omega:k=0∨k=1) with rfl |rfl
     ·exact⟨cuts,_,rfl,rfl,hc,dE,fun _=>rfl⟩
     ·exact⟨kids,[],by simp[vH],rfl,hk,C9,fun _=>rfl⟩
    have bg:=hv.out;rw[hL]at bg;have iO:(k:Int)<2:=by omega
    rcases hq with⟨rfl,gq⟩ |⟨rfl,gq⟩
    all_goals
     simp-implicitDefEqProofs[go_sem,t24,t25,t26,t3,gq,gb,ay,iO,m2,wZ,hx,aI];refine bF (fun mm st=>∃tm h2 rU j a2 q2 v2,st=.mk tm h2 rU []∧mm=L.length-j∧j≤L.length∧tm.get 24=some (.sl ny 0 2 2 false)∧tm.get 25=some (.int .i64 2)∧tm.get 26=some (.int .i64 (k:Int))∧tm.get 33=some (.fz 1 false (aG L))∧tm.get 34=some (.int .i64 (L.length:Int))∧tm.get 35=some (.int .i64 (j:Int))∧tm.get 3=some v2∧uo h2 rU q2 v2 a2∧nx≤q2∧q2≠ny∧ny<rU∧h2.get ny=some (bx 40 [.fz 1 false (aG cuts),.fz 1 false (aG kids)] false 0)∧az nx h h2∧a2.length≤31+k * 2200001+22 * j∧RowKit.Hid (A++vH cuts kids 0=a2++(mF (L.drop j)++gT))) ⟨L.length,_,_,_,0,acc++[58],ax+1,.sl (ax+1) 0 (acc.length+1) 0 true,rfl,by simp,by simp,?_⟩ ?_
     ·simp-implicitDefEqProofs[go_sem,t24,t25,t26,gb,m1,qX,AP];refine⟨⟨by omega,.inl ⟨by simp,by simp[go_sem,bT]⟩⟩,by omega,by omega,by omega,?_,by omega,Lib.hid (by rw[bg];simp)⟩;simp(disch:=omega)only[aK,he]
     ·rintro mm st ⟨tm,h2,rU,j,a2,q2,v2,rfl,rfl,hj,t24,t25,t26,t33,t34,t35,t3,pT,Vi,Vj,OU,zO,og,qaf,GO⟩ J2 oQ
      refine bl ?_
      by_cases cy:j<L.length
      ·have Ng:=hI _ (ah cy);have vh:=GO.out;rw[aj cy,mF]at vh;have qah:=xw L[j] Ng;simp-implicitDefEqProofs[go_sem,t33,t34,t35,t3,cy];refine zyb h2 rU q2 v2 a2 L[j] pT (by omega) Ng.1 Ng.2 _ fun g3 yR q3 d1 d2 d3 d4=>?_;have gb3:g3.get ny=some (bx 40 [.fz 1 false (aG cuts),.fz 1 false (aG kids)] false 0):=by rw[d3 ny (by omega) (fun e=>Vj e.symm)];exact zO
       have E3:az nx h g3:=by
        intro k1 dB;rw[d3 k1 (by omega) (by omega)];exact og k1 dB
       have U8:(a2++Lib.itoa L[j]).length+1≤16777216:=by simp;omega
       have hl6:(a2++Lib.itoa L[j]).length≤31+k * 2200001+22 * j+21:=by simp;omega
       have Vs:A++vH cuts kids 0=((a2++Lib.itoa L[j])++[44])++(mF (L.drop (j+1))++gT):=by rw[vh];simp
       have HV:=Lib.hid Vs;clear vh Vs;generalize a2++Lib.itoa L[j]=a3 at d4 U8 hl6 HV ⊢;obtain⟨f1,f2 |f2⟩:=d4
       ·obtain⟨_,MO⟩:=f2;have fo3:=vE a3;have p1:¬q3=yR:=by omega
        have p2:¬ny=yR:=(by omega);have p3:¬ny=q3:=(by omega);have p4:¬ny=yR+1:=(by omega);simp-implicitDefEqProofs[go_sem,aA,t35,MO,U8,p1,aI];refine oQ (L.length-(j+1)) _ (by omega) ⟨_,_,_,j+1,a3++[44],yR+1,.sl (yR+1) 0 (a3.length+1) 0 true,rfl,rfl,by omega,?_⟩;simp(disch:=omega) [go_sem,t24,t25,t26,t33,t34,aS,gb3,p2,p3,p4];refine⟨⟨by omega,.inl ⟨by simp,by simp[go_sem,bT]⟩⟩,by omega,by omega,?_,by omega,Lib.hid (by rw[HV.out];simp)⟩;simp(disch:=omega)only[aK];exact E3
       ·exact absurd f2.1 (by simp)
      ·have yE:j=L.length:=(by omega);have vh:=GO.out;rw[al (by omega)]at vh;simp only[mF,List.nil_append]at vh;simp-implicitDefEqProofs[go_sem,t26,t34,t35,cy];refine hJ (2-(k+1)) _ (by omega) ⟨_,_,_,k+1,a2,q2,v2,rfl,rfl,by omega,?_⟩;simp(disch:=omega) [go_sem,t24,t25,t3,aS,zO];exact⟨pT,Vi,Vj,OU,og,by omega,Lib.hid (by rw[vh,I0])⟩
   ·have qS:k=2:=(by omega);subst qS;obtain⟨re,hq⟩:=ho;have aH:=hv.out;simp only[vH,List.append_nil]at aH;have dR:(bT acc).take acc.length=bT acc:=by rw[← ux acc,List.take_length]
    rcases hq with⟨rfl,gq⟩ |⟨rfl,gq⟩
    all_goals
     simp-implicitDefEqProofs[go_sem,t25,t26,t3,gq,dR];refine hR _ _ _ he (Fz.eq rfl ?_);rw[← aH];rfl
def zHu:cx.ft.get 139=some Tryz.f139:=aO
def ke (O:Nat→Prop)(h:Tr ABlk) (nx p:Nat)(L:List Nd):Prop:=(L.map bV).Nodup∧∃a b,h.get p=some (bx 187 [a,b] false 0)∧DM O h nx p a b (L.map bV) L
def mW (L:List Nd)(n:Nd):Nat:=(L.map bV).findIdx fun k=>decide (k=bV n)
def zEp {L:List Nd}{n:Nd}(h:bV n∈L.map bV):mW L n<L.length:=by
 have:=List.findIdx_lt_length_of_exists (p:=fun k=>decide (k=bV n)) (xs:=L.map bV) ⟨bV n,h,by simp⟩;simpa[mW]using this
def Tc {L:List Nd}{n:Nd}(h:¬bV n∈L.map bV):mW L n=L.length:=by
 have:(L.map bV).findIdx (fun k=>decide (k=bV n))=(L.map bV).length:=by
  rw[List.findIdx_eq_length];intro x hx;simp;exact fun e=>h (e ▸ hx)
 simpa[mW]using this
def zT7 {L:List Nd}{n:Nd}{j:Nat}(fH:(L.map bV).Nodup)(h:(L.map bV)[j]?=some (bV n)):mW L n=j:=by
 obtain⟨h2,h3⟩:=List.getElem?_eq_some_iff.1 h;unfold mW;rw[List.findIdx_eq h2];refine⟨by simpa using h3,fun i hi=>?_⟩;simp only[decide_eq_false_iff_not];intro e;exact List.pairwise_iff_getElem.1 fH i j (by omega) h2 hi (e.trans h3.symm)
open Classical in
def jB (L:List Nd)(n:Nd):List Nd:=if bV n∈L.map bV then L else L++[n]
def DM.mono {O O':Nat→Prop}{h g:Tr ABlk}{nx ny p:Nat}{a b:AV}{ks:List ByteArray}{L:List Nd}(u:DM O h nx p a b ks L)(hO:∀k,O k→O' k)(e:∀k,k<nx→O k→g.get k=h.get k)(hn:nx≤ny):DM O' g ny p a b ks L:=by
 obtain⟨u1,u2,u3,u4⟩:=u;refine⟨u1,hO _ u2,by omega,?_⟩
 rcases u4 with u4 |⟨l0,m,q,o1,o2,m1,q1,m2,q2,q3,e1,gm,e2,gq⟩
 ·exact .inl u4
 ·exact .inr ⟨l0,m,q,hO _ o1,hO _ o2,by omega,by omega,m2,q2,q3,e1,by rw[e m m1 o1];exact gm,e2,by rw[e q q1 o2];exact gq⟩
def ke.mono {O O':Nat→Prop}{h g:Tr ABlk}{nx ny p:Nat}{L:List Nd}(u:ke O h nx p L)(hO:∀k,O k→O' k)(e:∀k,k<nx→O k→g.get k=h.get k)(hn:nx≤ny):ke O' g ny p L:=by
 obtain⟨u0,a,b,u1,u2⟩:=u;exact⟨u0,a,b,by rw[e p u2.2.2.1 u2.2.1];exact u1,u2.mono hO e hn⟩
def ke.ext {O:Nat→Prop}{h g:Tr ABlk}{nx ny p:Nat}{L:List Nd}(u:ke O h nx p L)(e:az nx h g)(hn:nx≤ny):ke O g ny p L:=u.mono (fun _ h=>h) (fun k hk _=>e k hk) hn
def zM3 (L:List Nd)(n:Nd):mW L n<(jB L n).length:=by
 unfold jB
 by_cases h:bV n∈L.map bV
 ·rw[if_pos h];exact zEp h
 ·rw[if_neg h,Tc h];simp
def Hx (O:Nat→Prop)(h:Tr ABlk) (nx p:Nat)(L:List Nd)(n:Nd)(hM:ke O h nx p L)(hn:jE n)(hL:L.length<1000000)(R:AV→Tr ABlk→Nat→Prop)
  (hR:∀O' g ny,ew O h nx O' g ny→ke O' g ny p (jB L n)→R (.int .i64 (mW L n:Int)) g ny):di 139 [.ptr p 0,.agg n.cs] h nx R:=by
 refine aP zHu (sz:=12) (rs:=[.tmp 4]) ?_;obtain⟨fH,a,b,gp,hU⟩:=hM;have pl:=hU.2.2.1;have d1:¬p=nx:=by omega
 simp[go_sem];refine Hz mixed iQ xh 6 [] [4] [] [] 0 (by kernel_rfl) (by kernel_rfl) ?_;simp[go_sem];refine dV (zQa n hn) ?_;simp[go_sem,cW];refine zGp O _ _ p 187 a b [] (L.map bV) L (bV n) n (by simp[go_sem,d1,gp]) (hU.mono (fun _ h=>h) (fun k hk _=>by simp[go_sem,show ¬k=nx by omega]) (by omega)) hL _ ?_ ?_
 ·intro j g ny hj e1 e2;have mh:j<L.length:=by
   rcases Nat.lt_or_ge j L.length with q |q
   ·exact q
   ·rw[List.getElem?_eq_none (by simpa using q)]at hj;cases hj
  have bZ:bV n∈L.map bV:=List.mem_of_getElem? hj;have hjx:j=mW L n:=(zT7 fH hj).symm;simp[go_sem,aA];rw[hjx];have hE:az nx h g:=by
   intro k hk;rw[e1 k (by omega)];simp[go_sem,show ¬k=nx by omega]
  refine hR O g ny ⟨by omega,fun k hk _=>hE k hk,fun k hk=>.inl hk⟩ ?_;rw[jB,if_pos bZ];exact ke.ext ⟨fH,a,b,gp,hU⟩ hE (by omega)
 ·intro g ny a' b' bZ qX MN hU' hk;simp[go_sem,aA];have qR:mW L n=L.length:=Tc bZ;rw[← qR];refine hR (fun k=>O k∨nx+1≤k) g ny ⟨by omega,fun k dB dK=>?_,fun k hk=>by rcases hk with hk |hk;exact .inl hk;exact .inr (by omega)⟩ ?_
  ·rw[hk k (by omega) dK];simp[go_sem,show ¬k=nx by omega]
  ·rw[jB,if_neg bZ];refine⟨?_,a',b',MN,?_⟩
   ·rw[List.map_append];exact List.nodup_append.2 ⟨fH,by simp,by
     intro x hx y hy;simp at hy;subst hy;intro e;exact bZ (e ▸ hx)⟩
   ·rw[List.map_append];exact hU'
end
section
open Go.Proofs
attribute [-go_sem] dN bX
def zJc (full:Bool)(l:List Fc)(hl:l.length≤1000000)(hs:∀f∈l,f.name.size≤1000000000)(h:Tr ABlk) (nx:Nat)(R:AV→Tr ABlk→Nat→Prop)(hR:∀v g ny,az nx h g→nx≤ny→Hn nx ny g (some v) (gN l)→R v g ny):di 213 [.agg [.fz 4 full (aN l)]] h nx R:=by
 refine aP zz8 (sz:=23) (rs:=[.tmp 2]) ?_;have aH:gN l=if dH l then l.map Fc.lo else []:=rfl
 generalize gN l=res at hR aH;simp[go_sem];refine aB.use (Is full l (by omega) hs) ?_;have E1:∀x,az nx h (h.put nx x):=fun x=>(az.refl nx h).put (ae _) _
 by_cases tT:dH l=true
 ·rw[if_pos tT]at aH;simp[go_sem,aA,tT];refine bF (fun mm st=>∃tm h' ax k acc,st=.mk tm h' ax []∧mm=l.length-k∧k≤l.length∧tm.get 10=some (.fz 4 full (aN l))∧tm.get 11=some (.int .i64 (l.length:Int))∧tm.get 12=some (.int .i64 (k:Int))∧Hn nx ax h' (tm.get 3) acc∧az nx h h'∧nx+1≤ax∧acc.length≤k∧
      RowKit.Hid (res=acc++(l.drop k).map Fc.lo)) ⟨l.length,_,_,_,0,[],rfl,by simp,by simp,?_⟩ ?_
  ·simp[go_sem,E1];exact⟨.inl ⟨rfl,rfl⟩,Lib.hid aH⟩
  ·rintro mm st ⟨tm,h',ax,k,acc,rfl,rfl,hk,t10,t11,t12,fF,he,ei,od,hv⟩ J hJ
   refine bl ?_
   by_cases ay:k<l.length
   ·have bg:=hv.out;rw[aj ay]at bg;have HV:=Lib.hid (show res=(acc++[(l[k]).lo])++(l.drop (k+1)).map Fc.lo by rw[bg,List.map_cons,List.append_assoc,List.singleton_append]);clear bg;generalize hf:l[k]=f at HV;cases f with
    |mk fn fk pH pG=>
    rcases fF with⟨h1,h2⟩ |⟨h1,b,b1,b2,b3,b4⟩
    ·subst h1;simp[go_sem,t10,t11,t12,ay,h2,hf,Fc.cs];refine hJ (l.length-(k+1)) _ (by omega) ⟨_,_,_,k+1,[pH],rfl,rfl,by omega,?_⟩;simp(disch:=omega) [go_sem,t10,t11,aS];refine⟨.inr ⟨by simp,ax+1+1,by omega,by omega,rfl,by simp[go_sem,aG]⟩,?_,by omega,Lib.hid (by have:=HV.out;simpa using this)⟩;simp(disch:=omega)only[aK,he]
    ·have nb:¬b=ax:=(by omega);have Bk:¬b=ax+1:=(by omega);have pY:¬ax=b:=(by omega);have Dp:¬ax+1=b:=(by omega);have fo:=vU acc;have hle:acc.length+1≤16777216:=(by omega);simp[go_sem,t10,t11,t12,ay,hf,Fc.cs,b3,b4,nb,Bk,hle];refine hJ (l.length-(k+1)) _ (by omega) ⟨_,_,_,k+1,acc++[pH],rfl,rfl,by omega,?_⟩;simp(disch:=omega) [go_sem,t10,t11,aS];refine⟨.inr ⟨by simp,ax+1+1,by omega,by omega,by simp,by simp[go_sem,zLv]⟩,?_,by omega,by omega,Lib.hid (by have:=HV.out;simpa using this)⟩;simp(disch:=omega)only[aK,he]
   ·have hr:res=acc:=by rw[hv.out,al (by omega)];simp
    rcases fF with⟨h1,h2⟩ |⟨h1,b,b1,b2,b3,b4⟩
    ·simp[go_sem,t11,t12,ay,h2];refine hR _ _ _ he (by omega) ?_;rw[hr,h1];exact .inl ⟨rfl,rfl⟩
    ·simp[go_sem,t11,t12,ay,b3];refine hR _ _ _ he (by omega) ?_;rw[hr];exact .inr ⟨h1,b,b1,b2,rfl,b4⟩
 ·rw[if_neg tT]at aH;simp[go_sem,aA,tT];refine hR _ _ _ (E1 _) (by omega) ?_;rw[aH];exact .inl ⟨rfl,rfl⟩
def zGo:cx.ft.get 215=some Tryz.f215:=aO
def oJ (n:Nd):Bool:=decide (n.kids≠[]) || n.leaf
def zQl (u:Bool)(g:List Nd) (x:Nat)(hx:x<g.length):aM 215 [.int .i64 (x:Int),.ip [.fz 4 u (bQ g)]] (.bool (oJ g[x])):=by
 refine aB.mk fun h nx R hR=>aP zGo (sz:=20) (rs:=[.tmp 3]) ?_;generalize hn:g[x]=n;obtain⟨f,c,k,lf⟩:=n
 by_cases c1:k=[]
 ·simp[go_sem,hx,hn,Nd.cs,c1];exact hR _ _ _ (az.refl _ _) (Fz.eq rfl (by simp[oJ,hn,c1]))
 ·have ql:0<k.length:=List.length_pos_iff.2 c1;simp[go_sem,hx,hn,Nd.cs,ql];exact hR _ _ _ (az.refl _ _) (Fz.eq rfl (by simp[oJ,hn,c1]))
def zK6:cx.ft.get 258=some Tryz.f258:=aO
def pB (hi:Int):Int→List Int→Prop
 |_,[]=>True
 |lo,c::l=>¬(c≤lo)∧¬(hi<c)∧pB hi c l
def rG (g:List Nd)(n:Nd) (k:Nat) (x:Int):Prop:=x<0∨(g.length:Int)≤x∨(0<k∧n.kids.getD (k-1) 0=x)∨(∃h:x.toNat<g.length,¬(g[x.toNat]).kids=[]∧(g[x.toNat]).fact≤n.fact)
def oz (g:List Nd)(n:Nd)(d:List Fc):Prop:=(n.kids=[]∧n.fact=0∧n.cuts=[])∨(¬n.kids=[]∧n.leaf=false∧0≤n.fact∧¬n.cuts=[]∧n.kids.length=n.cuts.length+1∧∃h:n.fact.toNat<d.length,pB (d[n.fact.toNat]).hi (d[n.fact.toNat]).lo n.cuts∧∀k (hk:k<n.kids.length),¬rG g n k n.kids[k])
def xF (g:List Nd)(n:Nd)(d:List Fc):Bool:=@decide (oz g n d) (Classical.propDecidable _)
def XU {g n d}(h:oz g n d):xF g n d=true:=by unfold xF;exact @decide_eq_true _ (Classical.propDecidable _) h
def zF9 {g n d}(h:¬oz g n d):xF g n d=false:=by unfold xF;exact @decide_eq_false _ (Classical.propDecidable _) h
def zPt (u v:Bool)(g:List Nd)(n:Nd)(d:List Fc)(hg:g.length≤1000000000)(hd:d.length≤1000000000)(hc:n.cuts.length<1000000000)(hk:n.kids.length≤1000000000):aM 258 [.agg [.fz 4 u (bQ g)],.agg n.cs,.agg [.fz 4 v (aN d)]] (.bool (xF g n d)):=by
 refine aB.mk fun h nx R hR=>aP zK6 (sz:=139) (rs:=[.tmp 6]) ?_;have E:∀x y z,az nx h (((h.put nx x).put (nx+1) y).put (nx+1+1) z):=fun x y z=>(((az.refl nx h).put (ae _) _).put (by omega) _).put (by omega) _;have I5:∀g' ny,az nx h g'→oz g n d→R (.bool true) g' ny:=fun g' ny e hp=>hR _ _ _ e (Fz.eq rfl (by rw[XU hp]));have kM:∀g' ny,az nx h g'→¬oz g n d→R (.bool false) g' ny:=fun g' ny e hp=>hR _ _ _ e (Fz.eq rfl (by rw[zF9 hp]));clear hR;obtain⟨fc,cuts,kids,leaf⟩:=n;simp only at hc hk
 by_cases c0:kids=[]
 ·subst c0
  by_cases c1:fc=0
  ·by_cases c2:cuts=[]
   ·simp[go_sem,Nd.cs,c1,c2];exact I5 _ _ (E _ _ _) (.inl ⟨rfl,c1,c2⟩)
   ·have hl:¬cuts.length=0:=fun e=>c2 (au e);simp[go_sem,Nd.cs,c1,hl];exact kM _ _ (E _ _ _) (by rintro (q |q);exact c2 q.2.2;exact q.1 rfl)
  ·simp[go_sem,Nd.cs,c1];exact kM _ _ (E _ _ _) (by rintro (q |q);exact c1 q.2.1;exact q.1 rfl)
 ·have mN:¬kids.length=0:=fun e=>c0 (au e);cases leaf with
  |true=>
   simp[go_sem,Nd.cs,mN];exact kM _ _ (E _ _ _) (by rintro (q |q);exact c0 q.1;exact Bool.noConfusion q.2.1)
  |false=>
  by_cases c1:fc<0
  ·simp[go_sem,Nd.cs,mN,c1];exact kM _ _ (E _ _ _) (by rintro (q |q);exact c0 q.1;have:=q.2.2.1;simp only at this;omega)
  obtain⟨fi,rfl⟩:∃fi:Nat,fc=(fi:Int):=⟨fc.toNat,by omega⟩;clear c1;have u9:¬(fi:Int)<0:=by omega
  by_cases c2:d.length≤fi
  ·have EN:(d.length:Int)≤fi:=(by omega);simp[go_sem,Nd.cs,mN,u9,EN];exact kM _ _ (E _ _ _) (by rintro (q |q);exact c0 q.1;obtain⟨q1,_⟩:=q.2.2.2.2.2;simp only at q1;omega)
  have EN:¬(d.length:Int)≤fi:=by omega
  have wg:fi<d.length:=by omega
  by_cases c3:cuts=[]
  ·simp[go_sem,Nd.cs,mN,u9,EN,c3];exact kM _ _ (E _ _ _) (by rintro (q |q);exact c0 q.1;exact q.2.2.2.1 c3)
  have jI:¬cuts.length=0:=fun e=>c3 (au e);have hw:IntKind.i64.wrap ((cuts.length:Int)+1)=(cuts.length:Int)+1:=aS _ (by omega) (by omega)
  by_cases c4:kids.length=cuts.length+1
  ·have MB:(cuts.length:Int)+1=(kids.length:Int):=(by omega);have Bb:IntKind.i64.wrap (kids.length:Int)=(kids.length:Int):=aS _ (by omega) (by omega);obtain⟨f,hf⟩:∃f,d[fi]=f:=⟨_,rfl⟩;obtain⟨fnm,fkd,pH,pG⟩:=f;have hP:∀q:Prop,(q↔(pB pG pH cuts∧∀k (hk:k<kids.length),¬rG g ⟨fi,cuts,kids,false⟩ k kids[k]))→(oz g ⟨fi,cuts,kids,false⟩ d↔q):=by
    intro q hq;rw[hq];unfold oz;simp only[c0,c3,c4,not_false_eq_true,true_and,false_and,false_or,Int.toNat_natCast,wg,exists_true_left,hf];exact⟨fun z=>z.2,fun z=>⟨by omega,z⟩⟩
   have hP:=hP _ Iff.rfl;simp[go_sem,Nd.cs,Fc.cs,mN,u9,EN,wg,jI,Bb,MB,hf];generalize hh:Tr.put (Tr.put (Tr.put h nx _) (nx+1) _) (nx+1+1) _=h0;have E0:az nx h h0:=by rw[← hh];exact E _ _ _
   have g0:h0.get nx=some (bx 92 [.fz 4 u (bQ g)] false 0):=by rw[← hh];simp[go_sem,show ¬nx=nx+1+1 by omega]
   have g1:h0.get (nx+1)=some (bx 154 [.int .i64 (fi:Int),.fz 1 false (aG cuts),.fz 1 false (aG kids),.bool false] false 0):=by rw[← hh];simp[go_sem]
   have g2:h0.get (nx+1+1)=some (bx 35 [.fz 4 v (aN d)] false 0):=by rw[← hh];simp[go_sem]
   clear hh;refine bF (fun mm st=>∃tm k lo,st=.mk tm h0 (nx+1+1+1) []∧mm=cuts.length-k∧k≤cuts.length∧tm.get 3=some (.ptr nx 0)∧tm.get 4=some (.ptr (nx+1) 0)∧tm.get 5=some (.ptr (nx+1+1) 0)∧tm.get 64=some (.fz 1 false (aG cuts))∧tm.get 65=some (.int .i64 (cuts.length:Int))∧tm.get 66=some (.int .i64 (k:Int))∧tm.get 7=some (.int .i64 lo)∧RowKit.Hid (pB pG pH cuts↔pB pG lo (cuts.drop k))) ⟨cuts.length,_,0,pH,rfl,by simp,by simp,?_⟩ ?_
   ·simp[go_sem];exact Lib.hid trivial
   ·rintro mm st ⟨tm,k,lo,rfl,rfl,dB,t3,t4,t5,t64,t65,t66,t7,hv⟩ J hJ
    refine bl ?_
    by_cases ay:k<cuts.length
    ·have bg:=hv.out;rw[aj ay,pB]at bg;generalize hx:cuts[k]=x at bg
     by_cases q1:x≤lo
     ·have hb:¬pB pG pH cuts:=fun z=>(bg.1 z).1 q1;simp[go_sem,t4,t5,t64,t65,t66,t7,ay,hx,q1];exact kM _ _ E0 fun z=>hb (hP.1 z).1
     by_cases q2:pG<x
     ·have hb:¬pB pG pH cuts:=fun z=>(bg.1 z).2.1 q2;simp[go_sem,t4,t5,t64,t65,t66,t7,ay,hx,q1,q2,g1,g2,wg,hf,Fc.cs];exact kM _ _ E0 fun z=>hb (hP.1 z).1
     have HV:RowKit.Hid (pB pG pH cuts↔pB pG x (cuts.drop (k+1))):=Lib.hid ⟨fun z=>(bg.1 z).2.2,fun z=>bg.2 ⟨q1,q2,z⟩⟩;clear bg;simp[go_sem,t4,t5,t64,t65,t66,t7,ay,hx,q1,q2,g1,g2,wg,hf,Fc.cs];refine hJ (cuts.length-(k+1)) _ (by omega) ⟨_,k+1,x,rfl,rfl,by omega,?_⟩;simp(disch:=omega) [go_sem,t3,t4,t5,t64,t65,aS];exact HV
    ·have NP:pB pG pH cuts:=by
      rw[hv.out,al (by omega)];trivial
     clear hv hJ;simp[go_sem,t4,t65,t66,ay,g1];refine bF (fun mm st=>∃tm k,st=.mk tm h0 (nx+1+1+1) []∧mm=kids.length-k∧k≤kids.length∧tm.get 3=some (.ptr nx 0)∧tm.get 4=some (.ptr (nx+1) 0)∧tm.get 5=some (.ptr (nx+1+1) 0)∧tm.get 87=some (.fz 1 false (aG kids))∧tm.get 88=some (.int .i64 (kids.length:Int))∧tm.get 89=some (.int .i64 (k:Int))∧RowKit.Hid (∀j (hj:j<kids.length),j<k→¬rG g ⟨fi,cuts,kids,false⟩ j kids[j])) ⟨kids.length,_,0,rfl,by simp,by simp,?_⟩ ?_
     ·simp[go_sem,t3,t4,t5];exact Lib.hid trivial
     ·clear J t3 t4 t5 t64 t65 t66 t7 tm
      rintro mm st ⟨tm,k,rfl,rfl,dB,t3,t4,t5,t87,t88,t89,hv⟩ J hJ
      refine bl ?_
      by_cases ay:k<kids.length
      ·generalize hx:kids[k]=x;have l6:rG g ⟨fi,cuts,kids,false⟩ k x→¬oz g ⟨fi,cuts,kids,false⟩ d:=fun z y=>(hP.1 y).2 k ay (by rw[hx];exact z);simp[go_sem,t87,t88,t89,ay,hx];refine eI [] [] [] ?_
       by_cases q1:x<0
       ·simp[go_sem,q1];exact kM _ _ E0 (l6 (.inl q1))
       obtain⟨xi,rfl⟩:∃xi:Nat,x=(xi:Int):=⟨x.toNat,by omega⟩
       by_cases q2:g.length≤xi
       ·have qf:(g.length:Int)≤xi:=(by omega);simp[go_sem,t3,g0,q1,qf];exact kM _ _ E0 (l6 (.inr (.inl qf)))
       have qf:¬(g.length:Int)≤xi:=(by omega);have pg:xi<g.length:=(by omega);clear q1;have q1:¬(xi:Int)<0:=(by omega);obtain⟨nd,fH⟩:∃nd,g[xi]=nd:=⟨_,rfl⟩;obtain⟨nf,nc,nk,nl⟩:=nd;have hD:(¬nk=[]∧nf≤fi)→rG g ⟨fi,cuts,kids,false⟩ k xi:=fun z=>.inr (.inr (.inr ⟨by simpa using pg,by simpa[fH]using z⟩));have fj:¬(0<k∧kids.getD (k-1) 0=xi)→¬(¬nk=[]∧nf≤fi)→∀j (hj:j<kids.length),j<k+1→¬rG g ⟨fi,cuts,kids,false⟩ j kids[j]:=by
        intro z1 z2 j hj yF
        by_cases Om:j<k
        ·exact hv.out j hj Om
        ·have e:j=k:=(by omega);subst e;rw[hx]
         rintro (z |z |z |⟨z3,z4⟩)
         ·omega
         ·omega
         ·exact z1 z
         ·simp[fH]at z4;exact z2 (by simpa using z4)
       have qD:(0<k∧kids.getD (k-1) 0=xi)→rG g ⟨fi,cuts,kids,false⟩ k xi:=fun z=>.inr (.inr (.inl z));clear hv
       rcases Nat.eq_zero_or_pos k with k0 |k0
       ·subst k0
        by_cases q4:nk=[]
        ·have HG:=Lib.hid (fj (by omega) (by simp[q4]));clear fj hD qD;simp[go_sem,t3,t89,g0,q1,qf,pg,fH,Nd.cs,q4];refine hJ (kids.length-(0+1)) _ (by omega) ⟨_,0+1,rfl,rfl,by omega,?_⟩;simp(disch:=omega) [go_sem,t3,t4,t5,t87,t88,aS];simpa using HG
        ·have ql:0<nk.length:=List.length_pos_iff.2 q4
         by_cases q5:nf≤fi
         ·have:=l6 (hD ⟨q4,q5⟩);clear fj hD qD;simp[go_sem,t3,t4,g0,g1,q1,qf,pg,fH,Nd.cs,ql,q5];exact kM _ _ E0 this
         ·have HG:=Lib.hid (fj (by omega) (by simp[q5]));clear fj hD qD;simp[go_sem,t3,t4,t89,g0,g1,q1,qf,pg,fH,Nd.cs,ql,q5];refine hJ (kids.length-(0+1)) _ (by omega) ⟨_,0+1,rfl,rfl,by omega,?_⟩;simp(disch:=omega) [go_sem,t3,t4,t5,t87,t88,aS];simpa using HG
       ·obtain⟨j,rfl⟩:∃j,k=j+1:=⟨k-1,by omega⟩;have kr:j<kids.length:=by omega
        have Dg:IntKind.i64.wrap (j:Int)=(j:Int):=aS _ (by omega) (by omega);have Av:kids.getD (j+1-1) 0=kids[j]:=by simp[kr]
        have cM:(0:Int)<(j:Int)+1:=(by omega);rw[Av]at fj qD
        by_cases q3:kids[j]=xi
        ·have:=l6 (qD ⟨by omega,q3⟩);clear fj hD qD;simp[go_sem,t3,t4,g0,g1,q1,qf,kr,Dg,cM,q3];exact kM _ _ E0 this
        ·by_cases q4:nk=[]
         ·have HG:=Lib.hid (fj (by simp[q3]) (by simp[q4]));clear fj hD qD;simp[go_sem,t3,t4,t89,g0,g1,q1,qf,pg,fH,Nd.cs,q4,kr,Dg,cM,q3];refine hJ (kids.length-(j+1+1)) _ (by omega) ⟨_,j+1+1,rfl,rfl,by omega,?_⟩;simp(disch:=omega) [go_sem,t3,t4,t5,t87,t88,aS];simpa using HG
         ·have ql:0<nk.length:=List.length_pos_iff.2 q4
          by_cases q5:nf≤fi
          ·have:=l6 (hD ⟨q4,q5⟩);clear fj hD qD;simp[go_sem,t3,t4,g0,g1,q1,qf,pg,fH,Nd.cs,ql,q5,kr,Dg,cM,q3];exact kM _ _ E0 this
          ·have HG:=Lib.hid (fj (by simp[q3]) (by simp[q5]));clear fj hD qD;simp[go_sem,t3,t4,t89,g0,g1,q1,qf,pg,fH,Nd.cs,ql,q5,kr,Dg,cM,q3];refine hJ (kids.length-(j+1+1)) _ (by omega) ⟨_,j+1+1,rfl,rfl,by omega,?_⟩;simp(disch:=omega) [go_sem,t3,t4,t5,t87,t88,aS];simpa using HG
      ·simp[go_sem,t88,t89,ay];exact I5 _ _ E0 (hP.2 ⟨NP,fun j hj=>hv.out j hj (by omega)⟩)
  ·have MB:¬(kids.length:Int)=(cuts.length:Int)+1:=(by omega);simp[go_sem,Nd.cs,mN,u9,EN,jI,hw,MB];exact kM _ _ (E _ _ _) (by rintro (q |q);exact c0 q.1;exact c4 q.2.2.2.2.1)
def zIf:cx.ft.get 257=some Tryz.f257:=aO
def zG8:cx.ft.get 291=some Tryz.f291:=aO
def zN5:cx.ft.get 259=some Tryz.f259:=aO
def zJ6 (u v:Bool)(g:List Nd)(n:Nd)(d:List Fc)(hg:g.length≤1000000000)(hd:d.length≤1000000000)(hc:n.cuts.length<1000000000)(hk:n.kids.length≤1000000000):aM 257 [.agg n.cs,.ip [.fz 4 u (bQ g)],.ip [.fz 4 v (aN d)]] (.bool (!xF g n d)):=by
 refine aB.mk fun h nx R hR=>aP zIf (sz:=10) (rs:=[.tmp 4]) ?_;have E:∀x,az nx h (h.put nx x):=fun x=>(az.refl nx h).put (ae _) _;simp[go_sem];refine aB.use (zPt u v g n d hg hd hc hk) ?_;simp[go_sem,aA];exact hR _ _ _ (E _) (Fz.eq rfl rfl)
def zRr (full:Bool)(l:List Nd)(fid:FuncId)(cap:List AV)(p:Nd→Bool)(hl:l.length≤1000000000)(hp:∀x∈l,aM fid ([.agg x.cs]++cap) (.bool (p x))):aM 291 [.fz 4 full (bQ l),.func fid [] cap] (.int .i64 (bj p l)):=by
 refine aB.mk fun h nx R hR=>aP zG8 (sz:=19) (rs:=[.tmp 4]) ?_;simp[go_sem];refine bF (fun mm st=>∃tm k,st=.mk tm h nx []∧mm=l.length-k∧k≤l.length∧tm.get 0=some (.fz 4 full (bQ l))∧tm.get 1=some (.func fid [] cap)∧tm.get 7=some (.int .i64 (l.length:Int))∧tm.get 8=some (.int .i64 (k:Int))∧RowKit.Hid (bj p l=rF p l k)) ⟨l.length,_,0,rfl,by simp,by simp,?_⟩ ?_
 ·simp[go_sem];exact Lib.hid (Mt _ l).symm
 ·rintro mm st ⟨tm,k,rfl,rfl,hk,t0,t1,t7,t8,hv⟩ J hJ
  refine bl ?_
  by_cases ay:k<l.length
  ·have A3:=hp _ (ah ay)
   by_cases he:p l[k]=true
   ·have:=Mr (p:=p) ay he;simp[go_sem,t0,t1,t7,t8,ay];refine aB.use A3 ?_;simp[go_sem,aA,he];refine hR _ _ _ (az.refl _ _) (Fz.eq rfl ?_);rw[hv.out,this]
   ·have:=Mn (p:=p) ay he;have HM:=Lib.hid this;clear this;simp[go_sem,t0,t1,t7,t8,ay];refine aB.use A3 ?_;simp[go_sem,aA,t8,he];refine hJ (l.length-(k+1)) _ (by omega) ⟨_,k+1,rfl,rfl,by omega,?_⟩;simp(disch:=omega) [go_sem,t0,t1,t7,aS];exact Lib.hid (by rw[hv.out,HM.out])
  ·have:=Mj (p:=p) (l:=l) (k:=k) (by omega);simp[go_sem,t7,t8,ay];refine hR _ _ _ (az.refl _ _) (Fz.eq rfl ?_);rw[hv.out,this]
def ZQ {α:Type}(p:α→Bool):∀l:List α,(decide (0≤bj p l))=l.any p
 |[]=>by simp[bj]
 |y::l=>by
  have h1:=ZQ p l;unfold bj;cases hy:p y with
  |true=>simp[hy]
  |false=>
   rw[List.any_cons,hy,Bool.false_or,← h1];simp only[Bool.false_eq_true,if_false];split <;> simp <;> omega
def zHq (full:Bool)(l:List Nd)(fid:FuncId)(cap:List AV)(p:Nd→Bool)(hl:l.length≤1000000000)(hp:∀x∈l,aM fid ([.agg x.cs]++cap) (.bool (p x))):aM 259 [.fz 4 full (bQ l),.func fid [] cap] (.bool (l.any p)):=by
 refine aB.mk fun h nx R hR=>aP zN5 (sz:=9) (rs:=[.tmp 4]) ?_;simp[go_sem];refine aB.use (zRr full l fid cap p hl hp) ?_;simp[go_sem,aA];exact hR _ _ _ (az.refl _ _) (Fz.eq rfl (by rw[ZQ]))
def Yp:cx.ft.get 150=some Tryz.f150:=aO
def iF (g:List Nd) (x:Int):Bool:=match g[x.toNat]? with
 |some n=>oJ n
 |none=>false
def ff (g:List Nd):Nat→Nat→List Int→Nat×List Int
 |0,at_,cs=>(at_,cs)
 |f+1,at_,cs=>match g[at_]? with
  |none=>(at_,cs)
  |some n=>if n.kids=[] then (at_,cs) else
   ff g f (n.kids.getD (bj (iF g) n.kids).toNat 0).toNat (if 0<bj (iF g) n.kids then cs.set n.fact.toNat (n.cuts.getD ((bj (iF g) n.kids).toNat-1) 0) else cs)
def RM (cs:List Int) (k:Nat) (x:Int)(hk:k<cs.length):aI (aG cs) k [.int .i64 x]=aG (cs.set k x):=by
 induction cs generalizing k with
 |nil=>simp at hk
 |cons y cs ih=>
  cases k with
  |zero=>simp[aI,aG]
  |succ k=>
   have:=ih k (by simpa using hk);simp[aI,aG]at this ⊢;exact this
def DL:∀l:List Nd,bJ (bQ l)=true
 |[]=>rfl
 |x::l=>by
  have h1:=DL l;rw[show bQ (x::l)=.agg x.cs::bQ l from rfl];simp[bJ,plain,Nd.cs_plain,h1]
@[go_sem] theorem yck (e:TypeId) (size b:Nat)(z:Option AV) (x:Nat) (s:Nat)(y:Bool)(fs:List (Nat×Nat×Bool))(full:Bool)(xs:List AV)(k:IntKind)(h:Tr ABlk) (nx:Nat)(hn:0<xs.length):
  kh (.mk (.slice e) size b z ((x,s,y)::fs)) (.fz s full xs) (.int k 0) h nx=.val (.ip (xs[0]).cells) h nx:=Sw e size b z x s y fs full xs k 0 h nx hn
@[go_sem] theorem yao (e:TypeId) (size b:Nat)(z:Option AV) (x:Nat) (s:Nat)(y:Bool)(fs:List (Nat×Nat×Bool))(full:Bool)(xs:List AV)(k:IntKind) (n:Nat)(h:Tr ABlk) (nx:Nat)(hn:n+1<xs.length):
  kh (.mk (.slice e) size b z ((x,s,y)::fs)) (.fz s full xs) (.int k ((n:Int)+1)) h nx=.val (.ip (xs[n+1]).cells) h nx:=Sw e size b z x s y fs full xs k (n+1) h nx hn
def zxl (g:List Nd)(d:List Fc):Prop:=0<g.length∧dH d=true∧∀(a:Nat)(n:Nd),g[a]?=some n→n.kids≠[]→∃fi:Nat,n.fact=(fi:Int)∧fi<d.length∧n.kids.length=n.cuts.length+1∧n.cuts.length<1000000∧(∀x∈n.kids,∃xi:Nat,x=(xi:Int)∧xi<g.length)∧∃(j:Nat) (xi:Nat)(m:Nd),bj (iF g) n.kids=(j:Int)∧j<n.kids.length∧n.kids[j]?=some (xi:Int)∧g[xi]?=some m∧(m.kids≠[]→n.fact<m.fact)
def zJh (u v:Bool)(g:List Nd)(d:List Fc)(hg:g.length≤1000000)(hd:d.length≤1000000)(hs:∀f∈d,f.name.size≤1000000000)(hV:aM 208 [.agg [.fz 4 u (bQ g)],.agg [.fz 4 v (aN d)]] (.bool true))(hW:zxl g d)(h:Tr ABlk) (nx:Nat)(R:AV→Tr ABlk→Nat→Prop)
  (hR:∀c g' ny,az nx h g'→nx≤ny→Hn nx ny g' (some c) (ff g (d.length+1) 0 (gN d)).2→(∃m,g[(ff g (d.length+1) 0 (gN d)).1]?=some m∧m.leaf=true)→R (.tup [c,.bool true]) g' ny)
  (fE:∀g' ny,az nx h g'→nx≤ny→(∃m,g[(ff g (d.length+1) 0 (gN d)).1]?=some m∧m.leaf=false)→R (.tup [.sl0,.bool false]) g' ny):di 150 [.agg [.fz 4 u (bQ g)],.agg [.fz 4 v (aN d)]] h nx R:=by
 refine bf.ofLe fun hG=>aP Yp (sz:=58) (rs:=[.tmp 4,.tmp 5]) ?_;simp[go_sem];refine aB.use hV ?_;simp[go_sem,aA];refine zJc v d hd hs _ _ _ fun c g1 ny e1 AT fF=>?_;have gb:g1.get nx=some (bx 92 [.fz 4 u (bQ g)] false 0):=by rw[e1 _ (by omega)];simp[go_sem]
 have E1:az nx h g1:=by
  intro k hk;rw[e1 k (by omega)];simp[go_sem,show ¬k=nx by omega,show ¬k=nx+1 by omega]
 simp[go_sem,aA];obtain⟨w1,w2,w3⟩:=hW;have yH:(gN d).length=d.length:=by simp[gN,w2]
 generalize gN d=TY at fF hR fE yH;generalize aH:ff g (d.length+1) 0 TY=res at hR fE;refine bF (fun mm st=>∃tm h' ax a cs,st=.mk tm h' ax []∧a<g.length∧tm.get 2=some (.ptr nx 0)∧tm.get 6=some c∧tm.get 7=some (.int .i64 (a:Int))∧h'.get nx=some (bx 92 [.fz 4 u (bQ g)] false 0)∧Hn (nx+1+1) ny h' (some c) cs∧cs.length=d.length∧az nx h h'∧ny≤ax∧RowKit.Hid (ff g mm a cs=res∧∀n,g[a]?=some n→n.kids≠[]→d.length-n.fact.toNat<mm)) ⟨d.length+1,_,_,_,0,TY,rfl,w1,?_⟩ ?_
 ·simp[go_sem,gb,fF,yH,E1];exact Lib.hid ⟨aH,fun n _ _=>by omega⟩
 ·rintro mm st ⟨tm,h',ax,a,cs,rfl,ha,t2,t6,t7,uI,tc,dE,he,ei,hv⟩ J hJ
  refine bl ?_;obtain⟨v1,v2⟩:=hv.out;clear hv;obtain⟨n,hn⟩:∃n,g[a]?=some n:=⟨g[a],by simp[ha]⟩;have OK:g[a]=n:=by
   have:g[a]?=some g[a]:=by simp[ha]
   rw[this]at hn;exact Option.some.inj hn
  obtain⟨f,cu,ki,lf⟩:=n
  by_cases c1:ki=[]
  ·have hr:res=(a,cs):=by
    rw[← v1];cases mm with
    |zero=>rfl
    |succ mm=>simp[ff,hn,c1]
   cases lf with
   |true=>
    simp[go_sem,t2,t6,t7,uI,ha,OK,Nd.cs,c1];refine hR _ _ _ he (by omega) ?_ ⟨_,by rw[hr];exact hn,rfl⟩;rw[hr]
    rcases tc with q |⟨q,b,b1,b2,b3,b4⟩
    ·exact .inl q
    ·exact .inr ⟨q,b,by omega,by omega,b3,b4⟩
   |false=>
    simp[go_sem,t2,t7,uI,ha,OK,Nd.cs,c1];exact fE _ _ he (by omega) ⟨_,by rw[hr];exact hn,rfl⟩
  ·obtain⟨fi,f1,f2,f3,f4,f5,j,xi,m,j1,j2,j3,j4,j5⟩:=w3 a _ hn c1;simp only at f1 f3 f4 f5 j1 j2 j3 j5;subst f1;have lG:=v2 _ hn c1;simp only[Int.toNat_natCast]at lG;obtain⟨M,rfl⟩:∃M,mm=M+1:=⟨mm-1,by omega⟩;have U6:ki[j]=(xi:Int):=by
    have:ki[j]?=some ki[j]:=by simp[j2]
    rw[this]at j3;exact Option.some.inj j3
   have Bu:ff g M xi (if 0<(j:Int) then cs.set fi (cu.getD (j-1) 0) else cs)=res:=by
    rw[← v1,ff,hn];simp only[c1,if_false,j1,Int.toNat_natCast,List.getD,j3,Option.getD_some]
   have GU:xi<g.length:=by
    by_cases q:xi<g.length
    ·exact q
    ·rw[List.getElem?_eq_none (by omega)]at j4;cases j4
   have JJ:∀n,g[xi]?=some n→n.kids≠[]→d.length-n.fact.toNat<M:=by
    intro n q1 q2;rw[j4]at q1;cases q1;have z1:=j5 q2;obtain⟨fi',z2,z3,_⟩:=w3 xi _ j4 q2;rw[z2]at z1 ⊢;simp only[Int.toNat_natCast];omega
   have n0:¬nx=ax:=(by omega);have ql:0<ki.length:=List.length_pos_iff.2 c1;have qR:=X7 false ki 215 [.ip [.fz 4 u (bQ g)]] (iF g) (by omega) fun x hx=>by
    obtain⟨y,rfl,y2⟩:=f5 x hx;have:=zQl u g y y2;rw[show oJ g[y]=iF g (y:Int) by simp[iF,y2]]at this;exact this
   rw[j1]at qR;simp[go_sem,t2,t7,uI,ha,OK,Nd.cs,ql];refine aB.useB uf qR rfl (.cons _ _ _ _ (Fz.eq (by simp[plain,vP]) rfl) (.cons _ _ _ _ (.func 215 _ _ _ _ .nil (.cons _ _ _ _ (xp (t:=92) (opn:=false) (esz:=0) (by omega) (by simp[go_sem,n0,uI]) (by simp[plain,bJ,DL])) .nil)) .nil)) ?_
   rcases Nat.eq_zero_or_pos j with j0 |j0
   ·subst j0;simp at Bu;have HV:=Lib.hid (And.intro Bu JJ);clear Bu JJ v1 v2;simp[go_sem,aA,ql,U6];refine hJ M _ (by omega) ⟨_,_,_,xi,cs,rfl,GU,?_⟩;simp[go_sem,t2,t6,uI,n0,dE];refine⟨?_,?_,by omega,HV⟩
    ·rcases tc with q |⟨q,b,b1,b2,b3,b4⟩
     ·exact .inl q
     ·exact .inr ⟨q,b,b1,b2,b3,by simp[go_sem,show ¬b=ax by omega,b4]⟩
    ·simp(disch:=omega)only[aK,he]
   ·obtain⟨jj,rfl⟩:∃jj,j=jj+1:=⟨j-1,by omega⟩;have uW:jj<cu.length:=by omega
    have cM:(0:Int)<(jj:Int)+1:=(by omega);have GA:(0:Int)<((jj+1:Nat):Int):=(by omega);rw[if_pos GA]at Bu;simp[uW]at Bu;have HV:=Lib.hid (And.intro Bu JJ);clear Bu JJ v1 v2;have Dg:IntKind.i64.wrap (jj:Int)=(jj:Int):=aS _ (by omega) (by omega)
    rcases tc with⟨q,_⟩ |⟨q,b,b1,b2,b3,b4⟩
    ·subst q;simp at dE;omega
    cases b3;have nb:¬b=ax:=by omega
    have Bk:¬nx=b:=(by omega);have pY:¬ax=b:=(by omega);have rO:fi<cs.length:=(by omega);have NU:fi+1≤cs.length:=(by omega);simp[go_sem,aA,cM];refine eI [10] [] [] ?_;simp[go_sem,t6,uW,Dg,rO,NU,b4,nb,pY,j2,U6,RM cs fi _ rO];refine hJ M _ (by omega) ⟨_,_,_,xi,cs.set fi cu[jj],rfl,GU,?_⟩;simp[go_sem,t2,t6,uI,n0,Bk,dE];refine⟨?_,?_,by omega,HV⟩
    ·refine .inr ⟨by intro z;have:=congrArg List.length z;simp at this;exact q this,b,b1,b2,by simp[dE],by simp[go_sem]⟩
    ·simp(disch:=omega)only[aK,he]
end
section
open Go.Proofs
attribute [-go_sem] dN bX fC
def zS3:cx.ft.get 145=some Tryz.f145:=aO
def bN (x:Int)(c k:List Int):List Int→List Int→Int×List Int×List Int
 |s::ss,y::ys=>if y=x then bN x c k ss ys else bN y (c++[s]) (k++[y]) ss ys
 |_,_=>(x,c,k)
def Cr {x y s:Int}{c k ss ys:List Int}(h:y=x):bN x c k (s::ss) (y::ys)=bN x c k ss ys:=by rw[bN,if_pos h]
def EF {x y s:Int}{c k ss ys:List Int}(h:¬y=x):bN x c k (s::ss) (y::ys)=bN y (c++[s]) (k++[y]) ss ys:=by rw[bN,if_neg h]
def Qx {x:Int}{c k ss:List Int}:bN x c k ss []=(x,c,k):=by cases ss <;> rfl
def Em {k:List Int}{j:Nat}{x:Int}(h:k[j]?=some x)(hh:j<(aG k).length):(aG k)[j]'hh=.int .i64 x:=by
 have hj:j<k.length:=by simpa[aG]using hh
 rw[aa hj]at h;cases h;simp[aG]
def zN {g:Tr ABlk}{F:Nat→Prop}{b:Nat}{s r:List Int}{cp esz:Nat}{op opn:Bool}(hF:F b)(hg:g.get b=some (bx 3 (aG (s++r)) opn esz)):Fy g F (.sl b 0 s.length cp op) (.fz 1 false (aG s)):=
 .slz b 0 _ cp op 3 _ _ opn esz 1 (aG s) (aG s) (aG s) hF hg (by simp[aG]) (fun j hj=>by
  rw[Nat.zero_add,fX];have fm:j<s.length:=by simpa[aG]using hj
  simp only[aG,List.map_append];rw[List.getElem?_append_left (by simpa using fm)]) (dJ.same _) (LP s) (Kk s)
def oF {h:Tr ABlk}{k:Nat}{l:List Nat}(hk:¬k∈l):(jA h l).get k=h.get k:=by rw[ze,if_neg hk]
def CK (lo:Nat)(h:Tr ABlk) (nx:Nat) (k0:Int)(c k:List Int)(vc vk:AV):Prop:=(c=[]∧k=[k0]∧vc=.sl0∧vk=.fz 1 true [.int .i64 k0])∨(c≠[]∧k.length=c.length+1∧∃bc bk,lo<bc∧lo<bk∧bc≠bk∧bc<nx∧bk<nx∧vc=.sl bc 0 c.length 0 true∧vk=.sl bk 0 k.length 0 true∧h.get bc=some (bx 3 (aG c) true 1)∧h.get bk=some (bx 3 (aG k) true 1))
@[go_sem] theorem zYb (m e size:Nat)(news xs:List AV)(h:Tr ABlk) (nx:Nat)(h0:m≠0)(h1:xs.length+m≤16777216):lS true m news e size (.fz size true xs) h nx=.val (.sl nx 0 (xs.length+m) 0 true) (h.put nx (some (bx e (xs.flatMap AV.cells++news) true size))) (nx+1):=by
 have e0:Nat.beq m 0=false:=by cases m;exact absurd rfl h0;rfl
 have e1:Nat.ble (Nat.add xs.length m) 16777216=true:=Nat.ble_eq_true_of_le h1;simp only[lS,e0,e1,Nat.beq_refl,Bool.and_self]
def Zc (O:Nat→Prop)(h:Tr ABlk) (nx p:Nat)(L:List Nd) (i k0:Int)(st ks:List Int)(u v:Bool)(hM:ke O h nx p L)(hL:L.length<1000000)(hi:dh i)(aU:∀x∈st,dh x)(mM:∀x∈k0::ks,dh x)(hlen:(k0::ks).length≤st.length)(C9:(k0::ks).length≤90000)
  (n:Nd) (hn:n=⟨i,(bN k0 [] [k0] st (k0::ks)).2.1,(bN k0 [] [k0] st (k0::ks)).2.2,false⟩) (R:AV→Tr ABlk→Nat→Prop)
  (Ft:∀g ny,n.kids.length=1→az nx h g→nx≤ny→R (.int .i64 k0) g ny)
  (hR:∀O' g ny,¬n.kids.length=1→jE n→ew O h nx O' g ny→ke O' g ny p (jB L n)→R (.int .i64 (mW L n:Int)) g ny):di 145 [.ptr p 0,.int .i64 i,.fz 1 u (aG st),.fz 1 v (aG (k0::ks))] h nx R:=by
 refine aP zS3 (sz:=59) (rs:=[.tmp 8]) ?_;obtain⟨K,hK⟩:∃K,K=k0::ks:=⟨_,rfl⟩;have Nn:1≤K.length:=by rw[hK];simp
 have IX:(aG K).take 1=[.int .i64 k0]:=by rw[hK];rfl
 have UA:∀hh,K[0]'hh=k0:=by subst hK;intro hh;rfl
 rw[← hK]at hn mM hlen C9 ⊢;clear hK;simp[go_sem,Nn,IX,aI];refine bF (fun mm s=>∃tm h' ax j x c k vc vk,s=.mk tm h' ax []∧mm=K.length-j∧j≤K.length∧tm.get 0=some (.ptr p 0)∧tm.get 2=some (.fz 1 u (aG st))∧tm.get 3=some (.fz 1 v (aG K))∧tm.get 9=some (.ptr nx 0)∧tm.get 16=some (.fz 1 v (aG K))∧tm.get 17=some (.int .i64 (K.length:Int))∧tm.get 18=some (.int .i64 (j:Int))∧
  h'.get nx=some (bx 154 [.int .i64 i,vc,vk,.bool false] false 0)∧k.getLast?=some x∧
  CK nx h' ax k0 c k vc vk∧
  az nx h h'∧nx<ax∧k.length≤j+1∧(∀y∈c,dh y)∧(∀y∈k,dh y)∧RowKit.Hid (n=⟨i,(bN x c k (st.drop j) (K.drop j)).2.1,(bN x c k (st.drop j) (K.drop j)).2.2,false⟩)) ⟨K.length,_,_,_,0,k0,[],[k0],.sl0,.fz 1 true [.int .i64 k0],rfl,by simp,by simp,?_⟩ ?_
 ·simp[go_sem];refine⟨.inl ⟨rfl,rfl,rfl,rfl⟩,?_,mM k0 ?_,Lib.hid hn⟩
  ·simp(disch:=omega)only[aK,az.refl]
  ·have h0:=UA (by omega);rw[← h0];exact ah _
 ·rintro mm s ⟨tm,h',ax,j,x,c,k,vc,vk,rfl,rfl,hj,t0,t2,t3,t9,t16,t17,t18,g0,hx,eB,he,ei,eO,NJ,yG,hv⟩ J hJ
  refine bl ?_;have n0:¬nx=ax:=by omega
  have w0:IntKind.i64.wrap 0=0:=rfl;have n1:¬nx=ax+1:=by omega
  by_cases ay:j<K.length
  ·obtain⟨y,hy⟩:∃y,y=K[j]:=⟨_,rfl⟩;have oh:j<st.length:=by omega
   obtain⟨s,hs⟩:∃s,s=st[j]:=⟨_,rfl⟩;have Po:dh y:=by rw[hy];exact mM _ (ah _)
   have Jo:dh s:=by rw[hs];exact aU _ (ah _)
   have aF:=hv.out;rw[aj ay,aj oh,← hy,← hs]at aF
   by_cases Bd:y=x
   ·rw[Cr Bd]at aF;have HV:=Lib.hid aF;clear aF;subst Bd
    rcases eB with⟨rfl,rfl,rfl,rfl⟩ |⟨gQ,aX,bc,bk,b1,b2,b3,b4,b5,rfl,rfl,gc,gk⟩
    ·simp at hx;subst hx;simp[go_sem,t9,t16,t17,t18,ay,g0,w0,← hy];refine hJ (K.length-(j+1)) _ (by omega) ⟨_,_,_,j+1,k0,[],[k0],.sl0,.fz 1 true [.int .i64 k0],rfl,rfl,by omega,?_⟩;simp(disch:=omega) [go_sem,t0,t2,t3,t9,t16,t17,aS,g0];exact⟨.inl ⟨rfl,rfl,rfl,rfl⟩,he,ei,Po,HV⟩
    ·have Ge:0<k.length:=(by omega);have w1:IntKind.i64.wrap ((k.length:Int)-1)=((k.length-1:Nat):Int):=by rw[aS] <;> omega
     have nG:k[k.length-1]?=some y:=by rw[← List.getLast?_eq_getElem?];exact hx
     have ig:=Em nG;have dB:k.length-1<k.length:=(by omega);obtain⟨q1,vf⟩:∃q1,q1=k.length-1:=⟨_,rfl⟩;rw[← vf]at w1 ig dB;simp[go_sem,t9,t16,t17,t18,ay,g0,gk,w1,ig,dB,← hy];refine hJ (K.length-(j+1)) _ (by omega) ⟨_,_,_,j+1,y,c,k,.sl bc 0 c.length 0 true,.sl bk 0 k.length 0 true,rfl,rfl,by omega,?_⟩;simp(disch:=omega) [go_sem,t0,t2,t3,t9,t16,t17,aS,g0,hx,aX];exact⟨.inr ⟨gQ,aX,bc,bk,b1,b2,b3,by omega,by omega,rfl,by rw[aX],gc,gk⟩,he,ei,by omega,NJ,yG,HV⟩
   ·rw[EF Bd]at aF;have HV:=Lib.hid aF;clear aF
    rcases eB with⟨rfl,rfl,rfl,rfl⟩ |⟨gQ,aX,bc,bk,b1,b2,b3,b4,b5,rfl,rfl,gc,gk⟩
    ·simp at hx;subst hx;simp[go_sem,t9,t16,t17,t18,ay,g0,w0,← hy,Bd];refine eI [7,12,14,16] [] [(9,7)] ?_;simp[go_sem,t2,t9,t18,g0,oh,← hs,n0,n1,aI];refine hJ (K.length-(j+1)) _ (by omega) ⟨_,_,_,j+1,y,[s],[k0,y],.sl ax 0 1 0 true,.sl (ax+1) 0 2 0 true,rfl,rfl,by omega,?_⟩;simp(disch:=omega) [go_sem,t0,t2,t3,t9,t16,t17,aS];refine⟨.inr ⟨by simp,rfl,ax,ax+1,by omega,by omega,by omega,by omega,by omega,rfl,rfl,?_,?_⟩,?_,Jo,⟨yG _ (by simp),Po⟩,?_⟩
     ·simp[go_sem,show ¬ax=nx by omega,aG]
     ·simp[go_sem,show ¬ax+1=nx by omega,aG]
     ·simp(disch:=omega)only[aK,he]
     ·exact HV
    ·have Ge:0<k.length:=(by omega);have w1:IntKind.i64.wrap ((k.length:Int)-1)=((k.length-1:Nat):Int):=by rw[aS] <;> omega
     have nG:k[k.length-1]?=some x:=by rw[← List.getLast?_eq_getElem?];exact hx
     have ig:=Em nG;have dB:k.length-1<k.length:=(by omega);obtain⟨q1,vf⟩:∃q1,q1=k.length-1:=⟨_,rfl⟩;rw[← vf]at w1 ig dB;have z1:¬bc=ax:=(by omega);have z2:¬bk=ax:=(by omega);have z3:¬bk=bc:=fun e=>b3 e.symm;have z4:¬nx=bc:=(by omega);have z5:¬nx=bk:=(by omega);have fo1:=vU c;have uH:=vU k;have le1:c.length+1≤16777216:=(by omega);have rT:k.length+1≤16777216:=(by omega);simp[go_sem,t9,t16,t17,t18,ay,g0,gk,w1,ig,dB,← hy,Bd];refine eI [7,12,14,16] [] [(9,7)] ?_;simp[go_sem,t2,t9,t18,g0,gc,gk,oh,← hs,n0,n1,aI,z2,z3,z4,z5,le1,rT];refine hJ (K.length-(j+1)) _ (by omega) ⟨_,_,_,j+1,y,c++[s],k++[y],.sl ax 0 (c.length+1) 0 true,.sl (ax+1) 0 (k.length+1) 0 true,rfl,rfl,by omega,?_⟩;simp(disch:=omega) [go_sem,t0,t2,t3,t9,t16,t17,aS];refine⟨.inr ⟨by simp,by simp;omega,ax,ax+1,by omega,by omega,by omega,by omega,by omega,by simp,by simp,?_,?_⟩,?_,by omega,?_,?_,HV⟩
     ·simp[go_sem,show ¬ax=nx by omega,show ¬ax=bk by omega,aG]
     ·simp[go_sem,show ¬ax+1=nx by omega,aG]
     ·simp(disch:=omega)only[aK,he]
     ·intro q hq
      rcases hq with hq |hq
      ·exact NJ q hq
      ·rw[hq];exact Jo
     ·intro q hq
      rcases hq with hq |hq
      ·exact yG q hq
      ·rw[hq];exact Po
  ·have fm:K.drop j=[]:=al (by omega);have aF:=hv.out;rw[fm,Qx]at aF;simp only at aF;have Nl:=UA (by omega)
   rcases eB with⟨rfl,rfl,rfl,rfl⟩ |⟨gQ,aX,bc,bk,b1,b2,b3,b4,b5,rfl,rfl,gc,gk⟩
   ·have hKe:∀hh,(aG K)[0]'hh=.int .i64 k0:=fun hh=>Em (by rw[aa (by omega),Nl]) hh;have No:0<K.length:=(by omega);simp[go_sem,t3,t9,t17,t18,ay,g0,No,hKe];have h0:n.kids.length=1:=by rw[aF];rfl
    exact Ft _ ax h0 he (by omega)
   ·have dB:¬k.length=1:=by
     have:c.length≠0:=fun e=>gQ (au e);omega
    have dK:¬(k.length:Int)=1:=(by omega);simp[go_sem,t0,t9,t17,t18,ay,g0,dK];have Ve:jE n:=by
     rw[aF];exact⟨hi,NJ,yG,by show c.length≤100000;omega,by show k.length≤100000;omega⟩
    have u9:¬n.kids.length=1:=by rw[aF];exact dB
    have ON:n.cs=[.int .i64 i,.fz 1 false (aG c),.fz 1 false (aG k),.bool false]:=by rw[aF];rfl
    refine Hu (fun a=>a∈[bc,bk]) (iG.kill _) (args':=[.ptr p 0,.agg n.cs]) ?_ ?_
    ·rw[ON];refine .cons _ _ _ _ (.same _) (.cons _ _ _ _ (.agg _ _ (.cons _ _ _ _ (.same _) (.cons _ _ _ _ (zN (s:=c) (r:=[]) (by simp) (by rw[List.append_nil];exact gc)) (.cons _ _ _ _ (zN (s:=k) (r:=[]) (by simp) (by rw[List.append_nil];exact gk)) (.cons _ _ _ _ (.same _) .nil))))) .nil)
    have uL:ke O (jA h' [bc,bk]) ax p L:=hM.mono (fun _ h=>h) (fun a ha _=>by
     rw[oF (by simp;omega)];exact he a ha) (by omega)
    refine Hx O _ _ p L n uL Ve hL _ fun O' g ny hk hm=>?_;obtain⟨k1,k2,k3⟩:=hk;simp[go_sem,aA];refine hR O' g ny u9 Ve ⟨by omega,fun a ha hO=>?_,fun a ha=>?_⟩ hm
    ·rw[k2 a (by omega) hO,oF (by simp;omega)];exact he a ha
    ·rcases k3 a ha with q |q
     ·exact .inl q
     ·exact .inr (by omega)
def zHy:cx.ft.get 206=some Tryz.f206:=aO
def po:List Int→Nat→List (AV×AV×Nat)
 |[],_=>[]
 |x::l,n=>(.int .i64 x,.int .i64 (n:Int),n)::po l (n+1)
def zyn (x:Int):∀(l:List Int) (n:Nat),po l n++[(.int .i64 x,.int .i64 ((n+l.length:Nat):Int),n+l.length)]=po (l++[x]) n
 |[],n=>rfl
 |y::l,n=>by
  have:=zyn x l (n+1);simp only[po,List.cons_append,List.length_cons];rw[← this,show n+(l.length+1)=n+1+l.length by omega]
def vN (x:Int):List Int→Nat→Option (Nat×AV)
 |[],_=>none
 |y::l,i=>if x=y then some (i,.int .i64 (i:Int)) else vN x l (i+1)
def Y0 (x:Int):∀(l:List Int) (n:Nat),mU (.int .i64) (.int .i64 x) (po l n) n=some (vN x l n)
 |[],n=>rfl
 |y::l,n=>by
  rw[po,Er,vN]
  by_cases e:x=y
  ·simp[mC,e,Sd,sE]
  ·have e2:(x == y)=false:=by simpa using e
   simp[mC,e,e2,Sd,sE,fN_eq,Y0 x l (n+1)]
@[go_sem] theorem zZc (x:Int)(l:List Int):mU (.int .i64) (.int .i64 x) (po l 0) 0=some (vN x l 0):=Y0 x l 0
def QS {x:Int}:∀{l:List Int}(i:Nat),¬x∈l→vN x l i=none
 |[],_,_=>rfl
 |y::l,i,h=>by
  simp at h;rw[vN,if_neg h.1,QS (i+1) h.2]
def Ry {x:Int}:∀{l:List Int}(i:Nat),x∈l→vN x l i=some (i+l.findIdx (fun y=>decide (y=x)),.int .i64 ((i+l.findIdx (fun y=>decide (y=x)):Nat):Int))
 |[],_,h=>by cases h
 |y::l,i,h=>by
  rw[vN,List.findIdx_cons]
  by_cases e:x=y
  ·subst e;simp
  ·have e2:¬y=x:=fun q=>e q.symm;have hm:x∈l:=by
    rcases List.mem_cons.1 h with h1 |h1
    ·exact absurd h1 e
    ·exact h1
   rw[if_neg e,Ry (i+1) hm];simp only[e2,decide_false,cond_false];rw[show i+1+l.findIdx (fun y=>decide (y=x))=i+(l.findIdx (fun y=>decide (y=x))+1) by omega]
def nh (o:List Int) (x:Int):Nat:=o.findIdx fun y=>decide (y=x)
def cX (L:List Nd):Nat→List Int→Int→List Int
 |0,o,_=>o
 |f+1,o,i=>if i∈o then o else ((L.getD i.toNat ⟨0,[],[],false⟩).kids).foldl (cX L f) (o++[i])
def WK (L:List Nd):Prop:=∀n∈L,∀x∈n.kids,0≤x∧x<L.length
def kL (L:List Nd)(o:List Int):Prop:=o.Nodup∧∀x∈o,0≤x∧x<(L.length:Int)
def Qj:∀{l m:List Nat},l.Nodup→(∀x∈l,x∈m)→l.length≤m.length
 |[],m,_,_=>by simp
 |x::t,m,h,hs=>by
  have hx:x∈m:=hs x aq;obtain⟨h1,h2⟩:=List.nodup_cons.1 h;have:=Qj (l:=t) (m:=m.erase x) h2 fun y hy=>(List.mem_erase_of_ne (fun e:y=x=>h1 (e ▸ hy))).2 (hs y (an _ hy));rw[List.length_erase_of_mem hx]at this;have:=List.length_pos_of_mem hx;simp only[List.length_cons];omega
def kL.len {L:List Nd}{o:List Int}(h:kL L o):o.length≤L.length:=by
 have h1:(o.map Int.toNat).Nodup:=by
  refine List.pairwise_map.2 (h.1.imp_of_mem fun {a b} ha hb aT=>?_);have:=h.2 a ha;have:=h.2 b hb;omega
 have h2:∀x∈o.map Int.toNat,x∈List.range L.length:=by
  intro x hx;obtain⟨y,hy,rfl⟩:=List.mem_map.1 hx;have:=h.2 y hy;exact List.mem_range.2 (by omega)
 have:=Qj h1 h2;simpa using this
def kL.snoc {L:List Nd}{o:List Int}{i:Int}(h:kL L o)(hi:¬i∈o)(h1:0≤i∧i<(L.length:Int)):kL L (o++[i]):=by
 refine⟨List.nodup_append.2 ⟨h.1,by simp,?_⟩,?_⟩
 ·intro x hx y hy e;simp at hy;subst hy;exact hi (e ▸ hx)
 ·intro x hx
  rcases List.mem_append.1 hx with q |q
  ·exact h.2 x q
  ·simp at q;subst q;exact h1
def vX {L:List Nd}(hw:WK L):∀(f:Nat)(o:List Int) (i:Int),kL L o→0≤i∧i<(L.length:Int)→kL L (cX L f o i)∧o.length≤(cX L f o i).length
 |0,o,i,h,hi=>⟨h,ae _⟩
 |f+1,o,i,h,hi=>by
  rw[cX]
  by_cases hm:i∈o
  ·rw[if_pos hm];exact⟨h,ae _⟩
  ·rw[if_neg hm];have h1:=h.snoc hm hi;have key:∀(ks:List Int),(∀x∈ks,0≤x∧x<(L.length:Int))→∀o1,kL L o1→kL L (ks.foldl (cX L f) o1)∧o1.length≤(ks.foldl (cX L f) o1).length:=by
    intro ks
    induction ks with
    |nil=>intro _ o1 h1;exact⟨h1,ae _⟩
    |cons k ks ih=>
     intro hk o1 h1;obtain⟨a1,a2⟩:=vX hw f o1 k h1 (hk k aq);obtain⟨b1,b2⟩:=ih (fun x hx=>hk x (an _ hx)) _ a1;exact⟨b1,by simp only[List.foldl_cons];omega⟩
   have hk:∀x∈(L.getD i.toNat ⟨0,[],[],false⟩).kids,0≤x∧x<(L.length:Int):=by
    have hl:i.toNat<L.length:=(by omega);rw[ak,aa hl];exact hw _ (ah hl)
   obtain⟨a1,a2⟩:=key _ hk _ h1;refine⟨a1,?_⟩;rw[List.length_append]at a2;simp only[List.length_cons,List.length_nil]at a2;omega
structure VsSt (b p q:Nat)(o:List Int)(h:Tr ABlk) (nx:Nat):Prop where
 lb:b+6≤nx
 gm:h.get b=some (bx 182 [.ptr p 0] false 0)
 ge:h.get (b+2)=some (.map (po o 0) o.length)
 gp:h.get (b+3)=some (bx 234 [.map (b+2)] false 0)
 gv:h.get (b+5)=some (bx 235 [.func 206 [] [.ptr (b+3) 0,.ptr (b+4) 0,.ptr b 0,.ptr (b+5) 0]] false 0)
 go:(o=[]∧h.get (b+4)=some (bx 40 [.sl0] false 0))∨(o≠[]∧b+6≤q∧q<nx∧h.get (b+4)=some (bx 40 [.sl q 0 o.length 0 true] false 0)∧h.get q=some (bx 3 (aG o) true 1))
def uF (b:Nat)(h g:Tr ABlk):Prop:=az b h g∧g.get (b+1)=h.get (b+1)
def uF.trans {b:Nat}{h g f:Tr ABlk}(x:uF b h g)(y:uF b g f):uF b h f:=⟨fun k hk=>(y.1 k hk).trans (x.1 k hk),y.2.trans x.2⟩
def zS8 (L:List Nd) (b p:Nat)(hw:WK L)(eO:∀n∈L,n.kids.length≤1000000)(hl:L.length≤1000000):∀(f:Nat)(o:List Int)(h:Tr ABlk) (nx q:Nat) (i:Int)(R:AV→Tr ABlk→Nat→Prop),ke (fun k=>k<b) h b p L→VsSt b p q o h nx→kL L o→0≤i∧i<(L.length:Int)→L.length<f+o.length→
  (∀g ny q',uF b h g→nx≤ny→VsSt b p q' (cX L f o i) g ny→R (.tup []) g ny)→di 206 [.int .i64 i,.ptr (b+3) 0,.ptr (b+4) 0,.ptr b 0,.ptr (b+5) 0] h nx R:=by
 intro f
 induction f with
 |zero=>
  intro o h nx q i R hM hS hO hi hf;have:=hO.len;omega
 |succ f ih=>
 intro o h nx q i R hM hS hO hi hf hR;refine aP zHy (sz:=43) (rs:=[]) ?_;rw[cX]at hR;obtain⟨lb,gm,ge,gp,gv,go⟩:=hS
 by_cases hm:i∈o
 ·rw[if_pos hm]at hR;have NY:=Ry 0 hm;simp[go_sem,ge,gp,NY,bX];exact hR h nx q ⟨az.refl _ _,rfl⟩ (ae _) ⟨lb,gm,ge,gp,gv,go⟩
 ·rw[if_neg hm]at hR;have NY:=QS 0 hm;have kp:i.toNat<L.length:=by omega
  obtain⟨iN,U4⟩:∃iN:Nat,i=(iN:Int):=⟨i.toNat,by omega⟩;have iZ:iN<L.length:=by omega
  have uM:=hO.snoc hm hi;have AD:(L.getD i.toNat ⟨0,[],[],false⟩).kids=L[iN].kids:=by
   rw[U4,Int.toNat_natCast,ak,aa iZ];rfl
  rw[AD]at hR;have mL:∀x∈L[iN].kids,0≤x∧x<(L.length:Int):=hw _ (ah iZ);have Ov:L[iN].kids.length≤1000000:=eO _ (ah iZ);have Da:=hO.len;have Gw:=uM.len;have hle:o.length+1≤16777216:=by
   rw[List.length_append]at Gw;simp only[List.length_cons,List.length_nil]at Gw;omega
  have UH:=hM;obtain⟨fH,ma,mb,gM,hU⟩:=hM;have hpb:=hU.2.2.1;obtain⟨_,_,_,NB⟩:=hU
  rcases NB with⟨e1,_,_⟩ |⟨l0,mm,mq,o1,o2,m1,q1,m2,q2,q3,e1,gmm,e2,E6⟩
  ·rw[e1]at iZ;simp at iZ
  have ig:=KU L iN _ (aa iZ);have ij:=BG L;have tz:∀hh,(L.flatMap Nd.cs)[iN * 4+2]'hh=.fz 1 false (aG L[iN].kids):=by
   intro hh;have h1:(L.flatMap Nd.cs)[iN * 4+2]?=some (.fz 1 false (aG L[iN].kids)):=by
    have:=congrArg (fun l:List AV=>l[2]?) ig;simp only[List.getElem?_take,List.getElem?_drop]at this;simpa[Nd.cs]using this
   rw[aa hh]at h1;exact Option.some.inj h1
  have uX:iN * 4+2<(L.flatMap Nd.cs).length:=by omega
  subst e2;generalize Nq:L.flatMap Nd.cs=LL at E6 tz uX;have b1:¬p=nx:=by omega
  have b2:¬b=nx:=by omega
  have b3:¬b+2=nx:=by omega
  have b4:¬b+4=nx:=by omega
  have b5:¬mq=nx:=by omega
  have b6:¬p=nx+1:=by omega
  have b7:¬b=nx+1:=by omega
  have b8:¬mq=nx+1:=by omega
  have b9:¬p=b+2:=by omega
  have TT:¬p=b+4:=by omega
  have TU:¬mq=b+2:=by omega
  have TV:¬mq=b+4:=by omega
  have IA:¬b+3=nx:=by omega
  have IB:¬b+1=nx:=by omega
  subst U4;obtain⟨O1,qJ⟩:∃O1,O1=o++[(iN:Int)]:=⟨_,rfl⟩;rw[← qJ]at hR uM;have Fp:O1.length=o.length+1:=by rw[qJ];simp
  have d1:¬nx=b+3:=by omega
  have d2:¬nx+1=b+2:=by omega
  have d3:¬b+5=nx:=by omega
  have d4:¬b=nx:=by omega
  have wP:po O1 0=po o 0++[(.int .i64 (iN:Int),.int .i64 (o.length:Int),o.length)]:=by
   have:=zyn (iN:Int) o 0;rw[qJ,← this];simp
  have Fu:∀g ny q',uF b h g→nx≤ny→VsSt b p q' (L[iN].kids.foldl (cX L f) O1) g ny→R (.tup []) g ny:=hR;clear hR
  rcases go with⟨AU,pT⟩ |⟨AU,pT,wQ,ho4,ho5⟩
  ·have ho0:o.length=0:=by rw[AU];rfl
   have oR:O1=[(iN:Int)]:=by rw[qJ,AU];rfl
   have ge0:h.get (b+2)=some (.map (po [] 0) 0):=by simpa[AU]using ge
   have NZ:vN (iN:Int) [] 0=none:=rfl;have OH:po O1 0=[(.int .i64 (iN:Int),.int .i64 0,0)]:=by rw[oR];rfl
   simp[go_sem,gm,ge0,gp,NZ,bX,pT,b1,b2,b4,b5,b6,b7,b8,b9,TT,TU,TV,IA,gM,E6,iZ,tz,uX,aI];generalize cY:Tr.put _ (b+4) _=h0;have kN:VsSt b p (nx+1) O1 h0 (nx+1+1):=by
    refine⟨by omega,?_,?_,?_,?_,.inr ⟨by rw[oR];simp,by omega,by omega,?_,?_⟩⟩
    all_goals (rw[← cY])
    ·simp[go_sem,gm,b2,b7]
    ·rw[OH,oR];simp[go_sem,b3,IB,po]
    ·simp[go_sem,gp,IA,show ¬b+2=nx by omega]
    ·simp[go_sem,gv,d3,b4]
    ·rw[oR];simp[go_sem]
    ·rw[oR];simp[go_sem,aG,d1]
   have Np:uF b h h0:=by
    rw[← cY];refine⟨?_,?_⟩
    ·simp(disch:=omega)only[aK,az.refl]
    ·simp[go_sem,d4,IB]
   clear cY;refine bF (fun mm st=>∃tm h' ax k q' o',st=.mk tm h' ax []∧mm=L[iN].kids.length-k∧k≤L[iN].kids.length∧tm.get 4=some (.ptr (b+5) 0)∧tm.get 33=some (.fz 1 false (aG L[iN].kids))∧tm.get 34=some (.int .i64 (L[iN].kids.length:Int))∧tm.get 35=some (.int .i64 (k:Int))∧uF b h h'∧nx≤ax∧VsSt b p q' o' h' ax∧kL L o'∧O1.length≤o'.length∧RowKit.Hid (L[iN].kids.foldl (cX L f) O1=(L[iN].kids.drop k).foldl (cX L f) o')) ⟨L[iN].kids.length,_,_,_,0,nx+1,O1,rfl,by simp,by simp,?_⟩ ?_
   ·simp[go_sem];exact⟨Np,by omega,kN,uM,Lib.hid trivial⟩
   ·rintro mm' st ⟨tm,h',ax,k,q',o',rfl,rfl,hk,t4,t33,t34,t35,zX,qY,Aa,s8,CV,hv⟩ J hJ
    refine bl ?_
    by_cases ay:k<L[iN].kids.length
    ·have aF:=hv.out;rw[aj ay,List.foldl_cons]at aF;have fV:=mL _ (ah ay);have HV:=Lib.hid aF;clear aF;generalize hy:L[iN].kids[k]=y at HV fV;have MQ:=Aa.gv;simp[go_sem,t4,t33,t34,t35,ay,hy,MQ];refine ih o' h' ax q' y _ (UH.mono (fun _ h=>h) (fun a ha _=>zX.1 a ha) (ae _)) Aa s8 fV (by omega) fun g ny q2 c1 c2 c3=>?_;obtain⟨v1,v2⟩:=vX hw f o' y s8 fV;simp[go_sem,aA,t35];refine hJ (L[iN].kids.length-(k+1)) _ (by omega) ⟨_,_,_,k+1,q2,cX L f o' y,rfl,rfl,by omega,?_⟩;simp(disch:=omega) [go_sem,t4,t33,t34,aS];exact⟨zX.trans c1,by omega,c3,v1,by omega,HV⟩
    ·have aF:=hv.out;rw[al (by omega)]at aF;simp only[List.foldl_nil]at aF;simp[go_sem,t34,t35,ay];refine Fu h' ax q' zX qY ?_;rw[aF];exact Aa
  ·have c1:¬q=b+2:=(by omega);have c2:¬q=nx:=(by omega);have c3:¬b+2=q:=(by omega);have c4:¬b+4=q:=(by omega);have c5:¬b=q:=(by omega);have c6:¬p=q:=(by omega);have c7:¬mq=q:=(by omega);have fo:=vU o;simp[go_sem,gm,ge,gp,NY,bX,ho4,ho5,b1,b2,b4,b5,b6,b7,b8,b9,TT,TU,TV,IA,c1,c2,c4,c5,c6,c7,hle,gM,E6,iZ,tz,uX,aI];generalize cY:Tr.put _ (b+4) _=h0;have kN:VsSt b p (nx+1) O1 h0 (nx+1+1):=by
    refine⟨by omega,?_,?_,?_,?_,.inr ⟨by rw[qJ];simp,by omega,by omega,?_,?_⟩⟩
    all_goals (rw[← cY])
    ·simp[go_sem,gm,b2,b7,c5]
    ·rw[wP,Fp];simp[go_sem,b3,IB,c3]
    ·simp[go_sem,gp,IA,show ¬b+2=nx by omega,show ¬b+3=q by omega]
    ·simp[go_sem,gv,d3,b4,show ¬b+5=q by omega]
    ·rw[Fp];simp[go_sem]
    ·rw[qJ];simp[go_sem,aG,d1]
   have Np:uF b h h0:=by
    rw[← cY];refine⟨?_,?_⟩
    ·simp(disch:=omega)only[aK,az.refl]
    ·simp[go_sem,d4,IB,show ¬b+1=q by omega]
   clear cY;refine bF (fun mm st=>∃tm h' ax k q' o',st=.mk tm h' ax []∧mm=L[iN].kids.length-k∧k≤L[iN].kids.length∧tm.get 4=some (.ptr (b+5) 0)∧tm.get 33=some (.fz 1 false (aG L[iN].kids))∧tm.get 34=some (.int .i64 (L[iN].kids.length:Int))∧tm.get 35=some (.int .i64 (k:Int))∧uF b h h'∧nx≤ax∧VsSt b p q' o' h' ax∧kL L o'∧O1.length≤o'.length∧RowKit.Hid (L[iN].kids.foldl (cX L f) O1=(L[iN].kids.drop k).foldl (cX L f) o')) ⟨L[iN].kids.length,_,_,_,0,nx+1,O1,rfl,by simp,by simp,?_⟩ ?_
   ·simp[go_sem];exact⟨Np,by omega,kN,uM,Lib.hid trivial⟩
   ·rintro mm' st ⟨tm,h',ax,k,q',o',rfl,rfl,hk,t4,t33,t34,t35,zX,qY,Aa,s8,CV,hv⟩ J hJ
    refine bl ?_
    by_cases ay:k<L[iN].kids.length
    ·have aF:=hv.out;rw[aj ay,List.foldl_cons]at aF;have fV:=mL _ (ah ay);have HV:=Lib.hid aF;clear aF;generalize hy:L[iN].kids[k]=y at HV fV;have MQ:=Aa.gv;simp[go_sem,t4,t33,t34,t35,ay,hy,MQ];refine ih o' h' ax q' y _ (UH.mono (fun _ h=>h) (fun a ha _=>zX.1 a ha) (ae _)) Aa s8 fV (by omega) fun g ny q2 c1 c2 c3=>?_;obtain⟨v1,v2⟩:=vX hw f o' y s8 fV;simp[go_sem,aA,t35];refine hJ (L[iN].kids.length-(k+1)) _ (by omega) ⟨_,_,_,k+1,q2,cX L f o' y,rfl,rfl,by omega,?_⟩;simp(disch:=omega) [go_sem,t4,t33,t34,aS];exact⟨zX.trans c1,by omega,c3,v1,by omega,HV⟩
    ·have aF:=hv.out;rw[al (by omega)]at aF;simp only[List.foldl_nil]at aF;simp[go_sem,t34,t35,ay];refine Fu h' ax q' zX qY ?_;rw[aF];exact Aa
end
end
end Go.Ev
