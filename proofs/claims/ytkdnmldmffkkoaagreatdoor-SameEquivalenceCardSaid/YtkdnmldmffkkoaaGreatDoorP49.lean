/- Texts. -/
import Derived.Test.YtkdnmldmffkkoaaGreatDoorP34
set_option linter.unusedSimpArgs false
set_option linter.unusedVariables false
set_option maxRecDepth 100000
set_option maxHeartbeats 8000000
namespace Go.Ev
open Go.Proofs Go.RowKit
noncomputable section
attribute [-go_sem] dw bP ep gH
@[go_sem] theorem ydm (k:IntKind) (n:Nat)(h:Tr ABlk) (nx:Nat):gK .rem k (n:Int) 3 h nx=.val (.int k ((n % 3:Nat):Int)) h nx:=by
 simp only[gK,fI_eq];rfl
theorem ft6:cx.ft.get 6=some Tryz.f6:=aT (by decide) (by kernel_rfl)
theorem yin {g:Tr ABlk}{nx i esz:Nat}{a b e:Pv}{T:List AV}{opn:Bool}(hb:nx≤i)(hg:g.get i=some (bx 30 (a.cs++(b.cs++(e.cs++T))) opn esz)):Fz g nx (.sl i 0 3 3 false) (.fz 23 false (rG [a,b,e])):=
 .slz i 0 3 3 false 30 _ _ opn esz 23 (a.cs++(b.cs++e.cs)) (a.cs++(b.cs++e.cs)) (rG [a,b,e]) hb hg (by simp) (fun j hj=>by
  rw[Nat.zero_add,fx,show a.cs++(b.cs++(e.cs++T))=(a.cs++(b.cs++e.cs))++T by simp,List.getElem?_append_left hj]) (ct.same _ (xq _ _ a.cs_plain (xq _ _ b.cs_plain e.cs_plain))) ⟨a.cs,b.cs++e.cs,rfl,rfl,a.cs_len,.inl rfl,b.cs,e.cs,rfl,rfl,b.cs_len,.inl rfl,e.cs,[],by simp,rfl,e.cs_len,.inl rfl,rfl⟩ rfl
theorem Gq (w:Bool){a b:Pv}{d:List Fc}(qa:lO a 40)(qb:lO b 40)(qd:vi d 8):ay Tryz.prog cx 12 [.agg a.cs,.agg b.cs,.agg [.fz 4 w (aP d)]] (cG a b d).v:=
 GC w a b d (by have:=qa.2.1;omega) (by have:=qb.2.1;omega) (by have:=qd.1;omega) (fun f hf=>by
  obtain⟨i,hi,rfl⟩:=List.getElem_of_mem hf;have:=qd.2 i hi;omega) (by have:=qa.1.1;omega) (by have:=qb.1.1;omega) (by obtain⟨_,_,e1,e2,e3⟩:=qa;omega) (by obtain⟨_,_,e1,e2,e3⟩:=qb;omega)
def OR (a b c:Pv)(d:List Fc):Prop:=(cG a a d).e=0→(cG a b d).e=0→(cG b a d).e=0→(cG b c d).e=0→(cG a c d).e=0→(cG a a d).k=0∧(cG a b d).k=(cG b a d).k∧((cG a b d).k=0→(cG b c d).k=0→(cG a c d).k=0)
open Classical in
theorem yjg (rX:ay Tryz.prog cx 8 [] (.bool true))(w:Bool)(a b c:Pv)(d:List Fc)(hP:lO a 40→lO b 40→lO c 40→vi d 8→OR a b c d):ay Tryz.prog cx 6 [.agg a.cs,.agg b.cs,.agg c.cs,.agg [.fz 4 w (aP d)]] (.bool true):=by
 refine ay.mk fun h nx R hR=>aN.ofLe fun hG=>aV (sz:=109) (rs:=[.tmp 8]) aE ft6 rfl rfl rfl (by simp) ?_;have hf:∀g ny,aA nx h g→R (.bool true) g ny:=fun g ny he=>hR _ _ _ he (Fz.eq rfl rfl);clear hR;have V:=Oz nx;have la:=a.cs_len;have lb:=b.cs_len;have lc:=c.cs_len;have oa:=vh a;have ob:=vh b;have oc:=vh c;have zG:=ZX w false d [a,b,c] (by simp);have ta:a.cs.take 23=a.cs:=ar (by omega);have tb:b.cs.take 23=b.cs:=ar (by omega);have tc:c.cs.take 23=c.cs:=ar (by omega);simp-implicitDefEqProofs[go_sem];refine ay.use rX ?_;simp-implicitDefEqProofs[go_sem,aB,la,lb,lc,ta,tb,tc,aG,V];generalize j9:Tr.put _ (nx+1+1+1+1) (some (bx 30 (List.take 46 _++_) false 0))=M;have m0:M.get nx=some (bx 30 a.cs false 0):=by rw[← j9];simp-implicitDefEqProofs[go_sem,V]
 have m1:M.get (nx+1)=some (bx 30 b.cs false 0):=by rw[← j9];simp-implicitDefEqProofs[go_sem]
 have m2:M.get (nx+1+1)=some (bx 30 c.cs false 0):=by rw[← j9];simp-implicitDefEqProofs[go_sem]
 have m3:M.get (nx+1+1+1)=some (bx 35 [.fz 4 w (aP d)] false 0):=by rw[← j9];simp-implicitDefEqProofs[go_sem]
 have m4:∃T,M.get (nx+1+1+1+1)=some (bx 30 (a.cs++(b.cs++(c.cs++T))) false 0):=by
  rw[← j9,Tr.get_put,if_pos rfl,ZM _ _ _ la lb,List.append_assoc];exact⟨_,rfl⟩
 have hE:aA nx h M:=by
  rw[← j9];simp(disch:=omega)only[aL];exact aA.refl _ _
 clear j9;obtain⟨T,m4⟩:=m4;refine ay.useB tg zG rfl (.cons _ _ _ _ (Fz.same _ (by simp[plain,bC,AZ])) (.cons _ _ _ _ (yin (by omega) m4) .nil)) ?_
 by_cases hq:(∀i (h:i < [a,b,c].length),lO [a,b,c][i] 40)∧vi d 8
 ·have qa:lO a 40:=hq.1 0 (by simp);have qb:lO b 40:=hq.1 1 (by simp);have qc:lO c 40:=hq.1 2 (by simp);have qd:=hq.2;have jx:=hP qa qb qc qd;rw[decide_eq_true hq];have D1:=Gq w qa qa qd;have D2:=Gq w qa qb qd;have D3:=Gq w qb qa qd;have D4:=Gq w qb qc qd;have D5:=Gq w qa qc qd;unfold OR at jx;generalize cG a a d=R1 at *;generalize cG a b d=R2 at *;generalize cG b a d=R3 at *;generalize cG b c d=R4 at *;generalize cG a c d=R5 at *;obtain⟨k1,c1,e1⟩:=R1;obtain⟨k2,c2,e2⟩:=R2;obtain⟨k3,c3,e3⟩:=R3;obtain⟨k4,c4,e4⟩:=R4;obtain⟨k5,c5,e5⟩:=R5;simp only[tJ.v]at D1 D2 D3 D4 D5 jx;simp-implicitDefEqProofs[go_sem,aB,m0,m3,la,ta];refine ay.use D1 ?_;simp-implicitDefEqProofs[go_sem,aB,m0,m1,m3,la,lb,ta,tb,aG,V];refine ay.use D2 ?_;simp-implicitDefEqProofs[go_sem,aB,m0,m1,m3,la,lb,ta,tb,aG,V];refine ay.use D3 ?_;simp-implicitDefEqProofs[go_sem,aB,m1,m2,m3,lb,lc,tb,tc,aG];refine ay.use D4 ?_
  simp-implicitDefEqProofs[go_sem,aB,m0,m2,m3,la,lc,ta,tc,aG,V];refine ay.use D5 ?_
  by_cases h1:e1=0
  ·by_cases h2:e2=0
   ·by_cases h3:e3=0
    ·by_cases h4:e4=0
     ·by_cases h5:e5=0
      ·obtain⟨l1,l2,l3⟩:=jx h1 h2 h3 h4 h5;subst l1;subst l2
       by_cases z2:k2=0
       ·by_cases z4:k4=0
        ·have z5:=l3 z2 z4;simp-implicitDefEqProofs[go_sem,aB,aG,h1,h2,h3,h4,h5,z2,z4,z5];refine hf _ _ ?_;simp(disch:=omega)only[aL];exact hE
        ·simp-implicitDefEqProofs[go_sem,aB,aG,h1,h2,h3,h4,h5,z2,z4];refine hf _ _ ?_;simp(disch:=omega)only[aL];exact hE
       ·simp-implicitDefEqProofs[go_sem,aB,aG,h1,h2,h3,h4,h5,z2];refine hf _ _ ?_;simp(disch:=omega)only[aL];exact hE
      ·simp-implicitDefEqProofs[go_sem,aB,aG,h1,h2,h3,h4,h5];refine hf _ _ ?_;simp(disch:=omega)only[aL];exact hE
     ·simp-implicitDefEqProofs[go_sem,aB,aG,h1,h2,h3,h4];refine hf _ _ ?_;simp(disch:=omega)only[aL];exact hE
    ·simp-implicitDefEqProofs[go_sem,aB,aG,h1,h2,h3];refine hf _ _ ?_;simp(disch:=omega)only[aL];exact hE
   ·simp-implicitDefEqProofs[go_sem,aB,aG,h1,h2];refine hf _ _ ?_;simp(disch:=omega)only[aL];exact hE
  ·simp-implicitDefEqProofs[go_sem,aB,aG,h1];refine hf _ _ ?_;simp(disch:=omega)only[aL];exact hE
 ·rw[decide_eq_false hq];simp-implicitDefEqProofs[go_sem,aB];exact hf _ _ hE
end
end Go.Ev
namespace Go.Ev
open Go.Proofs
noncomputable section
theorem wA {α:Type}{p:α→Prop}:∀{a b:List α}{x y:α}{r s:List α},(∀c∈a,p c)→(∀c∈b,p c)→¬p x→¬p y→a++x::r=b++y::s→a=b∧x=y∧r=s
 |[],[],x,y,r,s,_,_,_,_,h=>by
  simp only[List.nil_append,List.cons.injEq]at h;exact⟨rfl,h.1,h.2⟩
 |[],c::b,x,y,r,s,_,hb,hx,_,h=>by
  simp only[List.nil_append,List.cons_append,List.cons.injEq]at h;rw[h.1]at hx;exact absurd (hb c ao) hx
 |c::a,[],x,y,r,s,ha,_,_,hy,h=>by
  simp only[List.nil_append,List.cons_append,List.cons.injEq]at h;rw[← h.1]at hy;exact absurd (ha c ao) hy
 |c::a,e::b,x,y,r,s,ha,hb,hx,hy,h=>by
  simp only[List.cons_append,List.cons.injEq]at h;obtain⟨e1,e2,e3⟩:=wA (fun z hz=>ha z (ak _ hz)) (fun z hz=>hb z (ak _ hz)) hx hy h.2;exact⟨by rw[h.1,e1],e2,e3⟩
def za (c:UInt8):Prop:=48≤c.toNat∧c.toNat≤57
theorem Ja {u:Nat}(h:u<10):(UInt8.ofNat (48+u)).toNat=48+u:=by
 rw[UInt8.toNat_ofNat'];omega
theorem I9 (u:Nat):∀c∈Lib.decDigits u,za c:=by
 induction u using Nat.strongRecOn with
 |_ u ih=>
  intro c hc;rw[Lib.decDigits]at hc;split at hc
  ·rename_i h;simp only[List.mem_singleton]at hc;rw[hc];have:=Ja h;exact⟨by omega,by omega⟩
  ·rename_i h
   rcases List.mem_append.1 hc with q |q
   ·exact ih (u / 10) (by omega) c q
   ·simp only[List.mem_singleton]at q;rw[q];have:=Ja (u:=u % 10) (by omega);exact⟨by omega,by omega⟩
def OX (l:List UInt8):Nat:=l.foldl (fun a c=>a * 10+(c.toNat-48)) 0
theorem VC (u:Nat):OX (Lib.decDigits u)=u:=by
 induction u using Nat.strongRecOn with
 |_ u ih=>
  rw[Lib.decDigits];split
  ·rename_i h;have:=Ja h;simp only[OX,List.foldl_cons,List.foldl_nil];omega
  ·rename_i h;have h1:=ih (u / 10) (by omega);have:=Ja (u:=u % 10) (by omega);unfold OX at h1 ⊢;rw[List.foldl_append,h1];simp only[List.foldl_cons,List.foldl_nil];omega
theorem VD {u v:Nat}(h:Lib.decDigits u=Lib.decDigits v):u=v:=by rw[← VC u,h,VC]
theorem yia (u:Nat):Lib.decDigits u≠[]:=by
 rw[Lib.decDigits];split <;> simp
theorem AU {n:Int}(h:0≤n):∀c∈Lib.itoa n,za c:=by
 rw[Lib.itoa,if_neg (by omega)];exact I9 _
theorem CQ {n:Int}(x:UInt8)(h:¬za x)(h2:x≠45):∀c∈Lib.itoa n,c≠x:=by
 intro c hc e;rw[Lib.itoa]at hc;split at hc
 ·rcases List.mem_cons.1 hc with q |q
  ·exact h2 (e ▸ q)
  ·exact h (e ▸ I9 _ c q)
 ·exact h (e ▸ I9 _ c hc)
theorem CN {n m:Int}(h:Lib.itoa n=Lib.itoa m):n=m:=by
 have eE:∀u l,Lib.decDigits u≠45::l:=fun u l e=>by
  have:=I9 u 45 (by rw[e];exact ao);exact absurd this.1 (by decide)
 rw[Lib.itoa,Lib.itoa]at h;split at h <;> split at h
 ·have:=VD (List.cons.inj h).2;omega
 ·exact absurd h.symm (eE _ _)
 ·exact absurd h (eE _ _)
 ·have:=VD h;omega
theorem yiy (n:Int):Lib.itoa n≠[]:=by
 rw[Lib.itoa];split
 ·simp
 ·exact yia _
theorem Pc:∀{l m:List Int},lU l=lU m→l=m
 |[],[],_=>rfl
 |[],k::m,h=>by simp[lU]at h
 |k::l,[],h=>by simp[lU]at h
 |k::l,j::m,h=>by
  rw[lU,lU]at h;obtain⟨a,_,b⟩:=wA (p:=fun c:UInt8=>c≠44) (CQ 44 (fun q=>absurd q.1 (by decide)) (by decide)) (CQ 44 (fun q=>absurd q.1 (by decide)) (by decide)) (by simp) (by simp) h;rw[CN a,Pc b]
theorem Pd:∀(l:List Int),∀c∈lU l,c≠58
 |[],c,h=>by cases h
 |k::l,c,h=>by
  rw[lU]at h
  rcases List.mem_append.1 h with q |q
  ·exact CQ 58 (fun q=>absurd q.2 (by decide)) (by decide) c q
  ·rcases List.mem_cons.1 q with q |q
   ·rw[q];decide
   ·exact Pd l c q
theorem VZ {n m:Nd}(h:bN n=bN m):n=m:=by
 have h1:Gt n=Gt m:=by
  have:=congrArg (fun s:ByteArray=>s.data.toList) h;simpa[bN]using this
 obtain⟨f,c,k,l⟩:=n;obtain⟨f2,c2,k2,l2⟩:=m;simp only[Gt,List.cons.injEq]at h1;obtain⟨e1,e2⟩:=h1;have hN:∀i:Int,∀c∈Lib.itoa i,c≠58:=fun i=>CQ 58 (fun q=>absurd q.2 (by decide)) (by decide);simp only[List.cons_append]at e2;obtain⟨a1,_,a2⟩:=wA (p:=fun c:UInt8=>c≠58) (hN f) (hN f2) (by simp) (by simp) e2;obtain⟨b1,_,b2⟩:=wA (p:=fun c:UInt8=>c≠58) (Pd c) (Pd c2) (by simp) (by simp) a2;rw[CN a1,Pc b1,Pc b2];cases l <;> cases l2 <;> simp at e1 ⊢
def AP (n:ByteArray):Prop:=n=.empty∨xu n
theorem V7 {n:ByteArray}(h:AP n):∀c∈n.data.toList,c≠44:=by
 intro c hc e
 rcases h with h |h
 ·rw[h]at hc;cases hc
 ·obtain⟨i,hi,e2⟩:=List.getElem_of_mem hc;have zL:i<n.size:=by simpa using hi
  have:=h.1 i zL;have e3:n[i]=c:=by rw[← e2];rfl
  rw[e3,e]at this;unfold kB at this;have e4:((44:UInt8).toNat:Int)=44:=rfl;rw[e4]at this;omega
theorem Jd {n:ByteArray}(h:AP n)(r:List UInt8):∃x s,n.data.toList++44::r=x::s∧¬za x:=by
 rcases h with h |h
 ·rw[h];exact⟨44,r,rfl,fun q=>absurd q.1 (by decide)⟩
 ·match hd:n.data.toList with
  |[]=>exact⟨44,r,rfl,fun q=>absurd q.1 (by decide)⟩
  |x::s=>
   refine⟨x,s++44::r,rfl,fun q=>?_⟩;have hl:n.data.toList.length=s.length+1:=by rw[hd];rfl
   have zL:0<n.size:=by
    have:n.size=n.data.toList.length:=by simp
    omega
   have:=h.1 0 zL;have e3:n[0]=x:=by
    have:n[0]=n.data.toList[0]'(by rw[hl];omega):=rfl;rw[this];simp[hd]
   rw[e3]at this;unfold kB at this;obtain⟨q1,q2⟩:=q;omega
mutual
def vo:Fm→Prop
 |.mk o n _ _ kids=>1≤o∧o≤9∧AP n∧Gp kids
def Gp:List Fm→Prop
 |[]=>True
 |f::l=>vo f∧Gp l
end
theorem Wg {f:Fm}(h:vo f)(r:List UInt8):∃x s,iv f++r=x::s∧za x:=by
 obtain⟨o,n,c,m,kids⟩:=f
 match hi:Lib.itoa o with
 |[]=>exact absurd hi (yiy o)
 |x::t=>
  refine⟨x,_,by rw[iv,hi];rfl,?_⟩;exact AU (n:=o) (by have:=h.1;omega) x (by rw[hi];exact ao)
mutual
theorem Wh:∀(f g:Fm)(r s:List UInt8),vo f→vo g→iv f++r=iv g++s→f=g∧r=s
 |.mk o n c m kids,.mk o2 n2 c2 m2 kS,r,s,hf,hg,h=>by
  obtain⟨f1,f2,f3,f4⟩:=hf;obtain⟨g1,g2,g3,g4⟩:=hg;simp only[iv,List.append_assoc,List.cons_append,List.nil_append]at h;obtain⟨x,t,ex,dx⟩:=Jd f3 (Lib.itoa c++44::(Lib.itoa m++40::(gj kids++41::r)));obtain⟨y,u,ey,dy⟩:=Jd g3 (Lib.itoa c2++44::(Lib.itoa m2++40::(gj kS++41::s)));rw[ex,ey]at h;obtain⟨a1,a2,a3⟩:=wA (p:=za) (AU (by omega)) (AU (by omega)) dx dy h;have h2:n.data.toList++44::(Lib.itoa c++44::(Lib.itoa m++40::(gj kids++41::r)))=n2.data.toList++44::(Lib.itoa c2++44::(Lib.itoa m2++40::(gj kS++41::s))):=by rw[ex,ey,a2,a3]
  obtain⟨b1,_,b2⟩:=wA (p:=fun c:UInt8=>c≠44) (V7 f3) (V7 g3) (by simp) (by simp) h2;have hN:∀i:Int,∀c∈Lib.itoa i,c≠44:=fun i=>CQ 44 (fun q=>absurd q.1 (by decide)) (by decide);have hM:∀i:Int,∀c∈Lib.itoa i,c≠40:=fun i=>CQ 40 (fun q=>absurd q.1 (by decide)) (by decide);obtain⟨c1,_,c3⟩:=wA (p:=fun c:UInt8=>c≠44) (hN c) (hN c2) (by simp) (by simp) b2;obtain⟨d1,_,d3⟩:=wA (p:=fun c:UInt8=>c≠40) (hM m) (hM m2) (by simp) (by simp) c3;obtain⟨k1,k2⟩:=Wf kids kS r s f4 g4 d3;have hn:n=n2:=by
   obtain⟨⟨l⟩⟩:=n;obtain⟨⟨l2⟩⟩:=n2;simp only at b1;rw[b1]
  rw[CN a1,hn,CN c1,CN d1,k1];exact⟨rfl,k2⟩
theorem Wf:∀(l m:List Fm)(r s:List UInt8),Gp l→Gp m→gj l++41::r=gj m++41::s→l=m∧r=s
 |[],[],r,s,_,_,h=>by
  simp only[gj,List.nil_append,List.cons.injEq]at h;exact⟨rfl,h.2⟩
 |[],g::m,r,s,_,hm,h=>by
  simp only[gj,List.nil_append,List.append_assoc]at h;obtain⟨x,t,e,d⟩:=Wg hm.1 (gj m++41::s);rw[e,List.cons.injEq]at h;rw[← h.1]at d;exact absurd d.1 (by decide)
 |f::l,[],r,s,hl,_,h=>by
  simp only[gj,List.nil_append,List.append_assoc]at h;obtain⟨x,t,e,d⟩:=Wg hl.1 (gj l++41::r);rw[e,List.cons.injEq]at h;rw[h.1]at d;exact absurd d.1 (by decide)
 |f::l,g::m,r,s,hl,hm,h=>by
  simp only[gj,List.append_assoc]at h;obtain⟨e1,e2⟩:=Wh f g _ _ hl.1 hm.1 h;obtain⟨e3,e4⟩:=Wf l m r s hl.2 hm.2 e2;rw[e1,e3];exact⟨rfl,e4⟩
end
theorem VY {o:Int}(h:1≤o∧o≤9):(Lib.itoa o).length=1:=by
 rw[Lib.itoa,if_neg (by omega),Lib.decDigits,dif_pos (by omega)];rfl
theorem yjp {i j:Nat}{f g:Fm}(hf:vo f)(hg:vo g)(h:rH i f=rH j g):i=j∧f=g:=by
 have h1:Lib.itoa (i:Int)++iv f=Lib.itoa (j:Int)++iv g:=by
  have:=congrArg (fun s:ByteArray=>s.data.toList) h;simpa[rH]using this
 obtain⟨o,n,c,m,kids⟩:=f;obtain⟨o2,n2,c2,m2,kS⟩:=g;obtain⟨f1,f2,f3,f4⟩:=hf;obtain⟨g1,g2,g3,g4⟩:=hg;have h2:=h1;simp only[iv]at h1;obtain⟨x,t,ex,dx⟩:=Jd f3 (Lib.itoa c++44::(Lib.itoa m++40::(gj kids++[41])));obtain⟨y,u,ey,dy⟩:=Jd g3 (Lib.itoa c2++44::(Lib.itoa m2++40::(gj kS++[41])));rw[ex,ey,← List.append_assoc,← List.append_assoc]at h1;obtain⟨a1,a2,a3⟩:=wA (p:=za) (a:=Lib.itoa (i:Int)++Lib.itoa o) (b:=Lib.itoa (j:Int)++Lib.itoa o2) (fun z hz=>by
  rcases List.mem_append.1 hz with q |q
  ·exact AU (by omega) z q
  ·exact AU (by omega) z q) (fun z hz=>by
  rcases List.mem_append.1 hz with q |q
  ·exact AU (by omega) z q
  ·exact AU (by omega) z q) dx dy h1
 obtain⟨b1,b2⟩:=List.append_inj' a1 (by rw[VY ⟨f1,f2⟩,VY ⟨g1,g2⟩]);rw[b1]at h2;have h3:=List.append_cancel_left h2;have h4:=Wh (.mk o n c m kids) (.mk o2 n2 c2 m2 kS) [] [] ⟨f1,f2,f3,f4⟩ ⟨g1,g2,g3,g4⟩ (by simpa using h3);have:=CN b1;exact⟨by omega,h4.1⟩
mutual
def hF (ρ:ByteArray→Int):Fm→Bool
 |.mk o n c m kids=>if o=1 then true else if o=2 then false else if o=3 then nr (ρ n) c m else if o=4 then nr (ρ n) 1 1 else if o=5 then !hA ρ kids else if o=6 then hA ρ kids else hO ρ kids
def hA (ρ:ByteArray→Int):List Fm→Bool
 |[]=>true
 |f::l=>hF ρ f && hA ρ l
def hO (ρ:ByteArray→Int):List Fm→Bool
 |[]=>false
 |f::l=>hF ρ f || hO ρ l
end
mutual
theorem VM (ρ:ByteArray→Int):∀f:Fm,hF ρ (bz f)=hF ρ f
 |.mk o n c m kids=>by
  obtain⟨h1,h2⟩:=VN ρ kids;rw[bz]
  by_cases e:o=4
  ·rw[if_pos e,e];simp[hF]
  ·rw[if_neg e];simp only[hF,h1,h2]
theorem VN (ρ:ByteArray→Int):∀l:List Fm,hA ρ (tH l)=hA ρ l∧hO ρ (tH l)=hO ρ l
 |[]=>by rw[tH];exact⟨rfl,rfl⟩
 |f::l=>by
  obtain⟨h1,h2⟩:=VN ρ l;have h3:=VM ρ f;rw[tH];simp only[hA,hO,h1,h2,h3];exact⟨trivial,trivial⟩
end
mutual
def RW (Q T:ByteArray→Prop):Fm→Prop
 |.mk o n c m kids=>((o=1∨o=2)∧n=.empty∧c=0∧m=0∧kids=[])∨(o=3∧Q n∧0≤m∧m≤1000000∧kids=[])∨(o=4∧T n∧kids=[])∨(o=5∧n=.empty∧c=0∧m=0∧kids.length=1∧oM Q T kids)∨((o=6∨o=7)∧n=.empty∧c=0∧m=0∧2≤kids.length∧oM Q T kids)
def oM (Q T:ByteArray→Prop):List Fm→Prop
 |[]=>True
 |f::l=>RW Q T f∧oM Q T l
end
mutual
theorem O5 {Q T:ByteArray→Prop}{ρ τ:ByteArray→Int}(hQ:∀n,Q n→ρ n=τ n)(hT:∀n,T n→ρ n=τ n):∀{f:Fm},RW Q T f→hF ρ f=hF τ f
 |.mk o n c m kids,h=>by
  rcases h with⟨e,_⟩ |⟨e,q,_⟩ |⟨e,q,_⟩ |⟨e,_,_,_,_,q⟩ |⟨e,_,_,_,_,q⟩
  ·rcases e with e |e <;> simp[hF,e]
  ·simp[hF,e,hQ n q]
  ·simp[hF,e,hT n q]
  ·simp[hF,e,(O6 hQ hT q).1]
  ·obtain⟨q1,q2⟩:=O6 hQ hT q
   rcases e with e |e <;> simp[hF,e,q1,q2]
theorem O6 {Q T:ByteArray→Prop}{ρ τ:ByteArray→Int}(hQ:∀n,Q n→ρ n=τ n)(hT:∀n,T n→ρ n=τ n):∀{l:List Fm},oM Q T l→hA ρ l=hA τ l∧hO ρ l=hO τ l
 |[],_=>⟨rfl,rfl⟩
 |f::l,h=>by
  obtain⟨q1,q2⟩:=O6 hQ hT h.2;simp only[hA,hO,q1,q2,O5 hQ hT h.1];exact⟨trivial,trivial⟩
end
mutual
def RN (Q:ByteArray→Prop):Fm→Prop
 |.mk o n c m kids=>(o=3∧Q n∧0≤m∧m≤1000000∧kids=[])∨(o=5∧n=.empty∧c=0∧m=0∧kids.length=1∧lW Q kids)∨((o=6∨o=7)∧n=.empty∧c=0∧m=0∧2≤kids.length∧lW Q kids)
def lW (Q:ByteArray→Prop):List Fm→Prop
 |[]=>True
 |f::l=>RN Q f∧lW Q l
end
def RC (Q:ByteArray→Prop)(f:Fm):Prop:=(∃b,f=jV b)∨RN Q f
theorem OT {Q:ByteArray→Prop}:∀{l:List Fm},(∀f∈l,RN Q f)→lW Q l
 |[],_=>trivial
 |_::_,h=>⟨h _ ao,OT fun f hf=>h f (ak _ hf)⟩
mutual
theorem RN.rw {Q T:ByteArray→Prop}:∀{f:Fm},RN Q f→RW Q T f
 |.mk o n c m kids,h=>by
  rcases h with q |⟨e,e1,e2,e3,e4,q⟩ |⟨e,e1,e2,e3,e4,q⟩
  ·exact .inr (.inl q)
  ·exact .inr (.inr (.inr (.inl ⟨e,e1,e2,e3,e4,lW.rw q⟩)))
  ·exact .inr (.inr (.inr (.inr ⟨e,e1,e2,e3,e4,lW.rw q⟩)))
theorem lW.rw {Q T:ByteArray→Prop}:∀{l:List Fm},lW Q l→oM Q T l
 |[],_=>trivial
 |_::_,h=>⟨RN.rw h.1,lW.rw h.2⟩
end
theorem RC.rw {Q T:ByteArray→Prop}{f:Fm}(h:RC Q f):RW Q T f:=by
 rcases h with⟨b,rfl⟩ |h
 ·cases b
  ·exact .inl ⟨.inr rfl,rfl,rfl,rfl,rfl⟩
  ·exact .inl ⟨.inl rfl,rfl,rfl,rfl,rfl⟩
 ·exact h.rw
mutual
theorem RN.has {Q:ByteArray→Prop}:∀{f:Fm},RN Q f→∃n,Q n
 |.mk o n c m kids,h=>by
  rcases h with⟨_,q,_⟩ |⟨_,_,_,_,e4,q⟩ |⟨_,_,_,_,e4,q⟩
  ·exact⟨n,q⟩
  ·exact lW.has q (by omega)
  ·exact lW.has q (by omega)
theorem lW.has {Q:ByteArray→Prop}:∀{l:List Fm},lW Q l→1≤l.length→∃n,Q n
 |[],_,h=>by simp at h
 |_::_,h,_=>RN.has h.1
end
mutual
theorem RN.sp {Q:ByteArray→Prop}(hQ:∀n,Q n→AP n):∀{f:Fm},RN Q f→vo f
 |.mk o n c m kids,h=>by
  rcases h with⟨e,q,_,_,k⟩ |⟨e,e1,_,_,_,q⟩ |⟨e,e1,_,_,_,q⟩
  ·subst k;exact⟨by omega,by omega,hQ n q,trivial⟩
  ·exact⟨by omega,by omega,.inl e1,lW.sp hQ q⟩
  ·exact⟨by omega,by omega,.inl e1,lW.sp hQ q⟩
theorem lW.sp {Q:ByteArray→Prop}(hQ:∀n,Q n→AP n):∀{l:List Fm},lW Q l→Gp l
 |[],_=>trivial
 |_::_,h=>⟨RN.sp hQ h.1,lW.sp hQ h.2⟩
end
theorem RC.sp {Q:ByteArray→Prop}(hQ:∀n,Q n→AP n){f:Fm}(h:RC Q f):vo f:=by
 rcases h with⟨b,rfl⟩ |h
 ·cases b
  ·exact⟨by simp,by simp,.inl rfl,trivial⟩
  ·exact⟨by simp,by simp,.inl rfl,trivial⟩
 ·exact h.sp hQ
theorem RN.op {Q:ByteArray→Prop}{f:Fm}(h:RN Q f):¬f.op=1∧¬f.op=2:=by
 obtain⟨o,n,c,m,kids⟩:=f;simp only[Fm.op]
 rcases h with⟨e,_⟩ |⟨e,_⟩ |⟨e,_⟩ <;> omega
theorem V3 (b:Bool):(jV b).op=if b then 1 else 2:=rfl
theorem wu (ρ:ByteArray→Int)(b:Bool):hF ρ (jV b)=b:=by cases b <;> simp[hF,jV]
theorem RC.one {Q:ByteArray→Prop}{f:Fm}(h:RC Q f)(e:f.op=1):f=jV true:=by
 rcases h with⟨b,rfl⟩ |h
 ·cases b
  ·simp[jV,Fm.op]at e
  ·rfl
 ·exact absurd e h.op.1
theorem RC.two {Q:ByteArray→Prop}{f:Fm}(h:RC Q f)(e:f.op=2):f=jV false:=by
 rcases h with⟨b,rfl⟩ |h
 ·cases b
  ·rfl
  ·simp[jV,Fm.op]at e
 ·exact absurd e h.op.2
theorem RC.rn {Q:ByteArray→Prop}{f:Fm}(h:RC Q f)(e1:¬f.op=1)(e2:¬f.op=2):RN Q f:=by
 rcases h with⟨b,rfl⟩ |h
 ·cases b
  ·exact absurd rfl e2
  ·exact absurd rfl e1
 ·exact h
theorem VL (ρ:ByteArray→Int):∀l m:List Fm,hA ρ (l++m)=(hA ρ l && hA ρ m)
 |[],m=>by simp[hA]
 |f::l,m=>by simp[hA,VL ρ l m,Bool.and_assoc]
theorem VO (ρ:ByteArray→Int):∀l m:List Fm,hO ρ (l++m)=(hO ρ l || hO ρ m)
 |[],m=>by simp[hO]
 |f::l,m=>by simp[hO,VO ρ l m,Bool.or_assoc]
theorem O9 {Q:ByteArray→Prop}(ρ:ByteArray→Int):∀l acc:List Fm,(∀f∈acc,RN Q f)→(∀f∈l,RC Q f)→RC Q (eR 6 1 2 acc l)∧hF ρ (eR 6 1 2 acc l)=(hA ρ acc && hA ρ l)
 |[],[],_,_=>⟨.inl ⟨true,rfl⟩,by simp[eR,hF,hA]⟩
 |[],[k],ha,_=>⟨.inr (ha k ao),by simp[eR,hA]⟩
 |[],k1::k2::ks,ha,_=>⟨.inr (.inr (.inr ⟨.inl rfl,rfl,rfl,rfl,by simp,OT ha⟩)),by simp[eR,hF,hA]⟩
 |k::l,acc,ha,hl=>by
  have hk:=hl k ao;have hr:=fun f hf=>hl f (ak _ hf);rw[eR]
  by_cases e1:k.op=2
  ·rw[if_pos e1,hk.two e1];exact⟨.inl ⟨false,rfl⟩,by simp[hA,wu]⟩
  ·rw[if_neg e1]
   by_cases e2:k.op=1
   ·rw[if_pos e2];obtain⟨a1,a2⟩:=O9 ρ l acc ha hr;exact⟨a1,by rw[a2,hk.one e2];simp[hA,wu]⟩
   ·rw[if_neg e2];obtain⟨a1,a2⟩:=O9 ρ l (acc++[k]) (fun f hf=>by
     rcases List.mem_append.1 hf with q |q
     ·exact ha f q
     ·simp only[List.mem_singleton]at q;rw[q];exact hk.rn e2 e1) hr
    exact⟨a1,by rw[a2,VL];simp[hA,Bool.and_assoc]⟩
theorem Pa {Q:ByteArray→Prop}(ρ:ByteArray→Int):∀l acc:List Fm,(∀f∈acc,RN Q f)→(∀f∈l,RC Q f)→RC Q (eR 7 2 1 acc l)∧hF ρ (eR 7 2 1 acc l)=(hO ρ acc || hO ρ l)
 |[],[],_,_=>⟨.inl ⟨false,rfl⟩,by simp[eR,hF,hO]⟩
 |[],[k],ha,_=>⟨.inr (ha k ao),by simp[eR,hO]⟩
 |[],k1::k2::ks,ha,_=>⟨.inr (.inr (.inr ⟨.inr rfl,rfl,rfl,rfl,by simp,OT ha⟩)),by simp[eR,hF,hO]⟩
 |k::l,acc,ha,hl=>by
  have hk:=hl k ao;have hr:=fun f hf=>hl f (ak _ hf);rw[eR]
  by_cases e1:k.op=1
  ·rw[if_pos e1,hk.one e1];exact⟨.inl ⟨true,rfl⟩,by simp[hO,wu]⟩
  ·rw[if_neg e1]
   by_cases e2:k.op=2
   ·rw[if_pos e2];obtain⟨a1,a2⟩:=Pa ρ l acc ha hr;exact⟨a1,by rw[a2,hk.two e2];simp[hO,wu]⟩
   ·rw[if_neg e2];obtain⟨a1,a2⟩:=Pa ρ l (acc++[k]) (fun f hf=>by
     rcases List.mem_append.1 hf with q |q
     ·exact ha f q
     ·simp only[List.mem_singleton]at q;rw[q];exact hk.rn e1 e2) hr
    exact⟨a1,by rw[a2,VO];simp[hO,Bool.or_assoc]⟩
def lM (ρ:ByteArray→Int)(nm:ByteArray) (v:Int):ByteArray→Int:=fun n=>if n=nm then v else ρ n
def yi:ByteArray→Prop:=fun _=>False
mutual
theorem Jc {Q Q':ByteArray→Prop}{nm:ByteArray}(v:Int)(ρ:ByteArray→Int)(hQ:∀n,Q n→n≠nm→Q' n):∀f:Fm,RW Q yi f→RC Q' (bQ nm v f)∧hF ρ (bQ nm v f)=hF (lM ρ nm v) f
 |.mk o n c m kids,h=>by
  rcases h with⟨e,e1,e2,e3,e4⟩ |⟨e,q,e1,e2,e3⟩ |⟨_,q,_⟩ |⟨e,_,_,_,e4,q⟩ |⟨e,_,_,_,e4,q⟩
  ·subst e1;subst e2;subst e3;subst e4
   rcases e with e |e
   ·subst e;exact⟨.inl ⟨true,rfl⟩,by simp[bQ,hF]⟩
   ·subst e;exact⟨.inl ⟨false,rfl⟩,by simp[bQ,hF]⟩
  ·subst e;subst e3;rw[bQ,if_pos rfl]
   by_cases en:n=nm
   ·rw[if_pos en];exact⟨.inl ⟨_,rfl⟩,by rw[wu];simp[hF,lM,en]⟩
   ·rw[if_neg en];exact⟨.inr (.inl ⟨rfl,hQ n q en,e1,e2,rfl⟩),by simp[hF,lM,en]⟩
  ·exact q.elim
  ·subst e;obtain⟨a1,a2,a3,a4⟩:=O4 v ρ hQ kids q;rw[bQ,if_neg (by omega),if_pos rfl]
   match hg:iY nm v kids with
   |[]=>rw[hg]at a4;simp at a4;omega
   |k::ks=>
    rw[hg]at a1 a2 a4;have l6:ks=[]:=by
     simp only[List.length_cons]at a4;exact au (by omega)
    subst l6;have hk:=a1 k ao;have hv:hF (lM ρ nm v) (.mk 5 n c m kids)=!hF ρ k:=by
     simp[hF,← a2,hA]
    simp only
    by_cases ek:k.op=1∨k.op=2
    ·rw[if_pos ek,hv];refine⟨.inl ⟨_,rfl⟩,?_⟩;rw[wu]
     rcases ek with ek |ek
     ·rw[hk.one ek];simp[wu,V3]
     ·rw[hk.two ek];simp[wu,V3]
    ·rw[if_neg ek,hv];refine⟨.inr (.inr (.inl ⟨rfl,rfl,rfl,rfl,rfl,hk.rn (fun z=>ek (.inl z)) (fun z=>ek (.inr z)),trivial⟩)),?_⟩;simp[hF,hA]
  ·obtain⟨a1,a2,a3,a4⟩:=O4 v ρ hQ kids q
   rcases e with e |e
   ·subst e;rw[bQ,if_neg (by omega),if_neg (by omega),if_pos rfl];obtain⟨b1,b2⟩:=O9 ρ (iY nm v kids) [] (by simp) a1;exact⟨b1,by rw[b2,a2];simp[hF,hA]⟩
   ·subst e;rw[bQ,if_neg (by omega),if_neg (by omega),if_neg (by omega),if_pos rfl];obtain⟨b1,b2⟩:=Pa ρ (iY nm v kids) [] (by simp) a1;exact⟨b1,by rw[b2,a3];simp[hF,hO]⟩
theorem O4 {Q Q':ByteArray→Prop}{nm:ByteArray}(v:Int)(ρ:ByteArray→Int)(hQ:∀n,Q n→n≠nm→Q' n):∀l:List Fm,oM Q yi l→(∀g∈iY nm v l,RC Q' g)∧hA ρ (iY nm v l)=hA (lM ρ nm v) l∧hO ρ (iY nm v l)=hO (lM ρ nm v) l∧(iY nm v l).length=l.length
 |[],_=>by rw[iY];exact⟨by simp,rfl,rfl,rfl⟩
 |f::l,h=>by
  obtain⟨a1,a2⟩:=Jc v ρ hQ f h.1;obtain⟨b1,b2,b3,b4⟩:=O4 v ρ hQ l h.2;rw[iY];refine⟨fun g hg=>?_,by simp[hA,a2,b2],by simp[hO,a2,b3],by simp[b4]⟩
  rcases List.mem_cons.1 hg with e |e
  ·rw[e];exact a1
  ·exact b1 g e
end
theorem yjw {m:Int}(h0:0≤m)(h1:m≤1000000):IntKind.i64.wrap (m+1)=m+1:=by
 unfold IntKind.wrap;simp[IntKind.signed,IntKind.bits];omega
theorem yi8 {s w c m:Int}(h:s≤w)(h1:¬(s<m∧m≤w))(h2:¬(s<m+1∧m+1≤w)):nr s c m=nr w c m:=by
 unfold nr
 repeat' split
 all_goals (congr 1;apply propext;omega)
mutual
theorem Vz {Q:ByteArray→Prop}{nm:ByteArray}{s w:Int}(ρ:ByteArray→Int)(oY:s≤w):∀(f:Fm)(L:List Int),RW Q yi f→(∀y∈gh nm L f,¬(s<y∧y≤w))→hF (lM ρ nm s) f=hF (lM ρ nm w) f
 |.mk o n c m kids,L,h,hy=>by
  rw[gh]at hy
  rcases h with⟨e,_⟩ |⟨e,q,e1,e2,e3⟩ |⟨_,q,_⟩ |⟨e,_,_,_,e4,q⟩ |⟨e,_,_,_,e4,q⟩
  ·rcases e with e |e <;> simp[hF,e]
  ·subst e;subst e3
   by_cases en:n=nm
   ·rw[if_pos ⟨rfl,en⟩,iq,yjw e1 e2]at hy;simp only[hF];simp[lM,en];exact yi8 oY (hy m (by simp)) (hy (m+1) (by simp))
   ·simp[hF,lM,en]
  ·exact q.elim
  ·subst e;rw[if_neg (by omega)]at hy;simp[hF,(OV ρ oY kids L q hy).1]
  ·rw[if_neg (by omega)]at hy;obtain⟨a1,a2⟩:=OV ρ oY kids L q hy
   rcases e with e |e <;> simp[hF,e,a1,a2]
theorem OV {Q:ByteArray→Prop}{nm:ByteArray}{s w:Int}(ρ:ByteArray→Int)(oY:s≤w):∀(l:List Fm)(L:List Int),oM Q yi l→(∀y∈iq nm L l,¬(s<y∧y≤w))→hA (lM ρ nm s) l=hA (lM ρ nm w) l∧hO (lM ρ nm s) l=hO (lM ρ nm w) l
 |[],_,_,_=>⟨rfl,rfl⟩
 |f::l,L,h,hy=>by
  rw[iq]at hy;have h1:=Vz ρ oY f L h.1 fun y hm=>hy y (Pt _ _ _ _ hm);obtain⟨a1,a2⟩:=OV ρ oY l _ h.2 hy;simp[hA,hO,h1,a1,a2]
end
theorem yjt (ρ:ByteArray→Int)(nm:ByteArray):lM ρ nm (ρ nm)=ρ:=by
 funext n
 unfold lM;split
 ·rename_i e;rw[e]
 ·rfl
theorem Vy {L:List Int}(hs:L.Pairwise (·≤·)):∀m,m≤L.length→(Lib.compactUpTo L.toArray m).Pairwise (· < ·)∧(∀(j:Nat)(h:j<L.length),j<m→L[j]∈Lib.compactUpTo L.toArray m)∧∀y∈Lib.compactUpTo L.toArray m,∃(j:Nat)(h:j<L.length),j<m∧L[j]=y
 |0,_=>by
  refine⟨?_,fun j _ h=>by omega,?_⟩
  ·simp[Lib.compactUpTo]
  ·simp[Lib.compactUpTo]
 |m+1,hm=>by
  obtain⟨a1,a2,a3⟩:=Vy hs m (by omega);have hle:=List.pairwise_iff_getElem.1 hs;have hg:∀(j:Nat) (h:j<L.length),L.toArray[j]! = L[j]:=fun j h=>by
   rw[getElem!_pos _ j (by simpa using h)];simp
  rw[Lib.compactUpTo_succ]
  by_cases hk:Lib.keeps L.toArray m=true
  ·rw[if_pos hk];have ei:m=0∨∃h:m-1<L.length,L[m]≠L[m-1]:=by
    unfold Lib.keeps at hk;have pY:=of_decide_eq_true hk
    rcases pY with q |q
    ·exact .inl q
    ·rw[hg m (by omega),hg (m-1) (by omega)]at q;exact .inr ⟨by omega,q⟩
   rw[hg m (by omega)];refine⟨List.pairwise_append.2 ⟨a1,by simp,fun x hx y hy=>?_⟩,fun j h hj=>?_,fun y hy=>?_⟩
   ·simp only[List.mem_singleton]at hy;obtain⟨j,hj,eK,e⟩:=a3 x hx
    rcases ei with q |⟨q1,q2⟩
    ·omega
    ·have h1:L[m-1]≤L[m]:=hle (m-1) m (by omega) (by omega) (by omega);have h2:L[j]≤L[m-1]:=by
      by_cases e2:j=m-1
      ·subst e2;exact Int.le_refl _
      ·exact hle j (m-1) (by omega) (by omega) (by omega)
     rw[hy,← e];omega
   ·by_cases e:j=m
    ·subst e;simp
    ·exact List.mem_append_left _ (a2 j h (by omega))
   ·rcases List.mem_append.1 hy with q |q
    ·obtain⟨j,hj,eK,e⟩:=a3 y q;exact⟨j,hj,by omega,e⟩
    ·simp only[List.mem_singleton]at q;exact⟨m,by omega,by omega,q.symm⟩
  ·rw[if_neg hk,List.append_nil];have ei:0<m∧∃h:m-1<L.length,L[m]=L[m-1]:=by
    unfold Lib.keeps at hk;have pY:¬(m=0∨L.toArray[m]! ≠ L.toArray[m-1]!):=fun q=>hk (decide_eq_true q);rw[hg m (by omega),hg (m-1) (by omega)]at pY;refine⟨by omega,by omega,?_⟩
    by_cases e:L[m]=L[m-1]
    ·exact e
    ·exact absurd (.inr e) pY
   obtain⟨k1,k2,k3⟩:=ei;refine⟨a1,fun j h hj=>?_,fun y hy=>?_⟩
   ·by_cases e:j=m
    ·subst e;rw[k3];exact a2 (j-1) (by omega) (by omega)
    ·exact a2 j h (by omega)
   ·obtain⟨j,hj,eK,e⟩:=a3 y hy;exact⟨j,hj,by omega,e⟩
theorem Vx {L:List Int}(hs:L.Pairwise (·≤·)):(fy L).Pairwise (· < ·)∧∀y,y∈fy L↔y∈L:=by
 obtain⟨a1,a2,a3⟩:=Vy hs L.length (ae _);refine⟨a1,fun y=>⟨fun h=>?_,fun h=>?_⟩⟩
 ·obtain⟨j,hj,_,e⟩:=a3 y h;rw[← e];exact ai hj
 ·obtain⟨j,hj,e⟩:=List.getElem_of_mem h;rw[← e];exact a2 j hj hj
theorem We (l:List Int):(dq l).Pairwise (·≤·):=by
 have:=List.pairwise_mergeSort (le:=fun x y:Int=>decide (x≤y)) (fun a b c h1 h2=>by simp at *;omega) (fun a b=>by simp;omega) l;exact this.imp fun h=>by simpa using h
theorem Wd {l:List Int}{y:Int}:y∈dq l↔y∈l:=by unfold dq;exact List.mem_mergeSort
theorem Wi (f:Fm)(x:Fc):(fj f x).Pairwise (· < ·)∧∀y,y∈fj f x↔y∈gh x.name [x.lo] f∧x.lo≤y∧y≤x.hi:=by
 obtain⟨a1,a2⟩:=Vx ((We (gh x.name [x.lo] f)).filter fun y=>!gN x y);refine⟨a1,fun y=>?_⟩;unfold fj;rw[a2,List.mem_filter,Wd];simp[gN]
theorem yj6 (p q:Nd)(d:List Fc) (i lo:Int):(kF p q d i lo).Pairwise (· < ·)∧∀y,y∈kF p q d i lo↔y=lo∨(bH p d=i∧y∈p.cuts)∨(bH q d=i∧y∈q.cuts):=by
 obtain⟨a1,a2⟩:=Vx (We (([lo]++(if bH p d=i then p.cuts else []))++(if bH q d=i then q.cuts else [])));refine⟨a1,fun y=>?_⟩;unfold kF;rw[a2,Wd]
 by_cases h1:bH p d=i <;> by_cases h2:bH q d=i <;> simp[h1,h2]
def qU (x:Int):List Int→List Int→Int→Int
 |s::ss,y::ys,w=>if w<s then x else qU y ss ys w
 |_,_,_=>x
theorem Pf {P:Int→Int→Prop}{w:Int}:∀(st ks:List Int) (x s0:Int),(s0::st).Pairwise (· < ·)→s0≤w→P s0 x→st.length=ks.length→(∀p∈st.zip ks,P p.1 p.2)→∃s,s∈s0::st∧s≤w∧(∀y∈s0::st,y≤w→y≤s)∧P s (qU x st ks w)
 |[],[],x,s0,_,h1,h2,_,_=>⟨s0,by simp,h1,by simp,h2⟩
 |[],_::_,_,_,_,_,_,h,_=>by simp at h
 |_::_,[],_,_,_,_,_,h,_=>by simp at h
 |s::st,y::ks,x,s0,hs,h1,h2,hl,hz=>by
  obtain⟨p1,p2⟩:=List.pairwise_cons.1 hs;obtain⟨p3,p4⟩:=List.pairwise_cons.1 p2;rw[qU]
  by_cases e:w<s
  ·rw[if_pos e];refine⟨s0,by simp,h1,fun z Cw hw=>?_,h2⟩
   rcases List.mem_cons.1 Cw with q |q
   ·omega
   ·rcases List.mem_cons.1 q with q |q
    ·omega
    ·have:=p3 z q;omega
  ·rw[if_neg e];obtain⟨r,a1,a2,a3,a4⟩:=Pf (w:=w) (P:=P) st ks y s p2 (by omega) (hz (s,y) (by simp)) (by simpa using hl) fun p hp=>hz p (by simp only[List.zip_cons_cons];exact ak _ hp);refine⟨r,ak _ a1,a2,fun z Cw hw=>?_,a4⟩
   rcases List.mem_cons.1 Cw with q |q
   ·have:=p1 s ao;have:=a3 s ao (by omega);omega
   ·exact a3 z q hw
def wz (n:Nd) (w:Int):Int:=n.kids.getD (k9 n w).toNat 0
theorem Gs {α:Type}{p:α→Bool}:∀{l:List α},(∀x∈l,p x=false)→bS p l=-1
 |[],_=>rfl
 |y::l,h=>by
  have h1:=h y ao;have h2:=Gs fun x hx=>h x (ak _ hx);unfold bS;rw[h1,h2];rfl
theorem O7 {α:Type}{p:α→Bool}{s:α}{t:List α}(hs:p s=true):∀{c:List α},(∀x∈c,p x=false)→bS p (c++s::t)=(c.length:Int)
 |[],_=>by
  show bS p (s::t)=_;unfold bS;rw[if_pos hs];rfl
 |y::c,h=>by
  have h1:=h y ao;have h2:=O7 (t:=t) hs fun x hx=>h x (ak _ hx);show bS p (y::(c++s::t))=_;unfold bS;rw[h1,if_neg (by simp),h2,if_neg (by omega)];simp
theorem Pk {i w:Int}{c k:List Int}{lf:Bool}(hc:∀a∈c,a≤w)(hk:k.length=c.length+1):wz ⟨i,c,k,lf⟩ w=k.getD c.length 0:=by
 unfold wz k9;simp only;rw[Gs fun x hx=>by have:=hc x hx;simp;omega,if_pos (by omega)]
 congr 1
 omega
theorem yjo {i w s:Int}{c t k u:List Int}{lf:Bool}(hc:∀a∈c,a≤w)(hs:w<s)(hk:k.length=c.length+1):wz ⟨i,c++s::t,k++u,lf⟩ w=k.getD c.length 0:=by
 unfold wz k9;simp only;rw[O7 (p:=fun c=>decide (w<c)) (by simpa using hs) fun x hx=>by have:=hc x hx;simp;omega,if_neg (by omega),Int.toNat_natCast,an,List.getElem?_append_left (by omega),an]
theorem Jf:∀(st ys:List Int) (x:Int)(c k:List Int),∃t u,(bG x c k st ys).2.1=c++t∧(bG x c k st ys).2.2=k++u∧t.length=u.length
 |[],ys,x,c,k=>⟨[],[],by simp[bG],by simp[bG],rfl⟩
 |_::_,[],x,c,k=>⟨[],[],by simp[bG],by simp[bG],rfl⟩
 |s::st,y::ys,x,c,k=>by
  by_cases e:y=x
  ·rw[BO e];exact Jf st ys x c k
  ·rw[DU e];obtain⟨t,u,a1,a2,a3⟩:=Jf st ys y (c++[s]) (k++[y]);exact⟨s::t,y::u,by rw[a1];simp,by rw[a2];simp,by simp[a3]⟩
theorem yje {x w:Int}:∀{st ks:List Int},(∀a∈st,w<a)→qU x st ks w=x
 |[],ks,_=>by cases ks <;> rfl
 |_::_,[],_=>rfl
 |s::st,y::ks,h=>by rw[qU,if_pos (h s ao)]
theorem Pj (i:Int)(lf:Bool) (w:Int):∀(st ys:List Int) (x:Int)(c k:List Int),st.Pairwise (· < ·)→(∀a∈c,a≤w)→k.length=c.length+1→k.getD c.length 0=x→wz ⟨i,(bG x c k st ys).2.1,(bG x c k st ys).2.2,lf⟩ w=qU x st ys w
 |[],ys,x,c,k,_,hc,hk,hx=>by
  have e1:bG x c k [] ys=(x,c,k):=by cases ys <;> rfl
  have e2:qU x [] ys w=x:=by cases ys <;> rfl
  rw[e1,e2,← hx];exact Pk hc hk
 |_::_,[],x,c,k,_,hc,hk,hx=>by
  rw[Py];show wz ⟨i,c,k,lf⟩ w=x;rw[← hx];exact Pk hc hk
 |s::st,y::ys,x,c,k,hp,hc,hk,hx=>by
  obtain⟨p1,p2⟩:=List.pairwise_cons.1 hp;rw[qU]
  by_cases e:y=x
  ·rw[BO e,Pj i lf w st ys x c k p2 hc hk hx]
   by_cases hw:w<s
   ·rw[if_pos hw];exact yje fun a ha=>by have:=p1 a ha;omega
   ·rw[if_neg hw,e]
  ·rw[DU e]
   by_cases hw:w<s
   ·rw[if_pos hw];obtain⟨t,u,a1,a2,_⟩:=Jf st ys y (c++[s]) (k++[y]);rw[a1,a2,List.append_assoc,List.append_assoc];have:=yjo (i:=i) (lf:=lf) (t:=t) (u:=[y]++u) hc hw hk;rw[← hx];exact this
   ·rw[if_neg hw];refine Pj i lf w st ys y (c++[s]) (k++[y]) p2 (fun a ha=>?_) (by simp[hk]) ?_
    ·rcases List.mem_append.1 ha with q |q
     ·exact hc a q
     ·simp only[List.mem_singleton]at q;omega
    ·rw[an,List.getElem?_append_right (by simp;omega)];simp[hk]
def Gm (k:List Int):Prop:=∀j,j+1<k.length→k.getD j 0≠k.getD (j+1) 0
theorem Ph:∀(st ys:List Int) (x:Int)(c k:List Int),(c++st).Pairwise (· < ·)→Gm k→0<k.length→k.getD (k.length-1) 0=x→(bG x c k st ys).2.1.Pairwise (· < ·)∧(∀a∈(bG x c k st ys).2.1,a∈c++st)∧Gm (bG x c k st ys).2.2
 |[],ys,x,c,k,hp,ha,_,_=>by
  have e1:bG x c k [] ys=(x,c,k):=by cases ys <;> rfl
  rw[e1];exact⟨by simpa using hp,by simp,ha⟩
 |s::st,[],x,c,k,hp,ha,_,_=>by
  rw[Py];exact⟨(List.pairwise_append.1 hp).1,fun a h=>List.mem_append_left _ h,ha⟩
 |s::st,y::ys,x,c,k,hp,ha,h0,hx=>by
  by_cases e:y=x
  ·rw[BO e];obtain⟨a1,a2,a3⟩:=Ph st ys x c k (hp.sublist (List.Sublist.append_left (List.sublist_cons_self _ _) _)) ha h0 hx;refine⟨a1,fun a h=>?_,a3⟩
   rcases List.mem_append.1 (a2 a h) with q |q
   ·exact List.mem_append_left _ q
   ·exact List.mem_append_right _ (ak _ q)
  ·rw[DU e];have MH:Gm (k++[y]):=fun j hj=>by
    simp only[List.length_append,List.length_cons,List.length_nil]at hj
    by_cases eK:j+1<k.length
    ·have:=ha j eK;simp only[an]at this ⊢;rw[List.getElem?_append_left (by omega),List.getElem?_append_left eK];exact this
    ·have zP:j=k.length-1:=by omega
     have e2:(k++[y]).getD (j+1) 0=y:=by
      rw[an,List.getElem?_append_right (by omega),show j+1-k.length=0 by omega];rfl
     have e3:(k++[y]).getD j 0=x:=by
      rw[← hx,an,List.getElem?_append_left (by omega),an,zP]
     rw[e2,e3];exact fun q=>e q.symm
   obtain⟨a1,a2,a3⟩:=Ph st ys y (c++[s]) (k++[y]) (by simpa using hp) MH (by simp) (by simp[an]);exact⟨a1,by simpa using a2,a3⟩
end
end Go.Ev
