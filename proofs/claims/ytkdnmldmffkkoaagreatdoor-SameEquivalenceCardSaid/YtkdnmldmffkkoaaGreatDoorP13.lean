/- Texts. -/
import Derived.Lib.Hide
import Derived.Test.YtkdnmldmffkkoaaGreatDoorP12
set_option linter.unusedSimpArgs false
set_option linter.unusedVariables false
set_option maxRecDepth 100000
namespace Go.Ev
open Go.Proofs
noncomputable section
inductive Fm where
 |mk (op:Int) (name:ByteArray) (cmp n:Int) (kids:List Fm)
mutual
def Fm.cs:Fm→List AV
 |.mk op name cmp n kids=>[.int .i64 op,.bs name,.int .i64 cmp,.int .i64 n,.fz 5 false (cy kids)]
def cy:List Fm→List AV
 |[]=>[]
 |f::l=>.agg f.cs::cy l
end
theorem DB:∀(l:List Fm),cy l=l.map fun f=>.agg f.cs
 |[]=>rfl
 |f::l=>by simp[cy,DB l]
mutual
def Fm.size:Fm→Nat
 |.mk _ _ _ _ kids=>1+bn kids
def bn:List Fm→Nat
 |[]=>0
 |f::l=>f.size+bn l
end
mutual
def Fm.deep:Fm→Nat
 |.mk _ _ _ _ kids=>kX kids+1
def kX:List Fm→Nat
 |[]=>0
 |f::l=>max f.deep (kX l)
end
theorem zI0:cx.ft.get 130=some Tryz.f130:=aT (by decide) (by kernel_rfl)
theorem La (l m:List Fm):bn (l++m)=bn l+bn m:=by
 induction l with
 |nil=>simp[bn]
 |cons f l ih=>simp[bn,ih];omega
theorem YC (l m:List Fm):kX (l++m)=max (kX l) (kX m):=by
 induction l with
 |nil=>simp[kX]
 |cons f l ih=>simp[kX,ih,Nat.max_assoc]
theorem QV:∀f:Fm,f.deep≤f.size
 |.mk _ _ _ _ kids=>by
  simp only[Fm.deep,Fm.size];have:=mz kids;omega
 where mz:∀l:List Fm,kX l≤bn l
 |[]=>by simp[kX]
 |f::l=>by
  simp only[kX,bn];have:=QV f;have:=mz l;omega
@[go_sem] theorem Fm.cs_len (f:Fm):f.cs.length=5:=by cases f;rfl
@[go_sem] theorem Fm.cs_one (f:Fm):dB f.cs=true:=by cases f;rfl
@[go_sem] theorem Fm.cs_take (f:Fm):f.cs.take 5=f.cs:=ar (by simp[Fm.cs_len])
@[go_sem] theorem zLj (l:List Fm):(cy l).length=l.length:=by simp[DB]
@[go_sem] theorem yca (kids:List Fm) (k:Nat)(hk:k<(cy kids).length):(cy kids)[k]=(.agg (kids[k]'(by simpa[DB]using hk)).cs):=by simp[DB]
theorem size_pos (f:Fm):1≤f.size:=by cases f;simp[Fm.size]
theorem yL:∀l:List Fm,l.length≤bn l
 |[]=>by simp[bn]
 |f::l=>by
  have:=size_pos f;have:=yL l;simp only[bn,List.length_cons];omega
theorem qD {l:List Fm}{k:Nat}(hk:k<l.length):bn (l.take (k+1))=bn (l.take k)+(l[k]).size∧kX (l.take (k+1))=max (kX (l.take k)) (l[k]).deep∧bn (l.take k)+(l[k]).size≤bn l:=by
 have h1:l.take (k+1)=l.take k++[l[k]]:=List.take_succ_eq_append_getElem hk;have h2:bn l=bn (l.take (k+1))+bn (l.drop (k+1)):=by rw[← La,List.take_append_drop]
 rw[h1,La]at h2;rw[h1,La,YC];simp only[bn,kX,Nat.add_zero,Nat.max_zero]at h2 ⊢;exact⟨trivial,trivial,by omega⟩
mutual
theorem Fm.cs_plain:∀f:Fm,bC f.cs=true
 |.mk op name cmp n kids=>by simp[Fm.cs,bC,plain,JK kids]
theorem JK:∀l:List Fm,bC (cy l)=true
 |[]=>rfl
 |f::l=>by simp[cy,bC,plain,f.cs_plain,JK l]
end
theorem zMv (b:Nat):∀(f:Fm),f.size≤b→b≤1000000000→ay Tryz.prog cx 130 [.agg f.cs] (.tup [.int .i64 f.size,.int .i64 f.deep]):=by
 induction b with
 |zero=>intro f hf;cases f;simp[Fm.size]at hf
 |succ b ih=>
 intro f hf hb;have hd:=QV f;cases f with
 |mk op name cmp n kids=>
 refine ay.mk fun h nx R hR=>aV (sz:=32) (rs:=[.tmp 2,.tmp 3]) aE zI0 rfl rfl rfl (by simp) ?_;simp[go_sem,Fm.cs];simp only[Fm.size,Fm.deep]at hf hd hR;refine bT (fun m s=>∃tm h' ax k,s=.mk tm h' ax []∧m=kids.length-k∧k≤kids.length∧tm.get 11=some (.fz 5 false (cy kids))∧tm.get 12=some (.int .i64 (kids.length:Int))∧tm.get 13=some (.int .i64 (k:Int))∧
  tm.get 4=some (.int .i64 ((1+bn (kids.take k):Nat):Int))∧tm.get 5=some (.int .i64 ((kX (kids.take k):Nat):Int))∧aA nx h h'∧nx≤ax) ⟨kids.length,_,_,_,0,rfl,by simp,by simp,?_⟩ ?_
 ·simp[go_sem,bn,kX];exact(aA.refl nx h).put (ae _) _
 ·rintro m s ⟨tm,h',ax,k,rfl,rfl,hk,t11,t12,t13,t4,t5,he,hn⟩ J hJ
  refine bt aE _ ?_
  by_cases az:k<kids.length
  ·obtain⟨s1,s2,s3⟩:=qD az;have EY:=QV kids[k];have hl:=yL kids;have hd3:kX (kids.take k)≤1000000000:=by
    have:kX kids=max (kX (kids.take k)) (kX (kids.drop k)):=by rw[← YC,List.take_append_drop]
    omega
   simp[go_sem,t11,t12,t13,t4,t5,az];refine ay.use (ih _ (by omega) (by omega)) ?_;simp[go_sem,aB,t11,t12,t13,t4,t5,az];refine hJ (kids.length-(k+1)) _ (by omega) ⟨_,_,_,k+1,rfl,rfl,by omega,?_⟩;simp(disch:=omega) [go_sem,t11,t12,t13,s1,s2,aY];exact⟨by omega,by omega,(he.put hn _).put hn _,by omega⟩
  ·obtain rfl:k=kids.length:=by omega
   have hd3:kX kids≤1000000000:=by omega
   rw[List.take_length]at t4 t5;simp(disch:=omega) [go_sem,t11,t12,t13,t4,t5,aY];exact hR _ _ _ he (Fz.eq rfl (by simp))
inductive br where
 |mk (op:Int) (name:ByteArray) (day:Int) (kids:List br)
mutual
def br.cs:br→List AV
 |.mk op name day kids=>[.int .i64 op,.bs name,.int .i64 day,.fz 4 false (mf kids)]
def mf:List br→List AV
 |[]=>[]
 |f::l=>.agg f.cs::mf l
end
theorem GW:∀(l:List br),mf l=l.map fun f=>.agg f.cs
 |[]=>rfl
 |f::l=>by simp[mf,GW l]
@[go_sem] theorem br.cs_len (f:br):f.cs.length=4:=by cases f;rfl
@[go_sem] theorem br.cs_one (f:br):dB f.cs=true:=by cases f;rfl
@[go_sem] theorem br.cs_take (f:br):f.cs.take 4=f.cs:=ar (by simp[br.cs_len])
@[go_sem] theorem zVj (l:List br):(mf l).length=l.length:=by simp[GW]
@[go_sem] theorem ybx (kids:List br) (k:Nat)(hk:k<(mf kids).length):(mf kids)[k]=(.agg (kids[k]'(by simpa[GW]using hk)).cs):=by simp[GW]
mutual
def eH:br→br→Bool
 |.mk o n d k,.mk o' n' d' k'=>decide (o=o') && decide (n=n') && decide (d=d') && mg k k'
def mg:List br→List br→Bool
 |[],[]=>true
 |a::l,b::m=>eH a b && mg l m
 |_,_=>false
end
mutual
def br.size:br→Nat
 |.mk _ _ _ k=>1+gJ k
def gJ:List br→Nat
 |[]=>0
 |a::l=>a.size+gJ l
end
theorem ZY:∀{k k':List br},k.length≠k'.length→mg k k'=false
 |[],[],h=>absurd rfl h
 |[],_::_,_=>by simp[mg]
 |_::_,[],_=>by simp[mg]
 |a::l,b::m,h=>by simp[mg,ZY (k:=l) (k':=m) (by simpa using h)]
theorem br.size_pos (f:br):1≤f.size:=by cases f;simp[br.size]
theorem PB:∀l:List br,l.length≤gJ l
 |[]=>by simp[gJ]
 |f::l=>by
  have:=f.size_pos;have:=PB l;simp only[gJ,List.length_cons];omega
theorem zHg:cx.ft.get 88=some Tryz.f88:=aT (by decide) (by kernel_rfl)
theorem PE:cx.ft.get 133=some Tryz.f133:=aT (by decide) (by kernel_rfl)
theorem zPi:cx.ft.get 134=some Tryz.f134:=aT (by decide) (by kernel_rfl)
theorem Z6 (f:Fm):ay Tryz.prog cx 88 [.agg f.cs] (.func 133 [] [.ip f.cs]):=by
 refine ay.mk fun h nx R hR=>aV (sz:=4) (rs:=[.tmp 2]) aE zHg rfl rfl rfl (by simp) ?_;simp[go_sem];refine hR _ _ _ ((aA.refl nx h).put (ae _) _) ?_;refine .func 133 _ _ _ _ .nil (.cons _ _ _ _ (.pin nx 0 24 f.cs.length (ef f.cs .nil 0) false 0 f.cs f.cs (ae _) ?_ (by omega) (fun j hj=>by rw[Nat.zero_add,fx]) ?_) .nil)
 ·rw[Tr.get_put,if_pos rfl];rfl
 ·exact ct.same _ f.cs_plain
def fh (O:Nat→Prop)(h:Tr ABlk) (nx:Nat)(O':Nat→Prop)(g:Tr ABlk) (ny:Nat):Prop:=nx≤ny∧(∀k,k<nx→¬O k→g.get k=h.get k)∧∀k,O' k→O k∨nx≤k
theorem fh.trans {O O' SL:Nat→Prop}{h g f:Tr ABlk}{nx ny nz:Nat}(p:fh O h nx O' g ny)(q:fh O' g ny SL f nz):fh O h nx SL f nz:=by
 obtain⟨p1,p2,p3⟩:=p;obtain⟨q1,q2,q3⟩:=q;refine⟨by omega,fun k hk ho=>?_,fun k hk=>?_⟩
 ·rw[q2 k (by omega) (fun h'=>by rcases p3 k h' with h1 |h1;exact ho h1;omega),p2 k hk ho]
 ·rcases q3 k hk with h1 |h1
  ·exact p3 k h1
  ·exact .inr (by omega)
theorem fh.ext {O:Nat→Prop}{h g:Tr ABlk}{nx ny:Nat}(e:aA nx h g)(hl:nx≤ny):fh O h nx O g ny:=⟨hl,fun k hk _=>e k hk,fun k hk=>.inl hk⟩
structure SM (P:Program)(c:Cx)(S:Type)(step:S→Fm→S×Bool)(Pre:S→Fm→Prop) (i a b:Nat)(J JE:S→(Nat→Prop)→Tr ABlk→Nat→Prop):Prop where
 ext:∀s O h nx h' ax,J s O h nx→(∀k,O k→h'.get k=h.get k)→nx≤ax→J s O h' ax
 lt:∀s O h nx,J s O h nx→∀k,O k→k<nx∧k≠a∧k≠b
 yld:∀s O x h nx,Pre s x→J s O h nx→tl P c i [.agg x.cs] h nx fun v g ny=>v=.bool (step s x).2∧∃O',fh O h nx O' g ny∧(if (step s x).2 then J (step s x).1 O' g ny else JE (step s x).1 O' g ny)
mutual
def dt {S:Type}(step:S→Fm→S×Bool):S→Fm→S×Bool
 |s,.mk o n c m kids=>if (step s (.mk o n c m kids)).2 then ir step (step s (.mk o n c m kids)).1 kids else ((step s (.mk o n c m kids)).1,false)
def ir {S:Type}(step:S→Fm→S×Bool):S→List Fm→S×Bool
 |s,[]=>(s,true)
 |s,f::l=>if (dt step s f).2 then ir step (dt step s f).1 l else ((dt step s f).1,false)
end
mutual
def JZ {S:Type}(step:S→Fm→S×Bool)(Pre:S→Fm→Prop):S→Fm→Prop
 |s,.mk o n c m kids=>Pre s (.mk o n c m kids)∧((step s (.mk o n c m kids)).2=true→Kg step Pre (step s (.mk o n c m kids)).1 kids)
def Kg {S:Type}(step:S→Fm→S×Bool)(Pre:S→Fm→Prop):S→List Fm→Prop
 |_,[]=>True
 |s,f::l=>JZ step Pre s f∧((dt step s f).2=true→Kg step Pre (dt step s f).1 l)
end
mutual
theorem RB {S:Type}{step:S→Fm→S×Bool}{mu:S→Nat}(h1:∀s x,mu (step s x).1≤mu s+1):∀s f,mu (dt step s f).1≤mu s+f.size
 |s,.mk o n c m kids=>by
  have h2:=h1 s (.mk o n c m kids);have h3:=Xt h1 (step s (.mk o n c m kids)).1 kids;simp only[dt,Fm.size];split
  ·omega
  ·simp only;omega
theorem Xt {S:Type}{step:S→Fm→S×Bool}{mu:S→Nat}(h1:∀s x,mu (step s x).1≤mu s+1):∀s l,mu (ir step s l).1≤mu s+bn l
 |s,[]=>by simp[ir]
 |s,f::l=>by
  have h2:=RB h1 s f;have h3:=Xt h1 (dt step s f).1 l;simp only[ir,bn];split
  ·omega
  ·simp only;omega
end
mutual
theorem QX {S:Type}{step:S→Fm→S×Bool}{Pre:S→Fm→Prop}{mu:S→Nat}{N:Nat}(h1:∀s x,mu (step s x).1≤mu s+1)(h2:∀s x,mu s<N→Pre s x):∀s f,mu s+f.size≤N→JZ step Pre s f
 |s,.mk o n c m kids,hl=>by
  simp only[Fm.size]at hl;have h3:=h1 s (.mk o n c m kids);exact⟨h2 _ _ (by omega),fun _=>zxp h1 h2 _ kids (by omega)⟩
theorem zxp {S:Type}{step:S→Fm→S×Bool}{Pre:S→Fm→Prop}{mu:S→Nat}{N:Nat}(h1:∀s x,mu (step s x).1≤mu s+1)(h2:∀s x,mu s<N→Pre s x):∀s l,mu s+bn l≤N→Kg step Pre s l
 |_,[],_=>trivial
 |s,f::l,hl=>by
  simp only[bn]at hl;have h3:=RB h1 s f;exact⟨QX h1 h2 s f (by omega),fun _=>zxp h1 h2 _ l (by omega)⟩
end
def Xz {S:Type}(J JE:S→(Nat→Prop)→Tr ABlk→Nat→Prop)(q:S×Bool)(O:Nat→Prop)(h:Tr ABlk) (nx:Nat)(v:AV)(g:Tr ABlk) (ny:Nat):Prop:=v=.bool q.2∧∃O',fh O h nx O' g ny∧(if q.2 then J q.1 O' g ny else JE q.1 O' g ny)
theorem zL7 {S:Type}{step:S→Fm→S×Bool}{Pre:S→Fm→Prop}{i a b:Nat}{J JE:S→(Nat→Prop)→Tr ABlk→Nat→Prop}(V:SM Tryz.prog cx S step Pre i a b J JE) (n:Nat):∀(f:Fm)(s:S)(O:Nat→Prop)(h:Tr ABlk) (nx:Nat),f.size≤n→n≤1000000000→JZ step Pre s f→J s O h nx→a<nx→b<nx→
  h.get a=some (bx 178 [.yld i] false 0)→h.get b=some (bx 178 [.func 134 [] [.ptr a 0,.ptr b 0]] false 0)→
  aN Tryz.prog cx 134 [.agg f.cs,.ptr a 0,.ptr b 0] h nx (Xz J JE (dt step s f) O h nx):=by
 induction n with
 |zero=>intro f _ _ _ _ hf;cases f;simp[Fm.size]at hf
 |succ n ih=>
 intro f s O h nx hf hn hP hJ la lb ga gb;have My:Pre s f:=by cases f;exact hP.1
 obtain⟨R,hR⟩:∃R:AV→Tr ABlk→Nat→Prop,R=Xz J JE (dt step s f) O h nx:=⟨_,rfl⟩;rw[← hR];have na:¬a=nx:=by omega
 have hO:=V.lt s O h nx hJ;have e1:aA nx h (h.put nx (some (bx 24 f.cs false 0))):=(aA.refl nx h).put (ae _) _;refine aV (sz:=23) (rs:=[.tmp 4]) aE zPi rfl rfl rfl (by simp) ?_;simp[go_sem,ga,na];refine(V.yld s O f _ _ My (V.ext s O h nx _ _ hJ (fun k hk=>e1 k (hO k hk).1) (by omega))).mono ?_
 rintro v g ny ⟨rfl,O',hK,hq⟩
 have Ia:=(fh.ext (O:=O) e1 (Nat.le_succ nx)).trans hK;have gf:g.get nx=some (bx 24 f.cs false 0):=by
  rw[hK.2.1 nx (by omega) (fun ho=>by have:=(hO nx ho).1;omega)];simp[go_sem]
 cases f with
 |mk o nm cm m kids=>
 by_cases hs:(step s (.mk o nm cm m kids)).2=true
 ·rw[if_pos hs]at hq;have LK:g.get a=some (bx 178 [.yld i] false 0):=by rw[Ia.2.1 a la (fun ho=>(hO a ho).2.1 rfl)];exact ga
  have tS:g.get b=some (bx 178 [.func 134 [] [.ptr a 0,.ptr b 0]] false 0):=by rw[Ia.2.1 b lb (fun ho=>(hO b ho).2.2 rfl)];exact gb
  have FH:nx<ny:=hK.1;have hl:=yL kids;simp only[Fm.size]at hf;have e3:dt step s (.mk o nm cm m kids)=ir step (step s (.mk o nm cm m kids)).1 kids:=by rw[dt,if_pos hs]
  rw[e3]at hR;simp[go_sem,aB,hs,gf,Fm.cs];refine bT (fun mm st=>∃tm h' ax k s' O1,st=.mk tm h' ax []∧mm=kids.length-k∧k≤kids.length∧tm.get 2=some (.ptr b 0)∧tm.get 12=some (.fz 5 false (cy kids))∧tm.get 13=some (.int .i64 (kids.length:Int))∧tm.get 14=some (.int .i64 (k:Int))∧
   RowKit.Hid (ir step (step s (.mk o nm cm m kids)).1 kids=ir step s' (kids.drop k))∧RowKit.Hid (fh O h nx O1 h' ax)∧J s' O1 h' ax∧RowKit.Hid (Kg step Pre s' (kids.drop k))) ⟨kids.length,_,_,_,0,(step s (.mk o nm cm m kids)).1,O',rfl,by simp,by simp,?_⟩ ?_
  ·simp[go_sem];exact⟨Lib.hid (by simp),Lib.hid Ia,hq,Lib.hid (hP.2 hs)⟩
  ·rintro mm st ⟨tm,h',ax,k,s',O1,rfl,rfl,hk,t2,t12,t13,t14,hv,Eu,Mo,hPk⟩ J' lu
   refine bt aE _ ?_;have tX:=V.lt s' O1 h' ax Mo;have ga2:h'.get a=some (bx 178 [.yld i] false 0):=by rw[Eu.out.2.1 a la (fun ho=>(hO a ho).2.1 rfl)];exact ga
   have ze:h'.get b=some (bx 178 [.func 134 [] [.ptr a 0,.ptr b 0]] false 0):=by rw[Eu.out.2.1 b lb (fun ho=>(hO b ho).2.2 rfl)];exact gb
   have x8:nx≤ax:=Eu.out.1;have nb:¬b=ax:=by omega
   by_cases az:k<kids.length
   ·obtain⟨s1,_,s3⟩:=qD az;have Im:ir step s' (kids.drop k)=if (dt step s' kids[k]).2 then ir step (dt step s' kids[k]).1 (kids.drop (k+1)) else ((dt step s' kids[k]).1,false):=by
     rw[aj az,ir]
    have HD:=Lib.hid Im;clear Im;have tZ:=hPk.out;rw[aj az]at tZ;obtain⟨Ih,EA⟩:=tZ;have HP4:=Lib.hid EA;clear EA;simp[go_sem,t2,t12,t13,t14,az,ze,nb];have e4:aA ax h' ((h'.put ax (some (bx 24 [AV.int IntKind.i64 0,AV.bs ByteArray.empty,AV.int IntKind.i64 0,AV.int IntKind.i64 0,AV.sl0] false 0))).put ax (some (bx 24 kids[k].cs false 0))):=((aA.refl ax h').put (ae _) _).put (ae _) _;refine(ih kids[k] s' O1 _ _ (by omega) (by omega) Ih (V.ext s' O1 h' ax _ _ Mo (fun q hq=>e4 q (tX q hq).1) (by omega)) (by omega) (by omega) (by rw[e4 a (by omega)];exact ga2) (by rw[e4 b (by omega)];exact ze)).mono ?_
    rintro v g2 n2 ⟨rfl,O2,Mr,qm⟩
    have Ib:=(Eu.out.trans (fh.ext (O:=O1) e4 (Nat.le_succ ax))).trans Mr
    by_cases l8:(dt step s' kids[k]).2=true
    ·rw[if_pos l8]at qm;have hd:=HD.out;rw[if_pos l8]at hd;simp[go_sem,aB,l8,t2,t12,t13,t14];refine lu (kids.length-(k+1)) _ (by omega) ⟨_,_,_,k+1,(dt step s' kids[k]).1,O2,rfl,rfl,by omega,?_⟩;simp(disch:=omega) [go_sem,t2,t12,t13,t14,aY];exact⟨Lib.hid (by rw[hv.out,hd]),Lib.hid Ib,qm,Lib.hid (HP4.out l8)⟩
    ·have N2:(dt step s' kids[k]).2=false:=by simpa using l8
     rw[if_neg l8]at qm;have hd:=HD.out;rw[if_neg l8]at hd;simp[go_sem,aB,N2,t2,t12,t13,t14];rw[hR,hv.out,hd];exact⟨rfl,O2,Ib,qm⟩
   ·have hd:=hv.out;rw[aq (by omega),ir]at hd;simp[go_sem,t2,t12,t13,t14,az];rw[hR,hd];exact⟨rfl,O1,Eu.out,Mo⟩
 ·have jf:(step s (.mk o nm cm m kids)).2=false:=by simpa using hs
  rw[if_neg hs]at hq;simp[go_sem,aB,jf];rw[hR];have e2:dt step s (.mk o nm cm m kids)=((step s (.mk o nm cm m kids)).1,false):=by rw[dt,if_neg hs]
  rw[e2];exact⟨rfl,O',Ia,hq⟩
end
end Go.Ev
namespace Go.Ev
open Go
section
variable (size b : Nat) (z : Option AV) (fs : List (Nat × Nat × Bool)) (v : AV) (cs : List AV) (h : Tr ABlk) (nx : Nat)
@[go_sem] theorem ya9:jm (.mk .string size b z fs) (.ip (v::cs)) h nx=.val v h nx:=by simp[jm,jN]
@[go_sem] theorem zZo (k:IntKind):jm (.mk (.int k) size b z fs) (.ip (v::cs)) h nx=.val v h nx:=by simp[jm,jN]
end
end Go.Ev
namespace Go.Ev
open Go.Proofs
noncomputable section
structure VisN (P:Program)(c:Cx)(S:Type)(step:S→Fm→S×Bool)(Pre:S→Fm→Prop) (i:Nat)(J JE:S→(Nat→Prop)→Tr ABlk→Nat→Prop):Prop where
 ext:∀s O h nx h' ax,J s O h nx→(∀k,O k→h'.get k=h.get k)→nx≤ax→J s O h' ax
 lt:∀s O h nx,J s O h nx→∀k,O k→k<nx
 yld:∀s O x h nx,Pre s x→J s O h nx→tl P c i [.agg x.cs] h nx fun v g ny=>v=.bool (step s x).2∧∃O',fh O h nx O' g ny∧(if (step s x).2 then J (step s x).1 O' g ny else JE (step s x).1 O' g ny)
theorem Zl {S:Type}{step:S→Fm→S×Bool}{Pre:S→Fm→Prop}{i:Nat}{J JE:S→(Nat→Prop)→Tr ABlk→Nat→Prop}(V:VisN Tryz.prog cx S step Pre i J JE)(f:Fm)(s:S)(O:Nat→Prop)(h:Tr ABlk) (nx:Nat)(hf:f.size≤1000000000)(hP:JZ step Pre s f)(hJ:J s O h nx):
  aN Tryz.prog cx 133 [.yld i,.ip f.cs] h nx fun _ g ny=>∃O',fh O h nx O' g ny∧(if (dt step s f).2 then J (dt step s f).1 O' g ny else JE (dt step s f).1 O' g ny):=by
 have az:=V.lt s O h nx hJ;have V':SM Tryz.prog cx S step Pre i nx (nx+1) (fun s O h n=>J s O h n∧nx+1+1≤n∧∀k,O k→k≠nx∧k≠nx+1) JE:=by
  refine⟨fun s O h n h' n' hj hk hn=>⟨V.ext s O h n h' n' hj.1 hk hn,by omega,hj.2.2⟩,fun s O h n hj k hk=>⟨V.lt s O h n hj.1 k hk,hj.2.2 k hk⟩,fun s O x h n hp hj=>?_⟩;refine(V.yld s O x h n hp hj.1).mono ?_
  rintro v g ny ⟨e,O',hK,hq⟩
  refine⟨e,O',hK,?_⟩;split
  ·rename_i hs;rw[if_pos hs]at hq;refine⟨hq,by have:=hK.1;omega,fun k hk=>?_⟩
   rcases hK.2.2 k hk with h1 |h1
   ·exact hj.2.2 k h1
   ·omega
  ·rename_i hs;rw[if_neg hs]at hq;exact hq
 obtain⟨R,hR⟩:∃R:AV→Tr ABlk→Nat→Prop,R=fun _ g ny=>∃O',fh O h nx O' g ny∧(if (dt step s f).2 then J (dt step s f).1 O' g ny else JE (dt step s f).1 O' g ny):=⟨_,rfl⟩;rw[← hR];refine aV (sz:=8) (rs:=[]) aE PE rfl rfl rfl (by simp) ?_;simp[go_sem];have e1:∀A B C,aA nx h (((h.put nx A).put (nx+1) B).put (nx+1) C):=fun A B C=>(((aA.refl nx h).put (ae _) _).put (by omega) _).put (by omega) _;refine(zL7 V' 1000000000 f s O _ _ hf (ae _) hP ⟨V.ext s O h nx _ _ hJ (fun k hk=>e1 _ _ _ k (az k hk)) (by omega),ae _,fun k hk=>by have:=az k hk;omega⟩ (by omega) (by omega) (by simp[go_sem]) (by simp[go_sem])).mono ?_
 rintro v g ny ⟨rfl,O',hK,hq⟩
 simp[go_sem,aB];rw[hR];refine⟨O',(fh.ext (O:=O) (e1 _ _ _) (by omega)).trans hK,?_⟩;split
 ·rename_i hs;rw[if_pos hs]at hq;exact hq.1
 ·rename_i hs;rw[if_neg hs]at hq;exact hq
def bf (l:List ByteArray):List AV:=l.map .bs
@[go_sem] theorem pH (l:List ByteArray):(bf l).length=l.length:=by simp[bf]
@[go_sem] theorem ybm (l:List ByteArray) (k:Nat)(hk:k<(bf l).length):(bf l)[k]=.bs (l[k]'(by simpa[bf]using hk)):=by simp[bf]
def fQ (x:ByteArray):List ByteArray→Int
 |[]=>-1
 |y::l=>if x=y then 0 else (if fQ x l<0 then -1 else fQ x l+1)
def uO (x:ByteArray)(l:List ByteArray) (k:Nat):Int:=if fQ x (l.drop k)<0 then -1 else fQ x (l.drop k)+k
theorem zHw {x:ByteArray}{l:List ByteArray}{k:Nat}(hk:k<l.length)(e:x=l[k]):uO x l k=k:=by
 unfold uO;rw[aj hk,fQ,if_pos e];simp
theorem QP (x:ByteArray):∀l,-1≤fQ x l∧(fQ x l<0→fQ x l=-1)
 |[]=>by simp[fQ]
 |y::l=>by
  have:=QP x l;unfold fQ;split
  ·omega
  ·split <;> omega
theorem zOz {x:ByteArray}{l:List ByteArray}{k:Nat}(hk:k<l.length)(e:¬x=l[k]):uO x l k=uO x l (k+1):=by
 unfold uO;rw[aj hk,fQ,if_neg e];have:=QP x (l.drop (k+1))
 repeat' split
 all_goals omega
theorem zRc {x:ByteArray}{l:List ByteArray}{k:Nat}(hk:l.length≤k):uO x l k=-1:=by
 unfold uO;rw[aq hk,fQ];simp
theorem zKm (x:ByteArray)(l:List ByteArray):uO x l 0=fQ x l:=by
 have:=QP x l;unfold uO;rw[List.drop_zero]
 repeat' split
 all_goals omega
theorem zy8:cx.ft.get 132=some Tryz.f132:=aT (by decide) (by kernel_rfl)
theorem Yg:cx.ft.get 87=some Tryz.f87:=aT (by decide) (by kernel_rfl)
theorem zO9 (full:Bool)(l:List ByteArray)(x:ByteArray)(hl:l.length≤1000000000):ay Tryz.prog cx 132 [.fz 1 full (bf l),.bs x] (.int .i64 (fQ x l)):=by
 refine ay.mk fun h nx R hR=>aV (sz:=19) (rs:=[.tmp 4]) aE zy8 rfl rfl rfl (by simp) ?_;simp[go_sem];refine bT (fun mm st=>∃tm k,st=.mk tm h nx []∧mm=l.length-k∧k≤l.length∧tm.get 0=some (.fz 1 full (bf l))∧tm.get 1=some (.bs x)∧tm.get 7=some (.int .i64 (l.length:Int))∧tm.get 8=some (.int .i64 (k:Int))∧RowKit.Hid (fQ x l=uO x l k)) ⟨l.length,_,0,rfl,by simp,by simp,?_⟩ ?_
 ·simp[go_sem];exact Lib.hid (zKm x l).symm
 ·rintro mm st ⟨tm,k,rfl,rfl,hk,t0,t1,t7,t8,hv⟩ J hJ
  refine bt aE _ ?_
  by_cases az:k<l.length
  ·by_cases he:x=l[k]
   ·have:=zHw az he;have e':l[k]=x:=he.symm;simp[go_sem,t0,t1,t7,t8,az,e'];refine hR _ _ _ (aA.refl _ _) (Fz.eq rfl ?_);rw[hv.out,this]
   ·have:=zOz az he;have HM:=Lib.hid this;clear this;simp[go_sem,t0,t1,t7,t8,az,he];refine hJ (l.length-(k+1)) _ (by omega) ⟨_,k+1,rfl,rfl,by omega,?_⟩;simp(disch:=omega) [go_sem,t0,t1,t7,t8,aY];exact Lib.hid (by rw[hv.out,HM.out])
  ·have:=zRc (x:=x) (l:=l) (k:=k) (by omega);simp[go_sem,t0,t1,t7,t8,az];refine hR _ _ _ (aA.refl _ _) (Fz.eq rfl ?_);rw[hv.out,this]
theorem zyt (full:Bool)(l:List ByteArray)(x:ByteArray)(hl:l.length≤1000000000):ay Tryz.prog cx 87 [.fz 1 full (bf l),.bs x] (.bool (decide (0≤fQ x l))):=by
 refine ay.mk fun h nx R hR=>aV (sz:=9) (rs:=[.tmp 4]) aE Yg rfl rfl rfl (by simp) ?_;simp[go_sem];refine ay.use (zO9 full l x hl) ?_;simp[go_sem,aB];exact hR _ _ _ (aA.refl _ _) (Fz.eq rfl rfl)
end
end Go.Ev
namespace Go.Ev
open Go
noncomputable section
variable {P : Program} {c : Cx}
theorem aN.ofLe {f:FuncId}{args:List AV}{h:Tr ABlk}{nx:Nat}{R:AV→Tr ABlk→Nat→Prop}(hw:c.G.n≤nx→aN P c f args h nx R):aN P c f args h nx R:=
 fun σ w A ok hA=>hw ok.le σ w A ok hA
def QO (B:Option ABlk) (size o m:Nat):Option (Nat×List AV):=match B with
 |some (.cells _ n c _ _)=>match Nat.ble (Nat.add o (Nat.mul m size)) n with
   |true=>match iI c (Nat.mul m size) o with
    |some l=>some (m,l)
    |none=>none
   |false=>none
 |_=>none
section
variable (size i o m cp es : Nat) (opn full : Bool) (xs : List AV) (h : Tr ABlk) (nx : Nat)
@[go_sem] theorem ya8:qE size (.sl i o m cp opn) h=QO (h.get i) size o m:=rfl
@[go_sem] theorem zUy:qE size .sl0 h=some (0,[]):=rfl
@[go_sem] theorem zSd:qE size (.fz size full xs) h=some (xs.length,xs.flatMap AV.cells):=by simp[qE]
@[go_sem] theorem ya6 (t:TypeId)(l:List AV)(bu:Bool) (esz:Nat)(hl:o+m * size≤l.length):QO (some (bx t l bu esz)) size o m=some (m,(l.drop o).take (m * size)):=by
 have e:Nat.ble (Nat.add o (Nat.mul m size)) l.length=true:=Nat.ble_eq_true_of_le hl;have e2:=JP l (m * size) o hl;have e3:iI (ef l .nil 0) (Nat.mul m size) o=some ((l.drop o).take (m * size)):=e2;simp only[QO,bx,e,e3]
end
def mv (b:Bool) (m:Nat)(news:List AV) (e size:Nat)(s:AV)(h:Tr ABlk) (nx:Nat):R:=match b with
 |false=>.fail
 |true=>match s with
      |.sl0=>match Nat.beq m 0 with
       |true=>.val .sl0 h nx
       |false=>match Nat.ble m 16777216 with
        |true=>.val (.sl nx 0 m 0 true) (h.put nx (some (bx e news true size))) (nx+1)
        |false=>.fail
      |.fz es full xs=>match Nat.beq es size && full with
       |false=>.fail
       |true=>match Nat.beq m 0 with
        |true=>.val (.fz es true xs) h nx
        |false=>match Nat.ble (Nat.add xs.length m) 16777216 with
         |true=>.val (.sl nx 0 (xs.length+m) 0 true) (h.put nx (some (bx e (xs.flatMap AV.cells++news) true size))) (nx+1)
         |false=>.fail
      |.sl i o len cp opn=>match h.get i with
       |some (.cells e' n cs bu esz)=>match Nat.ble (Nat.add len m) 16777216 with
        |false=>.fail
        |true=>match opn with
         |true=>match Nat.beq o 0 && Nat.beq cp 0 && bu && Nat.beq esz size && Nat.beq e' e && Nat.beq (Nat.mul len size) n with
          |true=>.val (.sl nx 0 (len+m) 0 true) ((h.put i none).put nx (some (bx e (toL cs n++news) true size))) (nx+1)
          |false=>.fail
         |false=>match Nat.beq cp len && Nat.ble (Nat.add o (Nat.mul len size)) n with
          |false=>.fail
          |true=>match Nat.beq m 0 with
           |true=>.val (.sl i o len cp false) h nx
           |false=>.val (.sl nx 0 (len+m) 0 true) (h.put nx (some (bx e (((toL cs n).drop o).take (Nat.mul len size)++news) true size))) (nx+1)
       |_=>.fail
      |_=>.fail
def Lh (b:Bool)(src:Option (Nat×List AV)) (e size:Nat)(s:AV)(h:Tr ABlk) (nx:Nat):R:=match b with
 |false=>.fail
 |true=>match src with
  |none=>.fail
  |some (m,news)=>mv (dB news) m news e size s h nx
def K7 (B:Option ABlk) (i len m:Nat)(news:List AV) (e size:Nat)(h:Tr ABlk) (nx:Nat):R:=match B with
 |some (.cells e' n cs bu esz)=>match Nat.ble (Nat.add len m) 16777216 with
  |false=>.fail
  |true=>match Nat.beq 0 0 && Nat.beq 0 0 && bu && Nat.beq esz size && Nat.beq e' e && Nat.beq (Nat.mul len size) n with
   |true=>.val (.sl nx 0 (len+m) 0 true) ((h.put i none).put nx (some (bx e (toL cs n++news) true size))) (nx+1)
   |false=>.fail
 |_=>.fail
section
variable (e et size bytes m len i a1 a2 b1 b2 : Nat) (a3 b3 : Option AV) (a4 b4 c4 : List (Nat × Nat × Bool)) (du d2 : TypeDesc) (z s x : AV) (news l : List AV) (h : Tr ABlk) (nx : Nat)
@[go_sem] theorem zW6:G5 (.mk (.slice e) a1 a2 a3 a4) (.mk du b1 b2 b3 b4) (some (.mk d2 size bytes (some z) c4)) et s x h nx=Lh (Nat.beq e et && yQ du && Nat.ble bytes 65536 && Nat.ble 1 size) (qE size x h) e size s h nx:=by
 simp only[G5,Lh,mv];split
 ·rename_i hb;simp only[hb]
 ·rename_i hb;simp only[hb];cases qE size x h with
  |none=>rfl
  |some p=>
   obtain⟨m,news⟩:=p;simp only;cases dB news <;> rfl
@[go_sem] theorem W5:Lh true (some (m,news)) e size s h nx=mv (dB news) m news e size s h nx:=rfl
@[go_sem] theorem zOn (h0:m≠0)(h1:m≤16777216):mv true m news e size .sl0 h nx=.val (.sl nx 0 m 0 true) (h.put nx (some (bx e news true size))) (nx+1):=by
 have e0:Nat.beq m 0=false:=by cases m;exact absurd rfl h0;rfl
 simp only[mv,e0,Nat.ble_eq_true_of_le h1]
@[go_sem] theorem ycj:mv true 0 news e size .sl0 h nx=.val .sl0 h nx:=rfl
@[go_sem] theorem Pu:mv true m news e size (.sl i 0 len 0 true) h nx=K7 (h.get i) i len m news e size h nx:=by
 simp only[mv,K7]
@[go_sem] theorem Pr (h1:len * size=l.length)(h2:len+m≤16777216):K7 (some (bx e l true size)) i len m news e size h nx=.val (.sl nx 0 (len+m) 0 true) ((h.put i none).put nx (some (bx e (l++news) true size))) (nx+1):=by
 have e1:Nat.ble (Nat.add len m) 16777216=true:=Nat.ble_eq_true_of_le h2;have e2:Nat.beq (Nat.mul len size) l.length=true:=by rw[show Nat.mul len size=l.length from h1];exact Nat.beq_refl _
 have e3:toL (ef l .nil 0) l.length=l:=by
  apply List.ext_getElem?;intro k
  by_cases hk:k<l.length
  ·simp[toL,hk,fx]
  ·simp[toL,hk]
 simp only[K7,bx,e1,e2,Nat.beq_refl,Bool.and_self,e3]
@[go_sem] theorem zYj:yQ .string=true:=rfl
@[go_sem] theorem zVa:yQ (.slice e)=true:=rfl
end
end
end Go.Ev
namespace Go.Ev
open Go.Proofs
noncomputable section
def oB (l:List ByteArray):AV:=if l=[] then .sl0 else .fz 1 false (bf l)
def nh (s:List ByteArray)(x:Fm):List ByteArray×Bool:=match x with
 |.mk o n _ _ _=>(if o=4∧fQ n s<0 then s++[n] else s,true)
theorem Yc (s:List ByteArray)(x:Fm):(nh s x).1.length≤s.length+1:=by
 cases x;simp only[nh];split <;> simp
theorem zIc:cx.ft.get 39=some Tryz.f39:=aT (by decide) (by kernel_rfl)
def Lf (a L:Nat)(s:List ByteArray)(O:Nat→Prop)(h:Tr ABlk):Prop:=
 (s=[]∧h.get a=some (bx 25 [.sl0] false 0))∨(s≠[]∧∃b,b≠a∧b≠L∧a≤b∧O b∧h.get a=some (bx 25 [.sl b 0 s.length 0 true] false 0)∧h.get b=some (bx 9 (bf s) true 1))
theorem Lf.ext {a L:Nat}{s:List ByteArray}{O:Nat→Prop}{h g:Tr ABlk}(hO:Lf a L s O h)(o1:O a)(aQ:a≠L)(hk:∀k,O k→k≠L→g.get k=h.get k):Lf a L s O g:=by
 rcases hO with⟨e,g1⟩ |⟨e,b,b1,b2,b3,b4,g1,g2⟩
 ·exact .inl ⟨e,by rw[hk _ o1 aQ];exact g1⟩
 ·exact .inr ⟨e,b,b1,b2,b3,b4,by rw[hk _ o1 aQ];exact g1,by rw[hk _ b4 b2];exact g2⟩
def JT (nx:Nat)(rec:ABlk)(s:List ByteArray)(O:Nat→Prop)(h:Tr ABlk) (n:Nat):Prop:=
 Lf (nx+1) (nx+1+1+1) s O h∧h.get (nx+1+1+1)=some rec∧O (nx+1)∧O (nx+1+1+1)∧(∀k,O k→k<n∧nx<k)∧nx+4≤n
theorem JT.keep {nx:Nat}{rec:ABlk}{s:List ByteArray}{O:Nat→Prop}{h g:Tr ABlk}{n m:Nat}(hj:JT nx rec s O h n)(hle:n≤m)(hg:∀k,k<n→k≠nx+1+1+1→g.get k=h.get k)(hL:g.get (nx+1+1+1)=some rec):fh O h n O g m∧JT nx rec s O g m:=by
 obtain⟨j1,j2,j3,j4,j5,j6⟩:=hj;refine⟨⟨hle,fun k hk ho=>hg k hk (fun e=>ho (e ▸ j4)),fun k hk=>.inl hk⟩,j1.ext j3 (by omega) (fun k hk aQ=>hg k (j5 k hk).1 aQ),hL,j3,j4,fun k hk=>⟨by have:=(j5 k hk).1;omega,(j5 k hk).2⟩,by omega⟩
theorem JT.grow {nx:Nat}{rec:ABlk}{s s':List ByteArray}{O:Nat→Prop}{h g:Tr ABlk}{n m q:Nat}(hj:JT nx rec s O h n)(h1:n≤q)(h2:q<m)(hs:s'≠[])(hg:∀k,k<n→¬O k→g.get k=h.get k)(hL:g.get (nx+1+1+1)=some rec)(ga:g.get (nx+1)=some (bx 25 [.sl q 0 s'.length 0 true] false 0))(gq:g.get q=some (bx 9 (bf s') true 1)):
  fh O h n (fun k=>O k∨k=q) g m∧JT nx rec s' (fun k=>O k∨k=q) g m:=by
 obtain⟨j1,j2,j3,j4,j5,j6⟩:=hj;refine⟨⟨by omega,fun k hk ho=>hg k hk ho,fun k hk=>?_⟩,.inr ⟨hs,q,by omega,by omega,by omega,.inr rfl,ga,gq⟩,hL,.inl j3,.inl j4,fun k hk=>?_,by omega⟩
 ·rcases hk with hk |hk
  ·exact .inl hk
  ·exact .inr (by omega)
 ·rcases hk with hk |hk
  ·exact⟨by have:=(j5 k hk).1;omega,(j5 k hk).2⟩
  ·omega
theorem wL {i:Nat}{K:AV→Tr ABlk→Nat→Prop}{tm ff:Tr AV}{h:Tr ABlk}{nx sz db:Nat}{ds:List DE}{fn:FuncId}{st:LoopState}{bh:Option Code}{ps:Array Tmp}{x y:Code}{rb rec:ABlk}(hb:ABlk.loop st bh fn sz ff ps x y db=rb)(hi:h.get i=some rb)(hr:ABlk.loop .ready none fn sz ff ps x y db=rec)(hk:K (.bool true) (h.put i (some rec)) nx):QT i K .norm (.mk tm h nx ds):=by
 subst hb;subst hr;exact⟨_,_,_,_,_,_,_,_,_,hi,hk⟩
theorem QJ {Q:AX→AS→Prop}{v:AV}{tm ff:Tr AV}{g:Tr ABlk}{nx ny sz db:Nat}{ds:List DE}{fn:FuncId}{ps:Array Tmp}{x y:Code}{rec:ABlk}(hr:ABlk.loop .ready none fn sz ff ps x y db=rec)(hi:g.get (nx+1)=some rec)(hk:Q .norm (.mk tm (g.put (nx+1) none) ny (.mark nx::ds))):SC tm ds nx Q v g ny:=by
 subst hr;exact⟨_,_,_,_,_,_,_,_,_,hi,by simp,hk⟩
theorem RG:∀l:List ByteArray,qG 1 (bf l) (bf l)
 |[]=>rfl
 |x::l=>⟨[.bs x],bf l,rfl,rfl,rfl,.inr rfl,RG l⟩
theorem Yu {g:Tr ABlk}{nx:Nat}:∀l:List ByteArray,ct g nx (bf l) (bf l)
 |[]=>.nil
 |x::l=>.cons _ _ _ _ (.bs x) (Yu l)
theorem Tc {g:Tr ABlk}{nx b:Nat}{s:List ByteArray}{cp esz:Nat}{op opn:Bool}(hb:nx≤b)(hg:g.get b=some (bx 9 (bf s) opn esz)):Fz g nx (.sl b 0 s.length cp op) (.fz 1 false (bf s)):=
 .slz b 0 _ cp op 9 _ _ opn esz 1 (bf s) (bf s) (bf s) hb hg (by simp) (fun j hj=>by rw[Nat.zero_add,fx]) (Yu s) (RG s) (pH s)
theorem zU8 (x:ByteArray):ay Tryz.prog cx 132 [.sl0,.bs x] (.int .i64 (-1)):=by
 refine ay.mk fun h nx R hR=>aV (sz:=19) (rs:=[.tmp 4]) aE zy8 rfl rfl rfl (by simp) ?_;simp[go_sem];refine bT (fun mm st=>∃tm,st=.mk tm h nx []∧mm=0∧tm.get 7=some (.int .i64 0)∧tm.get 8=some (.int .i64 0)) ⟨0,_,rfl,rfl,?_⟩ ?_
 ·simp[go_sem]
 ·rintro mm st ⟨tm,rfl,rfl,t7,t8⟩ J hJ
  refine bt aE _ ?_;simp[go_sem,t7,t8];exact hR _ _ _ (aA.refl _ _) (Fz.int _ _)
theorem zzi (x:ByteArray):ay Tryz.prog cx 87 [.sl0,.bs x] (.bool false):=by
 refine ay.mk fun h nx R hR=>aV (sz:=9) (rs:=[.tmp 4]) aE Yg rfl rfl rfl (by simp) ?_;simp[go_sem];refine ay.use (zU8 x) ?_;simp[go_sem,aB];exact hR _ _ _ (aA.refl _ _) (Fz.bool _)
theorem Zs (f:Fm)(hf:f.size≤16777216):ay Tryz.prog cx 39 [.agg f.cs] (oB (dt nh [] f).1):=by
 refine ay.mk fun h nx R hR=>aN.ofLe fun hG=>aV (sz:=24) (rs:=[.tmp 2]) aE zIc rfl rfl rfl (by simp) ?_;simp[go_sem];refine ay.use (Z6 f) ?_;simp[go_sem,aB];obtain⟨fn,_⟩:∃fn:FuncId,fn=fn:=⟨0,rfl⟩;refine Kn aE PE (first:=[]) (cap:=[.ip f.cs]) (fn0:=fn) (by simp[go_sem]) ?_;generalize cE:ABlk.loop LoopState.ready none fn 24 _ _ _ _ _=rec;refine(Zl (S:=List ByteArray) (step:=nh) (Pre:=fun s _=>s.length<16777216) (i:=nx+1+1+1)
  (J:=JT nx rec) (JE:=fun _ _ _ _=>False) ?_ f [] (fun k=>k=nx+1∨k=nx+1+1+1) _ _ (by omega) (QX (mu:=List.length) (N:=16777216) Yc (fun _ _ h=>h) [] f (by simpa using hf)) ?_).mono ?_
 ·refine⟨?_,fun s O h' n hj k hk=>(hj.2.2.2.2.1 k hk).1,?_⟩
  ·rintro s O h1 n1 h2 n2 ⟨hO,hL,o1,o2,ho,hn⟩ hk hle
   exact⟨hO.ext o1 (by omega) (fun k h1 _=>hk k h1),by rw[hk _ o2];exact hL,o1,o2,fun k aU=>⟨by have:=(ho k aU).1;omega,(ho k aU).2⟩,by omega⟩
  ·intro s O x h1 n1 hp hj;obtain⟨K,hK⟩:∃K:AV→Tr ABlk→Nat→Prop,K=fun v g ny=>v=.bool (nh s x).2∧∃O',fh O h1 n1 O' g ny∧(if (nh s x).2 then JT nx rec (nh s x).1 O' g ny else False):=⟨_,rfl⟩;rw[← hK];have xV:=hj;obtain⟨hO,hL,o1,o2,ho,hn⟩:=xV;rw[← cE]at hL;refine Jp hL rfl (by simp) (bt aE _ ?_);have na:¬nx+1=n1:=by omega
   have nb:¬nx+1+1=n1:=by omega
   have nc:¬nx=n1:=by omega
   have nd:¬nx=n1+1:=by omega
   have nl:¬nx+1+1+1=n1:=by omega
   have CB:¬n1=nx+1+1+1:=by omega
   have Gb:¬n1=nx+1+1:=by omega
   have Ga:¬n1=nx+1:=by omega
   have ne:¬nx+1+1=nx:=by omega
   have nf:¬n1+1=nx:=by omega
   have ng:¬n1=nx:=by omega
   cases x with
   |mk o nm cm m kids=>
   simp[go_sem,na,nl,putP,Fm.cs];refine⟨none,fn,24,_,_,_,_,nx+1+1,by simp[go_sem,nl];exact hL,bt aE _ ?_⟩;generalize lZ:ABlk.loop LoopState.busy none fn 24 _ _ _ _ _=I4
   by_cases h4:o=4
   ·rcases hO with⟨rfl,g1⟩ |⟨e,b,b1,b2,b3,b4,g1,g2⟩
    ·simp[go_sem,na,nl,CB,h4,g1];refine ay.use (zzi nm) ?_;simp[go_sem,aB,na,nb,nc,nd,nl,CB,Gb,Ga,h4,g1];refine wL lZ (by simp[go_sem,nb,na,nc,nd,ne,nf,ng]) cE ?_;rw[hK,nh,if_pos ⟨h4,by simp[fQ]⟩];refine⟨rfl,(fun k=>O k∨k=n1+1+1),?_⟩;rw[if_pos rfl];refine hj.grow (by omega) (by omega) (by simp) ?_ ?_ ?_ ?_
     ·intro k hk eE;have k1:¬k=nx+1:=fun e=>eE (e ▸ o1);have k2:¬k=nx+1+1+1:=fun e=>eE (e ▸ o2);have k3:¬k=n1:=by omega
      have k4:¬k=n1+1:=by omega
      have k5:¬k=n1+1+1:=by omega
      simp[go_sem,k1,k2,k3,k4,k5]
     ·simp[go_sem]
     ·simp[go_sem,na,nb,nc,nd]
     ·simp[go_sem,Ga,Gb,bf,na,nb,nc,nd,ne,nf,ng]
    ·have b5:=(ho b b4).1;have c0:¬b=n1:=by omega
     have c1:¬b=n1+1:=by omega
     have c2:¬n1+1=b:=by omega
     have c3:¬b=nx+1+1+1:=b2;have c4:¬nx+1=b:=fun e=>b1 e.symm;have c5:¬nx+1+1+1=b:=fun e=>b2 e.symm;simp[go_sem,na,nl,CB,h4,g1];refine ay.useB tg (zyt false s nm (by omega)) rfl (.cons _ _ _ _ (Tc (opn:=true) (esz:=1) (by omega) ?_) (.cons _ _ _ _ (.bs _) .nil)) ?_
     ·simp[go_sem,c0,c3,g2]
     ·by_cases hx:fQ nm s<0
      ·have Cu:¬0≤fQ nm s:=by omega
       have IC:s.length+1≤16777216:=by omega
       simp[go_sem,aB,na,nb,nc,nd,nl,CB,Gb,Ga,h4,g1,g2,Cu,IC,c0,c1,c2,c3,c4,c5];refine wL lZ (by simp[go_sem,nb,na,nc,nd,ne,nf,ng,c0,c1,c2,c3,c4,c5]) cE ?_;rw[hK,nh,if_pos ⟨h4,hx⟩];refine⟨rfl,(fun k=>O k∨k=n1+1+1),?_⟩;rw[if_pos rfl];refine hj.grow (by omega) (by omega) (by simp) ?_ ?_ ?_ ?_
       ·intro k hk eE;have k1:¬k=nx+1:=fun e=>eE (e ▸ o1);have k2:¬k=nx+1+1+1:=fun e=>eE (e ▸ o2);have k3:¬k=n1:=by omega
        have k4:¬k=n1+1:=by omega
        have k5:¬k=n1+1+1:=by omega
        have k6:¬k=b:=fun e=>eE (e ▸ b4);simp[go_sem,k1,k2,k3,k4,k5,k6]
       ·simp[go_sem]
       ·simp[go_sem,na,nb,nc,nd,ne,nf,ng,c0,c1,c2,c3,c4,c5]
       ·simp[go_sem,Ga,Gb,bf,na,nb,nc,nd,ne,nf,ng,c0,c1,c2,c3,c4,c5]
      ·have Cu:0≤fQ nm s:=by omega
       simp[go_sem,aB,na,nb,nc,nd,nl,CB,Gb,Ga,h4,g1,Cu];refine wL lZ (by simp[go_sem,nb,na,nc,nd,ne,nf,ng]) cE ?_;rw[hK,nh,if_neg (fun q=>hx q.2)];refine⟨rfl,O,?_⟩;rw[if_pos rfl];refine hj.keep (by omega) (fun k hk aQ=>?_) (by simp[go_sem]);have k3:¬k=n1:=by omega
       simp[go_sem,aQ,k3]
   ·simp[go_sem,na,nl,CB,h4];refine wL lZ (by simp[go_sem,nb,na,nc,nd,ne,nf,ng]) cE ?_;rw[hK,nh,if_neg (fun q=>h4 q.1)];refine⟨rfl,O,?_⟩;rw[if_pos rfl];refine hj.keep (by omega) (fun k hk aQ=>?_) (by simp[go_sem]);have k3:¬k=n1:=by omega
    simp[go_sem,aQ,k3]
 ·refine⟨.inl ⟨rfl,by simp[go_sem]⟩,by simp[go_sem],.inl rfl,.inr rfl,fun k hk=>by omega,by omega⟩
 ·rintro v g ny ⟨O',hK,hq⟩
  by_cases hs:(dt nh [] f).2=true
  ·rw[if_pos hs]at hq;obtain⟨hO,hL,o1,o2,ho,hn⟩:=hq;refine QJ cE hL ?_;have gd:g.get (nx+1+1)=some .dfr:=by
    rw[hK.2.1 (nx+1+1) (by omega) (by omega)];simp[go_sem]
   have na:¬nx+1=nx+1+1+1:=by omega
   have ex:aA nx h ((g.put (nx+1+1+1) none).put (nx+1+1) none):=by
    intro k hk;have k0:¬k=nx:=by omega
    have k1:¬k=nx+1:=by omega
    have k2:¬k=nx+1+1:=by omega
    have k3:¬k=nx+1+1+1:=by omega
    have:=hK.2.1 k (by omega) (by omega);simp[go_sem,k0,k1,k2,k3]at this ⊢;exact this
   rcases hO with⟨e,g1⟩ |⟨e,b,b1,b2,b3,b4,g1,g2⟩
   ·simp[go_sem,gd,g1,na];refine hR _ _ _ ex ?_;rw[oB,if_pos e];exact .sl0
   ·have b5:¬b=nx+1+1:=by
     intro q;rw[q,gd]at g2;cases g2
    simp[go_sem,gd,g1,g2,na];refine hR _ _ _ ex ?_;rw[oB,if_neg e];exact Tc (opn:=true) (esz:=1) (by omega) (by simp[go_sem,b2,b5,g2])
  ·rw[if_neg hs]at hq;exact hq.elim
structure Fc where
 name:ByteArray
 kind:Int
 lo:Int
 hi:Int
def Fc.cs (f:Fc):List AV:=[.bs f.name,.int .i64 f.kind,.int .i64 f.lo,.int .i64 f.hi]
def aP (l:List Fc):List AV:=l.map fun f=>.agg f.cs
@[go_sem] theorem Sf (l:List Fc):(aP l).length=l.length:=by simp[aP]
@[go_sem] theorem yab (l:List Fc) (k:Nat)(hk:k<(aP l).length):(aP l)[k]=.agg (l[k]'(by simpa[aP]using hk)).cs:=by simp[aP]
@[go_sem] theorem Fc.cs_len (f:Fc):f.cs.length=4:=by cases f;rfl
@[go_sem] theorem Fc.cs_take (f:Fc):f.cs.take 4=f.cs:=by cases f;rfl
theorem AZ:∀l:List Fc,bC (aP l)=true
 |[]=>rfl
 |f::l=>by
  have:=AZ l;rw[show aP (f::l)=.agg f.cs::aP l from rfl];simp[bC,plain,Fc.cs,this]
theorem wF {g:Tr ABlk}{nx i:Nat}{t:TypeId}{l:List AV}{opn:Bool}{esz:Nat}(hi:nx≤i)(hg:g.get i=some (bx t l opn esz))(hp:bC l=true):Fz g nx (.ptr i 0) (.ip l):=
 .pin i 0 t _ _ opn esz l l hi hg (by simp) (fun j hj=>by rw[Nat.zero_add,fx]) (ct.same _ hp)
def bS {α:Type}(p:α→Bool):List α→Int
 |[]=>-1
 |y::l=>if p y=true then 0 else (if bS p l<0 then -1 else bS p l+1)
def rB {α:Type}(p:α→Bool)(l:List α) (k:Nat):Int:=if bS p (l.drop k)<0 then -1 else bS p (l.drop k)+k
theorem Q6 {α:Type}{p:α→Bool}{l:List α}{k:Nat}(hk:k<l.length)(e:p l[k]=true):rB p l k=k:=by
 unfold rB;rw[aj hk,bS,if_pos e];simp
theorem P7 {α:Type}(p:α→Bool):∀l,-1≤bS p l∧(bS p l<0→bS p l=-1)
 |[]=>by simp[bS]
 |y::l=>by
  have:=P7 p l;unfold bS;split
  ·omega
  ·split <;> omega
theorem Qp {α:Type}{p:α→Bool}{l:List α}{k:Nat}(hk:k<l.length)(e:¬p l[k]=true):rB p l k=rB p l (k+1):=by
 unfold rB;rw[aj hk,bS,if_neg e];have:=P7 p (l.drop (k+1))
 repeat' split
 all_goals omega
theorem PJ {α:Type}{p:α→Bool}{l:List α}{k:Nat}(hk:l.length≤k):rB p l k=-1:=by
 unfold rB;rw[aq hk,bS];simp
theorem Rf {α:Type}(p:α→Bool)(l:List α):rB p l 0=bS p l:=by
 have:=P7 p l;unfold rB;rw[List.drop_zero]
 repeat' split
 all_goals omega
theorem zH2:cx.ft.get 42=some Tryz.f42:=aT (by decide) (by kernel_rfl)
theorem zNs:cx.ft.get 89=some Tryz.f89:=aT (by decide) (by kernel_rfl)
theorem zUt:cx.ft.get 90=some Tryz.f90:=aT (by decide) (by kernel_rfl)
theorem YL (f:Fc)(x:ByteArray):ay Tryz.prog cx 90 [.agg f.cs,.ip [.bs x]] (.bool (decide (f.name=x))):=by
 refine ay.mk fun h nx R hR=>aV (sz:=8) (rs:=[.tmp 3]) aE zUt rfl rfl rfl (by simp) ?_
 by_cases e:f.name=x
 ·simp[go_sem,Fc.cs,e];exact hR _ _ _ ((aA.refl nx h).put (ae _) _) (Fz.eq rfl (by simp[e]))
 ·simp[go_sem,Fc.cs,e];exact hR _ _ _ ((aA.refl nx h).put (ae _) _) (Fz.eq rfl (by simp[e]))
theorem zGh (full:Bool)(l:List Fc)(x:ByteArray)(hl:l.length≤1000000000):ay Tryz.prog cx 89 [.fz 4 full (aP l),.func 90 [] [.ip [.bs x]]] (.int .i64 (bS (fun f=>decide (f.name=x)) l)):=by
 refine ay.mk fun h nx R hR=>aV (sz:=19) (rs:=[.tmp 4]) aE zNs rfl rfl rfl (by simp) ?_;simp[go_sem];refine bT (fun mm st=>∃tm k,st=.mk tm h nx []∧mm=l.length-k∧k≤l.length∧tm.get 0=some (.fz 4 full (aP l))∧tm.get 1=some (.func 90 [] [.ip [.bs x]])∧tm.get 7=some (.int .i64 (l.length:Int))∧tm.get 8=some (.int .i64 (k:Int))∧RowKit.Hid (bS (fun f=>decide (f.name=x)) l=rB (fun f=>decide (f.name=x)) l k)) ⟨l.length,_,0,rfl,by simp,by simp,?_⟩ ?_
 ·simp[go_sem];exact Lib.hid (Rf _ l).symm
 ·rintro mm st ⟨tm,k,rfl,rfl,hk,t0,t1,t7,t8,hv⟩ J hJ
  refine bt aE _ ?_
  by_cases az:k<l.length
  ·by_cases he:(l[k]).name=x
   ·have:=Q6 (p:=fun f:Fc=>decide (f.name=x)) az (by simpa using he);simp[go_sem,t0,t1,t7,t8,az];refine ay.use (YL _ x) ?_;simp[go_sem,aB,t0,t1,t7,t8,az,he];refine hR _ _ _ (aA.refl _ _) (Fz.eq rfl ?_);rw[hv.out,this]
   ·have:=Qp (p:=fun f:Fc=>decide (f.name=x)) az (by simpa using he);have HM:=Lib.hid this;clear this;simp[go_sem,t0,t1,t7,t8,az];refine ay.use (YL _ x) ?_;simp[go_sem,aB,t0,t1,t7,t8,az,he];refine hJ (l.length-(k+1)) _ (by omega) ⟨_,k+1,rfl,rfl,by omega,?_⟩;simp(disch:=omega) [go_sem,t0,t1,t7,t8,aY];exact Lib.hid (by rw[hv.out,HM.out])
  ·have:=PJ (p:=fun f:Fc=>decide (f.name=x)) (l:=l) (k:=k) (by omega);simp[go_sem,t0,t1,t7,t8,az];refine hR _ _ _ (aA.refl _ _) (Fz.eq rfl ?_);rw[hv.out,this]
theorem zxo (full:Bool)(l:List Fc)(x:ByteArray)(hl:l.length≤1000000000):ay Tryz.prog cx 42 [.agg [.fz 4 full (aP l)],.bs x] (.int .i64 (bS (fun f=>decide (f.name=x)) l)):=by
 refine ay.mk fun h nx R hR=>aN.ofLe fun hG=>aV (sz:=9) (rs:=[.tmp 4]) aE zH2 rfl rfl rfl (by simp) ?_;simp[go_sem];refine ay.useB tg (zGh full l x hl) rfl (.cons _ _ _ _ (Fz.eq (by simp[plain,AZ]) rfl) (.cons _ _ _ _ (.func 90 _ _ _ _ .nil (.cons _ _ _ _ (wF (t:=9) (opn:=false) (esz:=0) (by omega) (by simp[go_sem]) (by simp[plain,bC])) .nil)) .nil)) ?_;simp[go_sem,aB];exact hR _ _ _ (((aA.refl nx h).put (ae _) _).put (by omega) _) (Fz.eq rfl rfl)
end
end Go.Ev
