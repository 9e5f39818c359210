/- Texts. -/
import Derived.Test.YtkdnmldmffkkoaaGreatDoorP22
set_option linter.unusedSimpArgs false
set_option linter.unusedVariables false
set_option maxRecDepth 100000
set_option maxHeartbeats 8000000
namespace Go.Ev
open Go.Proofs Go.RowKit
noncomputable section
attribute [-go_sem] dw bP ep
theorem zT0:cx.ft.get 140=some Tryz.f140:=aT (by decide) (by kernel_rfl)
mutual
def iv:Fm→List UInt8
 |.mk o n c m kids=>Lib.itoa o++(n.data.toList++(44::(Lib.itoa c++(44::(Lib.itoa m++(40::(gj kids++[41])))))))
def gj:List Fm→List UInt8
 |[]=>[]
 |f::l=>iv f++gj l
end
mutual
def DV:Fm→Prop
 |.mk o _ c m kids=>cS o∧cS c∧cS m∧JM kids
def JM:List Fm→Prop
 |[]=>True
 |f::l=>DV f∧JM l
end
theorem Xm:∀{l:List Fm},JM l→∀f∈l,DV f
 |[],_,f,h=>by cases h
 |x::l,hl,f,h=>by
  rcases List.mem_cons.1 h with rfl |h
  ·exact hl.1
  ·exact Xm hl.2 f h
theorem zRb (f:Fm):iv f≠[]:=by
 cases f;simp[iv]
theorem zM8 (n a:Nat):∀(f:Fm)(l:List UInt8)(h:Tr ABlk) (nx q:Nat)(R:AV→Tr ABlk→Nat→Prop),f.size≤n→n≤1000000→DV f→rm h nx a q l→l.length+(iv f).length≤16000000→
  (∀v g ny q',nx≤ny→(∀k,k<nx→k≠a→k≠q→g.get k=h.get k)→(q'=q∨nx≤q')→rm g ny a q' (l++iv f)→R v g ny)→aN Tryz.prog cx 140 [.ptr a 0,.agg f.cs] h nx R:=by
 induction n with
 |zero=>intro f l h nx q R hf;cases f;simp[Fm.size]at hf
 |succ n ih=>
 rintro⟨o,nn,cm,m,kids⟩ l h nx q R hf hn hI hB hl hR
 simp only[Fm.size]at hf;obtain⟨Mn,Mi,Mm,hIk⟩:=hI;have kP:=yL kids;refine aV (sz:=38) (rs:=[]) aE zT0 rfl rfl rfl (by simp) ?_;simp-implicitDefEqProofs[go_sem,Fm.cs];refine GN mixed aE eO 18 [] [3,10,15] [] [] 0 (by kernel_rfl) (by kernel_rfl) ?_;simp-implicitDefEqProofs[go_sem];have io:=K3 o Mn.1 Mn.2;have ic:=K3 cm Mi.1 Mi.2;have im:=K3 m Mm.1 Mm.2;have lo:=wK o Mn;have lc:=wK cm Mi;have lm:=wK m Mm;have ox:(iv (.mk o nn cm m kids)).length=(Lib.itoa o).length+(nn.size+(1+((Lib.itoa cm).length+(1+((Lib.itoa m).length+(1+((gj kids).length+1))))))):=by
  simp[iv];omega
 have eo:(⟨(Lib.itoa o).toArray⟩:ByteArray).size=(Lib.itoa o).length:=by simp[ByteArray.size]
 have ec:(⟨(Lib.itoa cm).toArray⟩:ByteArray).size=(Lib.itoa cm).length:=by simp[ByteArray.size]
 have em:(⟨(Lib.itoa m).toArray⟩:ByteArray).size=(Lib.itoa m).length:=by simp[ByteArray.size]
 have S3:(⟨(Lib.itoa o).toArray⟩:ByteArray).data.toList=Lib.itoa o:=by simp
 have dc:(⟨(Lib.itoa cm).toArray⟩:ByteArray).data.toList=Lib.itoa cm:=by simp
 have dm:(⟨(Lib.itoa m).toArray⟩:ByteArray).data.toList=Lib.itoa m:=by simp
 generalize (⟨(Lib.itoa o).toArray⟩:ByteArray)=Ao at io eo S3;generalize (⟨(Lib.itoa cm).toArray⟩:ByteArray)=Ac at ic ec dc;generalize (⟨(Lib.itoa m).toArray⟩:ByteArray)=Am at im em dm;refine gR io ?_;have z1:Ao.size+nn.size≤9223372036854775807:=by omega
 have s1:(⟨#[44]⟩:ByteArray).size=1:=rfl;have s2:(⟨#[40]⟩:ByteArray).size=1:=rfl;generalize cO:(⟨#[44]⟩:ByteArray)=K1 at s1;generalize ei:(⟨#[40]⟩:ByteArray)=K2 at s2;have z2:Ao.size+nn.size+K1.size≤9223372036854775807:=by omega
 have z3:Ao.size+nn.size+K1.size+Ac.size≤9223372036854775807:=by omega
 have z4:Ao.size+nn.size+K1.size+Ac.size+K1.size≤9223372036854775807:=by omega
 have z5:Ao.size+nn.size+K1.size+Ac.size+K1.size+Am.size≤9223372036854775807:=by omega
 have z6:Ao.size+nn.size+K1.size+Ac.size+K1.size+Am.size+K2.size≤9223372036854775807:=by omega
 simp-implicitDefEqProofs[go_sem,fg,z1,z2];refine gR ic ?_;simp-implicitDefEqProofs[go_sem,fg,z3,z4];refine gR im ?_;simp-implicitDefEqProofs[go_sem,z5,z6];have d1:K1.data.toList=[44]:=by rw[← cO]
 have d2:K2.data.toList=[40]:=by rw[← ei]
 have MB:(Ao++nn++K1++Ac++K1++Am++K2).data.toList=Lib.itoa o++(nn.data.toList++(44::(Lib.itoa cm++(44::(Lib.itoa m++[40]))))):=by
  simp[ByteArray.data_append,S3,dc,dm,d1,d2]
 have hSs:(Ao++nn++K1++Ac++K1++Am++K2).size=Ao.size+nn.size+K1.size+Ac.size+K1.size+Am.size+K2.size:=by
  simp[ByteArray.size_append]
 generalize hS:Ao++nn++K1++Ac++K1++Am++K2=S at MB hSs;have hE:∀k,k<nx→(h.put nx (some (bx 24 [.int .i64 o,.bs nn,.int .i64 cm,.int .i64 m,.fz 5 false (cy kids)] false 0))).get k=h.get k:=fun k hk=>by simp[go_sem,show ¬k=nx by omega]
 have hB2:rm (h.put nx (some (bx 24 [.int .i64 o,.bs nn,.int .i64 cm,.int .i64 m,.fz 5 false (cy kids)] false 0))) (nx+1) a q l:=by
  obtain⟨b1,b2⟩:=hB;refine⟨by omega,?_⟩
  rcases b2 with⟨b2,b3⟩ |⟨b2,b3,b4,b5,b6⟩
  ·exact .inl ⟨b2,by rw[hE a b1];exact b3⟩
  ·exact .inr ⟨b2,by omega,b4,by rw[hE a b1];exact b5,by rw[hE q b3];exact b6⟩
 have Ik:=hB.1;obtain⟨q2,qm,qap,hB3⟩:∃q2,(q2=q∨q2=a)∧q2<nx∧rm (h.put nx (some (bx 24 [.int .i64 o,.bs nn,.int .i64 cm,.int .i64 m,.fz 5 false (cy kids)] false 0))) (nx+1) a q2 l:=by
  obtain⟨b1,b2⟩:=hB2
  rcases b2 with⟨b2,b3⟩ |b2
  ·exact⟨a,.inr rfl,Ik,b1,.inl ⟨b2,b3⟩⟩
  ·refine⟨q,.inl rfl,?_,b1,.inr b2⟩
   rcases hB.2 with⟨e,_⟩ |⟨_,e,_⟩
   ·exact absurd e b2.1
   ·exact e
 refine zS4 _ _ a q2 l S (by omega) (by omega) hB3 _ fun v g ny q' c1 c2 c3 c4=>?_;have gx:g.get nx=some (bx 24 [.int .i64 o,.bs nn,.int .i64 cm,.int .i64 m,.fz 5 false (cy kids)] false 0):=by
  rw[c2 nx (by omega) (by omega) (by omega)];simp[go_sem]
 have hK:∀k,k<nx→k≠a→k≠q→g.get k=h.get k:=by
  intro k k1 k2 k3;rw[c2 k (by omega) k2 (by omega),hE k k1]
 obtain⟨l1,jc⟩:∃l1,l1=l++S.data.toList:=⟨_,rfl⟩;rw[← jc]at c4;have Nw:l1≠[]:=by
  intro e;have:=congrArg List.length jc;rw[e]at this;simp at this;omega
 have ia:l++iv (.mk o nn cm m kids)=l1++(gj kids++[41]):=by
  rw[jc,MB];simp[iv]
 have hlen:l1.length+((gj kids).length+1)≤16000000:=by
  have:=congrArg List.length ia;simp only[List.length_append,List.length_cons,List.length_nil]at this;omega
 rw[ia]at hR;clear MB ia jc ox hl;simp-implicitDefEqProofs[go_sem,aB,gx];refine bT (fun mm st=>∃tm h' ax k l2 q3,st=.mk tm h' ax []∧mm=kids.length-k∧k≤kids.length∧tm.get 0=some (.ptr a 0)∧tm.get 26=some (.fz 5 false (cy kids))∧tm.get 27=some (.int .i64 (kids.length:Int))∧tm.get 28=some (.int .i64 (k:Int))∧(∀k,k<nx→k≠a→k≠q→h'.get k=h.get k)∧nx<q3∧nx≤ax∧l2≠[]∧rm h' ax a q3 l2∧RowKit.Hid (l2.length+((gj (kids.drop k)).length+1)≤16000000∧l1++gj kids=l2++gj (kids.drop k))) ⟨kids.length,_,_,_,0,l1,q',rfl,by simp,by simp,?_⟩ ?_
 ·simp-implicitDefEqProofs[go_sem];exact⟨fun k k1 k2 k3=>hK k k1 k2 k3,by omega,by omega,Nw,c4,Lib.hid (by omega)⟩
 ·rintro mm st ⟨tm,h',ax,k,l2,q3,rfl,rfl,hk,t0,t26,t27,t28,oR,Ut,qh,zV,Tw,hv⟩ J hJ
  refine bt aE _ ?_
  by_cases az:k<kids.length
  ·obtain⟨s1',_,s3'⟩:=qD az;obtain⟨aJ,bD⟩:=hv.out;have hd:kids.drop k=kids[k]::kids.drop (k+1):=aj az;rw[hd,gj]at aJ bD;have Ml:=Xm hIk _ (ai az);rw[List.length_append]at aJ;have F1:(l2++iv kids[k]).length+((gj (kids.drop (k+1))).length+1)≤16000000:=by rw[List.length_append];omega
   have uq:l1++gj kids=(l2++iv kids[k])++gj (kids.drop (k+1)):=by rw[bD,List.append_assoc]
   have HD:=Lib.hid (And.intro F1 uq);have dT:l2.length+(iv kids[k]).length≤16000000:=by omega
   clear aJ bD F1 uq hd;simp-implicitDefEqProofs[go_sem,t0,t26,t27,t28,az];have vx:∀x y,∀k,k<ax→((h'.put ax x).put ax y).get k=h'.get k:=fun x y k hk=>by simp[go_sem,show ¬k=ax by omega]
   have B3:∀x y,rm ((h'.put ax x).put ax y) (ax+1) a q3 l2:=by
    intro x y;obtain⟨b1,⟨b2,_⟩ |⟨b2,b3,b4,b5,b6⟩⟩:=Tw
    ·exact absurd b2 zV
    ·exact⟨by omega,.inr ⟨b2,by omega,b4,by rw[vx x y a b1];exact b5,by rw[vx x y q3 b3];exact b6⟩⟩
   refine ih kids[k] l2 _ _ q3 _ (by omega) (by omega) Ml (B3 _ _) dT fun v g3 yj q4 e1 e2 e3 e4=>?_;simp-implicitDefEqProofs[go_sem,aB,t28];refine hJ (kids.length-(k+1)) _ (by omega) ⟨_,_,_,k+1,l2++iv kids[k],q4,rfl,rfl,by omega,?_⟩;simp-implicitDefEqProofs (disch:=omega) [go_sem,t0,t26,t27,aY];refine⟨fun k1 k2 k3 k4=>?_,by omega,by omega,?_,e4,?_⟩
   ·rw[e2 k1 (by omega) k3 (by omega),vx _ _ k1 (by omega)];exact oR k1 k2 k3 k4
   ·simp[zV]
   ·exact Lib.hid (by have:=HD.out;simpa using this)
  ·obtain⟨aJ,bD⟩:=hv.out;rw[aq (by omega),gj]at aJ bD;simp at aJ bD;have h41:((41:UInt8).toNat:Int)=41:=rfl;simp-implicitDefEqProofs[go_sem,t0,t27,t28,az];refine zJo h' ax a q3 l2 41 (by omega) zV Tw _ fun v g3 yj q4 e1 e2 e3 e4=>?_;simp-implicitDefEqProofs[go_sem,aB];refine hR _ g3 yj q4 (by omega) (fun k1 k2 k3 k4=>?_) (.inr (by omega)) ?_
   ·rw[e2 k1 (by omega) k3 (by omega)];exact oR k1 k2 k3 k4
   ·rw[← List.append_assoc,bD];exact e4
end
end Go.Ev
namespace Go.Ev
open Go.Proofs
noncomputable section
attribute [-go_sem] dw bP
theorem zSk:cx.ft.get 202=some Tryz.f202:=aT (by decide) (by kernel_rfl)
def gN (f:Fc) (x:Int):Bool:=decide (x<f.lo) || decide (f.hi<x)
theorem zTk:cx.ft.get 199=some Tryz.f199:=aT (by decide) (by kernel_rfl)
mutual
def gh (nm:ByteArray):List Int→Fm→List Int
 |L,.mk o n _ m kids=>iq nm (if o=3∧n=nm then L++[m,IntKind.i64.wrap (m+1)] else L) kids
def iq (nm:ByteArray):List Int→List Fm→List Int
 |L,[]=>L
 |L,f::l=>iq nm (gh nm L f) l
end
mutual
theorem Bx (nm:ByteArray):∀(f:Fm)(L:List Int),(gh nm L f).length≤L.length+2 * f.size
 |.mk o n c m kids,L=>by
  rw[gh];have:=zzz nm kids (if o=3∧n=nm then L++[m,IntKind.i64.wrap (m+1)] else L);have h2:(if o=3∧n=nm then L++[m,IntKind.i64.wrap (m+1)] else L).length≤L.length+2:=by split <;> simp
  simp only[Fm.size];omega
theorem zzz (nm:ByteArray):∀(l:List Fm)(L:List Int),(iq nm L l).length≤L.length+2 * bn l
 |[],L=>by simp[iq,bn]
 |f::l,L=>by
  rw[iq];have h1:=Bx nm f L;have h2:=zzz nm l (gh nm L f);simp only[bn];omega
end
def mh (p q nx:Nat)(h g:Tr ABlk):Prop:=∀k,k<nx→k≠p→k≠q→g.get k=h.get k
theorem QF {p q nx:Nat}{h g:Tr ABlk}{j:Nat}{B:Option ABlk}(hj:nx≤j∨j=p∨j=q):mh p q nx h (g.put j B)↔mh p q nx h g:=by
 constructor
 ·intro e k hk h1 h2;have:=e k hk h1 h2;rw[Tr.get_put,if_neg (by omega)]at this;exact this
 ·intro e k hk h1 h2;rw[Tr.get_put,if_neg (by omega)];exact e k hk h1 h2
theorem mh.trans {p q q' nx ny:Nat}{h g f:Tr ABlk}(a:mh p q nx h g)(hl:nx≤ny)(hq:q'=q∨nx≤q')(b:mh p q' ny g f):mh p q nx h f:=fun k hk h1 h2=>by
 rw[b k (by omega) h1 (by omega),a k hk h1 h2]
structure nT (x:Fc) (a p s q:Nat)(L:List Int)(h:Tr ABlk) (nx:Nat):Prop where
 la:a<nx
 lp:p<nx
 ls:s<nx
 lq:q<nx
 n1:a≠p
 n2:a≠q
 n3:s≠p
 n4:s≠q
 n5:p≠q
 ga:h.get a=some (bx 65 x.cs false 0)
 gpq:∃op:Bool,h.get p=some (bx 40 [.sl q 0 L.length (if op then 0 else L.length) op] false 0)∧h.get q=some (bx 3 (aI L) op (if op then 1 else 0))
 gs:h.get s=some (bx 228 [.func 199 [] [.ptr a 0,.ptr p 0,.ptr s 0]] false 0)
theorem nT.mono {x:Fc}{a p s q:Nat}{L:List Int}{h g:Tr ABlk}{nx ny:Nat}(S:nT x a p s q L h nx)(e:aA nx h g)(hn:nx≤ny):nT x a p s q L g ny:=by
 obtain⟨la,lp,ls,lq,n1,n2,n3,n4,n5,ga,⟨op,gp,gq⟩,gs⟩:=S;refine⟨by omega,by omega,by omega,by omega,n1,n2,n3,n4,n5,?_,⟨op,?_,?_⟩,?_⟩
 all_goals rw[e _ (by omega)];assumption
theorem mh.ext {p q nx ny:Nat}{h g f:Tr ABlk}(a:mh p q nx h g)(hl:nx≤ny)(b:aA ny g f):mh p q nx h f:=fun k hk h1 h2=>by rw[b k (by omega),a k hk h1 h2]
theorem zFx (x:Fc) (a p s n:Nat):∀(f:Fm)(L:List Int)(h:Tr ABlk) (nx q:Nat)(R:AV→Tr ABlk→Nat→Prop),f.size≤n→n≤1000000→L.length+2 * f.size≤10000000→nT x a p s q L h nx→(∀g ny q',mh p q nx h g→(q'=q∨nx≤q')→nx≤ny→nT x a p s q' (gh x.name L f) g ny→R (.tup []) g ny)→aN Tryz.prog cx 199 [.agg f.cs,.ptr a 0,.ptr p 0,.ptr s 0] h nx R:=by
 induction n with
 |zero=>intro f L h nx q R hf;cases f;simp[Fm.size]at hf
 |succ n ih=>
 rintro⟨o,nn,cm,m,kids⟩ L h nx q R hf hn hL S hR
 simp only[Fm.size]at hf hL;simp only[gh]at hR;refine aV (sz:=36) (rs:=[]) aE zTk rfl rfl rfl (by simp) ?_;have kP:=yL kids;obtain⟨la,lp,ls,lq,n1,n2,n3,n4,n5,ga,⟨op,gp,gq⟩,gs⟩:=S;obtain⟨xn,xk,jh,lN⟩:=x;simp only[Fc.cs]at ga;have d1:¬a=nx:=by omega
 have d2:¬p=nx:=by omega
 have d3:¬s=nx:=by omega
 have d4:¬q=nx:=by omega
 have d5:¬nx=p:=by omega
 have d6:¬nx=q:=by omega
 by_cases e3:o=3∧nn=xn
 ·obtain⟨e3,en⟩:=e3;rw[if_pos ⟨e3,by exact en⟩]at hR;subst en;have fo:=ve L;have jd:L.length+2≤16777216:=by omega
  have d7:¬q=nx+1:=by omega
  have d8:¬p=nx+1:=by omega
  have d9:¬p=nx+1+1:=by omega
  have d10:¬p=q:=n5;have d11:¬nx=nx+1+1:=by omega
  cases op
  ·simp only[if_false,Bool.false_eq_true]at gp gq;simp-implicitDefEqProofs[go_sem,e3,Fm.cs,d1,d2,d4,d5,d7,d8,d9,d11,ga,gp,gq,aG,jd];generalize dh:Tr.put _ p _=h0;obtain⟨V0,kG⟩:∃V0,V0=L++[m,IntKind.i64.wrap (m+1)]:=⟨_,rfl⟩;have sV:V0.length≤L.length+2:=by rw[kG];simp
   rw[← kG]at hR;obtain⟨q0,qk⟩:∃q0,q0=nx+1+1:=⟨_,rfl⟩;have Cq:q0=q∨nx≤q0:=by omega
   have hB:mh p q nx h h0:=by
    rw[← dh];simp(disch:=omega)only[QF];exact fun _ _ _ _=>rfl
   have hS:nT ⟨nn,xk,jh,lN⟩ a p s q0 V0 h0 (nx+1+1+1):=by
    have a1:¬a=nx+1:=by omega
    have a2:¬a=nx+1+1:=by omega
    have a3:¬s=nx+1:=by omega
    have a4:¬s=nx+1+1:=by omega
    have a5:¬nx+1+1=p:=by omega
    refine⟨by omega,by omega,by omega,by omega,n1,by omega,n3,by omega,by omega,?_,⟨true,?_,?_⟩,?_⟩
    all_goals (rw[← dh];simp[go_sem,a1,a2,a3,a4,a5,n1,n3,d1,d3,ga,gs,qk,kG,Fc.cs,aI])
   have gx:h0.get nx=some (bx 24 [.int .i64 3,.bs nn,.int .i64 cm,.int .i64 m,.fz 5 false (cy kids)] false 0):=by
    rw[← dh];simp[go_sem,d5,d11]
   clear dh;refine bT (fun mm st=>∃tm h' ax k V q',st=.mk tm h' ax []∧mm=kids.length-k∧k≤kids.length∧tm.get 3=some (.ptr s 0)∧tm.get 26=some (.fz 5 false (cy kids))∧tm.get 27=some (.int .i64 (kids.length:Int))∧tm.get 28=some (.int .i64 (k:Int))∧mh p q nx h h'∧(q'=q∨nx≤q')∧nT ⟨nn,xk,jh,lN⟩ a p s q' V h' ax∧nx≤ax∧RowKit.Hid (V.length+2 * bn (kids.drop k)≤10000000∧iq nn V0 kids=iq nn V (kids.drop k))) ⟨kids.length,_,_,_,0,V0,q0,rfl,by simp,by simp,?_⟩ ?_
   ·simp-implicitDefEqProofs[go_sem,hB,Cq,hS];refine⟨by omega,Lib.hid ?_⟩;have:=sV;omega
   ·rintro mm st ⟨tm,h',ax,k,V,q',rfl,rfl,hk,t3,t26,t27,t28,rU,qj,lx,dK,hv⟩ J hJ
    refine bt aE _ ?_
    by_cases az:k<kids.length
    ·obtain⟨s1,_,s3⟩:=qD az;obtain⟨aJ,bD⟩:=hv.out;have hd:kids.drop k=kids[k]::kids.drop (k+1):=aj az;rw[hd]at aJ bD;simp only[bn,iq]at aJ bD;have cI:=Bx nn kids[k] V;have HD:=Lib.hid (And.intro (show (gh nn V kids[k]).length+2 * bn (kids.drop (k+1))≤10000000 by omega) bD);have dT:V.length+2 * kids[k].size≤10000000:=by omega
     clear aJ bD cI hd;have zf:=lx.gs;have Oq:=lx.ls;have m1:¬s=ax:=by omega
     simp-implicitDefEqProofs[go_sem,t3,t26,t27,t28,az,zf,m1];have nC:∀x y,aA ax h' ((h'.put ax x).put ax y):=fun x y=>((aA.refl ax h').put (ae _) _).put (ae _) _;refine ih kids[k] V _ _ q' _ (by omega) (by omega) dT (lx.mono (nC _ _) (by omega)) fun g ny q2 b1 b2 b3 b4=>?_;simp-implicitDefEqProofs[go_sem,aB,t28];refine hJ (kids.length-(k+1)) _ (by omega) ⟨_,_,_,k+1,gh nn V kids[k],q2,rfl,rfl,by omega,?_⟩;simp(disch:=omega) [go_sem,t3,t26,t27,aY];exact⟨(rU.ext dK (nC _ _)).trans (by omega) (by omega) b1,by omega,b4,by omega,HD⟩
    ·simp-implicitDefEqProofs[go_sem,t27,t28,az];refine hR _ _ q' rU qj (by omega) ?_;have:=hv.out.2;rw[aq (by omega),iq]at this;rw[this];exact lx
  ·simp only[if_true]at gp gq;simp-implicitDefEqProofs[go_sem,e3,Fm.cs,d1,d2,d4,d5,d6,d7,d8,d9,d10,d11,ga,gp,gq,aG,jd];generalize dh:Tr.put _ p _=h0;obtain⟨V0,kG⟩:∃V0,V0=L++[m,IntKind.i64.wrap (m+1)]:=⟨_,rfl⟩;have sV:V0.length≤L.length+2:=by rw[kG];simp
   rw[← kG]at hR;obtain⟨q0,qk⟩:∃q0,q0=nx+1+1:=⟨_,rfl⟩;have Cq:q0=q∨nx≤q0:=by omega
   have hB:mh p q nx h h0:=by
    rw[← dh];simp(disch:=omega)only[QF];exact fun _ _ _ _=>rfl
   have hS:nT ⟨nn,xk,jh,lN⟩ a p s q0 V0 h0 (nx+1+1+1):=by
    have a1:¬a=nx+1:=by omega
    have a2:¬a=nx+1+1:=by omega
    have a3:¬s=nx+1:=by omega
    have a4:¬s=nx+1+1:=by omega
    have a5:¬nx+1+1=p:=by omega
    refine⟨by omega,by omega,by omega,by omega,n1,by omega,n3,by omega,by omega,?_,⟨true,?_,?_⟩,?_⟩
    all_goals (rw[← dh];simp[go_sem,a1,a2,a3,a4,a5,n1,n2,n3,n4,d1,d3,ga,gs,qk,kG,Fc.cs,aI])
   have gx:h0.get nx=some (bx 24 [.int .i64 3,.bs nn,.int .i64 cm,.int .i64 m,.fz 5 false (cy kids)] false 0):=by
    rw[← dh];simp[go_sem,d5,d6,d11]
   clear dh;refine bT (fun mm st=>∃tm h' ax k V q',st=.mk tm h' ax []∧mm=kids.length-k∧k≤kids.length∧tm.get 3=some (.ptr s 0)∧tm.get 26=some (.fz 5 false (cy kids))∧tm.get 27=some (.int .i64 (kids.length:Int))∧tm.get 28=some (.int .i64 (k:Int))∧mh p q nx h h'∧(q'=q∨nx≤q')∧nT ⟨nn,xk,jh,lN⟩ a p s q' V h' ax∧nx≤ax∧RowKit.Hid (V.length+2 * bn (kids.drop k)≤10000000∧iq nn V0 kids=iq nn V (kids.drop k))) ⟨kids.length,_,_,_,0,V0,q0,rfl,by simp,by simp,?_⟩ ?_
   ·simp-implicitDefEqProofs[go_sem,hB,Cq,hS];refine⟨by omega,Lib.hid ?_⟩;have:=sV;omega
   ·rintro mm st ⟨tm,h',ax,k,V,q',rfl,rfl,hk,t3,t26,t27,t28,rU,qj,lx,dK,hv⟩ J hJ
    refine bt aE _ ?_
    by_cases az:k<kids.length
    ·obtain⟨s1,_,s3⟩:=qD az;obtain⟨aJ,bD⟩:=hv.out;have hd:kids.drop k=kids[k]::kids.drop (k+1):=aj az;rw[hd]at aJ bD;simp only[bn,iq]at aJ bD;have cI:=Bx nn kids[k] V;have HD:=Lib.hid (And.intro (show (gh nn V kids[k]).length+2 * bn (kids.drop (k+1))≤10000000 by omega) bD);have dT:V.length+2 * kids[k].size≤10000000:=by omega
     clear aJ bD cI hd;have zf:=lx.gs;have Oq:=lx.ls;have m1:¬s=ax:=by omega
     simp-implicitDefEqProofs[go_sem,t3,t26,t27,t28,az,zf,m1];have nC:∀x y,aA ax h' ((h'.put ax x).put ax y):=fun x y=>((aA.refl ax h').put (ae _) _).put (ae _) _;refine ih kids[k] V _ _ q' _ (by omega) (by omega) dT (lx.mono (nC _ _) (by omega)) fun g ny q2 b1 b2 b3 b4=>?_;simp-implicitDefEqProofs[go_sem,aB,t28];refine hJ (kids.length-(k+1)) _ (by omega) ⟨_,_,_,k+1,gh nn V kids[k],q2,rfl,rfl,by omega,?_⟩;simp(disch:=omega) [go_sem,t3,t26,t27,aY];exact⟨(rU.ext dK (nC _ _)).trans (by omega) (by omega) b1,by omega,b4,by omega,HD⟩
    ·simp-implicitDefEqProofs[go_sem,t27,t28,az];refine hR _ _ q' rU qj (by omega) ?_;have:=hv.out.2;rw[aq (by omega),iq]at this;rw[this];exact lx
 ·rw[if_neg e3]at hR;have vU:(o=3∧¬nn=xn)∨¬o=3:=by
   by_cases e:o=3
   ·exact .inl ⟨e,fun q=>e3 ⟨e,q⟩⟩
   ·exact .inr e
  have fin:∀h0,h0=h.put nx (some (bx 24 [.int .i64 o,.bs nn,.int .i64 cm,.int .i64 m,.fz 5 false (cy kids)] false 0))→mh p q nx h h0∧nT ⟨xn,xk,jh,lN⟩ a p s q L h0 (nx+1)∧h0.get nx=some (bx 24 [.int .i64 o,.bs nn,.int .i64 cm,.int .i64 m,.fz 5 false (cy kids)] false 0):=by
   rintro _ rfl
   refine⟨?_,nT.mono ⟨la,lp,ls,lq,n1,n2,n3,n4,n5,ga,⟨op,gp,gq⟩,gs⟩ ((aA.refl nx h).put (ae _) _) (by omega),by simp[go_sem]⟩;simp(disch:=omega)only[QF];exact fun _ _ _ _=>rfl
  obtain⟨q0,qk⟩:∃q0,q0=q:=⟨_,rfl⟩;obtain⟨V0,kG⟩:∃V0,V0=L:=⟨_,rfl⟩;have sV:V0.length≤L.length+2:=by rw[kG];omega
  rw[← kG]at hR;have Cq:q0=q∨nx≤q0:=by omega
  have key:∀h0,mh p q nx h h0→nT ⟨xn,xk,jh,lN⟩ a p s q0 V0 h0 (nx+1)→True:=fun _ _ _=>trivial;clear key
  rcases vU with⟨e3,en⟩ |e3
  ·simp-implicitDefEqProofs[go_sem,e3,en,Fm.cs,d1,ga];obtain⟨hB,hS,gx⟩:=fin _ rfl;rw[← qk,← kG]at hS;simp only[e3]at hB hS gx;generalize h.put nx (some (bx 24 [.int .i64 3,.bs nn,.int .i64 cm,.int .i64 m,.fz 5 false (cy kids)] false 0))=h0 at hB hS gx;refine bT (fun mm st=>∃tm h' ax k V q',st=.mk tm h' ax []∧mm=kids.length-k∧k≤kids.length∧tm.get 3=some (.ptr s 0)∧tm.get 26=some (.fz 5 false (cy kids))∧tm.get 27=some (.int .i64 (kids.length:Int))∧tm.get 28=some (.int .i64 (k:Int))∧mh p q nx h h'∧(q'=q∨nx≤q')∧nT ⟨xn,xk,jh,lN⟩ a p s q' V h' ax∧nx≤ax∧RowKit.Hid (V.length+2 * bn (kids.drop k)≤10000000∧iq xn V0 kids=iq xn V (kids.drop k))) ⟨kids.length,_,_,_,0,V0,q0,rfl,by simp,by simp,?_⟩ ?_
   ·simp-implicitDefEqProofs[go_sem,hB,Cq,hS];refine Lib.hid ?_;have:=sV;omega
   ·rintro mm st ⟨tm,h',ax,k,V,q',rfl,rfl,hk,t3,t26,t27,t28,rU,qj,lx,dK,hv⟩ J hJ
    refine bt aE _ ?_
    by_cases az:k<kids.length
    ·obtain⟨s1,_,s3⟩:=qD az;obtain⟨aJ,bD⟩:=hv.out;have hd:kids.drop k=kids[k]::kids.drop (k+1):=aj az;rw[hd]at aJ bD;simp only[bn,iq]at aJ bD;have cI:=Bx xn kids[k] V;have HD:=Lib.hid (And.intro (show (gh xn V kids[k]).length+2 * bn (kids.drop (k+1))≤10000000 by omega) bD);have dT:V.length+2 * kids[k].size≤10000000:=by omega
     clear aJ bD cI hd;have zf:=lx.gs;have Oq:=lx.ls;have m1:¬s=ax:=by omega
     simp-implicitDefEqProofs[go_sem,t3,t26,t27,t28,az,zf,m1];have nC:∀x y,aA ax h' ((h'.put ax x).put ax y):=fun x y=>((aA.refl ax h').put (ae _) _).put (ae _) _;refine ih kids[k] V _ _ q' _ (by omega) (by omega) dT (lx.mono (nC _ _) (by omega)) fun g ny q2 b1 b2 b3 b4=>?_;simp-implicitDefEqProofs[go_sem,aB,t28];refine hJ (kids.length-(k+1)) _ (by omega) ⟨_,_,_,k+1,gh xn V kids[k],q2,rfl,rfl,by omega,?_⟩;simp(disch:=omega) [go_sem,t3,t26,t27,aY];exact⟨(rU.ext dK (nC _ _)).trans (by omega) (by omega) b1,by omega,b4,by omega,HD⟩
    ·simp-implicitDefEqProofs[go_sem,t27,t28,az];refine hR _ _ q' rU qj (by omega) ?_;have:=hv.out.2;rw[aq (by omega),iq]at this;rw[this];exact lx
  ·simp-implicitDefEqProofs[go_sem,e3,Fm.cs];obtain⟨hB,hS,gx⟩:=fin _ rfl;rw[← qk,← kG]at hS;generalize h.put nx (some (bx 24 [.int .i64 o,.bs nn,.int .i64 cm,.int .i64 m,.fz 5 false (cy kids)] false 0))=h0 at hB hS gx;refine bT (fun mm st=>∃tm h' ax k V q',st=.mk tm h' ax []∧mm=kids.length-k∧k≤kids.length∧tm.get 3=some (.ptr s 0)∧tm.get 26=some (.fz 5 false (cy kids))∧tm.get 27=some (.int .i64 (kids.length:Int))∧tm.get 28=some (.int .i64 (k:Int))∧mh p q nx h h'∧(q'=q∨nx≤q')∧nT ⟨xn,xk,jh,lN⟩ a p s q' V h' ax∧nx≤ax∧RowKit.Hid (V.length+2 * bn (kids.drop k)≤10000000∧iq xn V0 kids=iq xn V (kids.drop k))) ⟨kids.length,_,_,_,0,V0,q0,rfl,by simp,by simp,?_⟩ ?_
   ·simp-implicitDefEqProofs[go_sem,hB,Cq,hS];refine Lib.hid ?_;have:=sV;omega
   ·rintro mm st ⟨tm,h',ax,k,V,q',rfl,rfl,hk,t3,t26,t27,t28,rU,qj,lx,dK,hv⟩ J hJ
    refine bt aE _ ?_
    by_cases az:k<kids.length
    ·obtain⟨s1,_,s3⟩:=qD az;obtain⟨aJ,bD⟩:=hv.out;have hd:kids.drop k=kids[k]::kids.drop (k+1):=aj az;rw[hd]at aJ bD;simp only[bn,iq]at aJ bD;have cI:=Bx xn kids[k] V;have HD:=Lib.hid (And.intro (show (gh xn V kids[k]).length+2 * bn (kids.drop (k+1))≤10000000 by omega) bD);have dT:V.length+2 * kids[k].size≤10000000:=by omega
     clear aJ bD cI hd;have zf:=lx.gs;have Oq:=lx.ls;have m1:¬s=ax:=by omega
     simp-implicitDefEqProofs[go_sem,t3,t26,t27,t28,az,zf,m1];have nC:∀x y,aA ax h' ((h'.put ax x).put ax y):=fun x y=>((aA.refl ax h').put (ae _) _).put (ae _) _;refine ih kids[k] V _ _ q' _ (by omega) (by omega) dT (lx.mono (nC _ _) (by omega)) fun g ny q2 b1 b2 b3 b4=>?_;simp-implicitDefEqProofs[go_sem,aB,t28];refine hJ (kids.length-(k+1)) _ (by omega) ⟨_,_,_,k+1,gh xn V kids[k],q2,rfl,rfl,by omega,?_⟩;simp(disch:=omega) [go_sem,t3,t26,t27,aY];exact⟨(rU.ext dK (nC _ _)).trans (by omega) (by omega) b1,by omega,b4,by omega,HD⟩
    ·simp-implicitDefEqProofs[go_sem,t27,t28,az];refine hR _ _ q' rU qj (by omega) ?_;have:=hv.out.2;rw[aq (by omega),iq]at this;rw[this];exact lx
end
end Go.Ev
namespace Go.Ev
open Go.Proofs Go.RowKit
noncomputable section
theorem zHf (b o:Nat) (lo hi x:Int)(W:World)(h2:W.cell? ⟨b,o+2,none⟩=some (.int .i64 lo))(h3:W.cell? ⟨b,o+3,none⟩=some (.int .i64 hi)):
  Calls Tryz.prog 202 #[.int .i64 x,.pointer (some ⟨b,o,none⟩)] W fun e w'=>e=.returned (.bool (decide (x<lo) || decide (hi<x)))∧w'=W:=by
 go_enter Tryz.func202,Tryz.ntmps202
 go_wp2
 ·go_ret
  rename_i hx;exact⟨by simp,rfl⟩
 ·go_ret
  exact⟨rfl,rfl⟩
open Go.Sort in
theorem XB {W:World}{b o:Nat}{C:Array Value}{t:TypeId}{fr:Nat×Nat}{V:Value}(h:W.heap[b]?=some (.cells C t fr))(hv:C[o]?=some V):W.cell? ⟨b,o,none⟩=some V:=by
 simp[World.cell?,h,hv]
theorem zOq:cx.ft.get 201=some Tryz.f201:=aT (by decide) (by kernel_rfl)
theorem zH9:cx.ft.get 203=some Tryz.f203:=aT (by decide) (by kernel_rfl)
open Go.Sort in
theorem zG4 (f:Fc)(L:List Int)(h:Tr ABlk) (nx q cp esz:Nat)(opn bu:Bool)(hq:h.get q=some (bx 3 (aI L) bu esz))(hl:L.length<1000000000)(R:AV→Tr ABlk→Nat→Prop)
  (hR:R (.sl q 0 (L.filter fun x=>!gN f x).length cp opn) (h.put q (some (bx 3 (aI ((L.filter fun x=>!gN f x)++List.replicate (L.length-(L.filter fun x=>!gN f x).length) 0)) bu esz))) nx):aN Tryz.prog cx 201 [.sl q 0 L.length cp opn,.func 202 [] [.ip f.cs]] h nx R:=by
 refine QW aE zOq (fun x:Int=>AV.int .i64 x) (Value.int .i64) (fun σ x V=>Qw σ x V) (l:=L) (rest:=[.func 202 [] [.ip f.cs]]) hq (by omega) (fun d u=>d=(L.filter fun x=>!gN f x)++List.replicate (L.length-(L.filter fun x=>!gN f x).length) 0∧u=.sl q 0 (L.filter fun x=>!gN f x).length cp opn) ?_ ?_
 ·intro σ w RA b cap hk pR hH hb zw eJ aX;rw[List.drop_zero,List.take_length]at hH;simp only[aC,av]at pR;obtain⟨V,RA',rfl,⟨A,Cc,rfl,rfl,V1,L1,rfl,⟨b0,o0,C,LL,rfl,hi,Ex,Ie⟩,rfl⟩,rfl⟩:=pR;obtain⟨⟨t,fr,aF⟩,Ai⟩:=hk.imm b0 C hi;have aQ:b0≠b:=fun e=>Ai q _ hq (e ▸ zw);have fC:b0<w.heap.size:=Bq aF;have kI:C[o0+2]?=some (.int .i64 f.lo)∧C[o0+3]?=some (.int .i64 f.hi):=by
   simp only[Fc.cs,aC,av]at Ex;obtain⟨W0,L0,rfl,e0,W1,L1,rfl,e1,W2,L2,rfl,e2,W3,L3,rfl,e3,rfl⟩:=Ex;subst e2;subst e3;have h2:=congrArg (fun l:List Value=>l[2]?) Ie;have h3:=congrArg (fun l:List Value=>l[3]?) Ie;simp[List.getElem?_drop]at h2 h3;exact⟨h2.symm,h3.symm⟩
  have key:∀(W:World),W.heap[b0]?=w.heap[b0]?→∀x:Int,Calls Tryz.prog 202 #[.int .i64 x,.pointer (some ⟨b0,o0,none⟩)] W fun e w'=>e=.returned (.bool (gN f x))∧w'=W:=by
   intro W hW x;rw[aF]at hW;exact zHf b0 o0 f.lo f.hi x W (XB hW (by simpa using kI.1)) (XB hW (by simpa using kI.2))
  have hc:=AnyE.slices_DeleteFunc Tryz.delete201 (Value.int .i64) (fun _=>rfl) (gN f) 202 #[.pointer (some ⟨b0,o0,none⟩)] ?_ 0 ?_ b 0 cap L.toArray w ?_ ?_ hH (by simp;omega) (by simpa using aX)
  ·rw[List.size_toArray]at hc;refine hc.mono ?_
   rintro e x ⟨rfl,n,rfl⟩
   refine⟨_,.sl q 0 (L.filter fun x=>!gN f x).length cp opn,n,#[],(L.filter fun x=>!gN f x)++List.replicate (L.length-(L.filter fun x=>!gN f x).length) 0,rfl,?_,?_,⟨rfl,rfl⟩,by simp⟩
   ·simp only[av];have:=List.length_filter_le (fun x=>!gN f x) L;exact⟨b,zw,by rw[eJ],by rw[← eJ];omega⟩
   ·have:=List.length_filter_le (fun x=>!gN f x) L;simp;omega
  ·exact(aE.ft 202 _ zSk).2
  ·intro w;exact Tryz.zeroValue3 w
  ·intro W x hB;refine(key W (hB.block b0 fC) x).mono ?_
   rintro e w' ⟨rfl,rfl⟩
   exact⟨rfl,0,rfl⟩
  ·intro n os dk x hdk;refine(key _ ?_ x).mono ?_
   ·unfold sortWorld;rw[heap_grow_old _ _ (by simpa[putRow,mapBlock,Go.Sort.ahead]using fC)];simp only[putRow,mapBlock,Go.Sort.ahead,Array.getElem?_modify];rw[if_neg (fun e=>aQ e.symm)]
   ·rintro e w' ⟨rfl,rfl⟩
    exact⟨rfl,0,rfl⟩
 ·rintro d u _ ⟨rfl,rfl⟩
  have e1:L.take 0++(((L.filter fun x=>!gN f x)++List.replicate (L.length-(L.filter fun x=>!gN f x).length) 0)++L.drop (0+L.length))=(L.filter fun x=>!gN f x)++List.replicate (L.length-(L.filter fun x=>!gN f x).length) 0:=by simp
  rw[e1];exact hR
def fy (L:List Int):List Int:=Lib.compact L
theorem SB (L:List Int):(fy L).length≤L.length:=by
 have:=List.length_filter_le (Lib.keeps L.toArray) (List.range L.length);simpa[fy,Lib.compact,Lib.compactUpTo]using this
open Go.Sort in
theorem Yd (L r:List Int)(h:Tr ABlk) (nx q cp esz:Nat)(opn bu:Bool)(hq:h.get q=some (bx 3 (aI (L++r)) bu esz))(hl:L.length<1000000000)(R:AV→Tr ABlk→Nat→Prop)
  (hR:∀r',R (.sl q 0 (fy L).length cp opn) (h.put q (some (bx 3 (aI (fy L++r')) bu esz))) nx):aN Tryz.prog cx 203 [.sl q 0 L.length cp opn] h nx R:=by
 refine QW aE zH9 (fun x:Int=>AV.int .i64 x) (Value.int .i64) (fun σ x V=>Qw σ x V) (l:=L++r) (rest:=[]) hq (by simp) (fun d u=>d=fy L++List.replicate (L.length-(fy L).length) 0∧u=.sl q 0 (fy L).length cp opn) ?_ ?_
 ·intro σ w RA b cap hk pR hH hb zw eJ aX;simp only[aC]at pR;subst pR;rw[List.drop_zero,List.take_left]at hH;refine(Any.slices_Compact_int Tryz.lays2n20 b 0 cap L w hH (by omega) aX).mono ?_
  rintro e x ⟨rfl,n,rfl⟩
  have hle:=SB L;refine⟨_,.sl q 0 (fy L).length cp opn,n,#[],fy L++List.replicate (L.length-(fy L).length) 0,rfl,?_,by simp;omega,⟨rfl,rfl⟩,by simp[fy]⟩;simp only[av];exact⟨b,zw,by rw[eJ];rfl,by rw[← eJ];omega⟩
 ·rintro d u _ ⟨rfl,rfl⟩
  have e1:(L++r).take 0++((fy L++List.replicate (L.length-(fy L).length) 0)++(L++r).drop (0+L.length))=fy L++(List.replicate (L.length-(fy L).length) 0++r):=by simp
  rw[e1];exact hR _
end
end Go.Ev
namespace Go.Ev
open Go.Proofs Go.RowKit
noncomputable section
attribute [-go_sem] dw bP ep
theorem zLi:cx.ft.get 143=some Tryz.f143:=aT (by decide) (by kernel_rfl)
def fj (f:Fm)(x:Fc):List Int:=fy ((dq (gh x.name [x.lo] f)).filter fun y=>!gN x y)
theorem zyu {g:Tr ABlk}{nx b:Nat}{s r:List Int}{cp esz:Nat}{op opn:Bool}(hb:nx≤b)(hg:g.get b=some (bx 3 (aI (s++r)) opn esz)):Fz g nx (.sl b 0 s.length cp op) (.fz 1 false (aI s)):=
 .slz b 0 _ cp op 3 _ _ opn esz 1 (aI s) (aI s) (aI s) hb hg (by simp[aI]) (fun j hj=>by
  rw[Nat.zero_add,fx];have eK:j<s.length:=by simpa[aI]using hj
  simp only[aI,List.map_append];rw[List.getElem?_append_left (by simpa using eK)]) (ct.same _ (uX s)) (KY s) (Jt s)
theorem zGv (f:Fm)(x:Fc)(hf:f.size≤1000000):ay Tryz.prog cx 143 [.agg f.cs,.agg x.cs] (.fz 1 false (aI (fj f x))):=by
 refine ay.mk fun h nx R hR=>aV (sz:=21) (rs:=[.tmp 4]) aE zLi rfl rfl rfl (by simp) ?_;obtain⟨xn,xk,jh,lN⟩:=x;obtain⟨ez,bU⟩:∃l,l=f.cs:=⟨_,rfl⟩;have nD:ez.length=5:=by rw[bU];cases f;rfl
 rw[← bU];have z1:¬nx+1=nx+1+1:=by omega
 have z2:¬nx=nx+2+1:=by omega
 have z3:¬nx=nx+2+1+1:=by omega
 have z4:¬nx=nx+1+1:=by omega
 have cA:ez.take 5=ez:=ar (by omega);simp-implicitDefEqProofs[go_sem,Fc.cs,aG,nD,z2,z3,z4,cA];generalize dh:Tr.put _ (nx+2+1+1) (some (bx 228 [AV.func 199 _ _] false 0))=h0;have E0:aA nx h h0:=by
  rw[← dh];simp(disch:=omega)only[aL];exact aA.refl _ _
 have hS:nT ⟨xn,xk,jh,lN⟩ (nx+1) (nx+3) (nx+4) (nx+2) [jh] h0 (nx+5):=by
  refine⟨by omega,by omega,by omega,by omega,by omega,by omega,by omega,by omega,by omega,?_,⟨false,?_,?_⟩,?_⟩
  all_goals (rw[← dh];simp(disch:=omega) [go_sem,Fc.cs,aI])
 clear dh;rw[bU];refine zFx ⟨xn,xk,jh,lN⟩ (nx+1) (nx+3) (nx+4) f.size f [jh] h0 (nx+5) (nx+2) _ (ae _) hf (by simp;omega) hS fun g ny q c1 c2 c3 c4=>?_;have cI:=Bx xn f [jh];have aH:fj f ⟨xn,xk,jh,lN⟩=fy ((dq (gh xn [jh] f)).filter fun y=>!gN ⟨xn,xk,jh,lN⟩ y):=rfl;rw[aH]at hR;have E1:aA nx h g:=fun k hk=>by rw[c1 k (by omega) (by omega) (by omega)];exact E0 k hk
 obtain⟨_,_,_,lq,_,m1,_,_,m2,ga,⟨op,gp,gq⟩,_⟩:=c4;simp only at gp gq cI;generalize gh xn [jh] f=L1 at *;generalize (if op then 0 else L1.length)=cp at gp;generalize (if op then 1 else 0)=esz at gq;clear c1 E0 hS;simp only[List.length_cons,List.length_nil]at cI;have IE:nx≤q:=by omega
 simp-implicitDefEqProofs[go_sem,aB,gp];refine zzk L1 g ny q cp esz op op gq (by omega) _ ?_;have k1:¬nx+3=q:=by omega
 simp-implicitDefEqProofs[go_sem,aB,gp,k1];have kP:=Hk L1;have hga:(g.put q (some (bx 3 (aI (dq L1)) op esz))).get (nx+1)=some (bx 65 [.bs xn,.int .i64 xk,.int .i64 jh,.int .i64 lN] false 0):=by
  simp[go_sem,show ¬nx+1=q by omega];exact ga
 refine DN (fun a=>a∈[nx+1]) (iy.kill _) (args':=[.sl q 0 L1.length cp op,.func 202 [] [.ip (Fc.cs ⟨xn,xk,jh,lN⟩)]]) ?_ ?_
 ·refine .cons _ _ _ _ (.same _) (.cons _ _ _ _ (.func _ _ _ _ _ .nil (.cons _ _ _ _ (.pin _ _ 65 4 _ false 0 [.bs xn,.int .i64 xk,.int .i64 jh,.int .i64 lN] _ (by simp) hga (by simp) (fun j hj=>by rw[Nat.zero_add,fx]) (cW.same _)) .nil)) .nil)
 have vt:(jo (g.put q (some (bx 3 (aI (dq L1)) op esz))) [nx+1]).get q=some (bx 3 (aI (dq L1)) op esz):=by
  rw[oK (by simp;omega)];simp[go_sem]
 rw[← kP];refine zG4 ⟨xn,xk,jh,lN⟩ (dq L1) _ ny q cp esz op op vt (by omega) _ ?_;have Aj:∀B,((jo (g.put q (some (bx 3 (aI (dq L1)) op esz))) [nx+1]).put q B).get (nx+3)=some (bx 40 [.sl q 0 L1.length cp op] false 0):=by
  intro B;rw[Tr.get_put,if_neg k1,oK (by simp),Tr.get_put,if_neg k1];exact gp
 have E2:∀B,aA nx h ((jo (g.put q (some (bx 3 (aI (dq L1)) op esz))) [nx+1]).put q B):=by
  intro B k hk;rw[Tr.get_put,if_neg (by omega),oK (by simp;omega),Tr.get_put,if_neg (by omega)];exact E1 k hk
 have gE:=List.length_filter_le (fun y=>!gN ⟨xn,xk,jh,lN⟩ y) (dq L1);generalize rY:(dq L1).filter (fun y=>!gN ⟨xn,xk,jh,lN⟩ y)=L2 at *;generalize List.replicate ((dq L1).length-L2.length) (0:Int)=r2 at *;have LQ:((jo (g.put q (some (bx 3 (aI (dq L1)) op esz))) [nx+1]).put q (some (bx 3 (aI (L2++r2)) op esz))).get q=some (bx 3 (aI (L2++r2)) op esz):=by simp[go_sem]
 have NY:=Aj (some (bx 3 (aI (L2++r2)) op esz));have E3:=E2 (some (bx 3 (aI (L2++r2)) op esz));generalize (jo (g.put q (some (bx 3 (aI (dq L1)) op esz))) [nx+1]).put q (some (bx 3 (aI (L2++r2)) op esz))=g5 at *;simp-implicitDefEqProofs[go_sem,aB,NY,aG];refine Yd L2 r2 _ ny q cp esz op op (by simp[go_sem,show ¬q=nx+3 by omega,LQ]) (by omega) _ fun r'=>?_;simp-implicitDefEqProofs[go_sem,aB];refine hR _ _ _ ?_ (zyu (opn:=op) (esz:=esz) (r:=r') IE (by simp[go_sem]));simp(disch:=omega)only[aL];exact E3
end
end Go.Ev
namespace Go.Ev
open Go.Proofs Go.RowKit
noncomputable section
mutual
def iw:Fm→Prop
 |.mk o n c m kids=>cS o∧cS c∧cS m∧n.size≤1000∧(o=5→kids≠[])∧jR kids
def jR:List Fm→Prop
 |[]=>True
 |f::l=>iw f∧jR l
end
theorem zzn:∀{l:List Fm},jR l→∀f∈l,iw f
 |[],_,f,h=>by cases h
 |x::l,hl,f,h=>by
  rcases List.mem_cons.1 h with rfl |h
  ·exact hl.1
  ·exact zzn hl.2 f h
theorem ZB:∀{l:List Fm},(∀f∈l,iw f)→jR l
 |[],_=>trivial
 |x::l,h=>⟨h x ao,ZB fun f hf=>h f (ak _ hf)⟩
mutual
theorem iw.I:∀{f:Fm},iw f→DV f
 |.mk o n c m kids,h=>⟨h.1,h.2.1,h.2.2.1,jR.I h.2.2.2.2.2⟩
theorem jR.I:∀{l:List Fm},jR l→JM l
 |[],_=>trivial
 |f::l,h=>⟨iw.I h.1,jR.I h.2⟩
end
mutual
theorem iw.notOk:∀{f:Fm},iw f→notOk f
 |.mk o n c m kids,h=>⟨h.2.2.2.2.1,jR.notOk h.2.2.2.2.2⟩
theorem jR.notOk:∀{l:List Fm},jR l→JF l
 |[],_=>trivial
 |f::l,h=>⟨iw.notOk h.1,jR.notOk h.2⟩
end
mutual
theorem iw.spell:∀{f:Fm},iw f→(iv f).length≤1100 * f.size
 |.mk o n c m kids,h=>by
  obtain⟨h1,h2,h3,h4,_,h6⟩:=h;have a1:=wK o h1;have a2:=wK c h2;have a3:=wK m h3;have a4:=jR.spell h6;simp[iv,Fm.size];omega
theorem jR.spell:∀{l:List Fm},jR l→(gj l).length≤1100 * bn l
 |[],_=>by simp[gj]
 |f::l,h=>by
  have a1:=iw.spell h.1;have a2:=jR.spell h.2;simp[gj,bn];omega
end
theorem re {n:Int}(h1:0≤n)(h2:n≤10):cS n:=⟨by omega,by omega⟩
theorem Y4 (b:Bool):iw (jV b)∧(jV b).size=1:=by
 cases b <;> exact⟨⟨re (by simp) (by simp),re (by simp) (by simp),re (by simp) (by simp),by simp,by simp,trivial⟩,rfl⟩
theorem Fm.size_pos (f:Fm):1≤f.size:=by cases f;simp[Fm.size]
theorem zJy (l m:List Fm):bn (l++m)=bn l+bn m:=by
 induction l with
 |nil=>simp[bn]
 |cons x l ih=>simp[bn,ih];omega
theorem Ki {o u z:Int}(ho:cS o)(h5:o≠5)(hu:0≤u∧u≤2):∀(l acc:List Fm),jR acc→jR l→iw (eR o u z acc l)∧(eR o u z acc l).size≤1+bn acc+bn l
 |[],acc,ha,_=>by
  match acc,ha with
  |[],_=>
   have e:eR o u z [] []=.mk u .empty 0 0 []:=rfl;rw[e];exact⟨⟨re hu.1 (by omega),re (by simp) (by simp),re (by simp) (by simp),by simp,by omega,trivial⟩,by simp[Fm.size,bn]⟩
  |[k],ha=>
   have e:eR o u z [k] []=k:=rfl;rw[e];exact⟨ha.1,by simp[bn]⟩
  |k1::k2::ks,ha=>
   have e:eR o u z (k1::k2::ks) []=.mk o .empty 0 0 (k1::k2::ks):=rfl;rw[e];exact⟨⟨ho,re (by simp) (by simp),re (by simp) (by simp),by simp,fun e=>absurd e h5,ha⟩,by simp[Fm.size,bn]⟩
 |k::l,acc,ha,hl=>by
  rw[eR]
  by_cases e1:k.op=z
  ·rw[if_pos e1];exact⟨hl.1,by simp[bn];omega⟩
  ·rw[if_neg e1]
   by_cases e2:k.op=u
   ·rw[if_pos e2];obtain⟨a1,a2⟩:=Ki (z:=z) ho h5 hu l acc ha hl.2;exact⟨a1,by simp[bn];omega⟩
   ·rw[if_neg e2];obtain⟨a1,a2⟩:=Ki (z:=z) ho h5 hu l (acc++[k]) (ZB fun f hf=>by
     rcases List.mem_append.1 hf with q |q
     ·exact zzn ha f q
     ·simp at q;subst q;exact hl.1) hl.2
    refine⟨a1,?_⟩;rw[zJy]at a2;simp[bn]at a2 ⊢;omega
mutual
theorem BJ (nm:ByteArray) (v:Int):∀{f:Fm},iw f→iw (bQ nm v f)∧(bQ nm v f).size≤f.size
 |.mk o n c m kids,h=>by
  have hp:=Fm.size_pos (.mk o n c m kids);rw[bQ]
  by_cases e3:o=3
  ·rw[if_pos e3]
   by_cases en:n=nm
   ·rw[if_pos en];obtain⟨a1,a2⟩:=Y4 (nr v c m);exact⟨a1,by omega⟩
   ·rw[if_neg en];exact⟨h,ae _⟩
  ·rw[if_neg e3];obtain⟨b1,b2⟩:=Xh nm v h.2.2.2.2.2
   by_cases e5:o=5
   ·rw[if_pos e5]
    match hk:iY nm v kids with
    |[]=>exact⟨h,ae _⟩
    |k::ks=>
     rw[hk]at b1 b2;simp only
     by_cases ek:k.op=1∨k.op=2
     ·rw[if_pos ek];obtain⟨a1,a2⟩:=Y4 (decide (k.op=2));exact⟨a1,by omega⟩
     ·rw[if_neg ek];refine⟨⟨re (by simp) (by simp),re (by simp) (by simp),re (by simp) (by simp),by simp,by simp,b1.1,trivial⟩,?_⟩;simp[Fm.size,bn]at b2 ⊢;omega
   ·rw[if_neg e5]
    by_cases e6:o=6
    ·rw[if_pos e6];obtain⟨a1,a2⟩:=Ki (z:=2) h.1 e5 (u:=1) (by simp) (iY nm v kids) [] trivial b1;refine⟨a1,?_⟩;simp[bn]at a2;simp[Fm.size];omega
    ·rw[if_neg e6]
     by_cases e7:o=7
     ·rw[if_pos e7];obtain⟨a1,a2⟩:=Ki (z:=1) h.1 e5 (u:=2) (by simp) (iY nm v kids) [] trivial b1;refine⟨a1,?_⟩;simp[bn]at a2;simp[Fm.size];omega
     ·rw[if_neg e7];exact⟨h,ae _⟩
theorem Xh (nm:ByteArray) (v:Int):∀{l:List Fm},jR l→jR (iY nm v l)∧bn (iY nm v l)≤bn l
 |[],_=>⟨trivial,ae _⟩
 |f::l,h=>by
  obtain⟨a1,a2⟩:=BJ nm v h.1;obtain⟨b1,b2⟩:=Xh nm v h.2;rw[iY];exact⟨⟨a1,b1⟩,by simp[bn];omega⟩
end
mutual
theorem Pp (nm:ByteArray) (y:Int):∀(f:Fm)(L:List Int),y∈L→y∈gh nm L f
 |.mk o n c m kids,L,h=>by
  rw[gh];refine Pt nm y kids _ ?_;split
  ·exact List.mem_append_left _ h
  ·exact h
theorem Pt (nm:ByteArray) (y:Int):∀(l:List Fm)(L:List Int),y∈L→y∈iq nm L l
 |[],L,h=>by rw[iq];exact h
 |f::l,L,h=>by rw[iq];exact Pt nm y l _ (Pp nm y f L h)
end
theorem zRj (d:Array Int):Lib.keeps d 0=true:=Lib.keeps_lt_one d 0 (by omega)
theorem zys {L:List Int}(h:L≠[]):fy L≠[]:=by
 intro e;have h1:(fy L).length=0:=by rw[e];rfl
 unfold fy Lib.compact Lib.compactUpTo at h1;rw[List.length_map]at h1;have h2:(0:Nat)∈(List.range L.length).filter (Lib.keeps L.toArray):=by
  rw[List.mem_filter];refine⟨List.mem_range.2 (List.length_pos_iff.2 h),zRj _⟩
 have:=List.length_pos_of_mem h2;omega
theorem Ps (f:Fm)(x:Fc)(hx:x.lo≤x.hi):fj f x≠[]:=by
 apply zys;have h1:x.lo∈gh x.name [x.lo] f:=Pp _ _ f _ (by simp);have h2:x.lo∈dq (gh x.name [x.lo] f):=by
  unfold dq;exact List.mem_mergeSort.2 h1
 have h3:x.lo∈(dq (gh x.name [x.lo] f)).filter fun y=>!gN x y:=by
  rw[List.mem_filter];refine⟨h2,?_⟩;simp[gN];omega
 exact List.ne_nil_of_mem h3
theorem zz9 {L:List Int}{y:Int}(h:y∈fy L):y∈L:=by
 unfold fy Lib.compact Lib.compactUpTo at h;obtain⟨k,hk,rfl⟩:=List.mem_map.1 h;have:=List.mem_range.1 (List.mem_filter.1 hk).1;rw[getElem!_pos _ k (by simpa using this)];simp
theorem XH (f:Fm)(x:Fc):∀y∈fj f x,x.lo≤y∧y≤x.hi:=by
 intro y hy;have:=(List.mem_filter.1 (zz9 hy)).2;simp[gN]at this;omega
theorem Sx (f:Fm)(x:Fc):(fj f x).length≤1+2 * f.size:=by
 have h1:=SB ((dq (gh x.name [x.lo] f)).filter fun y=>!gN x y);have h2:=List.length_filter_le (fun y=>!gN x y) (dq (gh x.name [x.lo] f));have h3:=Hk (gh x.name [x.lo] f);have h4:=Bx x.name f [x.lo];simp only[List.length_cons,List.length_nil]at h4;unfold fj;omega
end
end Go.Ev
