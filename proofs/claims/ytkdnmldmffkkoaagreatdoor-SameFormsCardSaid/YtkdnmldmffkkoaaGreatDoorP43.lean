/- Texts. -/
import Derived.Test.YtkdnmldmffkkoaaGreatDoorP33
set_option linter.unusedSimpArgs false
set_option linter.unusedVariables false
set_option maxRecDepth 100000
set_option maxHeartbeats 8000000
namespace Go.Ev
open Go.Proofs
noncomputable section
attribute [-go_sem] dw bP
theorem yij:cx.ft.get 19=some Tryz.f19:=aT (by decide) (by kernel_rfl)
open Classical in
theorem VU (full:Bool)(l:List ByteArray)(x:ByteArray)(hl:l.length≤1000000000):ay Tryz.prog cx 19 [.fz 1 full (bf l),.bs x] (.bool (decide (x∈l))):=by
 refine ay.mk fun h nx R hR=>aV (sz:=18) (rs:=[.tmp 4]) aE yij rfl rfl rfl (by simp) ?_;simp-implicitDefEqProofs[go_sem];refine bT (fun mm st=>∃tm k,st=.mk tm h nx []∧mm=l.length-k∧k≤l.length∧tm.get 0=some (.fz 1 full (bf l))∧tm.get 1=some (.bs x)∧tm.get 5=some (.int .i64 (k:Int))∧RowKit.Hid (¬x∈l.take k)) ⟨l.length,_,0,rfl,by simp,by simp,?_⟩ ?_
 ·simp-implicitDefEqProofs[go_sem];exact Lib.hid trivial
 ·rintro mm st ⟨tm,k,rfl,rfl,hk,t0,t1,t5,hv⟩ J hJ
  refine bt aE _ ?_
  by_cases az:k<l.length
  ·simp-implicitDefEqProofs[go_sem,t0,t1,t5,az];refine BI (fun hb=>?_) (fun hb=>?_)
   ·simp at hb;simp-implicitDefEqProofs[go_sem];refine hR _ _ _ (aA.refl _ _) (Fz.eq rfl ?_);have:x∈l:=hb ▸ ai az;simp[this]
   ·simp at hb;simp-implicitDefEqProofs[go_sem,t0,t1,t5];refine hJ (l.length-(k+1)) _ (by omega) ⟨_,k+1,rfl,rfl,by omega,?_⟩;simp(disch:=omega) [go_sem,t0,t1,t5,aY];refine Lib.hid ?_;rw[List.take_succ_eq_append_getElem az];intro hm
    rcases List.mem_append.1 hm with hm |hm
    ·exact hv.out hm
    ·simp at hm;exact hb hm.symm
  ·have:=hv.out;rw[ar (by omega)]at this;simp-implicitDefEqProofs[go_sem,t0,t1,t5,az];refine hR _ _ _ (aA.refl _ _) (Fz.eq rfl ?_);simp[this]
end
end Go.Ev
namespace Go.Ev
open Go.Proofs Go.RowKit
noncomputable section
attribute [-go_sem] dw bP ep gH
theorem zu9 {g:Tr ABlk}{nx i esz:Nat}{a b:Pv}{T:List AV}{opn:Bool}(hb:nx≤i)(hg:g.get i=some (bx 30 (a.cs++(b.cs++T)) opn esz)):Fz g nx (.sl i 0 2 2 false) (.fz 23 false (rG [a,b])):=
 .slz i 0 2 2 false 30 _ _ opn esz 23 (a.cs++b.cs) (a.cs++b.cs) (rG [a,b]) hb hg (by simp) (fun j hj=>by
  rw[Nat.zero_add,fx,← List.append_assoc,List.getElem?_append_left hj]) (ct.same _ (xq _ _ a.cs_plain b.cs_plain)) ⟨a.cs,b.cs,rfl,rfl,a.cs_len,.inl rfl,b.cs,[],by simp,rfl,b.cs_len,.inl rfl,rfl⟩ rfl
theorem ft4:cx.ft.get 4=some Tryz.f4:=aT (by decide) (by kernel_rfl)
def ym (a:Pv):Pv:={ a with except:=a.except.reverse }
theorem yjs (a b:Pv):ew (ym a) b↔ew a b:=by
 unfold ew ym;simp
theorem yjr (a b:Pv)(d:List Fc):cG (ym a) b d=cG a b d:=by
 have h:∀D,lV (ym a) b D=lV a b D:=fun D=>by
  have e:ew (ym a) b=ew a b:=propext (yjs a b);unfold lV;rw[e];rfl
 unfold cG;simp only[h];rfl
theorem yig (a b:Pv)(d:List Fc)(he:(cG a b d).e≠0):(cG a b d).k=0∧(cG a b d).c=[]:=by
 have hz:∀D,(lV a b D).e≠0→(lV a b D).k=0∧(lV a b D).c=[]:=by
  intro D;unfold lV
  repeat' split
  all_goals first
   |(intro;exact⟨rfl,rfl⟩)
   |(intro e;exact absurd rfl e)
 unfold cG at he ⊢;split at he
 ·rename_i h;rw[if_pos h];exact⟨rfl,rfl⟩
 ·rename_i h0;rw[if_neg h0];split at he
  ·rename_i h;rw[if_pos h];exact⟨rfl,rfl⟩
  ·rename_i h1;rw[if_neg h1];split at he
   ·rename_i h;rw[if_pos h];exact⟨rfl,rfl⟩
   ·rename_i h2;rw[if_neg h2];cases hm:np d (dR a.when_++dR b.when_) [] d with
    |none=>exact⟨rfl,rfl⟩
    |some D=>rw[hm]at he;exact hz D he
theorem yih (a b:Pv)(d:List Fc)(he:(cG a b d).e=0):(cG a b d).k=1↔¬ew a b:=by
 have hz:∀D,(lV a b D).e=0→((lV a b D).k=1↔¬ew a b):=by
  intro D;unfold lV
  by_cases h1:60<D.length
  ·rw[if_pos h1];intro e;cases e
  ·rw[if_neg h1]
   by_cases hf:ew a b
   ·rw[if_neg (fun q=>q hf)]
    repeat' split
    all_goals intro _;simp[hf]
   ·rw[if_pos hf];intro _;simp[hf]
 unfold cG at he ⊢;split at he
 ·cases he
 ·rename_i h0;rw[if_neg h0];split at he
  ·rename_i h;exact absurd he h
  ·rename_i h1;rw[if_neg h1];split at he
   ·rename_i h;exact absurd he h
   ·rename_i h2;rw[if_neg h2];cases hm:np d (dR a.when_++dR b.when_) [] d with
    |none=>rw[hm]at he;cases he
    |some D=>rw[hm]at he;exact hz D he
def wt (a b:Pv):Prop:=a.id=b.id∧a.rank=b.rank∧a.kind=b.kind∧a.name=b.name∧a.value=b.value
theorem yif (a b:Pv):ew a b↔wt a b∧∀x∈a.except++b.except,(x∈a.except↔x∈b.except):=by
 unfold ew wt;constructor
 ·rintro⟨h1,h2,h3,h4,h5,h6⟩
  exact⟨⟨h1,h2,h3,h4,h5⟩,fun x _=>h6 x⟩
 ·rintro⟨⟨h1,h2,h3,h4,h5⟩,h6⟩
  refine⟨h1,h2,h3,h4,h5,fun x=>?_⟩
  by_cases hx:x∈a.except++b.except
  ·exact h6 x hx
  ·simp at hx;simp[hx]
open Classical in
def ph (a b:Pv)(l:List ByteArray):Bool:=decide (wt a b∧∀x∈l,(x∈a.except↔x∈b.except))
open Classical in
theorem yjj (a b:Pv):ph a b []=decide (wt a b):=by simp[ph]
open Classical in
theorem yjl {a b:Pv}{l:List ByteArray}(h:ph a b l=true)(x:ByteArray):ph a b (l++[x])=decide (x∈a.except↔x∈b.except):=by
 simp only[ph,decide_eq_true_eq]at h;unfold ph
 congr 1
 apply propext;constructor
 ·intro q;exact q.2 x (by simp)
 ·intro q;refine⟨h.1,fun y hy=>?_⟩
  rcases List.mem_append.1 hy with hy |hy
  ·exact h.2 y hy
  ·simp at hy;rw[hy];exact q
theorem yjk {a b:Pv}{l:List ByteArray}(h:ph a b l=false)(x:ByteArray):ph a b (l++[x])=false:=by
 simp only[ph,decide_eq_false_iff_not]at h ⊢;intro q;exact h ⟨q.1,fun y hy=>q.2 y (List.mem_append_left _ hy)⟩
open Classical in
theorem yji (a b:Pv):ph a b (a.except++b.except)=decide (ew a b):=by
 unfold ph
 congr 1
 exact propext (yif a b).symm
theorem yi7 (a b:Fm)(d:List Fc):(kE a b d).c.length≤d.length:=by
 unfold kE HA;have h1:=Lr (cM d (bz a)) (cM d (bz b)) d;have h2:=Lr (cM d (bz b)) (cM d (bz a)) d
 repeat' split
 all_goals first
  |exact Nat.zero_le _
  |exact h1
  |exact h2
  |skip
 all_goals (show List.length (ite _ _ _)≤_;split;exact h2;exact h1)
theorem yib (a b:Pv)(d:List Fc):(cG a b d).c.length≤60:=by
 have hz:∀D,(lV a b D).c.length≤60:=by
  intro D;unfold lV
  by_cases h1:60<D.length
  ·rw[if_pos h1];exact Nat.zero_le _
  ·rw[if_neg h1];have h2:=yi7 a.when_ b.when_ D
   repeat' split
   all_goals first
    |exact Nat.zero_le _
    |(show List.length (kE a.when_ b.when_ D).c≤60;omega)
 unfold cG
 repeat' split
 all_goals first
  |exact Nat.zero_le _
  |exact hz _
theorem yjq (a:Pv):(ym a).cs=aG a.cs 10 [.fz 1 false (bf a.except.reverse)]:=by
 rcases a with⟨id,rank,kind,name,value,⟨w1,w2,w3,w4,w5⟩,ex,⟨b1,b2,b3,b4⟩,⟨e1,e2,e3,e4⟩,⟨g1,g2,g3,g4⟩⟩
 rfl
theorem yim {g:Tr ABlk}{F:Nat→Prop}{A:List AV}{v u:AV}(h:Fy g F v u):cW g F (aG A 10 [v]) (aG A 10 [u]):=
 cW.appd (.cons _ _ _ _ h (cW.same _)) _
theorem yjm {A:List AV}(hA:A.length=23):(∀v,(aG A 10 [v]).length=23)∧(∀v hh,(aG A 10 [v])[10]'hh=v)∧(∀v u,aG (aG A 10 [v]) 10 [u]=aG A 10 [u])∧(∀v,(aG A 10 [v]).take 23=aG A 10 [v]):=by
 have hl:∀v,(aG A 10 [v]).length=23:=fun v=>by simp[aG];omega
 have hd:∀v,aG A 10 [v]=A.take 10++(v::A.drop 11):=fun v=>by simp[aG]
 have xC:(A.take 10).length=10:=by simp;omega
 refine⟨hl,fun v hh=>?_,fun v u=>?_,fun v=>ar (by rw[hl];omega)⟩
 ·simp only[hd];rw[List.getElem_append_right (by omega)];simp[xC]
 ·rw[hd v];unfold aG;rw[List.take_append_of_le_length (by omega),ar (by omega),List.drop_append,aq (by simp;omega)];simp[xC]
def Vp (lo:Nat)(h:Tr ABlk) (n:Nat)(v:AV)(l:List ByteArray):Prop:=∃q,lo≤q∧q<n∧((l=[]∧v=.sl q 0 0 0 false∧h.get q=some (bx 9 [] false 0))∨(v=.sl q 0 l.length 0 true∧h.get q=some (bx 9 (bf l) true 1)))
theorem yi1 (e size:Nat) (q:Nat)(h:Tr ABlk) (n:Nat)(hq:h.get q=some (bx 9 [] false 0)):mv true 0 [] e size (.sl q 0 0 0 false) h n=.val (.sl q 0 0 0 false) h n:=by
 unfold mv;simp only[hq,bx];simp
theorem Vv {lo n:Nat}{h:Tr ABlk}{v:AV}{ta tb:List ByteArray}(o:Vp lo h n v ta)(fu:lo≤n)(hl:ta.length+tb.length≤16777216):
  ∃v' g n',mv (dB ((bf tb).flatMap AV.cells)) tb.length ((bf tb).flatMap AV.cells) 9 1 v h n=.val v' g n'∧n≤n'∧(∀k,k<lo→g.get k=h.get k)∧Vp lo g n' v' (ta++tb):=by
 obtain⟨q,q1,q2,⟨rfl,rfl,q4⟩ |⟨rfl,q4⟩⟩:=o
 ·cases tb with
  |nil=>
   exact⟨_,_,_,yi1 _ _ _ _ _ q4,ae _,fun _ _=>rfl,q,q1,q2,.inl ⟨rfl,rfl,q4⟩⟩
  |cons x l=>
   rw[Jg,Hz,List.length_cons,ybv,q4,zZr _ _ _ _ _ _ _ _ _ _ (by simpa using hl)];refine⟨_,_,_,rfl,Nat.le_succ _,fun k hk=>?_,n,fu,Nat.lt_succ_self _,.inr ⟨by simp,by rw[Tr.get_put,if_pos rfl];simp⟩⟩;rw[Tr.get_put,if_neg (by omega)]
 ·rw[Jg,Hz,Pu,q4,Pr _ _ _ _ _ _ _ _ _ (by rw[pH];omega) (by omega)];refine⟨_,_,_,rfl,Nat.le_succ _,fun k hk=>?_,n,fu,Nat.lt_succ_self _,.inr ⟨by simp,by rw[Tr.get_put,if_pos rfl];simp[bf]⟩⟩;rw[Tr.get_put,if_neg (by omega),Tr.get_put,if_neg (by omega)]
open Classical in
theorem yjh (rX:ay Tryz.prog cx 8 [] (.bool true))(w:Bool)(a b:Pv)(d:List Fc):ay Tryz.prog cx 4 [.agg a.cs,.agg b.cs,.agg [.fz 4 w (aP d)]] (.bool true):=by
 refine ay.mk fun h nx R hR=>aN.ofLe fun hG=>aV (sz:=164) (rs:=[.tmp 6]) aE ft4 rfl rfl rfl (by simp) ?_;have hf:∀g ny,aA nx h g→R (.bool true) g ny:=fun g ny he=>hR _ _ _ he (Fz.eq rfl rfl);clear hR;have fU:=a.cs_len;have EI:=vh a;have eU:=b.cs_len;have Il:=vh b;obtain⟨UW,UX,UY,UZ,U1,Ge⟩:=Pz a;obtain⟨U2,U3,U4,U5,U6,Gf⟩:=Pz b;obtain⟨A,hA⟩:∃A,A=a.cs:=⟨_,rfl⟩;obtain⟨B,hB⟩:∃B,B=b.cs:=⟨_,rfl⟩;rw[← hA]at UW UX UY UZ U1 Ge fU EI ⊢;rw[← hB]at U2 U3 U4 U5 U6 Gf eU Il ⊢;have zj:A.take 23=A:=ar (by omega);have zk:B.take 23=B:=ar (by omega);have v01:¬nx=nx+1:=by omega
 have Gj:¬nx=nx+1+1:=by omega
 have Vd:¬nx=nx+1+1+1:=by omega
 have CH:¬nx=nx+1+1+1+1:=by omega
 have v10:¬nx+1=nx:=by omega
 have OP:¬nx+1=nx+1+1:=by omega
 have v13:¬nx+1=nx+1+1+1:=by omega
 have v14:¬nx+1=nx+1+1+1+1:=by omega
 have v20:¬nx+1+1=nx:=by omega
 have v21:¬nx+1+1=nx+1:=by omega
 have v23:¬nx+1+1=nx+1+1+1:=by omega
 have v24:¬nx+1+1=nx+1+1+1+1:=by omega
 have v30:¬nx+1+1+1=nx:=by omega
 have v31:¬nx+1+1+1=nx+1:=by omega
 have v32:¬nx+1+1+1=nx+1+1:=by omega
 have v34:¬nx+1+1+1=nx+1+1+1+1:=by omega
 have v40:¬nx+1+1+1+1=nx:=by omega
 have v41:¬nx+1+1+1+1=nx+1:=by omega
 have v42:¬nx+1+1+1+1=nx+1+1:=by omega
 have v43:¬nx+1+1+1+1=nx+1+1+1:=by omega
 simp-implicitDefEqProofs[go_sem];refine ay.use rX ?_;have zG:=ZX w false d [a,b] (by simp);simp-implicitDefEqProofs[go_sem,aB,fU,zj,eU,zk,aG,Gj];generalize j9:Tr.put _ (nx+1+1+1) (some (bx 30 (A++_) false 0))=M;have m0:M.get nx=some (bx 30 A false 0):=by rw[← j9];simp-implicitDefEqProofs[go_sem,Gj,Vd]
 have m1:M.get (nx+1)=some (bx 30 B false 0):=by rw[← j9];simp-implicitDefEqProofs[go_sem]
 have m2:M.get (nx+1+1)=some (bx 35 [.fz 4 w (aP d)] false 0):=by rw[← j9];simp-implicitDefEqProofs[go_sem]
 have m3:∃T,M.get (nx+1+1+1)=some (bx 30 (a.cs++(b.cs++T)) false 0):=by rw[← j9,Tr.get_put,if_pos rfl,← hA,← hB];exact⟨_,rfl⟩
 have hE:aA nx h M:=by
  rw[← j9];simp(disch:=omega)only[aL];exact aA.refl _ _
 clear j9;obtain⟨T,m3⟩:=m3;refine ay.useB tg zG rfl (.cons _ _ _ _ (Fz.same _ (by simp[plain,bC,AZ])) (.cons _ _ _ _ (zu9 (by omega) m3) .nil)) ?_
 by_cases hq:(∀i (h:i < [a,b].length),lO [a,b][i] 40)∧vi d 8
 ·have qa:lO a 40:=hq.1 0 (by simp);have qb:lO b 40:=hq.1 1 (by simp);have qd:=hq.2;rw[decide_eq_true hq];have T9:∀f∈d,f.name.size≤1000000000:=fun f hf=>by
   obtain⟨i,hi,rfl⟩:=List.getElem_of_mem hf;have:=qd.2 i hi;omega
  have hD:=GC w a b d (by have:=qa.2.1;omega) (by have:=qb.2.1;omega) (by have:=qd.1;omega) T9 (by have:=qa.1.1;omega) (by have:=qb.1.1;omega) (by obtain⟨_,_,e1,e2,e3⟩:=qa;omega) (by obtain⟨_,_,e1,e2,e3⟩:=qb;omega);have jZ:=GC w (ym a) b d (by have:=qa.2.1;show a.when_.size≤_;omega) (by have:=qb.2.1;omega) (by have:=qd.1;omega) T9 (by have:=qa.1.1;simp[ym];omega) (by have:=qb.1.1;omega) (by obtain⟨_,_,e1,e2,e3⟩:=qa;show a.begin_.size≤_∧a.end_.size≤_∧a.again.size≤_;omega) (by obtain⟨_,_,e1,e2,e3⟩:=qb;omega);rw[yjr]at jZ;have hx:=qa.1.1;have hy:=qb.1.1;have vA:=yig a b d;have jx:=yih a b d;rw[← hA,← hB]at hD;rw[← hB]at jZ;have aX:=yib a b d;generalize cG a b d=DR at hD jZ jx vA aX;obtain⟨k,c,e⟩:=DR;simp only[tJ.v]at hD jZ
  change e≠0→k=0∧c=[]at vA
  change c.length≤60 at aX
  change e=0→(k=1↔¬ew a b) at jx
  simp-implicitDefEqProofs[go_sem,aB,m0,m1,m2,fU,eU,zj,zk];refine ay.use hD ?_
  by_cases he:e=0
  ·subst he;have jx:=jx rfl;clear vA;simp-implicitDefEqProofs[go_sem,aB,m0,m1,fU,eU,aG,CH];generalize tW:(M.put (nx+1+1+1+1) _).put (nx+1+1+1+1) (some (bx 43 [.int .i64 k,.fz 1 false (aI c)] false 0))=M2;have p0:M2.get nx=some (bx 30 A false 0):=by rw[← tW];simp-implicitDefEqProofs[go_sem,m0,CH]
   have p1:M2.get (nx+1)=some (bx 30 B false 0):=by rw[← tW];simp-implicitDefEqProofs[go_sem,m1]
   have p2:M2.get (nx+1+1)=some (bx 35 [.fz 4 w (aP d)] false 0):=by rw[← tW];simp-implicitDefEqProofs[go_sem,m2]
   have p4:M2.get (nx+1+1+1+1)=some (bx 43 [.int .i64 k,.fz 1 false (aI c)] false 0):=by rw[← tW];simp-implicitDefEqProofs[go_sem]
   have oO:aA nx h M2:=by
    rw[← tW];simp(disch:=omega)only[aL];exact hE
   clear tW m0 m1 m2 m3 hE;generalize hK:xm _ _ AX.norm=K;have key:∀tm:Tr AV,tm.get 3=some (.ptr nx 0)→tm.get 4=some (.ptr (nx+1) 0)→tm.get 5=some (.ptr (nx+1+1) 0)→tm.get 7=some (.bool true)→tm.get 8=some (.ptr (nx+1+1+1+1) 0)→tm.get 10=some (.bool (decide (wt a b)))→K (.mk tm M2 (nx+1+1+1+1+1) []):=by
    intro tm t3 t4 t5 t7 t8 t10;rw[← hK];clear hK;have IZ:A[10]'(by omega)=.fz 1 false (bf a.except):=by rw[List.getElem_eq_iff];exact Ge
    have OI:B[10]'(by omega)=.fz 1 false (bf b.except):=by rw[List.getElem_eq_iff];exact Gf
    obtain⟨n5,hn5⟩:∃n5,n5=nx+1+1+1+1+1:=⟨_,rfl⟩;rw[← hn5];have z0:¬nx=n5:=by omega
    have z1:¬nx+1=n5:=by omega
    have z2:¬nx+1+1=n5:=by omega
    have z4:¬nx+1+1+1+1=n5:=by omega
    simp-implicitDefEqProofs[go_sem];refine Ls mixed aE (fun k=>if k=1 then .ptr nx 10 else if k=2 then .fz 1 false (bf a.except) else if k=4 then .ptr (nx+1) 10 else .fz 1 false (bf b.except)) [(1,80),(2,81),(4,83),(5,84)] [(0,[]),(3,[(1,80),(2,81)]),(6,[(4,83),(5,84)]),(7,[])] (by kernel_rfl) (by decide) ?_;simp-implicitDefEqProofs[go_sem,gU,jF,t3,t4,p0,p1,fU,eU,IZ,OI,z0,z1];obtain⟨v1,g1,n1,S7,uk,Ub,TA⟩:=Vv (lo:=n5) (h:=M2.put n5 (some (bx 9 [] false 0))) (n:=n5+1) (v:=.sl n5 0 0 0 false) (ta:=[]) (tb:=a.except) ⟨n5,ae _,Nat.lt_succ_self _,.inl ⟨rfl,rfl,by rw[Tr.get_put,if_pos rfl]⟩⟩ (Nat.le_succ _) (by simp;omega);rw[S7];have pW:∀k,k<n5→g1.get k=M2.get k:=fun k hk=>by rw[Ub k hk,Tr.get_put,if_neg (by omega)]
    have r0:g1.get nx=some (bx 30 A false 0):=by rw[pW _ (by omega)];exact p0
    have r1:g1.get (nx+1)=some (bx 30 B false 0):=by rw[pW _ (by omega)];exact p1
    simp-implicitDefEqProofs[go_sem,gU,jF,t4,r1,eU,OI];obtain⟨v2,g2,n2,S8,oU,dC,H7⟩:=Vv (tb:=b.except) TA (by omega) (by simp;omega);rw[S8];simp only[List.nil_append]at H7;have I1:g2.get nx=some (bx 30 A false 0):=by rw[dC _ (by omega)];exact r0
    have OJ:g2.get (nx+1)=some (bx 30 B false 0):=by rw[dC _ (by omega)];exact r1
    have I2:g2.get (nx+1+1)=some (bx 35 [.fz 4 w (aP d)] false 0):=by rw[dC _ (by omega),pW _ (by omega)];exact p2
    have I3:g2.get (nx+1+1+1+1)=some (bx 43 [.int .i64 k,.fz 1 false (aI c)] false 0):=by rw[dC _ (by omega),pW _ (by omega)];exact p4
    have tU:aA nx h g2:=fun k hk=>by rw[dC _ (by omega),pW _ (by omega)];exact oO k hk
    have qak:n5≤n2:=by omega
    clear S7 S8 Ub pW dC r0 r1 TA p0 p1 p2 p4 oO z0 z1 z2 z4 uk oU;simp-implicitDefEqProofs[go_sem];obtain⟨N,hN⟩:∃N,N=a.except++b.except:=⟨_,rfl⟩;rw[← hN]at H7;have hNl:N.length≤60:=by rw[hN,List.length_append];omega
    obtain⟨q,cp,op,opn,es,rfl,rq⟩:∃q cp op opn es,v2=.sl q 0 N.length cp op∧g2.get q=some (bx 9 (bf N) opn es):=by
     obtain⟨q,_,_,⟨h1,h2,h3⟩ |⟨h2,h3⟩⟩:=H7
     ·exact⟨q,0,false,false,0,by rw[h2,h1];rfl,by rw[h3,h1];rfl⟩
     ·exact⟨q,0,true,true,1,h2,h3⟩
    clear H7;have Fo:=VU false a.except;have Fp:=VU false b.except;refine bT (fun mm st=>∃tm i,st=.mk tm g2 n2 []∧mm=N.length-i∧i≤N.length∧tm.get 3=some (.ptr nx 0)∧tm.get 4=some (.ptr (nx+1) 0)∧tm.get 5=some (.ptr (nx+1+1) 0)∧tm.get 7=some (.bool true)∧tm.get 8=some (.ptr (nx+1+1+1+1) 0)∧tm.get 10=some (.bool (ph a b (N.take i)))∧tm.get 11=some (.sl q 0 N.length cp op)∧tm.get 12=some (.int .i64 (i:Int))) ⟨N.length,_,0,rfl,by simp,by simp,?_⟩ ?_
    ·simp-implicitDefEqProofs[go_sem,t3,t4,t5,t7,t8,t10,yjj]
    clear t3 t4 t5 t7 t8 t10 tm
    rintro mm st ⟨tm,i,rfl,rfl,hi,t3,t4,t5,t7,t8,t10,t11,t12⟩ J hJ
    refine bt aE _ ?_
    by_cases az:i<N.length
    ·have Ue:(bf N)[i]'(by rw[pH];exact az)=.bs (N[i]):=by simp[bf]
     by_cases hP:ph a b (N.take i)=true
     ·rw[hP]at t10;simp-implicitDefEqProofs[go_sem,t11,t12,az];refine ik mixed aE eO [] [8,15] [] (by kernel_rfl) ?_;simp-implicitDefEqProofs[go_sem,t3,t10,t11,t12,az,I1,rq,fU,IZ,pH,Ue];refine gR (Fo N[i] (by omega)) ?_;simp-implicitDefEqProofs[go_sem,fg,t4,t11,t12,az,OJ,rq,eU,OI,pH,Ue];refine gR (Fp N[i] (by omega)) ?_;simp-implicitDefEqProofs[go_sem,t12];refine hJ (N.length-(i+1)) _ (by omega) ⟨_,i+1,rfl,rfl,by omega,?_⟩;rw[List.take_succ_eq_append_getElem az,yjl hP];simp(disch:=omega) [go_sem,t3,t4,t5,t7,t8,t11,aY];cases decide (N[i]∈a.except) <;> cases decide (N[i]∈b.except) <;> rfl
     ·have hP:ph a b (N.take i)=false:=by simpa using hP
      rw[hP]at t10;simp-implicitDefEqProofs[go_sem,t11,t12,az];refine ik mixed aE eO [] [8,15] [] (by kernel_rfl) ?_;simp-implicitDefEqProofs[go_sem,t10,t12];refine hJ (N.length-(i+1)) _ (by omega) ⟨_,i+1,rfl,rfl,by omega,?_⟩;rw[List.take_succ_eq_append_getElem az,yjk hP];simp(disch:=omega) [go_sem,t3,t4,t5,t7,t8,t11,aY]
    ·have Cg:N.take i=N:=ar (by omega);rw[Cg,hN,yji]at t10;have y0:¬nx=n2:=by omega
     have y1:¬nx+1=n2:=by omega
     have y2:¬nx+1+1=n2:=by omega
     have y4:¬nx+1+1+1+1=n2:=by omega
     obtain⟨s1,s2,s3,s4⟩:=yjm fU;simp-implicitDefEqProofs[go_sem,t3,t11,t12,az,I1,fU,EI,zj,IZ,y0];clear az Cg rq hJ Fo Fp;refine bT (fun mm st=>∃tm h' n' m v,st=.mk tm h' n' []∧mm=m∧m≤a.except.length∧tm.get 3=some (.ptr nx 0)∧tm.get 4=some (.ptr (nx+1) 0)∧tm.get 5=some (.ptr (nx+1+1) 0)∧tm.get 7=some (.bool true)∧tm.get 8=some (.ptr (nx+1+1+1+1) 0)∧tm.get 10=some (.bool (decide (ew a b)))∧tm.get 13=some (.ptr n2 0)∧tm.get 14=some (.int .i64 ((m:Int)-1))∧
      h'.get nx=some (bx 30 A false 0)∧h'.get (nx+1)=some (bx 30 B false 0)∧h'.get (nx+1+1)=some (bx 35 [.fz 4 w (aP d)] false 0)∧h'.get (nx+1+1+1+1)=some (bx 43 [.int .i64 k,.fz 1 false (aI c)] false 0)∧h'.get n2=some (bx 30 (aG A 10 [v]) false 0)∧n2<n'∧aA nx h h'∧k7 9 1 (n2+1) h' n' v (bf (a.except.drop m).reverse) (a.except.drop m).length) ⟨a.except.length,_,_,_,a.except.length,.sl0,rfl,rfl,ae _,?_⟩ ?_
     ·simp(disch:=omega) [go_sem,t3,t4,t5,t7,t8,t10,aY,I1,OJ,I2,I3,y0,y1,y2,y4];refine⟨?_,.inl ⟨by simp,by simp[bf],rfl⟩⟩;simp(disch:=omega)only[aL];exact tU
     clear t3 t4 t5 t7 t8 t10 t11 t12 tm I1 OJ I2 I3 tU J
     rintro mm st ⟨tm,h',n',m,v,rfl,rfl,hm,t3,t4,t5,t7,t8,t10,t13,t14,g0,g1,xz,g4,gn,dK,qI,hO⟩ J hJ
     refine bt aE _ ?_;cases mm with
     |succ m=>
      have az:m<a.except.length:=hm;have x0:¬nx=n':=by omega
      have x2:¬n2=n':=by omega
      have hEl:a.except.length≤30:=by omega
      have hgE:(bf a.except)[m]'(by rw[pH];exact az)=.bs (a.except[m]):=by simp[bf]
      have IJ:v.cells=[v]:=by
       rcases hO with⟨_,_,rfl⟩ |⟨q,_,_,rfl,_⟩ <;> rfl
      have hvo:dB [v]=true:=by
       rcases hO with⟨_,_,rfl⟩ |⟨q,_,_,rfl,_⟩ <;> rfl
      simp-implicitDefEqProofs[go_sem,t14];refine Ls mixed aE (fun k=>if k=0 then .ptr n2 10 else if k=1 then v else .int .i64 (m:Int)) [(0,120),(1,121),(4,124)] [(2,[]),(3,[]),(5,[(4,124)]),(6,[]),(7,[]),(8,[(0,120),(1,121)]),(9,[]),(10,[])] (by kernel_rfl) (by decide) ?_;simp-implicitDefEqProofs[go_sem,gU,jF,t3,t13,t14,g0,gn,fU,s1,s2,IZ,hgE,pH,az,x2];have aQ:∀kk,kk≤n2→∀l cp op,v≠.sl kk 0 l cp op:=fun kk hk l cp op e=>by
       rcases hO with⟨_,_,rfl⟩ |⟨q,q1,_,rfl,_⟩
       ·cases e
       ·cases e;omega
      have TV:=hO.ext (g:=h'.put n' (some (bx 9 [.bs a.except[m]] false 0))) (n':=n'+1) (fun kk _ hk=>by rw[Tr.get_put,if_neg (by omega)]) (Nat.le_succ _);obtain⟨gg,ea,eb,ec⟩:=TV.app (m:=1) (news:=[.bs a.except[m]]) (by omega) (by omega) (by rw[pH,List.length_reverse];omega) (by rw[List.length_drop];omega);generalize Ex:(List.drop (m+1) a.except).length+1=LL at ea;rw[ea];have ed:∀kk,kk≤n2→gg.get kk=h'.get kk:=fun kk hk=>by rw[eb kk (by omega) (aQ kk hk),Tr.get_put,if_neg (by omega)]
      have k0:gg.get nx=some (bx 30 A false 0):=by rw[ed _ (by omega)];exact g0
      have k1:gg.get (nx+1)=some (bx 30 B false 0):=by rw[ed _ (by omega)];exact g1
      have k2:gg.get (nx+1+1)=some (bx 35 [.fz 4 w (aP d)] false 0):=by rw[ed _ (by omega)];exact xz
      have k4:gg.get (nx+1+1+1+1)=some (bx 43 [.int .i64 k,.fz 1 false (aI c)] false 0):=by rw[ed _ (by omega)];exact g4
      have kn:gg.get n2=some (bx 30 (aG A 10 [v]) false 0):=by rw[ed _ (by omega)];exact gn
      have hEg:aA nx h gg:=fun kk hk=>by rw[ed kk (by omega)];exact qI kk hk
      clear ea eb ed aQ TV hO g0 g1 xz g4 gn qI;simp-implicitDefEqProofs[go_sem,t13,t14,kn,s1,s3];refine hJ m _ (by omega) ⟨_,_,_,m,.sl (n'+1) 0 LL 0 true,rfl,rfl,by omega,?_⟩;have w0:¬n'+1=n2:=by omega
      simp(disch:=omega) [go_sem,t3,t4,t5,t7,t8,t10,t13,aY,k0,k1,k2,k4,y0,y1,y2,y4];refine⟨?_,.inr ⟨n'+1,by omega,by omega,?_,?_⟩⟩
      ·simp(disch:=omega)only[aL];exact hEg
      ·rw[← Ex,List.length_drop]
       congr 1
       omega
      ·rw[Tr.get_put,if_neg w0,ec,aj az,List.reverse_cons];simp only[bf,List.map_append,List.map_cons,List.map_nil]
     |zero=>
      simp-implicitDefEqProofs[go_sem,t4,t5,t13,t14,g1,xz,gn,s1,s4,eU,zk];rw[List.drop_zero]at hO;obtain⟨L9,v9,Ew,vC,hw9⟩:∃(L9:List Nat) (v9:AV),(∀kk,kk≤n2→¬kk∈L9)∧Fy h' (fun a=>a∈L9) v v9∧Wk v9 (.fz 1 false (bf a.except.reverse)):=by
       rcases hO with⟨h0,_,rfl⟩ |⟨q,q1,q2,rfl,q4⟩
       ·have:a.except=[]:=au h0;exact⟨[],.sl0,fun _ _=>by simp,.same _,by rw[this];exact .sl0 1 false⟩
       ·refine⟨[q],.fz 1 false (bf a.except.reverse),fun kk hk=>by simp;omega,?_,.same _⟩;have:=Tb (F:=fun a=>a∈[q]) (b:=q) (s:=a.except.reverse) (cp:=0) (op:=true) (by simp) q4;rw[List.length_reverse]at this;exact this
      refine DN (fun a=>a∈L9) (h':=jo h' L9) (iy.kill _) (.cons _ _ _ _ (.agg _ _ (yim vC)) (.cons _ _ _ _ (.same _) (.cons _ _ _ _ (.same _) .nil))) ?_;obtain⟨g9,zI⟩:∃g9,g9=jo h' L9:=⟨_,rfl⟩;rw[← zI];have so:∀kk,kk≤n2→g9.get kk=h'.get kk:=fun kk hk=>by rw[zI];exact oK (Ew kk hk)
      have r4:g9.get (nx+1+1+1+1)=some (bx 43 [.int .i64 k,.fz 1 false (aI c)] false 0):=by rw[so _ (by omega)];exact g4
      have vw:aA nx h g9:=fun kk hk=>by rw[so kk (by omega)];exact qI kk hk
      clear zI so Ew vC hO qI g0 g1 xz g4 gn hJ J;refine aN.wk (.cons _ _ _ _ (.agg _ _ (Hy hw9 _ _)) (.cons _ _ _ _ (.same _) (.cons _ _ _ _ (.same _) .nil))) ?_;rw[yjq,← hA]at jZ;refine ay.use jZ ?_;have u4:¬nx+1+1+1+1=n':=by omega
      have TG:=Pw false false c c (by omega)
      by_cases hF:ew a b
      ·have cO:¬k=1:=fun q=>jx.1 q hF;rw[decide_eq_true hF]at t10;simp-implicitDefEqProofs[go_sem,aB,t7,t8,t10,r4,u4,aG,cO];refine ay.use TG ?_;simp-implicitDefEqProofs[go_sem,aB];refine hf _ _ ?_;simp(disch:=omega)only[aL];exact vw
      ·have cO:k=1:=jx.2 hF;subst cO;rw[decide_eq_false hF]at t10;simp-implicitDefEqProofs[go_sem,aB,t7,t8,t10,r4,u4,aG];refine ay.use TG ?_;simp-implicitDefEqProofs[go_sem,aB];refine hf _ _ ?_;simp(disch:=omega)only[aL];exact vw
   clear jx jZ hD hf;have Gg:A[0]'(by omega)=.bs a.id:=by rw[List.getElem_eq_iff];exact UW
   have IY:A[1]'(by omega)=.int .i64 a.rank:=by rw[List.getElem_eq_iff];exact UX
   have OG:A[2]'(by omega)=.int .i64 a.kind:=by rw[List.getElem_eq_iff];exact UY
   have U9:A[3]'(by omega)=.bs a.name:=by rw[List.getElem_eq_iff];exact UZ
   have qa4:A[4]'(by omega)=.int .i64 a.value:=by rw[List.getElem_eq_iff];exact U1
   have Gh:B[0]'(by omega)=.bs b.id:=by rw[List.getElem_eq_iff];exact U2
   have I0:B[1]'(by omega)=.int .i64 b.rank:=by rw[List.getElem_eq_iff];exact U3
   have OH:B[2]'(by omega)=.int .i64 b.kind:=by rw[List.getElem_eq_iff];exact U4
   have Va:B[3]'(by omega)=.bs b.name:=by rw[List.getElem_eq_iff];exact U5
   have qb4:B[4]'(by omega)=.int .i64 b.value:=by rw[List.getElem_eq_iff];exact U6
   have eE:¬wt a b→decide (wt a b)=false:=fun q=>decide_eq_false q
   by_cases h1:a.id=b.id
   ·by_cases h2:a.rank=b.rank
    ·by_cases h3:a.kind=b.kind
     ·by_cases h4:a.name=b.name
      ·have e5:decide (wt a b)=decide (a.value=b.value):=by unfold wt;simp[h1,h2,h3,h4]
       rw[e5]at key;simp-implicitDefEqProofs[go_sem,p0,p1,fU,eU,Gg,IY,OG,U9,qa4,Gh,I0,OH,Va,qb4,h1,h2,h3,h4];refine key _ ?_ ?_ ?_ ?_ ?_ ?_ <;> simp-implicitDefEqProofs[go_sem]
      ·rw[eE (fun q=>h4 q.2.2.2.1)]at key;simp-implicitDefEqProofs[go_sem,p0,p1,fU,eU,Gg,IY,OG,U9,Gh,I0,OH,Va,h1,h2,h3,h4];refine key _ ?_ ?_ ?_ ?_ ?_ ?_ <;> simp-implicitDefEqProofs[go_sem]
     ·rw[eE (fun q=>h3 q.2.2.1)]at key;simp-implicitDefEqProofs[go_sem,p0,p1,fU,eU,Gg,IY,OG,Gh,I0,OH,h1,h2,h3];refine key _ ?_ ?_ ?_ ?_ ?_ ?_ <;> simp-implicitDefEqProofs[go_sem]
    ·rw[eE (fun q=>h2 q.2.1)]at key;simp-implicitDefEqProofs[go_sem,p0,p1,fU,eU,Gg,IY,Gh,I0,h1,h2];refine key _ ?_ ?_ ?_ ?_ ?_ ?_ <;> simp-implicitDefEqProofs[go_sem]
   ·rw[eE (fun q=>h1 q.1)]at key;simp-implicitDefEqProofs[go_sem,Gg,Gh,h1];refine key _ ?_ ?_ ?_ ?_ ?_ ?_ <;> simp-implicitDefEqProofs[go_sem]
  ·obtain⟨rfl,rfl⟩:=vA he;simp-implicitDefEqProofs[go_sem,aB,aG,he];refine hf _ _ ?_;simp(disch:=omega)only[aL];exact hE
 ·rw[decide_eq_false hq];simp-implicitDefEqProofs[go_sem,aB];exact hf _ _ hE
end
end Go.Ev
