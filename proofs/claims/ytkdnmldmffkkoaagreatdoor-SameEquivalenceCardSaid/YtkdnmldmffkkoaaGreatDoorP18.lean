/- Texts. -/
import Derived.Test.YtkdnmldmffkkoaaGreatDoorLays
import Derived.Test.YtkdnmldmffkkoaaGreatDoorP17
set_option linter.unusedSimpArgs false
set_option linter.unusedVariables false
set_option maxRecDepth 100000
set_option maxHeartbeats 8000000
namespace Go.Ev
open Go.Proofs
noncomputable section
attribute [-go_sem] dw bP
theorem ay.mkW {P:Program}{c:Cx}{f:FuncId}{args:List AV}{u:AV}(hr:∀h nx (R:AV→Tr ABlk→Nat→Prop),(∀v g ny u',aA nx h g→Fz g nx v u'→Wk u' u→R v g ny)→aN P c f args h nx R):ay P c f args u:=by
 intro h nx;have:=aN.frz (R:=fun v=>Wk v u) (hr h nx _ fun v g ny u' h1 h2 h3=>⟨h1,u',h2,h3⟩);exact this.wkR fun v g ny ⟨e1,e2,e3⟩=>⟨u,e1,rfl,e2,e3⟩
theorem zz5 {α:Type}(p:α→Bool):∀l:List α,bS p l<l.length
 |[]=>by simp[bS]
 |y::l=>by
  have:=zz5 p l;unfold bS;simp only[List.length_cons]
  repeat' split
  all_goals omega
theorem SG {n:Nd}{v:Int}(h:n.kids.length=n.cuts.length+1):∃k:Nat,k9 n v=(k:Int)∧k<n.kids.length:=by
 have h1:=zz5 (fun c=>decide (v<c)) n.cuts;unfold k9;split
 ·exact⟨n.cuts.length,by omega,by omega⟩
 ·exact⟨(bS (fun c=>decide (v<c)) n.cuts).toNat,by omega,by omega⟩
def er (n:Nd) (at_:Nat) (i v:Int):Int:=if ¬n.kids=[]∧n.fact=i then n.kids.getD (k9 n v).toNat 0 else at_
theorem zyf (full:Bool)(g:List Nd) (at_:Nat) (i v:Int)(gD:at_<g.length)(hk:¬(g[at_]).kids=[]→(g[at_]).kids.length=(g[at_]).cuts.length+1)(h1:(g[at_]).cuts.length<1000000000):ay Tryz.prog cx 211 [.agg [.fz 4 full (bK g)],.int .i64 (at_:Int),.int .i64 i,.int .i64 v] (.int .i64 (er g[at_] at_ i v)):=by
 obtain⟨n,hn⟩:∃n,g[at_]=n:=⟨_,rfl⟩;rw[hn]at hk h1 ⊢;refine ay.mk fun h nx R hR=>aV (sz:=33) (rs:=[.tmp 8]) aE zIq rfl rfl rfl (by simp) ?_;have E:∀x y z,aA nx h (((h.put nx x).put (nx+1) y).put (nx+1) z):=fun x y z=>(((aA.refl nx h).put (ae _) _).put (by omega) _).put (by omega) _
 by_cases c1:n.kids=[]
 ·simp-implicitDefEqProofs[go_sem,gD,hn,Nd.cs,c1];refine hR _ _ _ (E _ _ _) (Fz.eq rfl ?_);rw[er,if_neg (fun q=>q.1 c1)]
 ·have hl:=hk c1;have l7:0<n.kids.length:=by omega
  by_cases c2:n.fact=i
  ·obtain⟨k,k1,k2⟩:=SG (v:=v) hl;have cn:=zP3 n v (by omega) (by omega);rw[k1]at cn;simp only[Nd.cs]at cn;simp-implicitDefEqProofs[go_sem,gD,hn,Nd.cs,l7,c2];refine ik mixed aE eO [] [4] [] (by kernel_rfl) ?_;simp-implicitDefEqProofs[go_sem,Nd.cs];rw[c2]at cn;refine gR cn ?_;simp-implicitDefEqProofs[go_sem,fg,k2];refine hR _ _ _ (E _ _ _) (Fz.eq rfl ?_);rw[er,if_pos ⟨c1,c2⟩,k1];simp[k2]
  ·simp-implicitDefEqProofs[go_sem,gD,hn,Nd.cs,l7,c2];refine hR _ _ _ (E _ _ _) (Fz.eq rfl ?_);rw[er,if_neg (fun q=>c2 q.2)]
theorem zOc:cx.ft.get 144=some Tryz.f144:=aT (by decide) (by kernel_rfl)
def Fm.op:Fm→Int |.mk o _ _ _ _=>o
def eR (o unit zero:Int):List Fm→List Fm→Fm
 |acc,[]=>match acc with
  |[]=>.mk unit .empty 0 0 []
  |[k]=>k
  |ks=>.mk o .empty 0 0 ks
 |acc,k::l=>if k.op=zero then k else if k.op=unit then eR o unit zero acc l else eR o unit zero (acc++[k]) l
mutual
def bQ (nm:ByteArray) (v:Int):Fm→Fm
 |.mk o n c m kids=>if o=3 then (if n=nm then jV (nr v c m) else .mk o n c m kids)
  else if o=5 then (match iY nm v kids with
   |[]=>.mk o n c m kids
   |k::_=>if k.op=1∨k.op=2 then jV (decide (k.op=2)) else .mk 5 .empty 0 0 [k])
  else if o=6 then eR o 1 2 [] (iY nm v kids)
  else if o=7 then eR o 2 1 [] (iY nm v kids)
  else .mk o n c m kids
def iY (nm:ByteArray) (v:Int):List Fm→List Fm
 |[]=>[]
 |f::l=>bQ nm v f::iY nm v l
end
mutual
def notOk:Fm→Prop
 |.mk o _ _ _ kids=>(o=5→kids≠[])∧JF kids
def JF:List Fm→Prop
 |[]=>True
 |f::l=>notOk f∧JF l
end
theorem Xi:∀{l:List Fm},JF l→∀f∈l,notOk f
 |[],_,f,h=>by cases h
 |g::l,hl,f,h=>by
  rcases List.mem_cons.1 h with e |e
  ·subst e;exact hl.1
  ·exact Xi hl.2 f e
theorem zy1:∀l:List Fm,qG 5 (cy l) (l.flatMap Fm.cs)
 |[]=>rfl
 |x::l=>⟨x.cs,l.flatMap Fm.cs,by simp,rfl,by cases x;rfl,.inl rfl,zy1 l⟩
theorem W6:∀l:List Fm,bC (l.flatMap Fm.cs)=true
 |[]=>rfl
 |x::l=>by
  have h1:=W6 l;cases x with
  |mk o n c m k=>
  simp[Fm.cs,bC,plain,JK k,h1]
theorem WS (l:List Fm):(l.flatMap Fm.cs).length=l.length * 5:=by
 induction l with
 |nil=>rfl
 |cons x l ih=>
  cases x;simp[Fm.cs,ih];omega
theorem PW:∀l:List Fm,dB (l.flatMap Fm.cs)=true
 |[]=>rfl
 |x::l=>by
  have h1:=PW l;cases x with
  |mk o n c m k=>
  simp[Fm.cs,dB,AV.one];exact h1
theorem LG {g:Tr ABlk}{nx b:Nat}{s:List Fm}{cp esz:Nat}{op opn:Bool}(hb:nx≤b)(hg:g.get b=some (bx 24 (s.flatMap Fm.cs) opn esz)):Fz g nx (.sl b 0 s.length cp op) (.fz 5 false (cy s)):=
 .slz b 0 _ cp op 24 _ _ opn esz 5 (s.flatMap Fm.cs) (s.flatMap Fm.cs) (cy s) hb hg (by simp) (fun j hj=>by rw[Nat.zero_add,fx]) (ct.same _ (W6 s)) (zy1 s) (zLj s)
@[go_sem] theorem zYc (e:TypeId) (size b:Nat)(z:Option AV) (x:Nat) (s:Nat)(y:Bool)(fs:List (Nat×Nat×Bool)) (i o l cp:Nat)(opn:Bool)(k:IntKind)(h:Tr ABlk) (nx:Nat)(hn:0<l):
  jE (.mk (.slice e) size b z ((x,s,y)::fs)) (.sl i o l cp opn) (.int k 0) h nx=.val (.ptr i o) h nx:=by
 have:=Ym e size b z x s y fs i o l cp opn k 0 h nx hn;simpa using this
@[go_sem] theorem yd9 (e:TypeId) (size b:Nat)(z:Option AV) (x:Nat) (s:Nat)(y:Bool)(fs:List (Nat×Nat×Bool))(full:Bool)(v:AV)(xs:List AV)(k:IntKind)(h:Tr ABlk) (nx:Nat):
  jE (.mk (.slice e) size b z ((x,s,y)::fs)) (.fz s full (v::xs)) (.int k 0) h nx=.val (.ip v.cells) h nx:=by
 have:=Rp e size b z x s y fs full (v::xs) k 0 h nx (by simp);simpa using this
theorem zKn (f:Fm)(l:List Fm):cy (f::l)=.agg f.cs::cy l:=by simp[DB]
theorem aL {nx:Nat}{h g:Tr ABlk}{i:Nat}{B:Option ABlk}(hi:nx≤i):aA nx h (g.put i B)↔aA nx h g:=by
 constructor
 ·intro e j hj;have:=e j hj;rw[Tr.get_put,if_neg (by omega)]at this;exact this
 ·exact fun e=>e.put hi B
theorem Be (f:Fm):plain (.agg f.cs)=true:=by
 cases f;simp[plain,Fm.cs,bC,JK]
theorem zOl {o unit zero:Int}{acc l:List Fm}{k:Fm}(h:k.op=zero):eR o unit zero acc (k::l)=k:=by rw[eR,if_pos h]
theorem zH4 {o unit zero:Int}{acc l:List Fm}{k:Fm}(h1:¬k.op=zero)(h2:k.op=unit):eR o unit zero acc (k::l)=eR o unit zero acc l:=by rw[eR,if_neg h1,if_pos h2]
theorem zHl {o unit zero:Int}{acc l:List Fm}{k:Fm}(h1:¬k.op=zero)(h2:¬k.op=unit):eR o unit zero acc (k::l)=eR o unit zero (acc++[k]) l:=by rw[eR,if_neg h1,if_neg h2]
theorem Yl (n:Nat):∀(f:Fm)(nm:ByteArray) (v:Int),f.size≤n→n≤1000000→notOk f→ay Tryz.prog cx 144 [.agg f.cs,.bs nm,.int .i64 v] (.agg (bQ nm v f).cs):=by
 induction n with
 |zero=>intro f nm v hf;cases f;simp[Fm.size]at hf
 |succ n ih=>
 rintro⟨o,nn,cm,m,kids⟩ nm v hf hn FI
 simp only[Fm.size]at hf;obtain⟨NT,FJ⟩:=FI;refine ay.mkW fun h nx R hR=>aV (sz:=101) (rs:=[.cell 6 24]) aE zOc rfl rfl rfl (by simp) ?_;have E2:∀x y z,aA nx h (((h.put nx x).put (nx+1) y).put (nx+1) z):=fun x y z=>(((aA.refl nx h).put (ae _) _).put (by omega) _).put (by omega) _
 by_cases e3:o=3
 ·by_cases en:nn=nm
  ·have ck:=Sv (nr v cm m);simp-implicitDefEqProofs[go_sem,e3,en,Fm.cs];refine ay.use (zSa v cm m) ?_;simp-implicitDefEqProofs[go_sem,aB,e3,en];refine ay.use ck ?_;generalize hk:jV (nr v cm m)=kf;cases kf with
   |mk o' n' c' m' k'=>
   simp-implicitDefEqProofs[go_sem,aB,e3,en,Fm.cs];refine hR _ _ _ _ (E2 _ _ _) (Fz.eq (Be (.mk o' n' c' m' k')) rfl) ?_;rw[bQ,if_pos e3,if_pos en,hk];exact .same _
  ·simp-implicitDefEqProofs[go_sem,e3,en,Fm.cs];refine hR _ _ _ _ (E2 _ _ _) (Fz.eq (Be (.mk 3 nn cm m kids)) rfl) ?_;rw[bQ,if_pos e3,if_neg en,e3];exact .same _
 ·by_cases e5:o=5
  ·cases kids with
   |nil=>exact absurd rfl (NT e5)
   |cons k0 ks=>
   simp only[bn]at hf;have c0:=ih k0 nm v (by omega) (by omega) FJ.1;have hg:bQ nm v (.mk o nn cm m (k0::ks))=if (bQ nm v k0).op=1∨(bQ nm v k0).op=2 then jV (decide ((bQ nm v k0).op=2)) else .mk 5 .empty 0 0 [bQ nm v k0]:=by
    rw[bQ,if_neg e3,if_pos e5,iY]
   generalize bQ nm v (.mk o nn cm m (k0::ks))=res at hR hg;generalize bQ nm v k0=g0 at c0 hg;cases g0 with
   |mk o' n' c' m' k'=>
   have Ef:∀b g ny,aA nx h g→res=jV b→R (.agg (jV b).cs) g ny:=fun b g ny he hr=>hR _ _ _ _ he (Fz.eq (Be _) rfl) (by rw[hr];exact .same _);simp only[Fm.cs]at c0;have E5:∀x y z u t,aA nx h (((((h.put nx x).put (nx+1) y).put (nx+1+1) z).put (nx+1+1) u).put (nx+1) t):=fun x y z u t=>(((((aA.refl nx h).put (ae _) _).put (by omega) _).put (by omega) _).put (by omega) _).put (by omega) _;simp-implicitDefEqProofs[go_sem,e3,e5,Fm.cs,zKn];refine ay.use c0 ?_
   by_cases o1:o'=1
   ·have lC:res=jV false:=by rw[hg,if_pos (Or.inl (by exact o1))];simp[Fm.op,o1]
    have ck:=Sv false;have lH:(jV false).cs=[.int .i64 2,.bs .empty,.int .i64 0,.int .i64 0,.fz 5 false (cy [])]:=rfl;rw[lH]at ck;simp-implicitDefEqProofs[go_sem,aB,o1];refine ay.use ck ?_;simp-implicitDefEqProofs[go_sem,aB,o1];exact Ef _ _ _ (E5 _ _ _ _ _) lC
   ·by_cases o2:o'=2
    ·have lC:res=jV true:=by rw[hg,if_pos (Or.inr (by exact o2))];simp[Fm.op,o2]
     have ck:=Sv true;have lH:(jV true).cs=[.int .i64 1,.bs .empty,.int .i64 0,.int .i64 0,.fz 5 false (cy [])]:=rfl;rw[lH]at ck;simp-implicitDefEqProofs[go_sem,aB,o1,o2];refine ay.use ck ?_;simp-implicitDefEqProofs[go_sem,aB,o1];exact Ef _ _ _ (E5 _ _ _ _ _) lC
    ·have lC:res=.mk 5 .empty 0 0 [.mk o' n' c' m' k']:=by rw[hg,if_neg];intro q;rcases q with q |q;exact o1 q;exact o2 q
     simp-implicitDefEqProofs[go_sem,aB,o1,o2,aG];refine hR _ _ _ (.agg [.int .i64 5,.bs .empty,.int .i64 0,.int .i64 0,.fz 5 false (cy [.mk o' n' c' m' k'])]) ?_ ?_ (by rw[lC];exact .same _)
     ·exact((((((aA.refl nx h).put (ae _) _).put (by omega) _).put (by omega) _).put (by omega) _).put (by omega) _).put (by omega) _
     refine .agg _ _ (.cons _ _ _ _ (.int _ _) (.cons _ _ _ _ (.bs _) (.cons _ _ _ _ (.int _ _) (.cons _ _ _ _ (.int _ _) (.cons _ _ _ _ (LG (s:=[.mk o' n' c' m' k']) (opn:=false) (esz:=0) (by omega) (by simp[go_sem,Fm.cs,show ¬nx+1+1=nx by omega])) .nil)))))
  ·by_cases H3:o=6∨o=7
   ·obtain⟨unit,hu⟩:∃u:Int,u=if o=7 then 2 else 1:=⟨_,rfl⟩
    obtain⟨zero,hz⟩:∃u:Int,u=if o=7 then 1 else 2:=⟨_,rfl⟩
    have aH:bQ nm v (.mk o nn cm m kids)=eR o unit zero [] (iY nm v kids):=by
     rw[bQ,if_neg e3,if_neg e5]
     rcases H3 with e |e
     ·rw[if_pos e,hu,hz];simp[e]
     ·rw[if_neg (by omega),if_pos e,hu,hz];simp[e]
    generalize bQ nm v (.mk o nn cm m kids)=res at hR aH;have kP:=yL kids
    rcases H3 with eo |eo
    all_goals
     rw[eo]at hu hz;simp at hu hz;have HR:=Lib.hid aH;clear aH;simp-implicitDefEqProofs[go_sem,eo,Fm.cs];refine bT (fun mm st=>∃tm h' ax k acc,st=.mk tm h' ax []∧mm=kids.length-k∧k≤kids.length∧tm.get 1=some (.bs nm)∧tm.get 2=some (.int .i64 v)∧tm.get 3=some (.ptr nx 0)∧tm.get 6=some (.ptr (nx+1) 0)∧tm.get 8=some (.int .i64 unit)∧tm.get 9=some (.int .i64 zero)∧tm.get 61=some (.fz 5 false (cy kids))∧tm.get 62=some (.int .i64 (kids.length:Int))∧tm.get 63=some (.int .i64 (k:Int))∧
      ((acc=[]∧tm.get 10=some .sl0)∨(acc≠[]∧∃b,nx+1<b∧b<ax∧tm.get 10=some (.sl b 0 acc.length 0 true)∧h'.get b=some (bx 24 (acc.flatMap Fm.cs) true 5)))∧
      h'.get nx=some (bx 24 [.int .i64 o,.bs nn,.int .i64 cm,.int .i64 m,.fz 5 false (cy kids)] false 0)∧h'.get (nx+1)=some (bx 24 [.int .i64 0,.bs .empty,.int .i64 0,.int .i64 0,.sl0] false 0)∧aA nx h h'∧nx+2≤ax∧acc.length≤k∧
      RowKit.Hid (res=eR o unit zero acc (iY nm v (kids.drop k)))) ⟨kids.length,_,_,_,0,[],rfl,by simp,by simp,?_⟩ ?_
     ·simp-implicitDefEqProofs[go_sem,hu,hz,eo];exact⟨((aA.refl nx h).put (ae _) _).put (by omega) _,Lib.hid (by have:=HR.out;simp[hu,hz,eo]at this ⊢;exact this)⟩
     ·rintro mm st ⟨tm,h',ax,k,acc,rfl,rfl,hk,t1,t2,t3,t6,t8,t9,t61,t62,t63,eY,g0,g1,he,dK,fU,hv⟩ J hJ
      refine bt aE _ ?_;have n0:¬nx=ax:=by omega
      have n1:¬nx+1=ax:=by omega
      by_cases az:k<kids.length
      ·obtain⟨s1,_,s3⟩:=qD az;have ck:=ih kids[k] nm v (by omega) (by omega) (Xi FJ _ (ai az));have bD:=hv.out;rw[aj az,iY]at bD;generalize bQ nm v kids[k]=gk at ck bD;cases gk with
       |mk o' n' c' m' k'=>
       have HV:=Lib.hid bD;clear bD;simp only[Fm.cs]at ck;simp-implicitDefEqProofs[go_sem,t1,t2,t3,t6,t8,t9,t61,t62,t63,az];refine ay.use ck ?_
       by_cases eN:o'=zero
       ·have hr:res=.mk o' n' c' m' k':=by rw[HV.out,zOl (by exact eN)]
        simp-implicitDefEqProofs[go_sem,aB,t1,t2,t3,t6,t8,t9,t61,t62,t63,az,eN,g1,n0,n1];refine hR _ _ _ _ ?_ (Fz.eq (Be (.mk zero n' c' m' k')) rfl) ?_
        ·simp(disch:=omega)only[aL];exact he
        ·rw[hr,eN];exact .same _
       ·by_cases mQ:o'=unit
        ·have hr:res=eR o unit zero acc (iY nm v (kids.drop (k+1))):=by rw[HV.out,zH4 (by exact eN) (by exact mQ)]
         have huz:¬unit=zero:=fun e=>eN (mQ.trans e);have HF:=Lib.hid hr;clear hr;simp-implicitDefEqProofs[go_sem,aB,t1,t2,t3,t6,t8,t9,t61,t62,t63,az,mQ,huz,g1,n0,n1];refine hJ (kids.length-(k+1)) _ (by omega) ⟨_,_,_,k+1,acc,rfl,rfl,by omega,?_⟩;simp(disch:=omega) [go_sem,t1,t2,t3,t6,t8,t9,t61,t62,t63,aY,n0,n1,g0,g1];refine⟨?_,by simp(disch:=omega)only[aL];exact he,by omega,by omega,HF⟩
         rcases eY with eY |⟨h1,b,b1,b2,b3,b4⟩
         ·exact .inl eY
         ·have nb:¬b=ax:=by omega
          exact .inr ⟨h1,b,b1,by omega,b3,by simp[nb,b4]⟩
        ·have hr:res=eR o unit zero (acc++[.mk o' n' c' m' k']) (iY nm v (kids.drop (k+1))):=by rw[HV.out,zHl (by exact eN) (by exact mQ)]
         have HF:=Lib.hid hr;clear hr;have xw:¬nx=ax+1:=by omega
         have tN:¬nx+1=ax+1:=by omega
         have HZ:¬nx=ax+1+1:=by omega
         have H0:¬nx+1=ax+1+1:=by omega
         rcases eY with⟨h1,h2⟩ |⟨h1,b,b1,b2,b3,b4⟩
         ·subst h1;simp-implicitDefEqProofs[go_sem,aB,t1,t2,t3,t6,t8,t9,t61,t62,t63,az,eN,mQ,g1,n0,n1,h2];refine hJ (kids.length-(k+1)) _ (by omega) ⟨_,_,_,k+1,[.mk o' n' c' m' k'],rfl,rfl,by omega,?_⟩;simp(disch:=omega) [go_sem,t1,t2,t3,t6,t8,t9,t61,t62,t63,aY,n0,n1,g0,g1,xw,tN,HZ,H0,Fm.cs];refine⟨⟨ax+1+1,by omega,by omega,rfl,by simp⟩,?_,by omega,HF⟩;simp(disch:=omega)only[aL];exact he
         ·have nb:¬b=ax:=by omega
          have AD:¬b=ax+1:=by omega
          have yg:¬nx=b:=by omega
          have IU:¬nx+1=b:=by omega
          have fl:=WS acc;have fo:=PW acc;have hle:acc.length+1≤16777216:=by omega
          simp-implicitDefEqProofs[go_sem,aB,t1,t2,t3,t6,t8,t9,t61,t62,t63,az,eN,mQ,g1,n0,n1,b3,b4,nb,AD,yg,IU,fl,fo,hle];refine hJ (kids.length-(k+1)) _ (by omega) ⟨_,_,_,k+1,acc++[.mk o' n' c' m' k'],rfl,rfl,by omega,?_⟩;simp(disch:=omega) [go_sem,t1,t2,t3,t6,t8,t9,t61,t62,t63,aY,n0,n1,g0,g1,xw,tN,HZ,H0,yg,IU,Fm.cs];refine⟨⟨ax+1+1,by omega,by omega,rfl,by simp⟩,?_,by omega,by omega,HF⟩;simp(disch:=omega)only[aL];exact he
      ·have hr:res=eR o unit zero acc []:=by
        have:=hv.out;rw[aq (by omega)]at this;exact this
       rcases eY with⟨h1,h2⟩ |⟨h1,b,b1,b2,b3,b4⟩
       ·subst h1;have Cr:res=.mk unit .empty 0 0 []:=hr;simp-implicitDefEqProofs[go_sem,t1,t2,t3,t6,t8,t9,t61,t62,t63,az,h2,g1,aG];refine hR _ _ _ (.agg [.int .i64 unit,.bs .empty,.int .i64 0,.int .i64 0,.sl0]) (he.put (by omega) _) (Fz.eq rfl rfl) ?_;rw[Cr];exact .agg _ _ (.cons _ _ _ _ (.same _) (.cons _ _ _ _ (.same _) (.cons _ _ _ _ (.same _) (.cons _ _ _ _ (.same _) (.cons _ _ _ _ (.sl0 5 false) .nil)))))
       ·have yg:¬nx=b:=by omega
        have IU:¬nx+1=b:=by omega
        have Ow:¬b=nx+1:=by omega
        cases acc with
        |nil=>exact absurd rfl h1
        |cons a1 acc=>
        cases acc with
        |nil=>
         have Cr:res=a1:=hr;cases a1 with
         |mk o' n' c' m' k'=>
         simp-implicitDefEqProofs[go_sem,t1,t2,t3,t6,t8,t9,t61,t62,t63,az,b3,b4,g1,Fm.cs]at b4 ⊢;refine hR _ _ _ _ (he.put (by omega) _) (Fz.eq (Be (.mk o' n' c' m' k')) rfl) ?_;rw[Cr];exact .same _
        |cons a2 acc=>
         have Cr:res=.mk o .empty 0 0 (a1::a2::acc):=hr;have jc:¬a1::a2::acc=[]:=by simp
         have jd:¬(a1::a2::acc).length=1:=by simp
         have Uj:¬((a1::a2::acc).length:Int)=1:=by simp;omega
         generalize a1::a2::acc=L at b3 b4 Cr jc jd Uj;simp-implicitDefEqProofs[go_sem,t1,t2,t3,t6,t8,t9,t61,t62,t63,az,b3,g0,g1,jc,jd,Uj,aG];refine hR _ _ _ (.agg [.int .i64 o,.bs .empty,.int .i64 0,.int .i64 0,.fz 5 false (cy L)]) (he.put (by omega) _) ?_ (by rw[Cr];exact .same _);refine .agg _ _ (.cons _ _ _ _ (.int _ _) (.cons _ _ _ _ (.bs _) (.cons _ _ _ _ (.int _ _) (.cons _ _ _ _ (.int _ _) (.cons _ _ _ _ (LG (s:=L) (opn:=true) (esz:=5) (by omega) ?_) .nil)))));simp[go_sem,Ow,b4]
   ·have e6:¬o=6:=fun e=>H3 (.inl e);have e7:¬o=7:=fun e=>H3 (.inr e);simp-implicitDefEqProofs[go_sem,e3,e5,e6,e7,Fm.cs];refine hR _ _ _ _ (E2 _ _ _) (Fz.eq (Be (.mk o nn cm m kids)) rfl) ?_;rw[bQ,if_neg e3,if_neg e5,if_neg e6,if_neg e7];exact .same _
theorem aN.mkW {P:Program}{c:Cx}{f:FuncId}{args:List AV}{u:AV}{h:Tr ABlk}{nx:Nat}(hr:∀(R:AV→Tr ABlk→Nat→Prop),(∀v g ny u',aA nx h g→Fz g nx v u'→Wk u' u→R v g ny)→aN P c f args h nx R):aN P c f args h nx (fun v g ny=>v=u∧g=h∧ny=nx):=by
 have:=aN.frz (R:=fun v=>Wk v u) (hr _ fun v g ny u' h1 h2 h3=>⟨h1,u',h2,h3⟩);exact this.wkR fun v g ny ⟨e1,e2,e3⟩=>⟨u,e1,rfl,e2,e3⟩
theorem aN.useE {P:Program}{c:Cx}{f:FuncId}{args:List AV}{u:AV}{h:Tr ABlk}{nx:Nat}{R:AV→Tr ABlk→Nat→Prop}(hc:aN P c f args h nx (fun v g ny=>v=u∧g=h∧ny=nx))(hR:R u h nx):aN P c f args h nx R:=
 hc.mono fun v g ny ⟨e1,e2,e3⟩=>by subst e1;subst e2;subst e3;exact hR
theorem zNa:cx.ft.get 147=some Tryz.f147:=aT (by decide) (by kernel_rfl)
theorem zH0:cx.ft.get 94=some Tryz.f94:=aT (by decide) (by kernel_rfl)
mutual
def bz:Fm→Fm
 |.mk o n c m kids=>if o=4 then .mk 3 n 1 1 [] else .mk o n c m (tH kids)
def tH:List Fm→List Fm
 |[]=>[]
 |f::l=>bz f::tH l
end
theorem Ze:∀l:List Fm,tH l=l.map bz
 |[]=>rfl
 |f::l=>by rw[tH,Ze l];rfl
theorem zRl (n:Nat):∀(f:Fm)(h:Tr ABlk) (nx a:Nat),f.size≤n→n≤1000000→a<nx→h.get a=some (bx 70 [.func 147 [] [.ptr a 0]] false 0)→aN Tryz.prog cx 147 [.agg f.cs,.ptr a 0] h nx (fun v g ny=>v=.agg (bz f).cs∧g=h∧ny=nx):=by
 induction n with
 |zero=>intro f h nx a hf;cases f;simp[Fm.size]at hf
 |succ n ih=>
 rintro⟨o,nn,cm,m,kids⟩ h nx a hf hn ha ga
 simp only[Fm.size]at hf;refine aN.mkW fun R hR=>aV (sz:=32) (rs:=[.cell 3 24]) aE zNa rfl rfl rfl (by simp) ?_;have E2:∀x y z,aA nx h (((h.put nx x).put (nx+1) y).put (nx+1) z):=fun x y z=>(((aA.refl nx h).put (ae _) _).put (by omega) _).put (by omega) _;have na:¬a=nx:=by omega
 have na1:¬a=nx+1:=by omega
 by_cases e4:o=4
 ·simp-implicitDefEqProofs[go_sem,e4,Fm.cs,aG];refine hR _ _ _ (.agg [.int .i64 3,.bs nn,.int .i64 1,.int .i64 1,.sl0]) (E2 _ _ _) (Fz.eq rfl rfl) ?_;rw[bz,if_pos e4];exact .agg _ _ (.cons _ _ _ _ (.same _) (.cons _ _ _ _ (.same _) (.cons _ _ _ _ (.same _) (.cons _ _ _ _ (.same _) (.cons _ _ _ _ (.sl0 5 false) .nil)))))
 ·have aH:bz (.mk o nn cm m kids)=.mk o nn cm m (kids.map bz):=by rw[bz,if_neg e4,Ze]
  rw[aH]at hR;have kP:=yL kids;simp-implicitDefEqProofs[go_sem,e4,Fm.cs,aG];refine bT (fun mm st=>∃tm h' ax k kc,st=.mk tm h' ax []∧mm=kids.length-k∧k≤kids.length∧tm.get 1=some (.ptr a 0)∧tm.get 2=some (.ptr nx 0)∧tm.get 3=some (.ptr (nx+1) 0)∧tm.get 16=some (.fz 5 false (cy kids))∧tm.get 17=some (.int .i64 (kids.length:Int))∧tm.get 18=some (.int .i64 (k:Int))∧
   ((k=0∧kc=.sl0)∨(0<k∧∃b,nx+1<b∧b<ax∧kc=.sl b 0 k 0 true∧h'.get b=some (bx 24 (((kids.map bz).take k).flatMap Fm.cs) true 5)))∧
   h'.get nx=some (bx 24 [.int .i64 o,.bs nn,.int .i64 cm,.int .i64 m,kc] false 0)∧h'.get (nx+1)=some (bx 24 [.int .i64 0,.bs .empty,.int .i64 0,.int .i64 0,.sl0] false 0)∧aA nx h h'∧nx+2≤ax) ⟨kids.length,_,_,_,0,.sl0,rfl,by simp,by simp,?_⟩ ?_
  ·simp-implicitDefEqProofs[go_sem];simp(disch:=omega)only[aL];exact aA.refl nx h
  ·rintro mm st ⟨tm,h',ax,k,kc,rfl,rfl,hk,t1,t2,t3,t16,t17,t18,lH,g0,g1,he,dK⟩ J hJ
   refine bt aE _ ?_;have n0:¬nx=ax:=by omega
   have n1:¬nx+1=ax:=by omega
   have n2:¬a=ax:=by omega
   have LK:h'.get a=some (bx 70 [.func 147 [] [.ptr a 0]] false 0):=by rw[he a ha];exact ga
   by_cases az:k<kids.length
   ·obtain⟨s1,_,s3⟩:=qD az;simp-implicitDefEqProofs[go_sem,t16,t17,t18,az];refine ik mixed aE eO [6,8] [4] [] (by kernel_rfl) ?_;simp-implicitDefEqProofs[go_sem,t1,t2,n0,n2,g0,LK];have ck:=ih kids[k] ((h'.put ax (some (bx 24 [.int .i64 0,.bs .empty,.int .i64 0,.int .i64 0,.sl0] false 0))).put ax (some (bx 24 kids[k].cs false 0))) (ax+1) a (by omega) (by omega) (by omega) (by simp[go_sem,n2,LK]);refine zKp (by kernel_rfl) ck ?_;have e1:¬nx=ax+1:=by omega
    have e2:¬nx+1=ax+1:=by omega
    have e3:¬ax+1=nx:=by omega
    have dM:((kids.map bz).take (k+1)).flatMap Fm.cs=((kids.map bz).take k).flatMap Fm.cs++(bz kids[k]).cs:=by
     rw[List.take_succ_eq_append_getElem (show k<(kids.map bz).length by simpa using az)];simp[-List.take_append_getElem]
    have HT:=Lib.hid dM;clear dM
    rcases lH with⟨k0,AA⟩ |⟨k0,b,b1,b2,AA,b4⟩
    ·subst k0;subst AA;simp-implicitDefEqProofs[go_sem,fg,t2,t18,n0,g0,e1,aG];refine hJ (kids.length-(0+1)) _ (by omega) ⟨_,_,_,0+1,.sl (ax+1) 0 1 0 true,rfl,rfl,by omega,?_⟩;simp(disch:=omega) [go_sem,t1,t2,t3,t16,t17,aY,n0,n1,g1];refine⟨⟨ax+1,by omega,by omega,rfl,?_⟩,?_,by omega⟩
     ·have hh:=HT.out;simp at hh;simp[hh,e3]
     ·simp(disch:=omega)only[aL];exact he
    ·have nb:¬b=ax:=by omega
     have AD:¬nx=b:=by omega
     have yg:¬nx+1=b:=by omega
     have Ck:((kids.map bz).take k).length=k:=by simp;omega
     have fl:=WS ((kids.map bz).take k);rw[Ck]at fl;have fo:=PW ((kids.map bz).take k);have tR:dB (bz kids[k]).cs=true:=by cases bz kids[k];rfl
     have fl2:(bz kids[k]).cs.length=5:=by cases bz kids[k];rfl
     have hle:k+1≤16777216:=by omega
     subst AA;simp-implicitDefEqProofs[go_sem,fg,t2,t18,n0,g0,b4,nb,AD,fl,tR,fl2,hle,e1,aG];refine hJ (kids.length-(k+1)) _ (by omega) ⟨_,_,_,k+1,.sl (ax+1) 0 (k+1) 0 true,rfl,rfl,by omega,?_⟩;simp(disch:=omega) [go_sem,t1,t2,t3,t16,t17,aY,n0,n1,g1,yg];refine⟨⟨ax+1,by omega,by omega,rfl,by simp[e3,HT.out]⟩,?_,by omega⟩;simp(disch:=omega)only[aL];exact he
   ·have fq:k=kids.length:=by omega
    rcases lH with⟨k0,AA⟩ |⟨k0,b,b1,b2,AA,b4⟩
    ·have tq:kids=[]:=au (by omega);subst AA;simp-implicitDefEqProofs[go_sem,t2,t3,t17,t18,az,g0,g1];refine hR _ _ _ (.agg [.int .i64 o,.bs nn,.int .i64 cm,.int .i64 m,.sl0]) (he.put (by omega) _) (Fz.eq rfl rfl) ?_;rw[tq];exact .agg _ _ (.cons _ _ _ _ (.same _) (.cons _ _ _ _ (.same _) (.cons _ _ _ _ (.same _) (.cons _ _ _ _ (.same _) (.cons _ _ _ _ (.sl0 5 false) .nil)))))
    ·have Ow:¬b=nx+1:=by omega
     have bL:(kids.map bz).take k=kids.map bz:=ar (by simp;omega);rw[bL]at b4;have eZ:k=(kids.map bz).length:=by simp;omega
     subst AA;simp-implicitDefEqProofs[go_sem,t2,t3,t17,t18,az,g0,g1];refine hR _ _ _ (.agg [.int .i64 o,.bs nn,.int .i64 cm,.int .i64 m,.fz 5 false (cy (kids.map bz))]) (he.put (by omega) _) ?_ (.same _);rw[eZ];refine .agg _ _ (.cons _ _ _ _ (.int _ _) (.cons _ _ _ _ (.bs _) (.cons _ _ _ _ (.int _ _) (.cons _ _ _ _ (.int _ _) (.cons _ _ _ _ (LG (s:=kids.map bz) (opn:=true) (esz:=5) (by omega) ?_) .nil)))));simp[go_sem,Ow,b4]
theorem ZD (f:Fm)(hf:f.size≤1000000):ay Tryz.prog cx 94 [.agg f.cs] (.agg (bz f).cs):=by
 refine ay.mk fun h nx R hR=>aV (sz:=8) (rs:=[.cell 2 24]) aE zH0 rfl rfl rfl (by simp) ?_;have q1:¬nx=nx+1+1:=by omega
 have q2:¬nx+1=nx+1+1:=by omega
 simp-implicitDefEqProofs[go_sem,q1];refine aN.useE (zRl f.size f _ _ (nx+1+1) (ae _) hf ?_ ?_) ?_
 ·omega
 ·simp[go_sem]
 generalize bz f=g at hR;cases g with
 |mk o' n' c' m' k'=>
 simp-implicitDefEqProofs[go_sem,aB,Fm.cs];refine hR _ _ _ ?_ (Fz.eq (Be (.mk o' n' c' m' k')) rfl);simp(disch:=omega)only[aL];exact aA.refl nx h
theorem zSv:cx.ft.get 137=some Tryz.f137:=aT (by decide) (by kernel_rfl)
mutual
def iV:List ByteArray→Fm→List ByteArray
 |U,.mk o n _ _ kids=>iH (if o=3 then iJ U n else U) kids
def iH:List ByteArray→List Fm→List ByteArray
 |U,[]=>U
 |U,f::l=>iH (iV U f) l
end
def iK (U:List ByteArray):ABlk:=.map (fZ U 0) U.length
def jr (i nx:Nat)(h g:Tr ABlk):Prop:=∀k,k<nx→k≠i→g.get k=h.get k
theorem jr.put {i nx:Nat}{h g:Tr ABlk}(e:jr i nx h g){j:Nat}(hj:nx≤j∨j=i)(B:Option ABlk):jr i nx h (g.put j B):=fun k hk aQ=>by
 rw[Tr.get_put,if_neg (by omega)];exact e k hk aQ
theorem jr.trans {i nx ny:Nat}{h g f:Tr ABlk}(p:jr i nx h g)(hl:nx≤ny)(q:jr i ny g f):jr i nx h f:=fun k hk aQ=>by rw[q k (by omega) aQ,p k hk aQ]
theorem zR0 {U:List ByteArray}{x:ByteArray}(h:x∈U):iJ U x=U:=by unfold iJ;rw[if_pos h]
theorem zHd {U:List ByteArray}{x:ByteArray}(h:¬x∈U):iJ U x=U++[x]:=by unfold iJ;rw[if_neg h]
theorem zMj (n:Nat):∀(f:Fm)(U:List ByteArray)(h:Tr ABlk) (nx i:Nat)(R:AV→Tr ABlk→Nat→Prop),f.size≤n→n≤1000000→i<nx→h.get i=some (iK U)→(∀g ny,jr i nx h g→g.get i=some (iK (iV U f))→nx≤ny→R (.map i) g ny)→aN Tryz.prog cx 137 [.agg f.cs,.map i] h nx R:=by
 induction n with
 |zero=>intro f U h nx i R hf;cases f;simp[Fm.size]at hf
 |succ n ih=>
 rintro⟨o,nn,cm,m,kids⟩ U h nx i R hf hn hi gi hR
 simp only[Fm.size]at hf;simp only[iV]at hR;refine aV (sz:=25) (rs:=[.tmp 4]) aE zSv rfl rfl rfl (by simp) ?_;have kO:¬i=nx:=by omega
 have cB:¬nx=i:=by omega
 have kP:=yL kids;obtain⟨V0,kG⟩:∃V0,V0=if o=3 then iJ U nn else U:=⟨_,rfl⟩
 rw[← kG]at hR;have kJ:(¬o=3∧V0=U)∨(o=3∧nn∈U∧V0=U)∨(o=3∧¬nn∈U∧V0=U++[nn]):=by
  by_cases e3:o=3
  ·rw[if_pos e3]at kG
   by_cases hu:nn∈U
   ·exact .inr (.inl ⟨e3,hu,by rw[kG,zR0 hu]⟩)
   ·exact .inr (.inr ⟨e3,hu,by rw[kG,zHd hu]⟩)
  ·rw[if_neg e3]at kG;exact .inl ⟨e3,kG⟩
 clear kG;have Tl:h.get i=some (.map (fZ U 0) U.length):=gi
 rcases kJ with⟨e3,hV⟩ |⟨e3,hu,hV⟩ |⟨e3,hu,hV⟩
 ·simp-implicitDefEqProofs[go_sem,e3,Fm.cs];have hm:(h.put nx (some (bx 24 [.int .i64 o,.bs nn,.int .i64 cm,.int .i64 m,.fz 5 false (cy kids)] false 0))).get i=some (iK V0):=by simp[go_sem,kO,gi,hV]
  have Ce:jr i nx h (h.put nx (some (bx 24 [.int .i64 o,.bs nn,.int .i64 cm,.int .i64 m,.fz 5 false (cy kids)] false 0))):=jr.put (fun _ _ _=>rfl) (.inl (ae _)) _;generalize h.put nx (some (bx 24 [.int .i64 o,.bs nn,.int .i64 cm,.int .i64 m,.fz 5 false (cy kids)] false 0))=h0 at hm Ce;refine bT (fun mm st=>∃tm h' ax k V,st=.mk tm h' ax []∧mm=kids.length-k∧k≤kids.length∧tm.get 1=some (.map i)∧tm.get 14=some (.fz 5 false (cy kids))∧tm.get 15=some (.int .i64 (kids.length:Int))∧tm.get 16=some (.int .i64 (k:Int))∧jr i nx h h'∧h'.get i=some (iK V)∧nx≤ax∧RowKit.Hid (iH V0 kids=iH V (kids.drop k))) ⟨kids.length,_,_,_,0,V0,rfl,by simp,by simp,?_⟩ ?_
  ·simp-implicitDefEqProofs[go_sem,hm,Ce];exact Lib.hid trivial
  ·rintro mm st ⟨tm,h',ax,k,V,rfl,rfl,hk,t1,t14,t15,t16,hb,xA,dK,hv⟩ J hJ
   refine bt aE _ ?_;have n1:¬i=ax:=by omega
   by_cases az:k<kids.length
   ·obtain⟨s1,_,s3⟩:=qD az;have HD:=Lib.hid (show iH V (kids.drop k)=iH (iV V kids[k]) (kids.drop (k+1)) by rw[aj az,iH]);simp-implicitDefEqProofs[go_sem,t1,t14,t15,t16,az];refine ih kids[k] V _ _ i _ ?_ ?_ ?_ ?_ fun g ny b1 b2 b3=>?_
    ·omega
    ·omega
    ·omega
    ·simp[go_sem,n1,xA]
    simp-implicitDefEqProofs[go_sem,aB,t16];refine hJ (kids.length-(k+1)) _ (by omega) ⟨_,_,_,k+1,iV V kids[k],rfl,rfl,by omega,?_⟩;simp(disch:=omega) [go_sem,t1,t14,t15,aY];exact⟨(jr.put (jr.put hb (.inl dK) _) (.inl dK) _).trans (by omega) b1,b2,by omega,Lib.hid (by rw[hv.out,HD.out])⟩
   ·simp-implicitDefEqProofs[go_sem,t1,t15,t16,az];refine hR _ _ hb ?_ dK;rw[xA,hv.out,aq (by omega),iH]
 ·obtain⟨j,h1,h2⟩:=Jn 0 hu;rw[Nat.zero_add]at h2;have h3:=Sp h1;simp-implicitDefEqProofs[go_sem,e3,Fm.cs,kO,cB,Tl,h2];generalize dh:Tr.put _ i _=h0;have hm:h0.get i=some (iK V0):=by
   rw[← dh,hV];simp[go_sem,iK];exact h3
  have Ce:jr i nx h h0:=by
   rw[← dh];exact(jr.put (fun _ _ _=>rfl) (.inl (ae _)) _).put (.inr rfl) _
  refine bT (fun mm st=>∃tm h' ax k V,st=.mk tm h' ax []∧mm=kids.length-k∧k≤kids.length∧tm.get 1=some (.map i)∧tm.get 14=some (.fz 5 false (cy kids))∧tm.get 15=some (.int .i64 (kids.length:Int))∧tm.get 16=some (.int .i64 (k:Int))∧jr i nx h h'∧h'.get i=some (iK V)∧nx≤ax∧RowKit.Hid (iH V0 kids=iH V (kids.drop k))) ⟨kids.length,_,_,_,0,V0,rfl,by simp,by simp,?_⟩ ?_
  ·simp-implicitDefEqProofs[go_sem,hm,Ce];exact Lib.hid trivial
  ·rintro mm st ⟨tm,h',ax,k,V,rfl,rfl,hk,t1,t14,t15,t16,hb,xA,dK,hv⟩ J hJ
   refine bt aE _ ?_;have n1:¬i=ax:=by omega
   by_cases az:k<kids.length
   ·obtain⟨s1,_,s3⟩:=qD az;have HD:=Lib.hid (show iH V (kids.drop k)=iH (iV V kids[k]) (kids.drop (k+1)) by rw[aj az,iH]);simp-implicitDefEqProofs[go_sem,t1,t14,t15,t16,az];refine ih kids[k] V _ _ i _ ?_ ?_ ?_ ?_ fun g ny b1 b2 b3=>?_
    ·omega
    ·omega
    ·omega
    ·simp[go_sem,n1,xA]
    simp-implicitDefEqProofs[go_sem,aB,t16];refine hJ (kids.length-(k+1)) _ (by omega) ⟨_,_,_,k+1,iV V kids[k],rfl,rfl,by omega,?_⟩;simp(disch:=omega) [go_sem,t1,t14,t15,aY];exact⟨(jr.put (jr.put hb (.inl dK) _) (.inl dK) _).trans (by omega) b1,b2,by omega,Lib.hid (by rw[hv.out,HD.out])⟩
   ·simp-implicitDefEqProofs[go_sem,t1,t15,t16,az];refine hR _ _ hb ?_ dK;rw[xA,hv.out,aq (by omega),iH]
 ·simp-implicitDefEqProofs[go_sem,e3,Fm.cs,kO,cB,Tl,hu];generalize dh:Tr.put _ i _=h0;have hm:h0.get i=some (iK V0):=by
   rw[← dh,hV,iK,← Hu];simp[go_sem]
  have Ce:jr i nx h h0:=by
   rw[← dh];exact(jr.put (fun _ _ _=>rfl) (.inl (ae _)) _).put (.inr rfl) _
  refine bT (fun mm st=>∃tm h' ax k V,st=.mk tm h' ax []∧mm=kids.length-k∧k≤kids.length∧tm.get 1=some (.map i)∧tm.get 14=some (.fz 5 false (cy kids))∧tm.get 15=some (.int .i64 (kids.length:Int))∧tm.get 16=some (.int .i64 (k:Int))∧jr i nx h h'∧h'.get i=some (iK V)∧nx≤ax∧RowKit.Hid (iH V0 kids=iH V (kids.drop k))) ⟨kids.length,_,_,_,0,V0,rfl,by simp,by simp,?_⟩ ?_
  ·simp-implicitDefEqProofs[go_sem,hm,Ce];exact Lib.hid trivial
  ·rintro mm st ⟨tm,h',ax,k,V,rfl,rfl,hk,t1,t14,t15,t16,hb,xA,dK,hv⟩ J hJ
   refine bt aE _ ?_;have n1:¬i=ax:=by omega
   by_cases az:k<kids.length
   ·obtain⟨s1,_,s3⟩:=qD az;have HD:=Lib.hid (show iH V (kids.drop k)=iH (iV V kids[k]) (kids.drop (k+1)) by rw[aj az,iH]);simp-implicitDefEqProofs[go_sem,t1,t14,t15,t16,az];refine ih kids[k] V _ _ i _ ?_ ?_ ?_ ?_ fun g ny b1 b2 b3=>?_
    ·omega
    ·omega
    ·omega
    ·simp[go_sem,n1,xA]
    simp-implicitDefEqProofs[go_sem,aB,t16];refine hJ (kids.length-(k+1)) _ (by omega) ⟨_,_,_,k+1,iV V kids[k],rfl,rfl,by omega,?_⟩;simp(disch:=omega) [go_sem,t1,t14,t15,aY];exact⟨(jr.put (jr.put hb (.inl dK) _) (.inl dK) _).trans (by omega) b1,b2,by omega,Lib.hid (by rw[hv.out,HD.out])⟩
   ·simp-implicitDefEqProofs[go_sem,t1,t15,t16,az];refine hR _ _ hb ?_ dK;rw[xA,hv.out,aq (by omega),iH]
def JJ (B:Option ABlk) (m:Nat)(news:List AV) (e size:Nat)(h:Tr ABlk) (nx:Nat):R:=match B with
 |some (.cells _ _ _ _ _)=>match Nat.ble m 16777216 with
  |false=>.fail
  |true=>.val (.sl nx 0 m 0 true) (h.put nx (some (bx e news true size))) (nx+1)
 |_=>.fail
@[go_sem] theorem ybv (m:Nat)(news:List AV) (e size i:Nat)(h:Tr ABlk) (nx:Nat):mv true (m+1) news e size (.sl i 0 0 0 false) h nx=JJ (h.get i) (m+1) news e size h nx:=by
 unfold mv JJ;simp only;cases h.get i with
 |none=>rfl
 |some B=>
  cases B <;> try rfl
  simp only[Nat.add_eq,Nat.zero_add];cases Nat.ble (m+1) 16777216 with
  |false=>rfl
  |true=>
   simp only[Nat.mul_eq,Nat.zero_mul];have h1 (n:Nat):Nat.ble 0 n=true:=Nat.ble_eq_true_of_le (Nat.zero_le n);have h2:Nat.beq (m+1) 0=false:=rfl;simp[h1,h2]
@[go_sem] theorem zZr (t:TypeId)(l:List AV)(opn:Bool) (esz m:Nat)(news:List AV) (e size:Nat)(h:Tr ABlk) (nx:Nat)(hm:m≤16777216):JJ (some (bx t l opn esz)) m news e size h nx=.val (.sl nx 0 m 0 true) (h.put nx (some (bx e news true size))) (nx+1):=by
 have:Nat.ble m 16777216=true:=Nat.ble_eq_true_of_le hm;simp[JJ,bx,this]
theorem zzt:cx.ft.get 40=some Tryz.f40:=aT (by decide) (by kernel_rfl)
theorem zNz (full:Bool)(v:AV)(vs:List AV)(h1:dB ((v::vs).flatMap AV.cells)=true)(hl:vs.length+1≤16777216)(h:Tr ABlk) (nx:Nat)(R:AV→Tr ABlk→Nat→Prop)(hR:∀g q ny,aA nx h g→nx≤q→q<ny→g.get q=some (bx 65 ((v::vs).flatMap AV.cells) true 4)→R (.sl q 0 (vs.length+1) 0 true) g ny):aN Tryz.prog cx 40 [.fz 4 full (v::vs)] h nx R:=by
 refine aV (sz:=8) (rs:=[.tmp 2]) aE zzt rfl rfl rfl (by simp) ?_;generalize h0:(v::vs).flatMap AV.cells=fl at h1 hR;simp-implicitDefEqProofs[go_sem,-List.flatMap_cons,h0,h1,hl];refine hR _ _ _ ?_ ?_ ?_ ?_
 ·simp(disch:=omega)only[aL];exact aA.refl nx h
 ·omega
 ·omega
 ·simp[go_sem]
theorem zy5:cx.ft.get 41=some Tryz.f41:=aT (by decide) (by kernel_rfl)
theorem zLy (full:Bool)(v:AV)(vs:List AV)(h1:dB ((v::vs).flatMap AV.cells)=true)(hl:vs.length+1≤16777216)(h:Tr ABlk) (nx:Nat)(R:AV→Tr ABlk→Nat→Prop)(hR:∀g q ny,aA nx h g→nx≤q→q<ny→g.get q=some (bx 9 ((v::vs).flatMap AV.cells) true 1)→R (.sl q 0 (vs.length+1) 0 true) g ny):aN Tryz.prog cx 41 [.fz 1 full (v::vs)] h nx R:=by
 refine aV (sz:=8) (rs:=[.tmp 2]) aE zy5 rfl rfl rfl (by simp) ?_;generalize h0:(v::vs).flatMap AV.cells=fl at h1 hR;simp-implicitDefEqProofs[go_sem,-List.flatMap_cons,h0,h1,hl];refine hR _ _ _ ?_ ?_ ?_ ?_
 ·simp(disch:=omega)only[aL];exact aA.refl nx h
 ·omega
 ·omega
 ·simp[go_sem]
theorem zG3:ay Tryz.prog cx 41 [.sl0] .sl0:=by
 refine ay.mk fun h nx R hR=>aV (sz:=8) (rs:=[.tmp 2]) aE zy5 rfl rfl rfl (by simp) ?_;simp-implicitDefEqProofs[go_sem];exact hR _ _ _ (aA.refl nx h) .sl0
theorem WB:cx.ft.get 207=some Tryz.f207:=aT (by decide) (by kernel_rfl)
theorem zJ9 (full:Bool)(v:AV)(vs:List AV)(h1:dB ((v::vs).flatMap AV.cells)=true)(hl:vs.length+1≤16777216)(h:Tr ABlk) (nx:Nat)(R:AV→Tr ABlk→Nat→Prop)(hR:∀g q ny,aA nx h g→nx≤q→q<ny→g.get q=some (bx 3 ((v::vs).flatMap AV.cells) true 1)→R (.sl q 0 (vs.length+1) 0 true) g ny):aN Tryz.prog cx 207 [.fz 1 full (v::vs)] h nx R:=by
 refine aV (sz:=8) (rs:=[.tmp 2]) aE WB rfl rfl rfl (by simp) ?_;generalize h0:(v::vs).flatMap AV.cells=fl at h1 hR;simp-implicitDefEqProofs[go_sem,-List.flatMap_cons,h0,h1,hl];refine hR _ _ _ ?_ ?_ ?_ ?_
 ·simp(disch:=omega)only[aL];exact aA.refl nx h
 ·omega
 ·omega
 ·simp[go_sem]
theorem zO6:cx.ft.get 212=some Tryz.f212:=aT (by decide) (by kernel_rfl)
theorem zMy (full:Bool)(v:AV)(vs:List AV)(h1:dB ((v::vs).flatMap AV.cells)=true)(hl:vs.length+1≤16777216)(h:Tr ABlk) (nx:Nat)(R:AV→Tr ABlk→Nat→Prop)(hR:∀g q ny,aA nx h g→nx≤q→q<ny→g.get q=some (bx 154 ((v::vs).flatMap AV.cells) true 4)→R (.sl q 0 (vs.length+1) 0 true) g ny):aN Tryz.prog cx 212 [.fz 4 full (v::vs)] h nx R:=by
 refine aV (sz:=8) (rs:=[.tmp 2]) aE zO6 rfl rfl rfl (by simp) ?_;generalize h0:(v::vs).flatMap AV.cells=fl at h1 hR;simp-implicitDefEqProofs[go_sem,-List.flatMap_cons,h0,h1,hl];refine hR _ _ _ ?_ ?_ ?_ ?_
 ·simp(disch:=omega)only[aL];exact aA.refl nx h
 ·omega
 ·omega
 ·simp[go_sem]
theorem zz8:cx.ft.get 213=some Tryz.f213:=aT (by decide) (by kernel_rfl)
theorem KY:∀l:List Int,qG 1 (aI l) (aI l)
 |[]=>rfl
 |x::l=>⟨[.int .i64 x],aI l,rfl,rfl,rfl,.inr rfl,KY l⟩
theorem Td {g:Tr ABlk}{nx b:Nat}{s:List Int}{cp esz:Nat}{op opn:Bool}(hb:nx≤b)(hg:g.get b=some (bx 3 (aI s) opn esz)):Fz g nx (.sl b 0 s.length cp op) (.fz 1 false (aI s)):=
 .slz b 0 _ cp op 3 _ _ opn esz 1 (aI s) (aI s) (aI s) hb hg (by simp) (fun j hj=>by rw[Nat.zero_add,fx]) (ct.same _ (uX s)) (KY s) (Jt s)
theorem ve:∀l:List Int,dB (aI l)=true
 |[]=>rfl
 |x::l=>by
  have:=ve l;rw[show aI (x::l)=.int .i64 x::aI l from rfl];simp[dB,AV.one];exact this
theorem zLv (l:List Int) (x:Int):aI (l++[x])=aI l++[.int .i64 x]:=by simp[aI]
def gV (l:List Fc):List Int:=if eQ l then l.map Fc.lo else []
def Gx (lo nx:Nat)(h:Tr ABlk)(v:Option AV)(acc:List Int):Prop:=(acc=[]∧v=some .sl0)∨(acc≠[]∧∃b,lo≤b∧b<nx∧v=some (.sl b 0 acc.length 0 true)∧h.get b=some (bx 3 (aI acc) true 1))
end
end Go.Ev
namespace Go.Ev
open Go.Proofs Go.Sort
noncomputable section
attribute [-go_sem] dw bP
theorem zTl:cx.ft.get 200=some Tryz.f200:=aT (by decide) (by kernel_rfl)
def dq (L:List Int):List Int:=L.mergeSort fun x y=>decide (x≤y)
theorem Hk (L:List Int):(dq L).length=L.length:=by simp[dq]
theorem Qw (σ:Sg) (x:Int)(V:Value):av σ (.int .i64 x) V↔V=.int .i64 x:=by simp only[av]
theorem zzk (L:List Int)(h:Tr ABlk) (nx q cp esz:Nat)(opn bu:Bool)(hq:h.get q=some (bx 3 (aI L) bu esz))(hl:L.length<1000000000)(R:AV→Tr ABlk→Nat→Prop)(hR:R (.tup []) (h.put q (some (bx 3 (aI (dq L)) bu esz))) nx):aN Tryz.prog cx 200 [.sl q 0 L.length cp opn] h nx R:=by
 refine zyj aE zTl (fun x:Int=>AV.int .i64 x) (Value.int .i64) (fun σ x V=>Qw σ x V) (l:=L) (rest:=[]) hq (by omega) (fun d u=>d=dq L∧u=.tup []) ?_ ?_
 ·intro σ w RA b cap hk pR hH hb;simp only[aC]at pR;subst pR;rw[List.drop_zero,List.take_length]at hH;refine(Any.slices_Sort_int Tryz.lays189 b 0 cap L w hH hb (by omega)).mono ?_
  rintro e x ⟨rfl,n,os,rfl⟩
  exact⟨_,.tup [],n,os,dq L,rfl,by simp only[av];exact⟨[],rfl,by simp only[aC]⟩,Hk L,⟨rfl,rfl⟩,rfl⟩
 ·rintro d u _ ⟨rfl,rfl⟩
  have e1:L.take 0++(dq L++L.drop (0+L.length))=dq L:=by simp
  rw[e1];exact hR
end
end Go.Ev
namespace Go.Ev
open Go.Proofs
noncomputable section
attribute [-go_sem] dw bP
@[go_sem] theorem ye6 (n0:Nat)(e:TypeId) (size b:Nat)(z:Option AV) (x:Nat) (s:Nat)(y:Bool)(fs:List (Nat×Nat×Bool))(cs:List AV)(k:IntKind) (n:Nat)(h:Tr ABlk) (nx:Nat)(hn:n<n0):
  jE (.mk (.array n0 e) size b z ((x,s,y)::fs)) (.ip cs) (.int k (n:Int)) h nx=.val (.ip (cs.drop (n * s))) h nx:=by
 simp[jE,A9,iL,Nat.succ_le_of_lt hn]
theorem zP1:cx.ft.get 221=some Tryz.f221:=aT (by decide) (by kernel_rfl)
def yB (cls:Nat→Int):List AV:=(List.range 256).map fun b=>.int .u8 (cls b)
theorem zIk (cls:Nat→Int) (b:Nat)(hb:b<256):(yB cls).drop b=.int .u8 (cls b)::(yB cls).drop (b+1):=by
 have hl:b<(yB cls).length:=by simp[yB];exact hb
 rw[aj hl];simp[yB]
def yO (cls:Nat→Int)(s:ByteArray) (i:Nat):Int:=if h:i<s.size then cls (s[i]).toNat else 0
theorem zNy (cls:Nat→Int)(s:ByteArray) (i:Nat):ay Tryz.prog cx 221 [.int .i64 (i:Int),.ip [.bs s],.ip (yB cls)] (.int .u8 (yO cls s i)):=by
 refine ay.mk fun h nx R hR=>aV (sz:=14) (rs:=[.tmp 4]) aE zP1 rfl rfl rfl (by simp) ?_
 by_cases c1:i<s.size
 ·have n1:¬s.size≤i:=by omega
  have hc:yO cls s i=cls (s[i]).toNat:=by rw[yO,dif_pos c1]
  rw[hc]at hR;have hb:(s[i]).toNat<256:=(s[i]).toNat_lt;generalize hx:(s[i]).toNat=x at hR hb;have hd:=zIk cls x hb;simp-implicitDefEqProofs[go_sem,c1,n1,hx,hb,hd];exact hR _ _ _ (aA.refl _ _) (Fz.eq rfl rfl)
 ·have n1:s.size≤i:=by omega
  simp-implicitDefEqProofs[go_sem,n1];exact hR _ _ _ (aA.refl _ _) (Fz.eq rfl (by simp[yO,c1]))
end
end Go.Ev
