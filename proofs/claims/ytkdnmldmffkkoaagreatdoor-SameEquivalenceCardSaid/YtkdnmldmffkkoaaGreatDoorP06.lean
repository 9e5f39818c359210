/- Texts. -/
import Derived.TacticsIn
import Derived.RangeFuncRecord
import Derived.Test.YtkdnmldmffkkoaaGreatDoorP05
set_option linter.unusedSimpArgs false
set_option linter.unusedVariables false
set_option maxRecDepth 100000
set_option maxHeartbeats 8000000
namespace Go.Ev
variable {P : Program} {σ τ υ : Sg} {h g f : Tr ABlk} {nx ny nz : Nat} {w x y : World}
def RO (P:Program)(G:Gl)(σ:Sg)(h:Tr ABlk) (nx:Nat)(w:World)(m:Sem Next):R→Prop
 |.val v g ny=>∃V τ x,m.run P w=.ok (.value V) x∧av τ v V∧Post G σ h nx w τ g ny x
 |.unit g ny=>∃τ x,m.run P w=.ok .skip x∧Post G σ h nx w τ g ny x
 |.fail=>True
theorem RO.ofV {G:Gl}{m:Sem Value}{r:R}(hm:RV P G σ h nx w m r):RO P G σ h nx w (do pure (.value (← m))) r:=by
 cases r with
 |fail=>trivial
 |unit _ _=>exact hm.elim
 |val v g ny=>
  obtain⟨V,τ,x,h1,h2,h3⟩:=hm;exact⟨V,τ,x,by simp[h1],h2,h3⟩
theorem RO.ofU {G:Gl}{m:Sem Unit}{r:R}(hm:RU P G σ h nx w m r):RO P G σ h nx w (do m;pure .skip) r:=by
 cases r with
 |fail=>trivial
 |val _ _ _=>exact hm.elim
 |unit g ny=>
  obtain⟨τ,x,h1,h2⟩:=hm;exact⟨τ,x,by simp[h1],h2⟩
theorem RO.pure {G:Gl}(hk:Ok G σ h nx w){m:Sem Next}{V:Value}{v:AV}(hm:m.run P w=.ok (.value V) w)(hr:av σ v V):RO P G σ h nx w m (.val v h nx):=
 ⟨V,σ,w,hm,hr,.refl hk⟩
theorem bj {G:Gl}{α:Type}{m:Sem Next}{o:Option α}{k:α→R}(hh:∀v,o=some v→RO P G σ h nx w m (k v)):RO P G σ h nx w m (bR o k):=by
 cases o with
 |none=>trivial
 |some v=>exact hh v rfl
variable {c : Cx} {tm : Tr AV} {a : Act}
theorem zz0 {G:Gl}{i n esz:Nat}{e:TypeId}{cc:Tr AV}{opn:Bool}(hk:Ok G σ h nx w)(hg:h.get i=some (.cells e n cc opn esz)){b:Nat}(hb:σ.blk i=some b):
  ∃m,n≤m∧(opn=false→m=n)∧w.shape? b=some (e,m):=by
 obtain⟨b',C,fr,aS,aF,_,_,bI⟩:=hk.cells hg;rw[hb]at aS;cases aS;refine⟨C.size,by split at bI <;> omega,fun e1=>by subst e1;simpa using bI,by simp[World.shape?,aF]⟩
theorem Wz {b o m:Nat}{e:TypeId}(hs:w.shape? b=some (e,m)):(Conv.seenAt ⟨b,o,none⟩).run P w=.ok ⟨b,o,none⟩ w:=by
 simp[Conv.seenAt,viewAt,shape,Sem.run,hs]
theorem zSr {G:Gl}(hk:Ok G σ h nx w){s d:TypeId}{ts td:TI}(eG:cJ P s ts)(mO:cJ P d td)(hu:Ay td=true){v:AV}{V:Value}(hv:av σ v V):RV P G σ h nx w (convert s d V) (Dh ts v h nx):=by
 cases td with
 |mk dd d1 d2 d3 d4=>
 cases dd <;> try (cases hu;done)
 obtain⟨kQ,_⟩:=mO;unfold Dh;split
 ·rename_i t' q1 q2 q3 o0 s0 b0 fs;obtain⟨kR,inf,hi,Aq,nB,eN,hf,gE,mG⟩:=eG;have dL:=mG t' (.inr (.inr rfl)) o0 s0 b0 rfl;obtain⟨⟨it,hit,Nj⟩,_⟩:=dL;cases oX:Nat.beq s0 0 with
  |true=>trivial
  |false=>
   have sL:=mX oX;cases v <;> try trivial
   ·simp only[av]at hv;subst hv;refine SV.pure hk (V:=.pointer none) ?_ (by simp only[av]);simp[convert,run_underlying kR,run_underlying kQ,Conv.unsafePointer]
   ·rename_i i o;have bF:=hv;simp only[av]at hv;obtain⟨b,hb,e⟩:=hv;subst e;simp only;split
    ·rename_i e n cc opn esz hg;cases hle:Nat.ble (Nat.succ o) n with
     |false=>trivial
     |true=>
      have az:o<n:=ah hle;obtain⟨m,hm,_,qp⟩:=zz0 hk hg hb;have eE:¬m≤o:=by omega
      refine SV.pure hk (V:=.pointer (some ⟨b,o,none⟩)) ?_ bF;simp[convert,run_underlying kR,run_underlying kQ,Conv.unsafePointer,Wz qp,cellsIn,shape,Sem.run,qp,nN hit,Nj,sL,eE]
    ·trivial
 ·trivial
theorem zSj (hc:CxOk P c)(hk:Ok c.G σ h nx w){s d:TypeId}{ts td:TI}(eG:cJ P s ts)(mO:cJ P d td)(hu:Ay ts=true){v:AV}{V:Value}(hv:av σ v V):RV P c.G σ h nx w (convert s d V) (G9 c d td v h nx):=by
 cases ts with
 |mk ds d1 d2 d3 d4=>
 cases ds <;> try (cases hu;done)
 obtain⟨kR,_⟩:=eG;unfold G9;split
 ·rename_i u q1 q2 q3 p0 q4;obtain⟨o0,su,b0⟩:=p0;obtain⟨kQ,qau,_,_,_,_,_,_,mG⟩:=mO;have dL:=mG u (.inr (.inr rfl)) o0 su b0 rfl;obtain⟨⟨iu,hiu,qai⟩,_⟩:=dL;cases v <;> try trivial
  ·simp only[av]at hv;subst hv;refine SV.pure hk (V:=.pointer none) ?_ (by simp only[av]);simp[convert,run_underlying kR,run_underlying kQ,Conv.unsafePointer]
  ·rename_i i o;have bF:=hv;simp only[av]at hv;obtain⟨b,hb,e⟩:=hv;subst e;simp only;split
   ·rename_i e n cc esz hg;split
    ·rename_i de se b1 b2 b3 iG;obtain⟨_,ie,Cg,sM,_⟩:=hc.tt e _ iG;cases hl:c.lies e (Nat.div n se) o u with
     |false=>trivial
     |true=>
      have Fu:=hc.lies e (Nat.div n se) o u hl;obtain⟨m,_,hm,qp⟩:=zz0 hk hg hb;have vN:=hm rfl;subst vN;have MQ:P.cellsOf e=se:=by simp[Program.cellsOf,Cg,sM]
      have Cs:(variablesAt ⟨b,o,none⟩ u 1).run P w=.ok true w:=by
       have zX:liesAt P P.depth e (m / se) o u 1=true:=Fu;simp[variablesAt,shape,Sem.run,qp,MQ,zX]
      refine SV.pure hk (V:=.pointer (some ⟨b,o,none⟩)) ?_ bF;simp[convert,run_underlying kR,run_underlying kQ,Conv.unsafePointer,Wz qp,nN hiu,Cs]
    ·trivial
   ·trivial
 ·trivial
theorem Rb (hc:CxOk P c)(hk:Ok c.G σ h nx w)(ht:jQ σ tm a)(o:Oper):RO P c.G σ h nx w (execOp a.eval o) (jF c o.op tm h nx):=by
 obtain⟨dst,op,type,pos,after,guard⟩:=o;have he:∀{x v},aM c.G tm x=some v→av σ v (a.eval x):=fun e=>jT hk ht e;have hT:∀(t:TypeId) (ti:TI),c.tt.get t=some ti→cJ P t ti:=hc.tt;show RO P c.G σ h nx w (execOp a.eval _) (jF c op tm h nx);unfold jF;cases op <;> try trivial
 ·exact bj fun v e=>RO.pure hk rfl (he e)
 ·exact bj fun v e=>RO.pure hk rfl (he e)
 ·rename_i x b d;refine bj fun v e=>?_;have hv:=he e;split
  ·simp only[av]at hv;exact bj fun v e=>RO.pure hk (by simp[execOp,hv,asBool]) (he e)
  ·simp only[av]at hv;exact bj fun v e=>RO.pure hk (by simp[execOp,hv,asBool]) (he e)
  ·trivial
 ·exact bj fun ti e=>RO.ofV (zJd hk _ (hT _ _ e))
 ·exact bj fun v e=>RO.ofV (zP4 hk _ (he e))
 ·refine bj fun ti e=>bj fun l e2=>RO.ofV (zRm hk _ (hT _ _ e) ?_);have:=KV hk ht e2;simpa using this
 ·refine bj fun ti e=>bj fun l e2=>RO.ofV (Y8 hk _ (hT _ _ e) (hT _) _ ?_);have:=KV hk ht e2;simpa using this
 ·exact bj fun ti e=>bj fun m e1=>bj fun k e2=>bj fun v e3=>RO.ofU (Zt hk _ (hT _ _ e) (hT _) (he e1) (he e2) (he e3))
 ·exact bj fun ti e=>bj fun v e1=>RO.ofV (zSc hk _ (hT _ _ e) (he e1))
 ·exact bj fun ti e=>bj fun v e1=>bj fun u e2=>RO.ofU (Xs hk _ (hT _ _ e) (he e1) (he e2))
 ·refine bj fun v e=>?_;have hv:=he e;split
  ·have bF:=hv;simp only[av]at hv;obtain⟨b,_,e1⟩:=hv;exact RO.pure hk (by simp[execOp,e1]) bF
  ·have bF:=hv;simp only[av]at hv;obtain⟨A,C,e1,_⟩:=hv;exact RO.pure hk (by simp[execOp,e1]) bF
  ·have bF:=hv;simp only[av]at hv;obtain⟨b,_,_,_,e1,_⟩:=hv;exact RO.pure hk (by simp[execOp,e1]) bF
  ·trivial
 ·exact bj fun ti e=>bj fun v e1=>bj fun u e2=>RO.ofV (zQ5 hk _ (hT _ _ e) (hc.eq _) _ (he e1) (he e2) _ _)
 ·exact bj fun v e=>RO.ofV (zG0 hk _ (he e))
 ·refine bj fun ts e=>bj fun td e1=>?_;split
  ·refine bj fun ts' e'=>bj fun td' jY=>bj fun v e2=>?_;split
   ·exact RO.ofV (zUg hk (hT _ _ e') (hT _ _ jY) (hT _) (he e2))
   ·exact RO.ofV (zU2 hk (hT _ _ e') (hT _ _ jY) (hT _) (he e2))
  ·rename_i UC jL;exact bj fun v e2=>RO.ofV (zSr hk (hT _ _ e) (hT _ _ e1) UC (he e2))
  ·rename_i UC jL;exact bj fun v e2=>RO.ofV (zSj hc hk (hT _ _ e) (hT _ _ e1) jL (he e2))
  ·trivial
 ·exact bj fun ti e=>bj fun v e1=>RO.ofV (zJ0 hk _ (hT _ _ e) (he e1))
 ·rename_i fn first cap
  cases fn <;> try trivial
  refine bj fun l e=>bj fun l2 e2=>RO.pure hk rfl ?_;simp only[av];exact⟨first.toList.map a.eval,cap.toList.map a.eval,by
   have DZ:∀(q:Array Operand),q.map a.eval=(q.toList.map a.eval).toArray:=fun q=>by apply Array.ext';simp
   rw[← DZ,← DZ],tB hk ht e,tB hk ht e2⟩
 ·rename_i t r;cases r with
  |some x=>trivial
  |none=>exact RO.ofV (zM1 hk t)
 ·exact bj fun ti e=>bj fun v e1=>bj fun u e2=>RO.ofV (zNr hk _ (hT _ _ e) (hT _) (he e1) (he e2))
 ·exact bj fun ti e=>bj fun v e1=>bj fun lo e2=>bj fun hi e3=>bj fun mx e4=>RO.ofV (zRi hk _ (hT _ _ e) (he e1) (Sz hk ht e2) (Sz hk ht e3) (Sz hk ht e4))
 ·exact bj fun ti e=>bj fun v e1=>RO.ofV (zHc hk _ (hT _ _ e) (he e1) _)
 ·exact bj fun ti e=>bj fun v e1=>RO.ofV (zNh hk _ (hT _ _ e) (he e1) _)
 ·exact bj fun ti e=>bj fun v e1=>bj fun u e2=>RO.ofV (zM6 hk _ (hT _ _ e) (he e1) (he e2))
 ·exact bj fun ti e=>bj fun v e1=>bj fun u e2=>RO.ofV (zSs hk _ (hT _ _ e) (he e1) (he e2))
 ·exact bj fun ti e=>bj fun v e1=>bj fun u e2=>RO.ofV (zJa hk _ (hT _ _ e) (hT _) (hT _) _ (he e1) (he e2))
 ·exact bj fun ti e=>bj fun m e1=>bj fun k e2=>bj fun v e3=>RO.ofU (Zt hk _ (hT _ _ e) (hT _) (he e1) (he e2) (he e3))
 ·exact bj fun ti e=>bj fun v e1=>RO.ofV (zTg hk _ _ (hT _ _ e) _ (he e1))
 ·exact bj fun v e=>RO.ofV (zQ2 hk (he e) _)
 ·rename_i cl;obtain⟨callee,args,argTypes⟩:=cl;cases callee <;> try trivial
  rename_i b;show RO P c.G σ h nx w _ (A8 c b args argTypes tm h nx);refine bj fun l e=>?_;have hl:=tB hk ht e;have hx:∀r,RO P c.G σ h nx w (builtin b argTypes type (args.map fun |.const _=>true |_=>false) (args.map a.eval)) r→RO P c.G σ h nx w (execOp a.eval ⟨dst,.call ⟨.builtin b,args,argTypes⟩,type,pos,after,guard⟩) r:=fun r hr=>by
   have e1:execOp a.eval ⟨dst,.call ⟨.builtin b,args,argTypes⟩,type,pos,after,guard⟩=builtin b argTypes type (args.map fun |.const _=>true |_=>false) (args.map a.eval):=by
    rfl
   rw[e1];exact hr
  have N9:∀t,argTypes.toList.head?=some t→argTypes[0]?=some t:=fun t e=>by
   rw[← Array.getElem?_toList,← List.head?_eq_getElem?];exact e
  have one:∀{A:AV},aC σ [A] (args.toList.map a.eval)→∃V,args.map a.eval=#[V]∧av σ A V:=fun {A} hr=>by
   simp only[aC]at hr;obtain⟨V,L,e1,e2,e3⟩:=hr;subst e3;refine⟨V,?_,e2⟩;apply Array.ext';simpa using e1
  have two:∀{A B:AV},aC σ [A,B] (args.toList.map a.eval)→∃V U,args.map a.eval=#[V,U]∧av σ A V∧av σ B U:=fun {A B} hr=>by
   simp only[aC]at hr;obtain⟨V,L,e1,e2,U,L2,e3,e4,e5⟩:=hr;subst e5;subst e3;refine⟨V,U,?_,e2,e4⟩;apply Array.ext';simpa using e1
  have arr:args.map a.eval=(args.toList.map a.eval).toArray:=by
   apply Array.ext';simp
  cases b <;> try trivial
  ·
   show RO P c.G σ h nx w _ (QZ c argTypes l h nx);unfold QZ;split
   ·rename_i t u eG;refine bj fun ti e1=>bj fun tu e2=>?_;split
    ·rename_i A B;obtain⟨V,U,e3,r1,r2⟩:=two hl;have sS:argTypes=#[t,u]:=by apply Array.ext';simpa using eG
     refine hx _ (RO.ofV ?_);rw[e3,sS];exact Wt hk t u type (hT _ _ e1) (hT _ _ e2) (hT _) r1 r2
    ·trivial
   ·trivial
  ·
   refine bj fun t e1=>bj fun ti e2=>?_;split
   ·obtain⟨V,e3,r1⟩:=one hl;refine hx _ (RO.ofV ?_);rw[e3];exact zQu hk (hT _ _ e2) r1 argTypes (N9 _ e1) type
   ·trivial
  ·
   refine bj fun t e1=>bj fun ti e2=>?_;split
   ·obtain⟨V,U,e3,r1,r2⟩:=two hl;refine hx _ (RO.ofV ?_);rw[e3];exact zGz hk t (hT _ _ e2) (hT _) argTypes (N9 _ e1) type r1 r2
   ·trivial
  ·
   refine bj fun t e1=>bj fun ti e2=>?_;split
   ·obtain⟨V,e3,r1⟩:=one hl;refine hx _ (RO.ofV ?_);rw[e3];exact zL0 hk (hT _ _ e2) r1 argTypes (N9 _ e1) type
   ·trivial
  ·refine hx _ (RO.ofV ?_);rw[arr];exact zxw hk true argTypes type hl
  ·refine hx _ (RO.ofV ?_);rw[arr];exact zxw hk false argTypes type hl
  ·
   show RO P c.G σ h nx w _ (HL l h nx);unfold HL;split
   ·obtain⟨V,e3,r1⟩:=one hl;refine hx _ (RO.ofV ?_);rw[e3];exact zJp hk argTypes type r1
   ·trivial
  ·
   show RO P c.G σ h nx w _ (HO c argTypes l h nx);unfold HO;split
   ·rename_i t u eG;refine bj fun ti e1=>?_;split
    ·obtain⟨V,U,e3,r1,r2⟩:=two hl;have sS:argTypes=#[t,u]:=by apply Array.ext';simpa using eG
     refine hx _ (RO.ofV ?_);rw[e3,sS];exact zU5 hk (hT _ _ e1) u type r1 r2
    ·trivial
   ·trivial
end Go.Ev
namespace Go.Ev
noncomputable section
variable {P : Program} {G : Gl} {c : Cx} {σ τ υ : Sg} {h g f : Tr ABlk} {nx ny nz : Nat} {w x y : World} {tm : Tr AV} {a : Act}
def toL (c:Tr AV) (n:Nat):List AV:=(List.range n).map fun k=>(c.get k).getD (.tup [])
def bx (t:TypeId)(l:List AV)(opn:Bool) (esz:Nat):ABlk:=.cells t l.length (ef l .nil 0) opn esz
theorem fx (l:List AV) (k:Nat):(ef l .nil 0).get k=l[k]?:=by
 rw[pz];split
 ·simp
 ·rw[List.getElem?_eq_none (by omega)];rfl
theorem zKg (l:List AV):toL (ef l .nil 0) l.length=l:=by
 apply List.ext_getElem?;intro k;simp only[toL,List.getElem?_map,fx]
 by_cases hk:k<l.length
 ·simp[hk]
 ·simp[Nat.not_lt.1 hk]
theorem uC (c:Tr AV) (n:Nat):(toL c n).length=n:=by simp[toL]
def BE:ABlk→ABlk→Prop
 |.cells e n c opn esz,B=>∃c',B=.cells e n c' opn esz∧∀k,k<n→c'.get k=c.get k
 |A,B=>A=B
theorem BE.refl (A:ABlk):BE A A:=by cases A <;> first |rfl |exact⟨_,rfl,fun _ _=>rfl⟩
theorem bX.be {i:Nat}{A B:ABlk}{o:Obj}(hb:BE A B)(hr:bX σ i A o):bX σ i B o:=by
 cases A <;> try (cases hb;exact hr)
 rename_i e n c opn esz;obtain⟨c',e1,h1⟩:=hb;subst e1;simp only[bX]at hr ⊢;obtain⟨C,fr,e2,h2,h3,h4⟩:=hr;refine⟨C,fr,e2,fun k hk=>?_,h3,h4⟩;obtain⟨v,V,q1,q2,q3⟩:=h2 k hk;exact⟨v,V,by rw[h1 k hk];exact q1,q2,q3⟩
def HE (h g:Tr ABlk):Prop:=∀i B,g.get i=some B→∃A,h.get i=some A∧BE A B
theorem Ok.he (hk:Ok G σ h nx w)(he:HE h g):Ok G σ g nx w:=by
 refine⟨hk.glob,hk.le,hk.fresh,fun i j b B B' h1 h2 h3 h4=>?_,fun i B h1=>?_,fun b C hb=>⟨(hk.imm b C hb).1,fun i B h1=>?_⟩,hk.gl⟩
 ·obtain⟨A,a1,_⟩:=he i B h1;obtain⟨A',a2,_⟩:=he j B' h2;exact hk.inj i j b A A' a1 a2 h3 h4
 ·obtain⟨A,a1,a2⟩:=he i B h1;obtain⟨b,o,q1,q2,q3⟩:=hk.blk i A a1;exact⟨b,o,q1,q2,q3.be a2⟩
 ·obtain⟨A,a1,a2⟩:=he i B h1;exact(hk.imm b C hb).2 i A a1
theorem Post.he (p:Post G σ h nx w τ g ny x)(he:HE g f):Post G σ h nx w τ f ny x:=by
 refine⟨p.ok.he he,p.le,⟨p.fr.os,p.fr.tape,p.fr.output,p.fr.size,p.fr.keep,fun i B b h1 h2=>?_,p.fr.imm⟩,p.nx⟩;obtain⟨A,a1,_⟩:=he i B h1;exact p.fr.own i A b a1 h2
theorem HE.put {h:Tr ABlk}{i:Nat}{A B:ABlk}(hb:BE A B):HE (h.put i (some A)) (h.put i (some B)):=by
 intro j B' hj;rw[Tr.get_put]at hj ⊢
 by_cases e:j=i
 ·rw[if_pos e]at hj ⊢;cases hj;exact⟨A,rfl,hb⟩
 ·rw[if_neg e]at hj ⊢;exact⟨B',hj,.refl B'⟩
def Ka (ti:TI)(a v:AV)(h:Tr ABlk) (nx:Nat):R:=
 match ti with
 |.mk _ size _ _ _=>
  match a with
  |.ptr i o=>
   match h.get i with
   |some (.cells e n c opn esz)=>
    match dB v.cells && Nat.beq v.cells.length size && Nat.ble (Nat.add o size) n with
    |true=>.unit (h.put i (some (bx e (aG (toL c n) o v.cells) opn esz))) nx
    |false=>.fail
   |_=>.fail
  |_=>.fail
theorem zGw (hk:Ok G σ h nx w)(t:TypeId){ti:TI}(ht:cJ P t ti){a v:AV}{A V:Value}(ha:av σ a A)(hv:av σ v V):RU P G σ h nx w (Instr.storeAt t A V) (Ka ti a v h nx):=by
 have h0:=Xs hk t ht ha hv;cases ti with
 |mk d size bytes zero fs=>
 unfold Ka;cases a <;> try trivial
 rename_i i o;simp only;split
 ·rename_i e n c opn esz hg;split
  ·rename_i hb;simp only[al]at hb;obtain⟨⟨b1,b2⟩,b3⟩:=hb;unfold JO at h0;simp only[hg,b1,b2,b3,kY,Tr.putK_eq]at h0;obtain⟨τ,x,q1,q2⟩:=h0;refine⟨τ,x,q1,q2.he (HE.put ?_)⟩;have e2:=ad b2;have e3:o+size≤n:=ah b3;have hlen:(aG (toL c n) o v.cells).length=n:=by rw[P9 (by rw[uC];omega),uC]
   refine⟨ef (aG (toL c n) o v.cells) .nil 0,by rw[bx,hlen],fun k aU=>?_⟩;obtain⟨b',C,fr,_,_,aK,_,_⟩:=hk.cells hg;rw[fx,XZ (by rw[uC];omega),pz];split
   ·rfl
   ·obtain⟨u,_,hu,_⟩:=aK k aU;rw[hu];simp[toL,aU,hu]
  ·trivial
 ·trivial
def G5 (ti tu:TI)(te:Option TI)(et:TypeId)(s x:AV)(h:Tr ABlk) (nx:Nat):R:=
 match ti,tu,te with
 |.mk d _ _ _ _,.mk du _ _ _ _,some (.mk _ size bytes (some _) _)=>match d with
  |.slice e=>match Nat.beq e et && yQ du && Nat.ble bytes 65536 && Nat.ble 1 size with
   |false=>.fail
   |true=>match qE size x h with
    |none=>.fail
    |some (m,news)=>match dB news with
     |false=>.fail
     |true=>match s with
      |.sl0=>match Nat.beq m 0 with
       |true=>.val .sl0 h nx
       |false=>match Nat.ble m 16777216 with
        |true=>.val (.sl nx 0 m 0 true) (h.put nx (some (bx e news true size))) (nx+1)
        |false=>.fail
      |.fz es full xs=>match Nat.beq es size && full with
       |false=>.fail
       |true=>match Nat.beq m 0 with
        |true=>.val (.fz es true xs) h nx
        |false=>match Nat.ble (Nat.add xs.length m) 16777216 with
         |true=>.val (.sl nx 0 (xs.length+m) 0 true) (h.put nx (some (bx e (xs.flatMap AV.cells++news) true size))) (nx+1)
         |false=>.fail
      |.sl i o len cp opn=>match h.get i with
       |some (.cells e' n cs bu esz)=>match Nat.ble (Nat.add len m) 16777216 with
        |false=>.fail
        |true=>match opn with
         |true=>match Nat.beq o 0 && Nat.beq cp 0 && bu && Nat.beq esz size && Nat.beq e' e && Nat.beq (Nat.mul len size) n with
          |true=>.val (.sl nx 0 (len+m) 0 true) ((h.put i none).put nx (some (bx e (toL cs n++news) true size))) (nx+1)
          |false=>.fail
         |false=>match Nat.beq cp len && Nat.ble (Nat.add o (Nat.mul len size)) n with
          |false=>.fail
          |true=>match Nat.beq m 0 with
           |true=>.val (.sl i o len cp false) h nx
           |false=>.val (.sl nx 0 (len+m) 0 true) (h.put nx (some (bx e (((toL cs n).drop o).take (Nat.mul len size)++news) true size))) (nx+1)
       |_=>.fail
      |_=>.fail
  |_=>.fail
 |_,_,_=>.fail
theorem zOd {c:Tr AV}{n k:Nat}{v:AV}(hk:k<n)(hv:c.get k=some v):(toL c n)[k]?=some v:=by simp[toL,hk,hv]
theorem Q1 {c:Tr AV}:∀{n o:Nat}{l:List AV},l.length=n→(∀k,k<n→c.get (o+k)=l[k]?)→iI c n o=some l
 |0,o,l,e,_=>by
  have:l=[]:=au e;subst this;rfl
 |n+1,o,l,e,h=>by
  cases l with
  |nil=>simp at e
  |cons v l=>
   have h0:=h 0 (by omega);have ih:=Q1 (c:=c) (n:=n) (o:=o+1) (l:=l) (by simpa using e) fun k hk=>by
    have:=h (k+1) (by omega);rw[show o+(k+1)=o+1+k by omega]at this;simpa using this
   show (match c.get o with
    |some v=>fN (Nat.succ o) fun o'=>(match iI c n o' with |some l=>some (v::l) |none=>none)
    |none=>none)=_
   simp only[Nat.add_zero,List.getElem?_cons_zero]at h0;rw[h0];simp only[fN_eq];rw[show Nat.succ o=o+1 from rfl,ih]
theorem SV.he {m:Sem Value}{v:AV}(hs:SV P G σ h nx w m v g ny)(he:HE g f):SV P G σ h nx w m v f ny:=by
 obtain⟨V,τ,x,q1,q2,q3⟩:=hs;exact⟨V,τ,x,q1,q2,q3.he he⟩
theorem Qo {a b:Nat}(h:b<a):Nat.ble a b=false:=by
 cases e:Nat.ble a b with
 |false=>rfl
 |true=>have:=ah e;omega
theorem zKl (hk:Ok G σ h nx w)(t u ty:TypeId){ti tu:TI}(ht:cJ P t ti)(II:cJ P u tu){te:Option TI}{et:TypeId}(iG:∀ti,te=some ti→cJ P et ti){s x:AV}{S X:Value}(hs:av σ s S)(hx:av σ x X):
  RV P G σ h nx w (Builtin.append_ #[t,u] ty #[S,X]) (G5 ti tu te et s x h nx):=by
 have h0:=Wt hk t u ty ht II iG hs hx;unfold G5;split
 ·rename_i d q1 q2 q3 q4 du q5 q6 q7 q8 de size bytes z OE;clear ht II iG;cases d <;> try trivial
  rename_i e;simp only;split
  ·trivial
  ·rename_i hb;simp only[al]at hb;obtain⟨⟨⟨b1,b2⟩,b3⟩,b4⟩:=hb;have D7:1≤size:=ah b4;unfold Ll at h0;simp only[b1,b2,b3]at h0;split
   ·trivial
   ·rename_i m news vW;obtain⟨NL,cI,cY,_⟩:=Yp (P:=P) hk hx vW;simp only[vW]at h0;split
    ·trivial
    ·rename_i lI;simp only[lI]at h0;cases s <;> try trivial
     ·
      simp only at h0 ⊢;split
      ·rename_i hm;simp only[hm]at h0;exact h0
      ·rename_i hm;simp only[hm]at h0;split
       ·rename_i qg;simp only[qg,yw,kY,fN_eq,Tr.putK_eq]at h0;have e1:Nat.mul m size=news.length:=cY.symm;rw[e1]at h0;exact h0
       ·trivial
     ·
      rename_i i o len cp opn;simp only at h0 ⊢;split
      ·rename_i e' n cs bu esz hg;obtain⟨b',C,fr,aS,aF,aK,_,_⟩:=hk.cells hg;have IH:∀k,k<n→cs.get k=(toL cs n)[k]?:=by
        intro k aU;obtain⟨v,_,hv,_⟩:=aK k aU;rw[hv,zOd aU hv]
       split
       ·trivial
       ·rename_i sD;simp only[sD,hg]at h0;cases opn with
        |true=>
         simp only at h0 ⊢;split
         ·rename_i aR;simp only[al]at aR;obtain⟨⟨⟨⟨⟨a1,a2⟩,a3⟩,a4⟩,a5⟩,a6⟩:=aR;have nU:=ad a1;have BR:=ad a2;have SO:=ad a4;have a5':=ad a5;have SP:len * size=n:=ad a6;subst nU;subst BR;subst a3;subst SO;subst a5';have vL:Nat.ble (Nat.add 0 (Nat.mul len esz)) n=true:=Nat.ble_eq_true_of_le (by show 0+len * esz≤n;omega);simp only[vL,Nat.beq_refl,Bool.and_self,b4]at h0
          by_cases hm:m=0
          ·subst hm;have sE:news=[]:=au (by rw[cY];simp);subst sE;have ib:Nat.ble (Nat.mul (Nat.add len 0) esz) n=true:=Nat.ble_eq_true_of_le (by show (len+0) * esz≤n;simp;omega);simp only[ib,kY,Tr.putK_eq,fN_eq,ef]at h0;obtain⟨V,τ,y,r1,r2,r3⟩:=h0;have Ud:((h.put i (some (ABlk.cells e' n cs true esz))).get i)=some (.cells e' n cs true esz):=by rw[Tr.get_put,if_pos rfl]
           simp only[av]at r2;obtain⟨bb,Cd,eV,hle⟩:=r2;obtain⟨bb',oo,vy,hoo,Uy⟩:=r3.ok.blk i _ Ud;rw[Cd]at vy;cases vy;have az:i<nx:=hk.lt hg;have NZ:bX (τ.add nx bb (τ.cap i)) nx (.cells e' n cs true esz) oo:=by
            have mJ:τ.Le (τ.add nx bb (τ.cap i)):=Sg.add_le (r3.ok.fresh nx (ae _));simp only[bX]at Uy ⊢;obtain⟨C2,fr2,e2,k1,k2,k3⟩:=Uy;refine⟨C2,fr2,e2,fun k aU=>?_,k2,?_⟩
            ·obtain⟨v,V',w1,w2,w3⟩:=k1 k aU;exact⟨v,V',w1,w2,w3.mono mJ⟩
            ·simpa[Sg.add]using k3
           have hr:=Post.rename r3.ok Ud Cd (.cells e' n cs true esz) oo hoo NZ;refine⟨V,_,y,r1,?_,(r3.trans hr).he ?_⟩
           ·simp only[av,if_true]at eV hle ⊢;refine⟨bb,by simp[Sg.add],?_,?_⟩
            ·simpa[Sg.add]using eV
            ·simpa[Sg.add]using hle
           ·intro j B hj;rw[Tr.get_put]at hj ⊢
            by_cases ej:j=nx
            ·rw[if_pos ej]at hj ⊢;cases hj;refine⟨_,rfl,ef (toL cs n++[]) .nil 0,?_,fun k aU=>?_⟩
             ·simp[bx,uC]
             ·rw[fx,List.append_nil];exact(IH k aU).symm
            ·rw[if_neg ej]at hj ⊢;rw[Tr.get_put]at hj ⊢;split at hj
             ·cases hj
             ·rename_i eD;refine⟨B,?_,.refl B⟩;rw[if_neg eD,Tr.get_put,if_neg eD];exact hj
          ·have ib:Nat.ble (Nat.mul (Nat.add len m) esz) n=false:=Qo (by
            show n<(len+m) * esz;rw[Nat.add_mul];have:1 * 1≤m * esz:=Nat.mul_le_mul (by omega) D7;omega)
           simp only[ib,kY,Tr.putK_eq,fN_eq]at h0;refine SV.he h0 (HE.put ?_);have oT:Nat.mul (Nat.add len m) esz=n+news.length:=by
            show (len+m) * esz=_;rw[Nat.add_mul,cY,SP]
           refine⟨ef (toL cs n++news) .nil 0,by simp only[bx,List.length_append,uC,oT],fun k aU=>?_⟩;rw[oT]at aU;rw[fx,pz];have hmul:Nat.mul len esz=n:=SP;rw[hmul]
           by_cases Iv:k<n
           ·rw[if_neg (by omega),List.getElem?_append_left (by rw[uC];exact Iv),IH k Iv]
           ·rw[if_pos (by omega),List.getElem?_append_right (by rw[uC];omega),uC]
         ·trivial
        |false=>
         simp only at h0 ⊢;split
         ·trivial
         ·rename_i aR;simp only[al]at aR;obtain⟨a1,a2⟩:=aR;have nU:=ad a1;subst nU;have BR:o+cp * size≤n:=ah a2;simp only[a2]at h0
          by_cases hm:m=0
          ·subst hm;have sE:news=[]:=au (by rw[cY];simp);subst sE;have cq:Nat.ble (Nat.add cp 0) cp=true:=Nat.ble_eq_true_of_le (ae _);have ib:Nat.ble (Nat.add o (Nat.mul (Nat.add cp 0) size)) n=true:=a2;simp only[cq,ib,kY,Tr.putK_eq,fN_eq,ef]at h0;simp only[];refine SV.he h0 fun j B hj=>?_;rw[Tr.get_put]
           by_cases ej:j=i
           ·subst ej;rw[hg]at hj;cases hj;exact⟨_,by rw[if_pos rfl],.refl _⟩
           ·rw[if_neg ej];exact⟨B,hj,.refl B⟩
          ·have cq:Nat.ble (Nat.add cp m) cp=false:=Qo (by show cp<cp+m;omega);have Aa:Nat.beq m 0=false:=by
            cases e0:Nat.beq m 0 with
            |false=>rfl
            |true=>exact absurd (ad e0) hm
           have Fi:iI cs (Nat.mul cp size) o=some (((toL cs n).drop o).take (Nat.mul cp size)):=by
            have hmul:Nat.mul cp size=cp * size:=rfl;refine Q1 (by simp[uC];omega) fun k aU=>?_;rw[hmul]at aU;rw[IH (o+k) (by omega),List.getElem?_take,if_pos (by rw[hmul];exact aU),List.getElem?_drop]
           simp only[cq,Fi,yw,kY,Tr.putK_eq,fN_eq]at h0;simp only[Aa];have oT:Nat.mul (Nat.add cp m) size=(((toL cs n).drop o).take (Nat.mul cp size)++news).length:=by
            have hmul:Nat.mul cp size=cp * size:=rfl;rw[List.length_append,List.length_take,List.length_drop,uC,cY,hmul,Nat.min_eq_left (by omega)];show (cp+m) * size=_;rw[Nat.add_mul]
           rw[oT]at h0;exact h0
      ·trivial
     ·
      rename_i es full xs;simp only at h0 ⊢;split
      ·trivial
      ·rename_i aR;simp only[al]at aR;obtain⟨a1,a2⟩:=aR;subst a2;simp only[a1]at h0;split
       ·rename_i hm;simp only[hm]at h0;exact h0
       ·rename_i hm;simp only[hm]at h0;split
        ·rename_i qg;simp only[qg,yw,kY,fN_eq,Tr.putK_eq]at h0;obtain⟨_,_,_,_,_,g2,_⟩:=hk.fz (P:=P) hs;have e0:=ad a1;have e1:Nat.mul (Nat.add xs.length m) size=(xs.flatMap AV.cells++news).length:=by
          rw[List.length_append,g2,cY,← e0];show (xs.length+m) * es=_;rw[Nat.add_mul,e0]
         rw[e1]at h0;exact h0
        ·trivial
 ·trivial
end
end Go.Ev
namespace Go.Ev
noncomputable section
variable {P : Program} {c : Cx} {σ τ υ : Sg} {h g f : Tr ABlk} {nx ny nz : Nat} {w x y : World} {tm : Tr AV} {a : Act}
def Bp (c:Cx)(t:TypeId)(x y:Operand)(tm:Tr AV)(h:Tr ABlk) (nx:Nat):R:=bR (c.tt.get t) fun ti=>bR (aM c.G tm x) fun a=>bR (aM c.G tm y) fun v=>Ka ti a v h nx
def wD (c:Cx)(argTypes:List TypeId)(args:List Operand)(tm:Tr AV)(h:Tr ABlk) (nx:Nat):R:=match argTypes with
 |[t,u]=>bR (c.tt.get t) fun ti=>bR (c.tt.get u) fun tu=>match args with
  |[x,y]=>bR (aM c.G tm x) fun a=>bR (aM c.G tm y) fun b=>G5 ti tu (c.tt.get (kr ti)) (kr ti) a b h nx
  |_=>.fail
 |_=>.fail
def KC:Call→Bool
 |⟨.builtin .append,_,_⟩=>true
 |_=>false
def gU (c:Cx)(op:Op):Tr AV→Tr ABlk→Nat→R:=
 match op with
 |.store t x y=>Bp c t x y
 |.call cl=>match KC cl with
  |true=>wD c cl.argTypes.toList cl.args.toList
  |false=>Kz c cl
 |op=>jF c op
theorem Qq (hc:CxOk P c)(hk:Ok c.G σ h nx w)(ht:jQ σ tm a)(o:Oper):RO P c.G σ h nx w (execOp a.eval o) (gU c o.op tm h nx):=by
 have h0:=Rb hc hk ht o;have he:∀{x v},aM c.G tm x=some v→av σ v (a.eval x):=fun e=>jT hk ht e;have hT:∀(t:TypeId) (ti:TI),c.tt.get t=some ti→cJ P t ti:=hc.tt;obtain⟨dst,op,type,pos,after,guard⟩:=o;cases op <;> try exact h0
 ·exact bj fun ti e=>bj fun v e1=>bj fun u e2=>RO.ofU (zGw hk _ (hT _ _ e) (he e1) (he e2))
 ·rename_i cl;obtain⟨callee,args,argTypes⟩:=cl;cases callee <;> try exact h0
  rename_i b;cases b <;> try exact h0
  clear h0;show RO P c.G σ h nx w _ (wD c argTypes.toList args.toList tm h nx);unfold wD;split
  ·rename_i t u eG;refine bj fun ti e1=>bj fun tu e2=>?_;split
   ·rename_i x y hxy;refine bj fun A e3=>bj fun B e4=>?_;have sS:argTypes=#[t,u]:=by apply Array.ext';simpa using eG
    have ju:args=#[x,y]:=by apply Array.ext';simpa using hxy
    have e5:execOp a.eval ⟨dst,.call ⟨.builtin .append,args,argTypes⟩,type,pos,after,guard⟩=builtin .append argTypes type (args.map fun |.const _=>true |_=>false) (args.map a.eval):=rfl;rw[e5];refine RO.ofV ?_;have e6:args.map a.eval=#[a.eval x,a.eval y]:=by rw[ju];simp
    rw[e6,sS];exact zKl hk t u type (hT _ _ e1) (hT _ _ e2) (hT _) (he e3) (he e4)
   ·trivial
  ·trivial
end
end Go.Ev
namespace Go.Ev
def dD (r:Option Nat):Fence:={ Fence.wide with round:=r }
theorem GZ {r:Option Nat}{n:Nat}{P:Program}{f:FuncId}{A:Array Value}{w:World}{R:Ending→World→Prop}(h:Calls P f A w R):CallsIn (dD r) n P f A w R:=by
 have:=(callsIn_wide (n:=n)).2 h;exact this
inductive AX where
 |norm
 |exit (id:Nat)
 |ret
def AX.ex:AX→Exit
 |.norm=>.normal
 |.exit id=>.exit id
 |.ret=>.ret
inductive DE where
 |mark (i:Nat)
 |fn (f:FuncId) (first cap:List AV)
inductive AS where
 |mk (tm:Tr AV) (h:Tr ABlk) (nx:Nat) (ds:List DE)
def AS.tm:AS→Tr AV |.mk t _ _ _=>t
def AS.h:AS→Tr ABlk |.mk _ h _ _=>h
def AS.nx:AS→Nat |.mk _ _ n _=>n
def AS.ds:AS→List DE |.mk _ _ _ d=>d
def yR (σ:Sg):List DE→List Deferred→Prop
 |[],D=>D=[]
 |.mark i::l,D=>∃b D',D={ target:=.collected b,args:=#[] }::D'∧σ.blk i=some b∧yR σ l D'
 |.fn f first cap::l,D=>∃F C D',D={ target:=.fn (.func f) C.toArray,args:=F.toArray }::D'∧aC σ first F∧aC σ cap C∧yR σ l D'
theorem yR.mono {σ τ:Sg}(hl:σ.Le τ):∀{l D},yR σ l D→yR τ l D
 |[],D,h=>h
 |.mark i::l,D,h=>by
  obtain⟨b,D',e,h1,h2⟩:=h;exact⟨b,D',e,(hl.blk i b h1).1,h2.mono hl⟩
 |.fn f a b::l,D,h=>by
  obtain⟨F,C,D',e,h1,h2,h3⟩:=h;exact⟨F,C,D',e,h1.mono hl,h2.mono hl,h3.mono hl⟩
structure St (σ:Sg)(tm:Tr AV)(a:Act) (sz:Nat)(ds:List DE):Prop where
 tm:jQ σ tm a
 size:a.tmps.size=sz
 defers:yR σ ds a.defers
variable {P : Program} {c : Cx} {σ τ υ : Sg} {h g f : Tr ABlk} {nx ny nz sz : Nat} {ds : List DE} {w x y : World} {tm : Tr AV} {a : Act}
theorem jQ.mono (hl:σ.Le τ)(ht:jQ σ tm a):jQ τ tm a:=fun t v e=>(ht t v e).mono hl
theorem St.mono (hl:σ.Le τ)(ht:St σ tm a sz ds):St τ tm a sz ds:=⟨ht.tm.mono hl,ht.size,ht.defers.mono hl⟩
theorem St.put (ht:St σ tm a sz ds){d:Nat}(hd:d<sz){v:AV}{V:Value}(hv:av σ v V):St σ (tm.put d (some v)) (a.put (some d) V) sz ds:=by
 refine⟨fun t u e=>?_,by simpa[Act.put]using ht.size,ht.defers⟩;rw[Tr.get_put]at e;have hs:d<a.tmps.size:=by rw[ht.size];exact hd
 by_cases h1:t=d
 ·subst h1;rw[if_pos rfl]at e;cases e;simpa[Act.put,Array.getD_eq_getD_getElem?,hs]using hv
 ·rw[if_neg h1]at e;have:=ht.tm t u e;simpa[Act.put,Array.getD_eq_getD_getElem?,Array.getElem?_setIfInBounds,Ne.symm h1]using this
def AQ (G:Gl)(σ:Sg)(h:Tr ABlk) (nx:Nat)(w:World) (sz:Nat)(Q:AX→AS→Prop)(e:Exit)(a:Act)(x:World):Prop:=
 ∃k tm g ny ds τ,AX.ex k=e∧Post G σ h nx w τ g ny x∧St τ tm a sz ds∧Q k (.mk tm g ny ds)
theorem AQ.trans {G:Gl}{Q:AX→AS→Prop}{e:Exit}(p:Post G σ h nx w τ g ny x)(q:AQ G τ g ny x sz Q e a y):AQ G σ h nx w sz Q e a y:=by
 obtain⟨k,tm,g',oy,ds,υ,e1,q1,q2,q3⟩:=q;exact⟨k,tm,g',oy,ds,υ,e1,p.trans q1,q2,q3⟩
theorem AQ.mono {G:Gl}{Q R:AX→AS→Prop}{e:Exit}(q:AQ G σ h nx w sz Q e a y)(hr:∀k s,Q k s→R k s):AQ G σ h nx w sz R e a y:=by
 obtain⟨k,tm,g',oy,ds,υ,e1,q1,q2,q3⟩:=q;exact⟨k,tm,g',oy,ds,υ,e1,q1,q2,hr _ _ q3⟩
def CR (P:Program)(f:FuncId)(A:Array Value)(w:World)(Q:Value→World→Prop):Prop:=
 match (callFunc f A).run P w with
 |.ok (.enter f' A') w'=>Calls P f' A' w' fun e x=>match e with |.returned v=>Q v x |_=>False
 |.ok (.value v) w'=>Q v w'
 |_=>False
theorem CR.mono {f:FuncId}{A:Array Value}{Q R:Value→World→Prop}(h:CR P f A w Q)(hr:∀v x,Q v x→R v x):CR P f A w R:=by
 unfold CR at *;split
 ·rename_i f' A' w' e;rw[e]at h;exact Calls.mono h fun e x q=>by cases e <;> first |exact hr _ _ q |exact q.elim
 ·rename_i v w' e;rw[e]at h;exact hr _ _ h
 ·rename_i h1 h2;split at h
  ·rename_i f' A' w' e;exact absurd e (h1 _ _ _)
  ·rename_i v w' e;exact absurd e (h2 _ _)
  ·exact h
def aN (P:Program)(c:Cx)(f:FuncId)(args:List AV)(h:Tr ABlk) (nx:Nat)(R:AV→Tr ABlk→Nat→Prop):Prop:=
 ∀(σ:Sg) (w:World) (A:List Value),Ok c.G σ h nx w→aC σ args A→CR P f A.toArray w fun V x=>∃τ v g ny,av τ v V∧Post c.G σ h nx w τ g ny x∧R v g ny
theorem aN.mono {f:FuncId}{args:List AV}{R S:AV→Tr ABlk→Nat→Prop}(hc:aN P c f args h nx R)(hr:∀v g ny,R v g ny→S v g ny):aN P c f args h nx S:=
 fun σ w A ok hA=>(hc σ w A ok hA).mono fun V x ⟨τ,v,g,ny,h1,h2,h3⟩=>⟨τ,v,g,ny,h1,h2,hr _ _ _ h3⟩
def tl (P:Program)(c:Cx) (i:Nat)(args:List AV)(h:Tr ABlk) (nx:Nat)(R:AV→Tr ABlk→Nat→Prop):Prop:=
 ∀(σ:Sg) (w:World) (A:List Value) (l:Nat),Ok c.G σ h nx w→aC σ args A→σ.blk i=some l→∃fn tmps assign body,(Instr.yield l A.toArray).run P w=.ok (.round l fn tmps assign body) w∧
  RoundIn Fence.wide 0 P l fn tmps assign body w fun e x=>match e with
   |.returned V=>∃τ v g ny,av τ v V∧Post c.G σ h nx w τ g ny x∧R v g ny
   |_=>False
theorem tl.mono {i:Nat}{args:List AV}{R S:AV→Tr ABlk→Nat→Prop}(hc:tl P c i args h nx R)(hr:∀v g ny,R v g ny→S v g ny):tl P c i args h nx S:=
 fun σ w A l ok hA hb=>by
  obtain⟨fn,tmps,assign,body,h1,h2⟩:=hc σ w A l ok hA hb;refine⟨fn,tmps,assign,body,h1,h2.mono fun e x q=>?_⟩;cases e with
  |returned V=>
   obtain⟨τ,v,g,ny,h1,h2,h3⟩:=q;exact⟨τ,v,g,ny,h1,h2,hr _ _ _ h3⟩
  |panicked ch=>exact q
  |outgrown=>exact q
theorem Q5 {r:Option Nat}{P:Program}{l:Nat}{f:FuncId}{T:Array Value}{x y:Code}{w:World}{R:Ending→World→Prop}(h:RoundIn Fence.wide 0 P l f T x y w R):RoundIn (dD r) 0 P l f T x y w R:=h
def AW (P:Program)(c:Cx)(inr:Bool) (sz:Nat)(code:Code)(Q:AX→AS→Prop)(s:AS):Prop:=
 ∀r:Option Nat,(inr=false→r=none)→∀(σ:Sg) (a:Act) (w:World),Ok c.G σ s.h s.nx w→St σ s.tm a sz s.ds→code.wpIn (dD r) 0 P (AQ c.G σ s.h s.nx w sz Q) a w
section rules
variable {inr : Bool} {Q : AX → AS → Prop} {s : AS}
theorem AW.mono {code:Code}{R:AX→AS→Prop}(h:AW P c inr sz code Q s)(hr:∀k s,Q k s→R k s):AW P c inr sz code R s:=
 fun r hi σ a w ok st=>wpIn_mono (h r hi σ a w ok st) fun _ _ _ q=>q.mono hr
theorem AQ.mk {G:Gl}(ok:Ok G σ s.h s.nx w)(st:St σ s.tm a sz s.ds){k:AX}(hq:Q k s):AQ G σ s.h s.nx w sz Q k.ex a w:=by
 cases s;exact⟨k,_,_,_,_,σ,rfl,.refl ok,st,hq⟩
theorem Xn (hq:Q .norm s):AW P c inr sz .skip Q s:=fun _ _ _ _ _ ok st=>wpIn_skip (AQ.mk (k:=.norm) ok st hq)
theorem WI {l:Nat}(hq:Q .norm s):AW P c inr sz (.label l) Q s:=fun _ _ _ _ _ ok st=>wpIn_label (AQ.mk (k:=.norm) ok st hq)
theorem Yy {id:Nat}(hq:Q (.exit id) s):AW P c inr sz (.exit id) Q s:=fun _ _ _ _ _ ok st=>wpIn_exit (AQ.mk (k:=.exit id) ok st hq)
theorem Xc (hq:Q .ret s):AW P c inr sz .ret Q s:=fun _ _ _ _ _ ok st=>wpIn_ret (AQ.mk (k:=.ret) ok st hq)
def xm (K:AS→Prop)(Q:AX→AS→Prop):AX→AS→Prop
 |.norm,s=>K s
 |.exit id,s=>Q (.exit id) s
 |.ret,s=>Q .ret s
theorem RP {x y:Code}(hx:AW P c inr sz x (xm (AW P c inr sz y Q) Q) s):AW P c inr sz (.seq x y) Q s:=by
 intro r hi σ a w ok st;refine wpIn_seq (wpIn_mono (hx r hi σ a w ok st) fun e a' w' q=>?_);obtain⟨k,tm,g,ny,ds,τ,e1,q1,q2,q3⟩:=q;cases k with
 |norm=>
  subst e1;exact wpIn_mono (q3 r hi τ a' w' q1.ok q2) fun _ _ _ q=>q.trans q1
 |exit id=>subst e1;exact⟨.exit id,tm,g,ny,ds,τ,rfl,q1,q2,q3⟩
 |ret=>subst e1;exact⟨.ret,tm,g,ny,ds,τ,rfl,q1,q2,q3⟩
theorem QA {o:Operand}{x y:Code}{t:Bool}(ho:aM c.G s.tm o=some (.bool t))(hx:t=true→AW P c inr sz x Q s)(hy:t=false→AW P c inr sz y Q s):AW P c inr sz (.cond o x y) Q s:=by
 intro r hi σ a w ok st;have hb:a.eval o=.bool t:=by simpa only[av]using jT ok st.tm ho
 exact wpIn_cond_split hb (fun e=>hx e r hi σ a w ok st) (fun e=>hy e r hi σ a w ok st)
def wE (id:Nat)(Q:AX→AS→Prop):AX→AS→Prop
 |.norm,s=>Q .norm s
 |.exit iS,s=>if iS=id then Q .norm s else Q (.exit iS) s
 |.ret,s=>Q .ret s
theorem WY {id:Nat}{x:Code}(hx:AW P c inr sz x (wE id Q) s):AW P c inr sz (.block id x) Q s:=by
 intro r hi σ a w ok st;refine wpIn_block (wpIn_mono (hx r hi σ a w ok st) fun e a' w' q=>?_);obtain⟨k,tm,g,ny,ds,τ,e1,q1,q2,q3⟩:=q;cases k with
 |norm=>subst e1;exact⟨.norm,tm,g,ny,ds,τ,rfl,q1,q2,q3⟩
 |ret=>subst e1;exact⟨.ret,tm,g,ny,ds,τ,rfl,q1,q2,q3⟩
 |exit iS=>
  subst e1;simp only[AX.ex,Exit.inBlock];simp only[wE]at q3;split
  ·rename_i hid;rw[if_pos hid]at q3;exact⟨.norm,tm,g,ny,ds,τ,rfl,q1,q2,q3⟩
  ·rename_i hid;rw[if_neg hid]at q3;exact⟨.exit iS,tm,g,ny,ds,τ,rfl,q1,q2,q3⟩
theorem P8 {p:Nat→Prop}(h:∃n,p n):∃n,p n∧∀m,p m→n≤m:=by
 obtain⟨n,hn⟩:=h
 induction n using Nat.strongRecOn with
 |_ n ih=>
  by_cases hm:∃m,m<n∧p m
  ·obtain⟨m,h1,h2⟩:=hm;exact ih m h1 h2
  ·refine⟨n,hn,fun m hp=>?_⟩
   rcases Nat.lt_or_ge m n with h1 |h1
   ·exact absurd ⟨m,h1,hp⟩ hm
   ·exact h1
open Classical in
noncomputable def JS (p:Nat→Prop):Nat:=if h:∃n,p n then (P8 h).choose else 0
theorem Zz {p:Nat→Prop}(h:∃n,p n):p (JS p)∧∀m,p m→JS p≤m:=by
 unfold JS;rw[dif_pos h];exact(P8 h).choose_spec
theorem zH7 {x:Code}(I:Nat→AS→Prop){n:Nat}(h0:I n s)(hx:∀n s,I n s→AW P c inr sz x (xm (fun s'=>∃m,m<n∧I m s') Q) s):AW P c inr sz (.loop x) Q s:=by
 intro r hi σ a w ok st
 let J:Act→World→Nat→Prop:=fun a' w' m=>∃s' τ,I m s'∧Post c.G σ s.h s.nx w τ s'.h s'.nx w'∧St τ s'.tm a' sz s'.ds
 refine wpIn_loop (fun a' w'=>∃m,J a' w' m) (fun a' w'=>JS (J a' w')) ⟨n,s,σ,h0,.refl ok,st⟩ fun a' w' hJ=>?_;obtain⟨⟨s',τ,h1,h2,h3⟩,mK⟩:=Zz hJ;refine wpIn_mono (hx _ s' h1 r hi τ a' w' h2.ok h3) fun e a2 w2 q=>?_;obtain⟨k,tm,g,ny,ds,υ,e1,q1,q2,q3⟩:=q;cases k with
 |norm=>
  subst e1;obtain⟨m,hm,hI⟩:=q3;have nY:J a2 w2 m:=⟨.mk tm g ny ds,υ,hI,h2.trans q1,q2⟩;exact⟨⟨m,nY⟩,Nat.lt_of_le_of_lt ((Zz ⟨m,nY⟩).2 m nY) hm⟩
 |exit id=>subst e1;exact⟨.exit id,tm,g,ny,ds,υ,rfl,h2.trans q1,q2,q3⟩
 |ret=>subst e1;exact⟨.ret,tm,g,ny,ds,υ,rfl,h2.trans q1,q2,q3⟩
theorem bT {x:Code}(I:Nat→AS→Prop)(h0:∃n,I n s)(hx:∀n s,I n s→∀J:AS→Prop,(∀m s',m<n→I m s'→J s')→AW P c inr sz x (xm J Q) s):AW P c inr sz (.loop x) Q s:=by
 obtain⟨n,h0⟩:=h0;exact zH7 I h0 fun n s hI=>hx n s hI _ fun m s' h1 h2=>⟨m,h1,h2⟩
end rules
end Go.Ev
namespace Go.Ev
section
variable {P : Program} {F : Fence} {n : Nat} {b : Frame} {a : Act} {k : List Item} {cs : List Frame} {w : World} {Q : Exit → Act → World → Prop}
theorem Du {c:Code}:step P (lone (b.atR a (.code (.scope c)::k)) cs w)=.next (lone (b.atR a (.code c::.inScope c::k)) cs w):=
 step_lone_go (by simp[stepG,stepG.exec,Frame.atR])
theorem zUn {c:Code}:step P (lone (b.atR a (.inScope c::k)) cs w)=.next (lone (b.atR a k) cs w):=
 step_lone_go (by simp[stepG,stepG.exec,Frame.atR])
theorem zTh {c:Code}(h:c.wpIn F n P (fun e a w=>match e with |.goto _=>False |e=>Q e a w) a w):(Code.scope c).wpIn F n P Q a w:=by
 intro b k cs hro hb hr;have h0:(lone (b.atR a (.code (.scope c)::k)) cs w).fenced P F:=fenced_calm hb hr rfl;obtain⟨e,a₁,w₁,hq,mD⟩:=h b (.inScope c::k) cs hro hb hr;cases e with
 |normal=>exact⟨.normal,a₁,w₁,hq,.head h0 Du (StepsIn.trans mD (.one (fenced_calm hb hr rfl) zUn))⟩
 |exit iS=>
  have hx:exitTo iS (.inScope c::k)=exitTo iS k:=by simp[exitTo]
  exact⟨.exit iS,a₁,w₁,hq,fun k' hk=>.head h0 Du (mD.1 k' (by rw[hx];exact hk)),
   fun Ap hk=>let ⟨k₁,h1,h2⟩:=mD.2 Ap (by rw[hx];exact hk);⟨k₁,h1,.head h0 Du h2⟩⟩
 |goto l=>exact hq.elim
 |ret=>exact⟨_,a₁,w₁,hq,.of_steps (.one h0 Du) mD⟩
 |panic ch=>exact⟨_,a₁,w₁,hq,.of_steps (.one h0 Du) mD⟩
 |outgrown=>exact⟨_,a₁,w₁,hq,.of_steps (.one h0 Du) mD⟩
end
theorem WN {P:Program}{c:Cx}{inr:Bool}{sz:Nat}{code:Code}{Q:AX→AS→Prop}{s:AS}(h:AW P c inr sz code Q s):AW P c inr sz (.scope code) Q s:=by
 intro r hi σ a w ok st;refine zTh (wpIn_mono (h r hi σ a w ok st) fun e a' w' q=>?_);obtain⟨k,tm,g,ny,ds,τ,e1,q1,q2,q3⟩:=q;subst e1;cases k <;> exact⟨_,tm,g,ny,ds,τ,rfl,q1,q2,q3⟩
end Go.Ev
