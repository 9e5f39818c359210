/- Texts. -/
import Derived.Test.YtkdnmldmffkkoaaGreatDoorP03
set_option linter.unusedSimpArgs false
set_option linter.unusedVariables false
set_option maxRecDepth 100000
set_option maxHeartbeats 8000000
namespace Go.Ev
variable {P : Program} {G : Gl} {σ τ υ : Sg} {h g f : Tr ABlk} {nx ny nz : Nat} {w x y : World}
noncomputable section
def vBool (b:Bool)(h:Tr ABlk) (nx:Nat):R:=match b with |true=>.val (.bool true) h nx |false=>.val (.bool false) h nx
theorem zzb (hk:Ok G σ h nx w){b:Bool}{m:Sem Value}(hm:m.run P w=.ok (.bool b) w):RV P G σ h nx w m (vBool b h nx):=by
 cases b <;> exact SV.pure hk hm (by simp only[av])
def wX (ti:TI)(eqs:Option (List (Nat×TypeDesc)))(c:Bool)(op:BinOp)(x y:AV)(h:Tr ABlk) (nx:Nat):R:=
 match op with
 |.eql=>match zc ti eqs c x y with
  |some b=>vBool b h nx
  |none=>.fail
 |.neq=>match zc ti eqs c x y with
  |some b=>vBool (!b) h nx
  |none=>.fail
 |_=>.fail
def xf (ti:TI)(eqs:Option (List (Nat×TypeDesc)))(c:Bool)(op:BinOp)(x y:AV)(h:Tr ABlk) (nx:Nat):R:=
 match x with
 |.int k a=>match y with
  |.int k' b=>match op with
   |.shl=>tz .shl k a b h nx
   |.shr=>tz .shr k a b h nx
   |op=>match uE k k' with
    |true=>gK op k a b h nx
    |false=>.fail
  |_=>.fail
 |.str l n=>match y with
  |.str k m=>yX op l n k m h nx
  |_=>.fail
 |.bs a=>match y with
  |.bs b=>gH op a b h nx
  |_=>.fail
 |x=>wX ti eqs c op x y h nx
theorem RV.guard {m:Sem Value}{r:R}{gd:Sem Unit}(hg:gd.run P w=.ok () w)(hm:RV P G σ h nx w m r):RV P G σ h nx w (do gd;m) r:=by
 cases r with
 |fail=>trivial
 |unit _ _=>exact hm
 |val v g ny=>
  obtain⟨V,τ,x,h1,h2,h3⟩:=hm;exact⟨V,τ,x,by rw[Sem.run_bind,hg];exact h1,h2,h3⟩
theorem zP0 (hk:Ok G σ h nx w)(t:TypeId){ti:TI}(ht:cJ P t ti){eqs:Option (List (Nat×TypeDesc))}(hq:Ji P t eqs)(op:BinOp){x y:AV}{X Y:Value}(hx:av σ x X)(hy:av σ y Y)(xo yo:Operand)
  (kO:∀k n,x≠.int k n) (ot:∀l n,x≠.str l n) (Ae:∀b,x≠.bs b):RV P G σ h nx w (do eqGuard op t xo yo X Y;binOp op t X Y) (wX ti eqs (nP xo || nP yo) op x y h nx):=by
 unfold wX;cases op <;> try trivial
 ·simp only;cases he:zc ti eqs (nP xo || nP yo) x y with
  |none=>trivial
  |some b=>exact zzb hk (zyq t ht hq hx hy xo yo he kO ot Ae w).1
 ·simp only;cases he:zc ti eqs (nP xo || nP yo) x y with
  |none=>trivial
  |some b=>exact zzb hk (zyq t ht hq hx hy xo yo he kO ot Ae w).2
theorem zQ5 (hk:Ok G σ h nx w)(t:TypeId){ti:TI}(ht:cJ P t ti){eqs:Option (List (Nat×TypeDesc))}(hq:Ji P t eqs)(op:BinOp){x y:AV}{X Y:Value}(hx:av σ x X)(hy:av σ y Y)(xo yo:Operand):
  RV P G σ h nx w (do eqGuard op t xo yo X Y;binOp op t X Y) (xf ti eqs (nP xo || nP yo) op x y h nx):=by
 unfold xf;cases x with
 |int k a=>
  cases y <;> try trivial
  rename_i k' b;simp only[av]at hx hy;subst hx;subst hy;refine RV.guard (by cases op <;> rfl) ?_;have qp:RV P G σ h nx w (binOp op t (.int k a) (.int k' b)) (match uE k k' with |true=>gK op k a b h nx |false=>.fail):=by
   cases e:uE k k' with
   |false=>trivial
   |true=>
    have:=K4 e;subst this;exact zOy hk t op k a b
  cases op <;> first
   |exact qp
   |exact zFu hk t _ k k' a b
 |str l n=>
  cases y <;> try trivial
  rename_i k m;simp only[av]at hx hy;obtain⟨h1,e1⟩:=hx;obtain⟨h2,e2⟩:=hy;subst e1;subst e2;exact RV.guard (by cases op <;> rfl) (zJg hk t op h1 h2)
 |bs a=>
  cases y <;> try trivial
  rename_i b;simp only[av]at hx hy;subst hx;subst hy;exact RV.guard (by cases op <;> rfl) (zM7 hk t op a b)
 |_=>exact zP0 hk t ht hq op hx hy xo yo (fun _ _=>by simp) (fun _ _=>by simp) (fun _=>by simp)
def UO:TypeDesc→Bool
 |.interface _=>true
 |_=>false
def yU (td:TI)(ta:TypeId)(ok:Bool)(x:AV)(h:Tr ABlk) (nx:Nat):R:=
 match td with
 |.mk d _ _ zero _=>match UO d with
  |true=>.fail
  |false=>match x with
   |.iface t v=>match Nat.beq t ta with
    |true=>match ok with
     |true=>.val (.tup [v,.bool true]) h nx
     |false=>.val v h nx
    |false=>match ok with
     |true=>match zero with
      |some z=>.val (.tup [z,.bool false]) h nx
      |none=>.fail
     |false=>.fail
   |.nilIface=>match ok with
    |true=>match zero with
     |some z=>.val (.tup [z,.bool false]) h nx
     |none=>.fail
    |false=>.fail
   |_=>.fail
theorem zTg (hk:Ok G σ h nx w)(xt ta:TypeId){td:TI}(ht:cJ P ta td)(ok:Bool){x:AV}{X:Value}(hx:av σ x X):RV P G σ h nx w (Instr.typeAssert X xt ta ok) (yU td ta ok x h nx):=by
 cases td with
 |mk d size bytes zero fs=>
 obtain⟨hu,inf,hi,hs,nB,eN,hf,gE,mG⟩:=ht;unfold yU;simp only;cases hid:UO d with
 |true=>trivial
 |false=>
  have hd:¬∃ms,d=.interface ms:=by
   rintro⟨ms,e⟩
   subst e;cases hid
  simp only
  have Of : ∀ t v, (Instr.typeAssert (.iface t v) xt ta ok).run P w = (if t = ta then (pure (if ok then .tuple #[v, .bool true] else v) : Sem Value) else (if ok then do pure (.tuple #[← zeroValue ta, .bool false]) else runtimePanic (.typeAssertion (some xt) (some t) ta ""))).run P w := by
   intro t v;unfold Instr.typeAssert;simp only[Sem.run_bind,run_underlying hu,Result.andThen];cases d <;> first |rfl |(exact absurd ⟨_,rfl⟩ hd)
  have tq : (Instr.typeAssert .nilIface xt ta ok).run P w = (if ok then do pure (.tuple #[← zeroValue ta, .bool false]) else runtimePanic (.typeAssertion (some xt) none ta "") : Sem Value).run P w := by
   unfold Instr.typeAssert;simp only[Sem.run_bind,run_underlying hu,Result.andThen];cases d <;> first |rfl |(exact absurd ⟨_,rfl⟩ hd)
  cases x <;> try trivial
  ·rename_i t v;simp only[av]at hx;obtain⟨V,e,hv⟩:=hx;subst e;simp only;cases ht:Nat.beq t ta with
   |true=>
    have:=ad ht;subst this;cases ok with
    |true=>
     refine SV.pure hk (V:=.tuple #[V,.bool true]) (by rw[Of];simp) ?_;simp only[av];exact⟨[V,.bool true],rfl,by simp only[aC,av];exact⟨_,_,rfl,hv,_,_,rfl,rfl,rfl⟩⟩
    |false=>exact SV.pure hk (V:=V) (by rw[Of];simp) hv
   |false=>
    have aQ:=mX ht;cases ok with
    |false=>trivial
    |true=>
     cases zero with
     |none=>trivial
     |some z=>
      obtain⟨Z,hZ,jM,_⟩:=eN z rfl;refine SV.pure hk (V:=.tuple #[Z,.bool false]) (by rw[Of];simp[aQ,yP hi hZ]) ?_;simp only[av];exact⟨[Z,.bool false],rfl,by simp only[aC,av];exact⟨_,_,rfl,jM σ,_,_,rfl,rfl,rfl⟩⟩
  ·simp only[av]at hx;subst hx;cases ok with
   |false=>trivial
   |true=>
    cases zero with
    |none=>trivial
    |some z=>
     obtain⟨Z,hZ,jM,_⟩:=eN z rfl;refine SV.pure hk (V:=.tuple #[Z,.bool false]) (by rw[tq];simp[yP hi hZ]) ?_;simp only[av];exact⟨[Z,.bool false],rfl,by simp only[aC,av];exact⟨_,_,rfl,jM σ,_,_,rfl,rfl,rfl⟩⟩
def scal:TypeDesc→Bool
 |.int _=>true
 |.string=>true
 |.bool=>true
 |_=>false
theorem Sh {kt:TypeId}{d:TypeDesc}(hu:P.underlying kt=some d)(hs:scal d=true)(e:Bool) (n:Nat)(K:Value)(w:World):(Instr.checkKey e (n+1) kt K).run P w=.ok () w:=by
 unfold Instr.checkKey;simp only[Sem.run_bind,run_underlying hu,Result.andThen];cases d <;> first |rfl |(exact absurd hs (by simp[scal]))
def mj (d:TypeDesc)(k:AV)(es:List (AV×AV×Nat)):Nat→Option (Option (Nat×AV)):=
 List.rec (motive:=fun _=>Nat→Option (Option (Nat×AV))) (fun _=>some none) (fun e _ ih i=>match e with
  |(k',v,_)=>match lR d k k' with
   |some true=>some (some (i,v))
   |some false=>fN (Nat.succ i) ih
   |none=>none) es
theorem DH (d:TypeDesc)(k k' v:AV) (n:Nat)(es:List (AV×AV×Nat)) (i:Nat):mj d k ((k',v,n)::es) i=match lR d k k' with
   |some true=>some (some (i,v))
   |some false=>fN (Nat.succ i) (mj d k es)
   |none=>none:=rfl
def qX (σ:Sg):Option (Nat×AV)→Option (Nat×Value)→Prop
 |none,R=>R=none
 |some (i,v),R=>∃V,R=some (i,V)∧av σ v V
theorem Kv {d:TypeDesc}{k:AV}{K:Value}(hk:av σ k K):∀{es:List (AV×AV×Nat)}{E:List MapEntry}{i:Nat}{r:Option (Nat×AV)},di σ es E→mj d k es i=some r→
  ∃R,Instr.findNow d K E i=some R∧qX σ r R∧∀j v,r=some (j,v)→i≤j∧j<i+es.length∧∃k',(es[j-i]?).map (·.1)=some k'∧lR d k k'=some true
 |[],E,i,r,he,hf=>by
  cases hf;simp only[di]at he;subst he;exact⟨none,rfl,rfl,fun j v e=>by cases e⟩
 |(k',v,n)::es,E,i,r,he,hf=>by
  simp only[di]at he;obtain⟨K',V,E',e,h1,h2,h3⟩:=he;subst e;rw[DH]at hf;cases hs:lR d k k' with
  |none=>rw[hs]at hf;cases hf
  |some b=>
   have l9:=(Yo (P:=default) hk h1 hs).1;rw[hs]at hf;cases b with
   |true=>
    cases hf;refine⟨some (i,V),by simp[Instr.findNow,l9],⟨V,rfl,h2⟩,fun j v' e=>?_⟩;cases e;exact⟨ae _,by simp,k',by simp,hs⟩
   |false=>
    simp only[fN_eq]at hf;obtain⟨R,a1,a2,a3⟩:=Kv hk h3 hf;refine⟨R,by simpa[Instr.findNow,l9]using a1,a2,fun j v' e=>?_⟩;obtain⟨b1,b2,k2,b3,b4⟩:=a3 j v' e;refine⟨by omega,by simp at b2 ⊢;omega,k2,?_,b4⟩;rw[show j-i=(j-Nat.succ i)+1 by omega];simpa using b3
def De (kt et:TypeId)(K:Value)(E:List MapEntry)(ok:Bool):Sem Value:=do
 Instr.checkKey (List.toArray E).isEmpty 10000 kt K
 let (v,ok') ← match ← Instr.findKey kt K (List.toArray E).toList with
  |some (_,v)=>pure (v,true)
  |none=>pure (← zeroValue et,false)
 pure (if ok then .tuple #[v,.bool ok'] else v)
def bP (ok:Bool)(z:AV)(r:Option (Nat×AV))(h:Tr ABlk) (nx:Nat):R:=
 match r with
 |some (_,v)=>match ok with
  |true=>.val (.tup [v,.bool true]) h nx
  |false=>.val v h nx
 |none=>match ok with
  |true=>.val (.tup [z,.bool false]) h nx
  |false=>.val z h nx
def wJ (ti:TI)(tk te:Option TI)(kt et:TypeId)(ok:Bool)(m k:AV)(h:Tr ABlk) (nx:Nat):R:=
 match ti,tk,te with
 |.mk (.map AB LB) _ _ _ _,some (.mk dk _ _ _ _),some (.mk _ _ _ (some z) _)=>match Nat.beq kt AB,Nat.beq et LB,scal dk with
  |true,true,true=>
   match (match m with
    |.map0=>some none
    |.map i=>match h.get i with
     |some (.map es _)=>mj dk k es 0
     |_=>none
    |_=>none:Option (Option (Nat×AV))) with
   |some r=>bP ok z r h nx
   |none=>.fail
  |_,_,_=>.fail
 |_,_,_=>.fail
theorem zJa (hk:Ok G σ h nx w)(t:TypeId){ti:TI}(ht:cJ P t ti){tk te:Option TI}{kt et:TypeId}(dM:∀ti,tk=some ti→cJ P kt ti)(iG:∀ti,te=some ti→cJ P et ti)(ok:Bool){m k:AV}{M K:Value}
  (hm:av σ m M) (fq:av σ k K):RV P G σ h nx w (Instr.lookup t M K ok) (wJ ti tk te kt et ok m k h nx):=by
 unfold wJ;split
 ·rename_i AB LB q1 q2 q3 q4 dk q5 q6 q7 q8 dd q9 OD z OE;obtain⟨hu,_⟩:=ht;obtain⟨F0,_⟩:=dM _ rfl;obtain⟨nH,inf,hi,hs,nB,eN,_⟩:=iG _ rfl;obtain⟨Z,hZ,jM,_⟩:=eN z rfl;split
  ·rename_i e1 e2 e3;have jY:=ad e1;have rM:=ad e2;subst jY;subst rM;have main:∀(es:List (AV×AV×Nat)) (E:List MapEntry) (r:Option (Nat×AV)),di σ es E→mj dk k es 0=some r→
     (De kt et K E ok).run P w=.ok (match r with |some (j,v)=>(match Instr.findNow dk K E 0 with |some (some (_,V))=>if ok then .tuple #[V,.bool true] else V |_=>.nilFunc) |none=>if ok then .tuple #[Z,.bool false] else Z) w:=by
    intro es E r hE hf;obtain⟨R,a1,a2,_⟩:=Kv fq hE hf;have dT:=Sh (P:=P) F0 e3 (List.toArray E).isEmpty 9999 K w;have vB:(Instr.findKey kt K E).run P w=.ok R w:=by simp[Instr.findKey,run_underlying F0,a1]
    cases r with
    |none=>
     simp only[qX]at a2;subst a2;simp only[De,Sem.run_bind,dT,Result.andThen,vB,yP hi hZ,Sem.run_pure]
    |some p=>
     obtain⟨j,v⟩:=p;simp only[qX]at a2;obtain⟨V,e,_⟩:=a2;subst e;simp only[De,Sem.run_bind,dT,Result.andThen,vB,Sem.run_pure,a1]
   have fin:∀(es:List (AV×AV×Nat)) (E:List MapEntry) (r:Option (Nat×AV)) (mm:Sem Value),di σ es E→mj dk k es 0=some r→
     mm.run P w=(De kt et K E ok).run P w→
     RV P G σ h nx w mm (bP ok z r h nx):=by
    intro es E r mm hE hf kN;have aO:=main es E r hE hf;rw[← kN]at aO;obtain⟨R,a1,a2,_⟩:=Kv fq hE hf;cases r with
    |none=>
     cases ok with
     |true=>
      refine SV.pure hk (V:=.tuple #[Z,.bool false]) aO ?_;simp only[av];exact⟨[Z,.bool false],rfl,by simp only[aC,av];exact⟨_,_,rfl,jM σ,_,_,rfl,rfl,rfl⟩⟩
     |false=>exact SV.pure hk (V:=Z) aO (jM σ)
    |some p=>
     obtain⟨j,v⟩:=p;simp only[qX]at a2;obtain⟨V,e,hv⟩:=a2;subst e;rw[a1]at aO;cases ok with
     |true=>
      refine SV.pure hk (V:=.tuple #[V,.bool true]) aO ?_;simp only[av];exact⟨[V,.bool true],rfl,by simp only[aC,av];exact⟨_,_,rfl,hv,_,_,rfl,rfl,rfl⟩⟩
     |false=>exact SV.pure hk (V:=V) aO hv
   cases m <;> try trivial
   ·simp only[av]at hm;subst hm;refine fin [] [] none _ (by simp only[di]) rfl ?_;unfold Instr.lookup De;simp only[Sem.run_bind,run_underlying hu,Result.andThen,Sem.run_pure];rfl
   ·rename_i i;simp only[av]at hm;obtain⟨b,hb,e⟩:=hm;subst e;cases hg:h.get i with
    |none=>simp only[hg];trivial
    |some B=>
     cases B with
     |cells _ _ _ _ _=>simp only[hg];trivial
     |loop _ _ _ _ _ _ _ _ _=>simp only[hg];trivial
     |dfr=>simp only[hg];trivial
     |miter _ _ _ _=>simp only[hg];trivial
     |siter _ _=>simp only[hg];trivial
     |map es cl=>
      simp only[hg];obtain⟨b',E,aS,aF,hE⟩:=hk.map hg;rw[hb]at aS;cases aS;cases hf:mj dk k es 0 with
      |none=>trivial
      |some r=>
       refine fin es E r _ hE hf ?_;unfold Instr.lookup De;have fE:(getObj b).run P w=.ok (.map (List.toArray E) cl) w:=by simp[getObj,Sem.run,aF]
       simp only[Sem.run_bind,run_underlying hu,Result.andThen,Sem.run_pure,fE];rfl
  ·trivial
 ·trivial
end
end Go.Ev
namespace Go.Ev
variable {P : Program} {G : Gl} {σ τ υ : Sg} {h g f : Tr ABlk} {nx ny nz : Nat} {w x y : World}
theorem Post.move (hk:Ok G σ h nx w){i b:Nat}{B0:ABlk}(hi:h.get i=some B0)(hb:σ.blk i=some b)(B:ABlk)(o:Obj)(hB:bX (σ.add nx b (σ.cap i)) nx B o):
  Post G σ h nx w (σ.add nx b (σ.cap i)) ((h.put i none).put nx (some B)) (nx+1) (gT w b o):=by
 have hle:σ.Le (σ.add nx b (σ.cap i)):=Sg.add_le (hk.fresh nx (ae _));have az:=hk.lt hi;have MK:=hk.blt hi hb;have hs:∀j B',((h.put i none).put nx (some B)).get j=some B'→j≠nx→j≠i∧h.get j=some B':=by
  intro j B' hj hn;rw[Tr.get_put,if_neg hn,Tr.get_put]at hj;split at hj
  ·cases hj
  ·exact⟨by assumption,hj⟩
 have hold:∀k d,k≠nx→(σ.add nx b (σ.cap i)).blk k=some d→σ.blk k=some d:=fun k d hn hh=>by simpa[Sg.add,hn]using hh
 refine⟨⟨fun a ha=>?_,by have:=hk.le;omega,fun a ha=>?_,fun a c d B1 B2 h1 h2 h3 h4=>?_,fun a B1 h1=>?_,fun d C hd=>⟨?_,fun a B1 h1 e=>?_⟩,fun g cs hg=>(hk.gl g cs hg).mono hle⟩,hle,⟨rfl,rfl,rfl,by simp[gT],fun c hc hn=>?_,fun a B1 c h1 h2=>?_,fun _ _ h=>.inl h⟩,by omega⟩
 ·have:a≠nx:=by have:=hk.le;omega
  simp[Sg.add,this,hk.glob a ha]
 ·have:a≠nx:=by omega
  simp[Sg.add,this,hk.fresh a (by omega)]
 ·by_cases e1:a=nx <;> by_cases e2:c=nx
  ·omega
  ·obtain⟨n1,n2⟩:=hs c B2 h2 e2;have hd:d=b:=by subst e1;simpa[Sg.add]using h3.symm
   exact absurd (hk.inj c i b B2 B0 n2 hi (hd ▸ hold c d e2 h4) hb) n1
  ·obtain⟨n1,n2⟩:=hs a B1 h1 e1;have hd:d=b:=by subst e2;simpa[Sg.add]using h4.symm
   exact absurd (hk.inj a i b B1 B0 n2 hi (hd ▸ hold a d e1 h3) hb) n1
  ·exact hk.inj a c d B1 B2 (hs a B1 h1 e1).2 (hs c B2 h2 e2).2 (hold a d e1 h3) (hold c d e2 h4)
 ·by_cases e:a=nx
  ·subst e;rw[Tr.get_put,if_pos rfl]at h1;cases h1;exact⟨b,o,by simp[Sg.add],by simp[gT,MK],hB⟩
  ·obtain⟨n1,n2⟩:=hs a B1 h1 e;obtain⟨b',o',aS,ho,hr⟩:=hk.blk a B1 n2;refine⟨b',o',(hle.blk a b' aS).1,?_,hr.mono hle aS⟩;have aQ:b≠b':=fun e'=>n1 (hk.inj a i b B1 B0 n2 hi (e' ▸ aS) hb);simp only[gT,Array.getElem?_setIfInBounds];rw[if_neg aQ];exact ho
 ·obtain⟨⟨t,fr,h1⟩,h2⟩:=hk.imm d C hd;refine⟨t,fr,?_⟩;have aQ:b≠d:=fun e=>h2 i B0 hi (e ▸ hb);simp only[gT,Array.getElem?_setIfInBounds];rw[if_neg aQ];exact h1
 ·by_cases e':a=nx
  ·subst e';have:d=b:=by simpa[Sg.add]using e.symm
   exact(hk.imm d C hd).2 i B0 hi (this ▸ hb)
  ·exact(hk.imm d C hd).2 a B1 (hs a B1 h1 e').2 (hold a d e' e)
 ·have:b≠c:=fun e=>hn i B0 hi (e ▸ hb);simp only[gT,Array.getElem?_setIfInBounds];rw[if_neg this]
 ·by_cases e:a=nx
  ·subst e;have:c=b:=by simpa[Sg.add]using h2.symm
   exact .inr ⟨i,B0,hi,this ▸ hb⟩
  ·exact .inr ⟨a,B1,(hs a B1 h1 e).2,hold a c e h2⟩
def yQ:TypeDesc→Bool
 |.int _=>false
 |_=>true
theorem Rq (t u ty e:TypeId)(i:TypeInfo)(du:TypeDesc)(ht:P.underlying t=some (.slice e))(hu:P.underlying u=some du)(MT:yQ du=true)(hi:P.info? e=some i)
  (b off dY kl m:Nat) (X:Value) (news:List Value) (hlen:(Builtin.lenOf X).run P w=.ok m w) (xP:(Builtin.firstCells i.size m X).run P w=.ok news.toArray w)
  (cq:dY+m≤kl) {C:Array Value} {te:TypeId} {fr:Nat×Nat} (hb:w.heap[b]?=some (.cells C te fr)) (bI:off+dY * i.size+news.length≤C.size) (hf:∀k,k<C.size→¬(fr.1≤k∧k<fr.2)) (h1:∀u∈news,u.oneCell'=true):
  (Builtin.append_ #[t,u] ty #[.slice (some ⟨b,off,none⟩) dY kl,X]).run P w=.ok (.slice (some ⟨b,off,none⟩) (dY+m) kl) (gT w b (.cells (oH news C (off+dY * i.size)) te fr)):=by
 have aW:=Kl (P:=P) (b:=b) (o:=off+dY * i.size) news 0 C w hb (by omega) hf h1;simp only[Nat.add_zero]at aW;cases du <;> first
  |(cases MT;done)
  |(simp[Builtin.append_,run_underlying ht,run_underlying hu,nN hi,hlen,cq,xP,iM,aW];done)
theorem KD (t u ty e:TypeId)(i:TypeInfo)(z:Value)(du:TypeDesc)(ht:P.underlying t=some (.slice e))(hu:P.underlying u=some du)(MT:yQ du=true)(hi:P.info? e=some i)(hz:i.zero=some z)
  (S:Value) (base:Option Addr) (dY kl m:Nat) (hS:S=.slice base dY kl) (X:Value) (jz news:List Value) (hlen:(Builtin.lenOf X).run P w=.ok m w) (xQ:(Builtin.firstCells i.size dY S).run P w.drew=.ok jz.toArray w.drew) (xP:(Builtin.firstCells i.size m X).run P w.drew=.ok news.toArray w.drew)
  (cq:kl<dY+m) (N6:(dY+m) * i.bytes≤140737488355328) (h63:dY+m≤4611686018427387904):
  (Builtin.append_ #[t,u] ty #[S,X]).run P w=.ok (.slice (some ⟨w.heap.size,0,none⟩) (dY+m) (grownCap w (dY+m) kl e))
   (w.drew.alloc (.cells (jz.toArray++news.toArray++Builtin.zeroCells z.cells (grownCap w (dY+m) kl e-(dY+m))) e)):=by
 have ib:=growslice_fits cq N6;have hn:¬(dY+m≤kl):=by omega
 have L5:¬(9223372036854775807<((dY:Int)+(m:Int))):=by omega
 have L4:¬(281474976710656<Builtin.nextslicecap (dY+m) kl * i.bytes):=by omega
 subst hS;cases du <;> first
  |(cases MT;done)
  |(simp[Builtin.append_,run_underlying ht,run_underlying hu,sizeOf,typeInfo,zeroValue,hi,hz,hlen,hn,L5,L4,Question.forced,xP,xQ,newRow,grownCap]
    try (congr 2;apply Array.ext';simp[List.append_assoc];done))
theorem fL.flat {es:Nat}:∀{L D:List Value},fL es L D→L.flatMap (·.cells.toList)=D.take (L.length * es)∧(L.flatMap (·.cells.toList)).length=L.length * es
 |[],D,_=>by simp
 |X::L,D,h=>by
  simp only[fL]at h;obtain⟨h1,h2,h3⟩:=h;obtain⟨i1,i2⟩:=fL.flat h3;have hl:X.cells.toList.length=es:=by simpa using h2
  rw[List.flatMap_cons,i1,List.length_cons,Nat.succ_mul,Nat.add_comm _ es];refine⟨?_,?_⟩
  ·rw[List.take_add,← h1]
  ·rw[← i1,List.length_append,i2,hl]
theorem aC.flat {σ:Sg}:∀{l:List AV}{L:List Value},aC σ l L→aC σ (l.flatMap AV.cells) (L.flatMap (·.cells.toList))
 |[],L,h=>by simp only[aC]at h;subst h;simp only[List.flatMap_nil,aC]
 |a::l,L,h=>by
  simp only[aC]at h;obtain⟨V,L',e,h1,h2⟩:=h;subst e;simp only[List.flatMap_cons];exact h1.cells.append h2.flat
theorem Ok.fz (hk:Ok G σ h nx w){es:Nat}{full:Bool}{xs:List AV}{V:Value}(hv:av σ (.fz es full xs) V):
  ∃a cap L,V=.slice a xs.length cap∧aC σ (xs.flatMap AV.cells) L∧(xs.flatMap AV.cells).length=xs.length * es∧∀w':World,w'.heap=w.heap→(Builtin.firstCells es xs.length V).run P w'=.ok L.toArray w':=by
 simp only[av]at hv;obtain⟨a,cap,e,h1,h2,h4,h3⟩:=hv;subst e;cases xs with
 |nil=>
  refine⟨a,cap,[],rfl,by simp only[List.flatMap_nil,aC],by simp,fun w' _=>?_⟩;cases a with
  |none=>simp[Builtin.firstCells]
  |some a=>
   have:=run_loadCells_list (P:=P) w' a [] fun j u hj=>by simp at hj
   simpa[Builtin.firstCells]using this
 |cons z xs=>
  obtain⟨b,o,C,L,ea,i1,i2,i3⟩:=h3 (by simp);subst ea;obtain⟨f1,f2⟩:=i3.flat;have hlen:=i2.flat.length;have Ul:=i2.length;refine⟨_,cap,_,rfl,i2.flat,by rw[← hlen,f2,Ul],fun w' hw=>?_⟩;obtain⟨⟨t,fr,hh⟩,_⟩:=hk.imm b C i1;have pX:w'.heap[b]?=some (.cells C.toArray t fr):=by rw[hw];exact hh
  have:=run_loadCells_list (P:=P) w' ⟨b,o,none⟩ (L.flatMap (·.cells.toList)) fun j u hj=>by
   rw[iM,nO pX];rw[f1,List.getElem?_take]at hj;split at hj
   ·rw[List.getElem?_drop]at hj;simpa using hj
   ·cases hj
  rw[f2,Ul]at this;simpa[Builtin.firstCells]using this
noncomputable section
def qE (size:Nat)(v:AV)(h:Tr ABlk):Option (Nat×List AV):=
 match v with
 |.sl0=>some (0,[])
 |.sl i o m _ _=>match h.get i with
  |some (.cells _ n c _ _)=>match Nat.ble (Nat.add o (Nat.mul m size)) n with
   |true=>match iI c (Nat.mul m size) o with
    |some l=>some (m,l)
    |none=>none
   |false=>none
  |_=>none
 |.str l n=>match Nat.beq size 1 with
  |true=>some (l,uZ l n)
  |false=>none
 |.bs b=>match Nat.beq size 1 with
  |true=>some (b.size,b.data.toList.map fun z=>.int .u8 (Int.ofNat z.toNat))
  |false=>none
 |.fz es _ xs=>match Nat.beq es size with
  |true=>some (xs.length,xs.flatMap AV.cells)
  |false=>none
 |_=>none
theorem Z5 {σ:Sg}:∀(l:List UInt8),aC σ (l.map fun z=>.int .u8 (Int.ofNat z.toNat)) (l.map fun z=>.int .u8 z.toNat)
 |[]=>by simp only[List.map_nil,aC]
 |z::l=>by
  simp only[List.map_cons,aC,av];exact⟨_,_,rfl,rfl,Z5 l⟩
theorem Yp (hk:Ok G σ h nx w){size:Nat}{v:AV}{V:Value}(hv:av σ v V){m:Nat}{l:List AV}(hs:qE size v h=some (m,l)):
  ∃L,aC σ l L∧l.length=m * size∧(∀w':World,(Builtin.lenOf V).run P w'=.ok m w')∧∀w':World,w'.heap=w.heap→(Builtin.firstCells size m V).run P w'=.ok L.toArray w':=by
 unfold qE at hs;cases v <;> try (cases hs;done)
 case bs b=>
  simp only[av]at hv;subst hv;simp only at hs;cases hb:Nat.beq size 1 with
  |false=>rw[hb]at hs;cases hs
  |true=>
   rw[hb]at hs;cases hs;have:=ad hb;subst this;have T8:b.data.size=b.size:=rfl;refine⟨b.data.toList.map fun z=>.int .u8 z.toNat,Z5 _,by simp[T8],fun w'=>by simp[Builtin.lenOf],fun w' _=>?_⟩;simp only[Builtin.firstCells,Sem.run_pure];have hx:b.extract 0 b.size=b:=by
    apply ByteArray.ext;rw[ByteArray.data_extract];exact Array.extract_size
   rw[hx]
   congr 1
   rw[← Array.toList_map]
 case fz es full xs=>
  simp only at hs;cases hb:Nat.beq es size with
  |false=>rw[hb]at hs;cases hs
  |true=>
   rw[hb]at hs;cases hs;have:=ad hb;subst this;obtain⟨a,cap,L,e,g1,g2,g3⟩:=hk.fz (P:=P) hv;subst e;exact⟨L,g1,g2,fun w'=>by simp[Builtin.lenOf],g3⟩
 ·rename_i sl sn;simp only[av]at hv;obtain⟨hn,e⟩:=hv;subst e;simp only at hs;cases hb:Nat.beq size 1 with
  |false=>rw[hb]at hs;cases hs
  |true=>
   rw[hb]at hs;cases hs;have:=ad hb;subst this;refine⟨(cC m sn).map fun b=>.int .u8 b.toNat,JN m sn,by rw[JB];omega,fun w'=>by simp[Builtin.lenOf,tw],fun w' _=>?_⟩;simp only[Builtin.firstCells,Sem.run_pure];have hx:(bE m sn).extract 0 m=bE m sn:=by
    apply ByteArray.ext;rw[ByteArray.data_extract];have hx:∀(a:Array UInt8) (n:Nat),a.size=n→a.extract 0 n=a:=by
     intro a n e;subst e;exact Array.extract_size
    exact hx _ _ (tw m sn)
   rw[hx]
   congr 1
   show Array.map _ (cC m sn).toArray=_;simp
 ·simp only[av]at hv;subst hv;cases hs;exact⟨[],by simp only[aC],by simp,fun w'=>by simp[Builtin.lenOf],fun w' _=>by simp[Builtin.firstCells]⟩
 ·rename_i i o sm c opn;simp only[av]at hv;obtain⟨b,hb,e,_⟩:=hv;subst e;simp only at hs;split at hs
  ·rename_i e' n c' bu esz hg;split at hs
   ·rename_i hle;split at hs
    ·rename_i l' vJ;cases hs;obtain⟨b',C,fr,aS,aF,aK,_,_⟩:=hk.cells hg;rw[hb]at aS;cases aS;obtain⟨hlen,_⟩:=Ql _ _ _ _ vJ;obtain⟨_,L,iR,kM,eh⟩:=Bo (P:=P) aF aK (ah hle) vJ;refine⟨L,iR,hlen,fun w'=>by simp[Builtin.lenOf],fun w' hw=>?_⟩;have pX:w'.heap[b]?=some (.cells C e' fr):=by rw[hw];exact aF
     have hL:L.length=m * size:=by rw[iR.length];exact hlen
     have:=run_loadCells_list (P:=P) w' ⟨b,o,none⟩ L fun j u hj=>by
      rw[iM,nO pX,← nO aF,← iM];exact eh j u hj
     rw[hL]at this;simpa[Builtin.firstCells]using this
    ·cases hs
   ·cases hs
  ·cases hs
def yw (e:TypeId)(l:List AV) (size need:Nat)(h:Tr ABlk) (nx:Nat):R:=
 qV l .nil 0 fun c=>fN (Nat.mul need size) fun n=>h.putK (some (.cells e n c true size)) nx fun h'=>fN (Nat.succ nx) fun ax=>fN need fun need=>.val (.sl nx 0 need 0 true) h' ax
def Ll (ti tu:TI)(te:Option TI)(et:TypeId)(s x:AV)(h:Tr ABlk) (nx:Nat):R:=
 match ti,tu,te with
 |.mk d _ _ _ _,.mk du _ _ _ _,some (.mk _ size bytes (some _) _)=>match d with
  |.slice e=>match Nat.beq e et with
   |false=>.fail
   |true=>match yQ du with
    |false=>.fail
    |true=>match Nat.ble bytes 65536 with
     |false=>.fail
     |true=>match qE size x h with
      |none=>.fail
      |some (m,news)=>match dB news with
       |false=>.fail
       |true=>match s with
        |.sl0=>match Nat.beq m 0 with
         |true=>.val .sl0 h nx
         |false=>match Nat.ble m 16777216 with
          |true=>yw e news size m h nx
          |false=>.fail
        |.fz es full xs=>match Nat.beq es size with
         |false=>.fail
         |true=>match full with
          |false=>.fail
          |true=>match Nat.beq m 0 with
           |true=>.val (.fz es true xs) h nx
           |false=>match Nat.ble (Nat.add xs.length m) 16777216 with
            |true=>yw e (xs.flatMap AV.cells++news) size (Nat.add xs.length m) h nx
            |false=>.fail
        |.sl i o len c opn=>match Nat.ble (Nat.add len m) 16777216 with
         |false=>.fail
         |true=>match h.get i with
          |some (.cells e' n cs bu esz)=>match Nat.ble (Nat.add o (Nat.mul len size)) n with
           |false=>.fail
           |true=>match opn with
            |false=>match Nat.ble (Nat.add len m) c with
             |true=>match Nat.ble (Nat.add o (Nat.mul (Nat.add len m) size)) n with
              |true=>qV news cs (Nat.add o (Nat.mul len size)) fun jI=>h.putK (some (.cells e' n jI bu esz)) i fun h'=>fN (Nat.add len m) fun l'=>.val (.sl i o l' c false) h' nx
              |false=>.fail
             |false=>match iI cs (Nat.mul len size) o with
              |some jz=>yw e (jz++news) size (Nat.add len m) h nx
              |none=>.fail
            |true=>match Nat.beq o 0 && Nat.beq c 0 && bu && Nat.beq esz size && Nat.beq e' e && Nat.ble 1 size with
             |true=>match Nat.ble (Nat.mul (Nat.add len m) size) n with
              |true=>qV news cs (Nat.mul len size) fun jI=>h.putK (some (.cells e' n jI true esz)) i fun h'=>fN (Nat.add len m) fun l'=>.val (.sl i 0 l' 0 true) h' nx
              |false=>qV news cs (Nat.mul len size) fun jI=>fN (Nat.mul (Nat.add len m) size) fun n'=>h.putK none i fun h'=>h'.putK (some (.cells e n' jI true size)) nx fun h'=>
                fN (Nat.succ nx) fun ax=>fN (Nat.add len m) fun l'=>.val (.sl nx 0 l' 0 true) h' ax
             |false=>.fail
          |_=>.fail
        |_=>.fail
  |_=>.fail
 |_,_,_=>.fail
end
theorem zQ0 (hk:Ok G σ h nx w)(e:TypeId){l:List AV}{L:List Value}(hl:aC σ l L){size need cap:Nat}(hlen:l.length=need * size)(eJ:need≤cap){Z:Array Value}(hZ:Z.size=size):
  Post G σ h nx w (σ.add nx w.heap.size cap) (h.put nx (some (.cells e (need * size) (ef l .nil 0) true size))) (nx+1) (w.drew.alloc (.cells (L.toArray++Builtin.zeroCells Z (cap-need)) e)):=by
 have hd:=Post.drawn hk (w.drawn+1);have ha:=Post.alloc hd.ok cap (.cells e (need * size) (ef l .nil 0) true size) (.cells (L.toArray++Builtin.zeroCells Z (cap-need)) e) (by
  simp only[bX];refine⟨_,_,rfl,fun k aU=>?_,fun k aU=>by omega,?_⟩
  ·obtain⟨v,hv⟩:∃v,l[k]?=some v:=⟨l[k]'(by omega),by simp[show k<l.length by omega]⟩;obtain⟨V,h1,h2⟩:=hl.get hv;refine⟨v,V,?_,?_,h2.mono (Sg.add_le (hk.fresh nx (ae _)))⟩
   ·rw[pz,if_pos (by omega)];simpa using hv
   ·rw[Array.getElem?_append_left (by simp[hl.length];omega)];simpa using h1
  ·simp only[if_true,Array.size_append,List.size_toArray,hl.length,hlen,size_zeroCells,hZ];have:(σ.add nx w.heap.size cap).cap nx=cap:=by simp[Sg.add]
   refine⟨by omega,?_⟩;show _=(σ.add nx w.heap.size cap).cap nx * size;rw[this,← Nat.add_mul]
   congr 1
   omega)
 exact hd.trans ha
theorem PX (hk:Ok G σ h nx w)(e:TypeId){l:List AV}{L:List Value}(hl:aC σ l L){size need cap:Nat}(hlen:l.length=need * size)(eJ:need≤cap){Z:Array Value}(hZ:Z.size=size){m:Sem Value}
  (hm:m.run P w=.ok (.slice (some ⟨w.heap.size,0,none⟩) need cap) (w.drew.alloc (.cells (L.toArray++Builtin.zeroCells Z (cap-need)) e))):RV P G σ h nx w m (yw e l size need h nx):=by
 simp only[yw,kY,fN_eq,Tr.putK_eq,RV];refine⟨_,_,_,hm,?_,zQ0 hk e hl hlen eJ hZ⟩;simp only[av,if_true];exact⟨w.heap.size,by simp[Sg.add],by simp[Sg.add],by simp[Sg.add];exact eJ⟩
theorem Wt (hk:Ok G σ h nx w)(t u ty:TypeId){ti tu:TI}(ht:cJ P t ti)(II:cJ P u tu){te:Option TI}{et:TypeId}(iG:∀ti,te=some ti→cJ P et ti){s x:AV}{S X:Value}(hs:av σ s S)(hx:av σ x X):
  RV P G σ h nx w (Builtin.append_ #[t,u] ty #[S,X]) (Ll ti tu te et s x h nx):=by
 unfold Ll;split
 ·rename_i d q1 q2 q3 q4 du q5 q6 q7 q8 de size bytes z OE;obtain⟨hu,jL⟩:=ht;obtain⟨mQ,Og⟩:=II;clear jL Og;obtain⟨nH,inf,hi,bI,nB,eN,Om⟩:=iG _ rfl;clear Om;obtain⟨Z,hZ,jM,oZ⟩:=eN z rfl;clear iG eN;cases d <;> try trivial
  rename_i e;simp only;cases dG:Nat.beq e et with
  |false=>trivial
  |true=>
  have:=ad dG;subst this;simp only;cases kO:yQ du with
  |false=>trivial
  |true=>
  cases Cd:Nat.ble bytes 65536 with
  |false=>trivial
  |true=>
  have vy:=ah Cd;simp only;cases vW:qE size x h with
  |none=>trivial
  |some p=>
  obtain⟨m,news⟩:=p;simp only;cases lI:dB news with
  |false=>trivial
  |true=>
  obtain⟨NL,cI,cY,dz,dV⟩:=Yp (P:=P) hk hx vW;have r6:=K5 lI cI;have gC:NL.length=m * size:=by rw[cI.length];exact cY
  have lJ:∀k,k≤16777216→k * inf.bytes≤140737488355328:=by
   intro k aU;rw[nB];have:=Nat.mul_le_mul aU vy;omega
  simp only;cases s <;> try trivial
  case fz es full xs=>
   simp only;cases sd:Nat.beq es size with
   |false=>trivial
   |true=>
   have:=ad sd;subst this;cases full with
   |false=>trivial
   |true=>
   obtain⟨a,cap,OL,eS,g1,g2,g3⟩:=hk.fz (P:=P) hs;have jf:=hs;simp only[av]at jf;obtain⟨a',qab,S6,_,bL,FD,_⟩:=jf;rw[eS]at S6;cases S6;have eJ:=bL trivial;subst eJ;simp only;cases Aa:Nat.beq m 0 with
   |true=>
    have:=ad Aa;subst this;refine SV.pure hk (V:=S) ?_ hs;have TS:NL=[]:=au (by rw[gC];simp);have hf:=dV w rfl;subst eS;cases a with
    |none=>
     cases du <;> first
      |(cases kO;done)
      |(simp[Builtin.append_,run_underlying hu,run_underlying mQ,nN hi,bI,dz,hf];done)
    |some a=>
     subst TS;cases du <;> first
      |(cases kO;done)
      |(simp[Builtin.append_,run_underlying hu,run_underlying mQ,nN hi,bI,dz,hf,storeCells];done)
   |false=>
    have NA:=mX Aa;simp only;cases NB:Nat.ble (Nat.add xs.length m) 16777216 with
    |false=>trivial
    |true=>
    have Ad:xs.length+m≤16777216:=ah NB;have aO:=KD (P:=P) (w:=w) t u ty e inf Z du hu mQ kO hi hZ S a xs.length xs.length m eS X OL NL (dz w) (by rw[bI];exact g3 w.drew rfl) (by rw[bI];exact dV w.drew rfl) (by omega) (lJ _ Ad) (by omega);simp only[List.append_toArray]at aO;exact PX hk e (g1.append cI) (by rw[List.length_append,g2,cY,Nat.add_mul]) (C8 w (xs.length+m) xs.length e) oZ aO
  ·
   simp only[av]at hs;subst hs;simp only;cases Aa:Nat.beq m 0 with
   |true=>
    have:=ad Aa;subst this;refine SV.pure hk (V:=.slice none 0 0) ?_ (by simp only[av]);have TS:NL=[]:=au (by rw[gC];simp);have hf:=dV w rfl;cases du <;> first
     |(cases kO;done)
     |(simp[Builtin.append_,run_underlying hu,run_underlying mQ,nN hi,bI,dz,hf];done)
   |false=>
    have NA:=mX Aa;simp only;cases NB:Nat.ble m 16777216 with
    |false=>trivial
    |true=>
    have Ad:=ah NB;have aO:=KD (P:=P) (w:=w) t u ty e inf Z du hu mQ kO hi hZ (.slice none 0 0) none 0 0 m rfl X [] NL (dz w) (by simp[Builtin.firstCells]) (by rw[bI];exact dV w.drew rfl) (by omega) (by rw[Nat.zero_add];exact lJ m Ad) (by omega);simp only[Nat.zero_add,List.append_toArray,List.nil_append]at aO;exact PX hk e cI cY (C8 w m 0 e) oZ aO
  ·rename_i i o len c opn;simp only[av]at hs;obtain⟨b,hb,eS,gP⟩:=hs;simp only;cases sD:Nat.ble (Nat.add len m) 16777216 with
   |false=>trivial
   |true=>
   have Fv:len+m≤16777216:=ah sD;simp only;split
   ·rename_i e' n cs bu esz hg;obtain⟨b',C,fr,aS,aF,aK,oR,ll⟩:=hk.cells hg;rw[hb]at aS;cases aS;have hnC:n≤C.size:=by split at ll <;> omega
    cases Cn:Nat.ble (Nat.add o (Nat.mul len size)) n with
    |false=>trivial
    |true=>
    have Ag:o+len * size≤n:=ah Cn;have holds:∃jz OL,iI cs (Nat.mul len size) o=some jz→aC σ jz OL∧jz.length=len * size∧∀w':World,w'.heap=w.heap→(Builtin.firstCells size len S).run P w'=.ok OL.toArray w':=by
     cases fE:iI cs (Nat.mul len size) o with
     |none=>exact⟨[],[],fun e=>by cases e⟩
     |some jz=>
      obtain⟨jc,OL,iR,_,eh⟩:=Bo (P:=P) aF aK Ag fE;refine⟨jz,OL,fun _=>⟨iR,jc,fun w' hw=>?_⟩⟩;have pX:w'.heap[b]?=some (.cells C e' fr):=by rw[hw];exact aF
      have hL:OL.length=len * size:=by rw[iR.length];exact jc
      have:=run_loadCells_list (P:=P) w' ⟨b,o,none⟩ OL fun j u hj=>by
       rw[iM,nO pX,← nO aF,← iM];exact eh j u hj
      rw[hL]at this;rw[eS];simpa[Builtin.firstCells]using this
    cases opn with
    |false=>
     simp only[Bool.false_eq_true,if_false]at eS gP;simp only;cases cq:Nat.ble (Nat.add len m) c with
     |true=>
      have ow:len+m≤c:=ah cq;simp only;cases ib:Nat.ble (Nat.add o (Nat.mul (Nat.add len m) size)) n with
      |false=>trivial
      |true=>
      have Fa:o+(len+m) * size≤n:=ah ib;rw[Nat.add_mul]at Fa;simp only[kY,Tr.putK_eq,fN_eq];have aO:=Rq (P:=P) (w:=w) t u ty e inf du hu mQ kO hi b o len c m X NL (dz w) (by rw[bI];exact dV w rfl) ow aF (by rw[bI,gC];omega) oR r6;rw[← eS,bI]at aO;have aW:=Lm hk hg (o:=o+len * size) cI (by rw[cY];omega) hb aF;refine⟨_,_,_,aO,?_,aW⟩;simp only[av,Bool.false_eq_true,if_false];exact⟨b,hb,rfl,ow⟩
     |false=>
      have ow:¬len+m≤c:=fun hh=>by rw[show Nat.ble (Nat.add len m) c=true from Nat.ble_eq_true_of_le hh]at cq;cases cq
      simp only;obtain⟨jz,OL,qao⟩:=holds;cases fE:iI cs (Nat.mul len size) o with
      |none=>trivial
      |some UU=>
       simp only;obtain⟨jc,DX,iR,_,eh⟩:=Bo (P:=P) aF aK Ag fE;have xQ:∀w':World,w'.heap=w.heap→(Builtin.firstCells size len S).run P w'=.ok DX.toArray w':=by
        intro w' hw;have pX:w'.heap[b]?=some (.cells C e' fr):=by rw[hw];exact aF
        have hL:DX.length=len * size:=by rw[iR.length];exact jc
        have:=run_loadCells_list (P:=P) w' ⟨b,o,none⟩ DX fun j u hj=>by
         rw[iM,nO pX,← nO aF,← iM];exact eh j u hj
        rw[hL]at this;rw[eS];simpa[Builtin.firstCells]using this
       have aO:=KD (P:=P) (w:=w) t u ty e inf Z du hu mQ kO hi hZ S (some ⟨b,o,none⟩) len c m eS X DX NL (dz w) (by rw[bI];exact xQ w.drew rfl) (by rw[bI];exact dV w.drew rfl) (by omega) (lJ _ Fv) (by omega);rw[List.append_toArray DX NL]at aO;exact PX hk e (iR.append cI) (by rw[List.length_append,jc,cY,← Nat.add_mul]) (C8 w (len+m) c e) oZ aO
    |true=>
     simp only[if_true]at eS gP;simp only;cases aR:(Nat.beq o 0 && Nat.beq c 0 && bu && Nat.beq esz size && Nat.beq e' e && Nat.ble 1 size) with
     |false=>trivial
     |true=>
      simp only[al]at aR;obtain⟨⟨⟨⟨⟨e1,e2⟩,e3⟩,e4⟩,e5⟩,e6⟩:=aR;have jY:=ad e1;have rM:=ad e2;have tN:=ad e4;have HZ:=ad e5;have H0:1≤size:=ah e6;subst jY;subst rM;subst tN;subst HZ;subst e3;simp only[Nat.sub_zero]at eS gP;simp only[if_true]at ll;simp only[Nat.zero_add]at Ag;simp only;cases FM:Nat.ble (Nat.mul (Nat.add len m) esz) n with
      |true=>
       have Ah:(len+m) * esz≤n:=ah FM;have cq:len+m≤σ.cap i:=by
        have:(len+m) * esz≤σ.cap i * esz:=by rw[← ll.2];omega
        exact Nat.le_of_mul_le_mul_right this H0
       rw[Nat.add_mul]at Ah;simp only[kY,Tr.putK_eq,fN_eq];have aO:=Rq (P:=P) (w:=w) t u ty e' inf du hu mQ kO hi b 0 len (σ.cap i) m X NL (dz w) (by rw[bI];exact dV w rfl) cq aF (by rw[bI,gC];omega) oR r6;rw[← eS,bI,Nat.zero_add]at aO;have aW:=Lm hk hg (o:=len * esz) cI (by rw[cY];omega) hb aF;refine⟨_,_,_,aO,?_,aW⟩;simp only[av,if_true,Nat.sub_zero];exact⟨b,hb,rfl,cq⟩
      |false=>
       simp only[kY,Tr.putK_eq,fN_eq]
       by_cases cq:len+m≤σ.cap i
       ·have ib:(len+m) * esz≤C.size:=by rw[ll.2];exact Nat.mul_le_mul_right _ cq
        have Fb:=ib;rw[Nat.add_mul]at Fb;have aO:=Rq (P:=P) (w:=w) t u ty e' inf du hu mQ kO hi b 0 len (σ.cap i) m X NL (dz w) (by rw[bI];exact dV w rfl) cq aF (by rw[bI,gC];omega) oR r6;rw[← eS,bI,Nat.zero_add]at aO;have hle:σ.Le (σ.add nx b (σ.cap i)):=Sg.add_le (hk.fresh nx (ae _));have NG:=Post.move hk hg hb (.cells e' ((len+m) * esz) (ef news cs (len * esz)) true esz) (.cells (oH NL C (len * esz)) e' fr) (by
         simp only[bX];refine⟨_,_,rfl,fun k aU=>?_,by rw[CW];exact oR,?_⟩
         ·rw[pz,Lg _ _ _ _ (by rw[gC];omega),gC,cY];rw[Nat.add_mul]at aU
          by_cases cB:len * esz≤k∧k<len * esz+m * esz
          ·rw[if_pos cB,if_pos cB];obtain⟨v,hv⟩:∃v,news[k-len * esz]?=some v:=⟨news[k-len * esz]'(by omega),by simp[show k-len * esz<news.length by omega]⟩;obtain⟨V,h1,h2⟩:=cI.get hv;exact⟨v,V,hv,h1,h2.mono hle⟩
          ·rw[if_neg cB,if_neg cB];obtain⟨v,V,h1,h2,h3⟩:=aK k (by omega);exact⟨v,V,h1,h2,h3.mono hle⟩
         ·rw[CW];simp only[if_true];refine⟨ib,?_⟩;rw[ll.2];simp[Sg.add])
        refine⟨_,_,_,aO,?_,NG⟩;simp only[av,if_true,Nat.sub_zero];exact⟨b,by simp[Sg.add],by simp[Sg.add],by simp[Sg.add];exact cq⟩
       ·have hOL:∃OL:List Value,OL.length=len * esz∧(∀k,k<len * esz→OL[k]?=C[k]?)∧∀w':World,w'.heap=w.heap→(Builtin.firstCells esz len S).run P w'=.ok OL.toArray w':=by
         refine⟨C.toList.take (len * esz),by simp;omega,fun k aU=>by rw[List.getElem?_take_of_lt aU];simp,fun w' hw=>?_⟩;have pX:w'.heap[b]?=some (.cells C e' fr):=by rw[hw];exact aF
         have hL:(C.toList.take (len * esz)).length=len * esz:=by simp;omega
         have:=run_loadCells_list (P:=P) w' ⟨b,0,none⟩ (C.toList.take (len * esz)) fun j u hj=>by
          rw[iM,nO pX,Nat.zero_add];have xV:j<len * esz:=by
           rcases Nat.lt_or_ge j (len * esz) with h3 |h3
           ·exact h3
           ·rw[List.getElem?_eq_none (by omega)]at hj;cases hj
          rw[List.getElem?_take_of_lt xV]at hj;simpa using hj
         rw[hL]at this;rw[eS];simpa[Builtin.firstCells]using this
        obtain⟨OL,zo,Mw,xQ⟩:=hOL;have aO:=KD (P:=P) (w:=w) t u ty e' inf Z du hu mQ kO hi hZ S (some ⟨b,0,none⟩) len (σ.cap i) m eS X OL NL (dz w) (by rw[bI];exact xQ w.drew rfl) (by rw[bI];exact dV w.drew rfl) (by omega) (lJ _ Fv) (by omega);rw[List.append_toArray OL NL]at aO;have lD:=C8 w (len+m) (σ.cap i) e';generalize grownCap w (len+m) (σ.cap i) e'=cap at aO lD;have IC:=Post.erase hk i;have Aj:=Post.drawn IC.ok (w.drawn+1);have hle:σ.Le (σ.add nx w.heap.size cap):=Sg.add_le (hk.fresh nx (ae _));have NY:=Post.alloc Aj.ok cap (.cells e' ((len+m) * esz) (ef news cs (len * esz)) true esz) (.cells ((OL++NL).toArray++Builtin.zeroCells Z.cells (cap-(len+m))) e') (by
         simp only[bX];refine⟨_,_,rfl,fun k aU=>?_,fun k _=>by omega,?_⟩
         ·rw[Nat.add_mul]at aU;rw[pz,cY,Array.getElem?_append_left (by simp[zo,gC];omega)]
          by_cases cB:len * esz≤k∧k<len * esz+m * esz
          ·rw[if_pos cB];obtain⟨v,hv⟩:∃v,news[k-len * esz]?=some v:=⟨news[k-len * esz]'(by omega),by simp[show k-len * esz<news.length by omega]⟩;obtain⟨V,h1,h2⟩:=cI.get hv;refine⟨v,V,hv,?_,h2.mono hle⟩;rw[List.getElem?_toArray,List.getElem?_append_right (by omega),zo];exact h1
          ·rw[if_neg cB];have az:k<len * esz:=by omega
           obtain⟨v,V,h1,h2,h3⟩:=aK k (by omega);refine⟨v,V,h1,?_,h3.mono hle⟩;rw[List.getElem?_toArray,List.getElem?_append_left (by omega),Mw k az];exact h2
         ·simp only[if_true,Array.size_append,List.size_toArray,List.length_append,zo,gC,size_zeroCells,oZ];have hc:(σ.add nx w.heap.size cap).cap nx=cap:=by simp[Sg.add]
          refine⟨by rw[Nat.add_mul];omega,?_⟩;show _=(σ.add nx w.heap.size cap).cap nx * esz;rw[hc,← Nat.add_mul,← Nat.add_mul]
          congr 1
          omega)
        refine⟨_,_,_,aO,?_,(IC.trans Aj).trans NY⟩;simp only[av,if_true,Nat.sub_zero];exact⟨w.heap.size,by simp[Sg.add],by simp[Sg.add],by simp[Sg.add];exact lD⟩
   ·trivial
 ·trivial
end Go.Ev
