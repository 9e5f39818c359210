/- Texts O8 A A2 O9. -/
import Derived.Test.YtjngkeajenankaaGreatDoorP02
set_option linter.unusedSimpArgs false
set_option linter.unusedVariables false
set_option maxRecDepth 100000
namespace Go.Ev
variable {P : Program} {G : Gl} {σ τ υ : Sg} {h g f : Tr ABlk} {nx ny nz : Nat} {w x y : World}
noncomputable section
def vBool (b:Bool)(h:Tr ABlk) (nx:Nat):R:=match b with |true=>.val (.bool true) h nx |false=>.val (.bool false) h nx
theorem vBool_ok (hk:Ok G σ h nx w){b:Bool}{m:Sem Value}(hm:m.run P w=.ok (.bool b) w):RV P G σ h nx w m (vBool b h nx):=by
 cases b <;> exact SV.pure hk hm (by simp only[Rel])
def evEq (ti:TI)(eqs:Option (List (Nat×TypeDesc)))(c:Bool)(op:BinOp)(x y:AV)(h:Tr ABlk) (nx:Nat):R:=
 match op with
 |.eql=>match eqV ti eqs c x y with
  |some b=>vBool b h nx
  |none=>.fail
 |.neq=>match eqV ti eqs c x y with
  |some b=>vBool (!b) h nx
  |none=>.fail
 |_=>.fail
def evBin (ti:TI)(eqs:Option (List (Nat×TypeDesc)))(c:Bool)(op:BinOp)(x y:AV)(h:Tr ABlk) (nx:Nat):R:=
 match x with
 |.int k a=>match y with
  |.int k' b=>match op with
   |.shl=>evShift .shl k a b h nx
   |.shr=>evShift .shr k a b h nx
   |op=>match ikeq k k' with
    |true=>evInt op k a b h nx
    |false=>.fail
  |_=>.fail
 |.str l n=>match y with
  |.str k m=>evStr op l n k m h nx
  |_=>.fail
 |.bs a=>match y with
  |.bs b=>evStrB op a b h nx
  |_=>.fail
 |x=>evEq ti eqs c op x y h nx
theorem RV.guard {m:Sem Value}{r:R}{gd:Sem Unit}(hg:gd.run P w=.ok () w)(hm:RV P G σ h nx w m r):RV P G σ h nx w (do gd;m) r:=by
 cases r with
 |fail=>trivial
 |unit _ _=>exact hm
 |val v g ny=>
  obtain⟨V,τ,x,h1,h2,h3⟩:=hm
  exact⟨V,τ,x,by rw[Sem.run_bind,hg];exact h1,h2,h3⟩
theorem evEq_ok (hk:Ok G σ h nx w)(t:TypeId){ti:TI}(ht:TIok P t ti){eqs:Option (List (Nat×TypeDesc))}(hq:EqOk P t eqs)(op:BinOp){x y:AV}{X Y:Value}(hx:Rel σ x X)(hy:Rel σ y Y)(xo yo:Operand)
  (hni:∀k n,x≠.int k n) (hns:∀l n,x≠.str l n) (hnb:∀b,x≠.bs b):RV P G σ h nx w (do eqGuard op t xo yo X Y;binOp op t X Y) (evEq ti eqs (isConst xo || isConst yo) op x y h nx):=by
 unfold evEq
 cases op <;> try trivial
 ·simp only
  cases he:eqV ti eqs (isConst xo || isConst yo) x y with
  |none=>trivial
  |some b=>exact vBool_ok hk (eqV_ok t ht hq hx hy xo yo he hni hns hnb w).1
 ·simp only
  cases he:eqV ti eqs (isConst xo || isConst yo) x y with
  |none=>trivial
  |some b=>exact vBool_ok hk (eqV_ok t ht hq hx hy xo yo he hni hns hnb w).2
theorem evBin_ok (hk:Ok G σ h nx w)(t:TypeId){ti:TI}(ht:TIok P t ti){eqs:Option (List (Nat×TypeDesc))}(hq:EqOk P t eqs)(op:BinOp){x y:AV}{X Y:Value}(hx:Rel σ x X)(hy:Rel σ y Y)(xo yo:Operand):
  RV P G σ h nx w (do eqGuard op t xo yo X Y;binOp op t X Y) (evBin ti eqs (isConst xo || isConst yo) op x y h nx):=by
 unfold evBin
 cases x with
 |int k a=>
  cases y <;> try trivial
  rename_i k' b
  simp only[Rel]at hx hy
  subst hx
  subst hy
  refine RV.guard (by cases op <;> rfl) ?_
  have hsh:RV P G σ h nx w (binOp op t (.int k a) (.int k' b)) (match ikeq k k' with |true=>evInt op k a b h nx |false=>.fail):=by
   cases e:ikeq k k' with
   |false=>trivial
   |true=>
    have:=ikeq_spec e
    subst this
    exact evInt_ok hk t op k a b
  cases op <;> first
   |exact hsh
   |exact evShift_ok hk t _ k k' a b
 |str l n=>
  cases y <;> try trivial
  rename_i k m
  simp only[Rel]at hx hy
  obtain⟨h1,e1⟩:=hx
  obtain⟨h2,e2⟩:=hy
  subst e1
  subst e2
  exact RV.guard (by cases op <;> rfl) (evStr_ok hk t op h1 h2)
 |bs a=>
  cases y <;> try trivial
  rename_i b
  simp only[Rel]at hx hy
  subst hx
  subst hy
  exact RV.guard (by cases op <;> rfl) (evStrB_ok hk t op a b)
 |_=>exact evEq_ok hk t ht hq op hx hy xo yo (fun _ _=>by simp) (fun _ _=>by simp) (fun _=>by simp)
def isI:TypeDesc→Bool
 |.interface _=>true
 |_=>false
def evTA (td:TI)(ta:TypeId)(ok:Bool)(x:AV)(h:Tr ABlk) (nx:Nat):R:=
 match td with
 |.mk d _ _ zero _=>match isI d with
  |true=>.fail
  |false=>match x with
   |.iface t v=>match Nat.beq t ta with
    |true=>match ok with
     |true=>.val (.tup [v,.bool true]) h nx
     |false=>.val v h nx
    |false=>match ok with
     |true=>match zero with
      |some z=>.val (.tup [z,.bool false]) h nx
      |none=>.fail
     |false=>.fail
   |.nilIface=>match ok with
    |true=>match zero with
     |some z=>.val (.tup [z,.bool false]) h nx
     |none=>.fail
    |false=>.fail
   |_=>.fail
theorem evTA_ok (hk:Ok G σ h nx w)(xt ta:TypeId){td:TI}(ht:TIok P ta td)(ok:Bool){x:AV}{X:Value}(hx:Rel σ x X):RV P G σ h nx w (Instr.typeAssert X xt ta ok) (evTA td ta ok x h nx):=by
 cases td with
 |mk d size bytes zero fs=>
 obtain⟨hu,inf,hi,hs,hby,hzz,hf,hfl,hel⟩:=ht
 unfold evTA
 simp only
 cases hid:isI d with
 |true=>trivial
 |false=>
  have hd:¬∃ms,d=.interface ms:=by
   rintro⟨ms,e⟩
   subst e
   cases hid
  simp only
  have hun : ∀ t v, (Instr.typeAssert (.iface t v) xt ta ok).run P w = (if t = ta then (pure (if ok then .tuple #[v, .bool true] else v) : Sem Value) else (if ok then do pure (.tuple #[← zeroValue ta, .bool false]) else runtimePanic (.typeAssertion (some xt) (some t) ta ""))).run P w := by
   intro t v
   unfold Instr.typeAssert
   simp only[Sem.run_bind,run_underlying hu,Result.andThen]
   cases d <;> first |rfl |(exact absurd ⟨_,rfl⟩ hd)
  have hnil : (Instr.typeAssert .nilIface xt ta ok).run P w = (if ok then do pure (.tuple #[← zeroValue ta, .bool false]) else runtimePanic (.typeAssertion (some xt) none ta "") : Sem Value).run P w := by
   unfold Instr.typeAssert
   simp only[Sem.run_bind,run_underlying hu,Result.andThen]
   cases d <;> first |rfl |(exact absurd ⟨_,rfl⟩ hd)
  cases x <;> try trivial
  ·rename_i t v
   simp only[Rel]at hx
   obtain⟨V,e,hv⟩:=hx
   subst e
   simp only
   cases ht:Nat.beq t ta with
   |true=>
    have:=Nat.eq_of_beq_eq_true ht
    subst this
    cases ok with
    |true=>
     refine SV.pure hk (V:=.tuple #[V,.bool true]) (by rw[hun];simp) ?_
     simp only[Rel]
     exact⟨[V,.bool true],rfl,by simp only[RelL,Rel];exact⟨_,_,rfl,hv,_,_,rfl,rfl,rfl⟩⟩
    |false=>exact SV.pure hk (V:=V) (by rw[hun];simp) hv
   |false=>
    have hne:=beq_false ht
    cases ok with
    |false=>trivial
    |true=>
     cases zero with
     |none=>trivial
     |some z=>
      obtain⟨Z,hZ,hzr,_⟩:=hzz z rfl
      refine SV.pure hk (V:=.tuple #[Z,.bool false]) (by rw[hun];simp[hne,run_zero hi hZ]) ?_
      simp only[Rel]
      exact⟨[Z,.bool false],rfl,by simp only[RelL,Rel];exact⟨_,_,rfl,hzr σ,_,_,rfl,rfl,rfl⟩⟩
  ·simp only[Rel]at hx
   subst hx
   cases ok with
   |false=>trivial
   |true=>
    cases zero with
    |none=>trivial
    |some z=>
     obtain⟨Z,hZ,hzr,_⟩:=hzz z rfl
     refine SV.pure hk (V:=.tuple #[Z,.bool false]) (by rw[hnil];simp[run_zero hi hZ]) ?_
     simp only[Rel]
     exact⟨[Z,.bool false],rfl,by simp only[RelL,Rel];exact⟨_,_,rfl,hzr σ,_,_,rfl,rfl,rfl⟩⟩
def scal:TypeDesc→Bool
 |.int _=>true
 |.string=>true
 |.bool=>true
 |_=>false
theorem run_checkKey {kt:TypeId}{d:TypeDesc}(hu:P.underlying kt=some d)(hs:scal d=true)(e:Bool) (n:Nat)(K:Value)(w:World):(Instr.checkKey e (n+1) kt K).run P w=.ok () w:=by
 unfold Instr.checkKey
 simp only[Sem.run_bind,run_underlying hu,Result.andThen]
 cases d <;> first |rfl |(exact absurd hs (by simp[scal]))
def findA (d:TypeDesc)(k:AV)(es:List (AV×AV×Nat)):Nat→Option (Option (Nat×AV)):=
 List.rec (motive:=fun _=>Nat→Option (Option (Nat×AV))) (fun _=>some none) (fun e _ ih i=>match e with
  |(k',v,_)=>match scalEq d k k' with
   |some true=>some (some (i,v))
   |some false=>fN (Nat.succ i) ih
   |none=>none) es
theorem findA_cons (d:TypeDesc)(k k' v:AV) (n:Nat)(es:List (AV×AV×Nat)) (i:Nat):findA d k ((k',v,n)::es) i=match scalEq d k k' with
   |some true=>some (some (i,v))
   |some false=>fN (Nat.succ i) (findA d k es)
   |none=>none:=rfl
def RelF (σ:Sg):Option (Nat×AV)→Option (Nat×Value)→Prop
 |none,R=>R=none
 |some (i,v),R=>∃V,R=some (i,V)∧Rel σ v V
theorem findA_ok {d:TypeDesc}{k:AV}{K:Value}(hk:Rel σ k K):∀{es:List (AV×AV×Nat)}{E:List MapEntry}{i:Nat}{r:Option (Nat×AV)},RelE σ es E→findA d k es i=some r→
  ∃R,Instr.findNow d K E i=some R∧RelF σ r R∧∀j v,r=some (j,v)→i≤j∧j<i+es.length∧∃k',(es[j-i]?).map (·.1)=some k'∧scalEq d k k'=some true
 |[],E,i,r,he,hf=>by
  cases hf
  simp only[RelE]at he
  subst he
  exact⟨none,rfl,rfl,fun j v e=>by cases e⟩
 |(k',v,n)::es,E,i,r,he,hf=>by
  simp only[RelE]at he
  obtain⟨K',V,E',e,h1,h2,h3⟩:=he
  subst e
  rw[findA_cons]at hf
  cases hs:scalEq d k k' with
  |none=>rw[hs]at hf;cases hf
  |some b=>
   have hsn:=(scalEq_ok (P:=default) hk h1 hs).1
   rw[hs]at hf
   cases b with
   |true=>
    cases hf
    refine⟨some (i,V),by simp[Instr.findNow,hsn],⟨V,rfl,h2⟩,fun j v' e=>?_⟩
    cases e
    exact⟨Nat.le_refl _,by simp,k',by simp,hs⟩
   |false=>
    simp only[fN_eq]at hf
    obtain⟨R,a1,a2,a3⟩:=findA_ok hk h3 hf
    refine⟨R,by simpa[Instr.findNow,hsn]using a1,a2,fun j v' e=>?_⟩
    obtain⟨b1,b2,k2,b3,b4⟩:=a3 j v' e
    refine⟨by omega,by simp at b2 ⊢;omega,k2,?_,b4⟩
    rw[show j-i=(j-Nat.succ i)+1 by omega]
    simpa using b3
def lookRest (kt et:TypeId)(K:Value)(E:List MapEntry)(ok:Bool):Sem Value:=do
 Instr.checkKey (List.toArray E).isEmpty 10000 kt K
 let (v,ok') ← match ← Instr.findKey kt K (List.toArray E).toList with
  |some (_,v)=>pure (v,true)
  |none=>pure (← zeroValue et,false)
 pure (if ok then .tuple #[v,.bool ok'] else v)
def lookRes (ok:Bool)(z:AV)(r:Option (Nat×AV))(h:Tr ABlk) (nx:Nat):R:=
 match r with
 |some (_,v)=>match ok with
  |true=>.val (.tup [v,.bool true]) h nx
  |false=>.val v h nx
 |none=>match ok with
  |true=>.val (.tup [z,.bool false]) h nx
  |false=>.val z h nx
def evLookup (ti:TI)(tk te:Option TI)(kt et:TypeId)(ok:Bool)(m k:AV)(h:Tr ABlk) (nx:Nat):R:=
 match ti,tk,te with
 |.mk (.map kt' et') _ _ _ _,some (.mk dk _ _ _ _),some (.mk _ _ _ (some z) _)=>match Nat.beq kt kt',Nat.beq et et',scal dk with
  |true,true,true=>
   match (match m with
    |.map0=>some none
    |.map i=>match h.get i with
     |some (.map es _)=>findA dk k es 0
     |_=>none
    |_=>none:Option (Option (Nat×AV))) with
   |some r=>lookRes ok z r h nx
   |none=>.fail
  |_,_,_=>.fail
 |_,_,_=>.fail
theorem evLookup_ok (hk:Ok G σ h nx w)(t:TypeId){ti:TI}(ht:TIok P t ti){tk te:Option TI}{kt et:TypeId}(htk:∀ti,tk=some ti→TIok P kt ti)(hte:∀ti,te=some ti→TIok P et ti)(ok:Bool){m k:AV}{M K:Value}
  (hm:Rel σ m M) (hkk:Rel σ k K):RV P G σ h nx w (Instr.lookup t M K ok) (evLookup ti tk te kt et ok m k h nx):=by
 unfold evLookup
 split
 ·rename_i kt' et' q1 q2 q3 q4 dk q5 q6 q7 q8 dd q9 q10 z q11
  obtain⟨hu,_⟩:=ht
  obtain⟨huk,_⟩:=htk _ rfl
  obtain⟨hue,inf,hi,hs,hby,hzz,_⟩:=hte _ rfl
  obtain⟨Z,hZ,hzr,_⟩:=hzz z rfl
  split
  ·rename_i e1 e2 e3
   have e1':=Nat.eq_of_beq_eq_true e1
   have e2':=Nat.eq_of_beq_eq_true e2
   subst e1'
   subst e2'
   have main:∀(es:List (AV×AV×Nat)) (E:List MapEntry) (r:Option (Nat×AV)),RelE σ es E→findA dk k es 0=some r→
     (lookRest kt et K E ok).run P w=.ok (match r with |some (j,v)=>(match Instr.findNow dk K E 0 with |some (some (_,V))=>if ok then .tuple #[V,.bool true] else V |_=>.nilFunc) |none=>if ok then .tuple #[Z,.bool false] else Z) w:=by
    intro es E r hE hf
    obtain⟨R,a1,a2,_⟩:=findA_ok hkk hE hf
    have hck:=run_checkKey (P:=P) huk e3 (List.toArray E).isEmpty 9999 K w
    have hfk:(Instr.findKey kt K E).run P w=.ok R w:=by simp[Instr.findKey,run_underlying huk,a1]
    cases r with
    |none=>
     simp only[RelF]at a2
     subst a2
     simp only[lookRest,Sem.run_bind,hck,Result.andThen,hfk,run_zero hi hZ,Sem.run_pure]
    |some p=>
     obtain⟨j,v⟩:=p
     simp only[RelF]at a2
     obtain⟨V,e,_⟩:=a2
     subst e
     simp only[lookRest,Sem.run_bind,hck,Result.andThen,hfk,Sem.run_pure,a1]
   have fin:∀(es:List (AV×AV×Nat)) (E:List MapEntry) (r:Option (Nat×AV)) (mm:Sem Value),RelE σ es E→findA dk k es 0=some r→
     mm.run P w=(lookRest kt et K E ok).run P w→
     RV P G σ h nx w mm (lookRes ok z r h nx):=by
    intro es E r mm hE hf hmm
    have hrun:=main es E r hE hf
    rw[← hmm]at hrun
    obtain⟨R,a1,a2,_⟩:=findA_ok hkk hE hf
    cases r with
    |none=>
     cases ok with
     |true=>
      refine SV.pure hk (V:=.tuple #[Z,.bool false]) hrun ?_
      simp only[Rel]
      exact⟨[Z,.bool false],rfl,by simp only[RelL,Rel];exact⟨_,_,rfl,hzr σ,_,_,rfl,rfl,rfl⟩⟩
     |false=>exact SV.pure hk (V:=Z) hrun (hzr σ)
    |some p=>
     obtain⟨j,v⟩:=p
     simp only[RelF]at a2
     obtain⟨V,e,hv⟩:=a2
     subst e
     rw[a1]at hrun
     cases ok with
     |true=>
      refine SV.pure hk (V:=.tuple #[V,.bool true]) hrun ?_
      simp only[Rel]
      exact⟨[V,.bool true],rfl,by simp only[RelL,Rel];exact⟨_,_,rfl,hv,_,_,rfl,rfl,rfl⟩⟩
     |false=>exact SV.pure hk (V:=V) hrun hv
   cases m <;> try trivial
   ·simp only[Rel]at hm
    subst hm
    refine fin [] [] none _ (by simp only[RelE]) rfl ?_
    unfold Instr.lookup lookRest
    simp only[Sem.run_bind,run_underlying hu,Result.andThen,Sem.run_pure]
    rfl
   ·rename_i i
    simp only[Rel]at hm
    obtain⟨b,hb,e⟩:=hm
    subst e
    cases hg:h.get i with
    |none=>simp only[hg];trivial
    |some B=>
     cases B with
     |cells _ _ _ _ _=>simp only[hg];trivial
     |loop _ _ _ _ _ _ _ _ _=>simp only[hg];trivial
     |dfr=>simp only[hg];trivial
     |miter _ _ _ _=>simp only[hg];trivial
     |siter _ _=>simp only[hg];trivial
     |map es cl=>
      simp only[hg]
      obtain⟨b',E,hb',hheap,hE⟩:=hk.map hg
      rw[hb]at hb'
      cases hb'
      cases hf:findA dk k es 0 with
      |none=>trivial
      |some r=>
       refine fin es E r _ hE hf ?_
       unfold Instr.lookup lookRest
       have hgo:(getObj b).run P w=.ok (.map (List.toArray E) cl) w:=by simp[getObj,Sem.run,hheap]
       simp only[Sem.run_bind,run_underlying hu,Result.andThen,Sem.run_pure,hgo]
       rfl
  ·trivial
 ·trivial
end
end Go.Ev
namespace Go.Ev
variable {P : Program} {G : Gl} {σ τ υ : Sg} {h g f : Tr ABlk} {nx ny nz : Nat} {w x y : World}
theorem Post.move (hk:Ok G σ h nx w){i b:Nat}{B0:ABlk}(hi:h.get i=some B0)(hb:σ.blk i=some b)(B:ABlk)(o:Obj)(hB:RelB (σ.add nx b (σ.cap i)) nx B o):
  Post G σ h nx w (σ.add nx b (σ.cap i)) ((h.put i none).put nx (some B)) (nx+1) (wset w b o):=by
 have hle:σ.Le (σ.add nx b (σ.cap i)):=Sg.add_le (hk.fresh nx (Nat.le_refl _))
 have hlt:=hk.lt hi
 have hblt:=hk.blt hi hb
 have hs:∀j B',((h.put i none).put nx (some B)).get j=some B'→j≠nx→j≠i∧h.get j=some B':=by
  intro j B' hj hn
  rw[Tr.get_put,if_neg hn,Tr.get_put]at hj
  split at hj
  ·cases hj
  ·exact⟨by assumption,hj⟩
 have hold:∀k d,k≠nx→(σ.add nx b (σ.cap i)).blk k=some d→σ.blk k=some d:=fun k d hn hh=>by simpa[Sg.add,hn]using hh
 refine⟨⟨fun a ha=>?_,by have:=hk.le;omega,fun a ha=>?_,fun a c d B1 B2 h1 h2 h3 h4=>?_,fun a B1 h1=>?_,fun d C hd=>⟨?_,fun a B1 h1 e=>?_⟩,fun g cs hg=>(hk.gl g cs hg).mono hle⟩,hle,⟨rfl,rfl,rfl,by simp[wset],fun c hc hn=>?_,fun a B1 c h1 h2=>?_,fun _ _ h=>.inl h⟩,by omega⟩
 ·have:a≠nx:=by have:=hk.le;omega
  simp[Sg.add,this,hk.glob a ha]
 ·have:a≠nx:=by omega
  simp[Sg.add,this,hk.fresh a (by omega)]
 ·by_cases e1:a=nx <;> by_cases e2:c=nx
  ·omega
  ·obtain⟨n1,n2⟩:=hs c B2 h2 e2
   have hd:d=b:=by subst e1;simpa[Sg.add]using h3.symm
   exact absurd (hk.inj c i b B2 B0 n2 hi (hd ▸ hold c d e2 h4) hb) n1
  ·obtain⟨n1,n2⟩:=hs a B1 h1 e1
   have hd:d=b:=by subst e2;simpa[Sg.add]using h4.symm
   exact absurd (hk.inj a i b B1 B0 n2 hi (hd ▸ hold a d e1 h3) hb) n1
  ·exact hk.inj a c d B1 B2 (hs a B1 h1 e1).2 (hs c B2 h2 e2).2 (hold a d e1 h3) (hold c d e2 h4)
 ·by_cases e:a=nx
  ·subst e
   rw[Tr.get_put,if_pos rfl]at h1
   cases h1
   exact⟨b,o,by simp[Sg.add],by simp[wset,hblt],hB⟩
  ·obtain⟨n1,n2⟩:=hs a B1 h1 e
   obtain⟨b',o',hb',ho,hr⟩:=hk.blk a B1 n2
   refine⟨b',o',(hle.blk a b' hb').1,?_,hr.mono hle hb'⟩
   have hne:b≠b':=fun e'=>n1 (hk.inj a i b B1 B0 n2 hi (e' ▸ hb') hb)
   simp only[wset,Array.getElem?_setIfInBounds]
   rw[if_neg hne];exact ho
 ·obtain⟨⟨t,fr,h1⟩,h2⟩:=hk.imm d C hd
  refine⟨t,fr,?_⟩
  have hne:b≠d:=fun e=>h2 i B0 hi (e ▸ hb)
  simp only[wset,Array.getElem?_setIfInBounds]
  rw[if_neg hne];exact h1
 ·by_cases e':a=nx
  ·subst e'
   have:d=b:=by simpa[Sg.add]using e.symm
   exact(hk.imm d C hd).2 i B0 hi (this ▸ hb)
  ·exact(hk.imm d C hd).2 a B1 (hs a B1 h1 e').2 (hold a d e' e)
 ·have:b≠c:=fun e=>hn i B0 hi (e ▸ hb)
  simp only[wset,Array.getElem?_setIfInBounds]
  rw[if_neg this]
 ·by_cases e:a=nx
  ·subst e
   have:c=b:=by simpa[Sg.add]using h2.symm
   exact .inr ⟨i,B0,hi,this ▸ hb⟩
  ·exact .inr ⟨a,B1,(hs a B1 h1 e).2,hold a c e h2⟩
def notInt:TypeDesc→Bool
 |.int _=>false
 |_=>true
set_option maxHeartbeats 8000000 in
theorem run_append_in (t u ty e:TypeId)(i:TypeInfo)(du:TypeDesc)(ht:P.underlying t=some (.slice e))(hu:P.underlying u=some du)(hdu:notInt du=true)(hi:P.info? e=some i)
  (b off sLen sCap m:Nat) (X:Value) (news:List Value) (hlen:(Builtin.lenOf X).run P w=.ok m w) (hfc:(Builtin.firstCells i.size m X).run P w=.ok news.toArray w)
  (hroom:sLen+m≤sCap) {C:Array Value} {te:TypeId} {fr:Nat×Nat} (hb:w.heap[b]?=some (.cells C te fr)) (hsz:off+sLen * i.size+news.length≤C.size) (hf:∀k,k<C.size→¬(fr.1≤k∧k<fr.2)) (h1:∀u∈news,u.oneCell'=true):
  (Builtin.append_ #[t,u] ty #[.slice (some ⟨b,off,none⟩) sLen sCap,X]).run P w=.ok (.slice (some ⟨b,off,none⟩) (sLen+m) sCap) (wset w b (.cells (setN news C (off+sLen * i.size)) te fr)):=by
 have hst:=run_storeN (P:=P) (b:=b) (o:=off+sLen * i.size) news 0 C w hb (by omega) hf h1
 simp only[Nat.add_zero]at hst
 cases du <;> first
  |(cases hdu;done)
  |(simp[Builtin.append_,run_underlying ht,run_underlying hu,run_size hi,hlen,hroom,hfc,addr_add,hst];done)
set_option maxHeartbeats 8000000 in
theorem run_append_out (t u ty e:TypeId)(i:TypeInfo)(z:Value)(du:TypeDesc)(ht:P.underlying t=some (.slice e))(hu:P.underlying u=some du)(hdu:notInt du=true)(hi:P.info? e=some i)(hz:i.zero=some z)
  (S:Value) (base:Option Addr) (sLen sCap m:Nat) (hS:S=.slice base sLen sCap) (X:Value) (olds news:List Value) (hlen:(Builtin.lenOf X).run P w=.ok m w) (hfo:(Builtin.firstCells i.size sLen S).run P w.drew=.ok olds.toArray w.drew) (hfc:(Builtin.firstCells i.size m X).run P w.drew=.ok news.toArray w.drew)
  (hroom:sCap<sLen+m) (hsm:(sLen+m) * i.bytes≤140737488355328) (h63:sLen+m≤4611686018427387904):
  (Builtin.append_ #[t,u] ty #[S,X]).run P w=.ok (.slice (some ⟨w.heap.size,0,none⟩) (sLen+m) (grownCap w (sLen+m) sCap e))
   (w.drew.alloc (.cells (olds.toArray++news.toArray++Builtin.zeroCells z.cells (grownCap w (sLen+m) sCap e-(sLen+m))) e)):=by
 have hfit:=growslice_fits hroom hsm
 have hn:¬(sLen+m≤sCap):=by omega
 have h63':¬(9223372036854775807<((sLen:Int)+(m:Int))):=by omega
 have h48':¬(281474976710656<Builtin.nextslicecap (sLen+m) sCap * i.bytes):=by omega
 subst hS
 cases du <;> first
  |(cases hdu;done)
  |(simp[Builtin.append_,run_underlying ht,run_underlying hu,sizeOf,typeInfo,zeroValue,hi,hz,hlen,hn,h63',h48',Question.forced,hfc,hfo,newRow,grownCap]
    try (congr 2;apply Array.ext';simp[List.append_assoc];done))
theorem Rows.flat {es:Nat}:∀{L D:List Value},Rows es L D→L.flatMap (·.cells.toList)=D.take (L.length * es)∧(L.flatMap (·.cells.toList)).length=L.length * es
 |[],D,_=>by simp
 |X::L,D,h=>by
  simp only[Rows]at h
  obtain⟨h1,h2,h3⟩:=h
  obtain⟨i1,i2⟩:=Rows.flat h3
  have hl:X.cells.toList.length=es:=by simpa using h2
  rw[List.flatMap_cons,i1,List.length_cons,Nat.succ_mul,Nat.add_comm _ es]
  refine⟨?_,?_⟩
  ·rw[List.take_add,← h1]
  ·rw[← i1,List.length_append,i2,hl]
theorem RelL.flat {σ:Sg}:∀{l:List AV}{L:List Value},RelL σ l L→RelL σ (l.flatMap AV.cells) (L.flatMap (·.cells.toList))
 |[],L,h=>by simp only[RelL]at h;subst h;simp only[List.flatMap_nil,RelL]
 |a::l,L,h=>by
  simp only[RelL]at h
  obtain⟨V,L',e,h1,h2⟩:=h
  subst e
  simp only[List.flatMap_cons]
  exact h1.cells.append h2.flat
theorem Ok.fz (hk:Ok G σ h nx w){es:Nat}{full:Bool}{xs:List AV}{V:Value}(hv:Rel σ (.fz es full xs) V):
  ∃a cap L,V=.slice a xs.length cap∧RelL σ (xs.flatMap AV.cells) L∧(xs.flatMap AV.cells).length=xs.length * es∧∀w':World,w'.heap=w.heap→(Builtin.firstCells es xs.length V).run P w'=.ok L.toArray w':=by
 simp only[Rel]at hv
 obtain⟨a,cap,e,h1,h2,h4,h3⟩:=hv
 subst e
 cases xs with
 |nil=>
  refine⟨a,cap,[],rfl,by simp only[List.flatMap_nil,RelL],by simp,fun w' _=>?_⟩
  cases a with
  |none=>simp[Builtin.firstCells]
  |some a=>
   have:=run_loadCells_list (P:=P) w' a [] fun j u hj=>by simp at hj
   simpa[Builtin.firstCells]using this
 |cons z xs=>
  obtain⟨b,o,C,L,ea,i1,i2,i3⟩:=h3 (by simp)
  subst ea
  obtain⟨f1,f2⟩:=i3.flat
  have hlen:=i2.flat.length
  have hlL:=i2.length
  refine⟨_,cap,_,rfl,i2.flat,by rw[← hlen,f2,hlL],fun w' hw=>?_⟩
  obtain⟨⟨t,fr,hh⟩,_⟩:=hk.imm b C i1
  have hh':w'.heap[b]?=some (.cells C.toArray t fr):=by rw[hw];exact hh
  have:=run_loadCells_list (P:=P) w' ⟨b,o,none⟩ (L.flatMap (·.cells.toList)) fun j u hj=>by
   rw[addr_add,cell_at hh']
   rw[f1,List.getElem?_take]at hj
   split at hj
   ·rw[List.getElem?_drop]at hj
    simpa using hj
   ·cases hj
  rw[f2,hlL]at this
  simpa[Builtin.firstCells]using this
noncomputable section
def srcL (size:Nat)(v:AV)(h:Tr ABlk):Option (Nat×List AV):=
 match v with
 |.sl0=>some (0,[])
 |.sl i o m _ _=>match h.get i with
  |some (.cells _ n c _ _)=>match Nat.ble (Nat.add o (Nat.mul m size)) n with
   |true=>match getN c (Nat.mul m size) o with
    |some l=>some (m,l)
    |none=>none
   |false=>none
  |_=>none
 |.str l n=>match Nat.beq size 1 with
  |true=>some (l,bytesL l n)
  |false=>none
 |.bs b=>match Nat.beq size 1 with
  |true=>some (b.size,b.data.toList.map fun z=>.int .u8 (Int.ofNat z.toNat))
  |false=>none
 |.fz es _ xs=>match Nat.beq es size with
  |true=>some (xs.length,xs.flatMap AV.cells)
  |false=>none
 |_=>none
theorem relBytes {σ:Sg}:∀(l:List UInt8),RelL σ (l.map fun z=>.int .u8 (Int.ofNat z.toNat)) (l.map fun z=>.int .u8 z.toNat)
 |[]=>by simp only[List.map_nil,RelL]
 |z::l=>by
  simp only[List.map_cons,RelL,Rel]
  exact⟨_,_,rfl,rfl,relBytes l⟩
theorem srcL_ok (hk:Ok G σ h nx w){size:Nat}{v:AV}{V:Value}(hv:Rel σ v V){m:Nat}{l:List AV}(hs:srcL size v h=some (m,l)):
  ∃L,RelL σ l L∧l.length=m * size∧(∀w':World,(Builtin.lenOf V).run P w'=.ok m w')∧∀w':World,w'.heap=w.heap→(Builtin.firstCells size m V).run P w'=.ok L.toArray w':=by
 unfold srcL at hs
 cases v <;> try (cases hs;done)
 case bs b=>
  simp only[Rel]at hv
  subst hv
  simp only at hs
  cases hb:Nat.beq size 1 with
  |false=>rw[hb]at hs;cases hs
  |true=>
   rw[hb]at hs
   cases hs
   have:=Nat.eq_of_beq_eq_true hb
   subst this
   have hbs:b.data.size=b.size:=rfl
   refine⟨b.data.toList.map fun z=>.int .u8 z.toNat,relBytes _,by simp[hbs],fun w'=>by simp[Builtin.lenOf],fun w' _=>?_⟩
   simp only[Builtin.firstCells,Sem.run_pure]
   have hx:b.extract 0 b.size=b:=by
    apply ByteArray.ext
    rw[ByteArray.data_extract]
    exact Array.extract_size
   rw[hx]
   congr 1
   rw[← Array.toList_map]
 case fz es full xs=>
  simp only at hs
  cases hb:Nat.beq es size with
  |false=>rw[hb]at hs;cases hs
  |true=>
   rw[hb]at hs
   cases hs
   have:=Nat.eq_of_beq_eq_true hb
   subst this
   obtain⟨a,cap,L,e,g1,g2,g3⟩:=hk.fz (P:=P) hv
   subst e
   exact⟨L,g1,g2,fun w'=>by simp[Builtin.lenOf],g3⟩
 ·rename_i sl sn
  simp only[Rel]at hv
  obtain⟨hn,e⟩:=hv
  subst e
  simp only at hs
  cases hb:Nat.beq size 1 with
  |false=>rw[hb]at hs;cases hs
  |true=>
   rw[hb]at hs
   cases hs
   have:=Nat.eq_of_beq_eq_true hb
   subst this
   refine⟨(strL m sn).map fun b=>.int .u8 b.toNat,bytesL_spec m sn,by rw[bytesL_length];omega,fun w'=>by simp[Builtin.lenOf,strB_size],fun w' _=>?_⟩
   simp only[Builtin.firstCells,Sem.run_pure]
   have hx:(strB m sn).extract 0 m=strB m sn:=by
    apply ByteArray.ext
    rw[ByteArray.data_extract]
    have hx:∀(a:Array UInt8) (n:Nat),a.size=n→a.extract 0 n=a:=by
     intro a n e
     subst e
     exact Array.extract_size
    exact hx _ _ (strB_size m sn)
   rw[hx]
   congr 1
   show Array.map _ (strL m sn).toArray=_
   simp
 ·simp only[Rel]at hv
  subst hv
  cases hs
  exact⟨[],by simp only[RelL],by simp,fun w'=>by simp[Builtin.lenOf],fun w' _=>by simp[Builtin.firstCells]⟩
 ·rename_i i o sm c opn
  simp only[Rel]at hv
  obtain⟨b,hb,e,_⟩:=hv
  subst e
  simp only at hs
  split at hs
  ·rename_i e' n c' opn' esz hg
   split at hs
   ·rename_i hle
    split at hs
    ·rename_i l' hl'
     cases hs
     obtain⟨b',C,fr,hb',hheap,hcell,_,_⟩:=hk.cells hg
     rw[hb]at hb'
     cases hb'
     obtain⟨hlen,_⟩:=getN_spec _ _ _ _ hl'
     obtain⟨_,L,hrl,hload,hcs⟩:=cells_read (P:=P) hheap hcell (Nat.le_of_ble_eq_true hle) hl'
     refine⟨L,hrl,hlen,fun w'=>by simp[Builtin.lenOf],fun w' hw=>?_⟩
     have hh':w'.heap[b]?=some (.cells C e' fr):=by rw[hw];exact hheap
     have hL:L.length=m * size:=by rw[hrl.length];exact hlen
     have:=run_loadCells_list (P:=P) w' ⟨b,o,none⟩ L fun j u hj=>by
      rw[addr_add,cell_at hh',← cell_at hheap,← addr_add]
      exact hcs j u hj
     rw[hL]at this
     simpa[Builtin.firstCells]using this
    ·cases hs
   ·cases hs
  ·cases hs
def growK (e:TypeId)(l:List AV) (size need:Nat)(h:Tr ABlk) (nx:Nat):R:=
 putNK l .nil 0 fun c=>fN (Nat.mul need size) fun n=>h.putK (some (.cells e n c true size)) nx fun h'=>fN (Nat.succ nx) fun nx'=>fN need fun need=>.val (.sl nx 0 need 0 true) h' nx'
def evAppend (ti tu:TI)(te:Option TI)(et:TypeId)(s x:AV)(h:Tr ABlk) (nx:Nat):R:=
 match ti,tu,te with
 |.mk d _ _ _ _,.mk du _ _ _ _,some (.mk _ size bytes (some _) _)=>match d with
  |.slice e=>match Nat.beq e et with
   |false=>.fail
   |true=>match notInt du with
    |false=>.fail
    |true=>match Nat.ble bytes 65536 with
     |false=>.fail
     |true=>match srcL size x h with
      |none=>.fail
      |some (m,news)=>match allOne news with
       |false=>.fail
       |true=>match s with
        |.sl0=>match Nat.beq m 0 with
         |true=>.val .sl0 h nx
         |false=>match Nat.ble m 16777216 with
          |true=>growK e news size m h nx
          |false=>.fail
        |.fz es full xs=>match Nat.beq es size with
         |false=>.fail
         |true=>match full with
          |false=>.fail
          |true=>match Nat.beq m 0 with
           |true=>.val (.fz es true xs) h nx
           |false=>match Nat.ble (Nat.add xs.length m) 16777216 with
            |true=>growK e (xs.flatMap AV.cells++news) size (Nat.add xs.length m) h nx
            |false=>.fail
        |.sl i o len c opn=>match Nat.ble (Nat.add len m) 16777216 with
         |false=>.fail
         |true=>match h.get i with
          |some (.cells e' n cs opn' esz)=>match Nat.ble (Nat.add o (Nat.mul len size)) n with
           |false=>.fail
           |true=>match opn with
            |false=>match Nat.ble (Nat.add len m) c with
             |true=>match Nat.ble (Nat.add o (Nat.mul (Nat.add len m) size)) n with
              |true=>putNK news cs (Nat.add o (Nat.mul len size)) fun cs'=>h.putK (some (.cells e' n cs' opn' esz)) i fun h'=>fN (Nat.add len m) fun l'=>.val (.sl i o l' c false) h' nx
              |false=>.fail
             |false=>match getN cs (Nat.mul len size) o with
              |some olds=>growK e (olds++news) size (Nat.add len m) h nx
              |none=>.fail
            |true=>match Nat.beq o 0 && Nat.beq c 0 && opn' && Nat.beq esz size && Nat.beq e' e && Nat.ble 1 size with
             |true=>match Nat.ble (Nat.mul (Nat.add len m) size) n with
              |true=>putNK news cs (Nat.mul len size) fun cs'=>h.putK (some (.cells e' n cs' true esz)) i fun h'=>fN (Nat.add len m) fun l'=>.val (.sl i 0 l' 0 true) h' nx
              |false=>putNK news cs (Nat.mul len size) fun cs'=>fN (Nat.mul (Nat.add len m) size) fun n'=>h.putK none i fun h'=>h'.putK (some (.cells e n' cs' true size)) nx fun h'=>
                fN (Nat.succ nx) fun nx'=>fN (Nat.add len m) fun l'=>.val (.sl nx 0 l' 0 true) h' nx'
             |false=>.fail
          |_=>.fail
        |_=>.fail
  |_=>.fail
 |_,_,_=>.fail
end
end Go.Ev
namespace Go.Ev
variable {P : Program} {G : Gl} {σ τ υ : Sg} {h g f : Tr ABlk} {nx ny nz : Nat} {w x y : World}
theorem grow_ok (hk:Ok G σ h nx w)(e:TypeId){l:List AV}{L:List Value}(hl:RelL σ l L){size need cap:Nat}(hlen:l.length=need * size)(hcap:need≤cap){Z:Array Value}(hZ:Z.size=size):
  Post G σ h nx w (σ.add nx w.heap.size cap) (h.put nx (some (.cells e (need * size) (putN l .nil 0) true size))) (nx+1) (w.drew.alloc (.cells (L.toArray++Builtin.zeroCells Z (cap-need)) e)):=by
 have hd:=Post.drawn hk (w.drawn+1)
 have ha:=Post.alloc hd.ok cap (.cells e (need * size) (putN l .nil 0) true size) (.cells (L.toArray++Builtin.zeroCells Z (cap-need)) e) (by
  simp only[RelB]
  refine⟨_,_,rfl,fun k hk'=>?_,fun k hk'=>by omega,?_⟩
  ·obtain⟨v,hv⟩:∃v,l[k]?=some v:=⟨l[k]'(by omega),by simp[show k<l.length by omega]⟩
   obtain⟨V,h1,h2⟩:=hl.get hv
   refine⟨v,V,?_,?_,h2.mono (Sg.add_le (hk.fresh nx (Nat.le_refl _)))⟩
   ·rw[get_putN,if_pos (by omega)]
    simpa using hv
   ·rw[Array.getElem?_append_left (by simp[hl.length];omega)]
    simpa using h1
  ·simp only[if_true,Array.size_append,List.size_toArray,hl.length,hlen,size_zeroCells,hZ]
   have:(σ.add nx w.heap.size cap).cap nx=cap:=by simp[Sg.add]
   refine⟨by omega,?_⟩
   show _=(σ.add nx w.heap.size cap).cap nx * size
   rw[this,← Nat.add_mul]
   congr 1
   omega)
 exact hd.trans ha
theorem growK_ok (hk:Ok G σ h nx w)(e:TypeId){l:List AV}{L:List Value}(hl:RelL σ l L){size need cap:Nat}(hlen:l.length=need * size)(hcap:need≤cap){Z:Array Value}(hZ:Z.size=size){m:Sem Value}
  (hm:m.run P w=.ok (.slice (some ⟨w.heap.size,0,none⟩) need cap) (w.drew.alloc (.cells (L.toArray++Builtin.zeroCells Z (cap-need)) e))):RV P G σ h nx w m (growK e l size need h nx):=by
 simp only[growK,putNK_eq,fN_eq,Tr.putK_eq,RV]
 refine⟨_,_,_,hm,?_,grow_ok hk e hl hlen hcap hZ⟩
 simp only[Rel,if_true]
 exact⟨w.heap.size,by simp[Sg.add],by simp[Sg.add],by simp[Sg.add];exact hcap⟩
set_option maxHeartbeats 4000000 in
theorem evAppend_ok (hk:Ok G σ h nx w)(t u ty:TypeId){ti tu:TI}(ht:TIok P t ti)(htu:TIok P u tu){te:Option TI}{et:TypeId}(hte:∀ti,te=some ti→TIok P et ti){s x:AV}{S X:Value}(hs:Rel σ s S)(hx:Rel σ x X):
  RV P G σ h nx w (Builtin.append_ #[t,u] ty #[S,X]) (evAppend ti tu te et s x h nx):=by
 unfold evAppend
 split
 ·rename_i d q1 q2 q3 q4 du q5 q6 q7 q8 de size bytes z q11
  obtain⟨hu,hu2⟩:=ht
  obtain⟨huu,huu2⟩:=htu
  clear hu2 huu2
  obtain⟨hue,inf,hi,hsz,hby,hzz,hze⟩:=hte _ rfl
  clear hze
  obtain⟨Z,hZ,hzr,hzs⟩:=hzz z rfl
  clear hte hzz
  cases d <;> try trivial
  rename_i e
  simp only
  cases hbe:Nat.beq e et with
  |false=>trivial
  |true=>
  have:=Nat.eq_of_beq_eq_true hbe
  subst this
  simp only
  cases hni:notInt du with
  |false=>trivial
  |true=>
  cases hbb:Nat.ble bytes 65536 with
  |false=>trivial
  |true=>
  have hbb':=Nat.le_of_ble_eq_true hbb
  simp only
  cases hsrc:srcL size x h with
  |none=>trivial
  |some p=>
  obtain⟨m,news⟩:=p
  simp only
  cases hone:allOne news with
  |false=>trivial
  |true=>
  obtain⟨NL,hnl,hnlen,hlenOf,hfirst⟩:=srcL_ok (P:=P) hk hx hsrc
  have hNone:=allOne_spec hone hnl
  have hNlen:NL.length=m * size:=by rw[hnl.length];exact hnlen
  have hsmall:∀k,k≤16777216→k * inf.bytes≤140737488355328:=by
   intro k hk'
   rw[hby]
   have:=Nat.mul_le_mul hk' hbb'
   omega
  simp only
  cases s <;> try trivial
  case fz es full xs=>
   simp only
   cases hes:Nat.beq es size with
   |false=>trivial
   |true=>
   have:=Nat.eq_of_beq_eq_true hes
   subst this
   cases full with
   |false=>trivial
   |true=>
   obtain⟨a,cap,OL,eS,g1,g2,g3⟩:=hk.fz (P:=P) hs
   have hs':=hs
   simp only[Rel]at hs'
   obtain⟨a',cap',eS',_,hfull,hn0,_⟩:=hs'
   rw[eS]at eS'
   cases eS'
   have hcap:=hfull trivial
   subst hcap
   simp only
   cases hm0:Nat.beq m 0 with
   |true=>
    have:=Nat.eq_of_beq_eq_true hm0
    subst this
    refine SV.pure hk (V:=S) ?_ hs
    have hNL:NL=[]:=List.eq_nil_of_length_eq_zero (by rw[hNlen];simp)
    have hf:=hfirst w rfl
    subst eS
    cases a with
    |none=>
     cases du <;> first
      |(cases hni;done)
      |(simp[Builtin.append_,run_underlying hu,run_underlying huu,run_size hi,hsz,hlenOf,hf];done)
    |some a=>
     subst hNL
     cases du <;> first
      |(cases hni;done)
      |(simp[Builtin.append_,run_underlying hu,run_underlying huu,run_size hi,hsz,hlenOf,hf,storeCells];done)
   |false=>
    have hm0':=beq_false hm0
    simp only
    cases hmb:Nat.ble (Nat.add xs.length m) 16777216 with
    |false=>trivial
    |true=>
    have hmb':xs.length+m≤16777216:=Nat.le_of_ble_eq_true hmb
    have hrun:=run_append_out (P:=P) (w:=w) t u ty e inf Z du hu huu hni hi hZ S a xs.length xs.length m eS X OL NL (hlenOf w) (by rw[hsz];exact g3 w.drew rfl) (by rw[hsz];exact hfirst w.drew rfl) (by omega) (hsmall _ hmb') (by omega)
    simp only[List.append_toArray]at hrun
    exact growK_ok hk e (g1.append hnl) (by rw[List.length_append,g2,hnlen,Nat.add_mul]) (grownCap_le w (xs.length+m) xs.length e) hzs hrun
  ·
   simp only[Rel]at hs
   subst hs
   simp only
   cases hm0:Nat.beq m 0 with
   |true=>
    have:=Nat.eq_of_beq_eq_true hm0
    subst this
    refine SV.pure hk (V:=.slice none 0 0) ?_ (by simp only[Rel])
    have hNL:NL=[]:=List.eq_nil_of_length_eq_zero (by rw[hNlen];simp)
    have hf:=hfirst w rfl
    cases du <;> first
     |(cases hni;done)
     |(simp[Builtin.append_,run_underlying hu,run_underlying huu,run_size hi,hsz,hlenOf,hf];done)
   |false=>
    have hm0':=beq_false hm0
    simp only
    cases hmb:Nat.ble m 16777216 with
    |false=>trivial
    |true=>
    have hmb':=Nat.le_of_ble_eq_true hmb
    have hrun:=run_append_out (P:=P) (w:=w) t u ty e inf Z du hu huu hni hi hZ (.slice none 0 0) none 0 0 m rfl X [] NL (hlenOf w) (by simp[Builtin.firstCells]) (by rw[hsz];exact hfirst w.drew rfl) (by omega) (by rw[Nat.zero_add];exact hsmall m hmb') (by omega)
    simp only[Nat.zero_add,List.append_toArray,List.nil_append]at hrun
    exact growK_ok hk e hnl hnlen (grownCap_le w m 0 e) hzs hrun
  ·rename_i i o len c opn
   simp only[Rel]at hs
   obtain⟨b,hb,eS,hlc⟩:=hs
   simp only
   cases hlm:Nat.ble (Nat.add len m) 16777216 with
   |false=>trivial
   |true=>
   have hlm':len+m≤16777216:=Nat.le_of_ble_eq_true hlm
   simp only
   split
   ·rename_i e' n cs opn' esz hg
    obtain⟨b',C,fr,hb',hheap,hcell,hfr,hCsz⟩:=hk.cells hg
    rw[hb]at hb'
    cases hb'
    have hnC:n≤C.size:=by split at hCsz <;> omega
    cases hol:Nat.ble (Nat.add o (Nat.mul len size)) n with
    |false=>trivial
    |true=>
    have hol':o+len * size≤n:=Nat.le_of_ble_eq_true hol
    have holds:∃olds OL,getN cs (Nat.mul len size) o=some olds→RelL σ olds OL∧olds.length=len * size∧∀w':World,w'.heap=w.heap→(Builtin.firstCells size len S).run P w'=.ok OL.toArray w':=by
     cases hgo:getN cs (Nat.mul len size) o with
     |none=>exact⟨[],[],fun e=>by cases e⟩
     |some olds=>
      obtain⟨hl1,OL,hrl,_,hcs⟩:=cells_read (P:=P) hheap hcell hol' hgo
      refine⟨olds,OL,fun _=>⟨hrl,hl1,fun w' hw=>?_⟩⟩
      have hh':w'.heap[b]?=some (.cells C e' fr):=by rw[hw];exact hheap
      have hL:OL.length=len * size:=by rw[hrl.length];exact hl1
      have:=run_loadCells_list (P:=P) w' ⟨b,o,none⟩ OL fun j u hj=>by
       rw[addr_add,cell_at hh',← cell_at hheap,← addr_add]
       exact hcs j u hj
      rw[hL]at this
      rw[eS]
      simpa[Builtin.firstCells]using this
    cases opn with
    |false=>
     simp only[Bool.false_eq_true,if_false]at eS hlc
     simp only
     cases hroom:Nat.ble (Nat.add len m) c with
     |true=>
      have hroom':len+m≤c:=Nat.le_of_ble_eq_true hroom
      simp only
      cases hfit:Nat.ble (Nat.add o (Nat.mul (Nat.add len m) size)) n with
      |false=>trivial
      |true=>
      have hfit':o+(len+m) * size≤n:=Nat.le_of_ble_eq_true hfit
      rw[Nat.add_mul]at hfit'
      simp only[putNK_eq,Tr.putK_eq,fN_eq]
      have hrun:=run_append_in (P:=P) (w:=w) t u ty e inf du hu huu hni hi b o len c m X NL (hlenOf w) (by rw[hsz];exact hfirst w rfl) hroom' hheap (by rw[hsz,hNlen];omega) hfr hNone
      rw[← eS,hsz]at hrun
      have hst:=store_ok hk hg (o:=o+len * size) hnl (by rw[hnlen];omega) hb hheap
      refine⟨_,_,_,hrun,?_,hst⟩
      simp only[Rel,Bool.false_eq_true,if_false]
      exact⟨b,hb,rfl,hroom'⟩
     |false=>
      have hroom':¬len+m≤c:=fun hh=>by rw[show Nat.ble (Nat.add len m) c=true from Nat.ble_eq_true_of_le hh]at hroom;cases hroom
      simp only
      obtain⟨olds,OL,hol2⟩:=holds
      cases hgo:getN cs (Nat.mul len size) o with
      |none=>trivial
      |some olds'=>
       simp only
       obtain⟨hl1,OL',hrl,_,hcs⟩:=cells_read (P:=P) hheap hcell hol' hgo
       have hfo:∀w':World,w'.heap=w.heap→(Builtin.firstCells size len S).run P w'=.ok OL'.toArray w':=by
        intro w' hw
        have hh':w'.heap[b]?=some (.cells C e' fr):=by rw[hw];exact hheap
        have hL:OL'.length=len * size:=by rw[hrl.length];exact hl1
        have:=run_loadCells_list (P:=P) w' ⟨b,o,none⟩ OL' fun j u hj=>by
         rw[addr_add,cell_at hh',← cell_at hheap,← addr_add]
         exact hcs j u hj
        rw[hL]at this
        rw[eS]
        simpa[Builtin.firstCells]using this
       have hrun:=run_append_out (P:=P) (w:=w) t u ty e inf Z du hu huu hni hi hZ S (some ⟨b,o,none⟩) len c m eS X OL' NL (hlenOf w) (by rw[hsz];exact hfo w.drew rfl) (by rw[hsz];exact hfirst w.drew rfl) (by omega) (hsmall _ hlm') (by omega)
       rw[List.append_toArray OL' NL]at hrun
       exact growK_ok hk e (hrl.append hnl) (by rw[List.length_append,hl1,hnlen,← Nat.add_mul]) (grownCap_le w (len+m) c e) hzs hrun
    |true=>
     simp only[if_true]at eS hlc
     simp only
     cases hall:(Nat.beq o 0 && Nat.beq c 0 && opn' && Nat.beq esz size && Nat.beq e' e && Nat.ble 1 size) with
     |false=>trivial
     |true=>
      simp only[Bool.and_eq_true]at hall
      obtain⟨⟨⟨⟨⟨e1,e2⟩,e3⟩,e4⟩,e5⟩,e6⟩:=hall
      have e1':=Nat.eq_of_beq_eq_true e1
      have e2':=Nat.eq_of_beq_eq_true e2
      have e4':=Nat.eq_of_beq_eq_true e4
      have e5':=Nat.eq_of_beq_eq_true e5
      have e6':1≤size:=Nat.le_of_ble_eq_true e6
      subst e1'
      subst e2'
      subst e4'
      subst e5'
      subst e3
      simp only[Nat.sub_zero]at eS hlc
      simp only[if_true]at hCsz
      simp only[Nat.zero_add]at hol'
      simp only
      cases hover:Nat.ble (Nat.mul (Nat.add len m) esz) n with
      |true=>
       have hover':(len+m) * esz≤n:=Nat.le_of_ble_eq_true hover
       have hroom:len+m≤σ.cap i:=by
        have:(len+m) * esz≤σ.cap i * esz:=by rw[← hCsz.2];omega
        exact Nat.le_of_mul_le_mul_right this e6'
       rw[Nat.add_mul]at hover'
       simp only[putNK_eq,Tr.putK_eq,fN_eq]
       have hrun:=run_append_in (P:=P) (w:=w) t u ty e' inf du hu huu hni hi b 0 len (σ.cap i) m X NL (hlenOf w) (by rw[hsz];exact hfirst w rfl) hroom hheap (by rw[hsz,hNlen];omega) hfr hNone
       rw[← eS,hsz,Nat.zero_add]at hrun
       have hst:=store_ok hk hg (o:=len * esz) hnl (by rw[hnlen];omega) hb hheap
       refine⟨_,_,_,hrun,?_,hst⟩
       simp only[Rel,if_true,Nat.sub_zero]
       exact⟨b,hb,rfl,hroom⟩
      |false=>
       simp only[putNK_eq,Tr.putK_eq,fN_eq]
       by_cases hroom:len+m≤σ.cap i
       ·have hfit:(len+m) * esz≤C.size:=by rw[hCsz.2];exact Nat.mul_le_mul_right _ hroom
        have hfit2:=hfit
        rw[Nat.add_mul]at hfit2
        have hrun:=run_append_in (P:=P) (w:=w) t u ty e' inf du hu huu hni hi b 0 len (σ.cap i) m X NL (hlenOf w) (by rw[hsz];exact hfirst w rfl) hroom hheap (by rw[hsz,hNlen];omega) hfr hNone
        rw[← eS,hsz,Nat.zero_add]at hrun
        have hle:σ.Le (σ.add nx b (σ.cap i)):=Sg.add_le (hk.fresh nx (Nat.le_refl _))
        have hmv:=Post.move hk hg hb (.cells e' ((len+m) * esz) (putN news cs (len * esz)) true esz) (.cells (setN NL C (len * esz)) e' fr) (by
         simp only[RelB]
         refine⟨_,_,rfl,fun k hk'=>?_,by rw[setN_size];exact hfr,?_⟩
         ·rw[get_putN,get_setN _ _ _ _ (by rw[hNlen];omega),hNlen,hnlen]
          rw[Nat.add_mul]at hk'
          by_cases hin:len * esz≤k∧k<len * esz+m * esz
          ·rw[if_pos hin,if_pos hin]
           obtain⟨v,hv⟩:∃v,news[k-len * esz]?=some v:=⟨news[k-len * esz]'(by omega),by simp[show k-len * esz<news.length by omega]⟩
           obtain⟨V,h1,h2⟩:=hnl.get hv
           exact⟨v,V,hv,h1,h2.mono hle⟩
          ·rw[if_neg hin,if_neg hin]
           obtain⟨v,V,h1,h2,h3⟩:=hcell k (by omega)
           exact⟨v,V,h1,h2,h3.mono hle⟩
         ·rw[setN_size]
          simp only[if_true]
          refine⟨hfit,?_⟩
          rw[hCsz.2]
          simp[Sg.add])
        refine⟨_,_,_,hrun,?_,hmv⟩
        simp only[Rel,if_true,Nat.sub_zero]
        exact⟨b,by simp[Sg.add],by simp[Sg.add],by simp[Sg.add];exact hroom⟩
       ·have hOL:∃OL:List Value,OL.length=len * esz∧(∀k,k<len * esz→OL[k]?=C[k]?)∧∀w':World,w'.heap=w.heap→(Builtin.firstCells esz len S).run P w'=.ok OL.toArray w':=by
         refine⟨C.toList.take (len * esz),by simp;omega,fun k hk'=>by rw[List.getElem?_take_of_lt hk'];simp,fun w' hw=>?_⟩
         have hh':w'.heap[b]?=some (.cells C e' fr):=by rw[hw];exact hheap
         have hL:(C.toList.take (len * esz)).length=len * esz:=by simp;omega
         have:=run_loadCells_list (P:=P) w' ⟨b,0,none⟩ (C.toList.take (len * esz)) fun j u hj=>by
          rw[addr_add,cell_at hh',Nat.zero_add]
          have hj':j<len * esz:=by
           rcases Nat.lt_or_ge j (len * esz) with h3 |h3
           ·exact h3
           ·rw[List.getElem?_eq_none (by omega)]at hj;cases hj
          rw[List.getElem?_take_of_lt hj']at hj
          simpa using hj
         rw[hL]at this
         rw[eS]
         simpa[Builtin.firstCells]using this
        obtain⟨OL,hOLl,hOLk,hfo⟩:=hOL
        have hrun:=run_append_out (P:=P) (w:=w) t u ty e' inf Z du hu huu hni hi hZ S (some ⟨b,0,none⟩) len (σ.cap i) m eS X OL NL (hlenOf w) (by rw[hsz];exact hfo w.drew rfl) (by rw[hsz];exact hfirst w.drew rfl) (by omega) (hsmall _ hlm') (by omega)
        rw[List.append_toArray OL NL]at hrun
        have hge:=grownCap_le w (len+m) (σ.cap i) e'
        generalize grownCap w (len+m) (σ.cap i) e'=cap at hrun hge
        have hp1:=Post.erase hk i
        have hp2:=Post.drawn hp1.ok (w.drawn+1)
        have hle:σ.Le (σ.add nx w.heap.size cap):=Sg.add_le (hk.fresh nx (Nat.le_refl _))
        have hp3:=Post.alloc hp2.ok cap (.cells e' ((len+m) * esz) (putN news cs (len * esz)) true esz) (.cells ((OL++NL).toArray++Builtin.zeroCells Z.cells (cap-(len+m))) e') (by
         simp only[RelB]
         refine⟨_,_,rfl,fun k hk'=>?_,fun k _=>by omega,?_⟩
         ·rw[Nat.add_mul]at hk'
          rw[get_putN,hnlen,Array.getElem?_append_left (by simp[hOLl,hNlen];omega)]
          by_cases hin:len * esz≤k∧k<len * esz+m * esz
          ·rw[if_pos hin]
           obtain⟨v,hv⟩:∃v,news[k-len * esz]?=some v:=⟨news[k-len * esz]'(by omega),by simp[show k-len * esz<news.length by omega]⟩
           obtain⟨V,h1,h2⟩:=hnl.get hv
           refine⟨v,V,hv,?_,h2.mono hle⟩
           rw[List.getElem?_toArray,List.getElem?_append_right (by omega),hOLl]
           exact h1
          ·rw[if_neg hin]
           have hlt:k<len * esz:=by omega
           obtain⟨v,V,h1,h2,h3⟩:=hcell k (by omega)
           refine⟨v,V,h1,?_,h3.mono hle⟩
           rw[List.getElem?_toArray,List.getElem?_append_left (by omega),hOLk k hlt]
           exact h2
         ·simp only[if_true,Array.size_append,List.size_toArray,List.length_append,hOLl,hNlen,size_zeroCells,hzs]
          have hc:(σ.add nx w.heap.size cap).cap nx=cap:=by simp[Sg.add]
          refine⟨by rw[Nat.add_mul];omega,?_⟩
          show _=(σ.add nx w.heap.size cap).cap nx * esz
          rw[hc,← Nat.add_mul,← Nat.add_mul]
          congr 1
          omega)
        refine⟨_,_,_,hrun,?_,(hp1.trans hp2).trans hp3⟩
        simp only[Rel,if_true,Nat.sub_zero]
        exact⟨w.heap.size,by simp[Sg.add],by simp[Sg.add],by simp[Sg.add];exact hge⟩
   ·trivial
 ·trivial
end Go.Ev
namespace Go.Ev
variable {P : Program} {G : Gl} {σ τ υ : Sg} {h g f : Tr ABlk} {nx ny nz : Nat} {w x y : World}
theorem RelE.get {σ:Sg}:∀{l:List (AV×AV×Nat)}{E:List MapEntry}{k:Nat}{a b:AV}{n:Nat},RelE σ l E→l[k]?=some (a,b,n)→∃A B,E[k]?=some ⟨A,B,n⟩∧Rel σ a A∧Rel σ b B
 |[],E,k,a,b,n,_,h=>by simp at h
 |(a0,b0,n0)::l,E,k,a,b,n,h,hk=>by
  simp only[RelE]at h
  obtain⟨A,B,E',e,h1,h2,h3⟩:=h
  subst e
  cases k with
  |zero=>simp at hk;obtain⟨e1,e2,e3⟩:=hk;subst e1;subst e2;subst e3;exact⟨A,B,rfl,h1,h2⟩
  |succ k=>simpa using h3.get (by simpa using hk)
theorem RelE.of_get {σ:Sg}:∀{l:List (AV×AV×Nat)}{E:List MapEntry},E.length=l.length→(∀(k:Nat) a b n,l[k]?=some (a,b,n)→∃A B,E[k]?=some ⟨A,B,n⟩∧Rel σ a A∧Rel σ b B)→RelE σ l E
 |[],E,e,_=>by simp only[RelE];exact List.eq_nil_of_length_eq_zero (by simpa using e)
 |(a0,b0,n0)::l,E,e,h=>by
  cases E with
  |nil=>simp at e
  |cons V E'=>
   obtain⟨A,B,h1,h2,h3⟩:=h 0 a0 b0 n0 rfl
   simp at h1
   subst h1
   simp only[RelE]
   exact⟨A,B,E',rfl,h2,h3,RelE.of_get (by simpa using e) fun k a b n hk=>by simpa using h (k+1) a b n (by simpa using hk)⟩
noncomputable section
def snocK {α β:Type}(l:List α)(x:α):(List α→β)→β:=List.rec (motive:=fun _=>(List α→β)→β) (fun k=>k [x]) (fun e _ ih k=>ih fun l'=>k (e::l')) l
theorem snocK_eq {α:Type}:∀(l:List α)(x:α)(β:Type)(k:List α→β),snocK l x k=k (l++[x])
 |[],x,β,k=>rfl
 |e::l,x,β,k=>by
  show snocK l x (fun l'=>k (e::l'))=_
  rw[snocK_eq]
  rfl
def setK {α β:Type}(l:List α)(g:α→α):Nat→(List α→β)→β:=List.rec (motive:=fun _=>Nat→(List α→β)→β) (fun _ k=>k [])
 (fun e l ih i k=>match i with |0=>k (g e::l) |Nat.succ i=>ih i fun l'=>k (e::l')) l
theorem setK_eq {α:Type}(g:α→α):∀(l:List α) (i:Nat)(β:Type)(k:List α→β),setK l g i k=k (l.modify i g)
 |[],i,β,k=>by cases i <;> rfl
 |e::l,0,β,k=>by show k (g e::l)=_;rfl
 |e::l,i+1,β,k=>by
  show setK l g i (fun l'=>k (e::l'))=_
  rw[setK_eq]
  rfl
def evMapSet (ti:TI)(tk:Option TI)(kt:TypeId)(m k v:AV)(h:Tr ABlk) (nx:Nat):R:=
 match ti,tk with
 |.mk (.map kt' _) _ _ _ _,some (.mk dk _ _ _ _)=>match Nat.beq kt kt' && scal dk with
  |false=>.fail
  |true=>match m with
   |.map i=>match h.get i with
    |some (.map es cl)=>match findA dk k es 0 with
     |some (some (j,_))=>setK es (fun e=>match e with |(_,_,n)=>(k,v,n)) j fun es'=>h.putK (some (.map es' cl)) i fun h'=>.unit h' nx
     |some none=>snocK es (k,v,cl) fun es'=>fN (Nat.succ cl) fun cl'=>h.putK (some (.map es' cl')) i fun h'=>.unit h' nx
     |none=>.fail
    |_=>.fail
   |_=>.fail
 |_,_=>.fail
theorem sameBits_of {d:TypeDesc}{k k':AV}{K K':Value}(hk:Rel σ k K)(hk':Rel σ k' K')(he:scalEq d k k'=some true) (n:Nat):Instr.sameBits n K' K=true:=by
 unfold scalEq at he
 cases d <;> try (cases he;done)
 ·cases k <;> cases k' <;> try (cases he;done)
  rename_i a c
  simp only[Rel]at hk hk'
  subst hk
  subst hk'
  cases a <;> cases c <;> first |(cases he;done) |(cases n <;> rfl)
 ·cases k <;> cases k' <;> try (cases he;done)
  rename_i j a j' c
  simp only at he
  cases hj:ikeq j j' with
  |false=>rw[hj]at he;cases he
  |true=>
   rw[hj]at he
   have:=ikeq_spec hj
   subst this
   have hac:ieq a c=true:=by simpa using he
   rw[ieq_eq]at hac
   have:=eq_of_beq hac
   subst this
   simp only[Rel]at hk hk'
   subst hk
   subst hk'
   cases n <;> simp[Instr.sameBits]
 ·cases k <;> cases k' <;> try (cases he;done)
  case bs.bs a c=>
   simp only[Rel]at hk hk'
   subst hk
   subst hk'
   have hac:a=c:=by simpa using he
   subst hac
   have:(a == a)=true:=by rw[beqB];simp
   cases n <;> simp[Instr.sameBits,this]
  rename_i l1 n1 l2 n2
  simp only[Rel]at hk hk'
  obtain⟨h1,e1⟩:=hk
  obtain⟨h2,e2⟩:=hk'
  subst e1
  subst e2
  have hs:strEq l1 n1 l2 n2=true:=by simpa using he
  rw[← strB_beq h1 h2]at hs
  have hs2:(strB l2 n2 == strB l1 n1)=true:=by
   have hd:((strB l1 n1).data == (strB l2 n2).data)=true:=hs
   have:=eq_of_beq hd
   show ((strB l2 n2).data == (strB l1 n1).data)=true
   rw[this]
   exact beq_self_eq_true _
  cases n <;> simp[Instr.sameBits,hs2]
theorem evMapSet_ok (hk:Ok G σ h nx w)(t:TypeId){ti:TI}(ht:TIok P t ti){tk:Option TI}{kt:TypeId}(htk:∀ti,tk=some ti→TIok P kt ti){m k v:AV}{M K V:Value}(hm:Rel σ m M)(hkk:Rel σ k K)(hv:Rel σ v V):
  RU P G σ h nx w (Instr.mapUpdate t M K V) (evMapSet ti tk kt m k v h nx):=by
 unfold evMapSet
 split
 ·rename_i kt' et' q1 q2 q3 q4 dk q5 q6 q7 q8
  obtain⟨hu,_⟩:=ht
  obtain⟨huk,_⟩:=htk _ rfl
  cases hall:(Nat.beq kt kt' && scal dk) with
  |false=>trivial
  |true=>
   rw[Bool.and_eq_true]at hall
   have:=Nat.eq_of_beq_eq_true hall.1
   subst this
   cases m <;> try trivial
   rename_i i
   simp only[Rel]at hm
   obtain⟨b,hb,e⟩:=hm
   subst e
   simp only
   cases hg:h.get i with
   |none=>trivial
   |some B=>
    cases B with
    |cells _ _ _ _ _=>trivial
    |loop _ _ _ _ _ _ _ _ _=>trivial
    |dfr=>trivial
    |miter _ _ _ _=>trivial
    |siter _ _=>trivial
    |map es cl=>
     simp only
     obtain⟨b',E,hb',hheap,hE⟩:=hk.map hg
     rw[hb]at hb'
     cases hb'
     cases hf:findA dk k es 0 with
     |none=>trivial
     |some r=>
      obtain⟨R,a1,a2,a3⟩:=findA_ok hkk hE hf
      have hck:=run_checkKey (P:=P) huk hall.2 false 9999 K w
      have hfk:(Instr.findKey kt K E).run P w=.ok R w:=by simp[Instr.findKey,run_underlying huk,a1]
      have hgo:(getObj b).run P w=.ok (.map (List.toArray E) cl) w:=by simp[getObj,Sem.run,hheap]
      have hso:∀o:Obj,(setObj b o).run P w=.ok () (wset w b o):=fun o=>by simp[setObj,Sem.run,hheap,wset]
      cases r with
      |none=>
       simp only[RelF]at a2
       subst a2
       simp only[snocK_eq,fN_eq,Tr.putK_eq]
       refine⟨σ,_,?_,Post.set hk hg hb (.map (es++[(k,v,cl)]) (cl+1)) (.map (List.toArray (E++[⟨K,V,cl⟩])) (cl+1)) ?_⟩
       ·unfold Instr.mapUpdate
        simp only[Sem.run_bind,run_underlying hu,Result.andThen,hgo,hck,hfk]
        rw[hso]
        simp[wset]
       ·simp only[RelB]
        refine⟨_,rfl,RelE.of_get (by simp[hE.length]) fun k0 a b n e=>?_⟩
        by_cases h1:k0<es.length
        ·rw[List.getElem?_append_left h1]at e
         obtain⟨A,B,e1,e2,e3⟩:=hE.get e
         exact⟨A,B,by rw[List.getElem?_append_left (by rw[hE.length];exact h1)];exact e1,e2,e3⟩
        ·rw[List.getElem?_append_right (by omega)]at e
         cases h2:k0-es.length with
         |succ q=>rw[h2]at e;simp at e
         |zero=>
          rw[h2]at e
          simp at e
          obtain⟨e1,e2,e3⟩:=e
          subst e1
          subst e2
          subst e3
          refine⟨K,V,?_,hkk,hv⟩
          rw[List.getElem?_append_right (by rw[hE.length];omega),hE.length,h2]
          rfl
      |some p=>
       obtain⟨j,v0⟩:=p
       simp only[RelF]at a2
       obtain⟨V0,e,_⟩:=a2
       subst e
       obtain⟨_,hj,k',hk',hse⟩:=a3 j v0 rfl
       simp only[Nat.sub_zero]at hk'
       obtain⟨⟨ka,va,na⟩,hej⟩:∃p,es[j]?=some p:=⟨es[j]'(by omega),by simp[show j<es.length by omega]⟩
       rw[hej]at hk'
       simp at hk'
       subst hk'
       obtain⟨KA,VA,e1,e2,e3⟩:=hE.get hej
       simp only[setK_eq,Tr.putK_eq]
       have hks:(Instr.keyThatStays KA K).run P w=.ok K w:=by simp[Instr.keyThatStays,sameBits_of hkk e2 hse]
       refine⟨σ,_,?_,Post.set hk hg hb (.map (es.modify j (fun e=>match e with |(_,_,n)=>(k,v,n))) cl) (.map (List.toArray (E.modify j fun e=>{ e with key:=K,val:=V })) cl) ?_⟩
       ·unfold Instr.mapUpdate
        have hkey:(((List.toArray E)[j]?).map (·.key)).getD K=KA:=by simp[e1]
        simp only[Sem.run_bind,run_underlying hu,Result.andThen,hgo,hck,hfk,hkey,hks]
        rw[hso]
        simp[wset]
       ·simp only[RelB]
        refine⟨_,rfl,RelE.of_get (by simp[hE.length]) fun k0 a b n e=>?_⟩
        rw[List.getElem?_modify]at e ⊢
        by_cases h1:j=k0
        ·subst h1
         rw[hej]at e
         simp at e
         obtain⟨q1,q2,q3⟩:=e
         subst q1
         subst q2
         subst q3
         exact⟨K,V,by rw[e1];simp,hkk,hv⟩
        ·simp only[h1,if_false]at e ⊢
         simp at e
         obtain⟨A,B,c1,c2,c3⟩:=hE.get e
         exact⟨A,B,by simpa using c1,c2,c3⟩
 ·trivial
def evMM (mx:Bool)(l:List AV)(h:Tr ABlk) (nx:Nat):R:=
 match l with
 |[.int k a,.int k' b]=>match mx with
  |true=>match ilt a b with
   |true=>.val (.int k b) h nx
   |false=>.val (.int k a) h nx
  |false=>match ilt b a with
   |true=>.val (.int k b) h nx
   |false=>.val (.int k a) h nx
 |_=>.fail
end
end Go.Ev
