/- Texts KY W2 W3. -/
import Derived.Maps.RangeRun
import Derived.Test.YtkdnmldmffkkoaaGreatDoorP06
set_option linter.unusedSimpArgs false
set_option linter.unusedVariables false
set_option maxRecDepth 100000
namespace Go.Ev
noncomputable section
variable {P : Program} {c : Cx} {G : Gl} {σ τ υ : Sg} {h g f : Tr ABlk} {nx ny nz : Nat} {w x y : World}
def zDy:TypeDesc→Bool
 |.array _ _=>true
 |_=>false
def zht (c:Cx)(t:TypeId):Bool:=match c.tt.get t with
 |some (.mk (.map kt _) _ _ _ _)=>match c.tt.get kt with
  |some (.mk d _ _ _ _)=>zDy d
  |none=>false
 |_=>false
def zfg:AV→AV→Option Bool
 |.agg [.int .i64 a,.int .i64 b],.agg [.int .i64 a',.int .i64 b']=>some (decide (a=a'∧b=b'))
 |_,_=>none
def zg6 (k:AV):List (AV×AV×Nat)→Nat→Option (Option (Nat×AV))
 |[],_=>some none
 |(k',v,_)::es,i=>match zfg k k' with
  |some true=>some (some (i,v))
  |some false=>zg6 k es (i+1)
  |none=>none
structure KeyOk (P:Program)(kt el:TypeId):Prop where
 un:P.underlying kt=some (.array 2 el)
 ue:∃k,P.underlying el=some (.int k)
 sz:∃i,P.info? el=some i∧i.size=1
theorem zSl {k k':AV}{b:Bool}(h:zfg k k'=some b):∃a d a' d',k=.agg [.int .i64 a,.int .i64 d]∧k'=.agg [.int .i64 a',.int .i64 d']∧b=decide (a=a'∧d=d'):=by
 unfold zfg at h
 split at h
 ·cases h
  exact⟨_,_,_,_,rfl,rfl,rfl⟩
 ·cases h
theorem zxd {a d:Int}{K:Value}(h:Rel σ (.agg [.int .i64 a,.int .i64 d]) K):K=.agg #[.int .i64 a,.int .i64 d]:=by
 simp only[Rel,za1]at h
 obtain⟨L,e,v,t,e1,h1,v2,t2,e2,h2,e3⟩:=h
 subst e3;subst h2;subst e2;subst h1;subst e1
 exact e
theorem KeyOk.part {kt el:TypeId}(hk:KeyOk P kt el) (a d:Int)(w:World):(Go.part el #[.int .i64 a,.int .i64 d] 0).run P w=.ok (.int .i64 a) w∧(Go.part el #[.int .i64 a,.int .i64 d] 1).run P w=.ok (.int .i64 d) w:=by
 obtain⟨k,hu⟩:=hk.ue
 constructor <;> simp[Go.part,zmn hu,isA]
theorem KeyOk.check {kt el:TypeId}(hk:KeyOk P kt el)(e:Bool) (a d:Int)(w:World):(Instr.checkKey e 10000 kt (.agg #[.int .i64 a,.int .i64 d])).run P w=.ok () w:=by
 obtain⟨k,hu⟩:=hk.ue
 obtain⟨i,hi,hs⟩:=hk.sz
 obtain⟨p0,p1⟩:=hk.part a d w
 have hc:∀v:Value,(Instr.checkKey e 9999 el v).run P w=.ok () w:=fun v=>zwi hu rfl e 9998 v w
 rw[show (10000:Nat)=9999+1 from rfl,Instr.checkKey]
 simp only[Sem.run_bind,run_underlying hk.un,Result.andThen]
 simp[Std.Legacy.Range.forIn_eq_forIn_range',Std.Legacy.Range.size,List.range',zem hi,hs,p0,p1,hc]
theorem KeyOk.equal {kt el:TypeId}(hk:KeyOk P kt el) (a d a' d':Int)(w:World):(Op.equal kt (.agg #[.int .i64 a,.int .i64 d]) (.agg #[.int .i64 a',.int .i64 d'])).run P w=.ok (decide (a=a'∧d=d')) w:=by
 obtain⟨k,hu⟩:=hk.ue
 obtain⟨i,hi,hs⟩:=hk.sz
 obtain⟨p0,p1⟩:=hk.part a d w
 obtain⟨q0,q1⟩:=hk.part a' d' w
 have he:∀p q:Int,(Op.equalIn 9999 el (.int .i64 p) (.int .i64 q)).run P w=.ok (p == q) w:=fun p q=>by
  rw[show (9999:Nat)=9998+1 from rfl,Op.equalIn]
  simp[run_underlying hu]
 unfold Op.equal
 rw[show Op.maxDepth=9999+1 from rfl,Op.equalIn]
 simp only[Sem.run_bind,run_underlying hk.un,Result.andThen]
 simp[Std.Legacy.Range.forIn_eq_forIn_range',Std.Legacy.Range.size,List.range',zem hi,hs,p0,p1,q0,q1,he]
 by_cases e1:a=a' <;> by_cases e2:d=d' <;> simp[e1,e2]
theorem zof {kt el:TypeId}(hk:KeyOk P kt el){k k':AV}{b:Bool}(he:zfg k k'=some b){K K':Value}(h1:Rel σ k K)(h2:Rel σ k' K'):(∀w,(Op.equal kt K K').run P w=.ok b w)∧(∀n m,Instr.sameNow (.array n m) K K'=none)∧(∀e w,(Instr.checkKey e 10000 kt K).run P w=.ok () w)∧(b=true→Instr.sameBits 10000 K' K=true):=by
 obtain⟨a,d,a',d',rfl,rfl,rfl⟩:=zSl he
 have:=zxd h1
 subst this
 have:=zxd h2
 subst this
 refine⟨fun w=>hk.equal a d a' d' w,fun n m=>rfl,fun e w=>hk.check e a d w,fun hb=>?_⟩
 have:a=a'∧d=d':=by simpa using hb
 obtain⟨rfl,rfl⟩:=this
 rw[show (10000:Nat)=9999+1 from rfl,Instr.sameBits]
 simp[Instr.sameBits]
theorem zAd {kt el:TypeId}(hkk:KeyOk P kt el){k:AV}{K:Value}(hk:Rel σ k K):∀{es:List (AV×AV×Nat)}{E:List MapEntry}{i:Nat}{r:Option (Nat×AV)},zb4 σ es E→zg6 k es i=some r→
  ∃R,(∀w,(Instr.findAsking kt K E i).run P w=.ok R w)∧zfw σ r R∧∀j v,r=some (j,v)→i≤j∧j<i+es.length∧∃k',(es[j-i]?).map (·.1)=some k'∧zfg k k'=some true
 |[],E,i,r,he,hf=>by
  cases hf
  simp only[zb4]at he
  subst he
  exact⟨none,fun w=>rfl,rfl,fun j v e=>by cases e⟩
 |(k',v,n)::es,E,i,r,he,hf=>by
  simp only[zb4]at he
  obtain⟨K',V,E',e,h1,h2,h3⟩:=he
  subst e
  rw[zg6]at hf
  cases hs:zfg k k' with
  |none=>rw[hs]at hf;cases hf
  |some b=>
   have hsn:=(zof hkk hs hk h1).1
   rw[hs]at hf
   cases b with
   |true=>
    cases hf
    refine⟨some (i,V),fun w=>?_,⟨V,rfl,h2⟩,fun j v' e=>?_⟩
    ·simp[Instr.findAsking,hsn]
    ·cases e
     exact⟨Nat.le_refl _,by simp,k',by simp,hs⟩
   |false=>
    simp only at hf
    obtain⟨R,a1,a2,a3⟩:=zAd hkk hk h3 hf
    refine⟨R,fun w=>?_,a2,fun j v' e=>?_⟩
    ·simp[Instr.findAsking,hsn,a1]
    ·obtain⟨b1,b2,k2,b3,b4⟩:=a3 j v' e
     refine⟨by omega,by simp at b2 ⊢;omega,k2,?_,b4⟩
     rw[show j-i=(j-(i+1))+1 by omega]
     simpa using b3
theorem zx8 {kt el:TypeId}(hkk:KeyOk P kt el){k:AV}{K:Value}(hk:Rel σ k K){es:List (AV×AV×Nat)}{E:List MapEntry}{r:Option (Nat×AV)}(hE:zb4 σ es E)(hf:zg6 k es 0=some r):
  ∃R,(∀w,(Instr.findKey kt K E).run P w=.ok R w)∧zfw σ r R∧∀j v,r=some (j,v)→j<es.length∧∃k',(es[j]?).map (·.1)=some k'∧zfg k k'=some true:=by
 obtain⟨R,a1,a2,a3⟩:=zAd hkk hk hE hf
 refine⟨R,fun w=>?_,a2,fun j v e=>?_⟩
 ·have hnow:Instr.findNow (.array 2 el) K E 0=none∨(Instr.findNow (.array 2 el) K E 0=some none∧R=none):=by
   cases es with
   |nil=>
    simp only[zb4]at hE
    subst hE
    right
    refine⟨rfl,?_⟩
    have:=a1 default
    simp[Instr.findAsking]at this
    exact this.symm
   |cons p es=>
    obtain⟨k',v,n⟩:=p
    simp only[zb4]at hE
    obtain⟨K',V,E',e,h1,h2,h3⟩:=hE
    subst e
    left
    rw[zg6]at hf
    cases hs:zfg k k' with
    |none=>rw[hs]at hf;cases hf
    |some b=>
     have:=(zof hkk hs hk h1).2.1 2 el
     simp[Instr.findNow,this]
  unfold Instr.findKey
  simp only[Sem.run_bind,run_underlying hkk.un,Result.andThen]
  rcases hnow with q |⟨q,q2⟩
  ·rw[q];exact a1 w
  ·rw[q,q2];rfl
 ·obtain⟨_,b2,k2,b3,b4⟩:=a3 j v e
  exact⟨by omega,k2,by simpa using b3,b4⟩
def zon (c:Cx)(t:TypeId):Option (TypeId×AV):=match c.tt.get t with
 |some (.mk (.map kt et) _ _ _ _)=>match c.tt.get kt with
  |some (.mk (.array n el) _ _ _ _)=>match c.tt.get el,c.tt.get et with
   |some (.mk (.int _) sz _ _ _),some (.mk _ _ _ (some z) _)=>match Nat.beq n 2 && Nat.beq sz 1 with
    |true=>some (kt,z)
    |false=>none
   |_,_=>none
  |_=>none
 |_=>none
theorem zC1 (hc:CxOk P c){t kt:TypeId}{z:AV}(hi:zon c t=some (kt,z)):∃el et,P.underlying t=some (.map kt et)∧KeyOk P kt el∧∃Z,(∀w,(zeroValue et).run P w=.ok Z w)∧∀σ,Rel σ z Z:=by
 unfold zon at hi
 split at hi
 ·rename_i kt' et q1 q2 q3 q4 h1
  split at hi
  ·rename_i n el q5 q6 q7 q8 h2
   split at hi
   ·rename_i ki sz q9 q10 q11 d q12 q13 z' q14 h3 h4
    cases hb:(Nat.beq n 2 && Nat.beq sz 1) with
    |false=>rw[hb]at hi;cases hi
    |true=>
     rw[hb]at hi
     cases hi
     rw[Bool.and_eq_true]at hb
     have e1:=Nat.eq_of_beq_eq_true hb.1
     have e2:=Nat.eq_of_beq_eq_true hb.2
     subst e1
     subst e2
     obtain⟨u1,_⟩:=hc.tt _ _ h1
     obtain⟨u2,_⟩:=hc.tt _ _ h2
     obtain⟨u3,i3,hi3,hs3,_⟩:=hc.tt _ _ h3
     obtain⟨u4,i4,hi4,hs4,hb4,hz4,_⟩:=hc.tt _ _ h4
     obtain⟨Z,hZ,hzr,_⟩:=hz4 z rfl
     exact⟨el,et,u1,⟨u2,⟨_,u3⟩,⟨i3,hi3,hs3⟩⟩,Z,fun w=>zk0 hi4 hZ w,hzr⟩
   ·cases hi
  ·cases hi
 ·cases hi
def zm9 (c:Cx)(t:TypeId)(ok:Bool)(m k:Option AV)(h:Tr ABlk) (nx:Nat):R:=
 match zon c t,m,k with
 |some (_,z),some (.map i),some k=>match h.get i,zfg k k with
  |some (.map es _),some _=>match zg6 k es 0 with
   |some r=>zac ok z r h nx
   |none=>.fail
  |_,_=>.fail
 |_,_,_=>.fail
theorem zGe (hc:CxOk P c)(hk:Ok c.G σ h nx w)(t:TypeId)(ok:Bool){m k:Option AV}{M K:Value}(hm:∀v,m=some v→Rel σ v M)(hkk:∀v,k=some v→Rel σ v K):RV P c.G σ h nx w (Instr.lookup t M K ok) (zm9 c t ok m k h nx):=by
 unfold zm9
 split
 ·rename_i kt z i k q1
  obtain⟨el,et,hu,hK,Z,hZ,hzr⟩:=zC1 hc q1
  have hm1:=hm _ rfl
  have hk1:=hkk _ rfl
  simp only[Rel]at hm1
  obtain⟨b,hb,e⟩:=hm1
  subst e
  split
  ·rename_i es cl b0 hg hkq
   obtain⟨b',E,hb',hheap,hE⟩:=hk.map hg
   rw[hb]at hb'
   cases hb'
   cases hf:zg6 k es 0 with
   |none=>trivial
   |some r=>
    obtain⟨R,a1,a2,_⟩:=zx8 hK hk1 hE hf
    have hck:=(zof hK hkq hk1 hk1).2.2.1
    have hgo:(getObj b).run P w=.ok (.map (List.toArray E) cl) w:=by simp[getObj,Sem.run,hheap]
    have a1':=a1 w
    cases r with
    |none=>
     simp only[zfw]at a2
     subst a2
     cases ok with
     |true=>
      refine SV.pure hk (V:=.tuple #[Z,.bool false]) ?_ ?_
      ·unfold Instr.lookup
       simp[Sem.run_bind,run_underlying hu,Result.andThen,Sem.run_pure,hgo,hck,a1',hZ]
      ·simp only[Rel]
       exact⟨[Z,.bool false],rfl,by simp only[za1,Rel];exact⟨_,_,rfl,hzr σ,_,_,rfl,rfl,rfl⟩⟩
     |false=>
      refine SV.pure hk (V:=Z) ?_ (hzr σ)
      unfold Instr.lookup
      simp[Sem.run_bind,run_underlying hu,Result.andThen,Sem.run_pure,hgo,hck,a1',hZ]
    |some p=>
     obtain⟨j,v⟩:=p
     simp only[zfw]at a2
     obtain⟨V,e,hv⟩:=a2
     subst e
     cases ok with
     |true=>
      refine SV.pure hk (V:=.tuple #[V,.bool true]) ?_ ?_
      ·unfold Instr.lookup
       simp[Sem.run_bind,run_underlying hu,Result.andThen,Sem.run_pure,hgo,hck,a1']
      ·simp only[Rel]
       exact⟨[V,.bool true],rfl,by simp only[za1,Rel];exact⟨_,_,rfl,hv,_,_,rfl,rfl,rfl⟩⟩
     |false=>
      refine SV.pure hk (V:=V) ?_ hv
      unfold Instr.lookup
      simp[Sem.run_bind,run_underlying hu,Result.andThen,Sem.run_pure,hgo,hck,a1']
  ·trivial
 ·trivial
def zm4 (c:Cx)(t:TypeId)(m k v:Option AV)(h:Tr ABlk) (nx:Nat):R:=
 match zon c t,m,k,v with
 |some _,some (.map i),some k,some v=>match h.get i,zfg k k with
  |some (.map es cl),some _=>match zg6 k es 0 with
   |some (some (j,_))=>.unit (h.put i (some (.map (es.modify j (fun e=>match e with |(_,_,n)=>(k,v,n))) cl))) nx
   |some none=>.unit (h.put i (some (.map (es++[(k,v,cl)]) (cl+1)))) nx
   |none=>.fail
  |_,_=>.fail
 |_,_,_,_=>.fail
theorem zIu (hc:CxOk P c)(hk:Ok c.G σ h nx w)(t:TypeId){m k v:Option AV}{M K V:Value}(hm:∀x,m=some x→Rel σ x M)(hkk:∀x,k=some x→Rel σ x K)(hv:∀x,v=some x→Rel σ x V):RU P c.G σ h nx w (Instr.mapUpdate t M K V) (zm4 c t m k v h nx):=by
 unfold zm4
 split
 ·rename_i q0 i k v q1
  obtain⟨kt,z⟩:=q0
  obtain⟨el,et,hu,hK,Z,hZ,hzr⟩:=zC1 hc q1
  have hm1:=hm _ rfl
  have hk1:=hkk _ rfl
  have hv1:=hv _ rfl
  simp only[Rel]at hm1
  obtain⟨b,hb,e⟩:=hm1
  subst e
  split
  ·rename_i es cl b0 hg hkq
   obtain⟨b',E,hb',hheap,hE⟩:=hk.map hg
   rw[hb]at hb'
   cases hb'
   cases hf:zg6 k es 0 with
   |none=>trivial
   |some r=>
    obtain⟨R,a1,a2,a3⟩:=zx8 hK hk1 hE hf
    have hck:=(zof hK hkq hk1 hk1).2.2.1
    have hgo:(getObj b).run P w=.ok (.map (List.toArray E) cl) w:=by simp[getObj,Sem.run,hheap]
    have hso:∀o:Obj,(setObj b o).run P w=.ok () (zc7 w b o):=fun o=>by simp[setObj,Sem.run,hheap,zc7]
    have a1':=a1 w
    cases r with
    |none=>
     simp only[zfw]at a2
     subst a2
     refine⟨σ,_,?_,Post.set hk hg hb (.map (es++[(k,v,cl)]) (cl+1)) (.map (List.toArray (E++[⟨K,V,cl⟩])) (cl+1)) ?_⟩
     ·unfold Instr.mapUpdate
      simp only[Sem.run_bind,run_underlying hu,Result.andThen,hgo,hck,a1']
      rw[hso]
      simp[zc7]
     ·simp only[zao]
      refine⟨_,rfl,zb4.of_get (by simp[hE.length]) fun k0 a b n e=>?_⟩
      by_cases h1:k0<es.length
      ·rw[List.getElem?_append_left h1]at e
       obtain⟨A,B,e1,e2,e3⟩:=hE.get e
       exact⟨A,B,by rw[List.getElem?_append_left (by rw[hE.length];exact h1)];exact e1,e2,e3⟩
      ·rw[List.getElem?_append_right (by omega)]at e
       cases h2:k0-es.length with
       |succ q=>rw[h2]at e;simp at e
       |zero=>
        rw[h2]at e
        simp at e
        obtain⟨e1,e2,e3⟩:=e
        subst e1
        subst e2
        subst e3
        refine⟨K,V,?_,hk1,hv1⟩
        rw[List.getElem?_append_right (by rw[hE.length];omega),hE.length,h2]
        rfl
    |some p=>
     obtain⟨j,v0⟩:=p
     simp only[zfw]at a2
     obtain⟨V0,e,_⟩:=a2
     subst e
     obtain⟨hj,k',hk',hse⟩:=a3 j v0 rfl
     obtain⟨⟨ka,va,na⟩,hej⟩:∃p,es[j]?=some p:=⟨es[j]'hj,by simp[hj]⟩
     rw[hej]at hk'
     simp at hk'
     subst hk'
     obtain⟨KA,VA,e1,e2,e3⟩:=hE.get hej
     have hks:(Instr.keyThatStays KA K).run P w=.ok K w:=by simp[Instr.keyThatStays,(zof hK hse hk1 e2).2.2.2 rfl]
     refine⟨σ,_,?_,Post.set hk hg hb (.map (es.modify j (fun e=>match e with |(_,_,n)=>(k,v,n))) cl) (.map (List.toArray (E.modify j fun e=>{ e with key:=K,val:=V })) cl) ?_⟩
     ·unfold Instr.mapUpdate
      have hkey:(((List.toArray E)[j]?).map (·.key)).getD K=KA:=by simp[e1]
      simp only[Sem.run_bind,run_underlying hu,Result.andThen,hgo,hck,a1',hkey,hks]
      rw[hso]
      simp[zc7]
     ·simp only[zao]
      refine⟨_,rfl,zb4.of_get (by simp[hE.length]) fun k0 a b n e=>?_⟩
      rw[List.getElem?_modify]at e ⊢
      by_cases h1:j=k0
      ·subst h1
       rw[hej]at e
       simp at e
       obtain⟨q1,q2,q3⟩:=e
       subst q1
       subst q2
       subst q3
       exact⟨K,V,by rw[e1];simp,hk1,hv1⟩
      ·simp only[h1,if_false]at e ⊢
       simp at e
       obtain⟨A,B,c1,c2,c3⟩:=hE.get e
       exact⟨A,B,by simpa using c1,c2,c3⟩
  ·trivial
 ·trivial
end
end Go.Ev
namespace Go.Ev
noncomputable section
variable {P : Program} {c : Cx} {σ τ υ : Sg} {h g f : Tr ABlk} {nx ny nz sz : Nat} {ds : List DE} {w x y : World} {tm : Tr AV} {a : Act}
def zbz (ops:List Oper)(tm:Tr AV)(o:Oper):Option Bool:=
 match o.guard with
 |none=>some true
 |some (j,want)=>match ops[j]? with
  |none=>some false
  |some oj=>match oj.dst with
   |none=>some false
   |some d=>match tm.get d with
    |some (.bool b)=>some (match b with |true=>want |false=>!want)
    |some (.tup _)=>some false
    |_=>none
theorem Rel.bool {b:Bool}{V:Value}(hr:Rel σ (.bool b) V):V=.bool b:=by simpa only[Rel]using hr
theorem zjp {ops:Array Oper}(ht:zd8 σ tm a){o:Oper}{b:Bool}(hw:zbz ops.toList tm o=some b):Region.wanted o (yielded ops a.tmps)=b:=by
 unfold zbz at hw
 unfold Region.wanted
 cases hg:o.guard with
 |none=>rw[hg]at hw;cases hw;rfl
 |some p=>
  obtain⟨j,want⟩:=p
  rw[hg]at hw
  simp only at hw ⊢
  rw[Array.getElem?_toList]at hw
  unfold yielded
  cases hj:ops[j]? with
  |none=>
   rw[hj]at hw
   cases hw
   simp
  |some oj=>
   rw[hj]at hw
   simp only[Option.bind_some]at hw ⊢
   cases hd:oj.dst with
   |none=>
    rw[hd]at hw
    cases hw
    simp
   |some d=>
    rw[hd]at hw
    simp only[Option.bind_some]at hw ⊢
    cases hv:tm.get d with
    |none=>rw[hv]at hw;cases hw
    |some v=>
     rw[hv]at hw
     have hr:=ht d v hv
     cases v <;> try (cases hw;done)
     ·rename_i q
      cases hw
      have hb:=hr.bool
      have:a.tmps[d]?=some (.bool q):=by
       cases ht':a.tmps[d]? with
       |none=>rw[Array.getD_eq_getD_getElem?,ht']at hb;cases hb
       |some V=>rw[Array.getD_eq_getD_getElem?,ht']at hb;simp at hb;rw[hb]
      rw[this]
      cases q <;> cases want <;> rfl
     ·cases hw
      simp only[Rel]at hr
      obtain⟨L,e,_⟩:=hr
      cases ht':a.tmps[d]? with
      |none=>simp
      |some V=>
       rw[Array.getD_eq_getD_getElem?,ht']at e
       simp at e
       subst e
       simp
def zdo (op:Op):Option (Operand×Array Operand):=
 match op with
 |.call cl=>match cl.callee with
  |.value f=>some (f,cl.args)
  |_=>none
 |_=>none
def zb0 (sz:Nat)(d:Option Tmp)(v:AV)(s:AS)(K:AS→Prop):Prop:=
 match d with
 |none=>K s
 |some d=>d<sz∧K (match s with |.mk tm h nx ds=>.mk (tm.put d (some v)) h nx ds)
theorem zfq {d:Option Tmp}{v:AV}{s:AS}{K:AS→Prop}(hp:zb0 sz d v s K){τ:Sg}(ht:St τ s.tm a sz s.ds){V:Value}(hv:Rel τ v V):∃tm',K (.mk tm' s.h s.nx s.ds)∧St τ tm' (a.put d V) sz s.ds:=by
 cases s with
 |mk tm h nx ds=>
 cases d with
 |none=>exact⟨tm,hp,ht⟩
 |some d=>exact⟨_,hp.2,ht.put hp.1 hv⟩
theorem zhp:Rel σ (.tup []) undef:=by
 simp only[Rel]
 exact⟨[],rfl,by simp only[za1]⟩
def zb7 (sz:Nat)(d:Option Tmp)(tm:Tr AV)(ds:List DE)(K:AS→Prop)(r:R):Prop:=
 match r with
 |.val v h nx=>zb0 sz d v (.mk tm h nx ds) K
 |.unit h nx=>zb0 sz d (.tup []) (.mk tm h nx ds) K
 |.fail=>False
def zgz (P:Program)(c:Cx) (sz:Nat)(d:Option Tmp)(tm:Tr AV)(h:Tr ABlk) (nx:Nat)(ds:List DE)(K:AS→Prop)(f:Option AV)(l:Option (List AV)):Prop:=
 match f with
 |some (.func fid first cap)=>match l with
  |some l=>za7 P c fid (first++(l++cap)) h nx fun v h nx=>zb0 sz d v (.mk tm h nx ds) K
  |none=>False
 |some (.yld i)=>match l with
  |some l=>zgp P c i l h nx fun v h nx=>zb0 sz d v (.mk tm h nx ds) K
  |none=>False
 |_=>False
def zBo (P:Program)(c:Cx) (sz:Nat)(ops:List Oper)(o:Oper)(K:AS→Prop)(s:AS):Prop:=
 match s with
 |.mk tm h nx ds=>match zbz ops tm o with
  |none=>False
  |some false=>zb0 sz o.dst (.tup []) (.mk tm h nx ds) K
  |some true=>match zdo o.op with
   |some (f,args)=>zgz P c sz o.dst tm h nx ds K (evO c.G tm f) (zb2 c.G tm args.toList)
   |none=>zb7 sz o.dst tm ds K (zcp c o.op tm h nx)
theorem zdc {o:Oper}{r:Option Nat}{a:Act}{next:Act→World→Prop}{Q:Exit→Act→World→Prop}(hd:∀cl,o.op≠.defer cl)
  (hu:o.uponIn (zbb r) 0 P a next Q ((execOp a.eval o).run P w)):o.wpIn (zbb r) 0 P a w next Q:=
 ⟨fun _ _=>trivial,by rw[Oper.semAt_eq _ _ _ hd];exact hu⟩
def zfm:Op→Bool
 |.defer _=>true
 |_=>false
theorem zsa (hc:CxOk P c){ops:Array Oper}{o:Oper}{K:AS→Prop}{s:AS}(hs:zBo P c sz ops.toList o K s){r:Option Nat}(hk:Ok c.G σ s.h s.nx w)(ht:St σ s.tm a sz s.ds)(Q:Exit→Act→World→Prop)(L:Act→World→Prop)
  (hK:∀τ tm1 V w1 h1 nx1,K (.mk tm1 h1 nx1 s.ds)→Post c.G σ s.h s.nx w τ h1 nx1 w1→St τ tm1 (a.put o.dst V) sz s.ds→L (a.put o.dst V) w1):
  if Region.wanted o (yielded ops a.tmps) then o.wpIn (zbb r) 0 P a w L Q else (∀f,o.about P w a.eval=some f→(zbb r).fn f)∧L (a.put o.dst undef) w:=by
 cases s with
 |mk tm h nx ds=>
 simp only[AS.h,AS.nx,AS.tm,AS.ds]at hk ht hK
 unfold zBo at hs
 simp only at hs
 cases hw:zbz ops.toList tm o with
 |none=>rw[hw]at hs;exact hs.elim
 |some b=>
  rw[zjp ht.tm hw]
  rw[hw]at hs
  cases b with
  |false=>
   simp only[Bool.false_eq_true,if_false]
   obtain⟨tm',e1,e2⟩:=zfq (a:=a) (s:=.mk tm h nx ds) hs ht zhp
   exact⟨fun _ _=>trivial,hK σ tm' _ w h nx e1 (.refl hk) e2⟩
  |true=>
   simp only[if_true]
   simp only at hs
   have plain:zfm o.op=false→zb7 sz o.dst tm ds K (zcp c o.op tm h nx)→o.wpIn (zbb r) 0 P a w L Q:=by
    intro hd0 he
    have hd:∀cl,o.op≠.defer cl:=fun cl e=>by rw[e]at hd0;cases hd0
    have hp:=ztn hc hk ht.tm o
    cases hv:zcp c o.op tm h nx with
    |fail=>rw[hv]at he;exact he.elim
    |val v g ny=>
     rw[hv]at he hp
     obtain⟨V,τ,x,h1,h2,h3⟩:=hp
     obtain⟨tm',e1,e2⟩:=zfq (a:=a) (s:=.mk tm g ny ds) he (ht.mono h3.le) h2
     refine zdc hd ?_
     rw[h1]
     exact hK τ tm' _ x g ny e1 h3 e2
    |unit g ny=>
     rw[hv]at he hp
     obtain⟨τ,x,h1,h3⟩:=hp
     obtain⟨tm',e1,e2⟩:=zfq (a:=a) (s:=.mk tm g ny ds) he (ht.mono h3.le) zhp
     refine zdc hd ?_
     rw[h1]
     exact hK τ tm' _ x g ny e1 h3 e2
   obtain⟨dst,op,type,pos,after,guard⟩:=o
   cases op <;> try exact plain rfl hs
   case defer cl=>exact(show False from hs).elim
   rename_i cl
   obtain⟨callee,args,argTypes⟩:=cl
   cases callee <;> try exact plain rfl hs
   rename_i fo
   clear plain
   replace hs:zgz P c sz dst tm h nx ds K (evO c.G tm fo) (zb2 c.G tm args.toList):=hs
   unfold zgz at hs
   cases hf:evO c.G tm fo with
   |none=>rw[hf]at hs;exact hs.elim
   |some fv=>
    rw[hf]at hs
    have hfv:=zde hk ht.tm hf
    cases fv <;> try exact hs.elim
    case yld i=>
     cases hl:zb2 c.G tm args.toList with
     |none=>rw[hl]at hs;exact hs.elim
     |some l=>
      rw[hl]at hs
      simp only at hs
      have hlr:=zh1 hk ht.tm hl
      simp only[Rel]at hfv
      obtain⟨lb,hlb,e1⟩:=hfv
      obtain⟨fn,tmps,assign,body,hy1,hy2⟩:=hs σ w (args.toList.map a.eval) lb hk hlr hlb
      have hex:(execOp a.eval ⟨dst,.call ⟨.value fo,args,argTypes⟩,type,pos,after,guard⟩).run P w=(Instr.yield lb (args.toList.map a.eval).toArray).run P w:=by
       have e2:execOp a.eval ⟨dst,.call ⟨.value fo,args,argTypes⟩,type,pos,after,guard⟩=(do let d ← Deferred.ofValue (a.eval fo) (args.map a.eval);invoke d.target d.args):=rfl
       rw[e2,e1]
       show (Instr.yield lb (#[]++args.map a.eval)).run P w=_
       congr 2
       apply Array.ext'
       simp
      refine zdc (fun _ e=>by cases e) ?_
      rw[hex,hy1]
      refine⟨fun hh=>by simp[zbb,Fence.wide]at hh,zuu (hy2.mono fun e x q=>?_)⟩
      cases e with
      |returned V=>
       obtain⟨τ,v,g,ny,q1,q2,q3⟩:=q
       obtain⟨tm',k1,k2⟩:=zfq (a:=a) (s:=.mk tm g ny ds) q3 (ht.mono q2.le) q1
       exact hK τ tm' _ x g ny k1 q2 k2
      |panicked ch=>exact q.elim
      |outgrown=>exact q.elim
    rename_i fid first cap
    cases hl:zb2 c.G tm args.toList with
    |none=>rw[hl]at hs;exact hs.elim
    |some l=>
     rw[hl]at hs
     simp only at hs
     have hlr:=zh1 hk ht.tm hl
     simp only[Rel]at hfv
     obtain⟨F,C,e1,r1,r2⟩:=hfv
     have hcr:=hs σ w (F++(args.toList.map a.eval++C)) hk (r1.append (hlr.append r2))
     have hex:(execOp a.eval ⟨dst,.call ⟨.value fo,args,argTypes⟩,type,pos,after,guard⟩).run P w=(callFunc fid (F++(args.toList.map a.eval++C)).toArray).run P w:=by
      have e2:execOp a.eval ⟨dst,.call ⟨.value fo,args,argTypes⟩,type,pos,after,guard⟩=(do let d ← Deferred.ofValue (a.eval fo) (args.map a.eval);invoke d.target d.args):=rfl
      rw[e2,e1]
      show (callFunc fid (F.toArray++args.map a.eval++C.toArray)).run P w=_
      congr 2
      apply Array.ext'
      simp
     refine zdc (fun _ e=>by cases e) ?_
     rw[hex]
     unfold CR at hcr
     cases hrun:(callFunc fid (F++(args.toList.map a.eval++C)).toArray).run P w with
     |halt hh w'=>rw[hrun]at hcr;exact hcr.elim
     |ok nxt w'=>
      rw[hrun]at hcr
      cases nxt <;> try exact hcr.elim
      ·rename_i V
       obtain⟨τ,v,g,ny,q1,q2,q3⟩:=hcr
       obtain⟨tm',k1,k2⟩:=zfq (a:=a) (s:=.mk tm g ny ds) q3 (ht.mono q2.le) q1
       exact hK τ tm' _ _ g ny k1 q2 k2
      ·rename_i f' A'
       refine⟨fun hh=>by simp[zbb,Fence.wide]at hh,znv (Calls.mono hcr fun e x q=>?_)⟩
       cases e with
       |returned V=>
        obtain⟨τ,v,g,ny,q1,q2,q3⟩:=q
        obtain⟨tm',k1,k2⟩:=zfq (a:=a) (s:=.mk tm g ny ds) q3 (ht.mono q2.le) q1
        exact hK τ tm' _ x g ny k1 q2 k2
       |panicked ch=>exact q.elim
       |outgrown=>exact q.elim
def zD4 (c:Cx) (sz:Nat)(dst:Option Tmp)(t:TypeId)(x:Operand)(tm:Tr AV)(h:Tr ABlk) (nx:Nat)(ds:List DE)(K:AS→Prop):Prop:=
 ∃m es cl k e q1 q2 q3 q4,evO c.G tm x=some (.map m)∧h.get m=some (.map es cl)∧c.tt.get t=some (.mk (.map k e) q1 q2 q3 q4)∧zb0 sz dst (.ptr nx 0) (.mk tm (h.put nx (some (.miter m cl [] cl))) (nx+1) ds) K
def zAg (c:Cx) (sz:Nat)(dst:Option Tmp)(x:Operand)(tm:Tr AV)(h:Tr ABlk) (nx:Nat)(ds:List DE)(K:AS→Prop):Prop:=
 ∃it m since seen st es cl,evO c.G tm x=some (.ptr it 0)∧h.get it=some (.miter m since seen st)∧h.get m=some (.map es cl)∧(∀e∈es,e.2.2<since)∧since≤st∧
  ((∀e∈es,e.2.2∈seen)→zb0 sz dst (.tup [.bool false]) (.mk tm h nx ds) K)∧
  (∀e∈es,¬e.2.2∈seen→zb0 sz dst (.tup [.bool true,e.1,e.2.1]) (.mk tm (h.put it (some (.miter m since (seen++[e.2.2]) cl))) nx ds) K)
def zCk (c:Cx) (sz:Nat)(dst:Option Tmp)(x:Operand)(tm:Tr AV)(h:Tr ABlk) (nx:Nat)(ds:List DE)(K:AS→Prop):Prop:=
 ∃it m since seen es cl e,evO c.G tm x=some (.ptr it 0)∧h.get it=some (.miter m since (seen++[e.2.2]) cl)∧h.get m=some (.map es cl)∧e∈es∧(es.map (fun e=>e.2.2)).Nodup∧zb0 sz dst (.tup [e.1,e.2.1]) (.mk tm h nx ds) K
def opW (P:Program)(c:Cx) (sz:Nat)(op:Op)(dst:Option Tmp)(tm:Tr AV)(h:Tr ABlk) (nx:Nat)(ds:List DE)(K:AS→Prop):Prop:=
 match op with
 |.range t x=>zD4 c sz dst t x tm h nx ds K
 |.next x b=>match b with
  |true=>False
  |false=>zAg c sz dst x tm h nx ds K
 |.entry x=>zCk c sz dst x tm h nx ds K
 |.lookup t x k ok=>zb7 sz dst tm ds K (match zht c t with |true=>zm9 c t ok (evO c.G tm x) (evO c.G tm k) h nx |false=>zcp c (.lookup t x k ok) tm h nx)
 |.mapUpdate t x k v=>zb7 sz dst tm ds K (match zht c t with |true=>zm4 c t (evO c.G tm x) (evO c.G tm k) (evO c.G tm v) h nx |false=>zcp c (.mapUpdate t x k v) tm h nx)
 |op=>match zdo op with
  |some (f,args)=>zgz P c sz dst tm h nx ds K (evO c.G tm f) (zb2 c.G tm args.toList)
  |none=>zb7 sz dst tm ds K (zcp c op tm h nx)
def awS (P:Program)(c:Cx) (sz:Nat)(ops:List Oper)(o:Oper)(K:AS→Prop)(s:AS):Prop:=
 match s with
 |.mk tm h nx ds=>match zbz ops tm o with
  |none=>False
  |some false=>zb0 sz o.dst (.tup []) (.mk tm h nx ds) K
  |some true=>opW P c sz o.op o.dst tm h nx ds K
def awO (P:Program)(c:Cx) (sz:Nat)(ops:List Oper)(K:AS→Prop):List Oper→AS→Prop
 |[]=>K
 |o::l=>awS P c sz ops o (awO P c sz ops K l)
theorem zb4.toL {σ:Sg}:∀{l:List (AV×AV×Nat)}{E:List MapEntry},zb4 σ l E→E.map (·.born)=l.map (fun e=>e.2.2)∧(∀X∈E,∃e∈l,X.born=e.2.2∧Rel σ e.1 X.key∧Rel σ e.2.1 X.val)∧∀e∈l,∃X∈E,X.born=e.2.2∧Rel σ e.1 X.key∧Rel σ e.2.1 X.val
 |[],E,h=>by
  have:E=[]:=h
  subst this
  exact⟨rfl,(fun X hX=>by cases hX),(fun e he=>by cases he)⟩
 |(k,v,n)::l,E,h=>by
  obtain⟨K,V,E',e,h1,h2,h3⟩:=h
  subst e
  obtain⟨q1,q2,q3⟩:=h3.toL
  refine⟨by simp[q1],fun X hX=>?_,fun e he=>?_⟩
  ·rcases List.mem_cons.1 hX with h4 |h4
   ·subst h4;exact⟨(k,v,n),List.mem_cons_self,rfl,h1,h2⟩
   ·obtain⟨e,e1,e2⟩:=q2 X h4
    exact⟨e,List.mem_cons_of_mem _ e1,e2⟩
  ·rcases List.mem_cons.1 he with h4 |h4
   ·subst h4;exact⟨⟨K,V,n⟩,List.mem_cons_self,rfl,h1,h2⟩
   ·obtain⟨X,e1,e2⟩:=q3 e h4
    exact⟨X,List.mem_cons_of_mem _ e1,e2⟩
theorem Ok.mapB {G:Gl}(hk:Ok G σ h nx w){m es cl}(hm:h.get m=some (.map es cl)):∃b E,σ.blk m=some b∧w.heap[b]?=some (.map (List.toArray E) cl)∧zb4 σ es E:=by
 obtain⟨b,o,hb,ho,hr⟩:=hk.blk m _ hm
 simp only[zao]at hr
 obtain⟨E,e,h1⟩:=hr
 subst e
 exact⟨b,E,hb,ho,h1⟩
theorem Ok.iterB {G:Gl}(hk:Ok G σ h nx w){it m since seen st}(hm:h.get it=some (.miter m since seen st)):∃r b,σ.blk it=some r∧σ.blk m=some b∧w.heap[r]?=some (.mapIter (some b) since seen.toArray st):=by
 obtain⟨r,o,hb,ho,hr⟩:=hk.blk it _ hm
 simp only[zao]at hr
 obtain⟨b,h1,e⟩:=hr
 subst e
 exact⟨r,b,hb,h1,ho⟩
theorem zoo (hc:CxOk P c){ops:Array Oper}{o:Oper}{K:AS→Prop}{s:AS}(hs:awS P c sz ops.toList o K s){r:Option Nat}(hk:Ok c.G σ s.h s.nx w)(ht:St σ s.tm a sz s.ds)(Q:Exit→Act→World→Prop)(L:Act→World→Prop)
  (hK:∀τ tm1 V w1 h1 nx1,K (.mk tm1 h1 nx1 s.ds)→Post c.G σ s.h s.nx w τ h1 nx1 w1→St τ tm1 (a.put o.dst V) sz s.ds→L (a.put o.dst V) w1):
  if Region.wanted o (yielded ops a.tmps) then o.wpIn (zbb r) 0 P a w L Q else (∀f,o.about P w a.eval=some f→(zbb r).fn f)∧L (a.put o.dst undef) w:=by
 cases s with
 |mk tm h nx ds=>
 have pre:(opW P c sz o.op o.dst tm h nx ds K→o.wpIn (zbb r) 0 P a w L Q)→if Region.wanted o (yielded ops a.tmps) then o.wpIn (zbb r) 0 P a w L Q else (∀f,o.about P w a.eval=some f→(zbb r).fn f)∧L (a.put o.dst undef) w:=by
  intro hp
  simp only[AS.h,AS.nx,AS.tm,AS.ds]at hk ht hK
  unfold awS at hs
  simp only at hs
  cases hw:zbz ops.toList tm o with
  |none=>rw[hw]at hs;exact hs.elim
  |some b=>
  rw[zjp ht.tm hw]
  rw[hw]at hs
  cases b with
  |false=>
   simp only[Bool.false_eq_true,if_false]
   obtain⟨tm',e1,e2⟩:=zfq (a:=a) (s:=.mk tm h nx ds) hs ht zhp
   exact⟨fun _ _=>trivial,hK σ tm' _ w h nx e1 (.refl hk) e2⟩
  |true=>
   simp only[if_true]
   exact hp hs
 simp only[AS.h,AS.nx,AS.tm,AS.ds]at hk ht hK
 obtain⟨dst,op,type,pos,after,guard⟩:=o
 cases op <;> try exact zsa hc (s:=.mk tm h nx ds) hs hk ht Q L hK
 case lookup t x kk ok=>
  cases hkt:zht c t with
  |false=>
   refine zsa hc (s:=.mk tm h nx ds) ?_ hk ht Q L hK
   unfold awS opW at hs
   simp only[hkt]at hs
   exact hs
  |true=>
   refine pre fun hs=>?_
   unfold opW at hs
   simp only[hkt]at hs
   have hp:=zGe hc hk t ok (fun v e=>zde hk ht.tm e) (fun v e=>zde hk ht.tm e) (m:=evO c.G tm x) (k:=evO c.G tm kk) (M:=a.eval x) (K:=a.eval kk)
   refine zdc (fun _ e=>by cases e) ?_
   have hex:(execOp a.eval ⟨dst,.lookup t x kk ok,type,pos,after,guard⟩).run P w=((Instr.lookup t (a.eval x) (a.eval kk) ok).run P w).andThen fun v w'=>.ok (.value v) w':=by
    show (do pure (.value (← Instr.lookup t (a.eval x) (a.eval kk) ok)):Sem Next).run P w=_
    simp only[Sem.run_bind,Sem.run_pure]
   rw[hex]
   cases hv:zm9 c t ok (evO c.G tm x) (evO c.G tm kk) h nx with
   |fail=>rw[hv]at hs;exact hs.elim
   |unit g ny=>rw[hv]at hp;exact hp.elim
   |val v g ny=>
    rw[hv]at hs hp
    obtain⟨V,τ,x,h1,h2,h3⟩:=hp
    obtain⟨tm',e1,e2⟩:=zfq (a:=a) (s:=.mk tm g ny ds) hs (ht.mono h3.le) h2
    rw[h1]
    exact hK τ tm' _ x g ny e1 h3 e2
 case mapUpdate t x kk vv=>
  cases hkt:zht c t with
  |false=>
   refine zsa hc (s:=.mk tm h nx ds) ?_ hk ht Q L hK
   unfold awS opW at hs
   simp only[hkt]at hs
   exact hs
  |true=>
   refine pre fun hs=>?_
   unfold opW at hs
   simp only[hkt]at hs
   have hp:=zIu hc hk t (fun v e=>zde hk ht.tm e) (fun v e=>zde hk ht.tm e) (fun v e=>zde hk ht.tm e) (m:=evO c.G tm x) (k:=evO c.G tm kk) (v:=evO c.G tm vv) (M:=a.eval x) (K:=a.eval kk) (V:=a.eval vv)
   refine zdc (fun _ e=>by cases e) ?_
   have hex:(execOp a.eval ⟨dst,.mapUpdate t x kk vv,type,pos,after,guard⟩).run P w=((Instr.mapUpdate t (a.eval x) (a.eval kk) (a.eval vv)).run P w).andThen fun _ w'=>.ok .skip w':=by
    show (do Instr.mapUpdate t (a.eval x) (a.eval kk) (a.eval vv);pure .skip:Sem Next).run P w=_
    simp only[Sem.run_bind,Sem.run_pure]
   rw[hex]
   cases hv:zm4 c t (evO c.G tm x) (evO c.G tm kk) (evO c.G tm vv) h nx with
   |fail=>rw[hv]at hs;exact hs.elim
   |val v g ny=>rw[hv]at hp;exact hp.elim
   |unit g ny=>
    rw[hv]at hs hp
    obtain⟨τ,x,h1,h3⟩:=hp
    obtain⟨tm',e1,e2⟩:=zfq (a:=a) (s:=.mk tm g ny ds) hs (ht.mono h3.le) zhp
    rw[h1]
    exact hK τ tm' _ x g ny e1 h3 e2
 case range t x=>
  refine pre fun hs=>?_
  obtain⟨m,es,cl,k,e,q1,q2,q3,q4,e1,e2,e3,e4⟩:=hs
  have hx:=zde hk ht.tm e1
  simp only[Rel]at hx
  obtain⟨b,hb,ex⟩:=hx
  obtain⟨b',E,hb',ho,hE⟩:=hk.mapB e2
  rw[hb]at hb'
  cases hb'
  have hu:P.underlying t=some (.map k e):=(hc.tt t _ e3).1
  have pa:=Post.alloc hk 0 (.miter m cl [] cl) (.mapIter (some b) cl #[] cl) (by
   simp only[zao]
   refine⟨b,?_,rfl⟩
   have:m≠nx:=by have:=hk.lt e2;omega
   simp[Sg.add,this,hb])
  have hv:Rel (σ.add nx w.heap.size 0) (.ptr nx 0) (.pointer (some ⟨w.heap.size,0,none⟩)):=by
   simp only[Rel]
   exact⟨w.heap.size,by simp[Sg.add],rfl⟩
  obtain⟨tm',k1,k2⟩:=zfq (a:=a) e4 (ht.mono pa.le) hv
  refine zdc (fun _ e=>by cases e) ?_
  have hrun:(execOp a.eval ⟨dst,.range t x,type,pos,after,guard⟩).run P w=.ok (.value (.pointer (some ⟨w.heap.size,0,none⟩))) (w.alloc (.mapIter (some b) cl #[] cl)):=by
   show (do pure (.value (← Instr.range t (a.eval x))):Sem Next).run P w=_
   rw[ex]
   simp[run_range_map w t k e b E.toArray cl hu ho]
  rw[hrun]
  exact hK _ tm' _ _ _ _ k1 pa k2
 case next x isS=>
  refine pre fun hs=>?_
  cases isS with
  |true=>exact hs.elim
  |false=>
  obtain⟨it,m,since,seen,st,es,cl,e1,e2,e3,e4,e5,e6,e7⟩:=hs
  have hx:=zde hk ht.tm e1
  simp only[Rel]at hx
  obtain⟨r,hr,ex⟩:=hx
  obtain⟨r',b,hr',hb,ho⟩:=hk.iterB e2
  rw[hr]at hr'
  cases hr'
  obtain⟨b',E,hb',hom,hE⟩:=hk.mapB e3
  rw[hb]at hb'
  cases hb'
  obtain⟨t1,t2,t3⟩:=hE.toL
  have hold:∀X∈E.toArray.toList,X.born<since:=fun X hX=>by
   obtain⟨e,q1,q2,_⟩:=t2 X (by simpa using hX)
   rw[q2]
   exact e4 e q1
  refine zdc (fun _ e=>by cases e) ?_
  have hex:(execOp a.eval ⟨dst,.next x false,type,pos,after,guard⟩).run P w=((Instr.next (.pointer (some ⟨r,0,none⟩)) false type).run P w).andThen fun v w'=>.ok (.value v) w':=by
   show (do pure (.value (← Instr.next (a.eval x) false type)):Sem Next).run P w=_
   rw[ex]
   simp only[Sem.run_bind,Sem.run_pure]
  rw[hex]
  rcases run_next_at (P:=P) w type r b since st seen.toArray E.toArray cl ho hom hold e5 with⟨h1,h2⟩ |⟨X,hX,w1,hw1,h2⟩
  ·have hall:∀e∈es,e.2.2∈seen:=by
    intro e he
    obtain⟨X,x1,x2,_⟩:=t3 e he
    have:leftOf E.toArray seen.toArray=#[]:=Array.eq_empty_of_size_eq_zero h1
    unfold leftOf at this
    rw[Array.filter_eq_empty_iff]at this
    have:=this X (by simpa using x1)
    simpa[x2]using this
   rw[h2]
   obtain⟨tm',k1,k2⟩:=zfq (a:=a) (V:=.tuple #[.bool false]) (e6 hall) ht (by simp only[Rel];exact⟨[.bool false],rfl,by simp only[za1,Rel];exact⟨_,[],rfl,rfl,rfl⟩⟩)
   exact hK _ tm' _ _ _ _ k1 (.refl hk) k2
  ·have hXE:X∈E∧¬X.born∈seen:=by
    unfold leftOf at hX
    simpa using hX
   obtain⟨e,q1,q2,q3,q4⟩:=t2 X hXE.1
   have hns:¬e.2.2∈seen:=by rw[← q2];exact hXE.2
   have p1:Post c.G σ h nx w σ h nx w1:=by
    rcases hw1 with h3 |h3
    ·rw[h3];exact .refl hk
    ·rw[h3];exact Post.drawn hk _
   have hh:w1.heap=w.heap:=by
    rcases hw1 with h3 |h3
    ·rw[h3]
    ·rw[h3];rfl
   have p2:=Post.set p1.ok e2 hr (.miter m since (seen++[e.2.2]) cl) (.mapIter (some b) since (seen.toArray.push X.born) cl) (by
    simp only[zao]
    exact⟨b,hb,by rw[q2];simp⟩)
   rw[h2]
   have hv:Rel σ (.tup [.bool true,e.1,e.2.1]) (.tuple #[.bool true,X.key,X.val]):=by
    simp only[Rel]
    exact⟨[.bool true,X.key,X.val],rfl,by simp only[za1,Rel];exact⟨_,_,rfl,rfl,_,_,rfl,q3,_,_,rfl,q4,rfl⟩⟩
   obtain⟨tm',k1,k2⟩:=zfq (a:=a) (e7 e q1 hns) ht hv
   exact hK _ tm' _ _ _ _ k1 (p1.trans p2) k2
 case entry x=>
  refine pre fun hs=>?_
  obtain⟨it,m,since,seen,es,cl,e,e1,e2,e3,e4,e5,e6⟩:=hs
  have hx:=zde hk ht.tm e1
  simp only[Rel]at hx
  obtain⟨r,hr,ex⟩:=hx
  obtain⟨r',b,hr',hb,ho⟩:=hk.iterB e2
  rw[hr]at hr'
  cases hr'
  obtain⟨b',E,hb',hom,hE⟩:=hk.mapB e3
  rw[hb]at hb'
  cases hb'
  obtain⟨t1,t2,t3⟩:=hE.toL
  obtain⟨X,x1,x2,x3,x4⟩:=t3 e e4
  refine zdc (fun _ e=>by cases e) ?_
  have hrun:=run_entry_at (P:=P) w r b since seen.toArray E.toArray cl X (by rw[x2];simpa using ho) hom (by simpa using x1) (by simpa[t1]using e5)
  have hex:(execOp a.eval ⟨dst,.entry x,type,pos,after,guard⟩).run P w=.ok (.value (.tuple #[X.key,X.val])) w:=by
   show (do pure (.value (← Instr.entry (a.eval x))):Sem Next).run P w=_
   rw[ex]
   simp[hrun]
  rw[hex]
  have hv:Rel σ (.tup [e.1,e.2.1]) (.tuple #[X.key,X.val]):=by
   simp only[Rel]
   exact⟨[X.key,X.val],rfl,by simp only[za1];exact⟨_,_,rfl,x3,_,_,rfl,x4,rfl⟩⟩
  obtain⟨tm',k1,k2⟩:=zfq (a:=a) e6 ht hv
  exact hK _ tm' _ _ _ _ k1 (.refl hk) k2
theorem zCp (hc:CxOk P c){ops:Array Oper}{K:AS→Prop}{r:Option Nat}{Q:AX→AS→Prop}(hKQ:∀s,K s→Q .norm s)(Q0:Exit→Act→World→Prop):∀(l:List Oper){s:AS},awO P c sz ops.toList K l s→∀{σ:Sg}{a:Act}{w:World},Ok c.G σ s.h s.nx w→St σ s.tm a sz s.ds→
  (∀e a' w',AQ c.G σ s.h s.nx w sz Q e a' w'→Q0 e a' w')→wpListIn (zbb r) 0 P ops Q0 l a w
 |[],s,hs,σ,a,w,ok,st,hq=>hq _ _ _ (AQ.mk (k:=.norm) ok st (hKQ s hs))
 |o::l,s,hs,σ,a,w,ok,st,hq=>by
  unfold wpListIn
  refine zoo hc (K:=awO P c sz ops.toList K l) hs ok st _ _ fun τ tm1 a1 w1 h1 nx1 k1 p1 s1=>?_
  exact zCp hc hKQ Q0 l (s:=.mk tm1 h1 nx1 s.ds) k1 p1.ok s1 fun e a' w' q=>hq e a' w' (q.trans p1)
def aw (P:Program)(c:Cx)(inr:Bool) (sz:Nat):Code→(AX→AS→Prop)→AS→Prop
 |.skip,Q,s=>Q .norm s
 |.label _,Q,s=>Q .norm s
 |.region id ops draw,Q,s=>match draw with
  |false=>awO P c sz ops.toList (Q .norm) ops.toList s
  |true=>AW P c inr sz (.region id ops true) Q s
 |.seq a b,Q,s=>aw P c inr sz a (zjo (aw P c inr sz b Q) Q) s
 |.cond x a b,Q,s=>match evO c.G s.tm x with
  |some (.bool t)=>(t=true→aw P c inr sz a Q s)∧(t=false→aw P c inr sz b Q s)
  |_=>False
 |.block id a,Q,s=>aw P c inr sz a (zi6 id Q) s
 |.loop a,Q,s=>AW P c inr sz (.loop a) Q s
 |.rangeFunc f ps x y,Q,s=>AW P c inr sz (.rangeFunc f ps x y) Q s
 |.exit id,Q,s=>Q (.exit id) s
 |.ret,Q,s=>Q .ret s
 |.scope a,Q,s=>aw P c inr sz a Q s
 |.goto _,_,_=>False
 |.refuse _,_,_=>False
theorem zag (hc:CxOk P c){inr:Bool}:∀(code:Code){Q:AX→AS→Prop}{s:AS},aw P c inr sz code Q s→AW P c inr sz code Q s
 |.skip,Q,s,h=>zBf h
 |.label _,Q,s,h=>zAe h
 |.region id ops draw,Q,s,h=>by
  cases draw with
  |true=>exact h
  |false=>exact fun r hi σ a w ok st=>wpIn_region_list (zCp hc (K:=Q .norm) (Q:=Q) (fun s h=>h) _ ops.toList h ok st fun _ _ _ q=>q)
 |.seq a b,Q,s,h=>zw0 ((zag hc a h).mono fun k s q=>by
   cases k with
   |norm=>exact zag hc b q
   |exit id=>exact q
   |ret=>exact q)
 |.cond x a b,Q,s,h=>by
  unfold aw at h
  split at h
  ·rename_i t ht
   exact ztx ht (fun e=>zag hc a (h.1 e)) (fun e=>zag hc b (h.2 e))
  ·exact h.elim
 |.block id a,Q,s,h=>zAt (zag hc a h)
 |.loop a,Q,s,h=>h
 |.rangeFunc f ps x y,Q,s,h=>h
 |.exit id,Q,s,h=>zDj h
 |.ret,Q,s,h=>zB3 h
 |.scope a,Q,s,h=>zAi (zag hc a h)
 |.goto _,Q,s,h=>h.elim
 |.refuse _,Q,s,h=>h.elim
def zok (c:Cx)(tm:Tr AV)(h:Tr ABlk) (nx:Nat)(r:ResultVar):Option AV:=
 match r with
 |.tmp t=>tm.get t
 |.cell a t=>match tm.get a with
  |some p=>match c.tt.get t with
   |some ti=>match zcv ti p h nx with
    |.val v _ _=>some v
    |_=>none
   |none=>none
  |none=>none
def zco (c:Cx)(tm:Tr AV)(h:Tr ABlk) (nx:Nat):List ResultVar→Option (List AV)
 |[]=>some []
 |r::l=>match zok c tm h nx r with
  |some v=>match zco c tm h nx l with
   |some l=>some (v::l)
   |none=>none
  |none=>none
def zf3 (l:List AV):AV:=match l with |[v]=>v |l=>.tup l
def zt8 (tmps:Array Value):ResultVar→Sem Value
 |.tmp t=>pure (tmps.getD t undef)
 |.cell a t=>do loadVar t (← asAddr (tmps.getD a undef))
theorem zIa (fn:Func)(tmps:Array Value):results fn tmps=(do let vs ← fn.results.mapM (zt8 tmps);pure (if h:vs.size=1 then vs[0] else .tuple vs)):=rfl
theorem zQn (hc:CxOk P c)(hk:Ok c.G σ h nx w)(ht:zd8 σ tm a){rv:ResultVar}{v:AV}(he:zok c tm h nx rv=some v):
  ∃V,(zt8 a.tmps rv).run P w=.ok V w∧Rel σ v V:=by
 unfold zok at he
 cases rv with
 |tmp t=>exact⟨_,rfl,ht t v he⟩
 |cell b t=>
  simp only at he
  cases hp:tm.get b with
  |none=>rw[hp]at he;cases he
  |some p=>
   rw[hp]at he
   simp only at he
   cases hti:c.tt.get t with
   |none=>rw[hti]at he;cases he
   |some ti=>
    rw[hti]at he
    simp only at he
    have hpr:=ht b p hp
    have hl:=zx9 hk t (hc.tt t ti hti) hpr
    cases hlv:zcv ti p h nx with
    |fail=>rw[hlv]at he;cases he
    |unit _ _=>rw[hlv]at he;cases he
    |val v' g ny=>
     rw[hlv]at he hl
     cases he
     obtain⟨_,_,V,h1,h2⟩:=hl
     have hex:∃q,a.tmps.getD b undef=.pointer (some q):=by
      cases p <;> try (exfalso;unfold zcv at hlv;cases ti;cases hlv;done)
      ·simp only[Rel]at hpr
       obtain⟨bb,hb,e⟩:=hpr
       exact⟨_,e⟩
      ·simp only[Rel]at hpr
       obtain⟨bb,_,_,_,e,_⟩:=hpr
       exact⟨_,e⟩
     obtain⟨q,e⟩:=hex
     rw[e]at h1
     refine⟨V,?_,h2⟩
     show (do loadVar t (← asAddr (a.tmps.getD b undef)):Sem Value).run P w=_
     rw[e]
     simpa[Instr.loadAt,Instr.sureAddr,asAddr]using h1
theorem zCe (hc:CxOk P c)(hk:Ok c.G σ h nx w)(ht:zd8 σ tm a):∀{l:List ResultVar}{vs:List AV},zco c tm h nx l=some vs→
  ∃VS,(l.mapM (zt8 a.tmps)).run P w=.ok VS w∧za1 σ vs VS
 |[],vs,e=>by cases e;exact⟨[],by simp,by simp only[za1]⟩
 |rv::l,vs,e=>by
  simp only[zco]at e
  cases h1:zok c tm h nx rv with
  |none=>rw[h1]at e;cases e
  |some v=>
   rw[h1]at e
   cases h2:zco c tm h nx l with
   |none=>rw[h2]at e;cases e
   |some l'=>
    rw[h2]at e
    cases e
    obtain⟨V,r1,r2⟩:=zQn hc hk ht h1
    obtain⟨VS,r3,r4⟩:=zCe hc hk ht h2
    refine⟨V::VS,?_,by simp only[za1];exact⟨V,VS,rfl,r2,r4⟩⟩
    rw[List.mapM_cons,Sem.run_bind,r1]
    simp only[Result.andThen,Sem.run_bind,r3,Sem.run_pure]
theorem zz4 (hc:CxOk P c)(hk:Ok c.G σ h nx w)(ht:zd8 σ tm a){fn:Func}{vs:List AV}(he:zco c tm h nx fn.results.toList=some vs):∃V,(results fn a.tmps).run P w=.ok V w∧Rel σ (zf3 vs) V:=by
 obtain⟨VS,h1,h2⟩:=zCe hc hk ht he
 have h3:(results fn a.tmps).run P w=.ok (if h:VS.toArray.size=1 then VS.toArray[0] else .tuple VS.toArray) w:=by
  rw[zIa,Array.mapM_eq_mapM_toList]
  simp only[Sem.run_bind,Sem.run_map,h1]
  rfl
 refine⟨_,h3,?_⟩
 unfold zf3
 split
 ·rename_i v
  simp only[za1]at h2
  obtain⟨V,L,e1,e2,e3⟩:=h2
  subst e3
  subst e1
  simpa using e2
 ·rename_i hne
  have:VS.toArray.size≠1:=by
   intro e
   have hl:vs.length=1:=by rw[← h2.length];simpa using e
   match vs,hl with
   |[v],_=>exact hne v rfl
  rw[dif_neg this]
  simp only[Rel]
  exact⟨VS,rfl,h2⟩
def zgb (h:Tr ABlk):List DE→Tr ABlk
 |[]=>h
 |.mark i::ds=>zgb (h.put i none) ds
 |.fn _ _ _::ds=>zgb h ds
def zks (h:Tr ABlk):List DE→Prop
 |[]=>True
 |.mark i::ds=>h.get i=some .dfr∧zks (h.put i none) ds
 |.fn _ _ _::_=>False
def zl7 (c:Cx)(rs:List ResultVar)(R:AV→Tr ABlk→Nat→Prop)(s:AS):Prop:=
 match s with
 |.mk tm h nx ds=>zks h ds∧match zco c tm (zgb h ds) nx rs with
  |some l=>R (zf3 l) (zgb h ds) nx
  |none=>False
def zj8 (c:Cx)(rs:List ResultVar)(R:AV→Tr ABlk→Nat→Prop):AX→AS→Prop
 |.norm,s=>zl7 c rs R s
 |.ret,s=>zl7 c rs R s
 |.exit _,_=>False
theorem Post.kill {G:Gl}(hk:Ok G σ h nx w){i b:Nat}{B:ABlk}(hi:h.get i=some B)(hb:σ.blk i=some b)(o:Obj):Post G σ h nx w σ (h.put i none) nx (w.putObj b o):=by
 have hs:∀j B',(h.put i none).get j=some B'→j≠i∧h.get j=some B':=by
  intro j B' hj
  rw[Tr.get_put]at hj
  split at hj
  ·cases hj
  ·exact⟨by assumption,hj⟩
 have hheap:∀k,k≠b→(w.putObj b o).heap[k]?=w.heap[k]?:=fun k hk'=>World.putObj_heap_other hk'
 refine⟨⟨hk.glob,hk.le,hk.fresh,fun a c d B1 B2 h1 h2=>hk.inj a c d B1 B2 (hs _ _ h1).2 (hs _ _ h2).2,fun a B1 h1=>?_,fun d C hd=>⟨?_,fun a B1 h1=>(hk.imm d C hd).2 a B1 (hs _ _ h1).2⟩,hk.gl⟩,.refl σ,⟨rfl,rfl,rfl,by simp,fun d hd hn=>hheap d fun e=>hn i B hi (e ▸ hb),fun a B1 d h1 h2=>.inr ⟨a,B1,(hs _ _ h1).2,h2⟩,fun _ _ h=>.inl h⟩,Nat.le_refl _⟩
 ·obtain⟨n1,n2⟩:=hs a B1 h1
  obtain⟨b',o',hb',ho,hr⟩:=hk.blk a B1 n2
  refine⟨b',o',hb',?_,hr⟩
  rw[hheap b' fun e=>n1 (hk.inj a i b B1 B n2 hi (e ▸ hb') hb)]
  exact ho
 ·obtain⟨⟨t,fr,h1⟩,h2⟩:=hk.imm d C hd
  refine⟨t,fr,?_⟩
  rw[hheap d fun e=>h2 i B hi (e ▸ hb)]
  exact h1
theorem zBu {fn:Func}{tmps:Array Value}{RR:Ending→World→Prop}{G:Gl}:∀{ds:List DE}{D:List Deferred}{h:Tr ABlk}{w:World}{σ:Sg},Ok G σ h nx w→zk2 σ ds D→zks h ds→
  (∀x,Post G σ h nx w σ (zgb h ds) nx x→∃v,(results fn tmps).run P x=.ok v x∧RR (.returned v) x)→LeavesInM Fence.wide 0 P fn tmps RR D .returning w
 |[],D,h,w,σ,ok,hD,_,hf=>by
  have e:D=[]:=hD
  subst e
  exact hf w (.refl ok)
 |.fn _ _ _::_,D,h,w,σ,ok,hD,hm,hf=>hm.elim
 |.mark i::ds,D,h,w,σ,ok,hD,hm,hf=>by
  obtain⟨b,D',e,hb,hD'⟩:=hD
  subst e
  obtain⟨b',o,hb',ho,hr⟩:=ok.blk i _ hm.1
  rw[hb]at hb'
  cases hb'
  simp only[zao]at hr
  subst hr
  refine⟨by simp,.inl ⟨b,_,rfl,run_takeDeferred ho,?_⟩⟩
  have pk:=Post.kill ok hm.1 hb (.deferred none)
  exact zBu pk.ok hD' hm.2 fun x px=>hf x (pk.trans px)
theorem zyc (hc:CxOk P c){f:FuncId}{fn:Func}(hft:c.ft.get f=some fn){code:Code}(hb:fn.body=some code){args:List AV}(hle:args.length≤fn.ntmps){R:AV→Tr ABlk→Nat→Prop}
  (hw:AW P c false fn.ntmps code (zj8 c fn.results.toList R) (.mk (zbh args .nil 0) h nx [])):za7 P c f args h nx R:=by
 intro σ w A hk hA
 obtain⟨hf,hcall⟩:=hc.ft f fn hft
 unfold CR
 rw[hcall]
 simp only
 have hAl:A.length=args.length:=hA.length
 have hst:St σ (zbh args .nil 0) { tmps:=A.toArray++Array.replicate (fn.ntmps-A.toArray.size) undef,defers:=[] } fn.ntmps []:=by
  refine⟨fun t u e=>?_,by simp;omega,rfl⟩
  rw[zf7]at e
  by_cases h1:0≤t∧t<0+args.length
  ·rw[if_pos h1,Nat.sub_zero]at e
   obtain⟨U,e1,e2⟩:=hA.get e
   have ht:t<A.length:=by omega
   rw[List.getElem?_eq_getElem ht]at e1
   cases e1
   simp only[Array.getD_eq_getD_getElem?]
   rw[Array.getElem?_append_left (by simpa using ht)]
   simpa[ht]using e2
  ·rw[if_neg h1]at e
   cases e
 refine callsIn_wide.1 (callsIn_of_wp_marks (F:=Fence.wide) (n:=0) hf hb trivial (wpIn_mono (hw none (fun _=>rfl) σ _ w hk hst) fun e a' w' q=>?_))
 obtain⟨k,tm,g,ny,ds,τ,e1,q1,q2,q3⟩:=q
 have fin:zl7 c fn.results.toList R (.mk tm g ny ds)→LeavesInM Fence.wide 0 P fn a'.tmps (fun e x=>match e with |.returned v=>∃τ v' g ny,Rel τ v' v∧Post c.G σ h nx w τ g ny x∧R v' g ny |_=>False) a'.defers .returning w':=by
  intro q3
  obtain⟨e2,q4⟩:=q3
  refine zBu q1.ok q2.defers e2 fun x px=>?_
  cases hres:zco c tm (zgb g ds) ny fn.results.toList with
  |none=>rw[hres]at q4;exact q4.elim
  |some vs=>
   rw[hres]at q4
   obtain⟨V,r1,r2⟩:=zz4 hc px.ok q2.tm hres
   exact⟨V,r1,τ,zf3 vs,zgb g ds,ny,r2,q1.trans px,q4⟩
 cases k with
 |norm=>subst e1;exact fin q3
 |ret=>subst e1;exact fin q3
 |exit id=>exact q3.elim
theorem zaa (hc:CxOk P c){f:FuncId}{fn:Func}(hft:c.ft.get f=some fn){code:Code}{sz:Nat}{rs:List ResultVar}(hb:fn.body=some code)(hs:fn.ntmps=sz)(hr:fn.results.toList=rs){args:List AV}(hle:args.length≤sz){R:AV→Tr ABlk→Nat→Prop}
  (hw:aw P c false sz code (zj8 c rs R) (.mk (zbh args .nil 0) h nx [])):za7 P c f args h nx R:=by
 subst hs
 subst hr
 exact zyc hc hft hb hle (zag hc _ hw)
end
end Go.Ev
