/- Texts. -/
import Derived.Maps.RangeRun
import Derived.Test.YtkdnmldmffkkoaaGreatDoorP06
set_option linter.unusedSimpArgs false
set_option linter.unusedVariables false
set_option maxRecDepth 100000
namespace Go.Ev
noncomputable section
variable {P : Program} {c : Cx} {G : Gl} {σ τ υ : Sg} {h g f : Tr ABlk} {nx ny nz : Nat} {w x y : World}
def YM:TypeDesc→Bool
 |.array _ _=>true
 |_=>false
def uU (c:Cx)(t:TypeId):Bool:=match c.tt.get t with
 |some (.mk (.map kt _) _ _ _ _)=>match c.tt.get kt with
  |some (.mk d _ _ _ _)=>YM d
  |none=>false
 |_=>false
def qA:AV→AV→Option Bool
 |.agg [.int .i64 a,.int .i64 b],.agg [.int .i64 a',.int .i64 b']=>some (decide (a=a'∧b=b'))
 |_,_=>none
def rl (k:AV):List (AV×AV×Nat)→Nat→Option (Option (Nat×AV))
 |[],_=>some none
 |(k',v,_)::es,i=>match qA k k' with
  |some true=>some (some (i,v))
  |some false=>rl k es (i+1)
  |none=>none
structure KeyOk (P:Program)(kt el:TypeId):Prop where
 un:P.underlying kt=some (.array 2 el)
 ue:∃k,P.underlying el=some (.int k)
 sz:∃i,P.info? el=some i∧i.size=1
theorem zSl {k k':AV}{b:Bool}(h:qA k k'=some b):∃a d a' d',k=.agg [.int .i64 a,.int .i64 d]∧k'=.agg [.int .i64 a',.int .i64 d']∧b=decide (a=a'∧d=d'):=by
 unfold qA at h;split at h
 ·cases h;exact⟨_,_,_,_,rfl,rfl,rfl⟩
 ·cases h
theorem Z4 {a d:Int}{K:Value}(h:av σ (.agg [.int .i64 a,.int .i64 d]) K):K=.agg #[.int .i64 a,.int .i64 d]:=by
 simp only[av,aC]at h;obtain⟨L,e,v,t,e1,h1,v2,t2,e2,h2,e3⟩:=h;subst e3;subst h2;subst e2;subst h1;subst e1;exact e
theorem KeyOk.part {kt el:TypeId}(hk:KeyOk P kt el) (a d:Int)(w:World):(Go.part el #[.int .i64 a,.int .i64 d] 0).run P w=.ok (.int .i64 a) w∧(Go.part el #[.int .i64 a,.int .i64 d] 1).run P w=.ok (.int .i64 d) w:=by
 obtain⟨k,hu⟩:=hk.ue;constructor <;> simp[Go.part,Dz hu,jN]
theorem KeyOk.check {kt el:TypeId}(hk:KeyOk P kt el)(e:Bool) (a d:Int)(w:World):(Instr.checkKey e 10000 kt (.agg #[.int .i64 a,.int .i64 d])).run P w=.ok () w:=by
 obtain⟨k,hu⟩:=hk.ue;obtain⟨i,hi,hs⟩:=hk.sz;obtain⟨p0,p1⟩:=hk.part a d w;have hc:∀v:Value,(Instr.checkKey e 9999 el v).run P w=.ok () w:=fun v=>Sh hu rfl e 9998 v w;rw[show (10000:Nat)=9999+1 from rfl,Instr.checkKey];simp only[Sem.run_bind,run_underlying hk.un,Result.andThen];simp[Std.Legacy.Range.forIn_eq_forIn_range',Std.Legacy.Range.size,List.range',nN hi,hs,p0,p1,hc]
theorem KeyOk.equal {kt el:TypeId}(hk:KeyOk P kt el) (a d a' d':Int)(w:World):(Op.equal kt (.agg #[.int .i64 a,.int .i64 d]) (.agg #[.int .i64 a',.int .i64 d'])).run P w=.ok (decide (a=a'∧d=d')) w:=by
 obtain⟨k,hu⟩:=hk.ue;obtain⟨i,hi,hs⟩:=hk.sz;obtain⟨p0,p1⟩:=hk.part a d w;obtain⟨q0,q1⟩:=hk.part a' d' w;have he:∀p q:Int,(Op.equalIn 9999 el (.int .i64 p) (.int .i64 q)).run P w=.ok (p == q) w:=fun p q=>by
  rw[show (9999:Nat)=9998+1 from rfl,Op.equalIn];simp[run_underlying hu]
 unfold Op.equal;rw[show Op.maxDepth=9999+1 from rfl,Op.equalIn];simp only[Sem.run_bind,run_underlying hk.un,Result.andThen];simp[Std.Legacy.Range.forIn_eq_forIn_range',Std.Legacy.Range.size,List.range',nN hi,hs,p0,p1,q0,q1,he]
 by_cases e1:a=a' <;> by_cases e2:d=d' <;> simp[e1,e2]
theorem Hn {kt el:TypeId}(hk:KeyOk P kt el){k k':AV}{b:Bool}(he:qA k k'=some b){K K':Value}(h1:av σ k K)(h2:av σ k' K'):(∀w,(Op.equal kt K K').run P w=.ok b w)∧(∀n m,Instr.sameNow (.array n m) K K'=none)∧(∀e w,(Instr.checkKey e 10000 kt K).run P w=.ok () w)∧(b=true→Instr.sameBits 10000 K' K=true):=by
 obtain⟨a,d,a',d',rfl,rfl,rfl⟩:=zSl he;have:=Z4 h1;subst this;have:=Z4 h2;subst this;refine⟨fun w=>hk.equal a d a' d' w,fun n m=>rfl,fun e w=>hk.check e a d w,fun hb=>?_⟩;have:a=a'∧d=d':=by simpa using hb
 obtain⟨rfl,rfl⟩:=this;rw[show (10000:Nat)=9999+1 from rfl,Instr.sameBits];simp[Instr.sameBits]
theorem WH {kt el:TypeId}(fq:KeyOk P kt el){k:AV}{K:Value}(hk:av σ k K):∀{es:List (AV×AV×Nat)}{E:List MapEntry}{i:Nat}{r:Option (Nat×AV)},di σ es E→rl k es i=some r→
  ∃R,(∀w,(Instr.findAsking kt K E i).run P w=.ok R w)∧qX σ r R∧∀j v,r=some (j,v)→i≤j∧j<i+es.length∧∃k',(es[j-i]?).map (·.1)=some k'∧qA k k'=some true
 |[],E,i,r,he,hf=>by
  cases hf;simp only[di]at he;subst he;exact⟨none,fun w=>rfl,rfl,fun j v e=>by cases e⟩
 |(k',v,n)::es,E,i,r,he,hf=>by
  simp only[di]at he;obtain⟨K',V,E',e,h1,h2,h3⟩:=he;subst e;rw[rl]at hf;cases hs:qA k k' with
  |none=>rw[hs]at hf;cases hf
  |some b=>
   have l9:=(Hn fq hs hk h1).1;rw[hs]at hf;cases b with
   |true=>
    cases hf;refine⟨some (i,V),fun w=>?_,⟨V,rfl,h2⟩,fun j v' e=>?_⟩
    ·simp[Instr.findAsking,l9]
    ·cases e;exact⟨ae _,by simp,k',by simp,hs⟩
   |false=>
    simp only at hf;obtain⟨R,a1,a2,a3⟩:=WH fq hk h3 hf;refine⟨R,fun w=>?_,a2,fun j v' e=>?_⟩
    ·simp[Instr.findAsking,l9,a1]
    ·obtain⟨b1,b2,k2,b3,b4⟩:=a3 j v' e;refine⟨by omega,by simp at b2 ⊢;omega,k2,?_,b4⟩;rw[show j-i=(j-(i+1))+1 by omega];simpa using b3
theorem ZZ {kt el:TypeId}(fq:KeyOk P kt el){k:AV}{K:Value}(hk:av σ k K){es:List (AV×AV×Nat)}{E:List MapEntry}{r:Option (Nat×AV)}(hE:di σ es E)(hf:rl k es 0=some r):
  ∃R,(∀w,(Instr.findKey kt K E).run P w=.ok R w)∧qX σ r R∧∀j v,r=some (j,v)→j<es.length∧∃k',(es[j]?).map (·.1)=some k'∧qA k k'=some true:=by
 obtain⟨R,a1,a2,a3⟩:=WH fq hk hE hf;refine⟨R,fun w=>?_,a2,fun j v e=>?_⟩
 ·have NP:Instr.findNow (.array 2 el) K E 0=none∨(Instr.findNow (.array 2 el) K E 0=some none∧R=none):=by
   cases es with
   |nil=>
    simp only[di]at hE;subst hE;right;refine⟨rfl,?_⟩;have:=a1 default;simp[Instr.findAsking]at this;exact this.symm
   |cons p es=>
    obtain⟨k',v,n⟩:=p;simp only[di]at hE;obtain⟨K',V,E',e,h1,h2,h3⟩:=hE;subst e;left;rw[rl]at hf;cases hs:qA k k' with
    |none=>rw[hs]at hf;cases hf
    |some b=>
     have:=(Hn fq hs hk h1).2.1 2 el;simp[Instr.findNow,this]
  unfold Instr.findKey;simp only[Sem.run_bind,run_underlying fq.un,Result.andThen]
  rcases NP with q |⟨q,q2⟩
  ·rw[q];exact a1 w
  ·rw[q,q2];rfl
 ·obtain⟨_,b2,k2,b3,b4⟩:=a3 j v e;exact⟨by omega,k2,by simpa using b3,b4⟩
def Hv (c:Cx)(t:TypeId):Option (TypeId×AV):=match c.tt.get t with
 |some (.mk (.map kt et) _ _ _ _)=>match c.tt.get kt with
  |some (.mk (.array n el) _ _ _ _)=>match c.tt.get el,c.tt.get et with
   |some (.mk (.int _) sz _ _ _),some (.mk _ _ _ (some z) _)=>match Nat.beq n 2 && Nat.beq sz 1 with
    |true=>some (kt,z)
    |false=>none
   |_,_=>none
  |_=>none
 |_=>none
theorem XI (hc:CxOk P c){t kt:TypeId}{z:AV}(hi:Hv c t=some (kt,z)):∃el et,P.underlying t=some (.map kt et)∧KeyOk P kt el∧∃Z,(∀w,(zeroValue et).run P w=.ok Z w)∧∀σ,av σ z Z:=by
 unfold Hv at hi;split at hi
 ·rename_i AB et q1 q2 q3 q4 h1;split at hi
  ·rename_i n el q5 q6 q7 q8 h2;split at hi
   ·rename_i ki sz q9 OD OE d q12 q13 z' q14 h3 h4;cases hb:(Nat.beq n 2 && Nat.beq sz 1) with
    |false=>rw[hb]at hi;cases hi
    |true=>
     rw[hb]at hi;cases hi;rw[al]at hb;have e1:=ad hb.1;have e2:=ad hb.2;subst e1;subst e2;obtain⟨u1,_⟩:=hc.tt _ _ h1;obtain⟨u2,_⟩:=hc.tt _ _ h2;obtain⟨u3,i3,vG,UA,_⟩:=hc.tt _ _ h3;obtain⟨u4,i4,hi4,hs4,T7,ye,_⟩:=hc.tt _ _ h4;obtain⟨Z,hZ,jM,_⟩:=ye z rfl;exact⟨el,et,u1,⟨u2,⟨_,u3⟩,⟨i3,vG,UA⟩⟩,Z,fun w=>yP hi4 hZ w,jM⟩
   ·cases hi
  ·cases hi
 ·cases hi
def Dj (c:Cx)(t:TypeId)(ok:Bool)(m k:Option AV)(h:Tr ABlk) (nx:Nat):R:=
 match Hv c t,m,k with
 |some (_,z),some (.map i),some k=>match h.get i,qA k k with
  |some (.map es _),some _=>match rl k es 0 with
   |some r=>bP ok z r h nx
   |none=>.fail
  |_,_=>.fail
 |_,_,_=>.fail
theorem zGe (hc:CxOk P c)(hk:Ok c.G σ h nx w)(t:TypeId)(ok:Bool){m k:Option AV}{M K:Value}(hm:∀v,m=some v→av σ v M)(fq:∀v,k=some v→av σ v K):RV P c.G σ h nx w (Instr.lookup t M K ok) (Dj c t ok m k h nx):=by
 unfold Dj;split
 ·rename_i kt z i k q1;obtain⟨el,et,hu,hK,Z,hZ,jM⟩:=XI hc q1;have vO:=hm _ rfl;have cO:=fq _ rfl;simp only[av]at vO;obtain⟨b,hb,e⟩:=vO;subst e;split
  ·rename_i es cl b0 hg Nv;obtain⟨b',E,aS,aF,hE⟩:=hk.map hg;rw[hb]at aS;cases aS;cases hf:rl k es 0 with
   |none=>trivial
   |some r=>
    obtain⟨R,a1,a2,_⟩:=ZZ hK cO hE hf;have dT:=(Hn hK Nv cO cO).2.2.1;have fE:(getObj b).run P w=.ok (.map (List.toArray E) cl) w:=by simp[getObj,Sem.run,aF]
    have nU:=a1 w;cases r with
    |none=>
     simp only[qX]at a2;subst a2;cases ok with
     |true=>
      refine SV.pure hk (V:=.tuple #[Z,.bool false]) ?_ ?_
      ·unfold Instr.lookup;simp[Sem.run_bind,run_underlying hu,Result.andThen,fE,dT,nU,hZ]
      ·simp only[av];exact⟨[Z,.bool false],rfl,by simp only[aC,av];exact⟨_,_,rfl,jM σ,_,_,rfl,rfl,rfl⟩⟩
     |false=>
      refine SV.pure hk (V:=Z) ?_ (jM σ);unfold Instr.lookup;simp[Sem.run_bind,run_underlying hu,Result.andThen,fE,dT,nU,hZ]
    |some p=>
     obtain⟨j,v⟩:=p;simp only[qX]at a2;obtain⟨V,e,hv⟩:=a2;subst e;cases ok with
     |true=>
      refine SV.pure hk (V:=.tuple #[V,.bool true]) ?_ ?_
      ·unfold Instr.lookup;simp[Sem.run_bind,run_underlying hu,Result.andThen,Sem.run_pure,fE,dT,nU]
      ·simp only[av];exact⟨[V,.bool true],rfl,by simp only[aC,av];exact⟨_,_,rfl,hv,_,_,rfl,rfl,rfl⟩⟩
     |false=>
      refine SV.pure hk (V:=V) ?_ hv;unfold Instr.lookup;simp[Sem.run_bind,run_underlying hu,Result.andThen,Sem.run_pure,fE,dT,nU]
  ·trivial
 ·trivial
def Df (c:Cx)(t:TypeId)(m k v:Option AV)(h:Tr ABlk) (nx:Nat):R:=
 match Hv c t,m,k,v with
 |some _,some (.map i),some k,some v=>match h.get i,qA k k with
  |some (.map es cl),some _=>match rl k es 0 with
   |some (some (j,_))=>.unit (h.put i (some (.map (es.modify j (fun e=>match e with |(_,_,n)=>(k,v,n))) cl))) nx
   |some none=>.unit (h.put i (some (.map (es++[(k,v,cl)]) (cl+1)))) nx
   |none=>.fail
  |_,_=>.fail
 |_,_,_,_=>.fail
theorem zIu (hc:CxOk P c)(hk:Ok c.G σ h nx w)(t:TypeId){m k v:Option AV}{M K V:Value}(hm:∀x,m=some x→av σ x M)(fq:∀x,k=some x→av σ x K)(hv:∀x,v=some x→av σ x V):RU P c.G σ h nx w (Instr.mapUpdate t M K V) (Df c t m k v h nx):=by
 unfold Df;split
 ·rename_i q0 i k v q1;obtain⟨kt,z⟩:=q0;obtain⟨el,et,hu,hK,Z,hZ,jM⟩:=XI hc q1;have vO:=hm _ rfl;have cO:=fq _ rfl;have aJ:=hv _ rfl;simp only[av]at vO;obtain⟨b,hb,e⟩:=vO;subst e;split
  ·rename_i es cl b0 hg Nv;obtain⟨b',E,aS,aF,hE⟩:=hk.map hg;rw[hb]at aS;cases aS;cases hf:rl k es 0 with
   |none=>trivial
   |some r=>
    obtain⟨R,a1,a2,a3⟩:=ZZ hK cO hE hf;have dT:=(Hn hK Nv cO cO).2.2.1;have fE:(getObj b).run P w=.ok (.map (List.toArray E) cl) w:=by simp[getObj,Sem.run,aF]
    have qq:∀o:Obj,(setObj b o).run P w=.ok () (gT w b o):=fun o=>by simp[setObj,Sem.run,aF,gT]
    have nU:=a1 w;cases r with
    |none=>
     simp only[qX]at a2;subst a2;refine⟨σ,_,?_,Post.set hk hg hb (.map (es++[(k,v,cl)]) (cl+1)) (.map (List.toArray (E++[⟨K,V,cl⟩])) (cl+1)) ?_⟩
     ·unfold Instr.mapUpdate;simp only[Sem.run_bind,run_underlying hu,Result.andThen,fE,dT,nU];rw[qq];simp[gT]
     ·simp only[bX];refine⟨_,rfl,di.of_get (by simp[hE.length]) fun k0 a b n e=>?_⟩
      by_cases h1:k0<es.length
      ·rw[List.getElem?_append_left h1]at e;obtain⟨A,B,e1,e2,e3⟩:=hE.get e;exact⟨A,B,by rw[List.getElem?_append_left (by rw[hE.length];exact h1)];exact e1,e2,e3⟩
      ·rw[List.getElem?_append_right (by omega)]at e;cases h2:k0-es.length with
       |succ q=>rw[h2]at e;simp at e
       |zero=>
        rw[h2]at e;simp at e;obtain⟨e1,e2,e3⟩:=e;subst e1;subst e2;subst e3;refine⟨K,V,?_,cO,aJ⟩;rw[List.getElem?_append_right (by rw[hE.length];omega),hE.length,h2];rfl
    |some p=>
     obtain⟨j,v0⟩:=p;simp only[qX]at a2;obtain⟨V0,e,_⟩:=a2;subst e;obtain⟨hj,k',aU,sM⟩:=a3 j v0 rfl;obtain⟨⟨ka,va,na⟩,zD⟩:∃p,es[j]?=some p:=⟨es[j]'hj,by simp[hj]⟩;rw[zD]at aU;simp at aU;subst aU;obtain⟨KA,VA,e1,e2,e3⟩:=hE.get zD;have l6:(Instr.keyThatStays KA K).run P w=.ok K w:=by simp[Instr.keyThatStays,(Hn hK sM cO e2).2.2.2 rfl]
     refine⟨σ,_,?_,Post.set hk hg hb (.map (es.modify j (fun e=>match e with |(_,_,n)=>(k,v,n))) cl) (.map (List.toArray (E.modify j fun e=>{ e with key:=K,val:=V })) cl) ?_⟩
     ·unfold Instr.mapUpdate;have sq:(((List.toArray E)[j]?).map (·.key)).getD K=KA:=by simp[e1]
      simp only[Sem.run_bind,run_underlying hu,Result.andThen,fE,dT,nU,sq,l6];rw[qq];simp[gT]
     ·simp only[bX];refine⟨_,rfl,di.of_get (by simp[hE.length]) fun k0 a b n e=>?_⟩;rw[List.getElem?_modify]at e ⊢
      by_cases h1:j=k0
      ·subst h1;rw[zD]at e;simp at e;obtain⟨q1,q2,q3⟩:=e;subst q1;subst q2;subst q3;exact⟨K,V,by rw[e1];simp,cO,aJ⟩
      ·simp only[h1,if_false]at e ⊢;simp at e;obtain⟨A,B,c1,c2,c3⟩:=hE.get e;exact⟨A,B,by simpa using c1,c2,c3⟩
  ·trivial
 ·trivial
end
end Go.Ev
namespace Go.Ev
noncomputable section
variable {P : Program} {c : Cx} {σ τ υ : Sg} {h g f : Tr ABlk} {nx ny nz sz : Nat} {ds : List DE} {w x y : World} {tm : Tr AV} {a : Act}
def fY (ops:List Oper)(tm:Tr AV)(o:Oper):Option Bool:=
 match o.guard with
 |none=>some true
 |some (j,want)=>match ops[j]? with
  |none=>some false
  |some oj=>match oj.dst with
   |none=>some false
   |some d=>match tm.get d with
    |some (.bool b)=>some (match b with |true=>want |false=>!want)
    |some (.tup _)=>some false
    |_=>none
theorem av.bool {b:Bool}{V:Value}(hr:av σ (.bool b) V):V=.bool b:=by simpa only[av]using hr
theorem yE {ops:Array Oper}(ht:jQ σ tm a){o:Oper}{b:Bool}(hw:fY ops.toList tm o=some b):Region.wanted o (yielded ops a.tmps)=b:=by
 unfold fY at hw;unfold Region.wanted;cases hg:o.guard with
 |none=>rw[hg]at hw;cases hw;rfl
 |some p=>
  obtain⟨j,want⟩:=p;rw[hg]at hw;simp only at hw ⊢;rw[Array.getElem?_toList]at hw;unfold yielded;cases hj:ops[j]? with
  |none=>
   rw[hj]at hw;cases hw;simp
  |some oj=>
   rw[hj]at hw;simp only[Option.bind_some]at hw ⊢;cases hd:oj.dst with
   |none=>
    rw[hd]at hw;cases hw;simp
   |some d=>
    rw[hd]at hw;simp only[Option.bind_some]at hw ⊢;cases hv:tm.get d with
    |none=>rw[hv]at hw;cases hw
    |some v=>
     rw[hv]at hw;have hr:=ht d v hv;cases v <;> try (cases hw;done)
     ·rename_i q;cases hw;have hb:=hr.bool;have:a.tmps[d]?=some (.bool q):=by
       cases IG:a.tmps[d]? with
       |none=>rw[Array.getD_eq_getD_getElem?,IG]at hb;cases hb
       |some V=>rw[Array.getD_eq_getD_getElem?,IG]at hb;simp at hb;rw[hb]
      rw[this];cases q <;> cases want <;> rfl
     ·cases hw;simp only[av]at hr;obtain⟨L,e,_⟩:=hr;cases IG:a.tmps[d]? with
      |none=>simp
      |some V=>
       rw[Array.getD_eq_getD_getElem?,IG]at e;simp at e;subst e;simp
def kA (op:Op):Option (Operand×Array Operand):=
 match op with
 |.call cl=>match cl.callee with
  |.value f=>some (f,cl.args)
  |_=>none
 |_=>none
def cT (sz:Nat)(d:Option Tmp)(v:AV)(s:AS)(K:AS→Prop):Prop:=
 match d with
 |none=>K s
 |some d=>d<sz∧K (match s with |.mk tm h nx ds=>.mk (tm.put d (some v)) h nx ds)
theorem qF {d:Option Tmp}{v:AV}{s:AS}{K:AS→Prop}(hp:cT sz d v s K){τ:Sg}(ht:St τ s.tm a sz s.ds){V:Value}(hv:av τ v V):∃tm',K (.mk tm' s.h s.nx s.ds)∧St τ tm' (a.put d V) sz s.ds:=by
 cases s with
 |mk tm h nx ds=>
 cases d with
 |none=>exact⟨tm,hp,ht⟩
 |some d=>exact⟨_,hp.2,ht.put hp.1 hv⟩
theorem uR:av σ (.tup []) undef:=by
 simp only[av];exact⟨[],rfl,by simp only[aC]⟩
def dp (sz:Nat)(d:Option Tmp)(tm:Tr AV)(ds:List DE)(K:AS→Prop)(r:R):Prop:=
 match r with
 |.val v h nx=>cT sz d v (.mk tm h nx ds) K
 |.unit h nx=>cT sz d (.tup []) (.mk tm h nx ds) K
 |.fail=>False
def tA (P:Program)(c:Cx) (sz:Nat)(d:Option Tmp)(tm:Tr AV)(h:Tr ABlk) (nx:Nat)(ds:List DE)(K:AS→Prop)(f:Option AV)(l:Option (List AV)):Prop:=
 match f with
 |some (.func fid first cap)=>match l with
  |some l=>aN P c fid (first++(l++cap)) h nx fun v h nx=>cT sz d v (.mk tm h nx ds) K
  |none=>False
 |some (.yld i)=>match l with
  |some l=>tl P c i l h nx fun v h nx=>cT sz d v (.mk tm h nx ds) K
  |none=>False
 |_=>False
def Xw (P:Program)(c:Cx) (sz:Nat)(ops:List Oper)(o:Oper)(K:AS→Prop)(s:AS):Prop:=
 match s with
 |.mk tm h nx ds=>match fY ops tm o with
  |none=>False
  |some false=>cT sz o.dst (.tup []) (.mk tm h nx ds) K
  |some true=>match kA o.op with
   |some (f,args)=>tA P c sz o.dst tm h nx ds K (aM c.G tm f) (cZ c.G tm args.toList)
   |none=>dp sz o.dst tm ds K (gU c o.op tm h nx)
theorem jS {o:Oper}{r:Option Nat}{a:Act}{next:Act→World→Prop}{Q:Exit→Act→World→Prop}(hd:∀cl,o.op≠.defer cl)
  (hu:o.uponIn (dD r) 0 P a next Q ((execOp a.eval o).run P w)):o.wpIn (dD r) 0 P a w next Q:=
 ⟨fun _ _=>trivial,by rw[Oper.semAt_eq _ _ _ hd];exact hu⟩
def qC:Op→Bool
 |.defer _=>true
 |_=>false
theorem PD (hc:CxOk P c){ops:Array Oper}{o:Oper}{K:AS→Prop}{s:AS}(hs:Xw P c sz ops.toList o K s){r:Option Nat}(hk:Ok c.G σ s.h s.nx w)(ht:St σ s.tm a sz s.ds)(Q:Exit→Act→World→Prop)(L:Act→World→Prop)
  (hK:∀τ ba V w1 h1 sW,K (.mk ba h1 sW s.ds)→Post c.G σ s.h s.nx w τ h1 sW w1→St τ ba (a.put o.dst V) sz s.ds→L (a.put o.dst V) w1):
  if Region.wanted o (yielded ops a.tmps) then o.wpIn (dD r) 0 P a w L Q else (∀f,o.about P w a.eval=some f→(dD r).fn f)∧L (a.put o.dst undef) w:=by
 cases s with
 |mk tm h nx ds=>
 simp only[AS.h,AS.nx,AS.tm,AS.ds]at hk ht hK;unfold Xw at hs;simp only at hs;cases hw:fY ops.toList tm o with
 |none=>rw[hw]at hs;exact hs.elim
 |some b=>
  rw[yE ht.tm hw];rw[hw]at hs;cases b with
  |false=>
   simp only[Bool.false_eq_true,if_false];obtain⟨tm',e1,e2⟩:=qF (a:=a) (s:=.mk tm h nx ds) hs ht uR;exact⟨fun _ _=>trivial,hK σ tm' _ w h nx e1 (.refl hk) e2⟩
  |true=>
   simp only[if_true];simp only at hs;have plain:qC o.op=false→dp sz o.dst tm ds K (gU c o.op tm h nx)→o.wpIn (dD r) 0 P a w L Q:=by
    intro iQ he;have hd:∀cl,o.op≠.defer cl:=fun cl e=>by rw[e]at iQ;cases iQ
    have hp:=Qq hc hk ht.tm o;cases hv:gU c o.op tm h nx with
    |fail=>rw[hv]at he;exact he.elim
    |val v g ny=>
     rw[hv]at he hp;obtain⟨V,τ,x,h1,h2,h3⟩:=hp;obtain⟨tm',e1,e2⟩:=qF (a:=a) (s:=.mk tm g ny ds) he (ht.mono h3.le) h2;refine jS hd ?_;rw[h1];exact hK τ tm' _ x g ny e1 h3 e2
    |unit g ny=>
     rw[hv]at he hp;obtain⟨τ,x,h1,h3⟩:=hp;obtain⟨tm',e1,e2⟩:=qF (a:=a) (s:=.mk tm g ny ds) he (ht.mono h3.le) uR;refine jS hd ?_;rw[h1];exact hK τ tm' _ x g ny e1 h3 e2
   obtain⟨dst,op,type,pos,after,guard⟩:=o;cases op <;> try exact plain rfl hs
   case defer cl=>exact(show False from hs).elim
   rename_i cl;obtain⟨callee,args,argTypes⟩:=cl;cases callee <;> try exact plain rfl hs
   rename_i fo;clear plain
   replace hs:tA P c sz dst tm h nx ds K (aM c.G tm fo) (cZ c.G tm args.toList):=hs
   unfold tA at hs;cases hf:aM c.G tm fo with
   |none=>rw[hf]at hs;exact hs.elim
   |some fv=>
    rw[hf]at hs;have kK:=jT hk ht.tm hf;cases fv <;> try exact hs.elim
    case yld i=>
     cases hl:cZ c.G tm args.toList with
     |none=>rw[hl]at hs;exact hs.elim
     |some l=>
      rw[hl]at hs;simp only at hs;have qf:=tB hk ht.tm hl;simp only[av]at kK;obtain⟨lb,uj,e1⟩:=kK;obtain⟨fn,tmps,assign,body,F4,F5⟩:=hs σ w (args.toList.map a.eval) lb hk qf uj;have hex:(execOp a.eval ⟨dst,.call ⟨.value fo,args,argTypes⟩,type,pos,after,guard⟩).run P w=(Instr.yield lb (args.toList.map a.eval).toArray).run P w:=by
       have e2:execOp a.eval ⟨dst,.call ⟨.value fo,args,argTypes⟩,type,pos,after,guard⟩=(do let d ← Deferred.ofValue (a.eval fo) (args.map a.eval);invoke d.target d.args):=rfl;rw[e2,e1];show (Instr.yield lb (#[]++args.map a.eval)).run P w=_
       congr 2
       apply Array.ext';simp
      refine jS (fun _ e=>by cases e) ?_;rw[hex,F4];refine⟨fun hh=>by simp[dD,Fence.wide]at hh,Q5 (F5.mono fun e x q=>?_)⟩;cases e with
      |returned V=>
       obtain⟨τ,v,g,ny,q1,q2,q3⟩:=q;obtain⟨tm',k1,k2⟩:=qF (a:=a) (s:=.mk tm g ny ds) q3 (ht.mono q2.le) q1;exact hK τ tm' _ x g ny k1 q2 k2
      |panicked ch=>exact q.elim
      |outgrown=>exact q.elim
    rename_i fid first cap
    cases hl:cZ c.G tm args.toList with
    |none=>rw[hl]at hs;exact hs.elim
    |some l=>
     rw[hl]at hs;simp only at hs;have qf:=tB hk ht.tm hl;simp only[av]at kK;obtain⟨F,C,e1,r1,r2⟩:=kK;have fD:=hs σ w (F++(args.toList.map a.eval++C)) hk (r1.append (qf.append r2));have hex:(execOp a.eval ⟨dst,.call ⟨.value fo,args,argTypes⟩,type,pos,after,guard⟩).run P w=(callFunc fid (F++(args.toList.map a.eval++C)).toArray).run P w:=by
      have e2:execOp a.eval ⟨dst,.call ⟨.value fo,args,argTypes⟩,type,pos,after,guard⟩=(do let d ← Deferred.ofValue (a.eval fo) (args.map a.eval);invoke d.target d.args):=rfl;rw[e2,e1];show (callFunc fid (F.toArray++args.map a.eval++C.toArray)).run P w=_
      congr 2
      apply Array.ext';simp
     refine jS (fun _ e=>by cases e) ?_;rw[hex];unfold CR at fD;cases aO:(callFunc fid (F++(args.toList.map a.eval++C)).toArray).run P w with
     |halt hh w'=>rw[aO]at fD;exact fD.elim
     |ok AG w'=>
      rw[aO]at fD;cases AG <;> try exact fD.elim
      ·rename_i V;obtain⟨τ,v,g,ny,q1,q2,q3⟩:=fD;obtain⟨tm',k1,k2⟩:=qF (a:=a) (s:=.mk tm g ny ds) q3 (ht.mono q2.le) q1;exact hK τ tm' _ _ g ny k1 q2 k2
      ·rename_i f' A';refine⟨fun hh=>by simp[dD,Fence.wide]at hh,GZ (Calls.mono fD fun e x q=>?_)⟩;cases e with
       |returned V=>
        obtain⟨τ,v,g,ny,q1,q2,q3⟩:=q;obtain⟨tm',k1,k2⟩:=qF (a:=a) (s:=.mk tm g ny ds) q3 (ht.mono q2.le) q1;exact hK τ tm' _ x g ny k1 q2 k2
       |panicked ch=>exact q.elim
       |outgrown=>exact q.elim
def Yk (c:Cx) (sz:Nat)(dst:Option Tmp)(t:TypeId)(x:Operand)(tm:Tr AV)(h:Tr ABlk) (nx:Nat)(ds:List DE)(K:AS→Prop):Prop:=
 ∃m es cl k e q1 q2 q3 q4,aM c.G tm x=some (.map m)∧h.get m=some (.map es cl)∧c.tt.get t=some (.mk (.map k e) q1 q2 q3 q4)∧cT sz dst (.ptr nx 0) (.mk tm (h.put nx (some (.miter m cl [] cl))) (nx+1) ds) K
def WL (c:Cx) (sz:Nat)(dst:Option Tmp)(x:Operand)(tm:Tr AV)(h:Tr ABlk) (nx:Nat)(ds:List DE)(K:AS→Prop):Prop:=
 ∃it m since seen st es cl,aM c.G tm x=some (.ptr it 0)∧h.get it=some (.miter m since seen st)∧h.get m=some (.map es cl)∧(∀e∈es,e.2.2<since)∧since≤st∧
  ((∀e∈es,e.2.2∈seen)→cT sz dst (.tup [.bool false]) (.mk tm h nx ds) K)∧
  (∀e∈es,¬e.2.2∈seen→cT sz dst (.tup [.bool true,e.1,e.2.1]) (.mk tm (h.put it (some (.miter m since (seen++[e.2.2]) cl))) nx ds) K)
def X1 (c:Cx) (sz:Nat)(dst:Option Tmp)(x:Operand)(tm:Tr AV)(h:Tr ABlk) (nx:Nat)(ds:List DE)(K:AS→Prop):Prop:=
 ∃it m since seen es cl e,aM c.G tm x=some (.ptr it 0)∧h.get it=some (.miter m since (seen++[e.2.2]) cl)∧h.get m=some (.map es cl)∧e∈es∧(es.map (fun e=>e.2.2)).Nodup∧cT sz dst (.tup [e.1,e.2.1]) (.mk tm h nx ds) K
def sX (P:Program)(c:Cx) (sz:Nat)(op:Op)(dst:Option Tmp)(tm:Tr AV)(h:Tr ABlk) (nx:Nat)(ds:List DE)(K:AS→Prop):Prop:=
 match op with
 |.range t x=>Yk c sz dst t x tm h nx ds K
 |.next x b=>match b with
  |true=>False
  |false=>WL c sz dst x tm h nx ds K
 |.entry x=>X1 c sz dst x tm h nx ds K
 |.lookup t x k ok=>dp sz dst tm ds K (match uU c t with |true=>Dj c t ok (aM c.G tm x) (aM c.G tm k) h nx |false=>gU c (.lookup t x k ok) tm h nx)
 |.mapUpdate t x k v=>dp sz dst tm ds K (match uU c t with |true=>Df c t (aM c.G tm x) (aM c.G tm k) (aM c.G tm v) h nx |false=>gU c (.mapUpdate t x k v) tm h nx)
 |op=>match kA op with
  |some (f,args)=>tA P c sz dst tm h nx ds K (aM c.G tm f) (cZ c.G tm args.toList)
  |none=>dp sz dst tm ds K (gU c op tm h nx)
def cz (P:Program)(c:Cx) (sz:Nat)(ops:List Oper)(o:Oper)(K:AS→Prop)(s:AS):Prop:=
 match s with
 |.mk tm h nx ds=>match fY ops tm o with
  |none=>False
  |some false=>cT sz o.dst (.tup []) (.mk tm h nx ds) K
  |some true=>sX P c sz o.op o.dst tm h nx ds K
def gw (P:Program)(c:Cx) (sz:Nat)(ops:List Oper)(K:AS→Prop):List Oper→AS→Prop
 |[]=>K
 |o::l=>cz P c sz ops o (gw P c sz ops K l)
theorem di.toL {σ:Sg}:∀{l:List (AV×AV×Nat)}{E:List MapEntry},di σ l E→E.map (·.born)=l.map (fun e=>e.2.2)∧(∀X∈E,∃e∈l,X.born=e.2.2∧av σ e.1 X.key∧av σ e.2.1 X.val)∧∀e∈l,∃X∈E,X.born=e.2.2∧av σ e.1 X.key∧av σ e.2.1 X.val
 |[],E,h=>by
  have:E=[]:=h;subst this;exact⟨rfl,(fun X hX=>by cases hX),(fun e he=>by cases he)⟩
 |(k,v,n)::l,E,h=>by
  obtain⟨K,V,E',e,h1,h2,h3⟩:=h;subst e;obtain⟨q1,q2,q3⟩:=h3.toL;refine⟨by simp[q1],fun X hX=>?_,fun e he=>?_⟩
  ·rcases List.mem_cons.1 hX with h4 |h4
   ·subst h4;exact⟨(k,v,n),ao,rfl,h1,h2⟩
   ·obtain⟨e,e1,e2⟩:=q2 X h4;exact⟨e,ak _ e1,e2⟩
  ·rcases List.mem_cons.1 he with h4 |h4
   ·subst h4;exact⟨⟨K,V,n⟩,ao,rfl,h1,h2⟩
   ·obtain⟨X,e1,e2⟩:=q3 e h4;exact⟨X,ak _ e1,e2⟩
theorem Ok.mapB {G:Gl}(hk:Ok G σ h nx w){m es cl}(hm:h.get m=some (.map es cl)):∃b E,σ.blk m=some b∧w.heap[b]?=some (.map (List.toArray E) cl)∧di σ es E:=by
 obtain⟨b,o,hb,ho,hr⟩:=hk.blk m _ hm;simp only[bX]at hr;obtain⟨E,e,h1⟩:=hr;subst e;exact⟨b,E,hb,ho,h1⟩
theorem Ok.iterB {G:Gl}(hk:Ok G σ h nx w){it m since seen st}(hm:h.get it=some (.miter m since seen st)):∃r b,σ.blk it=some r∧σ.blk m=some b∧w.heap[r]?=some (.mapIter (some b) since seen.toArray st):=by
 obtain⟨r,o,hb,ho,hr⟩:=hk.blk it _ hm;simp only[bX]at hr;obtain⟨b,h1,e⟩:=hr;subst e;exact⟨r,b,hb,h1,ho⟩
theorem Jh (hc:CxOk P c){ops:Array Oper}{o:Oper}{K:AS→Prop}{s:AS}(hs:cz P c sz ops.toList o K s){r:Option Nat}(hk:Ok c.G σ s.h s.nx w)(ht:St σ s.tm a sz s.ds)(Q:Exit→Act→World→Prop)(L:Act→World→Prop)
  (hK:∀τ ba V w1 h1 sW,K (.mk ba h1 sW s.ds)→Post c.G σ s.h s.nx w τ h1 sW w1→St τ ba (a.put o.dst V) sz s.ds→L (a.put o.dst V) w1):
  if Region.wanted o (yielded ops a.tmps) then o.wpIn (dD r) 0 P a w L Q else (∀f,o.about P w a.eval=some f→(dD r).fn f)∧L (a.put o.dst undef) w:=by
 cases s with
 |mk tm h nx ds=>
 have pre:(sX P c sz o.op o.dst tm h nx ds K→o.wpIn (dD r) 0 P a w L Q)→if Region.wanted o (yielded ops a.tmps) then o.wpIn (dD r) 0 P a w L Q else (∀f,o.about P w a.eval=some f→(dD r).fn f)∧L (a.put o.dst undef) w:=by
  intro hp;simp only[AS.h,AS.nx,AS.tm,AS.ds]at hk ht hK;unfold cz at hs;simp only at hs;cases hw:fY ops.toList tm o with
  |none=>rw[hw]at hs;exact hs.elim
  |some b=>
  rw[yE ht.tm hw];rw[hw]at hs;cases b with
  |false=>
   simp only[Bool.false_eq_true,if_false];obtain⟨tm',e1,e2⟩:=qF (a:=a) (s:=.mk tm h nx ds) hs ht uR;exact⟨fun _ _=>trivial,hK σ tm' _ w h nx e1 (.refl hk) e2⟩
  |true=>
   simp only[if_true];exact hp hs
 simp only[AS.h,AS.nx,AS.tm,AS.ds]at hk ht hK;obtain⟨dst,op,type,pos,after,guard⟩:=o;cases op <;> try exact PD hc (s:=.mk tm h nx ds) hs hk ht Q L hK
 case lookup t x kk ok=>
  cases Fs:uU c t with
  |false=>
   refine PD hc (s:=.mk tm h nx ds) ?_ hk ht Q L hK;unfold cz sX at hs;simp only[Fs]at hs;exact hs
  |true=>
   refine pre fun hs=>?_;unfold sX at hs;simp only[Fs]at hs;have hp:=zGe hc hk t ok (fun v e=>jT hk ht.tm e) (fun v e=>jT hk ht.tm e) (m:=aM c.G tm x) (k:=aM c.G tm kk) (M:=a.eval x) (K:=a.eval kk);refine jS (fun _ e=>by cases e) ?_;have hex:(execOp a.eval ⟨dst,.lookup t x kk ok,type,pos,after,guard⟩).run P w=((Instr.lookup t (a.eval x) (a.eval kk) ok).run P w).andThen fun v w'=>.ok (.value v) w':=by
    show (do pure (.value (← Instr.lookup t (a.eval x) (a.eval kk) ok)):Sem Next).run P w=_;simp only[Sem.run_bind,Sem.run_pure]
   rw[hex];cases hv:Dj c t ok (aM c.G tm x) (aM c.G tm kk) h nx with
   |fail=>rw[hv]at hs;exact hs.elim
   |unit g ny=>rw[hv]at hp;exact hp.elim
   |val v g ny=>
    rw[hv]at hs hp;obtain⟨V,τ,x,h1,h2,h3⟩:=hp;obtain⟨tm',e1,e2⟩:=qF (a:=a) (s:=.mk tm g ny ds) hs (ht.mono h3.le) h2;rw[h1];exact hK τ tm' _ x g ny e1 h3 e2
 case mapUpdate t x kk vv=>
  cases Fs:uU c t with
  |false=>
   refine PD hc (s:=.mk tm h nx ds) ?_ hk ht Q L hK;unfold cz sX at hs;simp only[Fs]at hs;exact hs
  |true=>
   refine pre fun hs=>?_;unfold sX at hs;simp only[Fs]at hs;have hp:=zIu hc hk t (fun v e=>jT hk ht.tm e) (fun v e=>jT hk ht.tm e) (fun v e=>jT hk ht.tm e) (m:=aM c.G tm x) (k:=aM c.G tm kk) (v:=aM c.G tm vv) (M:=a.eval x) (K:=a.eval kk) (V:=a.eval vv);refine jS (fun _ e=>by cases e) ?_;have hex:(execOp a.eval ⟨dst,.mapUpdate t x kk vv,type,pos,after,guard⟩).run P w=((Instr.mapUpdate t (a.eval x) (a.eval kk) (a.eval vv)).run P w).andThen fun _ w'=>.ok .skip w':=by
    show (do Instr.mapUpdate t (a.eval x) (a.eval kk) (a.eval vv);pure .skip:Sem Next).run P w=_;simp only[Sem.run_bind,Sem.run_pure]
   rw[hex];cases hv:Df c t (aM c.G tm x) (aM c.G tm kk) (aM c.G tm vv) h nx with
   |fail=>rw[hv]at hs;exact hs.elim
   |val v g ny=>rw[hv]at hp;exact hp.elim
   |unit g ny=>
    rw[hv]at hs hp;obtain⟨τ,x,h1,h3⟩:=hp;obtain⟨tm',e1,e2⟩:=qF (a:=a) (s:=.mk tm g ny ds) hs (ht.mono h3.le) uR;rw[h1];exact hK τ tm' _ x g ny e1 h3 e2
 case range t x=>
  refine pre fun hs=>?_;obtain⟨m,es,cl,k,e,q1,q2,q3,q4,e1,e2,e3,e4⟩:=hs;have hx:=jT hk ht.tm e1;simp only[av]at hx;obtain⟨b,hb,ex⟩:=hx;obtain⟨b',E,aS,ho,hE⟩:=hk.mapB e2;rw[hb]at aS;cases aS;have hu:P.underlying t=some (.map k e):=(hc.tt t _ e3).1;have pa:=Post.alloc hk 0 (.miter m cl [] cl) (.mapIter (some b) cl #[] cl) (by
   simp only[bX];refine⟨b,?_,rfl⟩;have:m≠nx:=by have:=hk.lt e2;omega
   simp[Sg.add,this,hb])
  have hv:av (σ.add nx w.heap.size 0) (.ptr nx 0) (.pointer (some ⟨w.heap.size,0,none⟩)):=by
   simp only[av];exact⟨w.heap.size,by simp[Sg.add],rfl⟩
  obtain⟨tm',k1,k2⟩:=qF (a:=a) e4 (ht.mono pa.le) hv;refine jS (fun _ e=>by cases e) ?_;have aO:(execOp a.eval ⟨dst,.range t x,type,pos,after,guard⟩).run P w=.ok (.value (.pointer (some ⟨w.heap.size,0,none⟩))) (w.alloc (.mapIter (some b) cl #[] cl)):=by
   show (do pure (.value (← Instr.range t (a.eval x))):Sem Next).run P w=_;rw[ex];simp[run_range_map w t k e b E.toArray cl hu ho]
  rw[aO];exact hK _ tm' _ _ _ _ k1 pa k2
 case next x isS=>
  refine pre fun hs=>?_;cases isS with
  |true=>exact hs.elim
  |false=>
  obtain⟨it,m,since,seen,st,es,cl,e1,e2,e3,e4,e5,e6,e7⟩:=hs;have hx:=jT hk ht.tm e1;simp only[av]at hx;obtain⟨r,hr,ex⟩:=hx;obtain⟨r',b,Ap,hb,ho⟩:=hk.iterB e2;rw[hr]at Ap;cases Ap;obtain⟨b',E,aS,Co,hE⟩:=hk.mapB e3;rw[hb]at aS;cases aS;obtain⟨t1,t2,t3⟩:=hE.toL;have hold:∀X∈E.toArray.toList,X.born<since:=fun X hX=>by
   obtain⟨e,q1,q2,_⟩:=t2 X (by simpa using hX);rw[q2];exact e4 e q1
  refine jS (fun _ e=>by cases e) ?_;have hex:(execOp a.eval ⟨dst,.next x false,type,pos,after,guard⟩).run P w=((Instr.next (.pointer (some ⟨r,0,none⟩)) false type).run P w).andThen fun v w'=>.ok (.value v) w':=by
   show (do pure (.value (← Instr.next (a.eval x) false type)):Sem Next).run P w=_;rw[ex];simp only[Sem.run_bind,Sem.run_pure]
  rw[hex]
  rcases run_next_at (P:=P) w type r b since st seen.toArray E.toArray cl ho Co hold e5 with⟨h1,h2⟩ |⟨X,hX,w1,lL,h2⟩
  ·have aR:∀e∈es,e.2.2∈seen:=by
    intro e he;obtain⟨X,x1,x2,_⟩:=t3 e he;have:leftOf E.toArray seen.toArray=#[]:=Array.eq_empty_of_size_eq_zero h1;unfold leftOf at this;rw[Array.filter_eq_empty_iff]at this;have:=this X (by simpa using x1);simpa[x2]using this
   rw[h2];obtain⟨tm',k1,k2⟩:=qF (a:=a) (V:=.tuple #[.bool false]) (e6 aR) ht (by simp only[av];exact⟨[.bool false],rfl,by simp only[aC,av];exact⟨_,[],rfl,rfl,rfl⟩⟩);exact hK _ tm' _ _ _ _ k1 (.refl hk) k2
  ·have T6:X∈E∧¬X.born∈seen:=by
    unfold leftOf at hX;simpa using hX
   obtain⟨e,q1,q2,q3,q4⟩:=t2 X T6.1;have ot:¬e.2.2∈seen:=by rw[← q2];exact T6.2
   have p1:Post c.G σ h nx w σ h nx w1:=by
    rcases lL with h3 |h3
    ·rw[h3];exact .refl hk
    ·rw[h3];exact Post.drawn hk _
   have hh:w1.heap=w.heap:=by
    rcases lL with h3 |h3
    ·rw[h3]
    ·rw[h3];rfl
   have p2:=Post.set p1.ok e2 hr (.miter m since (seen++[e.2.2]) cl) (.mapIter (some b) since (seen.toArray.push X.born) cl) (by
    simp only[bX];exact⟨b,hb,by rw[q2];simp⟩)
   rw[h2];have hv:av σ (.tup [.bool true,e.1,e.2.1]) (.tuple #[.bool true,X.key,X.val]):=by
    simp only[av];exact⟨[.bool true,X.key,X.val],rfl,by simp only[aC,av];exact⟨_,_,rfl,rfl,_,_,rfl,q3,_,_,rfl,q4,rfl⟩⟩
   obtain⟨tm',k1,k2⟩:=qF (a:=a) (e7 e q1 ot) ht hv;exact hK _ tm' _ _ _ _ k1 (p1.trans p2) k2
 case entry x=>
  refine pre fun hs=>?_;obtain⟨it,m,since,seen,es,cl,e,e1,e2,e3,e4,e5,e6⟩:=hs;have hx:=jT hk ht.tm e1;simp only[av]at hx;obtain⟨r,hr,ex⟩:=hx;obtain⟨r',b,Ap,hb,ho⟩:=hk.iterB e2;rw[hr]at Ap;cases Ap;obtain⟨b',E,aS,Co,hE⟩:=hk.mapB e3;rw[hb]at aS;cases aS;obtain⟨t1,t2,t3⟩:=hE.toL;obtain⟨X,x1,x2,x3,x4⟩:=t3 e e4;refine jS (fun _ e=>by cases e) ?_;have aO:=run_entry_at (P:=P) w r b since seen.toArray E.toArray cl X (by rw[x2];simpa using ho) Co (by simpa using x1) (by simpa[t1]using e5);have hex:(execOp a.eval ⟨dst,.entry x,type,pos,after,guard⟩).run P w=.ok (.value (.tuple #[X.key,X.val])) w:=by
   show (do pure (.value (← Instr.entry (a.eval x))):Sem Next).run P w=_;rw[ex];simp[aO]
  rw[hex];have hv:av σ (.tup [e.1,e.2.1]) (.tuple #[X.key,X.val]):=by
   simp only[av];exact⟨[X.key,X.val],rfl,by simp only[aC];exact⟨_,_,rfl,x3,_,_,rfl,x4,rfl⟩⟩
  obtain⟨tm',k1,k2⟩:=qF (a:=a) e6 ht hv;exact hK _ tm' _ _ _ _ k1 (.refl hk) k2
theorem X6 (hc:CxOk P c){ops:Array Oper}{K:AS→Prop}{r:Option Nat}{Q:AX→AS→Prop}(TM:∀s,K s→Q .norm s)(Q0:Exit→Act→World→Prop):∀(l:List Oper){s:AS},gw P c sz ops.toList K l s→∀{σ:Sg}{a:Act}{w:World},Ok c.G σ s.h s.nx w→St σ s.tm a sz s.ds→
  (∀e a' w',AQ c.G σ s.h s.nx w sz Q e a' w'→Q0 e a' w')→wpListIn (dD r) 0 P ops Q0 l a w
 |[],s,hs,σ,a,w,ok,st,hq=>hq _ _ _ (AQ.mk (k:=.norm) ok st (TM s hs))
 |o::l,s,hs,σ,a,w,ok,st,hq=>by
  unfold wpListIn;refine Jh hc (K:=gw P c sz ops.toList K l) hs ok st _ _ fun τ ba a1 w1 h1 sW k1 p1 s1=>?_;exact X6 hc TM Q0 l (s:=.mk ba h1 sW s.ds) k1 p1.ok s1 fun e a' w' q=>hq e a' w' (q.trans p1)
def aw (P:Program)(c:Cx)(inr:Bool) (sz:Nat):Code→(AX→AS→Prop)→AS→Prop
 |.skip,Q,s=>Q .norm s
 |.label _,Q,s=>Q .norm s
 |.region id ops draw,Q,s=>match draw with
  |false=>gw P c sz ops.toList (Q .norm) ops.toList s
  |true=>AW P c inr sz (.region id ops true) Q s
 |.seq a b,Q,s=>aw P c inr sz a (xm (aw P c inr sz b Q) Q) s
 |.cond x a b,Q,s=>match aM c.G s.tm x with
  |some (.bool t)=>(t=true→aw P c inr sz a Q s)∧(t=false→aw P c inr sz b Q s)
  |_=>False
 |.block id a,Q,s=>aw P c inr sz a (wE id Q) s
 |.loop a,Q,s=>AW P c inr sz (.loop a) Q s
 |.rangeFunc f ps x y,Q,s=>AW P c inr sz (.rangeFunc f ps x y) Q s
 |.exit id,Q,s=>Q (.exit id) s
 |.ret,Q,s=>Q .ret s
 |.scope a,Q,s=>aw P c inr sz a Q s
 |.goto _,_,_=>False
 |.refuse _,_,_=>False
theorem bt (hc:CxOk P c){inr:Bool}:∀(code:Code){Q:AX→AS→Prop}{s:AS},aw P c inr sz code Q s→AW P c inr sz code Q s
 |.skip,Q,s,h=>Xn h
 |.label _,Q,s,h=>WI h
 |.region id ops draw,Q,s,h=>by
  cases draw with
  |true=>exact h
  |false=>exact fun r hi σ a w ok st=>wpIn_region_list (X6 hc (K:=Q .norm) (Q:=Q) (fun s h=>h) _ ops.toList h ok st fun _ _ _ q=>q)
 |.seq a b,Q,s,h=>RP ((bt hc a h).mono fun k s q=>by
   cases k with
   |norm=>exact bt hc b q
   |exit id=>exact q
   |ret=>exact q)
 |.cond x a b,Q,s,h=>by
  unfold aw at h;split at h
  ·rename_i t ht;exact QA ht (fun e=>bt hc a (h.1 e)) (fun e=>bt hc b (h.2 e))
  ·exact h.elim
 |.block id a,Q,s,h=>WY (bt hc a h)
 |.loop a,Q,s,h=>h
 |.rangeFunc f ps x y,Q,s,h=>h
 |.exit id,Q,s,h=>Yy h
 |.ret,Q,s,h=>Xc h
 |.scope a,Q,s,h=>WN (bt hc a h)
 |.goto _,Q,s,h=>h.elim
 |.refuse _,Q,s,h=>h.elim
def Hs (c:Cx)(tm:Tr AV)(h:Tr ABlk) (nx:Nat)(r:ResultVar):Option AV:=
 match r with
 |.tmp t=>tm.get t
 |.cell a t=>match tm.get a with
  |some p=>match c.tt.get t with
   |some ti=>match jm ti p h nx with
    |.val v _ _=>some v
    |_=>none
   |none=>none
  |none=>none
def iU (c:Cx)(tm:Tr AV)(h:Tr ABlk) (nx:Nat):List ResultVar→Option (List AV)
 |[]=>some []
 |r::l=>match Hs c tm h nx r with
  |some v=>match iU c tm h nx l with
   |some l=>some (v::l)
   |none=>none
  |none=>none
def po (l:List AV):AV:=match l with |[v]=>v |l=>.tup l
def Qc (tmps:Array Value):ResultVar→Sem Value
 |.tmp t=>pure (tmps.getD t undef)
 |.cell a t=>do loadVar t (← asAddr (tmps.getD a undef))
theorem zIa (fn:Func)(tmps:Array Value):results fn tmps=(do let vs ← fn.results.mapM (Qc tmps);pure (if h:vs.size=1 then vs[0] else .tuple vs)):=rfl
theorem zQn (hc:CxOk P c)(hk:Ok c.G σ h nx w)(ht:jQ σ tm a){rv:ResultVar}{v:AV}(he:Hs c tm h nx rv=some v):
  ∃V,(Qc a.tmps rv).run P w=.ok V w∧av σ v V:=by
 unfold Hs at he;cases rv with
 |tmp t=>exact⟨_,rfl,ht t v he⟩
 |cell b t=>
  simp only at he;cases hp:tm.get b with
  |none=>rw[hp]at he;cases he
  |some p=>
   rw[hp]at he;simp only at he;cases Ob:c.tt.get t with
   |none=>rw[Ob]at he;cases he
   |some ti=>
    rw[Ob]at he;simp only at he;have iF:=ht b p hp;have hl:=Z0 hk t (hc.tt t ti Ob) iF;cases FA:jm ti p h nx with
    |fail=>rw[FA]at he;cases he
    |unit _ _=>rw[FA]at he;cases he
    |val v' g ny=>
     rw[FA]at he hl;cases he;obtain⟨_,_,V,h1,h2⟩:=hl;have hex:∃q,a.tmps.getD b undef=.pointer (some q):=by
      cases p <;> try (exfalso;unfold jm at FA;cases ti;cases FA;done)
      ·simp only[av]at iF;obtain⟨bb,hb,e⟩:=iF;exact⟨_,e⟩
      ·simp only[av]at iF;obtain⟨bb,_,_,_,e,_⟩:=iF;exact⟨_,e⟩
     obtain⟨q,e⟩:=hex;rw[e]at h1;refine⟨V,?_,h2⟩;show (do loadVar t (← asAddr (a.tmps.getD b undef)):Sem Value).run P w=_;rw[e];simpa[Instr.loadAt,Instr.sureAddr,asAddr]using h1
theorem XV (hc:CxOk P c)(hk:Ok c.G σ h nx w)(ht:jQ σ tm a):∀{l:List ResultVar}{vs:List AV},iU c tm h nx l=some vs→
  ∃VS,(l.mapM (Qc a.tmps)).run P w=.ok VS w∧aC σ vs VS
 |[],vs,e=>by cases e;exact⟨[],by simp,by simp only[aC]⟩
 |rv::l,vs,e=>by
  simp only[iU]at e;cases h1:Hs c tm h nx rv with
  |none=>rw[h1]at e;cases e
  |some v=>
   rw[h1]at e;cases h2:iU c tm h nx l with
   |none=>rw[h2]at e;cases e
   |some l'=>
    rw[h2]at e;cases e;obtain⟨V,r1,r2⟩:=zQn hc hk ht h1;obtain⟨VS,r3,r4⟩:=XV hc hk ht h2;refine⟨V::VS,?_,by simp only[aC];exact⟨V,VS,rfl,r2,r4⟩⟩;rw[List.mapM_cons,Sem.run_bind,r1];simp only[Result.andThen,Sem.run_bind,r3,Sem.run_pure]
theorem zz4 (hc:CxOk P c)(hk:Ok c.G σ h nx w)(ht:jQ σ tm a){fn:Func}{vs:List AV}(he:iU c tm h nx fn.results.toList=some vs):∃V,(results fn a.tmps).run P w=.ok V w∧av σ (po vs) V:=by
 obtain⟨VS,h1,h2⟩:=XV hc hk ht he;have h3:(results fn a.tmps).run P w=.ok (if h:VS.toArray.size=1 then VS.toArray[0] else .tuple VS.toArray) w:=by
  rw[zIa,Array.mapM_eq_mapM_toList];simp only[Sem.run_bind,Sem.run_map,h1];rfl
 refine⟨_,h3,?_⟩;unfold po;split
 ·rename_i v;simp only[aC]at h2;obtain⟨V,L,e1,e2,e3⟩:=h2;subst e3;subst e1;simpa using e2
 ·rename_i aQ;have:VS.toArray.size≠1:=by
   intro e;have hl:vs.length=1:=by rw[← h2.length];simpa using e
   match vs,hl with
   |[v],_=>exact aQ v rfl
  rw[dif_neg this];simp only[av];exact⟨VS,rfl,h2⟩
def ry (h:Tr ABlk):List DE→Tr ABlk
 |[]=>h
 |.mark i::ds=>ry (h.put i none) ds
 |.fn _ _ _::ds=>ry h ds
def Bh (h:Tr ABlk):List DE→Prop
 |[]=>True
 |.mark i::ds=>h.get i=some .dfr∧Bh (h.put i none) ds
 |.fn _ _ _::_=>False
def Bu (c:Cx)(rs:List ResultVar)(R:AV→Tr ABlk→Nat→Prop)(s:AS):Prop:=
 match s with
 |.mk tm h nx ds=>Bh h ds∧match iU c tm (ry h ds) nx rs with
  |some l=>R (po l) (ry h ds) nx
  |none=>False
def yn (c:Cx)(rs:List ResultVar)(R:AV→Tr ABlk→Nat→Prop):AX→AS→Prop
 |.norm,s=>Bu c rs R s
 |.ret,s=>Bu c rs R s
 |.exit _,_=>False
theorem Post.kill {G:Gl}(hk:Ok G σ h nx w){i b:Nat}{B:ABlk}(hi:h.get i=some B)(hb:σ.blk i=some b)(o:Obj):Post G σ h nx w σ (h.put i none) nx (w.putObj b o):=by
 have hs:∀j B',(h.put i none).get j=some B'→j≠i∧h.get j=some B':=by
  intro j B' hj;rw[Tr.get_put]at hj;split at hj
  ·cases hj
  ·exact⟨by assumption,hj⟩
 have aF:∀k,k≠b→(w.putObj b o).heap[k]?=w.heap[k]?:=fun k aU=>World.putObj_heap_other aU;refine⟨⟨hk.glob,hk.le,hk.fresh,fun a c d B1 B2 h1 h2=>hk.inj a c d B1 B2 (hs _ _ h1).2 (hs _ _ h2).2,fun a B1 h1=>?_,fun d C hd=>⟨?_,fun a B1 h1=>(hk.imm d C hd).2 a B1 (hs _ _ h1).2⟩,hk.gl⟩,.refl σ,⟨rfl,rfl,rfl,by simp,fun d hd hn=>aF d fun e=>hn i B hi (e ▸ hb),fun a B1 d h1 h2=>.inr ⟨a,B1,(hs _ _ h1).2,h2⟩,fun _ _ h=>.inl h⟩,ae _⟩
 ·obtain⟨n1,n2⟩:=hs a B1 h1;obtain⟨b',o',aS,ho,hr⟩:=hk.blk a B1 n2;refine⟨b',o',aS,?_,hr⟩;rw[aF b' fun e=>n1 (hk.inj a i b B1 B n2 hi (e ▸ aS) hb)];exact ho
 ·obtain⟨⟨t,fr,h1⟩,h2⟩:=hk.imm d C hd;refine⟨t,fr,?_⟩;rw[aF d fun e=>h2 i B hi (e ▸ hb)];exact h1
theorem XC {fn:Func}{tmps:Array Value}{RR:Ending→World→Prop}{G:Gl}:∀{ds:List DE}{D:List Deferred}{h:Tr ABlk}{w:World}{σ:Sg},Ok G σ h nx w→yR σ ds D→Bh h ds→
  (∀x,Post G σ h nx w σ (ry h ds) nx x→∃v,(results fn tmps).run P x=.ok v x∧RR (.returned v) x)→LeavesInM Fence.wide 0 P fn tmps RR D .returning w
 |[],D,h,w,σ,ok,hD,_,hf=>by
  have e:D=[]:=hD;subst e;exact hf w (.refl ok)
 |.fn _ _ _::_,D,h,w,σ,ok,hD,hm,hf=>hm.elim
 |.mark i::ds,D,h,w,σ,ok,hD,hm,hf=>by
  obtain⟨b,D',e,hb,hD'⟩:=hD;subst e;obtain⟨b',o,aS,ho,hr⟩:=ok.blk i _ hm.1;rw[hb]at aS;cases aS;simp only[bX]at hr;subst hr;refine⟨by simp,.inl ⟨b,_,rfl,run_takeDeferred ho,?_⟩⟩;have pk:=Post.kill ok hm.1 hb (.deferred none);exact XC pk.ok hD' hm.2 fun x px=>hf x (pk.trans px)
theorem zyc (hc:CxOk P c){f:FuncId}{fn:Func}(cA:c.ft.get f=some fn){code:Code}(hb:fn.body=some code){args:List AV}(hle:args.length≤fn.ntmps){R:AV→Tr ABlk→Nat→Prop}
  (hw:AW P c false fn.ntmps code (yn c fn.results.toList R) (.mk (ef args .nil 0) h nx [])):aN P c f args h nx R:=by
 intro σ w A hk hA;obtain⟨hf,bg⟩:=hc.ft f fn cA;unfold CR;rw[bg];simp only;have Tv:A.length=args.length:=hA.length;have aW:St σ (ef args .nil 0) { tmps:=A.toArray++Array.replicate (fn.ntmps-A.toArray.size) undef,defers:=[] } fn.ntmps []:=by
  refine⟨fun t u e=>?_,by simp;omega,rfl⟩;rw[pz]at e
  by_cases h1:0≤t∧t<0+args.length
  ·rw[if_pos h1,Nat.sub_zero]at e;obtain⟨U,e1,e2⟩:=hA.get e;have ht:t<A.length:=by omega
   rw[aa ht]at e1;cases e1;simp only[Array.getD_eq_getD_getElem?];rw[Array.getElem?_append_left (by simpa using ht)];simpa[ht]using e2
  ·rw[if_neg h1]at e;cases e
 refine callsIn_wide.1 (callsIn_of_wp_marks (F:=Fence.wide) (n:=0) hf hb trivial (wpIn_mono (hw none (fun _=>rfl) σ _ w hk aW) fun e a' w' q=>?_));obtain⟨k,tm,g,ny,ds,τ,e1,q1,q2,q3⟩:=q;have fin:Bu c fn.results.toList R (.mk tm g ny ds)→LeavesInM Fence.wide 0 P fn a'.tmps (fun e x=>match e with |.returned v=>∃τ v' g ny,av τ v' v∧Post c.G σ h nx w τ g ny x∧R v' g ny |_=>False) a'.defers .returning w':=by
  intro q3;obtain⟨e2,q4⟩:=q3;refine XC q1.ok q2.defers e2 fun x px=>?_;cases aH:iU c tm (ry g ds) ny fn.results.toList with
  |none=>rw[aH]at q4;exact q4.elim
  |some vs=>
   rw[aH]at q4;obtain⟨V,r1,r2⟩:=zz4 hc px.ok q2.tm aH;exact⟨V,r1,τ,po vs,ry g ds,ny,r2,q1.trans px,q4⟩
 cases k with
 |norm=>subst e1;exact fin q3
 |ret=>subst e1;exact fin q3
 |exit id=>exact q3.elim
theorem aV (hc:CxOk P c){f:FuncId}{fn:Func}(cA:c.ft.get f=some fn){code:Code}{sz:Nat}{rs:List ResultVar}(hb:fn.body=some code)(hs:fn.ntmps=sz)(hr:fn.results.toList=rs){args:List AV}(hle:args.length≤sz){R:AV→Tr ABlk→Nat→Prop}
  (hw:aw P c false sz code (yn c rs R) (.mk (ef args .nil 0) h nx [])):aN P c f args h nx R:=by
 subst hs;subst hr;exact zyc hc cA hb hle (bt hc _ hw)
end
end Go.Ev
