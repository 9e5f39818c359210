/- Texts DF. -/
import Derived.Test.YtkdnmldmffkkoaaGreatDoorP11
import Derived.Test.YtkdnmldmffkkoaaGreatDoorP15
set_option linter.unusedSimpArgs false
set_option linter.unusedVariables false
set_option maxRecDepth 100000
namespace Go.Ev
noncomputable section
variable {P : Program} {c : Cx} {σ τ υ : Sg} {h h' g f : Tr ABlk} {nx nx' ny nz sz : Nat} {ds : List DE} {w x y : World} {tm tm' : Tr AV} {a : Act} {G : Gl} {r : Option Nat}
def zds (us:Nat→AV):List (Nat×Nat)→Tr AV→Tr AV
 |[],tm=>tm
 |p::fl,tm=>(zds us fl tm).put p.2 (some (us p.1))
def zl5:List (Nat×Nat)→Tr AV→Tr AV
 |[],tm=>tm
 |p::fl,tm=>(zl5 fl tm).put p.2 none
def zEm (us:Nat→AV)(fl:List (Nat×Nat)):AS→AS
 |.mk tm h nx ds=>.mk (zds us fl tm) h nx ds
def zjt (c:Cx)(l:List Oper)(us:Nat→AV)(tmF:Tr AV)(h:Tr ABlk) (nx:Nat):List (Nat×Nat)→Prop
 |[]=>True
 |p::fl=>(match l[p.1]? with
  |some o=>zcp c o.op tmF h nx=.val (us p.1) h nx
  |none=>False)∧zjt c l us tmF h nx fl
def rmF (need pnd:List (Nat×Nat)):List (Nat×Nat):=pnd.filter fun p=>!(need.any fun q=>Nat.beq q.1 p.1)
def zgl (P:Program)(c:Cx) (sz:Nat)(l:List Oper)(us:Nat→AV)(tmF:Tr AV)(K:AS→Prop):List (Nat×List (Nat×Nat))→List (Nat×Nat)→AS→Prop
 |[],pnd,s=>zjt c l us tmF s.h s.nx pnd∧K (zEm us pnd s)
 |q::rest,pnd,s=>zjt c l us tmF s.h s.nx pnd∧match l[q.1]? with
  |some o=>awS P c sz l o (fun s'=>zgl P c sz l us tmF K rest (rmF q.2 pnd) s') (zEm us q.2 s)
  |none=>False
section
variable (P : Program) (c : Cx) (sz : Nat) (l : List Oper) (us : Nat → AV) (tmF : Tr AV) (K : AS → Prop) (pnd need : List (Nat × Nat)) (rest : List (Nat × List (Nat × Nat))) (i : Nat) (tm : Tr AV) (h : Tr ABlk) (nx : Nat) (ds : List DE)
@[go_sem ↓] theorem zVi:zgl P c sz l us tmF K [] pnd (.mk tm h nx ds)=(zjt c l us tmF h nx pnd∧K (.mk (zds us pnd tm) h nx ds)):=rfl
@[go_sem ↓] theorem ycl:zgl P c sz l us tmF K ((i,need)::rest) pnd (.mk tm h nx ds)=(zjt c l us tmF h nx pnd∧match l[i]? with
  |some o=>awS P c sz l o (fun s'=>zgl P c sz l us tmF K rest (rmF need pnd) s') (.mk (zds us need tm) h nx ds)
  |none=>False):=rfl
attribute [go_sem] zjt zds zl5 rmF
end
def inN (k:Nat)(l:List Nat):Bool:=l.any fun j=>Nat.beq j k
def noG (o:Oper):Bool:=match o.guard with |none=>true |some _=>false
def zse (l:List Oper)(ms:List Nat)(fl:List (Nat×Nat))(plan:List (Nat×List (Nat×Nat))):Bool:=
 zbi l (fun o=>noG o && !(zfm o.op)) &&
 zbi (zcr l.length) (fun k=>(inN k (fl.map (·.1)) || inN k (plan.map (·.1))) && (match l[k]? with
  |none=>true
  |some o=>zbi o.after.toList (fun e=>match Region.binds .any e with |true=>Nat.ble (Nat.succ e.on) k |false=>true))) &&
 zbi fl (fun p=>!(inN p.1 (plan.map (·.1))) && (match l[p.1]? with
  |none=>false
  |some o=>(match o.dst with |some d=>Nat.beq d p.2 |none=>false) && zbi (zcr l.length) (fun k=>match l[k]? with
   |none=>true
   |some ok=>(Nat.beq k p.1 || zm2 ok p.2) && zbi o.op.operands.toList (fun x=>match x with
    |.tmp t=>zm2 ok t || (inN k (fl.map (·.1)) && zb1 ms k p.1)
    |_=>true)))) &&
 zbi plan (fun q=>zbi q.2 (fun p=>fl.any (fun p'=>Nat.beq p'.1 p.1 && Nat.beq p'.2 p.2) && zb1 ms p.1 q.1)) &&
 zbi (zcr plan.length) (fun m=>match plan[m]?,plan[m+1]? with
  |some q,some q'=>zb1 ms q.1 q'.1
  |_,_=>true)
structure FloatOk (l:List Oper)(ms:List Nat)(fl:List (Nat×Nat))(plan:List (Nat×List (Nat×Nat))):Prop where
 guard:∀o∈l,o.guard=none∧zfm o.op=false
 all:∀k,k<l.length→(∃d,(k,d)∈fl)∨∃(m:Nat) (q:Nat×List (Nat×Nat)),plan[m]?=some q∧q.1=k
 back:∀k o,l[k]?=some o→∀e∈o.after.toList,Region.binds .any e=true→e.on<k
 sep:∀p∈fl,∀q∈plan,q.1≠p.1
 dst:∀p∈fl,∃o,l[p.1]?=some o∧o.dst=some p.2∧(∀k ok,l[k]?=some ok→k≠p.1→ok.dst≠some p.2)∧∀t,Operand.tmp t∈o.op.operands.toList→∀k ok,l[k]?=some ok→ok.dst=some t→(∃d,(k,d)∈fl)∧zb1 ms k p.1=true
 need:∀q∈plan,∀p∈q.2,p∈fl∧zb1 ms p.1 q.1=true
 ord:∀(m:Nat) (q q':Nat×List (Nat×Nat)),plan[m]?=some q→plan[m+1]?=some q'→zb1 ms q.1 q'.1=true
theorem zpv {k:Nat}{l:List Nat}:inN k l=true↔k∈l:=by
 unfold inN
 rw[List.any_eq_true]
 constructor
 ·rintro⟨j,h1,h2⟩
  rw[← Nat.eq_of_beq_eq_true h2]
  exact h1
 ·intro h
  exact⟨k,h,Nat.beq_refl k⟩
theorem zOk {l:List Oper}{ms:List Nat}{fl:List (Nat×Nat)}{plan:List (Nat×List (Nat×Nat))}(hf:zse l ms fl plan=true):FloatOk l ms fl plan:=by
 unfold zse at hf
 simp only[Bool.and_eq_true]at hf
 obtain⟨⟨⟨⟨h1,h2⟩,h3⟩,h4⟩,h5⟩:=hf
 refine⟨fun o ho=>?_,fun k hk=>?_,fun k o ho e he hb=>?_,fun p hp q hq e=>?_,fun p hp=>?_,fun q hq p hp=>?_,fun m q q' e1 e2=>?_⟩
 ·have:=zbf h1 o ho
  rw[Bool.and_eq_true]at this
  refine⟨?_,by simpa using this.2⟩
  have h:=this.1
  unfold noG at h
  cases hg:o.guard with
  |none=>rfl
  |some _=>rw[hg]at h;cases h
 ·have:=zbf h2 k (List.mem_range.2 hk)
  rw[Bool.and_eq_true,Bool.or_eq_true]at this
  rcases this.1 with e |e
  ·obtain⟨p,hp,rfl⟩:=List.mem_map.1 (zpv.1 e)
   exact .inl ⟨p.2,hp⟩
  ·obtain⟨q,hq,rfl⟩:=List.mem_map.1 (zpv.1 e)
   obtain⟨m,hm,e2⟩:=List.getElem_of_mem hq
   exact .inr ⟨m,q,by rw[List.getElem?_eq_getElem hm,e2],rfl⟩
 ·have hk:k<l.length:=(List.getElem?_eq_some_iff.1 ho).1
  have:=zbf h2 k (List.mem_range.2 hk)
  rw[Bool.and_eq_true]at this
  have h6:=this.2
  rw[ho]at h6
  have:=zbf h6 e he
  rw[hb]at this
  exact Nat.le_of_ble_eq_true this
 ·have:=zbf h3 p hp
  rw[Bool.and_eq_true]at this
  have h6:inN p.1 (plan.map (·.1))=false:=by simpa using this.1
  have:inN p.1 (plan.map (·.1))=true:=zpv.2 (List.mem_map.2 ⟨q,hq,e⟩)
  rw[h6]at this
  cases this
 ·have:=zbf h3 p hp
  rw[Bool.and_eq_true]at this
  have h6:=this.2
  cases ho:l[p.1]? with
  |none=>rw[ho]at h6;cases h6
  |some o=>
   rw[ho]at h6
   simp only[Bool.and_eq_true]at h6
   obtain⟨h7,h8⟩:=h6
   refine⟨o,rfl,?_,fun k ok hk hne=>?_,fun t ht k ok hk hd=>?_⟩
   ·cases hd:o.dst with
    |none=>rw[hd]at h7;cases h7
    |some d=>rw[hd]at h7;rw[Nat.eq_of_beq_eq_true h7]
   ·have hlt:k<l.length:=(List.getElem?_eq_some_iff.1 hk).1
    have:=zbf h8 k (List.mem_range.2 hlt)
    rw[hk]at this
    simp only[Bool.and_eq_true,Bool.or_eq_true]at this
    rcases this.1 with e |e
    ·exact absurd (Nat.eq_of_beq_eq_true e) hne
    ·exact zr5 e
   ·have hlt:k<l.length:=(List.getElem?_eq_some_iff.1 hk).1
    have:=zbf h8 k (List.mem_range.2 hlt)
    rw[hk]at this
    simp only[Bool.and_eq_true]at this
    have:=zbf this.2 _ ht
    simp only[Bool.or_eq_true,Bool.and_eq_true]at this
    rcases this with e |⟨e1,e2⟩
    ·exact absurd hd (zr5 e)
    ·obtain⟨p',hp',e3⟩:=List.mem_map.1 (zpv.1 e1)
     exact⟨⟨p'.2,by rw[← e3];exact hp'⟩,e2⟩
 ·have:=zbf (zbf h4 q hq) p hp
  rw[Bool.and_eq_true,List.any_eq_true]at this
  obtain⟨⟨p',hp',e⟩,h6⟩:=this
  rw[Bool.and_eq_true]at e
  have:p'=p:=Prod.ext (Nat.eq_of_beq_eq_true e.1) (Nat.eq_of_beq_eq_true e.2)
  exact⟨this ▸ hp',h6⟩
 ·have hm:m<plan.length:=(List.getElem?_eq_some_iff.1 e1).1
  have:=zbf h5 m (List.mem_range.2 hm)
  rw[e1,e2]at this
  exact this
theorem zmz (us:Nat→AV) (t:Nat):∀(fl:List (Nat×Nat))(tm:Tr AV),(∀p∈fl,p.2≠t)→(zds us fl tm).get t=tm.get t
 |[],tm,_=>rfl
 |p::fl,tm,hh=>by
  rw[zds,Tr.get_put,if_neg (fun e=>hh p List.mem_cons_self e.symm),zmz us t fl tm fun q hq=>hh q (List.mem_cons_of_mem _ hq)]
theorem zqg (us:Nat→AV){p:Nat×Nat}:∀(fl:List (Nat×Nat))(tm:Tr AV),(∀q∈fl,q.2=p.2→q.1=p.1)→p∈fl→(zds us fl tm).get p.2=some (us p.1)
 |[],tm,_,hp=>by cases hp
 |q::fl,tm,hh,hp=>by
  rw[zds,Tr.get_put]
  by_cases e:p.2=q.2
  ·rw[if_pos e,hh q List.mem_cons_self e.symm]
  ·rw[if_neg e]
   rcases List.mem_cons.1 hp with h1 |h1
   ·exact absurd (by rw[h1]) e
   ·exact zqg us fl tm (fun q' hq'=>hh q' (List.mem_cons_of_mem _ hq')) h1
theorem zqu (t:Nat):∀(fl:List (Nat×Nat))(tm:Tr AV),(zl5 fl tm).get t=if t∈fl.map (·.2) then none else tm.get t
 |[],tm=>by simp[zl5]
 |p::l,tm=>by
  rw[zl5,Tr.get_put,zqu t l tm]
  by_cases e:t=p.2
  ·simp[e]
  ·simp only[List.map_cons,List.mem_cons,e,false_or,if_false]
theorem zE3 {l:List Oper}{us:Nat→AV}{tmF:Tr AV}{p:Nat×Nat}{o:Oper}(ho:l[p.1]?=some o):∀{fl:List (Nat×Nat)},zjt c l us tmF h nx fl→p∈fl→zcp c o.op tmF h nx=.val (us p.1) h nx
 |[],_,hp=>by cases hp
 |q::fl,hs,hp=>by
  rcases List.mem_cons.1 hp with h1 |h1
  ·subst h1
   have:=hs.1
   rw[ho]at this
   exact this
  ·exact zE3 ho hs.2 h1
def zjy (tm:Tr AV):List Operand→Tr AV
 |[]=>.nil
 |x::l=>match x with
  |.tmp t=>(zjy tm l).put t (tm.get t)
  |_=>zjy tm l
theorem zp6 (tm:Tr AV) (t:Nat):∀l:List Operand,(Operand.tmp t∈l→(zjy tm l).get t=tm.get t)∧(¬Operand.tmp t∈l→(zjy tm l).get t=none)
 |[]=>⟨(fun h=>by cases h),(fun _=>by rw[zjy];rfl)⟩
 |x::l=>by
  obtain⟨h1,h2⟩:=zp6 tm t l
  cases x with
  |tmp s=>
   rw[zjy,Tr.get_put]
   by_cases e:t=s
   ·subst e
    exact⟨fun _=>by rw[if_pos rfl],fun q=>absurd List.mem_cons_self q⟩
   ·rw[if_neg e]
    refine⟨fun q=>h1 ?_,fun q=>h2 fun q2=>q (List.mem_cons_of_mem _ q2)⟩
    rcases List.mem_cons.1 q with q |q
    ·cases q;exact absurd rfl e
    ·exact q
  |_=>
   refine⟨fun q=>h1 ?_,fun q=>h2 fun q2=>q (List.mem_cons_of_mem _ q2)⟩
   rcases List.mem_cons.1 q with q |q
   ·cases q
   ·exact q
structure FInv (P:Program)(c:Cx) (sz:Nat)(l:List Oper)(us:Nat→AV)(fl:List (Nat×Nat))(plan:List (Nat×List (Nat×Nat)))(tm0 tmF:Tr AV)(K:AS→Prop)(σ0:Sg)(h0:Tr ABlk) (n0:Nat)(w0:World)(ds:List DE)(L:Array Bool)(a:Act)(w:World):Prop where
 ex:∃m pnd τ tm h nx,(∀q p,plan[q]?=some p→(L.getD p.1 false=true↔q<m))∧zgl P c sz l us tmF K (plan.drop m) pnd (.mk tm h nx ds)∧Post c.G σ0 h0 n0 w0 τ h nx w∧St τ tm a sz ds∧
  (∀p∈fl,L.getD p.1 false=true→Rel τ (us p.1) (a.tmps.getD p.2 undef))∧(∀p∈pnd,p∈fl∧tm.get p.2=none)∧(∀p∈fl,¬p∈pnd→L.getD p.1 false=true)∧(∀t,(∀o∈l,o.dst≠some t)→tm.get t=tm0.get t)
theorem zzr (hm:P.follows .mixedOrders=true)(hc:CxOk P c){inr:Bool}{id:Nat}{l:List Oper}(us:Nat→AV)(fl:List (Nat×Nat))(plan:List (Nat×List (Nat×Nat)))(hB:zse l (zak l []) fl plan=true){Q:AX→AS→Prop}{tm:Tr AV}{h:Tr ABlk}{nx:Nat}{ds:List DE}
  (hlt:∀p∈fl,p.2<sz) (hw:zgl P c sz l us (zds us fl tm) (Q .norm) plan fl (.mk (zl5 fl tm) h nx ds)):AW P c inr sz (.region id l.toArray true) Q (.mk tm h nx ds):=by
 intro r hi σ a w ok st
 simp only[AS.tm,AS.h,AS.nx,AS.ds]at ok st ⊢
 have X:=zOk hB
 have hmask:zil l.toArray (zak l []):=zn0 l [] (fun j m hj=>by simp at hj) fun j=>by simp
 have hml:(zak l []).length=l.length:=by
  have key:∀(l:List Oper) (acc:List Nat),(zak l acc).length=acc.length+l.length:=by
   intro l
   induction l with
   |nil=>intro acc;rfl
   |cons o l ih=>
    intro acc
    show (zak l (acc++[moL acc o.after.toList])).length=_
    rw[ih]
    simp
    omega
  simpa using key l []
 refine wpIn_region_any hm ?_
 have hd0:=Post.drawn ok (w.drawn+1)
 generalize hQ:AQ c.G σ h nx w sz Q=QQ
 have hsz:l.toArray.size=l.length:=by simp
 have hget:∀j,l.toArray[j]?=l[j]?:=fun j=>List.getElem?_toArray
 have hrep:∀n i,(Array.replicate n false).getD i false=false:=by
  intro n i
  simp only[Array.getD_eq_getD_getElem?,Array.getElem?_replicate]
  split <;> rfl
 have hback:∀k,k<l.toArray.size→∀x,dir l.toArray x k=true→x<k:=by
  intro k hk x hd
  rw[hsz]at hk
  unfold dir at hd
  rw[hget,List.getElem?_eq_getElem hk]at hd
  simp only[Option.map_some,Option.getD_some,Array.any_eq_true']at hd
  obtain⟨e,he,hb⟩:=hd
  rw[Bool.and_eq_true]at hb
  have hon:e.on=x:=by simpa using hb.2
  rw[← hon]
  exact X.back k _ (List.getElem?_eq_getElem hk) e (by simpa using he) hb.1
 have huniq:∀p∈fl,∀q∈fl,q.2=p.2→q.1=p.1:=by
  intro p hp q hq e
  obtain⟨o,o1,o2,o3,_⟩:=X.dst p hp
  obtain⟨o',o1',o2',_⟩:=X.dst q hq
  by_cases e2:q.1=p.1
  ·exact e2
  ·exact absurd (by rw[o2',e]) (o3 q.1 o' o1' e2)
 have hpd:∀p∈fl,∃o∈l,o.dst=some p.2:=by
  intro p hp
  obtain⟨o,o1,o2,_⟩:=X.dst p hp
  exact⟨o,List.mem_of_getElem? o1,o2⟩
 let I:Array Bool→Act→World→Prop:=fun L a' w'=>zf6 l.toArray L∧FInv P c sz l us fl plan tm (zds us fl tm) (Q .norm) σ h nx w ds L a' w'
 have hclosed:∀(L:Array Bool) (i:Nat),i<L.size→zf6 l.toArray L→(∀k,dir l.toArray k i=true→L.getD k false=true)→zf6 l.toArray (L.setIfInBounds i true):=by
  intro L i hiL hcl hdeps j hj k hk'
  rw[zjs hiL]at hj ⊢
  by_cases hki:k=i
  ·rw[if_pos hki]
  ·rw[if_neg hki]
   by_cases hji:j=i
   ·subst hji;exact hdeps k hk'
   ·rw[if_neg hji]at hj
    exact hcl j hj k hk'
 refine zr2 I ?step ?done l.toArray.size _ a _ (by simp) ?count ?init
 case count=>simp
 case init=>
  refine⟨(fun j hj=>by rw[hrep]at hj;cases hj),⟨0,fl,σ,zl5 fl tm,h,nx,fun q p e=>⟨fun e2=>(by rw[hrep]at e2;cases e2),fun e2=>by omega⟩,by simpa using hw,hd0,⟨fun t u e=>?_,st.size,st.defers⟩,fun p hp e=>(by rw[hrep]at e;cases e),fun p hp=>⟨hp,?_⟩,fun p hp e=>absurd hp e,fun t ht=>?_⟩⟩
  ·rw[zqu]at e
   split at e
   ·cases e
   ·exact st.tm t u e
  ·rw[zqu,if_pos (List.mem_map.2 ⟨p,hp,rfl⟩)]
  ·rw[zqu,if_neg]
   intro hmm
   obtain⟨p,hp,rfl⟩:=List.mem_map.1 hmm
   obtain⟨o,ho,hd⟩:=hpd p hp
   exact ht o ho hd
 case done=>
  intro L a' w' hs hI hr
  have hall:=zs1 hback hr hs
  obtain⟨_,m,pnd,τ,tm',h',nx',i1,i2,i3,i4,i5,i6,i7,i8⟩:=hI
  have hmn:plan.length≤m:=by
   rcases Nat.lt_or_ge m plan.length with hlt' |hge
   ·exfalso
    have e:=List.getElem?_eq_getElem hlt'
    by_cases hk:(plan[m]).1<l.length
    ·have:=(i1 m _ e).1 (hall _ (by rw[hsz];exact hk))
     omega
    ·rw[List.drop_eq_getElem_cons hlt',zgl]at i2
     have:=i2.2
     rw[List.getElem?_eq_none (by omega)]at this
     exact this
   ·exact hge
  rw[List.drop_of_length_le hmn,zgl]at i2
  rw[← hQ]
  refine⟨.norm,_,_,_,ds,τ,rfl,i3,⟨fun t u e=>?_,i4.size,i4.defers⟩,i2.2⟩
  by_cases hp:∃p∈pnd,p.2=t
  ·obtain⟨p,hp,rfl⟩:=hp
   rw[zqg us pnd tm' (fun q hq e=>huniq p (i6 p hp).1 q (i6 q hq).1 e) hp]at e
   cases e
   obtain⟨o,o1,_⟩:=X.dst p (i6 p hp).1
   exact i5 p (i6 p hp).1 (hall _ (by rw[hsz];exact(List.getElem?_eq_some_iff.1 o1).1))
  ·rw[zmz us t pnd tm' fun p hp' e2=>hp ⟨p,hp',e2⟩]at e
   exact i4.tm t u e
 case step=>
  intro L a1 w1 i hs hI hi
  obtain⟨hin,hnl0,hdeps⟩:=zkq.1 hi
  have hiL:i<L.size:=by omega
  have hnl:L.getD i false=false:=by simpa[Array.getD,hiL]using hnl0
  rw[hsz]at hin
  obtain⟨hcl,m,pnd,τ,tm',h',nx',i1,i2,i3,i4,i5,i6,i7,i8⟩:=hI
  have hset:∀j,(L.setIfInBounds i true).getD j false=if j=i then true else L.getD j false:=fun j=>zjs hiL
  have hbefore:∀k,zb1 (zak l []) k i=true→L.getD k false=true:=by
   intro k hb
   unfold zb1 at hb
   rw[zln]at hb
   obtain⟨mm,hmm⟩:∃mm,(zak l [])[i]?=some mm:=⟨_,List.getElem?_eq_getElem (by omega)⟩
   have e:(zak l []).getD i 0=mm:=by simp[List.getD,hmm]
   rw[e]at hb
   exact hmask i mm hmm k hb L hcl hdeps
  have hoi:l[i]?=some l[i]:=List.getElem?_eq_getElem hin
  obtain⟨hg0,hdf⟩:=X.guard l[i] (List.getElem_mem hin)
  have hwant:Region.wanted l[i] (yielded l.toArray a1.tmps)=true:=by unfold Region.wanted;rw[hg0]
  have hstay:zjt c l us (zds us fl tm) h' nx' pnd:=by
   cases hd:plan.drop m with
   |nil=>rw[hd,zgl]at i2;exact i2.1
   |cons q rest=>rw[hd,zgl]at i2;exact i2.1
  unfold wpOpIn
  rw[hget,hoi]
  simp only
  rw[hwant]
  simp only[if_true]
  rcases X.all i hin with⟨d,hp⟩ |⟨q,pq,e1,e2⟩
  ·
   obtain⟨o,o1,o2,o3,o4⟩:=X.dst (i,d) hp
   have ho:l[i]=o:=by
    have:=hoi
    rw[o1]at this
    exact(Option.some.inj this).symm
   rw[ho]
   rw[ho]at hdf
   have hpn:(i,d)∈pnd:=by
    by_cases hh:(i,d)∈pnd
    ·exact hh
    ·have:=i7 _ hp hh
     rw[hnl]at this
     cases this
   have hev:=zE3 o1 hstay hpn
   have hsee:zhf (zjy (zds us fl tm) o.op.operands.toList) (zds us fl tm) o.op.operands.toList:=fun t ht=>(zp6 _ t _).1 ht
   have hok:zd8 τ (zjy (zds us fl tm) o.op.operands.toList) a1:=by
    intro t u e
    by_cases ht:Operand.tmp t∈o.op.operands.toList
    ·rw[(zp6 _ t _).1 ht]at e
     by_cases hwr:∃ok∈l,ok.dst=some t
     ·obtain⟨ok,hk,hd⟩:=hwr
      obtain⟨k,hkl,ek⟩:=List.getElem_of_mem hk
      have hk?:l[k]?=some ok:=by rw[List.getElem?_eq_getElem hkl,ek]
      obtain⟨⟨d',hkf⟩,hbf⟩:=o4 t ht k ok hk? hd
      obtain⟨o',o1',o2',_⟩:=X.dst (k,d') hkf
      have hdt:d'=t:=by
       rw[hk?]at o1'
       cases o1'
       rw[hd]at o2'
       exact(Option.some.inj o2').symm
      subst hdt
      have h1:=zqg us (p:=(k,d')) fl tm (fun q hq e=>huniq _ hkf q hq e) hkf
      simp only at h1
      rw[h1]at e
      cases e
      exact i5 (k,d') hkf (hbefore k hbf)
     ·have hno:∀ok∈l,ok.dst≠some t:=fun ok hk hd=>hwr ⟨ok,hk,hd⟩
      rw[zmz us t fl tm (fun p hp' e2=>by
       obtain⟨ok,hk,hd⟩:=hpd p hp'
       exact hno ok hk (by rw[hd,e2])),← i8 t hno]at e
      exact i4.tm t u e
    ·rw[(zp6 _ t _).2 ht]at e
     cases e
   have hp2:=ztn hc i3.ok hok o
   rw[zF4 o.op hsee,hev]at hp2
   obtain⟨V,τ2,x2,r1,r2,r3⟩:=hp2
   refine zdc (fun cl e=>by rw[e]at hdf;cases hdf) ?_
   rw[r1]
   show I (L.setIfInBounds i true) (a1.put o.dst V) x2
   rw[o2]
   have hds:d<a1.tmps.size:=by rw[i4.size];exact hlt _ hp
   refine⟨hclosed L i hiL hcl hdeps,⟨m,pnd,τ2,tm',h',nx',fun q p e=>?_,i2,i3.trans r3,⟨fun t u e=>?_,by simpa[Act.put]using i4.size,i4.defers.mono r3.le⟩,fun p hp' e=>?_,i6,fun p hp' e=>?_,i8⟩⟩
   ·rw[hset,if_neg (X.sep _ hp p (List.mem_of_getElem? e))]
    exact i1 q p e
   ·have hne:some d≠some t:=fun e2=>by
     have:=(i6 _ hpn).2
     simp only at this
     rw[← Option.some.inj e2,this]at e
     cases e
    rw[zls hne]
    exact(i4.tm t u e).mono r3.le
   ·by_cases e3:p.2=d
    ·have e4:p.1=i:=huniq (i,d) hp p hp' e3
     rw[e3,e4]
     simpa[Act.put,Array.getD_eq_getD_getElem?,hds]using r2
    ·rw[zls (fun e4=>e3 (Option.some.inj e4).symm)]
     have hpi:p.1≠i:=by
      intro e5
      obtain⟨o',o1',o2',_⟩:=X.dst p hp'
      rw[e5,o1]at o1'
      cases o1'
      rw[o2]at o2'
      exact e3 (Option.some.inj o2').symm
     rw[hset,if_neg hpi]at e
     exact(i5 p hp' e).mono r3.le
   ·rw[hset]
    split
    ·rfl
    ·exact i7 p hp' e
  ·
   subst e2
   have hqm:q=m:=by
    have h1:¬q<m:=fun hh=>by rw[(i1 q pq e1).2 hh]at hnl;cases hnl
    rcases Nat.lt_or_ge m q with h2 |h2
    ·exfalso
     obtain⟨q',rfl⟩:∃q',q=q'+1:=⟨q-1,by omega⟩
     have hql:=(List.getElem?_eq_some_iff.1 e1).1
     have e3:plan[q']?=some (plan[q']'(by omega)):=List.getElem?_eq_getElem _
     have:=(i1 q' _ e3).1 (hbefore _ (X.ord q' _ _ e3 e1))
     omega
    ·omega
   subst hqm
   have hql:=(List.getElem?_eq_some_iff.1 e1).1
   have hpq:plan[q]=pq:=(List.getElem?_eq_some_iff.1 e1).2
   rw[List.drop_eq_getElem_cons hql,hpq,zgl]at i2
   obtain⟨_,i2⟩:=i2
   rw[hoi]at i2
   simp only at i2
   have hpm:pq∈plan:=List.mem_of_getElem? e1
   have st2:St τ (zds us pq.2 tm') a1 sz ds:=by
    refine⟨fun t u e=>?_,i4.size,i4.defers⟩
    by_cases hp:∃p∈pq.2,p.2=t
    ·obtain⟨p,hp,rfl⟩:=hp
     obtain⟨n1,n2⟩:=X.need pq hpm p hp
     rw[zqg us pq.2 tm' (fun q' hq' e=>huniq p n1 q' (X.need pq hpm q' hq').1 e) hp]at e
     cases e
     exact i5 p n1 (hbefore _ n2)
    ·rw[zmz us t pq.2 tm' fun p hp' e2=>hp ⟨p,hp',e2⟩]at e
     exact i4.tm t u e
   have hw2:awS P c sz l.toArray.toList l[pq.1] (fun s'=>zgl P c sz l us (zds us fl tm) (Q .norm) (plan.drop (q+1)) (rmF pq.2 pnd) s') (.mk (zds us pq.2 tm') h' nx' ds):=i2
   have hstep:=zoo hc (ops:=l.toArray) (zA3 hw2) (r:=r) (a:=a1) (σ:=τ) (w:=w1) i3.ok st2 QQ (I (L.setIfInBounds pq.1 true)) fun υ tm1 V w2 h2 nx2 k1 p1 s1=>?_
   ·rw[hwant]at hstep
    simpa only[if_true]using hstep
   obtain⟨k1,k2⟩:=k1
   have hdst:∀p∈fl,l[pq.1].dst≠some p.2:=by
    intro p hp
    obtain⟨o,o1,o2,o3,_⟩:=X.dst p hp
    exact o3 pq.1 _ hoi (X.sep p hp pq hpm)
   have hrm:∀p,p∈rmF pq.2 pnd↔p∈pnd∧∀p'∈pq.2,p'.1≠p.1:=by
    intro p
    unfold rmF
    rw[List.mem_filter]
    constructor
    ·rintro⟨h1,h2⟩
     refine⟨h1,fun p' hp' e=>?_⟩
     have:(pq.2.any fun q=>Nat.beq q.1 p.1)=true:=List.any_eq_true.2 ⟨p',hp',by rw[e];exact Nat.beq_refl _⟩
     rw[this]at h2
     cases h2
    ·rintro⟨h1,h2⟩
     refine⟨h1,?_⟩
     cases hh:(pq.2.any fun q=>Nat.beq q.1 p.1) with
     |false=>rfl
     |true=>
      obtain⟨p',hp',e⟩:=List.any_eq_true.1 hh
      exact absurd (Nat.eq_of_beq_eq_true e) (h2 p' hp')
   refine⟨hclosed L _ hiL hcl hdeps,⟨q+1,rmF pq.2 pnd,υ,tm1,h2,nx2,fun q' p' e=>?_,k1,i3.trans p1,s1,fun p hp e=>?_,fun p hp=>?_,fun p hp e=>?_,fun t ht=>?_⟩⟩
   ·rw[hset]
    by_cases e5:p'.1=pq.1
    ·rw[if_pos e5]
     refine⟨fun _=>?_,fun _=>rfl⟩
     rcases Nat.lt_or_ge q' (q+1) with h6 |h6
     ·exact h6
     ·exfalso
      obtain⟨q'',rfl⟩:∃q'',q'=q''+1:=⟨q'-1,by omega⟩
      have hql':=(List.getElem?_eq_some_iff.1 e).1
      have e3:plan[q'']?=some (plan[q'']'(by omega)):=List.getElem?_eq_getElem _
      have hb:=X.ord q'' _ _ e3 e
      rw[e5]at hb
      have:=(i1 q'' _ e3).1 (hbefore _ hb)
      omega
    ·rw[if_neg e5,i1 q' p' e]
     constructor
     ·intro h6;omega
     ·intro h6
      rcases Nat.lt_or_ge q' q with h7 |h7
      ·exact h7
      ·exfalso
       have:q'=q:=by omega
       subst this
       rw[e1]at e
       cases e
       exact e5 rfl
   ·rw[zls (hdst p hp)]
    rw[hset,if_neg (fun e5=>X.sep p hp pq hpm e5.symm)]at e
    exact(i5 p hp e).mono p1.le
   ·obtain⟨h1,h2'⟩:=(hrm p).1 hp
    refine⟨(i6 p h1).1,?_⟩
    have h9:tm1.get p.2=(zds us pq.2 tm').get p.2:=k2 p.2 (hdst p (i6 p h1).1)
    rw[h9,zmz us p.2 pq.2 tm' fun p' hp' e5=>h2' p' hp' (huniq p (i6 p h1).1 p' (X.need pq hpm p' hp').1 e5)]
    exact(i6 p h1).2
   ·rw[hset]
    split
    ·rfl
    ·by_cases h1:p∈pnd
     ·have:∃p'∈pq.2,p'.1=p.1:=by
       by_cases hh:∃p'∈pq.2,p'.1=p.1
       ·exact hh
       ·exact absurd ((hrm p).2 ⟨h1,fun p' hp' e5=>hh ⟨p',hp',e5⟩⟩) e
      obtain⟨p',hp',e5⟩:=this
      rw[← e5]
      exact hbefore _ (X.need pq hpm p' hp').2
     ·exact i7 p hp h1
   ·have h1:tm1.get t=(zds us pq.2 tm').get t:=k2 t (ht _ (List.getElem_mem hin))
    rw[h1,zmz us t pq.2 tm' fun p' hp' e5=>by
     obtain⟨o,ho,hd⟩:=hpd p' (X.need pq hpm p' hp').1
     exact ht o ho (by rw[hd,e5])]
    exact i8 t ht
end
end Go.Ev
