/- Texts DM RF Tab. -/
import Derived.Test.YtkdnmldmffkkoaaGreatDoorP07
import Derived.Test.YtkdnmldmffkkoaaGreatDoorP09
set_option linter.unusedSimpArgs false
set_option linter.unusedVariables false
set_option maxRecDepth 100000
namespace Go.Ev
noncomputable section
variable {P : Program} {c : Cx} {σ τ υ : Sg} {h h' g f : Tr ABlk} {nx nx' ny nz sz : Nat} {w x y : World} {tm tm' : Tr AV} {a : Act} {G : Gl} {r : Option Nat}
def zil (ops:Array Oper)(acc:List Nat):Prop:=∀j m,acc[j]?=some m→∀i,m.testBit i=true→∀l:Array Bool,zf6 ops l→(∀k,dir ops k j=true→l.getD k false=true)→l.getD i false=true
theorem zv9 {ops:Array Oper}{acc:List Nat}(ha:zil ops acc)(l:Array Bool)(hl:zf6 ops l):∀(es:List Edge),(∀e∈es,Region.binds .any e=true→l.getD e.on false=true)→∀i,(moL acc es).testBit i=true→l.getD i false=true
 |[],_,i,hi=>by simp[moL]at hi
 |e::es,hes,i,hi=>by
  change (match Region.binds .any e with
   |true=>Nat.lor (Nat.lor (Nat.pow 2 e.on) (acc.getD e.on 0)) (moL acc es)
   |false=>moL acc es).testBit i=true at hi
  cases hb:Region.binds .any e with
  |false=>
   rw[hb]at hi
   exact zv9 ha l hl es (fun e' he'=>hes e' (by simp[he'])) i hi
  |true=>
   rw[hb]at hi
   change ((2 ^ e.on ||| acc.getD e.on 0) ||| moL acc es).testBit i=true at hi
   rw[Nat.testBit_or,Nat.testBit_or,Bool.or_eq_true,Bool.or_eq_true]at hi
   have hon:=hes e (by simp) hb
   rcases hi with (hi |hi) |hi
   ·rw[Nat.testBit_two_pow]at hi
    have:e.on=i:=by simpa using hi
    rw[← this]
    exact hon
   ·cases hm:acc[e.on]? with
    |none=>simp[List.getD,hm]at hi
    |some m=>
     have:acc.getD e.on 0=m:=by simp[List.getD,hm]
     rw[this]at hi
     exact ha e.on m hm i hi l hl fun k hk=>hl e.on hon k hk
   ·exact zv9 ha l hl es (fun e' he'=>hes e' (by simp[he'])) i hi
theorem zn0 {ops:Array Oper}:∀(l:List Oper)(acc:List Nat),zil ops acc→(∀j,l[j]?=ops[acc.length+j]?)→zil ops (zak l acc)
 |[],acc,ha,_=>ha
 |o::l,acc,ha,hl=>by
  refine zn0 l (acc++[moL acc o.after.toList]) ?_ fun j=>?_
  ·intro j m hm i hi L hL hdeps
   by_cases hj:j<acc.length
   ·rw[List.getElem?_append_left hj]at hm
    exact ha j m hm i hi L hL hdeps
   ·rw[List.getElem?_append_right (by omega)]at hm
    have hj0:j-acc.length=0:=by
     cases h0:j-acc.length with
     |zero=>rfl
     |succ q=>rw[h0]at hm;simp at hm
    rw[hj0]at hm
    simp at hm
    subst hm
    have hjj:j=acc.length:=by omega
    have ho:ops[j]?=some o:=by have:=hl 0;simpa[hjj]using this.symm
    refine zv9 ha L hL _ (fun e he hb=>hdeps e.on ?_) i hi
    unfold dir
    rw[ho]
    simp only[Option.map_some,Option.getD_some,Array.any_eq_true']
    exact⟨e,by simpa using he,by simp[hb]⟩
  ·have:=hl (j+1)
   simpa[Nat.add_assoc,Nat.add_comm 1 j]using this
theorem zbf {α:Type}{f:α→Bool}:∀{l:List α},zbi l f=true→∀x∈l,f x=true
 |[],_,x,hx=>by cases hx
 |a::l,h,x,hx=>by
  change (match f a with |true=>zbi l f |false=>false)=true at h
  cases hf:f a with
  |false=>rw[hf]at h;cases h
  |true=>
   rw[hf]at h
   rcases List.mem_cons.1 hx with e |e
   ·subst e;exact hf
   ·exact zbf h x e
def zcr (n:Nat):List Nat:=List.range n
def zjk (d:Nat)(l:List Nat):Bool:=List.rec (motive:=fun _=>Bool) false (fun a _ ih=>match Nat.beq a d with |true=>true |false=>ih) l
theorem znu {d:Nat}:∀{l:List Nat},d∈l→zjk d l=true
 |[],h=>by cases h
 |a::l,h=>by
  show (match Nat.beq a d with |true=>true |false=>zjk d l)=true
  cases hb:Nat.beq a d with
  |true=>rfl
  |false=>
   rcases List.mem_cons.1 h with e |e
   ·exact absurd e.symm (zea hb)
   ·exact znu e
def inU (i j:Nat):List (Nat×Nat)→Bool
 |[]=>false
 |(a,b)::U=>match Nat.beq i a && Nat.beq j b with
  |true=>true
  |false=>inU i j U
theorem zEx {i j:Nat}:∀{U:List (Nat×Nat)},inU i j U=true→(i,j)∈U
 |[],e=>by cases e
 |(a,b)::U,e=>by
  simp only[inU]at e
  split at e
  ·rename_i hb
   rw[Bool.and_eq_true]at hb
   rw[Nat.eq_of_beq_eq_true hb.1,Nat.eq_of_beq_eq_true hb.2]
   exact List.mem_cons_self
  ·exact List.mem_cons_of_mem _ (zEx e)
def zsc (ms:List Nat)(Wl Cl:List Nat)(U:List (Nat×Nat)) (i j:Nat)(li:List Tmp)(oi oj:Oper):Bool:=
 match Nat.beq i j with
 |true=>true
 |false=>
  match (match inL i Wl with |true=>inL j Wl |false=>false) with
  |true=>zf2 ms i j
  |false=>match (match oj.dst with
    |none=>true
    |some d=>match zjk d (li++oi.dst.toList) with
     |true=>zf2 ms i j
     |false=>true) with
   |false=>false
   |true=>match inL i Wl || inL i Cl || !(inL j Wl) || (fpO oi.op).isNone with
    |true=>true
    |false=>match zf2 ms i j with
     |true=>true
     |false=>match inU i j U with
      |false=>false
      |true=>true
def zzf (ops:List Oper) (a j:Nat)(la:List Tmp):Bool:=
 zbi (zcr ops.length) fun k=>match Nat.ble a k && Nat.ble (Nat.succ k) j with
  |false=>true
  |true=>match ops[k]? with
   |none=>true
   |some ok=>match ok.dst with
    |none=>true
    |some d=>!(zjk d la)
def zhs (c:Cx)(ops:List Oper)(ms:List Nat)(Wl Cl:List Nat)(U:List (Nat×Nat)):Bool:=
 zbi (zcr ops.length) (fun i=>match ops[i]? with
  |none=>true
  |some oi=>match zbi oi.after.toList (fun e=>match Region.binds .any e with |true=>Nat.ble (Nat.succ e.on) i |false=>true) with
   |false=>false
   |true=>match (match inL i Cl with |true=>!(inL i Wl) |false=>!(zfm oi.op) && (inL i Wl || !(zpx c oi.op))) with
    |false=>false
    |true=>zbi (zcr ops.length) fun j=>match ops[j]? with
     |none=>true
     |some oj=>zsc ms Wl Cl U i j (zbl ops oi) oi oj) &&
 zbi U (fun p=>match Nat.ble (Nat.succ p.1) p.2 with
  |false=>true
  |true=>match ops[p.1]? with
   |none=>true
   |some oa=>zzf ops p.1 p.2 (zbl ops oa)) && zbi Cl (fun i=>!(inL i Wl))
theorem zr4 {ms:List Nat}{i j:Nat}(hlt:i<j)(ho:zf2 ms i j=true):zb1 ms i j=true:=by
 unfold zf2 at ho
 have:Nat.ble (Nat.succ j) i=false:=ztk (by omega)
 rw[this]at ho
 exact ho
theorem zwj {ms:List Nat}{i j:Nat}(hlt:j<i)(ho:zf2 ms i j=true):zb1 ms j i=true:=by
 unfold zf2 at ho
 have:Nat.ble (Nat.succ j) i=true:=Nat.ble_eq_true_of_le (by omega)
 rw[this]at ho
 exact ho
structure PairD (ms:List Nat)(Wl Cl:List Nat)(U:List (Nat×Nat)) (i j:Nat)(li:List Tmp)(oi oj:Oper):Prop where
 ww:inL i Wl=true→inL j Wl=true→zf2 ms i j=true
 dst:∀d,oj.dst=some d→(d∈li∨oi.dst=some d)→zf2 ms i j=true
 rw:inL i Wl=false→inL i Cl=false→inL j Wl=true→(fpO oi.op).isNone=false→zf2 ms i j=true∨(i,j)∈U
theorem zPw {ms:List Nat}{Wl Cl:List Nat}{U:List (Nat×Nat)}{i j:Nat}{li:List Tmp}{oi oj:Oper}(hne:i≠j)(hp:zsc ms Wl Cl U i j li oi oj=true):PairD ms Wl Cl U i j li oi oj:=by
 unfold zsc at hp
 have hb:Nat.beq i j=false:=by
  cases e:Nat.beq i j with
  |false=>rfl
  |true=>exact absurd (Nat.eq_of_beq_eq_true e) hne
 rw[hb]at hp
 simp only at hp
 cases hWi:inL i Wl with
 |true=>
  rw[hWi]at hp
  simp only at hp
  cases hWj:inL j Wl with
  |true=>
   rw[hWj]at hp
   simp only at hp
   exact⟨fun _ _=>hp,fun _ _ _=>hp,(fun e=>by simp[hWi]at e)⟩
  |false=>
   rw[hWj]at hp
   simp only at hp
   refine⟨(fun _ e=>by simp[hWj]at e),fun d hd hm=>?_,(fun e=>by simp[hWi]at e)⟩
   rw[hd]at hp
   simp only at hp
   have hmem:zjk d (li++oi.dst.toList)=true:=znu (by
    rw[List.mem_append]
    rcases hm with h1 |h1
    ·exact .inl h1
    ·exact .inr (by rw[h1];simp))
   rw[hmem]at hp
   simp only at hp
   cases ho:zf2 ms i j with
   |true=>rfl
   |false=>rw[ho]at hp;cases hp
 |false=>
  rw[hWi]at hp
  simp only at hp
  refine⟨(fun e=>by simp[hWi]at e),fun d hd hm=>?_,fun _ hC hWj hf=>?_⟩
  ·rw[hd]at hp
   simp only at hp
   have hmem:zjk d (li++oi.dst.toList)=true:=znu (by
    rw[List.mem_append]
    rcases hm with h1 |h1
    ·exact .inl h1
    ·exact .inr (by rw[h1];simp))
   rw[hmem]at hp
   simp only at hp
   cases ho:zf2 ms i j with
   |true=>rfl
   |false=>rw[ho]at hp;cases hp
  ·split at hp
   ·cases hp
   ·rw[hC,hWj,hf]at hp
    simp only[Bool.false_or,Bool.not_true]at hp
    cases ho:zf2 ms i j with
    |true=>exact .inl rfl
    |false=>
     rw[ho]at hp
     simp only at hp
     cases hu:inU i j U with
     |true=>exact .inr (zEx hu)
     |false=>rw[hu]at hp;cases hp
theorem zLx {ops:List Oper}{a:Nat}{o:Oper}(ho:ops[a]?=some o)(hs:∀t∈zbl ops o,tm.get t=tm'.get t):fpv c ops a tm=fpv c ops a tm':=by
 unfold fpv
 rw[ho]
 simp only
 cases hf:fpO o.op with
 |none=>rfl
 |some x=>
  show evO c.G tm x=evO c.G tm' x
  have hx:x∈o.op.operands.toList:=by
   cases hop:o.op <;> rw[hop]at hf <;> try (cases hf;done)
   case load=>cases hf;simp[Op.operands]
   case lookup=>cases hf;simp[Op.operands]
   case convert=>cases hf;simp[Op.operands]
   case call cl=>
    have:cl.args.toList.head?=some x:=hf
    have hm:x∈cl.args.toList:=List.mem_of_mem_head? (by rw[this];rfl)
    obtain⟨callee,args,ts⟩:=cl
    simp only[Op.operands,Call.operands]
    cases callee <;> simp at hm ⊢ <;> first |exact hm |exact .inr hm
  refine zk7 (l:=o.op.operands.toList) (fun t ht=>hs t ?_) hx
  unfold zbl
  rw[List.mem_append]
  exact .inl (List.mem_filterMap.2 ⟨.tmp t,ht,rfl⟩)
theorem zRw {v:Option AV}{h1 h2 h3:Tr ABlk}(a:zbu v h1 h2)(b:zbu v h2 h3):zbu v h1 h3:=by
 unfold zbu at *
 split
 ·split
  ·rename_i k hk
   simp only[hk]at a b
   exact b.trans a
  ·trivial
 ·trivial
theorem zPp {v:Option AV}(hv:v=none)(h1 h2:Tr ABlk):zbu v h1 h2:=by subst hv;trivial
theorem zty {l:List Oper}{Wl Cl:List Nat}{U:List (Nat×Nat)}{ms:List Nat}(hstat:zhs c l ms Wl Cl U=true):ztz c l Wl Cl∧∀i,inL i Cl=true→inL i Wl=false:=by
 unfold zhs at hstat
 rw[Bool.and_eq_true,Bool.and_eq_true]at hstat
 obtain⟨⟨hA,hU⟩,hCW⟩:=hstat
 constructor
 ·intro i oi hoi hC
  have hlt:i<l.length:=(List.getElem?_eq_some_iff.1 hoi).1
  have h1:=zbf hA i (by simp[zcr,hlt])
  rw[hoi]at h1
  simp only at h1
  split at h1
  ·cases h1
  ·split at h1
   ·cases h1
   ·rename_i hcls
    rw[hC]at hcls
    simp only[Bool.and_eq_true,Bool.or_eq_true,Bool.not_eq_true']at hcls
    refine⟨hcls.1,fun hW=>?_⟩
    rcases hcls.2 with h3 |h3
    ·rw[hW]at h3;cases h3
    ·exact h3
 ·intro i hi
  have hmem:∀(L:List Nat),inL i L=true→i∈L:=by
   intro L
   induction L with
   |nil=>intro e;cases e
   |cons b L ih=>
    intro e
    simp only[inL]at e
    split at e
    ·rename_i hb;rw[Nat.eq_of_beq_eq_true hb];exact List.mem_cons_self
    ·exact List.mem_cons_of_mem _ (ih e)
  have:=zbf hCW i (hmem Cl hi)
  simpa using this
theorem zss {l:List Oper}{Wl Cl:List Nat}{U:List (Nat×Nat)}(hstat:zhs c l (zak l []) Wl Cl U=true){S:Nat→Tr AV×Tr ABlk×Nat}{v:Nat→AV}{r:Option Nat}(q4:∀j,j<l.length→zjx P c r sz l.toArray Wl Cl U S v j):
  Dr P c r sz l.toArray S v (fun i=>inL i Wl) (zb1 (zak l [])):=by
 unfold zhs at hstat
 rw[Bool.and_eq_true,Bool.and_eq_true]at hstat
 obtain⟨⟨hA,hU⟩,hCW⟩:=hstat
 generalize hms:zak l []=ms at hA hU
 have hmask:zil l.toArray ms:=by
  rw[← hms]
  refine zn0 l [] (fun j m hj=>by simp at hj) fun j=>by simp
 have hrow:∀i oi,l[i]?=some oi→(∀e∈oi.after.toList,Region.binds .any e=true→e.on<i)∧(inL i Cl=false→zfm oi.op=false∧(inL i Wl=false→zpx c oi.op=false))∧∀j oj,l[j]?=some oj→i≠j→PairD ms Wl Cl U i j (zbl l oi) oi oj:=by
  intro i oi hoi
  have hlt:i<l.length:=(List.getElem?_eq_some_iff.1 hoi).1
  have h1:=zbf hA i (by simp[zcr,hlt])
  rw[hoi]at h1
  simp only at h1
  split at h1
  ·cases h1
  ·rename_i hb
   split at h1
   ·cases h1
   ·rename_i hcls
    refine⟨fun e he hbi=>?_,fun hC=>?_,fun j oj hoj hne=>?_⟩
    ·have:=zbf hb e he
     rw[hbi]at this
     exact Nat.le_of_ble_eq_true this
    ·rw[hC]at hcls
     simp only[Bool.and_eq_true,Bool.or_eq_true,Bool.not_eq_true']at hcls
     refine⟨hcls.1,fun hW=>?_⟩
     rcases hcls.2 with h3 |h3
     ·rw[hW]at h3;cases h3
     ·exact h3
    ·have hltj:j<l.length:=(List.getElem?_eq_some_iff.1 hoj).1
     have:=zbf h1 j (by simp[zcr,hltj])
     rw[hoj]at this
     exact zPw hne this
 have hstep:∀j o,l[j]?=some o→zjx P c r sz l.toArray Wl Cl U S v j:=fun j o ho=>q4 j (List.getElem?_eq_some_iff.1 ho).1
 have hsz:l.toArray.size=l.length:=by simp
 have hget:∀j,l.toArray[j]?=l[j]?:=fun j=>List.getElem?_toArray
 have hstay:∀a j o,(a,j)∈U→a<j→l[a]?=some o→∀k,a≤k→k<j→∀o' d,l[k]?=some o'→o'.dst=some d→d ∉ zbl l o:=by
  intro a j o hm' hlt ho k hk1 hk2 o' d ho' hd hmem
  have h1:=zbf hU (a,j) hm'
  simp only at h1
  rw[Nat.ble_eq_true_of_le (show Nat.succ a≤j by omega),ho]at h1
  simp only at h1
  unfold zzf at h1
  have hltk:k<l.length:=(List.getElem?_eq_some_iff.1 ho').1
  have h2:=zbf h1 k (by simp[zcr,hltk])
  simp only[Nat.ble_eq_true_of_le hk1,Nat.ble_eq_true_of_le (show Nat.succ k≤j by omega),Bool.and_self,ho',hd]at h2
  rw[znu hmem]at h2
  cases h2
 have htmk:∀a j o,(a,j)∈U→a<j→l[a]?=some o→j<l.length→fpv c l a (S j).1=fpv c l a (S a).1:=by
  intro a j o hm' hlt ho hjl
  refine zLx ho fun t ht=>?_
  have key:∀n,a+n≤j→(S (a+n)).1.get t=(S a).1.get t:=by
   intro n
   induction n with
   |zero=>intro _;rfl
   |succ n ih=>
    intro hn
    obtain⟨o',ho'⟩:∃o',l[a+n]?=some o':=⟨_,List.getElem?_eq_getElem (by omega)⟩
    obtain⟨o'',ho'',_,_,e3,_⟩:=hstep (a+n) o' ho'
    rw[hget,ho']at ho''
    cases ho''
    rw[show a+(n+1)=a+n+1 by omega,e3]
    cases hd:o'.dst with
    |none=>exact ih (by omega)
    |some d=>
     simp only
     rw[Tr.get_put,if_neg]
     ·exact ih (by omega)
     ·intro e
      subst e
      exact hstay a j o hm' hlt ho (a+n) (by omega) (by omega) o' t ho' hd ht
  have:=key (j-a) (by omega)
  rw[show a+(j-a)=j by omega]at this
  exact this
 have R:Dr P c r sz l.toArray S v (fun i=>inL i Wl) (zb1 ms):=by
  have keep:∀i,i<l.toArray.size→inL i Wl=false→(S (i+1)).2=(S i).2:=by
   intro i hi hW
   obtain⟨o,ho⟩:∃o,l[i]?=some o:=⟨_,List.getElem?_eq_getElem (by omega)⟩
   obtain⟨_,_,_,_,_,e4,_⟩:=hstep i o ho
   exact(e4 hW).1
  have same:∀p n,p+n≤l.length→(∀j,p≤j→j<p+n→inL j Wl=false)→(S p).2=(S (p+n)).2:=by
   intro p n
   induction n with
   |zero=>intro _ _;rfl
   |succ n ih=>
    intro hn hw'
    rw[show p+(n+1)=p+n+1 by omega,keep (p+n) (by omega) (hw' _ (by omega) (by omega))]
    exact ih (by omega) fun j h1 h2=>hw' j h1 (by omega)
  refine⟨?_,?_,?_,?_,?_,keep,?_⟩
  ·intro i hi k hk
   obtain⟨o,ho⟩:∃o,l[i]?=some o:=⟨_,List.getElem?_eq_getElem (by omega)⟩
   unfold dir at hk
   rw[hget,ho]at hk
   simp only[Option.map_some,Option.getD_some,Array.any_eq_true']at hk
   obtain⟨e,he,hb⟩:=hk
   rw[Bool.and_eq_true]at hb
   have hon:e.on=k:=by simpa using hb.2
   rw[← hon]
   exact(hrow i o ho).1 e (by simpa using he) hb.1
  ·intro i j hb L hL hdeps
   unfold zb1 at hb
   rw[zln]at hb
   cases hmj:ms[j]? with
   |none=>simp[List.getD,hmj]at hb
   |some m=>
    have:ms.getD j 0=m:=by simp[List.getD,hmj]
    rw[this]at hb
    exact hmask j m hmj i hb L hL hdeps
  ·intro i j o p d ho hp hne hd hm'
   rw[hget]at ho hp
   have hpr:=(hrow i o ho).2.2 j p hp hne
   have ho':=hpr.dst d hd hm'
   exact⟨fun hlt=>zwj hlt ho',fun hlt=>zr4 hlt ho'⟩
  ·intro i j hlt hj hWi hWj
   obtain⟨oi,hoi⟩:∃o,l[i]?=some o:=⟨_,List.getElem?_eq_getElem (by omega)⟩
   obtain⟨oj,hoj⟩:∃o,l[j]?=some o:=⟨_,List.getElem?_eq_getElem (by omega)⟩
   exact zr4 hlt (((hrow i oi hoi).2.2 j oj hoj (by omega)).ww hWi hWj)
  ·intro i o ho
   rw[hget]at ho
   obtain⟨o',ho',e1,e2,e3,_⟩:=hstep i o ho
   rw[hget,ho]at ho'
   cases ho'
   exact⟨e1,e2,e3⟩
  ·intro i o ho hW p hp hp0 hval
   rw[hget]at ho
   obtain⟨o',ho',_,_,_,e4,_⟩:=hstep i o ho
   rw[hget,ho]at ho'
   cases ho'
   obtain⟨_,e5⟩:=e4 hW
   rcases e5 with e5 |⟨hCi,e5,e6⟩ |hor
   ·exact e5 _ _
   ·refine e5 _ _ ?_
    by_cases hfp:(fpO o.op).isNone=true
    ·refine zPp ?_ _ _
     unfold fpv
     rw[show l.toArray.toList[i]?=some o from ho]
     simp only
     cases hf:fpO o.op with
     |none=>rfl
     |some x=>rw[hf]at hfp;cases hfp
    have hfp':(fpO o.op).isNone=false:=by cases hh:(fpO o.op).isNone <;> first |rfl |exact absurd hh hfp
    have hltl:i<l.length:=(List.getElem?_eq_some_iff.1 ho).1
    by_cases hpi:p≤i
    ·
     by_cases hex:∃q,p≤q∧q<i∧inL q Wl=true
     ·obtain⟨q,⟨h1,h2,h3⟩,hmin⟩:=zt4 hex
      have hsame:=same p (q-p) (by omega) fun j hj1 hj2=>by
       cases hWj:inL j Wl with
       |false=>rfl
       |true=>have:=hmin j ⟨hj1,by omega,hWj⟩;omega
      rw[show p+(q-p)=q by omega]at hsame
      rw[hsame]
      obtain⟨oq,hoq⟩:∃o,l[q]?=some o:=⟨_,List.getElem?_eq_getElem (by omega)⟩
      have hpr:=((hrow i o ho).2.2 q oq hoq (by omega)).rw hW hCi h3 hfp'
      rcases hpr with hpr |hpr
      ·have:=(hval q (by omega) h3).1 (zwj h2 hpr)
       omega
      ·exact e6 q hpr h2
     ·have hsame:=same p (i-p) (by omega) fun j hj1 hj2=>by
       cases hWj:inL j Wl with
       |false=>rfl
       |true=>exact absurd ⟨j,hj1,by omega,hWj⟩ hex
      rw[show p+(i-p)=i by omega]at hsame
      rw[hsame]
      exact znp _ _
    ·
     have key:∀n,i+n≤p→zbu (fpv c l.toArray.toList i (S i).1) (S i).2.1 (S (i+n)).2.1:=by
      intro n
      induction n with
      |zero=>intro _;exact znp _ _
      |succ n ih=>
       intro hn
       have ih:=ih (by omega)
       have hsz':p≤l.length:=by omega
       cases hWm:inL (i+n) Wl with
       |false=>
        rw[show i+(n+1)=i+n+1 by omega,keep (i+n) (by omega) hWm]
        exact ih
       |true=>
        have hne:i≠i+n:=fun e=>by rw[← e]at hWm;rw[hW]at hWm;cases hWm
        obtain⟨om,hom⟩:∃o,l[i+n]?=some o:=⟨_,List.getElem?_eq_getElem (by omega)⟩
        have hpr:=((hrow i o ho).2.2 (i+n) om hom hne).rw hW hCi hWm hfp'
        rcases hpr with hpr |hpr
        ·have:=(hval (i+n) (by omega) hWm).2 (zr4 (by omega) hpr)
         omega
        ·obtain⟨_,_,_,_,_,_,e7⟩:=hstep (i+n) om hom
         have h7:=e7 hWm i hpr (by omega)
         have hfe:=htmk i (i+n) o hpr (by omega) ho (by omega)
         have hfe':fpv c l.toArray.toList i (S (i+n)).1=fpv c l.toArray.toList i (S i).1:=hfe
         rw[hfe']at h7
         exact zRw ih h7
     have:=key (p-i) (by omega)
     rw[show i+(p-i)=p by omega]at this
     exact this
   ·
    have hltl:i<l.length:=(List.getElem?_eq_some_iff.1 ho).1
    have hord:∀q,inL q Wl=true→q≠i→zf2 ms i q=true:=by
     intro q hq hne
     have hmem:q∈Wl:=by
      have:∀(L:List Nat),inL q L=true→q∈L:=by
       intro L
       induction L with
       |nil=>intro e;cases e
       |cons b L ih=>
        intro e
        simp only[inL]at e
        split at e
        ·rename_i hb;rw[Nat.eq_of_beq_eq_true hb];exact List.mem_cons_self
        ·exact List.mem_cons_of_mem _ (ih e)
      exact this Wl hq
     unfold zgo at hor
     have h8:=zbf hor q hmem
     rw[Bool.or_eq_true]at h8
     rcases h8 with h8 |h8
     ·exact absurd (Nat.eq_of_beq_eq_true h8).symm hne
     ·rw[← hms];exact h8
    have hmem:(S p).2=(S i).2:=by
     by_cases hpi:p≤i
     ·have:=same p (i-p) (by omega) fun j h1 h2=>by
       cases hWj:inL j Wl with
       |false=>rfl
       |true=>
        have:=(hval j (by omega) hWj).1 (zwj (by omega) (hord j hWj (by omega)))
        omega
      rw[show p+(i-p)=i by omega]at this
      exact this
     ·have hsz':p≤l.length:=by omega
      have:=same i (p-i) (by omega) fun j h1 h2=>by
       cases hWj:inL j Wl with
       |false=>rfl
       |true=>
        by_cases e:j=i
        ·subst e;rw[hW]at hWj;cases hWj
        ·have:=(hval j (by omega) hWj).2 (zr4 (by omega) (hord j hWj e))
         omega
      rw[show i+(p-i)=p by omega]at this
      exact this.symm
    obtain⟨o'',ho'',e1,_,_,e4',_⟩:=hstep i o ho
    rw[hget,ho]at ho''
    cases ho''
    have e1':=e1
    rw[(e4' hW).1]at e1'
    rw[hmem]
    exact e1'
 exact R
theorem zxq (hc:CxOk P c)(hG:c.G.sym=true){l:List Oper}(Wl Cl:List Nat)(U:List (Nat×Nat))(hstat:zhs c l (zak l []) Wl Cl U=true){K:AS→Prop}{ds:List DE}(hw:awD P c sz l Wl Cl U K l 0 (fun _=>.nil) (.mk tm h nx ds))(r:Option Nat):
  ∃S v bef,S 0=(tm,h,nx)∧K (.mk (S l.length).1 (S l.length).2.1 (S l.length).2.2 ds)∧Dr P c r sz l.toArray S v (fun i=>inL i Wl) bef:=by
 obtain⟨hcl,hWC⟩:=zty hstat
 obtain⟨S,v,q1,_,q3,q4⟩:=zv5 (r:=r) hc hG (ops:=l.toArray) hcl hWC l 0 (fun _=>.nil) tm h nx ds (fun k=>by simp) (by simpa using hw) (fun _=>(tm,h,nx)) (fun _=>.nilFunc) rfl (fun j hj=>by omega)
 rw[Nat.zero_add]at q3
 exact⟨S,v,_,q1 0 (Nat.le_refl _),q3,zss hstat fun j hj=>q4 j (by omega) (by omega)⟩
theorem zbq (hm:P.follows .mixedOrders=true)(hc:CxOk P c)(hG:c.G.sym=true){inr:Bool}{id:Nat}{l:List Oper}(Wl Cl:List Nat)(U:List (Nat×Nat))(hstat:zhs c l (zak l []) Wl Cl U=true){Q:AX→AS→Prop}{s:AS}
  (hw:awD P c sz l Wl Cl U (Q .norm) l 0 (fun _=>.nil) s):AW P c inr sz (.region id l.toArray true) Q s:=by
 intro r hi σ a w ok st
 cases s with
 |mk tm h nx ds=>
 simp only[AS.tm,AS.h,AS.nx,AS.ds]at ok st ⊢
 obtain⟨S,v,bef,hS0,q3,R⟩:=zxq hc hG Wl Cl U hstat hw r
 have hsz:l.toArray.size=l.length:=by simp
 have hfin:=zF8 (ds:=ds) hm R (σ:=σ) (w:=w) (a:=a) (by rw[hS0];exact ok) (by rw[hS0];exact st) id (Q:=Q) (by rw[hsz];exact q3)
 rw[hS0]at hfin
 exact hfin
end
end Go.Ev
namespace Go.Ev
noncomputable section
variable {P : Program} {c : Cx} {σ τ υ : Sg} {h g f : Tr ABlk} {nx ny nz sz : Nat} {ds : List DE} {w x y : World} {tm : Tr AV} {a : Act} {G : Gl}
def putP:List Tmp→List AV→Tr AV→Tr AV
 |t::ps,v::vs,tm=>putP ps vs (tm.put t (some v))
 |_,_,tm=>tm
theorem zEz:∀{ps:List Tmp}{vs:List AV}{VS:List Value}{tm:Tr AV}{T:Array Value},za1 σ vs VS→(∀t∈ps,t<T.size)→(∀t v,tm.get t=some v→Rel σ v (T.getD t undef))→
  ((ps.zip VS).foldl (fun T (p:Tmp×Value)=>T.setIfInBounds p.1 p.2) T).size=T.size∧∀t v,(putP ps vs tm).get t=some v→Rel σ v (((ps.zip VS).foldl (fun T (p:Tmp×Value)=>T.setIfInBounds p.1 p.2) T).getD t undef)
 |[],vs,VS,tm,T,_,_,ht=>by
  cases vs <;> exact⟨rfl,ht⟩
 |t::ps,[],VS,tm,T,hr,_,ht=>by
  simp only[za1]at hr
  subst hr
  exact⟨rfl,ht⟩
 |t::ps,v::vs,VS,tm,T,hr,hs,ht=>by
  simp only[za1]at hr
  obtain⟨V,VS',e,h1,h2⟩:=hr
  subst e
  have hts:t<T.size:=hs t (by simp)
  have:=zEz (ps:=ps) (tm:=tm.put t (some v)) (T:=T.setIfInBounds t V) h2 (fun u hu=>by simp;exact hs u (by simp[hu])) (fun u z hz=>by
   rw[Tr.get_put]at hz
   by_cases e:u=t
   ·subst e
    rw[if_pos rfl]at hz
    cases hz
    simpa[Array.getD_eq_getD_getElem?,hts]using h1
   ·rw[if_neg e]at hz
    have:=ht u z hz
    simpa[Array.getD_eq_getD_getElem?,Array.getElem?_setIfInBounds,Ne.symm e]using this)
  refine⟨?_,?_⟩
  ·simpa using this.1
  ·simpa[putP]using this.2
def zui (i:Nat)(K:AV→Tr ABlk→Nat→Prop):AX→AS→Prop
 |k,.mk _ h nx _=>∃st pend fn sz tm ps x y db,h.get i=some (.loop st pend fn sz tm ps x y db)∧match k with
  |.norm=>K (.bool true) (h.put i (some (.loop .ready none fn sz tm ps x y db))) nx
  |.ret=>K (.bool false) (h.put i (some (.loop .done (some .ret) fn sz tm ps x y db))) nx
  |.exit id=>K (.bool false) (h.put i (some (.loop .done (some (.exit id)) fn sz tm ps x y db))) nx
def zL3 (P:Program)(c:Cx) (sz i:Nat)(body:Code)(K:AV→Tr ABlk→Nat→Prop):AX→AS→Prop
 |.norm,.mk tm h nx ds=>∃pend fn sz' tmR ps x y db,h.get i=some (.loop .ready pend fn sz' tmR ps x y db)∧AW P c true sz body (zui i K) (.mk tm (h.put i (some (.loop .busy pend fn sz' tmR ps x y db))) nx ds)
 |_,_=>False
theorem Ok.loop (hk:Ok G σ h nx w){i st pend fn sz tmR ps x y db}(hi:h.get i=some (.loop st pend fn sz tmR ps x y db)):∃b T d fn',σ.blk i=some b∧w.heap[b]?=some (.loop ⟨st,pend,fn',T,ps,x,y,d⟩)∧T.size=sz∧(∀t v,tmR.get t=some v→Rel σ v (T.getD t undef))∧σ.blk db=some d:=by
 obtain⟨b,o,hb,ho,hr⟩:=hk.blk i _ hi
 simp only[zao]at hr
 obtain⟨T,d,fn',e,h1,h2,h3⟩:=hr
 subst e
 exact⟨b,T,d,fn',hb,ho,h1,h2,h3⟩
theorem Post.setLoop (hk:Ok G σ h nx w){i b st pend fn fn0 sz tmR ps x y db T d}(hi:h.get i=some (.loop st pend fn sz tmR ps x y db))(hb:σ.blk i=some b)(ho:w.heap[b]?=some (.loop ⟨st,pend,fn0,T,ps,x,y,d⟩))(st':LoopState)(pend':Option Code):
  Post G σ h nx w σ (h.put i (some (.loop st' pend' fn sz tmR ps x y db))) nx (w.putObj b (.loop ⟨st',pend',fn0,T,ps,x,y,d⟩)):=by
 refine Post.set hk hi hb _ _ ?_
 obtain⟨b',T',d',fn',hb',ho',h1,h2,h3⟩:=hk.loop hi
 rw[hb]at hb'
 cases hb'
 rw[ho]at ho'
 cases ho'
 simp only[zao]
 exact⟨T,d,fn0,rfl,h1,h2,h3⟩
theorem zow {i:Nat}{pend fn tmR ps assign body db}(hi:h.get i=some (.loop .ready pend fn sz tmR ps assign body db)){args:List AV}(hlen:args.length=ps.size)(hps:∀t∈ps.toList,t<sz){K:AV→Tr ABlk→Nat→Prop}
  (hw:AW P c true sz assign (zL3 P c sz i body K) (.mk (putP ps.toList args tmR) h nx [])):zgp P c i args h nx K:=by
 intro σ w A l hk hA hl
 obtain⟨b,T,d,fn',hb,ho,hT,hTr,hdb⟩:=hk.loop hi
 rw[hl]at hb
 cases hb
 have hAl:=hA.length
 refine⟨fn',_,assign,body,run_yield ho (by simp;omega),?_⟩
 refine roundIn_of_wpIn (F:=Fence.wide) (n:=0) trivial ?_
 have hz:(Array.zip ps A.toArray).foldl (fun T (p:Tmp×Value)=>T.setIfInBounds p.1 p.2) T=(ps.toList.zip A).foldl (fun T (p:Tmp×Value)=>T.setIfInBounds p.1 p.2) T:=by
  rw[← Array.foldl_toList]
  simp
 obtain⟨p1,p2⟩:=zEz (T:=T) (tm:=tmR) hA (fun t ht=>by rw[hT];exact hps t ht) hTr
 have hst:St σ (putP ps.toList args tmR) { tmps:=(Array.zip ps A.toArray).foldl (fun T (p:Tmp×Value)=>T.setIfInBounds p.1 p.2) T,defers:=[] } sz []:=by
  rw[hz]
  exact⟨p2,by rw[p1,hT],rfl⟩
 refine wpIn_mono (hw (some l) (fun e=>by cases e) σ _ w hk hst) fun e a1 w1 q=>?_
 obtain⟨k,tm1,g1,n1,ds1,τ,e1,q1,q2,q3⟩:=q
 cases k <;> try exact q3.elim
 subst e1
 obtain⟨pend1,fn1,sz1,tmR1,ps1,x1,y1,db1,hi1,hbody⟩:=q3
 obtain⟨b1,T1,d1,fn1',hb1,ho1,_,_,_⟩:=q1.ok.loop hi1
 have:b1=l:=by
  have:=(q1.le.blk i l hl).1
  rw[hb1]at this
  cases this
  rfl
 subst this
 refine⟨_,run_beginRound ho1 rfl,?_⟩
 have ps1':=Post.setLoop q1.ok hi1 hb1 ho1 .busy pend1
 refine wpIn_mono (hbody (some b1) (fun e=>by cases e) τ a1 _ ps1'.ok q2) fun e2 a2 w2 q'=>?_
 obtain⟨k2,tm2,g2,n2,ds2,υ,e2',r1,r2,r3⟩:=q'
 obtain⟨st3,pend3,fn3,sz3,tm3,ps3,x3,y3,db3,hi3,hK⟩:=r3
 obtain⟨b3,T3,d3,fn3',hb3,ho3,_,_,_⟩:=r1.ok.loop hi3
 have:b3=b1:=by
  have:=(r1.le.blk i b1 (ps1'.le.blk i b1 hb1).1).1
  rw[hb3]at this
  cases this
  rfl
 subst this
 have tot:=(q1.trans ps1').trans r1
 cases k2 with
 |norm=>
  subst e2'
  have pf:=Post.setLoop r1.ok hi3 hb3 ho3 .ready none
  exact⟨_,_,run_endRound none ho3,υ,.bool true,_,n2,by simp only[Rel];rfl,tot.trans pf,hK⟩
 |ret=>
  subst e2'
  have pf:=Post.setLoop r1.ok hi3 hb3 ho3 .done (some .ret)
  exact⟨_,_,run_endRound (some .ret) ho3,υ,.bool false,_,n2,by simp only[Rel];rfl,tot.trans pf,hK⟩
 |exit id=>
  subst e2'
  have pf:=Post.setLoop r1.ok hi3 hb3 ho3 .done (some (.exit id))
  exact⟨_,_,run_endRound (some (.exit id)) ho3,υ,.bool false,_,n2,by simp only[Rel];rfl,tot.trans pf,hK⟩
def zx4 (tm:Tr AV)(ds:List DE) (nx:Nat)(Q:AX→AS→Prop):AV→Tr ABlk→Nat→Prop
 |_,g,ny=>∃st pend fn sz tmR ps x y db,g.get (nx+1)=some (.loop st pend fn sz tmR ps x y db)∧st≠.busy∧match pend with
  |none=>Q .norm (.mk tm (g.put (nx+1) none) ny (.mark nx::ds))
  |some .ret=>Q .ret (.mk tm (g.put (nx+1) none) ny (.mark nx::ds))
  |some (.exit id)=>Q (.exit id) (.mk tm (g.put (nx+1) none) ny (.mark nx::ds))
  |_=>False
theorem zqj (hc:CxOk P c){go:Operand}{ps:Array Tmp}{assign body:Code}{Q:AX→AS→Prop}{fid:FuncId}{first cap:List AV}{fnn:Func}(hft:c.ft.get fid=some fnn)(hg:evO c.G tm go=some (.func fid first cap))
  {fn0:FuncId} (hw:za7 P c fid (first++([.yld (nx+1)]++cap)) ((h.put nx (some .dfr)).put (nx+1) (some (.loop .ready none fn0 sz tm ps assign body nx))) (nx+1+1) (zx4 tm ds nx Q)):
  AW P c false sz (.rangeFunc go ps assign body) Q (.mk tm h nx ds):=by
 intro r hr σ a w ok st
 obtain rfl:=hr rfl
 simp only[AS.tm,AS.h,AS.nx,AS.ds]at ok st
 obtain⟨_,hcall⟩:=hc.ft fid fnn hft
 refine wpIn_rangeFunc fun fn _=>?_
 have hgv:=zde ok st.tm hg
 simp only[Rel]at hgv
 obtain⟨F,C,e1,r1,r2⟩:=hgv
 have pa:=Post.alloc ok 0 .dfr (.deferred (some [])) (by simp only[zao])
 have hle1:(σ.add nx w.heap.size 0).blk nx=some w.heap.size:=by simp[Sg.add]
 have pb:=Post.alloc pa.ok 0 (.loop .ready none fn0 sz tm ps assign body nx) (.loop ⟨.ready,none,fn,a.tmps,ps,assign,body,w.heap.size⟩) (by
  simp only[zao]
  refine⟨a.tmps,w.heap.size,fn,rfl,st.size,fun t v ht=>?_,?_⟩
  ·exact((st.tm t v ht).mono pa.le).mono (Sg.add_le (pa.ok.fresh _ (Nat.le_refl _)))
  ·simp[Sg.add])
 have pp:=pa.trans pb
 have hsz1:({ w with heap:=w.heap.push (.deferred (some [])) }:World).heap.size=w.heap.size+1:=by simp
 have hly:((σ.add nx w.heap.size 0).add (nx+1) (w.heap.size+1) 0).blk (nx+1)=some (w.heap.size+1):=by simp[Sg.add]
 have hln:((σ.add nx w.heap.size 0).add (nx+1) (w.heap.size+1) 0).blk nx=some w.heap.size:=by simp[Sg.add]
 rw[hsz1]at pb pp
 have hyl:Rel ((σ.add nx w.heap.size 0).add (nx+1) (w.heap.size+1) 0) (.yld (nx+1)) (.func (.yield (w.heap.size+1)) #[] #[]):=by
  simp only[Rel]
  exact⟨_,hly,rfl⟩
 have hinv:∀W:World,(invoke (Target.fn (.func fid) C.toArray) (F.toArray++#[.func (.yield (w.heap.size+1)) #[] #[]])).run P W=.ok (.enter fid (F.toArray++#[.func (.yield (w.heap.size+1)) #[] #[]]++C.toArray)) W:=fun W=>hcall _ W
 have hres:∀W:World,(resolve a.eval (rangeCall go (w.heap.size+1)) 0).run P W=.ok { target:=.fn (.func fid) C.toArray,args:=F.toArray++#[.func (.yield (w.heap.size+1)) #[] #[]] } W:=by
  intro W
  show (Deferred.ofValue (a.eval go) (#[Operand.const (.func (.yield (w.heap.size+1)) #[] #[])].map a.eval)).run P _=_
  have hmap:(#[Operand.const (.func (.yield (w.heap.size+1)) #[] #[])]:Array Operand).map a.eval=#[.func (.yield (w.heap.size+1)) #[] #[]]:=by simp[Act.eval]
  rw[e1,hmap]
  rfl
 refine⟨_,_,_,_,_,_,_,_,run_enterLoop_outer fn a.tmps ps assign body,hres _,fun _ _=>trivial,hinv _,fun hh=>by simp[zbb,Fence.wide]at hh,?_⟩
 ·have hac:=hw _ _ (F++([.func (.yield (w.heap.size+1)) #[] #[]]++C)) pb.ok ((r1.mono pp.le).append (za1.append (by simp only[za1];exact⟨_,[],rfl,hyl,rfl⟩) (r2.mono pp.le)))
  unfold CR at hac
  rw[hcall]at hac
  simp only at hac
  have harr:(F++([Value.func (.yield (w.heap.size+1)) #[] #[]]++C)).toArray=F.toArray++#[Value.func (.yield (w.heap.size+1)) #[] #[]]++C.toArray:=by
   apply Array.ext'
   simp
  rw[harr]at hac
  refine znv (Calls.mono hac fun e x q=>?_)
  cases e with
  |panicked ch=>exact q.elim
  |outgrown=>exact q.elim
  |returned V=>
   obtain⟨τ,v,g',ny',_,q2,st3,pend3,fn3,sz3,tm3,ps3,x3,y3,db3,hi3,hne,hQ⟩:=q
   obtain⟨b3,T3,d3,fn3',hb3,ho3,_,_,_⟩:=q2.ok.loop hi3
   have hb4:b3=w.heap.size+1:=by
    have:=(q2.le.blk (nx+1) _ hly).1
    rw[hb3]at this
    cases this
    rfl
   subst hb4
   refine⟨pend3,_,run_endLoop ho3 hne,?_⟩
   have pk:=Post.kill q2.ok hi3 hb3 (.loop { state:=.exhausted,pending:=pend3,fn:=fn3',tmps:=T3,params:=ps3,assign:=x3,body:=y3,defers:=d3 })
   have tot:=(pp.trans q2).trans pk
   have stf:St τ tm { a with defers:=[{ target:=.collected w.heap.size,args:=#[] }]++a.defers } sz (.mark nx::ds):=by
    have hle:σ.Le τ:=pp.le.trans q2.le
    refine⟨fun t v ht=>(st.tm t v ht).mono hle,st.size,w.heap.size,a.defers,rfl,(q2.le.blk nx _ hln).1,st.defers.mono hle⟩
   cases pend3 with
   |none=>exact⟨.norm,tm,_,ny',.mark nx::ds,τ,rfl,tot,stf,hQ⟩
   |some cd=>
    cases cd <;> try exact hQ.elim
    ·exact wpIn_exit ⟨.exit _,tm,_,ny',.mark nx::ds,τ,rfl,tot,stf,hQ⟩
    ·exact wpIn_ret ⟨.ret,tm,_,ny',.mark nx::ds,τ,rfl,tot,stf,hQ⟩
end
end Go.Ev
namespace Go.Ev
noncomputable section
def sa (P:Program)(t:TypeId):Option (Nat×Bool):=
 match P.underlying t,P.info? t with
 |some d,some i=>some (i.size,isA d)
 |_,_=>none
theorem zEb {P:Program}{t:TypeId}{s:Nat}{b:Bool}(h:sa P t=some (s,b)):TF P t s b:=by
 unfold sa at h
 split at h
 ·rename_i d i hd hi
  cases h
  exact⟨⟨i,hi,rfl⟩,d,hd,rfl⟩
 ·cases h
def fsL (P:Program)(l:List Field):Option (List (Nat×Nat×Bool)):=
 List.rec (motive:=fun _=>Option (List (Nat×Nat×Bool))) (some []) (fun f _ ih=>match sa P f.type with
  |some (s,b)=>match ih with
   |some l=>some ((f.offset,s,b)::l)
   |none=>none
  |none=>none) l
theorem zwv {P:Program}:∀{l:List Field}{fs:List (Nat×Nat×Bool)},fsL P l=some fs→fs.length=l.length∧∀(k o s:Nat)(b:Bool),fs[k]?=some (o,s,b)→∃f:Field,l[k]?=some f∧f.offset=o∧TF P f.type s b
 |[],fs,h=>by cases h;exact⟨rfl,fun k o s b e=>by simp at e⟩
 |f::l,fs,h=>by
  change (match sa P f.type with
   |some (s,b)=>match fsL P l with
    |some l=>some ((f.offset,s,b)::l)
    |none=>none
   |none=>none)=some fs at h
  cases h1:sa P f.type with
  |none=>rw[h1]at h;cases h
  |some p=>
   obtain⟨s0,b0⟩:=p
   rw[h1]at h
   cases h2:fsL P l with
   |none=>rw[h2]at h;cases h
   |some l'=>
    rw[h2]at h
    cases h
    obtain⟨e1,e2⟩:=zwv h2
    refine⟨by simp[e1],fun k o s b e=>?_⟩
    cases k with
    |zero=>
     simp at e
     obtain⟨q1,q2,q3⟩:=e
     subst q1
     subst q2
     subst q3
     exact⟨f,rfl,rfl,zEb h1⟩
    |succ k=>simpa using e2 k o s b (by simpa using e)
def zCd (P:Program)(d:TypeDesc):Option (List (Nat×Nat×Bool)):=
 match d with
 |.struct fields=>fsL P fields.toList
 |.slice e=>match sa P e with |some (s,b)=>some [(0,s,b)] |none=>none
 |.array _ e=>match sa P e with |some (s,b)=>some [(0,s,b)] |none=>none
 |.pointer e=>match sa P e with |some (s,b)=>some [(0,s,b)] |none=>none
 |_=>some []
def zDn (sym:Bool)(i:TypeInfo):Option AV:=
 match i.zero with
 |none=>none
 |some Z=>match Nat.beq Z.cells.toList.length i.size with
  |true=>match sym with
   |true=>zf8 Z
   |false=>ofV Z
  |false=>none
def zju (sym:Bool)(P:Program)(t:TypeId):Option TI:=
 match P.underlying t,P.info? t with
 |some d,some i=>match zCd P d with
  |some fs=>some (.mk d i.size i.bytes (zDn sym i) fs)
  |none=>none
 |_,_=>none
theorem zDl {sym:Bool}{P:Program}{t:TypeId}{ti:TI}(h:zju sym P t=some ti):zav P t ti:=by
 unfold zju at h
 split at h
 ·rename_i d i hd hi
  cases hf:zCd P d with
  |none=>rw[hf]at h;cases h
  |some fs=>
   rw[hf]at h
   cases h
   refine⟨hd,i,hi,rfl,rfl,fun z hz=>?_,fun fields e k o s b hk=>?_,fun fields e=>?_,fun e he o s b hk=>?_⟩
   ·unfold zDn at hz
    cases hz0:i.zero with
    |none=>rw[hz0]at hz;cases hz
    |some Z=>
     rw[hz0]at hz
     simp only at hz
     cases hb:Nat.beq Z.cells.toList.length i.size with
     |false=>rw[hb]at hz;cases hz
     |true=>
      rw[hb]at hz
      have:=Nat.eq_of_beq_eq_true hb
      refine⟨Z,rfl,fun σ=>?_,by simpa using this⟩
      cases sym with
      |true=>exact zE2 hz σ
      |false=>exact zEt hz σ
   ·subst e
    obtain⟨_,e2⟩:=zwv (show fsL P fields.toList=some fs from hf)
    obtain⟨f,f1,f2⟩:=e2 k o s b hk
    exact⟨f,by simpa using f1,f2⟩
   ·subst e
    obtain⟨e1,_⟩:=zwv (show fsL P fields.toList=some fs from hf)
    simpa using e1
   ·have key:∀e,(match sa P e with |some (s,b)=>some [(0,s,b)] |none=>none:Option (List (Nat×Nat×Bool)))=some fs→TF P e s b:=by
     intro e he
     cases hs:sa P e with
     |none=>rw[hs]at he;cases he
     |some p=>
      obtain⟨s0,b0⟩:=p
      rw[hs]at he
      cases he
      simp at hk
      obtain⟨q1,q2,q3⟩:=hk
      subst q2
      subst q3
      exact zEb hs
    rcases he with he |⟨n,he⟩ |he
    ·subst he;exact key e hf
    ·subst he;exact key e hf
    ·subst he;exact key e hf
 ·cases h
def zfx {α β:Type}(g:Nat→Option α) (n:Nat):(Tr α→β)→β:=
 Nat.rec (motive:=fun _=>(Tr α→β)→β) (fun k=>k .nil) (fun i ih k=>ih fun t=>t.putK (g i) i k) n
def tab {α:Type}(g:Nat→Option α) (n:Nat):Tr α:=zfx g n id
theorem zjq {α:Type}(g:Nat→Option α):∀(n:Nat)(β:Type)(k:Tr α→β),zfx g n k=k (tab g n)
 |0,β,k=>rfl
 |n+1,β,k=>by
  show zfx g n (fun t=>t.putK (g n) n k)=k (zfx g n fun t=>t.putK (g n) n id)
  rw[zjq g n,zjq g n,Tr.putK_eq,Tr.putK_eq]
  rfl
theorem zol {α:Type}(g:Nat→Option α):∀(n t:Nat)(x:α),(tab g n).get t=some x→g t=some x
 |0,t,x,h=>by cases h
 |n+1,t,x,h=>by
  have e:tab g (n+1)=(tab g n).put n (g n):=by
   show zfx g n (fun t=>t.putK (g n) n id)=_
   rw[zjq g n,Tr.putK_eq]
   rfl
  rw[e,Tr.get_put]at h
  by_cases h1:t=n
  ·rw[if_pos h1]at h;rw[h1];exact h
  ·rw[if_neg h1]at h;exact zol g n t x h
def zg4 (P:Program) (f:Nat):Option Func:=
 match P.funcs[f]? with
 |some fn=>match fn.body with
  | some _ => match fn.name == "runtime.NumGoroutine" with
   |true=>none
   |false=>some fn
  |none=>none
 |none=>none
theorem zxy {P:Program}{f:Nat}{fn:Func}(h:zg4 P f=some fn):P.funcs[f]?=some fn∧∀args w,(callFunc f args).run P w=.ok (.enter f args) w:=by
 unfold zg4 at h
 cases hf:P.funcs[f]? with
 |none=>rw[hf]at h;cases h
 |some fn'=>
  rw[hf]at h
  simp only at h
  cases hb:fn'.body with
  |none=>rw[hb]at h;cases h
  |some b=>
   rw[hb]at h
   simp only at h
   cases hn : fn'.name == "runtime.NumGoroutine" with
   |true=>rw[hn]at h;cases h
   |false=>
    rw[hn]at h
    cases h
    refine⟨rfl,fun args w=>?_⟩
    simp[callFunc,hf,hn,hb]
    intro e
    rw[e]at hn
    simp at hn
def zl8 (P:Program)(e:TypeId) (k o:Nat)(u:TypeId):Bool:=liesAt P P.depth e k o u 1
theorem zq9 {α:Type}(g:Nat→Option α):∀(n t:Nat),t<n→(tab g n).get t=g t
 |0,t,h=>by omega
 |n+1,t,h=>by
  have e:tab g (n+1)=(tab g n).put n (g n):=by
   show zfx g n (fun t=>t.putK (g n) n id)=_
   rw[zjq g n,Tr.putK_eq]
   rfl
  rw[e,Tr.get_put]
  by_cases h1:t=n
  ·rw[if_pos h1,h1]
  ·rw[if_neg h1,zq9 g n t (by omega)]
def cxS (P:Program)(G:Gl) (nt nf:Nat):Cx:=.mk (tab (zju true P) nt) .nil (tab (zg4 P) nf) G (zl8 P)
theorem zTb (P:Program)(G:Gl) (nt nf:Nat):CxOk P (cxS P G nt nf):=
 ⟨fun t ti h=>zDl (zol _ _ _ _ h),fun t=>trivial,fun e k o u h=>h,fun f fn h=>zxy (zol _ _ _ _ h)⟩
theorem zaq {P:Program}{G:Gl}{nt nf:Nat}{t:TypeId}{ti:TI}(ht:t<nt)(h:zju true P t=some ti):(cxS P G nt nf).tt.get t=some ti:=by
 show (tab (zju true P) nt).get t=_
 rw[zq9 _ _ _ ht];exact h
theorem za9 {P:Program}{G:Gl}{nt nf:Nat}{f:FuncId}{fn:Func}(hf:f<nf)(h:zg4 P f=some fn):(cxS P G nt nf).ft.get f=some fn:=by
 show (tab (zg4 P) nf).get f=_
 rw[zq9 _ _ _ hf];exact h
end
end Go.Ev
