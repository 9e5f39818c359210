/- Texts. -/
import Derived.Test.YtkdnmldmffkkoaaGreatDoorP09
set_option linter.unusedSimpArgs false
set_option linter.unusedVariables false
set_option maxRecDepth 100000
namespace Go.Ev
noncomputable section
variable {P : Program} {c : Cx} {σ τ υ : Sg} {h h' g f : Tr ABlk} {nx ax ny nz sz : Nat} {w x y : World} {tm tm' : Tr AV} {a : Act} {G : Gl} {r : Option Nat}
def wQ (ops:Array Oper)(acc:List Nat):Prop:=∀j m,acc[j]?=some m→∀i,m.testBit i=true→∀l:Array Bool,py ops l→(∀k,fS ops k j=true→l.getD k false=true)→l.getD i false=true
theorem Rj {ops:Array Oper}{acc:List Nat}(ha:wQ ops acc)(l:Array Bool)(hl:py ops l):∀(es:List Edge),(∀e∈es,Region.binds .any e=true→l.getD e.on false=true)→∀i,(uw acc es).testBit i=true→l.getD i false=true
 |[],_,i,hi=>by simp[uw]at hi
 |e::es,sd,i,hi=>by
  change (match Region.binds .any e with
   |true=>Nat.lor (Nat.lor (Nat.pow 2 e.on) (acc.getD e.on 0)) (uw acc es)
   |false=>uw acc es).testBit i=true at hi
  cases hb:Region.binds .any e with
  |false=>
   rw[hb]at hi;exact Rj ha l hl es (fun e' E8=>sd e' (by simp[E8])) i hi
  |true=>
   rw[hb]at hi
   change ((2 ^ e.on ||| acc.getD e.on 0) ||| uw acc es).testBit i=true at hi
   rw[Nat.testBit_or,Nat.testBit_or,Bool.or_eq_true,Bool.or_eq_true]at hi;have x9:=sd e (by simp) hb
   rcases hi with (hi |hi) |hi
   ·rw[Nat.testBit_two_pow]at hi;have:e.on=i:=by simpa using hi
    rw[← this];exact x9
   ·cases hm:acc[e.on]? with
    |none=>simp[List.getD,hm]at hi
    |some m=>
     have:acc.getD e.on 0=m:=by simp[List.getD,hm]
     rw[this]at hi;exact ha e.on m hm i hi l hl fun k hk=>hl e.on x9 k hk
   ·exact Rj ha l hl es (fun e' E8=>sd e' (by simp[E8])) i hi
theorem DK {ops:Array Oper}:∀(l:List Oper)(acc:List Nat),wQ ops acc→(∀j,l[j]?=ops[acc.length+j]?)→wQ ops (bJ l acc)
 |[],acc,ha,_=>ha
 |o::l,acc,ha,hl=>by
  refine DK l (acc++[uw acc o.after.toList]) ?_ fun j=>?_
  ·intro j m hm i hi L hL bd
   by_cases hj:j<acc.length
   ·rw[List.getElem?_append_left hj]at hm;exact ha j m hm i hi L hL bd
   ·rw[List.getElem?_append_right (by omega)]at hm;have hj0:j-acc.length=0:=by
     cases h0:j-acc.length with
     |zero=>rfl
     |succ q=>rw[h0]at hm;simp at hm
    rw[hj0]at hm;simp at hm;subst hm;have zO:j=acc.length:=by omega
    have ho:ops[j]?=some o:=by have:=hl 0;simpa[zO]using this.symm
    refine Rj ha L hL _ (fun e he hb=>bd e.on ?_) i hi;unfold fS;rw[ho];simp only[Option.map_some,Option.getD_some,Array.any_eq_true'];exact⟨e,by simpa using he,by simp[hb]⟩
  ·have:=hl (j+1);simpa[Nat.add_assoc,Nat.add_comm 1 j]using this
theorem dO {α:Type}{f:α→Bool}:∀{l:List α},eg l f=true→∀x∈l,f x=true
 |[],_,x,hx=>by cases hx
 |a::l,h,x,hx=>by
  change (match f a with |true=>eg l f |false=>false)=true at h
  cases hf:f a with
  |false=>rw[hf]at h;cases h
  |true=>
   rw[hf]at h
   rcases List.mem_cons.1 hx with e |e
   ·subst e;exact hf
   ·exact dO h x e
def jk (n:Nat):List Nat:=List.range n
def yA (d:Nat)(l:List Nat):Bool:=List.rec (motive:=fun _=>Bool) false (fun a _ ih=>match Nat.beq a d with |true=>true |false=>ih) l
theorem GY {d:Nat}:∀{l:List Nat},d∈l→yA d l=true
 |[],h=>by cases h
 |a::l,h=>by
  show (match Nat.beq a d with |true=>true |false=>yA d l)=true;cases hb:Nat.beq a d with
  |true=>rfl
  |false=>
   rcases List.mem_cons.1 h with e |e
   ·exact absurd e.symm (mX hb)
   ·exact GY e
def F8 (i j:Nat):List (Nat×Nat)→Bool
 |[]=>false
 |(a,b)::U=>match Nat.beq i a && Nat.beq j b with
  |true=>true
  |false=>F8 i j U
theorem Zk {i j:Nat}:∀{U:List (Nat×Nat)},F8 i j U=true→(i,j)∈U
 |[],e=>by cases e
 |(a,b)::U,e=>by
  simp only[F8]at e;split at e
  ·rename_i hb;rw[al]at hb;rw[ad hb.1,ad hb.2];exact ao
  ·exact ak _ (Zk e)
def PF (ms:List Nat)(Wl Cl:List Nat)(U:List (Nat×Nat)) (i j:Nat)(li:List Tmp)(oi oj:Oper):Bool:=
 match Nat.beq i j with
 |true=>true
 |false=>
  match (match bq i Wl with |true=>bq j Wl |false=>false) with
  |true=>oJ ms i j
  |false=>match (match oj.dst with
    |none=>true
    |some d=>match yA d (li++oi.dst.toList) with
     |true=>oJ ms i j
     |false=>true) with
   |false=>false
   |true=>match bq i Wl || bq i Cl || !(bq j Wl) || (oN oi.op).isNone with
    |true=>true
    |false=>match oJ ms i j with
     |true=>true
     |false=>match F8 i j U with
      |false=>false
      |true=>true
def zzf (ops:List Oper) (a j:Nat)(la:List Tmp):Bool:=
 eg (jk ops.length) fun k=>match Nat.ble a k && Nat.ble (Nat.succ k) j with
  |false=>true
  |true=>match ops[k]? with
   |none=>true
   |some ok=>match ok.dst with
    |none=>true
    |some d=>!(yA d la)
def uT (c:Cx)(ops:List Oper)(ms:List Nat)(Wl Cl:List Nat)(U:List (Nat×Nat)):Bool:=
 eg (jk ops.length) (fun i=>match ops[i]? with
  |none=>true
  |some oi=>match eg oi.after.toList (fun e=>match Region.binds .any e with |true=>Nat.ble (Nat.succ e.on) i |false=>true) with
   |false=>false
   |true=>match (match bq i Cl with |true=>!(bq i Wl) |false=>!(qC oi.op) && (bq i Wl || !(J3 c oi.op))) with
    |false=>false
    |true=>eg (jk ops.length) fun j=>match ops[j]? with
     |none=>true
     |some oj=>PF ms Wl Cl U i j (eP ops oi) oi oj) &&
 eg U (fun p=>match Nat.ble (Nat.succ p.1) p.2 with
  |false=>true
  |true=>match ops[p.1]? with
   |none=>true
   |some oa=>zzf ops p.1 p.2 (eP ops oa)) && eg Cl (fun i=>!(bq i Wl))
theorem KM {ms:List Nat}{i j:Nat}(az:i<j)(ho:oJ ms i j=true):cU ms i j=true:=by
 unfold oJ at ho;have:Nat.ble (Nat.succ j) i=false:=Qo (by omega);rw[this]at ho;exact ho
theorem Si {ms:List Nat}{i j:Nat}(az:j<i)(ho:oJ ms i j=true):cU ms j i=true:=by
 unfold oJ at ho;have:Nat.ble (Nat.succ j) i=true:=Nat.ble_eq_true_of_le (by omega);rw[this]at ho;exact ho
structure PairD (ms:List Nat)(Wl Cl:List Nat)(U:List (Nat×Nat)) (i j:Nat)(li:List Tmp)(oi oj:Oper):Prop where
 ww:bq i Wl=true→bq j Wl=true→oJ ms i j=true
 dst:∀d,oj.dst=some d→(d∈li∨oi.dst=some d)→oJ ms i j=true
 rw:bq i Wl=false→bq i Cl=false→bq j Wl=true→(oN oi.op).isNone=false→oJ ms i j=true∨(i,j)∈U
theorem zPw {ms:List Nat}{Wl Cl:List Nat}{U:List (Nat×Nat)}{i j:Nat}{li:List Tmp}{oi oj:Oper}(aQ:i≠j)(hp:PF ms Wl Cl U i j li oi oj=true):PairD ms Wl Cl U i j li oi oj:=by
 unfold PF at hp;have hb:Nat.beq i j=false:=by
  cases e:Nat.beq i j with
  |false=>rfl
  |true=>exact absurd (ad e) aQ
 rw[hb]at hp;simp only at hp;cases oP:bq i Wl with
 |true=>
  rw[oP]at hp;simp only at hp;cases ly:bq j Wl with
  |true=>
   rw[ly]at hp;simp only at hp;exact⟨fun _ _=>hp,fun _ _ _=>hp,(fun e=>by simp[oP]at e)⟩
  |false=>
   rw[ly]at hp;simp only at hp;refine⟨(fun _ e=>by simp[ly]at e),fun d hd hm=>?_,(fun e=>by simp[oP]at e)⟩;rw[hd]at hp;simp only at hp;have bV:yA d (li++oi.dst.toList)=true:=GY (by
    rw[List.mem_append]
    rcases hm with h1 |h1
    ·exact .inl h1
    ·exact .inr (by rw[h1];simp))
   rw[bV]at hp;simp only at hp;cases ho:oJ ms i j with
   |true=>rfl
   |false=>rw[ho]at hp;cases hp
 |false=>
  rw[oP]at hp;simp only at hp;refine⟨(fun e=>by simp[oP]at e),fun d hd hm=>?_,fun _ hC ly hf=>?_⟩
  ·rw[hd]at hp;simp only at hp;have bV:yA d (li++oi.dst.toList)=true:=GY (by
    rw[List.mem_append]
    rcases hm with h1 |h1
    ·exact .inl h1
    ·exact .inr (by rw[h1];simp))
   rw[bV]at hp;simp only at hp;cases ho:oJ ms i j with
   |true=>rfl
   |false=>rw[ho]at hp;cases hp
  ·split at hp
   ·cases hp
   ·rw[hC,ly,hf]at hp;simp only[Bool.false_or,Bool.not_true]at hp;cases ho:oJ ms i j with
    |true=>exact .inl rfl
    |false=>
     rw[ho]at hp;simp only at hp;cases hu:F8 i j U with
     |true=>exact .inr (Zk hu)
     |false=>rw[hu]at hp;cases hp
theorem zLx {ops:List Oper}{a:Nat}{o:Oper}(ho:ops[a]?=some o)(hs:∀t∈eP ops o,tm.get t=tm'.get t):iZ c ops a tm=iZ c ops a tm':=by
 unfold iZ;rw[ho];simp only;cases hf:oN o.op with
 |none=>rfl
 |some x=>
  show aM c.G tm x=aM c.G tm' x;have hx:x∈o.op.operands.toList:=by
   cases eF:o.op <;> rw[eF]at hf <;> try (cases hf;done)
   case load=>cases hf;simp[Op.operands]
   case lookup=>cases hf;simp[Op.operands]
   case convert=>cases hf;simp[Op.operands]
   case call cl=>
    have:cl.args.toList.head?=some x:=hf;have hm:x∈cl.args.toList:=List.mem_of_mem_head? (by rw[this];rfl);obtain⟨callee,args,ts⟩:=cl;simp only[Op.operands,Call.operands];cases callee <;> simp at hm ⊢ <;> first |exact hm |exact .inr hm
  refine yW (l:=o.op.operands.toList) (fun t ht=>hs t ?_) hx;unfold eP;rw[List.mem_append];exact .inl (List.mem_filterMap.2 ⟨.tmp t,ht,rfl⟩)
theorem zRw {v:Option AV}{h1 h2 h3:Tr ABlk}(a:fM v h1 h2)(b:fM v h2 h3):fM v h1 h3:=by
 unfold fM at *;split
 ·split
  ·rename_i k hk;simp only[hk]at a b;exact b.trans a
  ·trivial
 ·trivial
theorem zPp {v:Option AV}(hv:v=none)(h1 h2:Tr ABlk):fM v h1 h2:=by subst hv;trivial
theorem QB {l:List Oper}{Wl Cl:List Nat}{U:List (Nat×Nat)}{ms:List Nat}(cP:uT c l ms Wl Cl U=true):QC c l Wl Cl∧∀i,bq i Cl=true→bq i Wl=false:=by
 unfold uT at cP;rw[al,al]at cP;obtain⟨⟨hA,hU⟩,TB⟩:=cP;constructor
 ·intro i oi ou hC;have az:i<l.length:=(List.getElem?_eq_some_iff.1 ou).1;have h1:=dO hA i (by simp[jk,az]);rw[ou]at h1;simp only at h1;split at h1
  ·cases h1
  ·split at h1
   ·cases h1
   ·rename_i lA;rw[hC]at lA;simp only[al,Bool.or_eq_true,Bool.not_eq_true']at lA;refine⟨lA.1,fun hW=>?_⟩
    rcases lA.2 with h3 |h3
    ·rw[hW]at h3;cases h3
    ·exact h3
 ·intro i hi;have bV:∀(L:List Nat),bq i L=true→i∈L:=by
   intro L
   induction L with
   |nil=>intro e;cases e
   |cons b L ih=>
    intro e;simp only[bq]at e;split at e
    ·rename_i hb;rw[ad hb];exact ao
    ·exact ak _ (ih e)
  have:=dO TB i (bV Cl hi);simpa using this
theorem PY {l:List Oper}{Wl Cl:List Nat}{U:List (Nat×Nat)}(cP:uT c l (bJ l []) Wl Cl U=true){S:Nat→Tr AV×Tr ABlk×Nat}{v:Nat→AV}{r:Option Nat}(q4:∀j,j<l.length→yM P c r sz l.toArray Wl Cl U S v j):
  Dr P c r sz l.toArray S v (fun i=>bq i Wl) (cU (bJ l [])):=by
 unfold uT at cP;rw[al,al]at cP;obtain⟨⟨hA,hU⟩,TB⟩:=cP;generalize Up:bJ l []=ms at hA hU;have dJ:wQ l.toArray ms:=by
  rw[← Up];refine DK l [] (fun j m hj=>by simp at hj) fun j=>by simp
 have sK:∀i oi,l[i]?=some oi→(∀e∈oi.after.toList,Region.binds .any e=true→e.on<i)∧(bq i Cl=false→qC oi.op=false∧(bq i Wl=false→J3 c oi.op=false))∧∀j oj,l[j]?=some oj→i≠j→PairD ms Wl Cl U i j (eP l oi) oi oj:=by
  intro i oi ou;have az:i<l.length:=(List.getElem?_eq_some_iff.1 ou).1;have h1:=dO hA i (by simp[jk,az]);rw[ou]at h1;simp only at h1;split at h1
  ·cases h1
  ·rename_i hb;split at h1
   ·cases h1
   ·rename_i lA;refine⟨fun e he EK=>?_,fun hC=>?_,fun j oj vS aQ=>?_⟩
    ·have:=dO hb e he;rw[EK]at this;exact ah this
    ·rw[hC]at lA;simp only[al,Bool.or_eq_true,Bool.not_eq_true']at lA;refine⟨lA.1,fun hW=>?_⟩
     rcases lA.2 with h3 |h3
     ·rw[hW]at h3;cases h3
     ·exact h3
    ·have Nx:j<l.length:=(List.getElem?_eq_some_iff.1 vS).1;have:=dO h1 j (by simp[jk,Nx]);rw[vS]at this;exact zPw aQ this
 have eM:∀j o,l[j]?=some o→yM P c r sz l.toArray Wl Cl U S v j:=fun j o ho=>q4 j (List.getElem?_eq_some_iff.1 ho).1;have bI:l.toArray.size=l.length:=by simp
 have bA:∀j,l.toArray[j]?=l[j]?:=fun j=>List.getElem?_toArray;have sP:∀a j o,(a,j)∈U→a<j→l[a]?=some o→∀k,a≤k→k<j→∀o' d,l[k]?=some o'→o'.dst=some d→d ∉ eP l o:=by
  intro a j o vN az ho k cO ei o' d e9 hd bV;have h1:=dO hU (a,j) vN;simp only at h1;rw[Nat.ble_eq_true_of_le (show Nat.succ a≤j by omega),ho]at h1;simp only at h1;unfold zzf at h1;have Ny:k<l.length:=(List.getElem?_eq_some_iff.1 e9).1;have h2:=dO h1 k (by simp[jk,Ny]);simp only[Nat.ble_eq_true_of_le cO,Nat.ble_eq_true_of_le (show Nat.succ k≤j by omega),Bool.and_self,e9,hd]at h2;rw[GY bV]at h2;cases h2
 have Oe:∀a j o,(a,j)∈U→a<j→l[a]?=some o→j<l.length→iZ c l a (S j).1=iZ c l a (S a).1:=by
  intro a j o vN az ho jK;refine zLx ho fun t ht=>?_;have key:∀n,a+n≤j→(S (a+n)).1.get t=(S a).1.get t:=by
   intro n
   induction n with
   |zero=>intro _;rfl
   |succ n ih=>
    intro hn;obtain⟨o',e9⟩:∃o',l[a+n]?=some o':=⟨_,aa (by omega)⟩;obtain⟨o'',sH,_,_,e3,_⟩:=eM (a+n) o' e9;rw[bA,e9]at sH;cases sH;rw[show a+(n+1)=a+n+1 by omega,e3];cases hd:o'.dst with
    |none=>exact ih (by omega)
    |some d=>
     simp only;rw[Tr.get_put,if_neg]
     ·exact ih (by omega)
     ·intro e;subst e;exact sP a j o vN az ho (a+n) (by omega) (by omega) o' t e9 hd ht
  have:=key (j-a) (by omega);rw[show a+(j-a)=j by omega]at this;exact this
 have R:Dr P c r sz l.toArray S v (fun i=>bq i Wl) (cU ms):=by
  have keep:∀i,i<l.toArray.size→bq i Wl=false→(S (i+1)).2=(S i).2:=by
   intro i hi hW;obtain⟨o,ho⟩:∃o,l[i]?=some o:=⟨_,aa (by omega)⟩;obtain⟨_,_,_,_,_,e4,_⟩:=eM i o ho;exact(e4 hW).1
  have same:∀p n,p+n≤l.length→(∀j,p≤j→j<p+n→bq j Wl=false)→(S p).2=(S (p+n)).2:=by
   intro p n
   induction n with
   |zero=>intro _ _;rfl
   |succ n ih=>
    intro hn qQ;rw[show p+(n+1)=p+n+1 by omega,keep (p+n) (by omega) (qQ _ (by omega) (by omega))];exact ih (by omega) fun j h1 h2=>qQ j h1 (by omega)
  refine⟨?_,?_,?_,?_,?_,keep,?_⟩
  ·intro i hi k hk;obtain⟨o,ho⟩:∃o,l[i]?=some o:=⟨_,aa (by omega)⟩;unfold fS at hk;rw[bA,ho]at hk;simp only[Option.map_some,Option.getD_some,Array.any_eq_true']at hk;obtain⟨e,he,hb⟩:=hk;rw[al]at hb;have x9:e.on=k:=by simpa using hb.2
   rw[← x9];exact(sK i o ho).1 e (by simpa using he) hb.1
  ·intro i j hb L hL bd;unfold cU at hb;rw[CV]at hb;cases NF:ms[j]? with
   |none=>simp[List.getD,NF]at hb
   |some m=>
    have:ms.getD j 0=m:=by simp[List.getD,NF]
    rw[this]at hb;exact dJ j m NF i hb L hL bd
  ·intro i j o p d ho hp aQ hd vN;rw[bA]at ho hp;have iF:=(sK i o ho).2.2 j p hp aQ;have e9:=iF.dst d hd vN;exact⟨fun az=>Si az e9,fun az=>KM az e9⟩
  ·intro i j az hj oP ly;obtain⟨oi,ou⟩:∃o,l[i]?=some o:=⟨_,aa (by omega)⟩;obtain⟨oj,vS⟩:∃o,l[j]?=some o:=⟨_,aa (by omega)⟩;exact KM az (((sK i oi ou).2.2 j oj vS (by omega)).ww oP ly)
  ·intro i o ho;rw[bA]at ho;obtain⟨o',e9,e1,e2,e3,_⟩:=eM i o ho;rw[bA,ho]at e9;cases e9;exact⟨e1,e2,e3⟩
  ·intro i o ho hW p hp um dn;rw[bA]at ho;obtain⟨o',e9,_,_,_,e4,_⟩:=eM i o ho;rw[bA,ho]at e9;cases e9;obtain⟨_,e5⟩:=e4 hW
   rcases e5 with e5 |⟨TC,e5,e6⟩ |IB
   ·exact e5 _ _
   ·refine e5 _ _ ?_
    by_cases sg:(oN o.op).isNone=true
    ·refine zPp ?_ _ _;unfold iZ;rw[show l.toArray.toList[i]?=some o from ho];simp only;cases hf:oN o.op with
     |none=>rfl
     |some x=>rw[hf]at sg;cases sg
    have Ff:(oN o.op).isNone=false:=by cases hh:(oN o.op).isNone <;> first |rfl |exact absurd hh sg
    have Nz:i<l.length:=(List.getElem?_eq_some_iff.1 ho).1
    by_cases sJ:p≤i
    ·
     by_cases hex:∃q,p≤q∧q<i∧bq q Wl=true
     ·obtain⟨q,⟨h1,h2,h3⟩,mK⟩:=P8 hex;have cF:=same p (q-p) (by omega) fun j lG eK=>by
       cases ly:bq j Wl with
       |false=>rfl
       |true=>have:=mK j ⟨lG,by omega,ly⟩;omega
      rw[show p+(q-p)=q by omega]at cF;rw[cF];obtain⟨oq,hoq⟩:∃o,l[q]?=some o:=⟨_,aa (by omega)⟩;have iF:=((sK i o ho).2.2 q oq hoq (by omega)).rw hW TC h3 Ff
      rcases iF with iF |iF
      ·have:=(dn q (by omega) h3).1 (Si h2 iF);omega
      ·exact e6 q iF h2
     ·have cF:=same p (i-p) (by omega) fun j lG eK=>by
       cases ly:bq j Wl with
       |false=>rfl
       |true=>exact absurd ⟨j,lG,by omega,ly⟩ hex
      rw[show p+(i-p)=i by omega]at cF;rw[cF];exact GQ _ _
    ·
     have key:∀n,i+n≤p→fM (iZ c l.toArray.toList i (S i).1) (S i).2.1 (S (i+n)).2.1:=by
      intro n
      induction n with
      |zero=>intro _;exact GQ _ _
      |succ n ih=>
       intro hn;have ih:=ih (by omega);have N8:p≤l.length:=by omega
       cases zs:bq (i+n) Wl with
       |false=>
        rw[show i+(n+1)=i+n+1 by omega,keep (i+n) (by omega) zs];exact ih
       |true=>
        have aQ:i≠i+n:=fun e=>by rw[← e]at zs;rw[hW]at zs;cases zs
        obtain⟨om,Co⟩:∃o,l[i+n]?=some o:=⟨_,aa (by omega)⟩;have iF:=((sK i o ho).2.2 (i+n) om Co aQ).rw hW TC zs Ff
        rcases iF with iF |iF
        ·have:=(dn (i+n) (by omega) zs).2 (KM (by omega) iF);omega
        ·obtain⟨_,_,_,_,_,_,e7⟩:=eM (i+n) om Co;have h7:=e7 zs i iF (by omega);have hfe:=Oe i (i+n) o iF (by omega) ho (by omega);have MY:iZ c l.toArray.toList i (S (i+n)).1=iZ c l.toArray.toList i (S i).1:=hfe;rw[MY]at h7;exact zRw ih h7
     have:=key (p-i) (by omega);rw[show i+(p-i)=p by omega]at this;exact this
   ·
    have Nz:i<l.length:=(List.getElem?_eq_some_iff.1 ho).1;have dW:∀q,bq q Wl=true→q≠i→oJ ms i q=true:=by
     intro q hq aQ;have bV:q∈Wl:=by
      have:∀(L:List Nat),bq q L=true→q∈L:=by
       intro L
       induction L with
       |nil=>intro e;cases e
       |cons b L ih=>
        intro e;simp only[bq]at e;split at e
        ·rename_i hb;rw[ad hb];exact ao
        ·exact ak _ (ih e)
      exact this Wl hq
     unfold tj at IB;have h8:=dO IB q bV;rw[Bool.or_eq_true]at h8
     rcases h8 with h8 |h8
     ·exact absurd (ad h8).symm aQ
     ·rw[← Up];exact h8
    have bV:(S p).2=(S i).2:=by
     by_cases sJ:p≤i
     ·have:=same p (i-p) (by omega) fun j h1 h2=>by
       cases ly:bq j Wl with
       |false=>rfl
       |true=>
        have:=(dn j (by omega) ly).1 (Si (by omega) (dW j ly (by omega)));omega
      rw[show p+(i-p)=i by omega]at this;exact this
     ·have N8:p≤l.length:=by omega
      have:=same i (p-i) (by omega) fun j h1 h2=>by
       cases ly:bq j Wl with
       |false=>rfl
       |true=>
        by_cases e:j=i
        ·subst e;rw[hW]at ly;cases ly
        ·have:=(dn j (by omega) ly).2 (KM (by omega) (dW j ly e));omega
      rw[show i+(p-i)=p by omega]at this;exact this.symm
    obtain⟨o'',sH,e1,_,_,tN,_⟩:=eM i o ho;rw[bA,ho]at sH;cases sH;have jY:=e1;rw[(tN hW).1]at jY;rw[bV];exact jY
 exact R
theorem zxq (hc:CxOk P c)(hG:c.G.sym=true){l:List Oper}(Wl Cl:List Nat)(U:List (Nat×Nat))(cP:uT c l (bJ l []) Wl Cl U=true){K:AS→Prop}{ds:List DE}(hw:pK P c sz l Wl Cl U K l 0 (fun _=>.nil) (.mk tm h nx ds))(r:Option Nat):
  ∃S v bef,S 0=(tm,h,nx)∧K (.mk (S l.length).1 (S l.length).2.1 (S l.length).2.2 ds)∧Dr P c r sz l.toArray S v (fun i=>bq i Wl) bef:=by
 obtain⟨aX,ua⟩:=QB cP;obtain⟨S,v,q1,_,q3,q4⟩:=Rg (r:=r) hc hG (ops:=l.toArray) aX ua l 0 (fun _=>.nil) tm h nx ds (fun k=>by simp) (by simpa using hw) (fun _=>(tm,h,nx)) (fun _=>.nilFunc) rfl (fun j hj=>by omega);rw[Nat.zero_add]at q3;exact⟨S,v,_,q1 0 (ae _),q3,PY cP fun j hj=>q4 j (by omega) (by omega)⟩
theorem ik (hm:P.follows .mixedOrders=true)(hc:CxOk P c)(hG:c.G.sym=true){inr:Bool}{id:Nat}{l:List Oper}(Wl Cl:List Nat)(U:List (Nat×Nat))(cP:uT c l (bJ l []) Wl Cl U=true){Q:AX→AS→Prop}{s:AS}
  (hw:pK P c sz l Wl Cl U (Q .norm) l 0 (fun _=>.nil) s):AW P c inr sz (.region id l.toArray true) Q s:=by
 intro r hi σ a w ok st;cases s with
 |mk tm h nx ds=>
 simp only[AS.tm,AS.h,AS.nx,AS.ds]at ok st ⊢;obtain⟨S,v,bef,kg,q3,R⟩:=zxq hc hG Wl Cl U cP hw r;have bI:l.toArray.size=l.length:=by simp
 have ia:=Zu (ds:=ds) hm R (σ:=σ) (w:=w) (a:=a) (by rw[kg];exact ok) (by rw[kg];exact st) id (Q:=Q) (by rw[bI];exact q3);rw[kg]at ia;exact ia
end
end Go.Ev
namespace Go.Ev
noncomputable section
variable {P : Program} {c : Cx} {σ τ υ : Sg} {h g f : Tr ABlk} {nx ny nz sz : Nat} {ds : List DE} {w x y : World} {tm : Tr AV} {a : Act} {G : Gl}
def putP:List Tmp→List AV→Tr AV→Tr AV
 |t::ps,v::vs,tm=>putP ps vs (tm.put t (some v))
 |_,_,tm=>tm
theorem Zm:∀{ps:List Tmp}{vs:List AV}{VS:List Value}{tm:Tr AV}{T:Array Value},aC σ vs VS→(∀t∈ps,t<T.size)→(∀t v,tm.get t=some v→av σ v (T.getD t undef))→
  ((ps.zip VS).foldl (fun T (p:Tmp×Value)=>T.setIfInBounds p.1 p.2) T).size=T.size∧∀t v,(putP ps vs tm).get t=some v→av σ v (((ps.zip VS).foldl (fun T (p:Tmp×Value)=>T.setIfInBounds p.1 p.2) T).getD t undef)
 |[],vs,VS,tm,T,_,_,ht=>by
  cases vs <;> exact⟨rfl,ht⟩
 |t::ps,[],VS,tm,T,hr,_,ht=>by
  simp only[aC]at hr;subst hr;exact⟨rfl,ht⟩
 |t::ps,v::vs,VS,tm,T,hr,hs,ht=>by
  simp only[aC]at hr;obtain⟨V,VS',e,h1,h2⟩:=hr;subst e;have eG:t<T.size:=hs t (by simp);have:=Zm (ps:=ps) (tm:=tm.put t (some v)) (T:=T.setIfInBounds t V) h2 (fun u hu=>by simp;exact hs u (by simp[hu])) (fun u z hz=>by
   rw[Tr.get_put]at hz
   by_cases e:u=t
   ·subst e;rw[if_pos rfl]at hz;cases hz;simpa[Array.getD_eq_getD_getElem?,eG]using h1
   ·rw[if_neg e]at hz;have:=ht u z hz;simpa[Array.getD_eq_getD_getElem?,Array.getElem?_setIfInBounds,Ne.symm e]using this)
  refine⟨?_,?_⟩
  ·simpa using this.1
  ·simpa[putP]using this.2
def QT (i:Nat)(K:AV→Tr ABlk→Nat→Prop):AX→AS→Prop
 |k,.mk _ h nx _=>∃st bh fn sz tm ps x y db,h.get i=some (.loop st bh fn sz tm ps x y db)∧match k with
  |.norm=>K (.bool true) (h.put i (some (.loop .ready none fn sz tm ps x y db))) nx
  |.ret=>K (.bool false) (h.put i (some (.loop .done (some .ret) fn sz tm ps x y db))) nx
  |.exit id=>K (.bool false) (h.put i (some (.loop .done (some (.exit id)) fn sz tm ps x y db))) nx
def zL3 (P:Program)(c:Cx) (sz i:Nat)(body:Code)(K:AV→Tr ABlk→Nat→Prop):AX→AS→Prop
 |.norm,.mk tm h nx ds=>∃bh fn CG ff ps x y db,h.get i=some (.loop .ready bh fn CG ff ps x y db)∧AW P c true sz body (QT i K) (.mk tm (h.put i (some (.loop .busy bh fn CG ff ps x y db))) nx ds)
 |_,_=>False
theorem Ok.loop (hk:Ok G σ h nx w){i st bh fn sz ff ps x y db}(hi:h.get i=some (.loop st bh fn sz ff ps x y db)):∃b T d nV,σ.blk i=some b∧w.heap[b]?=some (.loop ⟨st,bh,nV,T,ps,x,y,d⟩)∧T.size=sz∧(∀t v,ff.get t=some v→av σ v (T.getD t undef))∧σ.blk db=some d:=by
 obtain⟨b,o,hb,ho,hr⟩:=hk.blk i _ hi;simp only[bX]at hr;obtain⟨T,d,nV,e,h1,h2,h3⟩:=hr;subst e;exact⟨b,T,d,nV,hb,ho,h1,h2,h3⟩
theorem Post.setLoop (hk:Ok G σ h nx w){i b st bh fn fn0 sz ff ps x y db T d}(hi:h.get i=some (.loop st bh fn sz ff ps x y db))(hb:σ.blk i=some b)(ho:w.heap[b]?=some (.loop ⟨st,bh,fn0,T,ps,x,y,d⟩))(qw:LoopState)(yl:Option Code):
  Post G σ h nx w σ (h.put i (some (.loop qw yl fn sz ff ps x y db))) nx (w.putObj b (.loop ⟨qw,yl,fn0,T,ps,x,y,d⟩)):=by
 refine Post.set hk hi hb _ _ ?_;obtain⟨b',T',d',nV,aS,e9,h1,h2,h3⟩:=hk.loop hi;rw[hb]at aS;cases aS;rw[ho]at e9;cases e9;simp only[bX];exact⟨T,d,fn0,rfl,h1,h2,h3⟩
theorem Jp {i:Nat}{bh fn ff ps assign body db}(hi:h.get i=some (.loop .ready bh fn sz ff ps assign body db)){args:List AV}(hlen:args.length=ps.size)(hps:∀t∈ps.toList,t<sz){K:AV→Tr ABlk→Nat→Prop}
  (hw:AW P c true sz assign (zL3 P c sz i body K) (.mk (putP ps.toList args ff) h nx [])):tl P c i args h nx K:=by
 intro σ w A l hk hA hl;obtain⟨b,T,d,nV,hb,ho,hT,hTr,hdb⟩:=hk.loop hi;rw[hl]at hb;cases hb;have Tv:=hA.length;refine⟨nV,_,assign,body,run_yield ho (by simp;omega),?_⟩;refine roundIn_of_wpIn (F:=Fence.wide) (n:=0) trivial ?_;have hz:(Array.zip ps A.toArray).foldl (fun T (p:Tmp×Value)=>T.setIfInBounds p.1 p.2) T=(ps.toList.zip A).foldl (fun T (p:Tmp×Value)=>T.setIfInBounds p.1 p.2) T:=by
  rw[← Array.foldl_toList];simp
 obtain⟨p1,p2⟩:=Zm (T:=T) (tm:=ff) hA (fun t ht=>by rw[hT];exact hps t ht) hTr;have aW:St σ (putP ps.toList args ff) { tmps:=(Array.zip ps A.toArray).foldl (fun T (p:Tmp×Value)=>T.setIfInBounds p.1 p.2) T,defers:=[] } sz []:=by
  rw[hz];exact⟨p2,by rw[p1,hT],rfl⟩
 refine wpIn_mono (hw (some l) (fun e=>by cases e) σ _ w hk aW) fun e a1 w1 q=>?_;obtain⟨k,ba,g1,n1,S4,τ,e1,q1,q2,q3⟩:=q;cases k <;> try exact q3.elim
 subst e1;obtain⟨o9,LC,OM,AK,OB,x1,y1,Lz,vE,ES⟩:=q3;obtain⟨b1,T1,d1,qad,xL,Af,_,_,_⟩:=q1.ok.loop vE;have:b1=l:=by
  have:=(q1.le.blk i l hl).1;rw[xL]at this;cases this;rfl
 subst this;refine⟨_,run_beginRound Af rfl,?_⟩;have AI:=Post.setLoop q1.ok vE xL Af .busy o9;refine wpIn_mono (ES (some b1) (fun e=>by cases e) τ a1 _ AI.ok q2) fun e2 a2 w2 q'=>?_;obtain⟨k2,wq,g2,n2,S5,υ,rM,r1,r2,r3⟩:=q';obtain⟨st3,pc,fn3,sz3,tm3,U8,x3,y3,db3,vG,hK⟩:=r3;obtain⟨b3,T3,d3,Eg,od,vR,_,_,_⟩:=r1.ok.loop vG;have:b3=b1:=by
  have:=(r1.le.blk i b1 (AI.le.blk i b1 xL).1).1;rw[od]at this;cases this;rfl
 subst this;have AL:=(q1.trans AI).trans r1;cases k2 with
 |norm=>
  subst rM;have pf:=Post.setLoop r1.ok vG od vR .ready none;exact⟨_,_,run_endRound none vR,υ,.bool true,_,n2,by simp only[av];rfl,AL.trans pf,hK⟩
 |ret=>
  subst rM;have pf:=Post.setLoop r1.ok vG od vR .done (some .ret);exact⟨_,_,run_endRound (some .ret) vR,υ,.bool false,_,n2,by simp only[av];rfl,AL.trans pf,hK⟩
 |exit id=>
  subst rM;have pf:=Post.setLoop r1.ok vG od vR .done (some (.exit id));exact⟨_,_,run_endRound (some (.exit id)) vR,υ,.bool false,_,n2,by simp only[av];rfl,AL.trans pf,hK⟩
def SC (tm:Tr AV)(ds:List DE) (nx:Nat)(Q:AX→AS→Prop):AV→Tr ABlk→Nat→Prop
 |_,g,ny=>∃st bh fn sz ff ps x y db,g.get (nx+1)=some (.loop st bh fn sz ff ps x y db)∧st≠.busy∧match bh with
  |none=>Q .norm (.mk tm (g.put (nx+1) none) ny (.mark nx::ds))
  |some .ret=>Q .ret (.mk tm (g.put (nx+1) none) ny (.mark nx::ds))
  |some (.exit id)=>Q (.exit id) (.mk tm (g.put (nx+1) none) ny (.mark nx::ds))
  |_=>False
theorem Kn (hc:CxOk P c){go:Operand}{ps:Array Tmp}{assign body:Code}{Q:AX→AS→Prop}{fid:FuncId}{first cap:List AV}{LD:Func}(cA:c.ft.get fid=some LD)(hg:aM c.G tm go=some (.func fid first cap))
  {fn0:FuncId} (hw:aN P c fid (first++([.yld (nx+1)]++cap)) ((h.put nx (some .dfr)).put (nx+1) (some (.loop .ready none fn0 sz tm ps assign body nx))) (nx+1+1) (SC tm ds nx Q)):
  AW P c false sz (.rangeFunc go ps assign body) Q (.mk tm h nx ds):=by
 intro r hr σ a w ok st;obtain rfl:=hr rfl;simp only[AS.tm,AS.h,AS.nx,AS.ds]at ok st;obtain⟨_,bg⟩:=hc.ft fid LD cA;refine wpIn_rangeFunc fun fn _=>?_;have xR:=jT ok st.tm hg;simp only[av]at xR;obtain⟨F,C,e1,r1,r2⟩:=xR;have pa:=Post.alloc ok 0 .dfr (.deferred (some [])) (by simp only[bX]);have vM:(σ.add nx w.heap.size 0).blk nx=some w.heap.size:=by simp[Sg.add]
 have pb:=Post.alloc pa.ok 0 (.loop .ready none fn0 sz tm ps assign body nx) (.loop ⟨.ready,none,fn,a.tmps,ps,assign,body,w.heap.size⟩) (by
  simp only[bX];refine⟨a.tmps,w.heap.size,fn,rfl,st.size,fun t v ht=>?_,?_⟩
  ·exact((st.tm t v ht).mono pa.le).mono (Sg.add_le (pa.ok.fresh _ (ae _)))
  ·simp[Sg.add])
 have pp:=pa.trans pb;have lK:({ w with heap:=w.heap.push (.deferred (some [])) }:World).heap.size=w.heap.size+1:=by simp
 have Um:((σ.add nx w.heap.size 0).add (nx+1) (w.heap.size+1) 0).blk (nx+1)=some (w.heap.size+1):=by simp[Sg.add]
 have qe:((σ.add nx w.heap.size 0).add (nx+1) (w.heap.size+1) 0).blk nx=some w.heap.size:=by simp[Sg.add]
 rw[lK]at pb pp;have Oj:av ((σ.add nx w.heap.size 0).add (nx+1) (w.heap.size+1) 0) (.yld (nx+1)) (.func (.yield (w.heap.size+1)) #[] #[]):=by
  simp only[av];exact⟨_,Um,rfl⟩
 have hinv:∀W:World,(invoke (Target.fn (.func fid) C.toArray) (F.toArray++#[.func (.yield (w.heap.size+1)) #[] #[]])).run P W=.ok (.enter fid (F.toArray++#[.func (.yield (w.heap.size+1)) #[] #[]]++C.toArray)) W:=fun W=>bg _ W;have aH:∀W:World,(resolve a.eval (rangeCall go (w.heap.size+1)) 0).run P W=.ok { target:=.fn (.func fid) C.toArray,args:=F.toArray++#[.func (.yield (w.heap.size+1)) #[] #[]] } W:=by
  intro W;show (Deferred.ofValue (a.eval go) (#[Operand.const (.func (.yield (w.heap.size+1)) #[] #[])].map a.eval)).run P _=_;have vP:(#[Operand.const (.func (.yield (w.heap.size+1)) #[] #[])]:Array Operand).map a.eval=#[.func (.yield (w.heap.size+1)) #[] #[]]:=by simp[Act.eval]
  rw[e1,vP];rfl
 refine⟨_,_,_,_,_,_,_,_,run_enterLoop_outer fn a.tmps ps assign body,aH _,fun _ _=>trivial,hinv _,fun hh=>by simp[dD,Fence.wide]at hh,?_⟩
 ·have ub:=hw _ _ (F++([.func (.yield (w.heap.size+1)) #[] #[]]++C)) pb.ok ((r1.mono pp.le).append (aC.append (by simp only[aC];exact⟨_,[],rfl,Oj,rfl⟩) (r2.mono pp.le)));unfold CR at ub;rw[bg]at ub;simp only at ub;have mD:(F++([Value.func (.yield (w.heap.size+1)) #[] #[]]++C)).toArray=F.toArray++#[Value.func (.yield (w.heap.size+1)) #[] #[]]++C.toArray:=by
   apply Array.ext';simp
  rw[mD]at ub;refine GZ (Calls.mono ub fun e x q=>?_);cases e with
  |panicked ch=>exact q.elim
  |outgrown=>exact q.elim
  |returned V=>
   obtain⟨τ,v,g',oy,_,q2,st3,pc,fn3,sz3,tm3,U8,x3,y3,db3,vG,aQ,hQ⟩:=q;obtain⟨b3,T3,d3,Eg,od,vR,_,_,_⟩:=q2.ok.loop vG;have T7:b3=w.heap.size+1:=by
    have:=(q2.le.blk (nx+1) _ Um).1;rw[od]at this;cases this;rfl
   subst T7;refine⟨pc,_,run_endLoop vR aQ,?_⟩;have pk:=Post.kill q2.ok vG od (.loop { state:=.exhausted,pending:=pc,fn:=Eg,tmps:=T3,params:=U8,assign:=x3,body:=y3,defers:=d3 });have AL:=(pp.trans q2).trans pk;have OK:St τ tm { a with defers:=[{ target:=.collected w.heap.size,args:=#[] }]++a.defers } sz (.mark nx::ds):=by
    have hle:σ.Le τ:=pp.le.trans q2.le;refine⟨fun t v ht=>(st.tm t v ht).mono hle,st.size,w.heap.size,a.defers,rfl,(q2.le.blk nx _ qe).1,st.defers.mono hle⟩
   cases pc with
   |none=>exact⟨.norm,tm,_,oy,.mark nx::ds,τ,rfl,AL,OK,hQ⟩
   |some cd=>
    cases cd <;> try exact hQ.elim
    ·exact wpIn_exit ⟨.exit _,tm,_,oy,.mark nx::ds,τ,rfl,AL,OK,hQ⟩
    ·exact wpIn_ret ⟨.ret,tm,_,oy,.mark nx::ds,τ,rfl,AL,OK,hQ⟩
end
end Go.Ev
namespace Go.Ev
noncomputable section
def sa (P:Program)(t:TypeId):Option (Nat×Bool):=
 match P.underlying t,P.info? t with
 |some d,some i=>some (i.size,jN d)
 |_,_=>none
theorem YZ {P:Program}{t:TypeId}{s:Nat}{b:Bool}(h:sa P t=some (s,b)):TF P t s b:=by
 unfold sa at h;split at h
 ·rename_i d i hd hi;cases h;exact⟨⟨i,hi,rfl⟩,d,hd,rfl⟩
 ·cases h
def BZ (P:Program)(l:List Field):Option (List (Nat×Nat×Bool)):=
 List.rec (motive:=fun _=>Option (List (Nat×Nat×Bool))) (some []) (fun f _ ih=>match sa P f.type with
  |some (s,b)=>match ih with
   |some l=>some ((f.offset,s,b)::l)
   |none=>none
  |none=>none) l
theorem Su {P:Program}:∀{l:List Field}{fs:List (Nat×Nat×Bool)},BZ P l=some fs→fs.length=l.length∧∀(k o s:Nat)(b:Bool),fs[k]?=some (o,s,b)→∃f:Field,l[k]?=some f∧f.offset=o∧TF P f.type s b
 |[],fs,h=>by cases h;exact⟨rfl,fun k o s b e=>by simp at e⟩
 |f::l,fs,h=>by
  change (match sa P f.type with
   |some (s,b)=>match BZ P l with
    |some l=>some ((f.offset,s,b)::l)
    |none=>none
   |none=>none)=some fs at h
  cases h1:sa P f.type with
  |none=>rw[h1]at h;cases h
  |some p=>
   obtain⟨s0,b0⟩:=p;rw[h1]at h;cases h2:BZ P l with
   |none=>rw[h2]at h;cases h
   |some l'=>
    rw[h2]at h;cases h;obtain⟨e1,e2⟩:=Su h2;refine⟨by simp[e1],fun k o s b e=>?_⟩;cases k with
    |zero=>
     simp at e;obtain⟨q1,q2,q3⟩:=e;subst q1;subst q2;subst q3;exact⟨f,rfl,rfl,YZ h1⟩
    |succ k=>simpa using e2 k o s b (by simpa using e)
def XU (P:Program)(d:TypeDesc):Option (List (Nat×Nat×Bool)):=
 match d with
 |.struct fields=>BZ P fields.toList
 |.slice e=>match sa P e with |some (s,b)=>some [(0,s,b)] |none=>none
 |.array _ e=>match sa P e with |some (s,b)=>some [(0,s,b)] |none=>none
 |.pointer e=>match sa P e with |some (s,b)=>some [(0,s,b)] |none=>none
 |_=>some []
def YB (sym:Bool)(i:TypeInfo):Option AV:=
 match i.zero with
 |none=>none
 |some Z=>match Nat.beq Z.cells.toList.length i.size with
  |true=>match sym with
   |true=>pA Z
   |false=>ofV Z
  |false=>none
def yJ (sym:Bool)(P:Program)(t:TypeId):Option TI:=
 match P.underlying t,P.info? t with
 |some d,some i=>match XU P d with
  |some fs=>some (.mk d i.size i.bytes (YB sym i) fs)
  |none=>none
 |_,_=>none
theorem Yz {sym:Bool}{P:Program}{t:TypeId}{ti:TI}(h:yJ sym P t=some ti):cJ P t ti:=by
 unfold yJ at h;split at h
 ·rename_i d i hd hi;cases hf:XU P d with
  |none=>rw[hf]at h;cases h
  |some fs=>
   rw[hf]at h;cases h;refine⟨hd,i,hi,rfl,rfl,fun z hz=>?_,fun fields e k o s b hk=>?_,fun fields e=>?_,fun e he o s b hk=>?_⟩
   ·unfold YB at hz;cases IP:i.zero with
    |none=>rw[IP]at hz;cases hz
    |some Z=>
     rw[IP]at hz;simp only at hz;cases hb:Nat.beq Z.cells.toList.length i.size with
     |false=>rw[hb]at hz;cases hz
     |true=>
      rw[hb]at hz;have:=ad hb;refine⟨Z,rfl,fun σ=>?_,by simpa using this⟩;cases sym with
      |true=>exact YQ hz σ
      |false=>exact Zg hz σ
   ·subst e;obtain⟨_,e2⟩:=Su (show BZ P fields.toList=some fs from hf);obtain⟨f,f1,f2⟩:=e2 k o s b hk;exact⟨f,by simpa using f1,f2⟩
   ·subst e;obtain⟨e1,_⟩:=Su (show BZ P fields.toList=some fs from hf);simpa using e1
   ·have key:∀e,(match sa P e with |some (s,b)=>some [(0,s,b)] |none=>none:Option (List (Nat×Nat×Bool)))=some fs→TF P e s b:=by
     intro e he;cases hs:sa P e with
     |none=>rw[hs]at he;cases he
     |some p=>
      obtain⟨s0,b0⟩:=p;rw[hs]at he;cases he;simp at hk;obtain⟨q1,q2,q3⟩:=hk;subst q2;subst q3;exact YZ hs
    rcases he with he |⟨n,he⟩ |he
    ·subst he;exact key e hf
    ·subst he;exact key e hf
    ·subst he;exact key e hf
 ·cases h
def qY {α β:Type}(g:Nat→Option α) (n:Nat):(Tr α→β)→β:=
 Nat.rec (motive:=fun _=>(Tr α→β)→β) (fun k=>k .nil) (fun i ih k=>ih fun t=>t.putK (g i) i k) n
def tab {α:Type}(g:Nat→Option α) (n:Nat):Tr α:=qY g n id
theorem yF {α:Type}(g:Nat→Option α):∀(n:Nat)(β:Type)(k:Tr α→β),qY g n k=k (tab g n)
 |0,β,k=>rfl
 |n+1,β,k=>by
  show qY g n (fun t=>t.putK (g n) n k)=k (qY g n fun t=>t.putK (g n) n id);rw[yF g n,yF g n,Tr.putK_eq,Tr.putK_eq];rfl
theorem Ht {α:Type}(g:Nat→Option α):∀(n t:Nat)(x:α),(tab g n).get t=some x→g t=some x
 |0,t,x,h=>by cases h
 |n+1,t,x,h=>by
  have e:tab g (n+1)=(tab g n).put n (g n):=by
   show qY g n (fun t=>t.putK (g n) n id)=_;rw[yF g n,Tr.putK_eq];rfl
  rw[e,Tr.get_put]at h
  by_cases h1:t=n
  ·rw[if_pos h1]at h;rw[h1];exact h
  ·rw[if_neg h1]at h;exact Ht g n t x h
def rj (P:Program) (f:Nat):Option Func:=
 match P.funcs[f]? with
 |some fn=>match fn.body with
  | some _ => match fn.name == "runtime.NumGoroutine" with
   |true=>none
   |false=>some fn
  |none=>none
 |none=>none
theorem zxy {P:Program}{f:Nat}{fn:Func}(h:rj P f=some fn):P.funcs[f]?=some fn∧∀args w,(callFunc f args).run P w=.ok (.enter f args) w:=by
 unfold rj at h;cases hf:P.funcs[f]? with
 |none=>rw[hf]at h;cases h
 |some nV=>
  rw[hf]at h;simp only at h;cases hb:nV.body with
  |none=>rw[hb]at h;cases h
  |some b=>
   rw[hb]at h;simp only at h
   cases hn : nV.name == "runtime.NumGoroutine" with
   |true=>rw[hn]at h;cases h
   |false=>
    rw[hn]at h;cases h;refine⟨rfl,fun args w=>?_⟩;simp[callFunc,hf,hb];intro e;rw[e]at hn;simp at hn
def Bv (P:Program)(e:TypeId) (k o:Nat)(u:TypeId):Bool:=liesAt P P.depth e k o u 1
theorem Kc {α:Type}(g:Nat→Option α):∀(n t:Nat),t<n→(tab g n).get t=g t
 |0,t,h=>by omega
 |n+1,t,h=>by
  have e:tab g (n+1)=(tab g n).put n (g n):=by
   show qY g n (fun t=>t.putK (g n) n id)=_;rw[yF g n,Tr.putK_eq];rfl
  rw[e,Tr.get_put]
  by_cases h1:t=n
  ·rw[if_pos h1,h1]
  ·rw[if_neg h1,Kc g n t (by omega)]
def HY (P:Program)(G:Gl) (nt nf:Nat):Cx:=.mk (tab (yJ true P) nt) .nil (tab (rj P) nf) G (Bv P)
theorem zTb (P:Program)(G:Gl) (nt nf:Nat):CxOk P (HY P G nt nf):=
 ⟨fun t ti h=>Yz (Ht _ _ _ _ h),fun t=>trivial,fun e k o u h=>h,fun f fn h=>zxy (Ht _ _ _ _ h)⟩
theorem bY {P:Program}{G:Gl}{nt nf:Nat}{t:TypeId}{ti:TI}(ht:t<nt)(h:yJ true P t=some ti):(HY P G nt nf).tt.get t=some ti:=by
 show (tab (yJ true P) nt).get t=_;rw[Kc _ _ _ ht];exact h
theorem aT {P:Program}{G:Gl}{nt nf:Nat}{f:FuncId}{fn:Func}(hf:f<nf)(h:rj P f=some fn):(HY P G nt nf).ft.get f=some fn:=by
 show (tab (rj P) nf).get f=_;rw[Kc _ _ _ hf];exact h
end
end Go.Ev
