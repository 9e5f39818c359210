/- Texts. -/
import Derived.Test.YtkdnmldmffkkoaaGreatDoorP11
import Derived.Test.YtkdnmldmffkkoaaGreatDoorP15
set_option linter.unusedSimpArgs false
set_option linter.unusedVariables false
set_option maxRecDepth 100000
namespace Go.Ev
noncomputable section
variable {P : Program} {c : Cx} {σ τ υ : Sg} {h h' g f : Tr ABlk} {nx ax ny nz sz : Nat} {ds : List DE} {w x y : World} {tm tm' : Tr AV} {a : Act} {G : Gl} {r : Option Nat}
def kZ (us:Nat→AV):List (Nat×Nat)→Tr AV→Tr AV
 |[],tm=>tm
 |p::fl,tm=>(kZ us fl tm).put p.2 (some (us p.1))
def Bt:List (Nat×Nat)→Tr AV→Tr AV
 |[],tm=>tm
 |p::fl,tm=>(Bt fl tm).put p.2 none
def Y9 (us:Nat→AV)(fl:List (Nat×Nat)):AS→AS
 |.mk tm h nx ds=>.mk (kZ us fl tm) h nx ds
def yI (c:Cx)(l:List Oper)(us:Nat→AV)(kW:Tr AV)(h:Tr ABlk) (nx:Nat):List (Nat×Nat)→Prop
 |[]=>True
 |p::fl=>(match l[p.1]? with
  |some o=>gU c o.op kW h nx=.val (us p.1) h nx
  |none=>False)∧yI c l us kW h nx fl
def AJ (need fw:List (Nat×Nat)):List (Nat×Nat):=fw.filter fun p=>!(need.any fun q=>Nat.beq q.1 p.1)
def rE (P:Program)(c:Cx) (sz:Nat)(l:List Oper)(us:Nat→AV)(kW:Tr AV)(K:AS→Prop):List (Nat×List (Nat×Nat))→List (Nat×Nat)→AS→Prop
 |[],fw,s=>yI c l us kW s.h s.nx fw∧K (Y9 us fw s)
 |q::rest,fw,s=>yI c l us kW s.h s.nx fw∧match l[q.1]? with
  |some o=>cz P c sz l o (fun s'=>rE P c sz l us kW K rest (AJ q.2 fw) s') (Y9 us q.2 s)
  |none=>False
section
variable (P : Program) (c : Cx) (sz : Nat) (l : List Oper) (us : Nat → AV) (kW : Tr AV) (K : AS → Prop) (fw need : List (Nat × Nat)) (rest : List (Nat × List (Nat × Nat))) (i : Nat) (tm : Tr AV) (h : Tr ABlk) (nx : Nat) (ds : List DE)
@[go_sem ↓] theorem zVi:rE P c sz l us kW K [] fw (.mk tm h nx ds)=(yI c l us kW h nx fw∧K (.mk (kZ us fw tm) h nx ds)):=rfl
@[go_sem ↓] theorem ycl:rE P c sz l us kW K ((i,need)::rest) fw (.mk tm h nx ds)=(yI c l us kW h nx fw∧match l[i]? with
  |some o=>cz P c sz l o (fun s'=>rE P c sz l us kW K rest (AJ need fw) s') (.mk (kZ us need tm) h nx ds)
  |none=>False):=rfl
attribute [go_sem] yI kZ Bt AJ
end
def yf (k:Nat)(l:List Nat):Bool:=l.any fun j=>Nat.beq j k
def US (o:Oper):Bool:=match o.guard with |none=>true |some _=>false
def PH (l:List Oper)(ms:List Nat)(fl:List (Nat×Nat))(bB:List (Nat×List (Nat×Nat))):Bool:=
 eg l (fun o=>US o && !(qC o.op)) &&
 eg (jk l.length) (fun k=>(yf k (fl.map (·.1)) || yf k (bB.map (·.1))) && (match l[k]? with
  |none=>true
  |some o=>eg o.after.toList (fun e=>match Region.binds .any e with |true=>Nat.ble (Nat.succ e.on) k |false=>true))) &&
 eg fl (fun p=>!(yf p.1 (bB.map (·.1))) && (match l[p.1]? with
  |none=>false
  |some o=>(match o.dst with |some d=>Nat.beq d p.2 |none=>false) && eg (jk l.length) (fun k=>match l[k]? with
   |none=>true
   |some ok=>(Nat.beq k p.1 || Dd ok p.2) && eg o.op.operands.toList (fun x=>match x with
    |.tmp t=>Dd ok t || (yf k (fl.map (·.1)) && cU ms k p.1)
    |_=>true)))) &&
 eg bB (fun q=>eg q.2 (fun p=>fl.any (fun p'=>Nat.beq p'.1 p.1 && Nat.beq p'.2 p.2) && cU ms p.1 q.1)) &&
 eg (jk bB.length) (fun m=>match bB[m]?,bB[m+1]? with
  |some q,some q'=>cU ms q.1 q'.1
  |_,_=>true)
structure FloatOk (l:List Oper)(ms:List Nat)(fl:List (Nat×Nat))(bB:List (Nat×List (Nat×Nat))):Prop where
 guard:∀o∈l,o.guard=none∧qC o.op=false
 all:∀k,k<l.length→(∃d,(k,d)∈fl)∨∃(m:Nat) (q:Nat×List (Nat×Nat)),bB[m]?=some q∧q.1=k
 back:∀k o,l[k]?=some o→∀e∈o.after.toList,Region.binds .any e=true→e.on<k
 sep:∀p∈fl,∀q∈bB,q.1≠p.1
 dst:∀p∈fl,∃o,l[p.1]?=some o∧o.dst=some p.2∧(∀k ok,l[k]?=some ok→k≠p.1→ok.dst≠some p.2)∧∀t,Operand.tmp t∈o.op.operands.toList→∀k ok,l[k]?=some ok→ok.dst=some t→(∃d,(k,d)∈fl)∧cU ms k p.1=true
 need:∀q∈bB,∀p∈q.2,p∈fl∧cU ms p.1 q.1=true
 ord:∀(m:Nat) (q q':Nat×List (Nat×Nat)),bB[m]?=some q→bB[m+1]?=some q'→cU ms q.1 q'.1=true
theorem J1 {k:Nat}{l:List Nat}:yf k l=true↔k∈l:=by
 unfold yf;rw[List.any_eq_true];constructor
 ·rintro⟨j,h1,h2⟩
  rw[← ad h2];exact h1
 ·intro h;exact⟨k,h,Nat.beq_refl k⟩
theorem zOk {l:List Oper}{ms:List Nat}{fl:List (Nat×Nat)}{bB:List (Nat×List (Nat×Nat))}(hf:PH l ms fl bB=true):FloatOk l ms fl bB:=by
 unfold PH at hf;simp only[al]at hf;obtain⟨⟨⟨⟨h1,h2⟩,h3⟩,h4⟩,h5⟩:=hf;refine⟨fun o ho=>?_,fun k hk=>?_,fun k o ho e he hb=>?_,fun p hp q hq e=>?_,fun p hp=>?_,fun q hq p hp=>?_,fun m q q' e1 e2=>?_⟩
 ·have:=dO h1 o ho;rw[al]at this;refine⟨?_,by simpa using this.2⟩;have h:=this.1;unfold US at h;cases hg:o.guard with
  |none=>rfl
  |some _=>rw[hg]at h;cases h
 ·have:=dO h2 k (List.mem_range.2 hk);rw[al,Bool.or_eq_true]at this
  rcases this.1 with e |e
  ·obtain⟨p,hp,rfl⟩:=List.mem_map.1 (J1.1 e);exact .inl ⟨p.2,hp⟩
  ·obtain⟨q,hq,rfl⟩:=List.mem_map.1 (J1.1 e);obtain⟨m,hm,e2⟩:=List.getElem_of_mem hq;exact .inr ⟨m,q,by rw[aa hm,e2],rfl⟩
 ·have hk:k<l.length:=(List.getElem?_eq_some_iff.1 ho).1;have:=dO h2 k (List.mem_range.2 hk);rw[al]at this;have h6:=this.2;rw[ho]at h6;have:=dO h6 e he;rw[hb]at this;exact ah this
 ·have:=dO h3 p hp;rw[al]at this;have h6:yf p.1 (bB.map (·.1))=false:=by simpa using this.1
  have:yf p.1 (bB.map (·.1))=true:=J1.2 (List.mem_map.2 ⟨q,hq,e⟩);rw[h6]at this;cases this
 ·have:=dO h3 p hp;rw[al]at this;have h6:=this.2;cases ho:l[p.1]? with
  |none=>rw[ho]at h6;cases h6
  |some o=>
   rw[ho]at h6;simp only[al]at h6;obtain⟨h7,h8⟩:=h6;refine⟨o,rfl,?_,fun k ok hk aQ=>?_,fun t ht k ok hk hd=>?_⟩
   ·cases hd:o.dst with
    |none=>rw[hd]at h7;cases h7
    |some d=>rw[hd]at h7;rw[ad h7]
   ·have az:k<l.length:=(List.getElem?_eq_some_iff.1 hk).1;have:=dO h8 k (List.mem_range.2 az);rw[hk]at this;simp only[al,Bool.or_eq_true]at this
    rcases this.1 with e |e
    ·exact absurd (ad e) aQ
    ·exact KN e
   ·have az:k<l.length:=(List.getElem?_eq_some_iff.1 hk).1;have:=dO h8 k (List.mem_range.2 az);rw[hk]at this;simp only[al]at this;have:=dO this.2 _ ht;simp only[Bool.or_eq_true,al]at this
    rcases this with e |⟨e1,e2⟩
    ·exact absurd hd (KN e)
    ·obtain⟨p',fW,e3⟩:=List.mem_map.1 (J1.1 e1);exact⟨⟨p'.2,by rw[← e3];exact fW⟩,e2⟩
 ·have:=dO (dO h4 q hq) p hp;rw[al,List.any_eq_true]at this;obtain⟨⟨p',fW,e⟩,h6⟩:=this;rw[al]at e;have:p'=p:=Prod.ext (ad e.1) (ad e.2);exact⟨this ▸ fW,h6⟩
 ·have hm:m<bB.length:=(List.getElem?_eq_some_iff.1 e1).1;have:=dO h5 m (List.mem_range.2 hm);rw[e1,e2]at this;exact this
theorem DJ (us:Nat→AV) (t:Nat):∀(fl:List (Nat×Nat))(tm:Tr AV),(∀p∈fl,p.2≠t)→(kZ us fl tm).get t=tm.get t
 |[],tm,_=>rfl
 |p::fl,tm,hh=>by
  rw[kZ,Tr.get_put,if_neg (fun e=>hh p ao e.symm),DJ us t fl tm fun q hq=>hh q (ak _ hq)]
theorem Kk (us:Nat→AV){p:Nat×Nat}:∀(fl:List (Nat×Nat))(tm:Tr AV),(∀q∈fl,q.2=p.2→q.1=p.1)→p∈fl→(kZ us fl tm).get p.2=some (us p.1)
 |[],tm,_,hp=>by cases hp
 |q::fl,tm,hh,hp=>by
  rw[kZ,Tr.get_put]
  by_cases e:p.2=q.2
  ·rw[if_pos e,hh q ao e.symm]
  ·rw[if_neg e]
   rcases List.mem_cons.1 hp with h1 |h1
   ·exact absurd (by rw[h1]) e
   ·exact Kk us fl tm (fun q' qj=>hh q' (ak _ qj)) h1
theorem Ky (t:Nat):∀(fl:List (Nat×Nat))(tm:Tr AV),(Bt fl tm).get t=if t∈fl.map (·.2) then none else tm.get t
 |[],tm=>by simp[Bt]
 |p::l,tm=>by
  rw[Bt,Tr.get_put,Ky t l tm]
  by_cases e:t=p.2
  ·simp[e]
  ·simp only[List.map_cons,List.mem_cons,e,false_or,if_false]
theorem YR {l:List Oper}{us:Nat→AV}{kW:Tr AV}{p:Nat×Nat}{o:Oper}(ho:l[p.1]?=some o):∀{fl:List (Nat×Nat)},yI c l us kW h nx fl→p∈fl→gU c o.op kW h nx=.val (us p.1) h nx
 |[],_,hp=>by cases hp
 |q::fl,hs,hp=>by
  rcases List.mem_cons.1 hp with h1 |h1
  ·subst h1;have:=hs.1;rw[ho]at this;exact this
  ·exact YR ho hs.2 h1
def yN (tm:Tr AV):List Operand→Tr AV
 |[]=>.nil
 |x::l=>match x with
  |.tmp t=>(yN tm l).put t (tm.get t)
  |_=>yN tm l
theorem Jz (tm:Tr AV) (t:Nat):∀l:List Operand,(Operand.tmp t∈l→(yN tm l).get t=tm.get t)∧(¬Operand.tmp t∈l→(yN tm l).get t=none)
 |[]=>⟨(fun h=>by cases h),(fun _=>by rw[yN];rfl)⟩
 |x::l=>by
  obtain⟨h1,h2⟩:=Jz tm t l;cases x with
  |tmp s=>
   rw[yN,Tr.get_put]
   by_cases e:t=s
   ·subst e;exact⟨fun _=>by rw[if_pos rfl],fun q=>absurd ao q⟩
   ·rw[if_neg e];refine⟨fun q=>h1 ?_,fun q=>h2 fun q2=>q (ak _ q2)⟩
    rcases List.mem_cons.1 q with q |q
    ·cases q;exact absurd rfl e
    ·exact q
  |_=>
   refine⟨fun q=>h1 ?_,fun q=>h2 fun q2=>q (ak _ q2)⟩
   rcases List.mem_cons.1 q with q |q
   ·cases q
   ·exact q
structure FInv (P:Program)(c:Cx) (sz:Nat)(l:List Oper)(us:Nat→AV)(fl:List (Nat×Nat))(bB:List (Nat×List (Nat×Nat)))(dZ kW:Tr AV)(K:AS→Prop)(σ0:Sg)(h0:Tr ABlk) (n0:Nat)(w0:World)(ds:List DE)(L:Array Bool)(a:Act)(w:World):Prop where
 ex:∃m fw τ tm h nx,(∀q p,bB[q]?=some p→(L.getD p.1 false=true↔q<m))∧rE P c sz l us kW K (bB.drop m) fw (.mk tm h nx ds)∧Post c.G σ0 h0 n0 w0 τ h nx w∧St τ tm a sz ds∧
  (∀p∈fl,L.getD p.1 false=true→av τ (us p.1) (a.tmps.getD p.2 undef))∧(∀p∈fw,p∈fl∧tm.get p.2=none)∧(∀p∈fl,¬p∈fw→L.getD p.1 false=true)∧(∀t,(∀o∈l,o.dst≠some t)→tm.get t=dZ.get t)
theorem Ls (hm:P.follows .mixedOrders=true)(hc:CxOk P c){inr:Bool}{id:Nat}{l:List Oper}(us:Nat→AV)(fl:List (Nat×Nat))(bB:List (Nat×List (Nat×Nat)))(hB:PH l (bJ l []) fl bB=true){Q:AX→AS→Prop}{tm:Tr AV}{h:Tr ABlk}{nx:Nat}{ds:List DE}
  (az:∀p∈fl,p.2<sz) (hw:rE P c sz l us (kZ us fl tm) (Q .norm) bB fl (.mk (Bt fl tm) h nx ds)):AW P c inr sz (.region id l.toArray true) Q (.mk tm h nx ds):=by
 intro r hi σ a w ok st;simp only[AS.tm,AS.h,AS.nx,AS.ds]at ok st ⊢;have X:=zOk hB;have dJ:wQ l.toArray (bJ l []):=DK l [] (fun j m hj=>by simp at hj) fun j=>by simp
 have fF:(bJ l []).length=l.length:=by
  have key:∀(l:List Oper) (acc:List Nat),(bJ l acc).length=acc.length+l.length:=by
   intro l
   induction l with
   |nil=>intro acc;rfl
   |cons o l ih=>
    intro acc;show (bJ l (acc++[uw acc o.after.toList])).length=_;rw[ih];simp;omega
  simpa using key l []
 refine wpIn_region_any hm ?_;have iQ:=Post.drawn ok (w.drawn+1);generalize hQ:AQ c.G σ h nx w sz Q=QQ;have bI:l.toArray.size=l.length:=by simp
 have bA:∀j,l.toArray[j]?=l[j]?:=fun j=>List.getElem?_toArray;have dA:∀n i,(Array.replicate n false).getD i false=false:=by
  intro n i;simp only[Array.getD_eq_getD_getElem?,Array.getElem?_replicate];split <;> rfl
 have kH:∀k,k<l.toArray.size→∀x,fS l.toArray x k=true→x<k:=by
  intro k hk x hd;rw[bI]at hk;unfold fS at hd;rw[bA,aa hk]at hd;simp only[Option.map_some,Option.getD_some,Array.any_eq_true']at hd;obtain⟨e,he,hb⟩:=hd;rw[al]at hb;have x9:e.on=x:=by simpa using hb.2
  rw[← x9];exact X.back k _ (aa hk) e (by simpa using he) hb.1
 have mP:∀p∈fl,∀q∈fl,q.2=p.2→q.1=p.1:=by
  intro p hp q hq e;obtain⟨o,o1,o2,o3,_⟩:=X.dst p hp;obtain⟨o',ux,wi,_⟩:=X.dst q hq
  by_cases e2:q.1=p.1
  ·exact e2
  ·exact absurd (by rw[wi,e]) (o3 q.1 o' ux e2)
 have FN:∀p∈fl,∃o∈l,o.dst=some p.2:=by
  intro p hp;obtain⟨o,o1,o2,_⟩:=X.dst p hp;exact⟨o,List.mem_of_getElem? o1,o2⟩
 let I:Array Bool→Act→World→Prop:=fun L a' w'=>py l.toArray L∧FInv P c sz l us fl bB tm (kZ us fl tm) (Q .norm) σ h nx w ds L a' w'
 have dU:∀(L:Array Bool) (i:Nat),i<L.size→py l.toArray L→(∀k,fS l.toArray k i=true→L.getD k false=true)→py l.toArray (L.setIfInBounds i true):=by
  intro L i iD aX bd j hj k aU;rw[yH iD]at hj ⊢
  by_cases pZ:k=i
  ·rw[if_pos pZ]
  ·rw[if_neg pZ]
   by_cases eD:j=i
   ·subst eD;exact bd k aU
   ·rw[if_neg eD]at hj;exact aX j hj k aU
 refine KJ I ?step ?done l.toArray.size _ a _ (by simp) ?count ?init
 case count=>simp
 case init=>
  refine⟨(fun j hj=>by rw[dA]at hj;cases hj),⟨0,fl,σ,Bt fl tm,h,nx,fun q p e=>⟨fun e2=>(by rw[dA]at e2;cases e2),fun e2=>by omega⟩,by simpa using hw,iQ,⟨fun t u e=>?_,st.size,st.defers⟩,fun p hp e=>(by rw[dA]at e;cases e),fun p hp=>⟨hp,?_⟩,fun p hp e=>absurd hp e,fun t ht=>?_⟩⟩
  ·rw[Ky]at e;split at e
   ·cases e
   ·exact st.tm t u e
  ·rw[Ky,if_pos (List.mem_map.2 ⟨p,hp,rfl⟩)]
  ·rw[Ky,if_neg];intro kN;obtain⟨p,hp,rfl⟩:=List.mem_map.1 kN;obtain⟨o,ho,hd⟩:=FN p hp;exact ht o ho hd
 case done=>
  intro L a' w' hs hI hr;have aR:=Lj kH hr hs;obtain⟨_,m,fw,τ,tm',h',ax,i1,i2,i3,i4,i5,i6,i7,i8⟩:=hI;have Iz:bB.length≤m:=by
   rcases Nat.lt_or_ge m bB.length with dj |lD
   ·exfalso;have e:=aa dj
    by_cases hk:(bB[m]).1<l.length
    ·have:=(i1 m _ e).1 (aR _ (by rw[bI];exact hk));omega
    ·rw[aj dj,rE]at i2;have:=i2.2;rw[List.getElem?_eq_none (by omega)]at this;exact this
   ·exact lD
  rw[aq Iz,rE]at i2;rw[← hQ];refine⟨.norm,_,_,_,ds,τ,rfl,i3,⟨fun t u e=>?_,i4.size,i4.defers⟩,i2.2⟩
  by_cases hp:∃p∈fw,p.2=t
  ·obtain⟨p,hp,rfl⟩:=hp;rw[Kk us fw tm' (fun q hq e=>mP p (i6 p hp).1 q (i6 q hq).1 e) hp]at e;cases e;obtain⟨o,o1,_⟩:=X.dst p (i6 p hp).1;exact i5 p (i6 p hp).1 (aR _ (by rw[bI];exact(List.getElem?_eq_some_iff.1 o1).1))
  ·rw[DJ us t fw tm' fun p fW e2=>hp ⟨p,fW,e2⟩]at e;exact i4.tm t u e
 case step=>
  intro L a1 w1 i hs hI hi;obtain⟨cB,sG,bd⟩:=Bg.1 hi;have iD:i<L.size:=by omega
  have cI:L.getD i false=false:=by simpa[Array.getD,iD]using sG
  rw[bI]at cB;obtain⟨aX,m,fw,τ,tm',h',ax,i1,i2,i3,i4,i5,i6,i7,i8⟩:=hI;have bW:∀j,(L.setIfInBounds i true).getD j false=if j=i then true else L.getD j false:=fun j=>yH iD
  have bo:∀k,cU (bJ l []) k i=true→L.getD k false=true:=by
   intro k hb;unfold cU at hb;rw[CV]at hb;obtain⟨mm,kN⟩:∃mm,(bJ l [])[i]?=some mm:=⟨_,aa (by omega)⟩;have e:(bJ l []).getD i 0=mm:=by simp[List.getD,kN]
   rw[e]at hb;exact dJ i mm kN k hb L aX bd
  have ou:l[i]?=some l[i]:=aa cB;obtain⟨dh,qL⟩:=X.guard l[i] (ai cB);have cr:Region.wanted l[i] (yielded l.toArray a1.tmps)=true:=by unfold Region.wanted;rw[dh]
  have sP:yI c l us (kZ us fl tm) h' ax fw:=by
   cases hd:bB.drop m with
   |nil=>rw[hd,rE]at i2;exact i2.1
   |cons q rest=>rw[hd,rE]at i2;exact i2.1
  unfold wpOpIn;rw[bA,ou];simp only;rw[cr];simp only[if_true]
  rcases X.all i cB with⟨d,hp⟩ |⟨q,pq,e1,e2⟩
  ·
   obtain⟨o,o1,o2,o3,o4⟩:=X.dst (i,d) hp;have ho:l[i]=o:=by
    have:=ou;rw[o1]at this;exact(Option.some.inj this).symm
   rw[ho];rw[ho]at qL;have Al:(i,d)∈fw:=by
    by_cases hh:(i,d)∈fw
    ·exact hh
    ·have:=i7 _ hp hh;rw[cI]at this;cases this
   have iz:=YR o1 sP Al;have qo:uJ (yN (kZ us fl tm) o.op.operands.toList) (kZ us fl tm) o.op.operands.toList:=fun t ht=>(Jz _ t _).1 ht;have FI:jQ τ (yN (kZ us fl tm) o.op.operands.toList) a1:=by
    intro t u e
    by_cases ht:Operand.tmp t∈o.op.operands.toList
    ·rw[(Jz _ t _).1 ht]at e
     by_cases UI:∃ok∈l,ok.dst=some t
     ·obtain⟨ok,hk,hd⟩:=UI;obtain⟨k,eZ,ek⟩:=List.getElem_of_mem hk;have hk?:l[k]?=some ok:=by rw[aa eZ,ek]
      obtain⟨⟨d',Iu⟩,EJ⟩:=o4 t ht k ok hk? hd;obtain⟨o',ux,wi,_⟩:=X.dst (k,d') Iu;have hdt:d'=t:=by
       rw[hk?]at ux;cases ux;rw[hd]at wi;exact(Option.some.inj wi).symm
      subst hdt;have h1:=Kk us (p:=(k,d')) fl tm (fun q hq e=>mP _ Iu q hq e) Iu;simp only at h1;rw[h1]at e;cases e;exact i5 (k,d') Iu (bo k EJ)
     ·have eE:∀ok∈l,ok.dst≠some t:=fun ok hk hd=>UI ⟨ok,hk,hd⟩;rw[DJ us t fl tm (fun p fW e2=>by
       obtain⟨ok,hk,hd⟩:=FN p fW;exact eE ok hk (by rw[hd,e2])),← i8 t eE]at e
      exact i4.tm t u e
    ·rw[(Jz _ t _).2 ht]at e;cases e
   have Aj:=Qq hc i3.ok FI o;rw[Zq o.op qo,iz]at Aj;obtain⟨V,τ2,x2,r1,r2,r3⟩:=Aj;refine jS (fun cl e=>by rw[e]at qL;cases qL) ?_;rw[r1];show I (L.setIfInBounds i true) (a1.put o.dst V) x2;rw[o2];have E6:d<a1.tmps.size:=by rw[i4.size];exact az _ hp
   refine⟨dU L i iD aX bd,⟨m,fw,τ2,tm',h',ax,fun q p e=>?_,i2,i3.trans r3,⟨fun t u e=>?_,by simpa[Act.put]using i4.size,i4.defers.mono r3.le⟩,fun p fW e=>?_,i6,fun p fW e=>?_,i8⟩⟩
   ·rw[bW,if_neg (X.sep _ hp p (List.mem_of_getElem? e))];exact i1 q p e
   ·have aQ:some d≠some t:=fun e2=>by
     have:=(i6 _ Al).2;simp only at this;rw[← Option.some.inj e2,this]at e;cases e
    rw[C5 aQ];exact(i4.tm t u e).mono r3.le
   ·by_cases e3:p.2=d
    ·have e4:p.1=i:=mP (i,d) hp p fW e3;rw[e3,e4];simpa[Act.put,Array.getD_eq_getD_getElem?,E6]using r2
    ·rw[C5 (fun e4=>e3 (Option.some.inj e4).symm)];have sJ:p.1≠i:=by
      intro e5;obtain⟨o',ux,wi,_⟩:=X.dst p fW;rw[e5,o1]at ux;cases ux;rw[o2]at wi;exact e3 (Option.some.inj wi).symm
     rw[bW,if_neg sJ]at e;exact(i5 p fW e).mono r3.le
   ·rw[bW];split
    ·rfl
    ·exact i7 p fW e
  ·
   subst e2;have hqm:q=m:=by
    have h1:¬q<m:=fun hh=>by rw[(i1 q pq e1).2 hh]at cI;cases cI
    rcases Nat.lt_or_ge m q with h2 |h2
    ·exfalso;obtain⟨q',rfl⟩:∃q',q=q'+1:=⟨q-1,by omega⟩;have IE:=(List.getElem?_eq_some_iff.1 e1).1;have e3:bB[q']?=some (bB[q']'(by omega)):=aa _;have:=(i1 q' _ e3).1 (bo _ (X.ord q' _ _ e3 e1));omega
    ·omega
   subst hqm;have IE:=(List.getElem?_eq_some_iff.1 e1).1;have hpq:bB[q]=pq:=(List.getElem?_eq_some_iff.1 e1).2;rw[aj IE,hpq,rE]at i2;obtain⟨_,i2⟩:=i2;rw[ou]at i2;simp only at i2;have yb:pq∈bB:=List.mem_of_getElem? e1;have uy:St τ (kZ us pq.2 tm') a1 sz ds:=by
    refine⟨fun t u e=>?_,i4.size,i4.defers⟩
    by_cases hp:∃p∈pq.2,p.2=t
    ·obtain⟨p,hp,rfl⟩:=hp;obtain⟨n1,n2⟩:=X.need pq yb p hp;rw[Kk us pq.2 tm' (fun q' qj e=>mP p n1 q' (X.need pq yb q' qj).1 e) hp]at e;cases e;exact i5 p n1 (bo _ n2)
    ·rw[DJ us t pq.2 tm' fun p fW e2=>hp ⟨p,fW,e2⟩]at e;exact i4.tm t u e
   have Av:cz P c sz l.toArray.toList l[pq.1] (fun s'=>rE P c sz l us (kZ us fl tm) (Q .norm) (bB.drop (q+1)) (AJ pq.2 fw) s') (.mk (kZ us pq.2 tm') h' ax ds):=i2;have eM:=Jh hc (ops:=l.toArray) (Ww Av) (r:=r) (a:=a1) (σ:=τ) (w:=w1) i3.ok uy QQ (I (L.setIfInBounds pq.1 true)) fun υ ba V w2 h2 qT k1 p1 s1=>?_
   ·rw[cr]at eM;simpa only[if_true]using eM
   obtain⟨k1,k2⟩:=k1;have E7:∀p∈fl,l[pq.1].dst≠some p.2:=by
    intro p hp;obtain⟨o,o1,o2,o3,_⟩:=X.dst p hp;exact o3 pq.1 _ ou (X.sep p hp pq yb)
   have Uz:∀p,p∈AJ pq.2 fw↔p∈fw∧∀p'∈pq.2,p'.1≠p.1:=by
    intro p;unfold AJ;rw[List.mem_filter];constructor
    ·rintro⟨h1,h2⟩
     refine⟨h1,fun p' fW e=>?_⟩;have:(pq.2.any fun q=>Nat.beq q.1 p.1)=true:=List.any_eq_true.2 ⟨p',fW,by rw[e];exact Nat.beq_refl _⟩;rw[this]at h2;cases h2
    ·rintro⟨h1,h2⟩
     refine⟨h1,?_⟩;cases hh:(pq.2.any fun q=>Nat.beq q.1 p.1) with
     |false=>rfl
     |true=>
      obtain⟨p',fW,e⟩:=List.any_eq_true.1 hh;exact absurd (ad e) (h2 p' fW)
   refine⟨dU L _ iD aX bd,⟨q+1,AJ pq.2 fw,υ,ba,h2,qT,fun q' p' e=>?_,k1,i3.trans p1,s1,fun p hp e=>?_,fun p hp=>?_,fun p hp e=>?_,fun t ht=>?_⟩⟩
   ·rw[bW]
    by_cases e5:p'.1=pq.1
    ·rw[if_pos e5];refine⟨fun _=>?_,fun _=>rfl⟩
     rcases Nat.lt_or_ge q' (q+1) with h6 |h6
     ·exact h6
     ·exfalso;obtain⟨CD,rfl⟩:∃CD,q'=CD+1:=⟨q'-1,by omega⟩;have qaq:=(List.getElem?_eq_some_iff.1 e).1;have e3:bB[CD]?=some (bB[CD]'(by omega)):=aa _;have hb:=X.ord CD _ _ e3 e;rw[e5]at hb;have:=(i1 CD _ e3).1 (bo _ hb);omega
    ·rw[if_neg e5,i1 q' p' e];constructor
     ·intro h6;omega
     ·intro h6
      rcases Nat.lt_or_ge q' q with h7 |h7
      ·exact h7
      ·exfalso;have:q'=q:=by omega
       subst this;rw[e1]at e;cases e;exact e5 rfl
   ·rw[C5 (E7 p hp)];rw[bW,if_neg (fun e5=>X.sep p hp pq yb e5.symm)]at e;exact(i5 p hp e).mono p1.le
   ·obtain⟨h1,LX⟩:=(Uz p).1 hp;refine⟨(i6 p h1).1,?_⟩;have h9:ba.get p.2=(kZ us pq.2 tm').get p.2:=k2 p.2 (E7 p (i6 p h1).1);rw[h9,DJ us p.2 pq.2 tm' fun p' fW e5=>LX p' fW (mP p (i6 p h1).1 p' (X.need pq yb p' fW).1 e5)];exact(i6 p h1).2
   ·rw[bW];split
    ·rfl
    ·by_cases h1:p∈fw
     ·have:∃p'∈pq.2,p'.1=p.1:=by
       by_cases hh:∃p'∈pq.2,p'.1=p.1
       ·exact hh
       ·exact absurd ((Uz p).2 ⟨h1,fun p' fW e5=>hh ⟨p',fW,e5⟩⟩) e
      obtain⟨p',fW,e5⟩:=this;rw[← e5];exact bo _ (X.need pq yb p' fW).2
     ·exact i7 p hp h1
   ·have h1:ba.get t=(kZ us pq.2 tm').get t:=k2 t (ht _ (ai cB));rw[h1,DJ us t pq.2 tm' fun p' fW e5=>by
     obtain⟨o,ho,hd⟩:=FN p' (X.need pq yb p' fW).1;exact ht o ho (by rw[hd,e5])]
    exact i8 t ht
end
end Go.Ev
