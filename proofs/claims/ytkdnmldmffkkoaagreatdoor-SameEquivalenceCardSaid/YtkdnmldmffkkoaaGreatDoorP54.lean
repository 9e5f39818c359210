/- Texts. -/
import Derived.Test.YtkdnmldmffkkoaaGreatDoorP49
set_option linter.unusedSimpArgs false
set_option linter.unusedVariables false
set_option maxRecDepth 100000
namespace Go.Ev
open Go.Proofs
noncomputable section
inductive cV (g:List Nd) (v:Int→Int):Int→Bool→Prop
 |leaf {i:Int} {n:Nd}:0≤i→g[i.toNat]?=some n→n.kids=[]→cV g v i n.leaf
 |node {i j:Int} {n:Nd} {b:Bool}:0≤i→g[i.toNat]?=some n→n.kids≠[]→n.kids[(k9 n (v n.fact)).toNat]?=some j→cV g v j b→cV g v i b
theorem yjn {n:Nd}(w:Int)(h:n.kids.length=n.cuts.length+1):n.kids[(k9 n w).toNat]?=some (wz n w):=by
 obtain⟨k,h1,h2⟩:=SG (v:=w) h;unfold wz;rw[h1,Int.toNat_natCast,an,aa h2];rfl
theorem cV.det {g:List Nd}{v:Int→Int}{i:Int}{b c:Bool}(h:cV g v i b):cV g v i c→b=c:=by
 induction h with
 |leaf h1 h2 h3=>
  intro q;cases q with
  |leaf _ q2 _=>rw[h2]at q2;cases q2;rfl
  |node _ q2 q3 _ _=>rw[h2]at q2;cases q2;exact absurd h3 q3
 |node h1 h2 h3 h4 _ ih=>
  intro q;cases q with
  |leaf _ q2 q3=>rw[h2]at q2;cases q2;exact absurd q3 h3
  |node _ q2 _ q4 q5=>rw[h2]at q2;cases q2;rw[h4]at q4;cases q4;exact ih q5
def iT (L K:List Nd):Prop:=∀(j:Nat)(n:Nd),L[j]?=some n→K[j]?=some n
theorem iT.refl (L:List Nd):iT L L:=fun _ _ h=>h
theorem iT.trans {L K M:List Nd}(h:iT L K)(k:iT K M):iT L M:=fun j n e=>k j n (h j n e)
theorem cV.mono {g k:List Nd}{v:Int→Int}{i:Int}{b:Bool}(hp:iT g k)(h:cV g v i b):cV k v i b:=by
 induction h with
 |leaf h1 h2 h3=>exact .leaf h1 (hp _ _ h2) h3
 |node h1 h2 h3 h4 _ ih=>exact .node h1 (hp _ _ h2) h3 h4 ih
theorem Vr (L:List Nd)(n:Nd):iT L (iW L n):=by
 intro j m h;unfold iW;split
 ·exact h
 ·have hj:j<L.length:=by
   by_cases q:j<L.length
   ·exact q
   ·rw[List.getElem?_eq_none (by omega)]at h;cases h
  rw[List.getElem?_append_left hj];exact h
theorem yix (L:List Nd)(n:Nd):(iW L n)[mo L n]?=some n:=by
 unfold iW mo
 by_cases hm:bN n∈L.map bN
 ·rw[if_pos hm];have hl:(L.map bN).findIdx (fun k=>decide (k=bN n))<(L.map bN).length:=List.findIdx_lt_length_of_exists ⟨_,hm,by simp⟩;have he:=List.findIdx_getElem (w:=hl);have jd:(L.map bN).findIdx (fun k=>decide (k=bN n))<L.length:=by simpa using hl
  rw[List.getElem_map]at he;rw[aa jd,VZ (of_decide_eq_true he)]
 ·rw[if_neg hm];have hl:(L.map bN).findIdx (fun k=>decide (k=bN n))=(L.map bN).length:=List.findIdx_eq_length_of_false fun x hx=>by
   simp only[decide_eq_false_iff_not];exact fun e=>hm (e ▸ hx)
  rw[hl,List.length_map,List.getElem?_append_right (ae _)];simp
theorem CS (n:Nd)(S:GS):(cR n S).2.L[(cR n S).1.toNat]?=some n∧0≤(cR n S).1∧iT S.L (cR n S).2.L:=by
 refine⟨?_,?_,Vr _ _⟩
 ·simp only[cR,Int.toNat_natCast];exact yix _ _
 ·simp only[cR];omega
theorem V4 (b:Bool)(S:GS)(v:Int→Int):cV (cR (cj b) S).2.L v (cR (cj b) S).1 b:=by
 obtain⟨h1,h2,_⟩:=CS (cj b) S;exact cV.leaf (n:=cj b) h2 h1 rfl
theorem O8 (i:Nat) (s0 k0:Int)(st ks:List Int)(S:GS)(hp:(s0::st).Pairwise (· < ·)):iT S.L (eu i (s0::st) (k0::ks) S).2.L∧((eu i (s0::st) (k0::ks) S=(k0,S)∧∀w,qU k0 st ks w=k0)∨∃n,eu i (s0::st) (k0::ks) S=cR n S∧n.fact=(i:Int)∧n.leaf=false∧n.kids≠[]∧(∀w,wz n w=qU k0 st ks w)∧n.cuts≠[]∧n.kids.length=n.cuts.length+1∧n.cuts.Pairwise (· < ·)∧(∀a∈n.cuts,a∈st)∧Gm n.kids∧∀x∈n.kids,x∈k0::ks):=by
 have p2:=(List.pairwise_cons.1 hp).2;have hh:iO (k0::ks)=k0:=rfl;have hr:bG k0 [] [k0] (s0::st) (k0::ks)=bG k0 [] [k0] st ks:=BO rfl;have vU:=fun w=>Pj (i:Int) false w st ks k0 [] [k0] p2 (by simp) rfl rfl;obtain⟨t,u,a1,a2,a3⟩:=Jf st ks k0 [] [k0];obtain⟨b1,b2,b3⟩:=Ph st ks k0 [] [k0] (by simpa using p2) (fun j hj=>by simp at hj) (by simp) rfl;have bV:∀x∈(bG k0 [] [k0] st ks).2.2,x∈k0::ks:=(Lq (fun _=>True) (fun x=>x∈k0::ks) st ks k0 [] [k0] (by simp) (by simp) (by simp) (fun a ha=>ak _ ha)).2.1;unfold eu;simp only[hh,hr]
 by_cases e:(bG k0 [] [k0] st ks).2.2.length=1
 ·rw[if_pos e];refine⟨.refl _,.inl ⟨rfl,fun w=>?_⟩⟩;rw[← vU w];rw[a2]at e;have hu:u=[]:=au (by simpa using e);have ht:t=[]:=au (by rw[a3,hu];rfl);rw[a1,a2,hu,ht];exact Pk (by simp) rfl
 ·rw[if_neg e];refine⟨Vr _ _,.inr ⟨_,rfl,rfl,rfl,?_,vU,?_,?_,b1,by simpa using b2,b3,bV⟩⟩
  ·simp only;rw[a2];simp
  ·simp only;rw[a1];intro q;have:t=[]:=by simpa using q
   rw[this]at a3;rw[a2]at e;simp at e a3;exact e (au a3.symm)
  ·simp only;rw[a1,a2];simp[a3]
theorem VW {i:Nat}{s0 k0:Int}{st ks:List Int}{S:GS}{v:Int→Int}{b:Bool}(hp:(s0::st).Pairwise (· < ·))(h:cV S.L v (qU k0 st ks (v i)) b):cV (eu i (s0::st) (k0::ks) S).2.L v (eu i (s0::st) (k0::ks) S).1 b:=by
 obtain⟨h1,⟨e,h2⟩ |⟨n,e,h2,_,h3,h4,_,h5,_⟩⟩:=O8 i s0 k0 st ks S hp
 ·rw[h2]at h;rw[e];exact h
 ·rw[e];obtain⟨a1,a2,a3⟩:=CS n S;refine cV.node a2 a1 h3 (yjn _ h5) ?_;rw[h2,h4];exact h.mono a3
def oC (d:List Fc)(ρ:ByteArray→Int):Prop:=∀x∈d,x.lo≤ρ x.name∧ρ x.name≤x.hi
def vD (d:List Fc)(ρ:ByteArray→Int):Int→Int:=fun i=>ρ (d.getD i.toNat ⟨.empty,0,0,0⟩).name
def QD (d:List Fc) (i:Nat):ByteArray→Prop:=fun n=>n∈(d.drop i).map Fc.name
def s8 (d:List Fc)(L:List Nd) (r:Int)(f:Fm):Prop:=∀ρ,oC d ρ→cV L (vD d ρ) r (hF ρ f)
theorem s8.mono {d:List Fc}{L K:List Nd}{r:Int}{f:Fm}(hp:iT L K)(h:s8 d L r f):s8 d K r f:=fun ρ hr=>(h ρ hr).mono hp
def tf (d:List Fc)(S:GS):Prop:=∀p∈S.D,∃i f,p.1=rH i f∧vo f∧s8 d S.L p.2 f
theorem VJ {t:ByteArray}{v:Int}:∀{D:List (ByteArray×Int)},kC t D=some v→(t,v)∈D
 |[],h=>by cases h
 |(k,w)::l,h=>by
  rw[kC]at h
  by_cases e:t=k
  ·rw[if_pos e]at h;cases h;rw[e];exact ao
  ·rw[if_neg e]at h;exact ak _ (VJ h)
theorem V9 {t:ByteArray}{v:Int}:∀{D:List (ByteArray×Int)}{p:ByteArray×Int},p∈lS t v D→p∈D∨p=(t,v)
 |[],p,h=>by
  simp[lS]at h;exact .inr h
 |(k,w)::l,p,h=>by
  rw[lS]at h
  by_cases e:t=k
  ·rw[if_pos e]at h
   rcases List.mem_cons.1 h with q |q
   ·exact .inr (by rw[q,e])
   ·exact .inl (ak _ q)
  ·rw[if_neg e]at h
   rcases List.mem_cons.1 h with q |q
   ·exact .inl (by rw[q];exact ao)
   ·rcases V9 q with q |q
    ·exact .inl (ak _ q)
    ·exact .inr q
theorem yja (n:Nd)(S:GS):(cR n S).2.full=S.full:=rfl
theorem VV (i:Nat)(st ks:List Int)(S:GS):(eu i st ks S).2.full=S.full∧(eu i st ks S).2.D=S.D:=by
 unfold eu;simp only;split
 ·exact⟨rfl,rfl⟩
 ·exact⟨rfl,rfl⟩
theorem yip (d:List Fc) (k:Nat)(f:Fm)(S:GS)(h:S.full=true):(bZ d k f S).2.full=true:=by
 cases k with
 |zero=>
  rw[bZ];split
  ·exact h
  ·simp[yja,jU,h]
 |succ k=>
  rw[bZ];split
  ·exact h
  ·rw[if_pos (by simp[jU,h])];rfl
theorem VF {g:Int→GS→Int×GS}(hg:∀v S,S.full=true→(g v S).2.full=true):∀(l:List Int)(S:GS),S.full=true→(dQ g l S).2.full=true
 |[],S,h=>h
 |v::l,S,h=>VF hg l _ (hg v S h)
theorem tf.up {d:List Fc}{S:GS}{L:List Nd}{b:Bool}(h:tf d S)(hp:iT S.L L):tf d ⟨L,S.D,b⟩:=by
 intro p hm;obtain⟨i,f,e1,e2,e3⟩:=h p hm;exact⟨i,f,e1,e2,e3.mono hp⟩
theorem VG {d:List Fc}{g:Int→GS→Int×GS}{F:Int→Fm}(hm:∀v S,S.full=true→(g v S).2.full=true)(hg:∀v S,tf d S→(g v S).2.full=false→tf d (g v S).2∧iT S.L (g v S).2.L∧s8 d (g v S).2.L (g v S).1 (F v)):∀(l:List Int)(S:GS),tf d S→(dQ g l S).2.full=false→tf d (dQ g l S).2∧iT S.L (dQ g l S).2.L∧(dQ g l S).1.length=l.length∧∀p∈l.zip (dQ g l S).1,s8 d (dQ g l S).2.L p.2 (F p.1)
 |[],S,h,_=>⟨h,.refl _,rfl,by simp⟩
 |v::l,S,h,hf=>by
  have MV:(g v S).2.full=false:=by
   cases q:(g v S).2.full with
   |false=>rfl
   |true=>
    have:=VF hm l _ q;simp only[dQ]at hf;rw[this]at hf;cases hf
  obtain⟨a1,a2,a3⟩:=hg v S h MV;obtain⟨b1,b2,b3,b4⟩:=VG hm hg l (g v S).2 a1 hf;refine⟨b1,a2.trans b2,by simp[dQ,b3],fun p hp=>?_⟩;simp only[dQ,List.zip_cons_cons]at hp ⊢
  rcases List.mem_cons.1 hp with q |q
  ·rw[q];exact a3.mono b2
  ·exact b4 p q
theorem yhx {d:List Fc}(hn:(d.map Fc.name).Nodup){i:Nat}(hi:i<d.length):∀n,QD d i n→n≠(d.getD i ⟨.empty,0,0,0⟩).name→QD d (i+1) n:=by
 intro n h aQ;unfold QD at h ⊢;rw[aj hi,List.map_cons]at h
 rcases List.mem_cons.1 h with q |q
 ·rw[an,aa hi]at aQ;exact absurd q aQ
 ·exact q
theorem yjf {d:List Fc}{i:Nat}(hi:i<d.length)(fu:∀x∈d,x.lo≤x.hi){f:Fm}{L:List Nd}{s0 k0:Int}{st ks:List Int}{Q:ByteArray→Prop}(hf:RW Q yi f)(aW:fj f (d.getD i ⟨.empty,0,0,0⟩)=s0::st)(hl:(s0::st).length=(k0::ks).length)(hz:∀p∈(s0::st).zip (k0::ks),s8 d L p.2 (bQ (d.getD i ⟨.empty,0,0,0⟩).name p.1 f))(ρ:ByteArray→Int)(hr:oC d ρ):cV L (vD d ρ) (qU k0 st ks (vD d ρ i)) (hF ρ f):=by
 obtain⟨x,hx⟩:∃x,x=d.getD i ⟨.empty,0,0,0⟩:=⟨_,rfl⟩;have Aw:x∈d:=by
  rw[hx,an,aa hi];exact ai hi
 obtain⟨r1,r2⟩:=hr x Aw;have hv:vD d ρ i=ρ x.name:=by rw[hx];rfl
 rw[← hx]at aW hz;obtain⟨o1,o2⟩:=Wi f x;rw[aW]at o1 o2;have h0:s0≤ρ x.name:=by
  have sD:x.lo∈s0::st:=(o2 x.lo).2 ⟨Pp _ _ _ _ (by simp),by omega,by omega⟩
  rcases List.mem_cons.1 sD with q |q
  ·omega
  ·have:=(List.pairwise_cons.1 o1).1 _ q;omega
 rw[hv];obtain⟨s,a1,a2,a3,a4⟩:=Pf (P:=fun s k=>s8 d L k (bQ x.name s f)) (w:=ρ x.name) st ks k0 s0 o1 h0 (hz (s0,k0) (by simp)) (by simpa using hl) fun p hp=>hz p (by simp only[List.zip_cons_cons];exact ak _ hp);have e1:=(Jc (Q':=fun _=>True) (nm:=x.name) s ρ (fun _ _ _=>trivial) f hf).2;have e2:hF (lM ρ x.name s) f=hF (lM ρ x.name (ρ x.name)) f:=Vz ρ a2 f [x.lo] hf fun y hy q=>by
  have oX:=(o2 s).1 a1;have:=a3 y ((o2 y).2 ⟨hy,by omega,by omega⟩) q.2;omega
 rw[yjt]at e2;have:=a4 ρ hr;rw[e1,e2]at this;exact this
theorem yiq {d:List Fc}(hn:(d.map Fc.name).Nodup)(hN:∀x∈d,xu x.name)(fu:∀x∈d,x.lo≤x.hi):∀(k:Nat)(f:Fm)(S:GS),k≤d.length→RC (QD d (d.length-k)) f→tf d S→(bZ d k f S).2.full=false→tf d (bZ d k f S).2∧iT S.L (bZ d k f S).2.L∧s8 d (bZ d k f S).2.L (bZ d k f S).1 f:=by
 have eF:∀{Q:ByteArray→Prop} {f:Fm},RC Q f→f.op=1∨f.op=2→f=jV (decide (f.op=1)):=fun {Q f} h e=>by
  rcases e with e |e
  ·rw[h.one e];rfl
  ·rw[h.two e];rfl
 have eL:∀{Q:ByteArray→Prop} {f:Fm} {S:GS},RC Q f→f.op=1∨f.op=2→tf d S→tf d (cR (cj (decide (f.op=1))) S).2∧iT S.L (cR (cj (decide (f.op=1))) S).2.L∧s8 d (cR (cj (decide (f.op=1))) S).2.L (cR (cj (decide (f.op=1))) S).1 f:=fun {Q f S} h e hS=>by
  have hp:=(CS (cj (decide (f.op=1))) S).2.2;refine⟨hS.up (b:=S.full) hp,hp,fun ρ _=>?_⟩;have:=V4 (decide (f.op=1)) S (vD d ρ);have e2:hF ρ f=decide (f.op=1):=by
   have h2:=eF h e;generalize decide (f.op=1)=b at h2;rw[h2,wu]
  rw[e2];exact this
 have hQ:∀i n,QD d i n→AP n:=fun i n h=>by
  obtain⟨x,hx,e⟩:=List.mem_map.1 h;exact .inr (e ▸ hN x (List.mem_of_mem_drop hx))
 intro k
 induction k with
 |zero=>
  intro f S _ hf hS bL;rw[bZ]at bL ⊢
  by_cases e:f.op=1∨f.op=2
  ·rw[if_pos e];exact eL hf e hS
  ·obtain⟨n,hq⟩:=(hf.rn (fun q=>e (.inl q)) (fun q=>e (.inr q))).has;unfold QD at hq;rw[aq (by omega)]at hq;cases hq
 |succ k ih=>
  intro f S hk hf hS bL;rw[bZ]at bL ⊢
  by_cases e:f.op=1∨f.op=2
  ·rw[if_pos e];exact eL hf e hS
  ·rw[if_neg e]at bL ⊢
   by_cases e2:jU S=true
   ·rw[if_pos e2]at bL;cases bL
   ·rw[if_neg e2]at bL ⊢;have kg:=hS.up (b:=false) (iT.refl S.L);cases hg:kC (rH (d.length-(k+1)) f) S.D with
    |some v=>
     simp only;refine⟨kg,.refl _,?_⟩;obtain⟨i,f2,e3,e4,e5⟩:=hS _ (VJ hg);rw[(yjp (hf.sp (hQ _)) e4 e3).2];exact e5
    |none=>
     rw[hg]at bL;simp only at bL ⊢;have jw:d.length-(k+1)<d.length:=by omega
     have vE:d.length-(k+1)+1=d.length-k:=by omega
     rw[(VV _ _ _ _).1]at bL;obtain⟨b1,b2,b3,b4⟩:=VG (d:=d) (g:=fun v S=>bZ d k (bQ (d.getD (d.length-(k+1)) ⟨.empty,0,0,0⟩).name v f) S) (F:=fun v=>bQ (d.getD (d.length-(k+1)) ⟨.empty,0,0,0⟩).name v f) (fun v S h=>yip d k _ S h) (fun v S h1 h2=>ih _ S (by omega) (Jc v (fun _=>0) (fun n q1 q2=>vE ▸ yhx hn jw n q1 q2) f hf.rw).1 h1 h2) (fj f (d.getD (d.length-(k+1)) ⟨.empty,0,0,0⟩)) { S with full:=false } kg bL;clear bL ih;generalize hr:dQ (fun v S=>bZ d k (bQ (d.getD (d.length-(k+1)) ⟨.empty,0,0,0⟩).name v f) S) (fj f (d.getD (d.length-(k+1)) ⟨.empty,0,0,0⟩)) { S with full:=false }=r at *;clear hr;obtain⟨ks,T⟩:=r;simp only at b1 b2 b3 b4 ⊢;have Aw:(d.getD (d.length-(k+1)) ⟨.empty,0,0,0⟩)∈d:=by
      rw[an,aa jw];exact ai jw
     match aW:fj f (d.getD (d.length-(k+1)) ⟨.empty,0,0,0⟩),ks with
     |[],_=>exact absurd aW (Ps f _ (fu _ Aw))
     |_::_,[]=>rw[aW]at b3;simp at b3
     |s0::st,k0::ks=>
      have o1:=(Wi f (d.getD (d.length-(k+1)) ⟨.empty,0,0,0⟩)).1;rw[aW]at b3 b4 o1;have Ak:=yjf (L:=T.L) jw fu (hf.rw (T:=yi)) aW b3.symm b4;have cB:s8 d (eu (d.length-(k+1)) (s0::st) (k0::ks) T).2.L (eu (d.length-(k+1)) (s0::st) (k0::ks) T).1 f:=fun ρ hr=>VW o1 (Ak ρ hr);have fK:=(O8 (d.length-(k+1)) s0 k0 st ks T o1).1;have hD:=(VV (d.length-(k+1)) (s0::st) (k0::ks) T).2;refine⟨fun p hp=>?_,b2.trans fK,cB⟩;simp only at hp
      rcases V9 hp with q |q
      ·rw[hD]at q;obtain⟨i,f2,e3,e4,e5⟩:=b1 p q;exact⟨i,f2,e3,e4,e5.mono fK⟩
      ·rw[q];exact⟨_,f,rfl,hf.sp (hQ _),cB⟩
def oD (L:List Nd) (i:Int):List Int:=(L.getD i.toNat ⟨0,[],[],false⟩).kids
theorem yiz {L:List Nd}(hw:WK L){i:Int}(hi:0≤i∧i<(L.length:Int)):∀x∈oD L i,0≤x∧x<(L.length:Int):=by
 have hl:i.toNat<L.length:=by omega
 unfold oD;rw[an,aa hl];exact hw _ (ai hl)
theorem Wo (L:List Nd):∀(f:Nat)(o:List Int) (i:Int),∃t,cN L f o i=o++t
 |0,o,i=>⟨[],by simp[cN]⟩
 |f+1,o,i=>by
  rw[cN];split
  ·exact⟨[],by simp⟩
  ·have key:∀(ks o1:List Int),∃t,ks.foldl (cN L f) o1=o1++t:=by
    intro ks
    induction ks with
    |nil=>intro o1;exact⟨[],by simp⟩
    |cons k ks ih=>
     intro o1;obtain⟨t,e⟩:=Wo L f o1 k;obtain⟨u,e2⟩:=ih (cN L f o1 k);exact⟨t++u,by rw[List.foldl_cons,e2,e,List.append_assoc]⟩
   obtain⟨t,e⟩:=key (L.getD i.toNat ⟨0,[],[],false⟩).kids (o++[i]);exact⟨i::t,by rw[e];simp⟩
theorem Jb (L:List Nd) (f:Nat):∀(ks o:List Int),∃t,ks.foldl (cN L f) o=o++t
 |[],o=>⟨[],by simp⟩
 |k::ks,o=>by
  obtain⟨t,e⟩:=Wo L f o k;obtain⟨u,e2⟩:=Jb L f ks (cN L f o k);exact⟨t++u,by rw[List.foldl_cons,e2,e,List.append_assoc]⟩
theorem Wn {L:List Nd}(hw:WK L):∀(f:Nat)(o:List Int) (i:Int),jX L o→0≤i∧i<(L.length:Int)→L.length<f+o.length→i∈cN L f o i∧∀x∈cN L f o i,¬x∈o→∀y∈oD L x,y∈cN L f o i
 |0,o,i,h,hi,hf=>by have:=h.len;omega
 |f+1,o,i,h,hi,hf=>by
  rw[cN]
  by_cases hm:i∈o
  ·rw[if_pos hm];exact⟨hm,fun x hx hn=>absurd hx hn⟩
  ·rw[if_neg hm];have h1:=h.snoc hm hi;have key:∀(ks:List Int),(∀x∈ks,0≤x∧x<(L.length:Int))→∀o1,jX L o1→L.length<f+o1.length→(∀k∈ks,k∈ks.foldl (cN L f) o1)∧∀x∈ks.foldl (cN L f) o1,¬x∈o1→∀y∈oD L x,y∈ks.foldl (cN L f) o1:=by
    intro ks
    induction ks with
    |nil=>intro _ o1 _ _;exact⟨by simp,fun x hx hn=>absurd hx hn⟩
    |cons k ks ih=>
     intro hk o1 h1 hl;have fV:=hk k ao;obtain⟨a1,a2⟩:=Wn hw f o1 k h1 fV hl;obtain⟨b1,b2⟩:=vj hw f o1 k h1 fV;obtain⟨c1,c2⟩:=ih (fun x hx=>hk x (ak _ hx)) _ b1 (by omega);obtain⟨t,e⟩:=Jb L f ks (cN L f o1 k);have sQ:∀x∈cN L f o1 k,x∈ks.foldl (cN L f) (cN L f o1 k):=fun x hx=>by rw[e];exact List.mem_append_left _ hx
     rw[List.foldl_cons];refine⟨fun z hz=>?_,fun x hx hn y hy=>?_⟩
     ·rcases List.mem_cons.1 hz with q |q
      ·rw[q];exact sQ _ a1
      ·exact c1 z q
     ·by_cases IL:x∈cN L f o1 k
      ·exact sQ _ (a2 x IL hn y hy)
      ·exact c2 x hx IL y hy
   have jc:(o++[i]).length=o.length+1:=by simp
   obtain⟨a1,a2⟩:=key (oD L i) (yiz hw hi) (o++[i]) h1 (by omega);obtain⟨t,e⟩:=Jb L f (oD L i) (o++[i]);have Fe:(L.getD i.toNat ⟨0,[],[],false⟩).kids.foldl (cN L f) (o++[i])=(oD L i).foldl (cN L f) (o++[i]):=rfl;rw[Fe];refine⟨by rw[e];simp,fun x hx hn y hy=>?_⟩
   by_cases F3:x=i
   ·subst F3;exact a1 y hy
   ·exact a2 x hx (fun q=>by
     rcases List.mem_append.1 q with q |q
     ·exact hn q
     ·simp only[List.mem_singleton]at q;exact F3 q) y hy
theorem Pe {L:List Nd}(hw:WK L){root:Int}(hr:0≤root∧root<(L.length:Int)):(∃t,bl L root=root::t)∧jX L (bl L root)∧∀x∈bl L root,∀y∈oD L x,y∈bl L root:=by
 have h0:jX L []:=⟨List.nodup_nil,by simp⟩;obtain⟨a1,a2⟩:=Wn hw (L.length+1) [] root h0 hr (by simp);obtain⟨b1,b2⟩:=vj hw (L.length+1) [] root h0 hr;refine⟨?_,b1,fun x hx=>a2 x hx (by simp)⟩;unfold bl;rw[cN,if_neg (by simp)];obtain⟨t,e⟩:=Jb L L.length (L.getD root.toNat ⟨0,[],[],false⟩).kids ([]++[root]);exact⟨t,by rw[e];rfl⟩
theorem AY {o:List Int}{x:Int}(h:x∈o):my o x<o.length∧o[my o x]?=some x:=by
 have hl:my o x<o.length:=List.findIdx_lt_length_of_exists ⟨_,h,by simp⟩;have he:decide (o[my o x]=x)=true:=List.findIdx_getElem (w:=hl);exact⟨hl,by rw[aa hl,of_decide_eq_true he]⟩
theorem Je {o:List Int}(hn:o.Nodup){j:Nat}{x:Int}(h:o[j]?=some x):my o x=j:=by
 have hx:x∈o:=List.mem_of_getElem? h;obtain⟨h1,h2⟩:=AY hx;exact(List.getElem?_inj h1 hn).1 (h2.trans h.symm)
theorem uA {o:List Int}{x:Int}(h:x∈o):cK o x=(my o x:Int):=by rw[cK,if_pos h]
theorem Pg {o:List Int}{x y:Int}(hx:x∈o)(hy:y∈o)(h:cK o x=cK o y):x=y:=by
 rw[uA hx,uA hy]at h;have h1:=(AY hx).2;have h2:=(AY hy).2;rw[show my o x=my o y by omega,h2]at h1;cases h1;rfl
theorem O3 {L:List Nd}{root:Int}{x:Int}(h:x∈bl L root):(cL L root)[(my (bl L root) x)]?=some (dN L (bl L root) x):=by
 unfold cL;rw[List.getElem?_map,(AY h).2];rfl
theorem CM {L:List Nd}{i:Int}{n:Nd}(h:L[i.toNat]?=some n):L.getD i.toNat ⟨0,[],[],false⟩=n:=by rw[an,h];rfl
theorem VI {L:List Nd}(hw:WK L){root:Int}(hr:0≤root∧root<(L.length:Int)){v:Int→Int}{b:Bool}(h:cV L v root b):cV (cL L root) v 0 b:=by
 obtain⟨⟨t,ht⟩,ho,hc⟩:=Pe hw hr;have key:∀i b,cV L v i b→i∈bl L root→cV (cL L root) v (my (bl L root) i:Int) b:=by
  intro i b h
  induction h with
  | @leaf i n h1 h2 h3=>
   intro hi;have e:=O3 hi;have hn:=CM h2;have e2:n.leaf=(dN L (bl L root) i).leaf:=by unfold dN;simp only;rw[hn]
   rw[e2];exact cV.leaf (by omega) (by rw[Int.toNat_natCast];exact e) (by unfold dN;simp only;rw[hn,h3];rfl)
  | @node i j n b h1 h2 h3 h4 _ ih=>
   intro hi;have e:=O3 hi;have hn:=CM h2;have hk:(dN L (bl L root) i).kids=n.kids.map (cK (bl L root)):=by unfold dN;simp only;rw[hn]
   have hcu:(dN L (bl L root) i).cuts=n.cuts:=by unfold dN;simp only;rw[hn]
   have Cf:(dN L (bl L root) i).fact=n.fact:=by unfold dN;simp only;rw[hn]
   have hj:j∈bl L root:=hc i hi j (by unfold oD;rw[hn];exact List.mem_of_getElem? h4);refine cV.node (j:=(my (bl L root) j:Int)) (by omega) (by rw[Int.toNat_natCast];exact e) (by rw[hk];simpa using h3) ?_ (ih hj);have x8:k9 (dN L (bl L root) i) (v (dN L (bl L root) i).fact)=k9 n (v n.fact):=by
    unfold k9;rw[hk,hcu,Cf,List.length_map]
   rw[x8,hk,List.getElem?_map,h4,← uA hj];rfl
 have h0:my (bl L root) root=0:=Je ho.1 (by rw[ht];rfl);have hm:root∈bl L root:=by rw[ht];exact ao
 have:=key root b h hm;rw[h0]at this;exact this
theorem yjb {g:List Nd}{v:Int→Int}{i:Int}{b:Bool}(h:cV g v i b):cV (g.map eB) v i (!b):=by
 induction h with
 | @leaf i n h1 h2 h3=>
  have e:(!n.leaf)=(eB n).leaf:=by unfold eB;rw[if_pos h3]
  rw[e];exact cV.leaf h1 (by rw[List.getElem?_map,h2];rfl) (by unfold eB;rw[if_pos h3];exact h3)
 | @node i j n b h1 h2 h3 h4 _ ih=>
  have e:eB n=n:=by unfold eB;rw[if_neg h3]
  exact cV.node h1 (by rw[List.getElem?_map,h2];show some (eB n)=_;rw[e]) h3 h4 ih
theorem Wp {L:List Nd}(hw:WK L){o:List Int}(ho:jX L o)(hc:∀x∈o,∀y∈oD L x,y∈o):∀(f f2:Nat)(p:List Int) (i:Int),jX L p→(∀x∈p,x∈o)→i∈o→L.length<f+p.length→o.length<f2+p.length→cN (o.map (dN L o)) f2 (p.map (cK o)) (cK o i)=(cN L f p i).map (cK o)
 |0,f2,p,i,hp,_,_,hf,_=>by have:=hp.len;omega
 |f+1,0,p,i,hp,ID,_,hf,xO=>by
  exfalso;have h1:(p.map Int.toNat).length≤(o.map Int.toNat).length:=Po (List.pairwise_map.2 (hp.1.imp_of_mem fun {a b} ha hb aQ=>by
   have:=hp.2 a ha;have:=hp.2 b hb;omega)) fun x hx=>by
    obtain⟨y,hy,rfl⟩:=List.mem_map.1 hx;exact List.mem_map.2 ⟨y,ID y hy,rfl⟩
  simp at h1;omega
 |f+1,f2+1,p,i,hp,ID,hi,hf,xO=>by
  rw[cN,cN];have bV:cK o i∈p.map (cK o)↔i∈p:=by
   constructor
   ·intro h;obtain⟨y,hy,e⟩:=List.mem_map.1 h;rw[← Pg (ID y hy) hi e];exact hy
   ·exact fun h=>List.mem_map.2 ⟨i,h,rfl⟩
  by_cases hm:i∈p
  ·rw[if_pos (bV.2 hm),if_pos hm]
  ·rw[if_neg (fun q=>hm (bV.1 q)),if_neg hm];have hir:=ho.2 i hi;have l6:((o.map (dN L o)).getD (cK o i).toNat ⟨0,[],[],false⟩).kids=(oD L i).map (cK o):=by
    have e:(o.map (dN L o))[(cK o i).toNat]?=some (dN L o i):=by
     rw[uA hi,Int.toNat_natCast,List.getElem?_map,(AY hi).2];rfl
    rw[CM e];rfl
   have sJ:(p++[i]).map (cK o)=p.map (cK o)++[cK o i]:=by simp
   rw[l6,← sJ];have key:∀(ks:List Int),(∀x∈ks,x∈o)→∀q,jX L q→(∀x∈q,x∈o)→L.length<f+q.length→o.length<f2+q.length→(ks.map (cK o)).foldl (cN (o.map (dN L o)) f2) (q.map (cK o))=(ks.foldl (cN L f) q).map (cK o):=by
    intro ks
    induction ks with
    |nil=>intro _ q _ _ _ _;rfl
    |cons k ks ih=>
     intro hk q hq Ux hf xO;have fV:=hk k ao;have l5:=ho.2 k fV;rw[List.map_cons,List.foldl_cons,List.foldl_cons,Wp hw ho hc f f2 q k hq Ux fV hf xO];obtain⟨b1,b2⟩:=vj hw f q k hq l5;refine ih (fun x hx=>hk x (ak _ hx)) _ b1 (fun x hx=>?_) (by omega) (by omega);exact mW hw hc f q k Ux fV x hx
   have jc:(p++[i]).length=p.length+1:=by simp
   exact key (oD L i) (hc i hi) (p++[i]) (hp.snoc hm hir) (fun x hx=>by
    rcases List.mem_append.1 hx with q |q
    ·exact ID x q
    ·simp only[List.mem_singleton]at q;rw[q];exact hi) (by omega) (by omega)
 where
 mW {L:List Nd} (hw:WK L) {o:List Int} (hc:∀x∈o,∀y∈oD L x,y∈o):∀(f:Nat) (p:List Int) (i:Int),(∀x∈p,x∈o)→i∈o→∀x∈cN L f p i,x∈o
 |0,p,i,hp,_=>by rw[cN];exact hp
 |f+1,p,i,hp,hi=>by
  rw[cN];split
  ·exact hp
  ·have key:∀(ks:List Int),(∀x∈ks,x∈o)→∀q,(∀x∈q,x∈o)→∀x∈ks.foldl (cN L f) q,x∈o:=by
    intro ks
    induction ks with
    |nil=>intro _ q hq;exact hq
    |cons k ks ih=>
     intro hk q hq;rw[List.foldl_cons];exact ih (fun x hx=>hk x (ak _ hx)) _ (mW hw hc f q k hq (hk k ao))
   refine key _ (hc i hi) (p++[i]) fun x hx=>?_
   rcases List.mem_append.1 hx with q |q
   ·exact hp x q
   ·simp only[List.mem_singleton]at q;rw[q];exact hi
theorem yj7 {o:List Int}(hn:o.Nodup):o.map (cK o)=(List.range o.length).map fun j:Nat=>(j:Int):=by
 refine List.ext_getElem? fun j=>?_;rw[List.getElem?_map,List.getElem?_map]
 by_cases hj:j<o.length
 ·rw[aa hj,List.getElem?_range hj];show some (cK o o[j])=some (j:Int);rw[uA (ai hj),Je hn (aa hj)]
 ·rw[List.getElem?_eq_none (by omega),List.getElem?_eq_none (by simpa using hj)];rfl
theorem yii {L:List Nd}(hw:WK L){root:Int}(hr:0≤root∧root<(L.length:Int)):cL (cL L root) 0=cL L root:=by
 obtain⟨⟨t,ht⟩,ho,hc⟩:=Pe hw hr;have hm:root∈bl L root:=by rw[ht];exact ao
 have h0:my (bl L root) root=0:=Je ho.1 (by rw[ht];rfl);have oS:(cL L root).length=(bl L root).length:=by simp[cL]
 have dW:bl (cL L root) 0=(List.range (bl L root).length).map fun j:Nat=>(j:Int):=by
  rw[← yj7 ho.1];have:=Wp hw ho hc (L.length+1) ((cL L root).length+1) [] root ⟨List.nodup_nil,by simp⟩ (by simp) hm (by simp) (by simp[oS]);rw[uA hm,h0]at this;exact this
 generalize oV:bl (cL L root) 0=o2 at dW;have hid:∀j:Nat,j<(bl L root).length→(j:Int)∈o2∧cK o2 (j:Int)=(j:Int):=by
  intro j hj;have oU:o2.Nodup:=by
   rw[dW];exact List.pairwise_map.2 (List.nodup_range.imp fun {a b} h=>by omega)
  have e:o2[j]?=some (j:Int):=by
   rw[dW,List.getElem?_map,List.getElem?_range hj];rfl
  have kN:=List.mem_of_getElem? e;exact⟨kN,by rw[uA kN,Je oU e]⟩
 show (bl (cL L root) 0).map (dN (cL L root) (bl (cL L root) 0))=_;rw[oV];refine List.ext_getElem? fun j=>?_;rw[List.getElem?_map]
 by_cases hj:j<(bl L root).length
 ·have e:o2[j]?=some (j:Int):=by
   rw[dW,List.getElem?_map,List.getElem?_range hj];rfl
  have eK:j<(cL L root).length:=by omega
  rw[e,aa eK];show some (dN (cL L root) o2 (j:Int))=some (cL L root)[j];have hg:(cL L root).getD (j:Int).toNat ⟨0,[],[],false⟩=(cL L root)[j]:=CM (by rw[Int.toNat_natCast,aa eK]);unfold dN;rw[hg];have sv:∀x∈((cL L root)[j]).kids,cK o2 x=x:=by
   intro x hx;have hn:(cL L root)[j]=dN L (bl L root) ((bl L root)[j]):=by simp[cL]
   rw[hn]at hx;obtain⟨y,hy,e3⟩:=List.mem_map.1 hx;have vZ:y∈bl L root:=hc _ (ai hj) y hy;rw[uA vZ]at e3;rw[← e3];exact(hid _ (AY vZ).1).2
  have:((cL L root)[j]).kids.map (cK o2)=((cL L root)[j]).kids:=by
   rw[List.map_congr_left sv,List.map_id']
  rw[this]
 ·have h1:o2.length=(bl L root).length:=by rw[dW];simp
  rw[List.getElem?_eq_none (by omega),List.getElem?_eq_none (by omega)];rfl
def qz (d:List Fc)(L:List Nd) (r i:Int):Prop:=0≤r∧∃m,L[r.toNat]?=some m∧i≤bH m d
theorem qz.mono {d:List Fc}{L K:List Nd}{r i:Int}(hp:iT L K)(h:qz d L r i):qz d K r i:=by
 obtain⟨h1,m,h2,h3⟩:=h;exact⟨h1,m,hp _ _ h2,h3⟩
theorem qz.le {d:List Fc}{L:List Nd}{r i j:Int}(h:qz d L r i)(hj:j≤i):qz d L r j:=by
 obtain⟨h1,m,h2,h3⟩:=h;exact⟨h1,m,h2,by omega⟩
def Gn (d:List Fc)(L:List Nd)(n:Nd):Prop:=n.leaf=false∧0≤n.fact∧n.fact<(d.length:Int)∧n.cuts≠[]∧n.kids.length=n.cuts.length+1∧((d.getD n.fact.toNat ⟨.empty,0,0,0⟩).lo::n.cuts).Pairwise (· < ·)∧(∀c∈n.cuts,c≤(d.getD n.fact.toNat ⟨.empty,0,0,0⟩).hi)∧Gm n.kids∧∀x∈n.kids,qz d L x (n.fact+1)
def uz (d:List Fc)(L:List Nd):Prop:=∀n∈L,n.kids≠[]→Gn d L n
theorem Gn.mono {d:List Fc}{L K:List Nd}{n:Nd}(hp:iT L K)(h:Gn d L n):Gn d K n:=by
 obtain⟨h1,h2,h3,h4,h5,h6,h7,h8,h9⟩:=h;exact⟨h1,h2,h3,h4,h5,h6,h7,h8,fun x hx=>(h9 x hx).mono hp⟩
theorem uz.node {d:List Fc}{S:GS}{n:Nd}(h:uz d S.L)(hn:n.kids≠[]→Gn d S.L n):uz d (cR n S).2.L:=by
 have hp:=(CS n S).2.2;intro m hm hk;simp only[cR,iW]at hm;split at hm
 ·exact(h m hm hk).mono hp
 ·rcases List.mem_append.1 hm with q |q
  ·exact(h m q hk).mono hp
  ·simp only[List.mem_singleton]at q;rw[q]at hk ⊢;exact(hn hk).mono hp
theorem VQ {α:Type}{p q:α→Bool}:∀{l:List α},(∀x∈l,p x=q x)→bS p l=bS q l
 |[],_=>rfl
 |y::l,h=>by
  unfold bS;rw[h y ao,VQ fun x hx=>h x (ak _ hx)]
theorem yj8 {n:Nd}{s w:Int}(hs:s≤w)(h:∀c∈n.cuts,¬(s<c∧c≤w)):k9 n s=k9 n w:=by
 unfold k9;rw[VQ (p:=fun c=>decide (s<c)) (q:=fun c=>decide (w<c)) fun x hx=>by
  have:=h x hx
  congr 1
  apply propext;omega]
theorem Wj {a:List Nd}{d:List Fc}(ha:DgOk a d){x:Nat}(hx:x<a.length){i s:Int}{v:Int→Int}{b:Bool}(hi:i≤bH a[x] d)(hid:i<(d.length:Int))(hs:s≤v i)(hc:bH a[x] d=i→∀c∈(a[x]).cuts,¬(s<c∧c≤v i))(h:cV a v (x:Int) b):cV a v ((er a[x] x i s).toNat:Int) b:=by
 obtain⟨o1,_⟩:=BL ha hx i s hi hid;rw[Int.toNat_of_nonneg o1];unfold er at o1 ⊢
 by_cases e:¬(a[x]).kids=[]∧(a[x]).fact=i
 ·rw[if_pos e]at o1 ⊢;have r9:bH a[x] d=i:=by rw[bH,if_neg e.1];exact e.2
  have hg:a[((x:Int)).toNat]?=some a[x]:=by rw[Int.toNat_natCast,aa hx]
  cases h with
  |leaf _ q2 q3=>rw[hg]at q2;cases q2;exact absurd q3 e.1
  |node _ q2 _ q4 q5=>
   rw[hg]at q2;cases q2;rw[e.2]at q4;rw[yj8 hs (hc r9),an,q4];exact q5
 ·rw[if_neg e];exact h
def AN (a b:List Nd)(d:List Fc)(L:List Nd) (r:Int) (x y:Nat):Prop:=∀ρ,oC d ρ→∀p q,cV a (vD d ρ) (x:Int) p→cV b (vD d ρ) (y:Int) q→cV L (vD d ρ) r (p && q)
theorem AN.mono {a b:List Nd}{d:List Fc}{L K:List Nd}{r:Int}{x y:Nat}(hp:iT L K)(h:AN a b d L r x y):AN a b d K r x y:=fun ρ hr p q h1 h2=>(h ρ hr p q h1 h2).mono hp
def I8 (a b:List Nd)(d:List Fc) (x y:Nat):Int:=iX (a.getD x (cj false)) (b.getD y (cj false)) d
def CI (a b:List Nd)(d:List Fc)(L:List Nd) (r:Int) (x y:Nat):Prop:=AN a b d L r x y∧qz d L r (I8 a b d x y)
theorem CI.mono {a b:List Nd}{d:List Fc}{L K:List Nd}{r:Int}{x y:Nat}(hp:iT L K)(h:CI a b d L r x y):CI a b d K r x y:=⟨h.1.mono hp,h.2.mono hp⟩
def JH (a b:List Nd)(d:List Fc)(H:HS):Prop:=uz d H.L∧∀p∈H.M,∃x y:Nat,p.1=((x:Int),(y:Int))∧CI a b d H.L p.2 x y
theorem VK {t:Int×Int}{v:Int}:∀{D:List ((Int×Int)×Int)},kD t D=some v→(t,v)∈D
 |[],h=>by cases h
 |(k,w)::l,h=>by
  rw[kD]at h
  by_cases e:t=k
  ·rw[if_pos e]at h;cases h;rw[e];exact ao
  ·rw[if_neg e]at h;exact ak _ (VK h)
theorem Wa {t:Int×Int}{v:Int}:∀{D:List ((Int×Int)×Int)}{p:(Int×Int)×Int},p∈mr t v D→p∈D∨p=(t,v)
 |[],p,h=>by
  simp[mr]at h;exact .inr h
 |(k,w)::l,p,h=>by
  rw[mr]at h
  by_cases e:t=k
  ·rw[if_pos e]at h
   rcases List.mem_cons.1 h with q |q
   ·exact .inr (by rw[q,e])
   ·exact .inl (ak _ q)
  ·rw[if_neg e]at h
   rcases List.mem_cons.1 h with q |q
   ·exact .inl (by rw[q];exact ao)
   ·rcases Wa q with q |q
    ·exact .inl (ak _ q)
    ·exact .inr q
theorem Vq (L:List Nd)(n:Nd):L.length≤(iW L n).length:=by
 by_cases h:bN n∈L.map bN
 ·rw[iW,if_pos h];exact ae _
 ·rw[iW,if_neg h];simp
theorem V8 (n:Nd)(H:HS):H.L.length≤(vg n H).2.L.length:=Vq _ _
theorem VX (i:Nat)(st ks:List Int)(H:HS):H.L.length≤(jW i st ks H).2.L.length:=by
 by_cases h:(bG (iO ks) [] [iO ks] st ks).2.2.length=1
 ·simp only[jW,eu];rw[if_pos h];exact ae _
 ·simp only[jW,eu];rw[if_neg h];exact Vq _ _
theorem O0 {g:Int→HS→Int×HS}(hg:∀v H,H.L.length≤(g v H).2.L.length):∀(l:List Int)(H:HS),H.L.length≤(fm g l H).2.L.length
 |[],H=>ae _
 |v::l,H=>Nat.le_trans (hg v H) (O0 hg l _)
theorem OU (a b:List Nd)(d:List Fc):∀(k x y:Nat)(H:HS),H.L.length≤(eW a b d k x y H).2.L.length
 |0,_,_,_=>ae _
 |k+1,x,y,H=>by
  rw[eW];cases kD ((x:Int),(y:Int)) H.M with
  |some v=>exact ae _
  |none=>
   simp only;split
   ·exact V8 _ _
   ·refine Nat.le_trans (O0 (fun v H=>?_) _ H) (VX _ _ _ _);exact OU a b d k _ _ H
theorem VH {J:HS→Prop}{g:Int→HS→Int×HS}{F:Int→List Nd→Int→Prop}(hF:∀v L K r,iT L K→F v L r→F v K r)(hm:∀v H,H.L.length≤(g v H).2.L.length):∀(l:List Int),(∀v∈l,∀H,J H→(g v H).2.L.length≤20000→J (g v H).2∧iT H.L (g v H).2.L∧F v (g v H).2.L (g v H).1)→∀H,J H→(fm g l H).2.L.length≤20000→J (fm g l H).2∧iT H.L (fm g l H).2.L∧(fm g l H).1.length=l.length∧∀p∈l.zip (fm g l H).1,F p.1 (fm g l H).2.L p.2
 |[],_,H,h,_=>⟨h,.refl _,rfl,by simp⟩
 |v::l,hg,H,h,hf=>by
  obtain⟨a1,a2,a3⟩:=hg v ao H h (Nat.le_trans (O0 hm l _) hf);obtain⟨b1,b2,b3,b4⟩:=VH hF hm l (fun v hv=>hg v (ak _ hv)) (g v H).2 a1 hf;refine⟨b1,a2.trans b2,by simp[fm,b3],fun p hp=>?_⟩;simp only[fm,List.zip_cons_cons]at hp ⊢
  rcases List.mem_cons.1 hp with q |q
  ·rw[q];exact hF _ _ _ _ b2 a3
  ·exact b4 p q
theorem OW:∀{l:List Int}{hi lo:Int},oL hi lo l→(lo::l).Pairwise (· < ·)∧∀c∈l,c≤hi
 |[],_,_,_=>by simp
 |c::l,hi,lo,h=>by
  obtain⟨h1,h2,h3⟩:=h;obtain⟨a1,a2⟩:=OW h3;refine⟨List.pairwise_cons.2 ⟨fun z hz=>?_,a1⟩,fun z hz=>?_⟩
  ·rcases List.mem_cons.1 hz with q |q
   ·omega
   ·have:=(List.pairwise_cons.1 a1).1 z q;omega
  ·rcases List.mem_cons.1 hz with q |q
   ·omega
   ·exact a2 z q
theorem VB:∀{l:List Int}{hi lo:Int},(lo::l).Pairwise (· < ·)→(∀c∈l,c≤hi)→oL hi lo l
 |[],_,_,_,_=>trivial
 |c::l,hi,lo,h,h2=>by
  obtain⟨p1,p2⟩:=List.pairwise_cons.1 h;have:=p1 c ao;have:=h2 c ao;exact⟨by omega,by omega,VB p2 fun z hz=>h2 z (ak _ hz)⟩
theorem Vs {a:List Nd}{d:List Fc}(ha:DgOk a d){p:Nd}(hp:p∈a){i:Int}(hi:bH p d=i)(hid:i<(d.length:Int)):∀c∈p.cuts,(d.getD i.toNat ⟨.empty,0,0,0⟩).lo<c∧c≤(d.getD i.toNat ⟨.empty,0,0,0⟩).hi:=by
 rcases ha.pr p hp with⟨e,_⟩ |⟨e1,_,_,_,_,h6,h7,_⟩
 ·rw[DS e]at hi;omega
 ·rw[bH,if_neg e1]at hi;subst hi;have e:d.getD p.fact.toNat ⟨.empty,0,0,0⟩=d[p.fact.toNat]:=by rw[an,aa h6];rfl
  rw[e];obtain⟨a1,a2⟩:=OW h7;exact fun c hc=>⟨(List.pairwise_cons.1 a1).1 c hc,a2 c hc⟩
theorem yi2 {a b:List Nd}{d:List Fc}(ha:DgOk a d)(hb:DgOk b d)(fu:∀x∈d,x.lo≤x.hi):∀(k x y:Nat)(H:HS)(hx:x<a.length)(hy:y<b.length),(d.length:Int)+1≤k+iX a[x] b[y] d→(eW a b d k x y H).2.L.length≤20000→JH a b d H→JH a b d (eW a b d k x y H).2∧iT H.L (eW a b d k x y H).2.L∧CI a b d (eW a b d k x y H).2.L (eW a b d k x y H).1 x y:=by
 intro k
 induction k with
 |zero=>
  intro x y H hx hy hk;have:=(xr ha hb (ai hx) (ai hy)).2.1;omega
 |succ k ih=>
  intro x y H hx hy hk hL hJ;have Uo:=OU a b d (k+1) x y H;rw[eW]at hL ⊢;cases hg:kD ((x:Int),(y:Int)) H.M with
  |some v=>
   simp only;refine⟨hJ,.refl _,?_⟩;obtain⟨x2,y2,e1,e2⟩:=hJ.2 _ (VK hg);simp only[Prod.mk.injEq]at e1;have ex:x=x2:=by omega
   have ey:y=y2:=by omega
   rw[ex,ey];exact e2
  |none=>
   rw[hg]at hL;simp only at hL ⊢;rw[vm hx,vm hy]at hL ⊢;have MI:I8 a b d x y=iX a[x] b[y] d:=by unfold I8;rw[vm hx,vm hy]
   obtain⟨i1,i2,i3,i4⟩:=xr ha hb (ai hx) (ai hy);have mK:iX a[x] b[y] d=bH a[x] d∨iX a[x] b[y] d=bH b[y] d:=by unfold iX DO;omega
   generalize hi:iX a[x] b[y] d=i at i1 i2 i3 i4 hk hL mK MI
   by_cases hc:i=(d.length:Int)∨20000<H.L.length
   ·rw[if_pos hc]at hL ⊢;have hid:i=(d.length:Int):=by
     rcases hc with q |q
     ·exact q
     ·have:=V8 (cj (a[x].leaf && b[y].leaf)) H;omega
    obtain⟨n1,n2,n3⟩:=CS (cj (a[x].leaf && b[y].leaf)) H.gs;have sv:∀{g:List Nd} (hg:DgOk g d) {z:Nat} (hz:z<g.length),(d.length:Int)≤bH g[z] d→(g[z]).kids=[]:=fun {g} hg {z} hz h=>by
     by_cases hk:(g[z]).kids=[]
     ·exact hk
     ·have:=((DM hg (ai hz)).2.2 hk).2.1;omega
    have iz:∀{g:List Nd} (hg:DgOk g d) {z:Nat} (hz:z<g.length),(d.length:Int)≤bH g[z] d→∀v p,cV g v (z:Int) p→p=(g[z]).leaf:=fun {g} hg {z} hz h v p hp=>by
     have hk:=sv hg hz h;have e:g[((z:Int)).toNat]?=some g[z]:=by rw[Int.toNat_natCast,aa hz]
     exact hp.det (cV.leaf (by omega) e hk)
    refine⟨⟨uz.node hJ.1 (fun q=>absurd rfl q),fun p hp=>?_⟩,n3,fun ρ _ p q hp hq=>?_,n2,cj (a[x].leaf && b[y].leaf),n1,?_⟩
    ·obtain⟨x2,y2,e1,e2⟩:=hJ.2 p hp;exact⟨x2,y2,e1,e2.mono n3⟩
    ·rw[iz ha hx (by omega) _ p hp,iz hb hy (by omega) _ q hq];exact V4 _ H.gs _
    ·rw[MI,DS rfl];exact i2
   ·rw[if_neg hc]at hL ⊢;have hid:i<(d.length:Int):=by omega
    have lF:i.toNat<d.length:=by omega
    have Ng:((i.toNat:Nat):Int)=i:=by omega
    obtain⟨f,hf⟩:∃f,f=d.getD i.toNat ⟨.empty,0,0,0⟩:=⟨_,rfl⟩;have zH:f∈d:=by
     rw[hf,an,aa lF];exact ai lF
    have gE:=fu f zH;rw[← hf]at hL ⊢;obtain⟨o1,o2⟩:=yj6 a[x] b[y] d i f.lo;have df:bH a[x] d=i→∀c∈(a[x]).cuts,f.lo<c∧c≤f.hi:=fun q=>by rw[hf];exact Vs ha (ai hx) q hid
    have MO:bH b[y] d=i→∀c∈(b[y]).cuts,f.lo<c∧c≤f.hi:=fun q=>by rw[hf];exact Vs hb (ai hy) q hid
    have ov:∀s∈kF a[x] b[y] d i f.lo,f.lo≤s∧s≤f.hi:=fun s hs=>by
     rcases (o2 s).1 hs with q |⟨q1,q2⟩ |⟨q1,q2⟩
     ·omega
     ·have:=df q1 s q2;omega
     ·have:=MO q1 s q2;omega
    have rY:(fm (fun v H=>eW a b d k (er a[x] x i v).toNat (er b[y] y i v).toNat H) (kF a[x] b[y] d i f.lo) H).2.L.length≤20000:=Nat.le_trans (VX _ _ _ _) hL;obtain⟨b1,b2,b3,b4⟩:=VH (J:=JH a b d) (F:=fun v L r=>AN a b d L r (er a[x] x i v).toNat (er b[y] y i v).toNat∧qz d L r (i+1)) (fun v L K r hp h=>⟨h.1.mono hp,h.2.mono hp⟩) (fun v H=>OU a b d k _ _ H) (kF a[x] b[y] d i f.lo) (fun v _ S hS hSl=>by
     obtain⟨s1,s2,s3⟩:=BL ha hx i v i3 hid;obtain⟨t1,t2,t3⟩:=BL hb hy i v i4 hid;have qg:i+1≤iX (a[(er a[x] x i v).toNat]) (b[(er b[y] y i v).toNat]) d:=by unfold iX DO;omega
     obtain⟨a1,a2,a3,a4⟩:=ih _ _ S s2 t2 (by omega) hSl hS;refine⟨a1,a2,a3,a4.le ?_⟩;unfold I8;rw[vm s2,vm t2];exact qg) H hJ rY
    clear ih rY;generalize fm (fun v H=>eW a b d k (er a[x] x i v).toNat (er b[y] y i v).toNat H) (kF a[x] b[y] d i f.lo) H=r at *;obtain⟨ks,T⟩:=r;simp only at b1 b2 b3 b4 hL ⊢
    match aW:kF a[x] b[y] d i f.lo,ks with
    |[],_=>exact absurd aW (Pq _ _ _ _ _)
    |_::_,[]=>rw[aW]at b3;simp at b3
    |s0::st,k0::ks=>
     rw[aW]at b3 b4 o1 o2 ov;have sD:f.lo∈s0::st:=(o2 f.lo).2 (.inl rfl);have oX:s0=f.lo:=by
      have h1:=ov s0 ao
      rcases List.mem_cons.1 sD with q |q
      ·exact q.symm
      ·have:=(List.pairwise_cons.1 o1).1 _ q;omega
     obtain⟨c1,c2⟩:=O8 i.toNat s0 k0 st ks T.gs o1;have UM:∀z∈k0::ks,qz d T.L z (i+1):=fun z hz=>by
      obtain⟨j,hj,e⟩:=List.getElem_of_mem hz;have eK:j<(s0::st).length:=by omega
      have bV:((s0::st)[j],(k0::ks)[j])∈(s0::st).zip (k0::ks):=by
       have hjz:j<((s0::st).zip (k0::ks)).length:=by simp only[List.length_zip];omega
       have:((s0::st).zip (k0::ks))[j]=((s0::st)[j],(k0::ks)[j]):=by rw[List.getElem_zip]
       rw[← this];exact ai hjz
      have:=(b4 _ bV).2;rw[← e];exact this
     have MN:uz d (jW i.toNat (s0::st) (k0::ks) T).2.L:=by
      rcases c2 with⟨e,_⟩ |⟨n,e,q1,q2,q3,q4,q5,q6,q7,q8,q9,OD⟩
      ·show uz d (eu i.toNat (s0::st) (k0::ks) T.gs).2.L;rw[e];exact b1.1
      ·show uz d (eu i.toNat (s0::st) (k0::ks) T.gs).2.L;rw[e];refine uz.node b1.1 fun _=>?_;have qM:d.getD n.fact.toNat ⟨.empty,0,0,0⟩=f:=by rw[q1,Int.toNat_natCast,hf]
       refine⟨q2,by omega,by omega,q5,q6,?_,?_,q9,fun z hz=>?_⟩
       ·rw[qM];refine List.pairwise_cons.2 ⟨fun c hc=>?_,q7⟩;have:=(List.pairwise_cons.1 o1).1 c (q8 c hc);omega
       ·rw[qM];exact fun c hc=>(ov c (ak _ (q8 c hc))).2
       ·rw[q1,Ng];exact UM z (OD z hz)
     have r9:qz d (jW i.toNat (s0::st) (k0::ks) T).2.L (jW i.toNat (s0::st) (k0::ks) T).1 i:=by
      show qz d (eu i.toNat (s0::st) (k0::ks) T.gs).2.L (eu i.toNat (s0::st) (k0::ks) T.gs).1 i
      rcases c2 with⟨e,_⟩ |⟨n,e,q1,q2,q3,_⟩
      ·rw[e];exact(UM k0 ao).le (by omega)
      ·rw[e];obtain⟨n1,n2,_⟩:=CS n T.gs;refine⟨n2,n,n1,?_⟩;rw[bH,if_neg q3];omega
     have hand:AN a b d (jW i.toNat (s0::st) (k0::ks) T).2.L (jW i.toNat (s0::st) (k0::ks) T).1 x y:=by
      intro ρ hr p q hp hq;obtain⟨r1,r2⟩:=hr f zH;have hv:vD d ρ i=ρ f.name:=by rw[hf];rfl
      obtain⟨s,a1,a2,a3,a4⟩:=Pf (P:=fun v r=>AN a b d T.L r (er a[x] x i v).toNat (er b[y] y i v).toNat∧qz d T.L r (i+1)) (w:=vD d ρ i) st ks k0 s0 o1 (by omega) (b4 (s0,k0) (by simp)) (by simpa using b3.symm) fun p hp=>b4 p (by simp only[List.zip_cons_cons];exact ak _ hp);have ha2:=Wj ha hx i3 hid a2 (fun e c hc z=>by have:=a3 c ((o2 c).2 (.inr (.inl ⟨e,hc⟩))) z.2;omega) hp;have gZ:=Wj hb hy i4 hid a2 (fun e c hc z=>by have:=a3 c ((o2 c).2 (.inr (.inr ⟨e,hc⟩))) z.2;omega) hq;have:=a4.1 ρ hr p q ha2 gZ;refine VW (S:=T.gs) o1 ?_;rw[Ng];exact this
     have bV:CI a b d (jW i.toNat (s0::st) (k0::ks) T).2.L (jW i.toNat (s0::st) (k0::ks) T).1 x y:=⟨hand,by rw[MI];exact r9⟩;refine⟨⟨MN,fun p hp=>?_⟩,b2.trans c1,bV⟩
     rcases Wa hp with q |q
     ·obtain⟨x2,y2,e1,e2⟩:=b1.2 p q;exact⟨x2,y2,e1,e2.mono c1⟩
     ·exact⟨x,y,by rw[q],by rw[q];exact bV⟩
end
end Go.Ev
