/- Texts. -/
import Derived.Sort.Grow
import Derived.Test.YtkdnmldmffkkoaaGreatDoorP11
import Derived.Test.YtkdnmldmffkkoaaGreatDoorP15
set_option linter.unusedSimpArgs false
set_option linter.unusedVariables false
set_option maxRecDepth 100000
namespace Go.Ev
noncomputable section
variable {P : Program} {c : Cx} {σ τ υ : Sg} {h h' g f : Tr ABlk} {nx ax ny nz sz : Nat} {ds : List DE} {w x y : World} {tm tm' : Tr AV} {a : Act} {G : Gl} {r : Option Nat}
def dX (i k:Nat):Nat:=if k=i then i+1 else if k=i+1 then i else k
theorem yt (i k:Nat):dX i (dX i k)=k:=by unfold dX;(repeat' split) <;> omega
theorem P6 {i k n:Nat}(hi:i+2≤n)(hk:k<n):dX i k<n:=by unfold dX;(repeat' split) <;> omega
theorem Hj {i k:Nat}(h:k<i):dX i k=k:=by unfold dX;(repeat' split) <;> omega
theorem zU1 {i k:Nat}(h:i+2≤k):dX i k=k:=by unfold dX;(repeat' split) <;> omega
def Vb (i:Nat)(e:Edge):Edge:={ e with on:=dX i e.on }
def sY (i:Nat)(o:Oper):Oper:={ o with after:=o.after.map (Vb i) }
def wO (i:Nat)(o:Oper):Oper:={ o with after:=o.after.push { on:=i,ground:=.data } }
def uQ (i:Nat):List Oper→List Oper
 |o1::o2::t=>o1::wO i o2::t
 |l=>l
def uS (i:Nat):List Oper→List Oper
 |o1::o2::t=>sY i o2::wO i (sY i o1)::t.map (sY i)
 |l=>l
def gL (i:Nat)(l:List Oper):List Oper:=l.take i++uQ i (l.drop i)
def jD (i:Nat)(l:List Oper):List Oper:=l.take i++uS i (l.drop i)
def Qg (i:Nat)(l:List Oper)(Wl:List Nat):Bool:=
 eg l (fun o=>o.guard.isNone) && Nat.ble (i+2) l.length && bq i Wl && bq (i+1) Wl &&
 eg (jk l.length) (fun j=>(match l[j]? with
  |none=>true
  |some o=>eg o.after.toList (fun e=>match Region.binds .any e with |true=>Nat.ble (Nat.succ e.on) j |false=>true)) &&
  (match Nat.ble (i+2) j with |false=>true |true=>cU (bJ l []) i j && cU (bJ l []) (i+1) j)) &&
 eg (jk i) (fun j=>!(tj (gL i l) Wl j) || tj (jD i l) Wl j)
structure SwapOk (i:Nat)(l:List Oper)(Wl:List Nat):Prop where
 guard:∀o∈l,o.guard=none
 le:i+2≤l.length
 w1:bq i Wl=true
 w2:bq (i+1) Wl=true
 back:∀j o,l[j]?=some o→∀e∈o.after.toList,Region.binds .any e=true→e.on<j
 bef:∀j,i+2≤j→j<l.length→cU (bJ l []) i j=true∧cU (bJ l []) (i+1) j=true
 ord:∀j,j<i→tj (gL i l) Wl j=true→tj (jD i l) Wl j=true
theorem zSi {i:Nat}{l:List Oper}{Wl:List Nat}(h:Qg i l Wl=true):SwapOk i l Wl:=by
 unfold Qg at h;simp only[al]at h;obtain⟨⟨⟨⟨⟨h1,h2⟩,h3⟩,h4⟩,h5⟩,h6⟩:=h;refine⟨fun o ho=>?_,ah h2,h3,h4,fun j o ho e he hb=>?_,fun j hj az=>?_,fun j hj e=>?_⟩
 ·have:=dO h1 o ho;cases hg:o.guard with
  |none=>rfl
  |some p=>rw[hg]at this;cases this
 ·have az:j<l.length:=(List.getElem?_eq_some_iff.1 ho).1;have h6:=dO h5 j (List.mem_range.2 az);simp only[al]at h6;have h7:=h6.1;rw[ho]at h7;have:=dO h7 e he;rw[hb]at this;exact ah this
 ·have h6:=dO h5 j (List.mem_range.2 az);simp only[al]at h6;have h7:=h6.2;rw[Nat.ble_eq_true_of_le hj]at h7;simpa using h7
 ·have:=dO h6 j (List.mem_range.2 hj);rw[e]at this;simpa using this
def Lb (o o':Oper):Prop:=o'={ o with after:=o'.after }
section
variable {i : Nat} {l : List Oper} {Wl : List Nat}
theorem Jy (X:SwapOk i l Wl):∃o1 o2 t,l.drop i=o1::o2::t∧l[i]?=some o1∧l[i+1]?=some o2∧∀k,t[k]?=l[i+2+k]?:=by
 have hle:=X.le;refine⟨l[i],l[i+1],l.drop (i+2),?_,aa (by omega),aa (by omega),fun k=>by rw[List.getElem?_drop]⟩;rw[aj (by omega),aj (show i+1<l.length by omega)]
theorem zT3 (X:SwapOk i l Wl):(gL i l).length=l.length:=by
 obtain⟨o1,o2,t,e,_,_,_⟩:=Jy X;have h1:=congrArg List.length e;have hle:=X.le;unfold gL;rw[e];simp only[List.length_drop,List.length_cons]at h1;simp[uQ];omega
theorem zFv (X:SwapOk i l Wl):(jD i l).length=l.length:=by
 obtain⟨o1,o2,t,e,_,_,_⟩:=Jy X;have h1:=congrArg List.length e;have hle:=X.le;unfold jD;rw[e];simp only[List.length_drop,List.length_cons]at h1;simp[uS];omega
theorem Qa (X:SwapOk i l Wl) (k:Nat):(gL i l)[k]?=if k=i+1 then (l[i+1]?).map (wO i) else l[k]?:=by
 obtain⟨o1,o2,t,e,g1,g2,g3⟩:=Jy X;have hle:=X.le;unfold gL;rw[e]
 by_cases hk:k<i
 ·rw[List.getElem?_append_left (by simp;omega),if_neg (by omega),List.getElem?_take_of_lt hk]
 ·rw[List.getElem?_append_right (by simp;omega)];have hl:(l.take i).length=i:=by simp;omega
  rw[hl]
  by_cases h1:k=i
  ·subst h1;simp[uQ,g1]
  ·by_cases h2:k=i+1
   ·subst h2;simp[uQ,g2]
   ·rw[if_neg h2];have h3:=g3 (k-i-2);rw[show i+2+(k-i-2)=k by omega]at h3;rw[← h3,show k-i=(k-i-2)+1+1 by omega];simp[uQ]
theorem Rs (X:SwapOk i l Wl) (k:Nat):(jD i l)[k]?=if k<i then l[k]? else if k=i+1 then (l[i]?).map fun o=>wO i (sY i o) else (l[dX i k]?).map (sY i):=by
 obtain⟨o1,o2,t,e,g1,g2,g3⟩:=Jy X;have hle:=X.le;unfold jD;rw[e]
 by_cases hk:k<i
 ·rw[List.getElem?_append_left (by simp;omega),if_pos hk,List.getElem?_take_of_lt hk]
 ·rw[List.getElem?_append_right (by simp;omega),if_neg hk];have hl:(l.take i).length=i:=by simp;omega
  rw[hl]
  by_cases h1:k=i
  ·subst h1;have:dX k k=k+1:=by simp[dX]
   simp[uS,g2,this]
  ·by_cases h2:k=i+1
   ·subst h2;simp[uS,g1]
   ·rw[if_neg h2,zU1 (by omega)];have h3:=g3 (k-i-2);rw[show i+2+(k-i-2)=k by omega]at h3;rw[← h3,show k-i=(k-i-2)+1+1 by omega];simp[uS]
theorem yz {ops:List Oper}{x k:Nat}:fS ops.toArray x k=true↔∃o,ops[k]?=some o∧∃e∈o.after.toList,Region.binds .any e=true∧e.on=x:=by
 unfold fS;rw[List.getElem?_toArray];cases ops[k]? with
 |none=>simp
 |some o=>
  simp only[Option.map_some,Option.getD_some,Array.any_eq_true',al];constructor
  ·rintro⟨e,he,h1,h2⟩
   exact⟨o,rfl,e,by simpa using he,h1,by simpa using h2⟩
  ·rintro⟨o',e',e,he,h1,h2⟩
   cases e';exact⟨e,by simpa using he,h1,by simpa using h2⟩
theorem zTc (X:SwapOk i l Wl){x k:Nat}(hd:fS (gL i l).toArray x k=true):fS l.toArray x k=true∨(k=i+1∧x=i):=by
 obtain⟨o,ho,e,he,hb,hx⟩:=yz.1 hd;rw[Qa X]at ho
 by_cases hk:k=i+1
 ·subst hk;rw[if_pos rfl]at ho;cases hl:l[i+1]? with
  |none=>rw[hl]at ho;cases ho
  |some o0=>
   rw[hl]at ho;cases ho;simp only[wO,Array.toList_push,List.mem_append,List.mem_singleton]at he
   rcases he with he |he
   ·exact .inl (yz.2 ⟨o0,hl,e,he,hb,hx⟩)
   ·subst he;exact .inr ⟨rfl,hx.symm⟩
 ·rw[if_neg hk]at ho;exact .inl (yz.2 ⟨o,ho,e,he,hb,hx⟩)
theorem XM (X:SwapOk i l Wl){x k:Nat}(hd:fS (jD i l).toArray x k=true):fS l.toArray (dX i x) (dX i k)=true∨(k=i+1∧x=i):=by
 obtain⟨o,ho,e,he,hb,hx⟩:=yz.1 hd;rw[Rs X]at ho
 by_cases hk:k<i
 ·rw[if_pos hk]at ho;have:=X.back k o ho e he hb;rw[Hj hk,Hj (by omega)];exact .inl (yz.2 ⟨o,ho,e,he,hb,hx⟩)
 ·rw[if_neg hk]at ho
  by_cases h2:k=i+1
  ·subst h2;rw[if_pos rfl]at ho;cases hl:l[i]? with
   |none=>rw[hl]at ho;cases ho
   |some o0=>
    rw[hl]at ho;cases ho;simp only[wO,sY,Array.toList_push,Array.toList_map,List.mem_append,List.mem_map,List.mem_singleton]at he
    rcases he with⟨e0,MU,ee⟩ |he
    ·subst ee;refine .inl (yz.2 ⟨o0,?_,e0,MU,hb,?_⟩)
     ·have:dX i (i+1)=i:=by simp[dX]
      rw[this];exact hl
     ·rw[← hx];show e0.on=dX i (dX i e0.on);rw[yt]
    ·subst he;exact .inr ⟨rfl,hx.symm⟩
  ·rw[if_neg h2]at ho;cases hl:l[dX i k]? with
   |none=>rw[hl]at ho;cases ho
   |some o0=>
    rw[hl]at ho;cases ho;simp only[sY,Array.toList_map,List.mem_map]at he;obtain⟨e0,MU,ee⟩:=he;subst ee;refine .inl (yz.2 ⟨o0,hl,e0,MU,hb,?_⟩);rw[← hx];show e0.on=dX i (dX i e0.on);rw[yt]
theorem zPj (X:SwapOk i l Wl){k:Nat}{o:Oper}(ho:l[k]?=some o):∃o',(gL i l)[k]?=some o'∧Lb o o':=by
 rw[Qa X]
 by_cases hk:k=i+1
 ·subst hk;rw[if_pos rfl,ho];exact⟨_,rfl,rfl⟩
 ·rw[if_neg hk];exact⟨o,ho,rfl⟩
theorem zQr (X:SwapOk i l Wl){k:Nat}{o:Oper}(ho:l[k]?=some o):∃o',(jD i l)[dX i k]?=some o'∧Lb o o':=by
 rw[Rs X]
 by_cases hk:k<i
 ·rw[Hj hk,if_pos hk];exact⟨o,ho,rfl⟩
 ·by_cases h1:k=i
  ·subst h1;have:dX k k=k+1:=by simp[dX]
   rw[this,if_neg (by omega),if_pos rfl,ho];exact⟨_,rfl,rfl⟩
  ·have h2:¬dX i k<i:=by unfold dX;(repeat' split) <;> omega
   have h3:¬dX i k=i+1:=by unfold dX;(repeat' split) <;> omega
   rw[if_neg h2,if_neg h3,yt,ho];exact⟨_,rfl,rfl⟩
end
theorem X2 {ops ops':Array Oper}{Q:Exit→Act→World→Prop}{K:Act→World→Prop}{k k':Nat}{o o':Oper}(ho:ops[k]?=some o)(e9:ops'[k']?=some o')(hs:Lb o o')(hg:o.guard=none)
  (h:wpOpIn (dD r) 0 P ops' Q k' K a w):wpOpIn (dD r) 0 P ops Q k K a w:=by
 unfold wpOpIn at *;rw[ho];rw[e9]at h;unfold Lb at hs;have lC:o'.guard=none:=by rw[hs];exact hg
 have w1:Region.wanted o (yielded ops a.tmps)=true:=by unfold Region.wanted;rw[hg]
 have w2:Region.wanted o' (yielded ops' a.tmps)=true:=by unfold Region.wanted;rw[lC]
 simp only[w1,if_true];simp only[w2,if_true]at h;rw[hs]at h;exact h
theorem DInv.congr {ops:Array Oper}{S:Nat→Tr AV×Tr ABlk×Nat}{v:Nat→AV}{W:Nat→Bool}{D0:List Deferred}{l l':Array Bool}(hl:∀i,l.getD i false=l'.getD i false)(I:DInv c sz ops S v W σ w D0 l a x):DInv c sz ops S v W σ w D0 l' a x:=by
 obtain⟨i1,i2,⟨p,τ,q1,q2,q3,q4,q5⟩,i4,i5⟩:=I;refine⟨fun j hj k hk=>by rw[← hl]at hj ⊢;exact i1 j hj k hk,fun i hi=>i2 i (by rw[hl];exact hi),⟨p,τ,q1,q2,fun j hj hw=>by rw[← hl];exact q3 j hj hw,q4,fun t u e=>q5 t u ?_⟩,i4,i5⟩;rw[← e];exact yV _ fun j _ _=>hl j
theorem PG {ops ops':Array Oper}{o:Oper}{u:AV}(hg:o.guard=none)(h:gX P c r ops o u tm g nx f ny):gX P c r ops' o u tm g nx f ny:=by
 intro σ a w hk ht Q K hK;have:=h σ a w hk ht Q K hK;have w1:Region.wanted o (yielded ops a.tmps)=true:=by unfold Region.wanted;rw[hg]
 have w2:Region.wanted o (yielded ops' a.tmps)=true:=by unfold Region.wanted;rw[hg]
 rw[w1]at this;rw[w2];exact this
theorem WA {ops ops':List Oper}{o:Oper}(hg:o.guard=none):eP ops o=eP ops' o:=by
 unfold eP;rw[hg]
theorem zym {ops ops':Array Oper}{Wl Cl:List Nat}{U:List (Nat×Nat)}{S S':Nat→Tr AV×Tr ABlk×Nat}{v v':Nat→AV}{j:Nat}(fK:∀k,k≤j→ops'[k]?=ops[k]?)(hg:∀o,ops[j]?=some o→o.guard=none)(hS:∀k,k≤j+1→S' k=S k)(hv:v' j=v j)(dW:tj ops.toList Wl j=true→tj ops'.toList Wl j=true)
  (h:yM P c r sz ops Wl Cl U S v j):yM P c r sz ops' Wl Cl U S' v' j:=by
 obtain⟨o,ho,e1,e2,e3,e4,e5⟩:=h;have lC:=hg o ho;have sg:∀k,k≤j→∀t,iZ c ops'.toList k t=iZ c ops.toList k t:=by
  intro k hk t;unfold iZ;rw[Array.getElem?_toList,Array.getElem?_toList,fK k hk]
 refine⟨o,by rw[fK j (ae _)];exact ho,?_,e2,?_,fun hW=>?_,fun hW a ha az=>?_⟩
 ·rw[hS j (by omega),hS (j+1) (ae _),hv,WA (ops':=ops.toList) lC];exact PG lC e1
 ·rw[hS j (by omega),hS (j+1) (ae _),hv];exact e3
 ·obtain⟨f1,f2⟩:=e4 hW;rw[hS j (by omega),hS (j+1) (ae _),hv,WA (ops':=ops.toList) lC];refine⟨f1,?_⟩
  rcases f2 with f2 |⟨f2,f3,f4⟩ |f2
  ·exact .inl fun h' ax=>PG lC (f2 h' ax)
  rotate_left
  ·exact .inr (.inr (dW f2))
  ·refine .inr (.inl ⟨f2,fun h' ax hk=>PG lC (f3 h' ax (by rw[sg j (ae _)]at hk;exact hk)),fun b hb az=>?_⟩);rw[sg j (ae _),hS b (by omega)];exact f4 b hb az
 ·rw[hS j (by omega),hS (j+1) (ae _),sg a (by omega)];exact e5 hW a ha az
theorem zyz {ops ops':Array Oper}{v v':Nat→AV}{f f':Nat→Bool}:∀(n:Nat),(∀k,k<n→ops'[k]?=ops[k]?∧v' k=v k∧f' k=f k)→TL ops' v' tm f' n=TL ops v tm f n
 |0,_=>rfl
 |n+1,hh=>by
  obtain⟨e1,e2,e3⟩:=hh n (by omega);rw[TL,TL,zyz n fun k hk=>hh k (by omega),e1,e2,e3]
def xh (i:Nat)(l:Array Bool):Array Bool:=(l.setIfInBounds i (l.getD (i+1) false)).setIfInBounds (i+1) (l.getD i false)
theorem A5 {i:Nat}{l:Array Bool}(hi:i+2≤l.size) (k:Nat):(xh i l).getD k false=l.getD (dX i k) false:=by
 unfold xh dX;simp only[Array.getD_eq_getD_getElem?,Array.getElem?_setIfInBounds,Array.size_setIfInBounds]
 by_cases h1:k=i
 ·subst h1;simp[show k<l.size by omega]
 ·by_cases h2:k=i+1
  ·subst h2;simp[show i+1<l.size by omega]
  ·have h1':¬i=k:=fun e=>h1 e.symm;have LX:¬i+1=k:=fun e=>h2 e.symm;simp[h1,h2,h1',LX]
theorem Yh (hm:P.follows .mixedOrders=true)(hc:CxOk P c)(hG:c.G.sym=true){inr:Bool}{id:Nat}{l:List Oper}(i:Nat)(Wl Cl:List Nat)(U:List (Nat×Nat))(h1:uT c (gL i l) (bJ (gL i l) []) Wl Cl U=true)(h2:uT c (jD i l) (bJ (jD i l) []) Wl Cl U=true)(oY:Qg i l Wl=true){Q:AX→AS→Prop}{s:AS}
  (hw:tC P c sz (gL i l) Wl Cl U (fun hs s=>pK P c sz (gL i l) Wl Cl U (Q .norm) (uQ i (l.drop i)) i hs s∧pK P c sz (jD i l) Wl Cl U (Q .norm) (uS i (l.drop i)) i hs s) (l.take i) 0 (fun _=>.nil) s):AW P c inr sz (.region id l.toArray true) Q s:=by
 intro r hi σ a w ok st;cases s with
 |mk tm h nx ds=>
 simp only[AS.tm,AS.h,AS.nx,AS.ds]at ok st ⊢;have X:=zSi oY;have hle:=X.le;obtain⟨EW,ua⟩:=QB h1;obtain⟨zA,_⟩:=QB h2;have n1:=zT3 X;have n2:=zFv X;have az:(l.take i).length=i:=by simp;omega
 have g1:∀k,k<i→(gL i l)[k]?=l[k]?:=fun k hk=>by rw[Qa X,if_neg (by omega)]
 have g2:∀k,k<i→(jD i l)[k]?=l[k]?:=fun k hk=>by rw[Rs X,if_pos hk]
 obtain⟨S0,v0,p1,_,⟨jf,p2,p3⟩,p4⟩:=Y2 (r:=r) hc hG (ops:=(gL i l).toArray) (by simpa using EW) ua (l.take i) 0 (fun _=>.nil) tm h nx ds (fun k hk=>by
  rw[az]at hk;rw[Nat.zero_add,List.getElem?_toArray,g1 k hk,List.getElem?_take_of_lt hk]) (by simpa using hw) (fun _=>(tm,h,nx)) (fun _=>.nilFunc) rfl (fun j hj=>by omega)
 rw[az,Nat.zero_add]at p2 p3 p4;obtain⟨p5,p6⟩:=p3;have ql1:∀k,(uQ i (l.drop i))[k]?=(gL i l).toArray[i+k]?:=fun k=>by
  rw[List.getElem?_toArray];unfold gL;rw[List.getElem?_append_right (by omega),az,Nat.add_sub_cancel_left]
 have ql2:∀k,(uS i (l.drop i))[k]?=(jD i l).toArray[i+k]?:=fun k=>by
  rw[List.getElem?_toArray];unfold jD;rw[List.getElem?_append_right (by omega),az,Nat.add_sub_cancel_left]
 have qn1:i+(uQ i (l.drop i)).length=l.length:=by
  rw[← n1];unfold gL;simp;omega
 have qn2:i+(uS i (l.drop i)).length=l.length:=by
  rw[← n2];unfold jD;simp;omega
 obtain⟨S1,v1,a1,a2,a3,a4⟩:=Rg (r:=r) hc hG (ops:=(gL i l).toArray) (by simpa using EW) ua (uQ i (l.drop i)) i jf (S0 i).1 (S0 i).2.1 (S0 i).2.2 ds ql1 (by simpa using p5) S0 v0 rfl p2;obtain⟨S2,v2,b1,b2,b3,b4⟩:=Rg (r:=r) hc hG (ops:=(jD i l).toArray) (by simpa using zA) ua (uS i (l.drop i)) i jf (S0 i).1 (S0 i).2.1 (S0 i).2.2 ds ql2 (by simpa using p6) S0 v0 rfl p2;rw[qn1]at a3 a4;rw[qn2]at b3 b4;have zJ:∀(k:Nat) (o:Oper),l[k]?=some o→o.guard=none:=fun k o ho=>X.guard o (List.mem_of_getElem? ho);have Fh:∀k,k<i→∀o,(gL i l).toArray[k]?=some o→o.guard=none:=fun k hk o ho=>by
  rw[List.getElem?_toArray,g1 k hk]at ho;exact zJ k o ho
 have R1:Dr P c r sz (gL i l).toArray S1 v1 (fun i=>bq i Wl) (cU (bJ (gL i l) [])):=PY h1 fun j hj=>by
  rw[n1]at hj
  by_cases eD:j<i
  ·exact zym (fun k _=>rfl) (Fh j eD) (fun k hk=>a1 k (by omega)) (a2 j eD) (fun e=>e) (p4 j (by omega) eD)
  ·exact a4 j (by omega) hj
 have R2:Dr P c r sz (jD i l).toArray S2 v2 (fun i=>bq i Wl) (cU (bJ (jD i l) [])):=PY h2 fun j hj=>by
  rw[n2]at hj
  by_cases eD:j<i
  ·exact zym (fun k hk=>by rw[List.getElem?_toArray,List.getElem?_toArray,g1 k (by omega),g2 k (by omega)]) (Fh j eD) (fun k hk=>b1 k (by omega)) (b2 j eD) (fun e=>X.ord j eD (by simpa using e) |> fun q=>by simpa using q) (p4 j (by omega) eD)
  ·exact b4 j (by omega) hj
 have eC:S1 0=(tm,h,nx):=by rw[a1 0 (by omega),p1 0 (ae _)]
 have kh:S2 0=(tm,h,nx):=by rw[b1 0 (by omega),p1 0 (ae _)]
 have dJ:wQ l.toArray (bJ l []):=DK l [] (fun j m hj=>by simp at hj) fun j=>by simp
 have fF:(bJ l []).length=l.length:=by
  have key:∀(l:List Oper) (acc:List Nat),(bJ l acc).length=acc.length+l.length:=by
   intro l
   induction l with
   |nil=>intro acc;rfl
   |cons o l ih=>
    intro acc;show (bJ l (acc++[uw acc o.after.toList])).length=_;rw[ih];simp;omega
  simpa using key l []
 refine wpIn_region_any hm ?_;have iQ:=Post.drawn ok (w.drawn+1);generalize hQ:AQ c.G σ h nx w sz Q=QQ;have bI:l.toArray.size=l.length:=by simp
 have bA:∀j,l.toArray[j]?=l[j]?:=fun j=>List.getElem?_toArray;have dA:∀n i,(Array.replicate n false).getD i false=false:=by
  intro n i;simp only[Array.getD_eq_getD_getElem?,Array.getElem?_replicate];split <;> rfl
 have kH:∀k,k<l.toArray.size→∀x,fS l.toArray x k=true→x<k:=by
  intro k hk x hd;obtain⟨o,ho,e,he,hb,hx⟩:=yz.1 hd;rw[← hx];exact X.back k o ho e he hb
 let I:Array Bool→Act→World→Prop:=fun L a' w'=>py l.toArray L∧(∀k,L.getD k false=true→k<l.length)∧
  (DInv c sz (gL i l).toArray S1 v1 (fun i=>bq i Wl) σ w a.defers L a' w'∨(L.getD (i+1) false=true∧DInv c sz (jD i l).toArray S2 v2 (fun i=>bq i Wl) σ w a.defers (xh i L) a' w'))
 refine KJ I ?step ?done l.toArray.size _ a _ (by simp) ?count ?init
 case count=>simp
 case init=>
  refine⟨(fun j hj=>by rw[dA]at hj;cases hj),(fun k hk=>by rw[dA]at hk;cases hk),.inl ⟨(fun j hj=>by rw[dA]at hj;cases hj),(fun k hk=>by rw[dA]at hk;cases hk),⟨0,σ,by omega,.inl rfl,(fun j hj hw=>⟨(fun e=>by rw[dA]at e;cases e),(fun e=>by omega)⟩),?_,?_⟩,st.size,rfl⟩⟩
  ·rw[eC];exact iQ
  ·intro t u e;have:(TL (gL i l).toArray v1 (S1 0).1 (lf (Array.replicate l.toArray.size false)) (gL i l).toArray.size).get t=(S1 0).1.get t:=by
    have:=yv (tm:=(S1 0).1) (ops:=(gL i l).toArray) (v:=v1) (l:=lf (Array.replicate l.toArray.size false)) (t:=t) 0 (gL i l).toArray.size fun j _ _ _=>dA _ j;rw[Nat.zero_add]at this;exact this
   rw[this,eC]at e;exact st.tm t u e
 case done=>
  intro L a' w' hs hI hr;have aR:=Lj kH hr hs;rw[bI]at aR hs;obtain⟨_,_,hI⟩:=hI;have fin:∀{ops:List Oper} {S:Nat→Tr AV×Tr ABlk×Nat} {v:Nat→AV} {bef:Nat→Nat→Bool} {M:Array Bool},ops.length=l.length→Dr P c r sz ops.toArray S v (fun i=>bq i Wl) bef→S 0=(tm,h,nx)→Q .norm (.mk (S l.length).1 (S l.length).2.1 (S l.length).2.2 ds)→(∀k,k<l.length→M.getD k false=true)→DInv c sz ops.toArray S v (fun i=>bq i Wl) σ w a.defers M a' w'→QQ .normal a' w':=by
   intro ops S v bef M hn R hS hq hM D;have qq:ops.toArray.size=l.length:=by simp[hn]
   obtain⟨p,τ,hp,um,cD,bw,qP⟩:=D.pos;rw[qq]at hp cD qP;have oh:∀j,p≤j→j<p+(l.length-p)→bq j Wl=false:=by
    intro j h1 h2;cases hw:bq j Wl with
    |false=>rfl
    |true=>
     have:=(cD j (by omega) hw).1 (hM j (by omega));omega
   have cF:=R.same p (l.length-p) (by rw[qq];omega) oh;rw[Nat.add_sub_cancel' hp]at cF;rw[← hQ];refine⟨.norm,_,_,_,ds,τ,rfl,?_,⟨?_,D.size,?_⟩,hq⟩
   ·rw[cF,hS]at bw;exact bw
   ·intro t u e;refine qP t u ?_;rw[R.text l.length (by rw[qq];exact ae _) t]at e;rw[← e];exact yV l.length fun j hj _=>hM j hj
   ·rw[D.defers];exact st.defers.mono bw.le
  rcases hI with D |⟨_,D⟩
  ·exact fin n1 R1 eC a3 aR D
  ·refine fin n2 R2 kh b3 (fun k hk=>?_) D;rw[A5 (by omega)];exact aR _ (P6 hle hk)
 case step=>
  intro L a' w' k hs hI hk;obtain⟨cB,sG,bd⟩:=Bg.1 hk;rw[bI]at cB hs;have Uh:k<L.size:=by omega
  have cI:L.getD k false=false:=by simpa[Array.getD,Uh]using sG
  obtain⟨aX,og,hI⟩:=hI;have bW:∀j,(L.setIfInBounds k true).getD j false=if j=k then true else L.getD j false:=fun j=>yH Uh
  have EV:py l.toArray (L.setIfInBounds k true):=by
   intro j hj q hq;rw[bW]at hj ⊢
   by_cases Uw:q=k
   ·rw[if_pos Uw]
   ·rw[if_neg Uw]
    by_cases zP:j=k
    ·subst zP;exact bd q hq
    ·rw[if_neg zP]at hj;exact aX j hj q hq
  have xU:∀j,(L.setIfInBounds k true).getD j false=true→j<l.length:=by
   intro j hj;rw[bW]at hj
   by_cases zP:j=k
   ·omega
   ·rw[if_neg zP]at hj;exact og j hj
  obtain⟨o,ho⟩:∃o,l[k]?=some o:=⟨_,aa cB⟩;have SY:DInv c sz (jD i l).toArray S2 v2 (fun i=>bq i Wl) σ w a.defers (xh i L) a' w'→(k=i+1∨L.getD (i+1) false=true)→wpOpIn (dD r) 0 P l.toArray QQ k (I (L.setIfInBounds k true)) a' w':=by
   intro D dW;obtain⟨o',e9,qq⟩:=zQr X ho;refine X2 (by rw[bA];exact ho) (k':=dX i k) (by rw[List.getElem?_toArray];exact e9) qq (zJ k o ho) (wpOpIn_mono (fun a2 w2 q=>?_) (R2.stepI (QQ:=QQ) (i:=dX i k) (by simp[xh,n2];omega) D (by simp[n2];exact P6 hle cB) (by rw[A5 (by omega),yt];exact cI) fun x hx=>?_))
   ·refine⟨EV,xU,.inr ⟨?_,q.congr fun j=>?_⟩⟩
    ·rw[bW]
     rcases dW with e |e
     ·rw[if_pos e.symm]
     ·by_cases e2:i+1=k
      ·rw[if_pos e2]
      ·rw[if_neg e2];exact e
    rw[yH (by simp[xh];have:=P6 hle cB;omega),A5 (by omega),A5 (by simp;omega),bW]
    by_cases e:j=dX i k
    ·rw[if_pos e,if_pos (by rw[e,yt])]
    ·rw[if_neg e,if_neg (fun e2=>e (by rw[← e2,yt]))]
   ·rw[A5 (by omega)]
    rcases XM X hx with hd |⟨e1,e2⟩
    ·rw[yt]at hd;exact bd _ hd
    ·have pZ:k=i:=by
      have:=congrArg (dX i) e1;rw[yt]at this;rw[this];simp[dX]
     rw[e2];have:dX i i=i+1:=by simp[dX]
     rw[this]
     rcases dW with e |e
     ·omega
     ·exact e
  rcases hI with D |⟨N4,D⟩
  ·by_cases dW:k=i+1∧L.getD i false=false
   ·
    obtain⟨cO,xT⟩:=dW;subst cO;have Fk:∀j,i+2≤j→L.getD j false=false:=by
     intro j hj;cases hl:L.getD j false with
     |false=>rfl
     |true=>
      exfalso;have jK:=og j hl;obtain⟨mm,kN⟩:∃mm,(bJ l [])[j]?=some mm:=⟨_,aa (by omega)⟩;have hb:=(X.bef j hj jK).1;unfold cU at hb;rw[CV]at hb;have e:(bJ l []).getD j 0=mm:=by simp[List.getD,kN]
      rw[e]at hb;have:=dJ j mm kN i hb L aX fun q hq=>aX j hl q hq;rw[xT]at this;cases this
    have sT:∀j,i≤j→L.getD j false=false:=by
     intro j hj
     by_cases e1:j=i
     ·rw[e1];exact xT
     ·by_cases e2:j=i+1
      ·rw[e2];exact cI
      ·exact Fk j (by omega)
    have oY:∀j,(xh i L).getD j false=L.getD j false:=by
     intro j;rw[A5 (by omega)]
     by_cases hj:j<i
     ·rw[Hj hj]
     ·rw[sT j (by omega),sT];unfold dX
      (repeat' split) <;> omega
    refine SY ?_ (.inl rfl);obtain⟨i1,i2,⟨p,τ,q1,q2,q3,q4,q5⟩,i4,i5⟩:=D;have Aq:(gL i l).toArray.size=l.length:=by simp[n1]
    have l8:(jD i l).toArray.size=l.length:=by simp[n2]
    rw[Aq]at q1 q3 q5;have sJ:p≤i:=by
     rcases Nat.lt_or_ge i p with h3 |h3
     ·have:=(q3 i (by omega) X.w1).2 h3;rw[xT]at this;cases this
     ·exact h3
    refine⟨fun j hj q hq=>?_,fun j hj=>?_,⟨p,τ,by rw[l8];exact q1,q2,fun j hj hw=>?_,?_,?_⟩,i4,i5⟩
    ·rw[oY]at hj;have eD:j<i:=by
      rcases Nat.lt_or_ge j i with h3 |h3
      ·exact h3
      ·rw[sT j h3]at hj;cases hj
     rcases XM X hq with hd |⟨e1,_⟩
     ·rw[A5 (by omega)];rw[Hj eD]at hd;exact aX j hj _ hd
     ·omega
    ·rw[oY]at hj;rw[l8];exact og j hj
    ·rw[l8]at hj;rw[oY];exact q3 j hj hw
    ·rw[b1 p sJ,b1 0 (by omega)];rw[a1 p sJ,a1 0 (by omega)]at q4;exact q4
    ·intro t u e;refine q5 t u ?_;rw[← e,l8];have I5:=yv (tm:=(S1 0).1) (ops:=(gL i l).toArray) (v:=v1) (l:=lf L) (t:=t) i (l.length-i) fun j lG _ _=>sT j lG;have uy:=yv (tm:=(S2 0).1) (ops:=(jD i l).toArray) (v:=v2) (l:=lf (xh i L)) (t:=t) i (l.length-i) fun j lG _ _=>by
      show (xh i L).getD j false=false;rw[oY];exact sT j lG
     rw[Nat.add_sub_cancel' (by omega)]at I5 uy;rw[I5,uy,eC,kh]
     congr 1
     exact(zyz i fun q hq=>⟨by rw[List.getElem?_toArray,List.getElem?_toArray,g1 q hq,g2 q hq],by rw[a2 q hq,b2 q hq],(oY q).symm⟩)
   ·obtain⟨o',e9,qq⟩:=zPj X ho;refine X2 (by rw[bA];exact ho) (k':=k) (by rw[List.getElem?_toArray];exact e9) qq (zJ k o ho) (wpOpIn_mono (fun a2 w2 q=>⟨EV,xU,.inl q⟩) (R1.stepI (QQ:=QQ) (i:=k) (by simp[n1];omega) D (by simp[n1];exact cB) cI fun x hx=>?_))
    rcases zTc X hx with hd |⟨e1,e2⟩
    ·exact bd x hd
    ·rw[e2];cases hl:L.getD i false with
     |true=>rfl
     |false=>exact absurd ⟨e1,hl⟩ dW
  ·exact SY D (.inr N4)
end
end Go.Ev
namespace Go.Ev
noncomputable section
variable {P : Program} {c c' : Cx} {σ τ υ : Sg} {h g f : Tr ABlk} {nx ny nz sz : Nat} {ds : List DE} {w x y : World} {tm : Tr AV} {a : Act} {G : Gl}
mutual
def jy:AV→Bool
 |.bool _=>true
 |.int _ _=>true
 |.str _ _=>true
 |.bs _=>true
 |.ptr0=>true
 |.sl0=>true
 |.map0=>true
 |.nilFunc=>true
 |.nilIface=>true
 |.agg l=>kT l
 |.tup l=>kT l
 |.iface _ v=>jy v
 |.func _ l m=>match kT l with
  |true=>kT m
  |false=>false
 |.ip l=>kT l
 |.fz _ _ l=>kT l
 |.ptr _ _=>false
 |.sl _ _ _ _ _=>false
 |.map _=>false
 |.yld _=>false
 |.opq _=>false
def kT:List AV→Bool
 |[]=>true
 |v::l=>match jy v with
  |true=>kT l
  |false=>false
end
theorem zO2 {v:AV}{l:List AV}(h:kT (v::l)=true):jy v=true∧kT l=true:=by
 simp only[kT]at h;cases hv:jy v with
 |true=>rw[hv]at h;exact⟨rfl,h⟩
 |false=>rw[hv]at h;cases h
mutual
theorem av.nf (hi:∀b C,σ.imm b=some C→τ.imm b=some C):∀(v:AV)(V:Value),jy v=true→av σ v V→av τ v V
 |.bool b,V,_,h=>by simpa only[av]using h
 |.int k n,V,_,h=>by simpa only[av]using h
 |.str l n,V,_,h=>by simpa only[av]using h
 |.bs b,V,_,h=>by simpa only[av]using h
 |.ptr0,V,_,h=>by simpa only[av]using h
 |.sl0,V,_,h=>by simpa only[av]using h
 |.map0,V,_,h=>by simpa only[av]using h
 |.nilFunc,V,_,h=>by simpa only[av]using h
 |.nilIface,V,_,h=>by simpa only[av]using h
 |.ptr _ _,V,n,_=>by simp[jy]at n
 |.sl _ _ _ _ _,V,n,_=>by simp[jy]at n
 |.map _,V,n,_=>by simp[jy]at n
 |.yld _,V,n,_=>by simp[jy]at n
 |.opq _,V,n,_=>by simp[jy]at n
 |.agg l,V,n,h=>by
  simp only[jy]at n;simp only[av]at h ⊢;obtain⟨L,e,q⟩:=h;exact⟨L,e,aC.nf hi l L n q⟩
 |.tup l,V,n,h=>by
  simp only[jy]at n;simp only[av]at h ⊢;obtain⟨L,e,q⟩:=h;exact⟨L,e,aC.nf hi l L n q⟩
 |.iface t v,V,n,h=>by
  simp only[jy]at n;simp only[av]at h ⊢;obtain⟨U,e,q⟩:=h;exact⟨U,e,av.nf hi v U n q⟩
 |.func fn l m,V,n,h=>by
  simp only[jy]at n;simp only[av]at h ⊢;obtain⟨A,C,e,q1,q2⟩:=h;cases hl:kT l with
  |false=>rw[hl]at n;cases n
  |true=>
   rw[hl]at n;exact⟨A,C,e,aC.nf hi l A hl q1,aC.nf hi m C n q2⟩
 |.ip l,V,n,h=>by
  simp only[jy]at n;simp only[av]at h ⊢;obtain⟨b,o,C,L,e,h1,h2,h3⟩:=h;exact⟨b,o,C,L,e,hi b C h1,aC.nf hi l L n h2,h3⟩
 |.fz es full l,V,n,h=>by
  simp only[jy]at n;simp only[av]at h ⊢;obtain⟨a,cap,e,g1,g2,g4,g3⟩:=h;refine⟨a,cap,e,g1,g2,g4,fun hx=>?_⟩;obtain⟨b,o,C,L,e1,h1,h2,h3⟩:=g3 hx;exact⟨b,o,C,L,e1,hi b C h1,aC.nf hi l L n h2,h3⟩
theorem aC.nf (hi:∀b C,σ.imm b=some C→τ.imm b=some C):∀(l:List AV)(L:List Value),kT l=true→aC σ l L→aC τ l L
 |[],L,_,h=>by simpa only[aC]using h
 |v::l,L,n,h=>by
  obtain⟨n1,n2⟩:=zO2 n;simp only[aC]at h ⊢;obtain⟨V,L',e,q1,q2⟩:=h;exact⟨V,L',e,av.nf hi v V n1 q1,aC.nf hi l L' n2 q2⟩
end
theorem ay.of_nil (hG:∀g cs,c.G.tab g=some cs→kT cs=true){fid:FuncId}{args:List AV}{u:AV}(ha:kT args=true)(hu:jy u=true)
  (hc:aN P c fid args .nil c.G.n fun v g _=>aA c.G.n .nil g∧Fz g c.G.n v u):ay P c fid args u:=by
 intro h nx σ w A hk hA
 let σ0:Sg:={ blk:=fun i=>if i<c.G.n then some i else none,cap:=σ.cap,opq:=σ.opq,imm:=σ.imm }
 have fV:Ok c.G σ0 .nil c.G.n w:=by
  refine⟨fun g hg=>if_pos hg,ae _,fun i hi=>if_neg (by omega),(fun i j b B B' h1=>by cases h1),(fun i B h1=>by cases h1),(fun b C hb=>⟨(hk.imm b C hb).1,(fun i B h1=>by cases h1)⟩),fun g cs hg=>?_⟩;exact av.nf (σ:=σ) (τ:=σ0) (fun _ _ e=>e) (.ip cs) _ (by simpa only[jy]using hG g cs hg) (hk.gl g cs hg)
 refine(hc σ0 w A fV (aC.nf (σ:=σ) (τ:=σ0) (fun _ _ e=>e) args A ha hA)).mono fun V x q=>?_;obtain⟨τ,v,g,ny,q1,q2,q3,q4⟩:=q;have p:=Post.frz fV q2 q3;have hV:=q4.rel q2.ok V q1
 let τ':Sg:={ blk:=σ.blk,cap:=σ.cap,opq:=σ.opq,imm:=(τ.frz x g c.G.n).imm }
 have hle:σ.Le τ':=⟨fun _ _ e=>⟨e,rfl⟩,rfl,fun b C hb=>p.le.imm b C hb⟩;have mH:∀b,b<w.heap.size→x.heap[b]?=w.heap[b]?:=fun b hb=>p.fr.keep b hb fun i B hi=>by cases hi
 refine⟨τ',u,h,nx,av.nf (σ:=τ.frz x g c.G.n) (τ:=τ') (fun _ _ e=>e) u V hu hV,⟨⟨hk.glob,hk.le,hk.fresh,hk.inj,fun i B h1=>?_,fun b C hb=>⟨(p.ok.imm b C hb).1,fun i B h1 e=>?_⟩,fun i cs hi=>(hk.gl i cs hi).mono hle⟩,hle,⟨p.fr.os,p.fr.tape,p.fr.output,p.fr.size,fun b hb _=>mH b hb,fun i B b h1 h2=>.inr ⟨i,B,h1,h2⟩,fun b C hb=>?_⟩,ae _⟩,rfl,rfl,rfl⟩
 ·obtain⟨b,o,r1,r2,r3⟩:=hk.blk i B h1;exact⟨b,o,r1,by rw[mH b (Bq r2)];exact r2,r3.mono hle r1⟩
 ·rcases p.fr.imm b C hb with h2 |h2 |⟨j,B',hj,_⟩
  ·exact(hk.imm b C h2).2 i B h1 e
  ·have:=hk.blt h1 e;omega
  ·cases hj
 ·rcases p.fr.imm b C hb with h2 |h2 |⟨j,B',hj,_⟩
  ·exact .inl h2
  ·exact .inr (.inl h2)
  ·cases hj
mutual
inductive Wk:AV→AV→Prop
 |same (v:AV):Wk v v
 |sl0 (es:Nat) (full:Bool):Wk .sl0 (.fz es full [])
 |full (es:Nat) (l m:List AV) (full:Bool):fp l m→Wk (.fz es full l) (.fz es false m)
 |fz (es:Nat) (l m:List AV) (full:Bool):fp l m→Wk (.fz es full l) (.fz es full m)
 |agg (l m:List AV):fp l m→Wk (.agg l) (.agg m)
 |tup (l m:List AV):fp l m→Wk (.tup l) (.tup m)
 |ip (l m:List AV):fp l m→Wk (.ip l) (.ip m)
 |str (l n:Nat):Wk (.str l n) (.bs (bE l n))
inductive fp:List AV→List AV→Prop
 |nil:fp [] []
 |cons (v u:AV) (l m:List AV):Wk v u→fp l m→fp (v::l) (u::m)
end
theorem fp.len:∀{l m:List AV},fp l m→m.length=l.length
 |_,_,.nil=>rfl
 |_,_,.cons _ _ _ _ _ h=>by simp[h.len]
theorem fp.refl:∀l:List AV,fp l l
 |[]=>.nil
 |v::l=>.cons _ _ _ _ (.same v) (fp.refl l)
mutual
theorem Wk.rel:∀{v u:AV},Wk v u→∀V,av σ v V→av σ u V
 |_,_,.same v,V,h=>h
 |_,_,.sl0 es full,V,h=>by
  simp only[av]at h ⊢;exact⟨none,0,h,by simp,by simp,by simp,by simp⟩
 |_,_,.full es l m full hl,V,h=>by
  have e:=hl.len;simp only[av]at h ⊢;rw[e];obtain⟨a,cap,e,g1,g2,g4,g3⟩:=h;refine⟨a,cap,e,g1,(fun e=>by cases e),g4,fun hx=>?_⟩;obtain⟨b,o,C,L,e1,h1,h2,h3⟩:=g3 hx;exact⟨b,o,C,L,e1,h1,fp.rel hl L h2,h3⟩
 |_,_,.fz es l m full hl,V,h=>by
  have e:=hl.len;simp only[av]at h ⊢;rw[e];obtain⟨a,cap,e,g1,g2,g4,g3⟩:=h;refine⟨a,cap,e,g1,g2,g4,fun hx=>?_⟩;obtain⟨b,o,C,L,e1,h1,h2,h3⟩:=g3 hx;exact⟨b,o,C,L,e1,h1,fp.rel hl L h2,h3⟩
 |_,_,.agg l m hl,V,h=>by
  simp only[av]at h ⊢;obtain⟨L,e,q⟩:=h;exact⟨L,e,fp.rel hl L q⟩
 |_,_,.tup l m hl,V,h=>by
  simp only[av]at h ⊢;obtain⟨L,e,q⟩:=h;exact⟨L,e,fp.rel hl L q⟩
 |_,_,.ip l m hl,V,h=>by
  simp only[av]at h ⊢;obtain⟨b,o,C,L,e,h1,h2,h3⟩:=h;exact⟨b,o,C,L,e,h1,fp.rel hl L h2,h3⟩
 |_,_,.str l n,V,h=>by
  simp only[av]at h ⊢;exact h.2
theorem fp.rel:∀{l m:List AV},fp l m→∀L,aC σ l L→aC σ m L
 |_,_,.nil,L,h=>h
 |_,_,.cons v u l m h1 h2,L,h=>by
  simp only[aC]at h ⊢;obtain⟨V,L',e,q1,q2⟩:=h;exact⟨V,L',e,Wk.rel h1 V q1,fp.rel h2 L' q2⟩
end
theorem aN.wk {fid:FuncId}{args args':List AV}{R:AV→Tr ABlk→Nat→Prop}(ha:fp args args')(hc:aN P c fid args' h nx R):aN P c fid args h nx R:=
 fun σ w A ok hA=>hc σ w A ok (ha.rel A hA)
theorem aN.wkR {fid:FuncId}{args:List AV}{R S:AV→Tr ABlk→Nat→Prop}(hc:aN P c fid args h nx R)(hr:∀v g ny,R v g ny→∃u,Wk v u∧S u g ny):aN P c fid args h nx S:=
 fun σ w A ok hA=>(hc σ w A ok hA).mono fun V x ⟨τ,v,g,ny,h1,h2,h3⟩=>by
  obtain⟨u,e1,e2⟩:=hr v g ny h3;exact⟨τ,u,g,ny,e1.rel V h1,h2,e2⟩
theorem ay.wk {fid:FuncId}{args args':List AV}{u u':AV}(hc:ay P c fid args' u)(ha:fp args args')(hu:Wk u u'):ay P c fid args u':=
 fun h nx=>aN.wk ha ((hc h nx).wkR fun v g ny ⟨e1,e2,e3⟩=>⟨u',by rw[e1];exact hu,rfl,e2,e3⟩)
theorem aN.tab (hn:c'.G.n=c.G.n)(ht:∀g cs,c.G.tab g=some cs→c'.G.tab g=some cs){fid:FuncId}{args:List AV}{R:AV→Tr ABlk→Nat→Prop}(hc:aN P c fid args h nx R):aN P c' fid args h nx R:=by
 intro σ w A ok hA;have ok0:Ok c.G σ h nx w:=⟨fun g hg=>ok.glob g (by rw[hn];exact hg),by rw[← hn];exact ok.le,ok.fresh,ok.inj,ok.blk,ok.imm,fun g cs hg=>ok.gl g cs (ht g cs hg)⟩;refine(hc σ w A ok0 hA).mono fun V x ⟨τ,v,g,ny,h1,h2,h3⟩=>⟨τ,v,g,ny,h1,⟨?_,h2.le,h2.fr,h2.nx⟩,h3⟩;exact⟨fun g hg=>h2.ok.glob g (by rw[← hn];exact hg),by rw[hn];exact h2.ok.le,h2.ok.fresh,h2.ok.inj,h2.ok.blk,h2.ok.imm,fun g cs hg=>(ok.gl g cs hg).mono h2.le⟩
theorem ay.tab (hn:c'.G.n=c.G.n)(ht:∀g cs,c.G.tab g=some cs→c'.G.tab g=some cs){fid:FuncId}{args:List AV}{u:AV}(hc:ay P c fid args u):ay P c' fid args u:=
 fun h nx=>(hc h nx).tab hn ht
end
end Go.Ev
namespace Go.Ev
open Go.Sort
noncomputable section
variable {P : Program} {c : Cx} {σ τ υ : Sg} {h g f : Tr ABlk} {nx ny nz sz : Nat} {w x y : World}
theorem GJ (hc:CxOk P c){fid:FuncId}{fn:Func}(cA:c.ft.get fid=some fn){A:Array Value}{Q:Value→World→Prop}(hC:Calls P fid A w fun e x=>match e with |.returned v=>Q v x |_=>False):CR P fid A w Q:=by
 obtain⟨hf,bg⟩:=hc.ft fid fn cA;unfold CR;rw[bg];exact hC
theorem Z9 (hc:CxOk P c){fid:FuncId}{fn:Func}(cA:c.ft.get fid=some fn){args:List AV}{R:AV→Tr ABlk→Nat→Prop}
  (hC:∀(σ:Sg) (w:World) (A:List Value),Ok c.G σ h nx w→aC σ args A→Calls P fid A.toArray w fun e x=>∃V u k os,e=.returned V∧av σ u V∧R u h nx∧x=grow (Go.Sort.ahead w k) os):aN P c fid args h nx R:=by
 intro σ w A hk hA;refine GJ hc cA ((hC σ w A hk hA).mono fun e x q=>?_);obtain⟨V,u,k,os,rfl,h1,h2,rfl⟩:=q;refine⟨σ,u,h,nx,h1,?_,h2⟩;refine Post.same hk rfl rfl rfl ?_ fun b hb=>?_
 ·simp[grow,Go.Sort.ahead]
 ·rw[heap_grow_old _ _ (by simpa[Go.Sort.ahead]using hb)];rfl
theorem QW (hc:CxOk P c){fid:FuncId}{fn:Func}(cA:c.ft.get fid=some fn){α:Type} [Inhabited α] (enc:α→AV)(gB:α→Value)(hE:∀σ x V,av σ (enc x) V↔V=gB x)
  {i o n cp esz:Nat} {t:TypeId} {opn bu:Bool} {rest:List AV} {l:List α} {R:AV→Tr ABlk→Nat→Prop} (hg:h.get i=some (bx t (l.map enc) bu esz)) (hl:o+n≤l.length)
  (RR:List α→AV→Prop)
  (hC:∀(σ:Sg) (w:World) (RA:List Value) (b cap:Nat),Ok c.G σ h nx w→aC σ rest RA→Holds gB w b o ((l.drop o).take n).toArray→b<w.heap.size→σ.blk i=some b→cap=(if opn then σ.cap i-cp else cp)→n≤cap→Calls P fid (.slice (some ⟨b,o,none⟩) n cap::RA).toArray w fun e x=>∃V u k os d,e=.returned V∧av σ u V∧d.length=n∧RR d u∧x=grow (putRow gB (Go.Sort.ahead w k) b o d.toArray) os)
  (hR:∀d u,d.length=n→RR d u→R u (h.put i (some (bx t ((l.take o++(d++l.drop (o+n))).map enc) bu esz))) nx):aN P c fid (.sl i o n cp opn::rest) h nx R:=by
 intro σ w A hk hA;simp only[aC,av]at hA;obtain⟨V0,RA,rfl,⟨b,hb,rfl,eJ⟩,pR⟩:=hA;obtain⟨b',o',aS,ho,hr⟩:=hk.blk i _ hg;rw[hb]at aS;cases aS;simp only[bx,bX]at hr;obtain⟨C,fr,rfl,h1,h2,h3⟩:=hr;have aK:∀(k:Nat) (x:α),l[k]?=some x→C[k]?=some (gB x):=by
  intro k x hx;have ei:k<l.length:=by
   rcases Nat.lt_or_ge k l.length with q |q
   ·exact q
   ·rw[List.getElem?_eq_none q]at hx;cases hx
  obtain⟨v,V,e1,e2,e3⟩:=h1 k (by simpa using ei);rw[fx,List.getElem?_map,hx]at e1;cases e1;rw[e2,(hE σ x V).1 e3]
 have hCs:l.length≤C.size:=by
  rcases Nat.eq_zero_or_pos l.length with q |q
  ·omega
  ·have hx:l[l.length-1]?=some l[l.length-1]:=aa (by omega);have:=aK _ _ hx;have:l.length-1<C.size:=by
    rcases Nat.lt_or_ge (l.length-1) C.size with q2 |q2
    ·exact q2
    ·rw[Array.getElem?_eq_none q2]at this;cases this
   omega
 have hH:Holds gB w b o ((l.drop o).take n).toArray:=by
  intro j hj;have xV:j<n:=by simp at hj;omega
  have az:o+j<l.length:=by omega
  have oR:=h2 (o+j) (by omega);have e0:((l.drop o).take n).toArray[j]! = l[o+j]:=by
   rw[getElem!_pos _ j hj];simp
  refine⟨?_,?_⟩
  ·rw[e0];simp only[World.cell?,ho];have:=aK (o+j) _ (aa az);simpa using this
  ·simp only[World.frozen?,ho];simp;omega
 refine GJ hc cA ((hC σ w RA b _ hk pR hH (hk.blt hg hb) hb rfl eJ).mono fun e x q=>?_);obtain⟨V,u,k,os,d,rfl,q1,q2,q3,rfl⟩:=q;refine⟨σ,u,_,nx,q1,?_,hR d u q2 q3⟩;have oW:(putCells gB o d.toArray C).size=C.size:=by simp[putCells]
 have hpc:∀k,(putCells gB o d.toArray C)[k]?=if o≤k∧k<o+n∧k<C.size then some (gB (d.toArray[k-o]!)) else C[k]?:=by
  intro k;simp only[putCells];rw[Array.getElem?_mapIdx]
  by_cases lH:k<C.size
  ·rw[Array.getElem?_eq_getElem lH]
   by_cases kI:o≤k∧k<o+n
   ·rw[if_pos ⟨kI.1,kI.2,lH⟩];simp[q2,kI]
   ·rw[if_neg (by omega)];simp only[Option.map_some,List.size_toArray,q2];rw[if_neg kI]
  ·rw[Array.getElem?_eq_none (by omega),if_neg (by omega)];rfl
 have pd:=Post.drawn hk (w.drawn+k);have ps:=Post.set pd.ok hg hb (bx t ((l.take o++(d++l.drop (o+n))).map enc) bu esz) (.cells (putCells gB o d.toArray C) t fr) (by
  simp only[bx,bX];have hlen:((l.take o++(d++l.drop (o+n))).map enc).length=l.length:=by
   simp[q2];omega
  refine⟨_,fr,rfl,fun j hj=>?_,fun j hj=>h2 j (by rw[oW]at hj;exact hj),?_⟩
  ·rw[hlen]at hj;rw[fx,List.getElem?_map,hpc j]
   by_cases lG:j<o
   ·rw[if_neg (by omega),List.getElem?_append_left (by simp;omega),List.getElem?_take_of_lt lG,aa hj];exact⟨_,_,rfl,aK j _ (aa hj),(hE σ _ _).2 rfl⟩
   ·rw[List.getElem?_append_right (by simp;omega),show (l.take o).length=o by simp;omega]
    by_cases eK:j<o+n
    ·have hd:j-o<d.length:=by omega
     rw[if_pos (by omega),List.getElem?_append_left hd,aa hd];refine⟨_,_,rfl,rfl,(hE σ _ _).2 ?_⟩;rw[getElem!_pos _ _ (by simpa using hd)];simp
    ·rw[if_neg (by omega),List.getElem?_append_right (by omega),List.getElem?_drop,q2,show o+n+(j-o-n)=j by omega,aa hj];exact⟨_,_,rfl,aK j _ (aa hj),(hE σ _ _).2 rfl⟩
  ·rw[hlen,oW];simpa using h3)
 have pp:=pd.trans ps;refine pp.trans (Post.same pp.ok ?_ ?_ ?_ ?_ ?_)
 ·rfl
 ·rfl
 ·rfl
 ·simp[grow,putRow,mapBlock,Go.Sort.ahead]
 ·intro k' aU;rw[heap_grow_old _ _ (by simpa[putRow,mapBlock,Go.Sort.ahead]using aU)];simp only[putRow,mapBlock,Go.Sort.ahead,Array.getElem?_modify];simp only[Array.getElem?_setIfInBounds]
  by_cases e:b=k'
  ·subst e;rw[if_pos rfl,if_pos rfl,ho];have:=hk.blt hg hb;simp[onCells,this]
  ·rw[if_neg e,if_neg e]
theorem zyj (hc:CxOk P c){fid:FuncId}{fn:Func}(cA:c.ft.get fid=some fn){α:Type} [Inhabited α] (enc:α→AV)(gB:α→Value)(hE:∀σ x V,av σ (enc x) V↔V=gB x)
  {i o n cp esz:Nat} {t:TypeId} {opn bu:Bool} {rest:List AV} {l:List α} {R:AV→Tr ABlk→Nat→Prop} (hg:h.get i=some (bx t (l.map enc) bu esz)) (hl:o+n≤l.length)
  (RR:List α→AV→Prop)
  (hC:∀(σ:Sg) (w:World) (RA:List Value) (b cap:Nat),Ok c.G σ h nx w→aC σ rest RA→Holds gB w b o ((l.drop o).take n).toArray→b<w.heap.size→Calls P fid (.slice (some ⟨b,o,none⟩) n cap::RA).toArray w fun e x=>∃V u k os d,e=.returned V∧av σ u V∧d.length=n∧RR d u∧x=grow (putRow gB (Go.Sort.ahead w k) b o d.toArray) os)
  (hR:∀d u,d.length=n→RR d u→R u (h.put i (some (bx t ((l.take o++(d++l.drop (o+n))).map enc) bu esz))) nx):aN P c fid (.sl i o n cp opn::rest) h nx R:=
 QW hc cA enc gB hE hg hl RR (fun σ w RA b cap a1 a2 a3 a4 _ _ _=>hC σ w RA b cap a1 a2 a3 a4) hR
end
end Go.Ev
