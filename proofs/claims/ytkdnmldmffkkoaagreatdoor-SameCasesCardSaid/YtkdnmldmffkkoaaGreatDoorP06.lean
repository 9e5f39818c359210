/- Texts. -/
import Derived.Sort.Grow
import Derived.Test.YtkdnmldmffkkoaaGreatDoorLays
import Derived.Test.YtkdnmldmffkkoaaGreatDoorP05
set_option linter.all false
set_option maxRecDepth 100000
set_option maxHeartbeats 8000000
namespace Go.Ev
noncomputable section
section
variable {P : Program} {c : Cx} {σ τ υ : Sg} {h h' g f : Tr ABlk} {nx ax ny nz sz : Nat} {ds : List DE} {w x y : World} {tm tm' : Tr AV} {a : Act} {G : Gl} {r : Option Nat}
def eG (i k:Nat):Nat:=if k=i then i+1 else if k=i+1 then i else k
def za (i k:Nat):eG i (eG i k)=k:=by unfold eG;(repeat' split) <;> omega
def Q5 {i k n:Nat}(hi:i+2≤n)(hk:k<n):eG i k<n:=by unfold eG;(repeat' split) <;> omega
def Ic {i k:Nat}(h:k<i):eG i k=k:=by unfold eG;(repeat' split) <;> omega
def zU1 {i k:Nat}(h:i+2≤k):eG i k=k:=by unfold eG;(repeat' split) <;> omega
def VO (i:Nat)(e:Edge):Edge:={ e with on:=eG i e.on }
def tX (i:Nat)(o:Oper):Oper:={ o with after:=o.after.map (VO i) }
def xA (i:Nat)(o:Oper):Oper:={ o with after:=o.after.push { on:=i,ground:=.data } }
def vI (i:Nat):List Oper→List Oper
 |o1::o2::t=>o1::xA i o2::t
 |l=>l
def vK (i:Nat):List Oper→List Oper
 |o1::o2::t=>tX i o2::xA i (tX i o1)::t.map (tX i)
 |l=>l
def iw (i:Nat)(l:List Oper):List Oper:=l.take i++vI i (l.drop i)
def kg (i:Nat)(l:List Oper):List Oper:=l.take i++vK i (l.drop i)
def Rg (i:Nat)(l:List Oper)(Wl:List Nat):Bool:=
 eJ l (fun o=>o.guard.isNone) && Nat.ble (i+2) l.length && bA i Wl && bA (i+1) Wl &&
 eJ (jM l.length) (fun j=>(match l[j]? with
  |none=>true
  |some o=>eJ o.after.toList (fun e=>match Region.binds .any e with |true=>Nat.ble (Nat.succ e.on) j |false=>true)) &&
  (match Nat.ble (i+2) j with |false=>true |true=>dn (bP l []) i j && dn (bP l []) (i+1) j)) &&
 eJ (jM i) (fun j=>!(uh (iw i l) Wl j) || uh (kg i l) Wl j)
structure SwapOk (i:Nat)(l:List Oper)(Wl:List Nat):Prop where
 guard:∀o∈l,o.guard=none
 le:i+2≤l.length
 w1:bA i Wl=true
 w2:bA (i+1) Wl=true
 back:∀j o,l[j]?=some o→∀e∈o.after.toList,Region.binds .any e=true→e.on<j
 bef:∀j,i+2≤j→j<l.length→dn (bP l []) i j=true∧dn (bP l []) (i+1) j=true
 ord:∀j,j<i→uh (iw i l) Wl j=true→uh (kg i l) Wl j=true
def zSi {i:Nat}{l:List Oper}{Wl:List Nat}(h:Rg i l Wl=true):SwapOk i l Wl:=by
 unfold Rg at h;simp only[ao]at h;obtain⟨⟨⟨⟨⟨h1,h2⟩,h3⟩,h4⟩,h5⟩,h6⟩:=h;refine⟨fun o ho=>?_,ai h2,h3,h4,fun j o ho e he hb=>?_,fun j hj ay=>?_,fun j hj e=>?_⟩
 ·have:=ep h1 o ho;cases hg:o.guard with
  |none=>rfl
  |some p=>rw[hg]at this;cases this
 ·have ay:j<l.length:=(List.getElem?_eq_some_iff.1 ho).1;have h6:=ep h5 j (List.mem_range.2 ay);simp only[ao]at h6;have h7:=h6.1;rw[ho]at h7;have:=ep h7 e he;rw[hb]at this;exact ai this
 ·have h6:=ep h5 j (List.mem_range.2 ay);simp only[ao]at h6;have h7:=h6.2;rw[Nat.ble_eq_true_of_le hj]at h7;simpa using h7
 ·have:=ep h6 j (List.mem_range.2 hj);rw[e]at this;simpa using this
def L7 (o o':Oper):Prop:=o'={ o with after:=o'.after }
section
variable {i : Nat} {l : List Oper} {Wl : List Nat}
def Kq (X:SwapOk i l Wl):∃o1 o2 t,l.drop i=o1::o2::t∧l[i]?=some o1∧l[i+1]?=some o2∧∀k,t[k]?=l[i+2+k]?:=by
 have hle:=X.le;refine⟨l[i],l[i+1],l.drop (i+2),?_,aa (by omega),aa (by omega),fun k=>by rw[List.getElem?_drop]⟩;rw[aj (by omega),aj (show i+1<l.length by omega)]
def zT3 (X:SwapOk i l Wl):(iw i l).length=l.length:=by
 obtain⟨o1,o2,t,e,_,_,_⟩:=Kq X;have h1:=congrArg List.length e;have hle:=X.le;unfold iw;rw[e];simp only[List.length_drop,List.length_cons]at h1;simp[vI];omega
def zFv (X:SwapOk i l Wl):(kg i l).length=l.length:=by
 obtain⟨o1,o2,t,e,_,_,_⟩:=Kq X;have h1:=congrArg List.length e;have hle:=X.le;unfold kg;rw[e];simp only[List.length_drop,List.length_cons]at h1;simp[vK];omega
def Q9 (X:SwapOk i l Wl) (k:Nat):(iw i l)[k]?=if k=i+1 then (l[i+1]?).map (xA i) else l[k]?:=by
 obtain⟨o1,o2,t,e,g1,g2,g3⟩:=Kq X;have hle:=X.le;unfold iw;rw[e]
 by_cases hk:k<i
 ·rw[List.getElem?_append_left (by simp;omega),if_neg (by omega),List.getElem?_take_of_lt hk]
 ·rw[List.getElem?_append_right (by simp;omega)];have hl:(l.take i).length=i:=by simp;omega
  rw[hl]
  by_cases h1:k=i
  ·subst h1;simp[vI,g1]
  ·by_cases h2:k=i+1
   ·subst h2;simp[vI,g2]
   ·rw[if_neg h2];have h3:=g3 (k-i-2);rw[show i+2+(k-i-2)=k by omega]at h3;rw[← h3,show k-i=(k-i-2)+1+1 by omega];simp[vI]
def Sz (X:SwapOk i l Wl) (k:Nat):(kg i l)[k]?=if k<i then l[k]? else if k=i+1 then (l[i]?).map fun o=>xA i (tX i o) else (l[eG i k]?).map (tX i):=by
 obtain⟨o1,o2,t,e,g1,g2,g3⟩:=Kq X;have hle:=X.le;unfold kg;rw[e]
 by_cases hk:k<i
 ·rw[List.getElem?_append_left (by simp;omega),if_pos hk,List.getElem?_take_of_lt hk]
 ·rw[List.getElem?_append_right (by simp;omega),if_neg hk];have hl:(l.take i).length=i:=by simp;omega
  rw[hl]
  by_cases h1:k=i
  ·subst h1;have:eG k k=k+1:=by simp[eG]
   simp[vK,g2,this]
  ·by_cases h2:k=i+1
   ·subst h2;simp[vK,g1]
   ·rw[if_neg h2,zU1 (by omega)];have h3:=g3 (k-i-2);rw[show i+2+(k-i-2)=k by omega]at h3;rw[← h3,show k-i=(k-i-2)+1+1 by omega];simp[vK]
def zg {ops:List Oper}{x k:Nat}:gO ops.toArray x k=true↔∃o,ops[k]?=some o∧∃e∈o.after.toList,Region.binds .any e=true∧e.on=x:=by
 unfold gO;rw[List.getElem?_toArray];cases ops[k]? with
 |none=>simp
 |some o=>
  simp only[Option.map_some,Option.getD_some,Array.any_eq_true',ao];constructor
  ·rintro⟨e,he,h1,h2⟩
   exact⟨o,rfl,e,by simpa using he,h1,by simpa using h2⟩
  ·rintro⟨o',e',e,he,h1,h2⟩
   cases e';exact⟨e,by simpa using he,h1,by simpa using h2⟩
def zTc (X:SwapOk i l Wl){x k:Nat}(hd:gO (iw i l).toArray x k=true):gO l.toArray x k=true∨(k=i+1∧x=i):=by
 obtain⟨o,ho,e,he,hb,hx⟩:=zg.1 hd;rw[Q9 X]at ho
 by_cases hk:k=i+1
 ·subst hk;rw[if_pos rfl]at ho;cases hl:l[i+1]? with
  |none=>rw[hl]at ho;cases ho
  |some o0=>
   rw[hl]at ho;cases ho;simp only[xA,Array.toList_push,List.mem_append,List.mem_singleton]at he
   rcases he with he |he
   ·exact .inl (zg.2 ⟨o0,hl,e,he,hb,hx⟩)
   ·subst he;exact .inr ⟨rfl,hx.symm⟩
 ·rw[if_neg hk]at ho;exact .inl (zg.2 ⟨o,ho,e,he,hb,hx⟩)
def YP (X:SwapOk i l Wl){x k:Nat}(hd:gO (kg i l).toArray x k=true):gO l.toArray (eG i x) (eG i k)=true∨(k=i+1∧x=i):=by
 obtain⟨o,ho,e,he,hb,hx⟩:=zg.1 hd;rw[Sz X]at ho
 by_cases hk:k<i
 ·rw[if_pos hk]at ho;have:=X.back k o ho e he hb;rw[Ic hk,Ic (by omega)];exact .inl (zg.2 ⟨o,ho,e,he,hb,hx⟩)
 ·rw[if_neg hk]at ho
  by_cases h2:k=i+1
  ·subst h2;rw[if_pos rfl]at ho;cases hl:l[i]? with
   |none=>rw[hl]at ho;cases ho
   |some o0=>
    rw[hl]at ho;cases ho;simp only[xA,tX,Array.toList_push,Array.toList_map,List.mem_append,List.mem_map,List.mem_singleton]at he
    rcases he with⟨e0,NT,ee⟩ |he
    ·subst ee;refine .inl (zg.2 ⟨o0,?_,e0,NT,hb,?_⟩)
     ·have:eG i (i+1)=i:=by simp[eG]
      rw[this];exact hl
     ·rw[← hx];show e0.on=eG i (eG i e0.on);rw[za]
    ·subst he;exact .inr ⟨rfl,hx.symm⟩
  ·rw[if_neg h2]at ho;cases hl:l[eG i k]? with
   |none=>rw[hl]at ho;cases ho
   |some o0=>
    rw[hl]at ho;cases ho;simp only[tX,Array.toList_map,List.mem_map]at he;obtain⟨e0,NT,ee⟩:=he;subst ee;refine .inl (zg.2 ⟨o0,hl,e0,NT,hb,?_⟩);rw[← hx];show e0.on=eG i (eG i e0.on);rw[za]
def zPj (X:SwapOk i l Wl){k:Nat}{o:Oper}(ho:l[k]?=some o):∃o',(iw i l)[k]?=some o'∧L7 o o':=by
 rw[Q9 X]
 by_cases hk:k=i+1
 ·subst hk;rw[if_pos rfl,ho];exact⟨_,rfl,rfl⟩
 ·rw[if_neg hk];exact⟨o,ho,rfl⟩
def zQr (X:SwapOk i l Wl){k:Nat}{o:Oper}(ho:l[k]?=some o):∃o',(kg i l)[eG i k]?=some o'∧L7 o o':=by
 rw[Sz X]
 by_cases hk:k<i
 ·rw[Ic hk,if_pos hk];exact⟨o,ho,rfl⟩
 ·by_cases h1:k=i
  ·subst h1;have:eG k k=k+1:=by simp[eG]
   rw[this,if_neg (by omega),if_pos rfl,ho];exact⟨_,rfl,rfl⟩
  ·have h2:¬eG i k<i:=by unfold eG;(repeat' split) <;> omega
   have h3:¬eG i k=i+1:=by unfold eG;(repeat' split) <;> omega
   rw[if_neg h2,if_neg h3,za,ho];exact⟨_,rfl,rfl⟩
end
def Y5 {ops ops':Array Oper}{Q:Exit→Act→World→Prop}{K:Act→World→Prop}{k k':Nat}{o o':Oper}(ho:ops[k]?=some o)(fJ:ops'[k']?=some o')(hs:L7 o o')(hg:o.guard=none)
  (h:wpOpIn (dT r) 0 P ops' Q k' K a w):wpOpIn (dT r) 0 P ops Q k K a w:=by
 unfold wpOpIn at *;rw[ho];rw[fJ]at h;unfold L7 at hs;have mf:o'.guard=none:=by rw[hs];exact hg
 have w1:Region.wanted o (yielded ops a.tmps)=true:=by unfold Region.wanted;rw[hg]
 have w2:Region.wanted o' (yielded ops' a.tmps)=true:=by unfold Region.wanted;rw[mf]
 simp only[w1,if_true];simp only[w2,if_true]at h;rw[hs]at h;exact h
def DInv.congr {ops:Array Oper}{S:Nat→Tr AV×Tr ABlk×Nat}{v:Nat→AV}{W:Nat→Bool}{D0:List Deferred}{l l':Array Bool}(hl:∀i,l.getD i false=l'.getD i false)(I:DInv c sz ops S v W σ w D0 l a x):DInv c sz ops S v W σ w D0 l' a x:=by
 obtain⟨i1,i2,⟨p,τ,q1,q2,q3,q4,q5⟩,i4,i5⟩:=I;refine⟨fun j hj k hk=>by rw[← hl]at hj ⊢;exact i1 j hj k hk,fun i hi=>i2 i (by rw[hl];exact hi),⟨p,τ,q1,q2,fun j hj hw=>by rw[← hl];exact q3 j hj hw,q4,fun t u e=>q5 t u ?_⟩,i4,i5⟩;rw[← e];exact zB _ fun j _ _=>hl j
def QJ {ops ops':Array Oper}{o:Oper}{u:AV}(hg:o.guard=none)(h:iH P c r ops o u tm g nx f ny):iH P c r ops' o u tm g nx f ny:=by
 intro σ a w hk ht Q K hK;have:=h σ a w hk ht Q K hK;have w1:Region.wanted o (yielded ops a.tmps)=true:=by unfold Region.wanted;rw[hg]
 have w2:Region.wanted o (yielded ops' a.tmps)=true:=by unfold Region.wanted;rw[hg]
 rw[w1]at this;rw[w2];exact this
def XL {ops ops':List Oper}{o:Oper}(hg:o.guard=none):fx ops o=fx ops' o:=by
 unfold fx;rw[hg]
def zym {ops ops':Array Oper}{Wl Cl:List Nat}{U:List (Nat×Nat)}{S S':Nat→Tr AV×Tr ABlk×Nat}{v v':Nat→AV}{j:Nat}(gF:∀k,k≤j→ops'[k]?=ops[k]?)(hg:∀o,ops[j]?=some o→o.guard=none)(hS:∀k,k≤j+1→S' k=S k)(hv:v' j=v j)(eF:uh ops.toList Wl j=true→uh ops'.toList Wl j=true)
  (h:zt P c r sz ops Wl Cl U S v j):zt P c r sz ops' Wl Cl U S' v' j:=by
 obtain⟨o,ho,e1,e2,e3,e4,e5⟩:=h;have mf:=hg o ho;have tn:∀k,k≤j→∀t,jG c ops'.toList k t=jG c ops.toList k t:=by
  intro k hk t;unfold jG;rw[Array.getElem?_toList,Array.getElem?_toList,gF k hk]
 refine⟨o,by rw[gF j (ae _)];exact ho,?_,e2,?_,fun hW=>?_,fun hW a ha ay=>?_⟩
 ·rw[hS j (by omega),hS (j+1) (ae _),hv,XL (ops':=ops.toList) mf];exact QJ mf e1
 ·rw[hS j (by omega),hS (j+1) (ae _),hv];exact e3
 ·obtain⟨f1,f2⟩:=e4 hW;rw[hS j (by omega),hS (j+1) (ae _),hv,XL (ops':=ops.toList) mf];refine⟨f1,?_⟩
  rcases f2 with f2 |⟨f2,f3,f4⟩ |f2
  ·exact .inl fun h' ax=>QJ mf (f2 h' ax)
  rotate_left
  ·exact .inr (.inr (eF f2))
  ·refine .inr (.inl ⟨f2,fun h' ax hk=>QJ mf (f3 h' ax (by rw[tn j (ae _)]at hk;exact hk)),fun b hb ay=>?_⟩);rw[tn j (ae _),hS b (by omega)];exact f4 b hb ay
 ·rw[hS j (by omega),hS (j+1) (ae _),tn a (by omega)];exact e5 hW a ha ay
def zyz {ops ops':Array Oper}{v v':Nat→AV}{f f':Nat→Bool}:∀(n:Nat),(∀k,k<n→ops'[k]?=ops[k]?∧v' k=v k∧f' k=f k)→TL ops' v' tm f' n=TL ops v tm f n
 |0,_=>rfl
 |n+1,hh=>by
  obtain⟨e1,e2,e3⟩:=hh n (by omega);rw[TL,TL,zyz n fun k hk=>hh k (by omega),e1,e2,e3]
def xW (i:Nat)(l:Array Bool):Array Bool:=(l.setIfInBounds i (l.getD (i+1) false)).setIfInBounds (i+1) (l.getD i false)
def BF {i:Nat}{l:Array Bool}(hi:i+2≤l.size) (k:Nat):(xW i l).getD k false=l.getD (eG i k) false:=by
 unfold xW eG;simp only[Array.getD_eq_getD_getElem?,Array.getElem?_setIfInBounds,Array.size_setIfInBounds]
 by_cases h1:k=i
 ·subst h1;simp[show k<l.size by omega]
 ·by_cases h2:k=i+1
  ·subst h2;simp[show i+1<l.size by omega]
  ·have h1':¬i=k:=fun e=>h1 e.symm;have MS:¬i+1=k:=fun e=>h2 e.symm;simp[h1,h2,h1',MS]
def Zj (hm:P.follows .mixedOrders=true)(hc:CxOk P c)(hG:c.G.sym=true){inr:Bool}{id:Nat}{l:List Oper}(i:Nat)(Wl Cl:List Nat)(U:List (Nat×Nat))(h1:uB c (iw i l) (bP (iw i l) []) Wl Cl U=true)(h2:uB c (kg i l) (bP (kg i l) []) Wl Cl U=true)(pW:Rg i l Wl=true){Q:AX→AS→Prop}{s:AS}
  (hw:uw P c sz (iw i l) Wl Cl U (fun hs s=>pD P c sz (iw i l) Wl Cl U (Q .norm) (vI i (l.drop i)) i hs s∧pD P c sz (kg i l) Wl Cl U (Q .norm) (vK i (l.drop i)) i hs s) (l.take i) 0 (fun _=>.nil) s):AW P c inr sz (.region id l.toArray true) Q s:=by
 intro r hi σ a w ok st;cases s with
 |mk tm h nx ds=>
 simp only[AS.tm,AS.h,AS.nx,AS.ds]at ok st ⊢;have X:=zSi pW;have hle:=X.le;obtain⟨FP,uP⟩:=RB h1;obtain⟨An,_⟩:=RB h2;have n1:=zT3 X;have n2:=zFv X;have ay:(l.take i).length=i:=by simp;omega
 have g1:∀k,k<i→(iw i l)[k]?=l[k]?:=fun k hk=>by rw[Q9 X,if_neg (by omega)]
 have g2:∀k,k<i→(kg i l)[k]?=l[k]?:=fun k hk=>by rw[Sz X,if_pos hk]
 obtain⟨S0,v0,p1,_,⟨jJ,p2,p3⟩,p4⟩:=Z3 (r:=r) hc hG (ops:=(iw i l).toArray) (by simpa using FP) uP (l.take i) 0 (fun _=>.nil) tm h nx ds (fun k hk=>by
  rw[ay]at hk;rw[Nat.zero_add,List.getElem?_toArray,g1 k hk,List.getElem?_take_of_lt hk]) (by simpa using hw) (fun _=>(tm,h,nx)) (fun _=>.nilFunc) rfl (fun j hj=>by omega)
 rw[ay,Nat.zero_add]at p2 p3 p4;obtain⟨p5,p6⟩:=p3;have ql1:∀k,(vI i (l.drop i))[k]?=(iw i l).toArray[i+k]?:=fun k=>by
  rw[List.getElem?_toArray];unfold iw;rw[List.getElem?_append_right (by omega),ay,Nat.add_sub_cancel_left]
 have ql2:∀k,(vK i (l.drop i))[k]?=(kg i l).toArray[i+k]?:=fun k=>by
  rw[List.getElem?_toArray];unfold kg;rw[List.getElem?_append_right (by omega),ay,Nat.add_sub_cancel_left]
 have qn1:i+(vI i (l.drop i)).length=l.length:=by
  rw[← n1];unfold iw;simp;omega
 have qn2:i+(vK i (l.drop i)).length=l.length:=by
  rw[← n2];unfold kg;simp;omega
 obtain⟨S1,v1,a1,a2,a3,a4⟩:=Sl (r:=r) hc hG (ops:=(iw i l).toArray) (by simpa using FP) uP (vI i (l.drop i)) i jJ (S0 i).1 (S0 i).2.1 (S0 i).2.2 ds ql1 (by simpa using p5) S0 v0 rfl p2;obtain⟨S2,v2,b1,b2,b3,b4⟩:=Sl (r:=r) hc hG (ops:=(kg i l).toArray) (by simpa using An) uP (vK i (l.drop i)) i jJ (S0 i).1 (S0 i).2.1 (S0 i).2.2 ds ql2 (by simpa using p6) S0 v0 rfl p2;rw[qn1]at a3 a4;rw[qn2]at b3 b4;have Av:∀(k:Nat) (o:Oper),l[k]?=some o→o.guard=none:=fun k o ho=>X.guard o (List.mem_of_getElem? ho);have F7:∀k,k<i→∀o,(iw i l).toArray[k]?=some o→o.guard=none:=fun k hk o ho=>by
  rw[List.getElem?_toArray,g1 k hk]at ho;exact Av k o ho
 have R1:Dr P c r sz (iw i l).toArray S1 v1 (fun i=>bA i Wl) (dn (bP (iw i l) [])):=QW h1 fun j hj=>by
  rw[n1]at hj
  by_cases eX:j<i
  ·exact zym (fun k _=>rfl) (F7 j eX) (fun k hk=>a1 k (by omega)) (a2 j eX) (fun e=>e) (p4 j (by omega) eX)
  ·exact a4 j (by omega) hj
 have R2:Dr P c r sz (kg i l).toArray S2 v2 (fun i=>bA i Wl) (dn (bP (kg i l) [])):=QW h2 fun j hj=>by
  rw[n2]at hj
  by_cases eX:j<i
  ·exact zym (fun k hk=>by rw[List.getElem?_toArray,List.getElem?_toArray,g1 k (by omega),g2 k (by omega)]) (F7 j eX) (fun k hk=>b1 k (by omega)) (b2 j eX) (fun e=>X.ord j eX (by simpa using e) |> fun q=>by simpa using q) (p4 j (by omega) eX)
  ·exact b4 j (by omega) hj
 have eW:S1 0=(tm,h,nx):=by rw[a1 0 (by omega),p1 0 (ae _)]
 have fT:S2 0=(tm,h,nx):=by rw[b1 0 (by omega),p1 0 (ae _)]
 have dL:xC l.toArray (bP l []):=Eu l [] (fun j m hj=>by simp at hj) fun j=>by simp
 have gC:(bP l []).length=l.length:=by
  have key:∀(l:List Oper) (acc:List Nat),(bP l acc).length=acc.length+l.length:=by
   intro l
   induction l with
   |nil=>intro acc;rfl
   |cons o l ih=>
    intro acc;show (bP l (acc++[vm acc o.after.toList])).length=_;rw[ih];simp;omega
  simpa using key l []
 refine wpIn_region_any hm ?_;have jt:=Post.drawn ok (w.drawn+1);generalize hQ:AQ c.G σ h nx w sz Q=QQ;have bC:l.toArray.size=l.length:=by simp
 have bH:∀j,l.toArray[j]?=l[j]?:=fun j=>List.getElem?_toArray;have dQ:∀n i,(Array.replicate n false).getD i false=false:=by
  intro n i;simp only[Array.getD_eq_getD_getElem?,Array.getElem?_replicate];split <;> rfl
 have lA:∀k,k<l.toArray.size→∀x,gO l.toArray x k=true→x<k:=by
  intro k hk x hd;obtain⟨o,ho,e,he,hb,hx⟩:=zg.1 hd;rw[← hx];exact X.back k o ho e he hb
 let I:Array Bool→Act→World→Prop:=fun L a' w'=>qm l.toArray L∧(∀k,L.getD k false=true→k<l.length)∧
  (DInv c sz (iw i l).toArray S1 v1 (fun i=>bA i Wl) σ w a.defers L a' w'∨(L.getD (i+1) false=true∧DInv c sz (kg i l).toArray S2 v2 (fun i=>bA i Wl) σ w a.defers (xW i L) a' w'))
 refine Lx I ?step ?done l.toArray.size _ a _ (by simp) ?count ?init
 case count=>simp
 case init=>
  refine⟨(fun j hj=>by rw[dQ]at hj;cases hj),(fun k hk=>by rw[dQ]at hk;cases hk),.inl ⟨(fun j hj=>by rw[dQ]at hj;cases hj),(fun k hk=>by rw[dQ]at hk;cases hk),⟨0,σ,by omega,.inl rfl,(fun j hj hw=>⟨(fun e=>by rw[dQ]at e;cases e),(fun e=>by omega)⟩),?_,?_⟩,st.size,rfl⟩⟩
  ·rw[eW];exact jt
  ·intro t u e;have:(TL (iw i l).toArray v1 (S1 0).1 (lf (Array.replicate l.toArray.size false)) (iw i l).toArray.size).get t=(S1 0).1.get t:=by
    have:=zc (tm:=(S1 0).1) (ops:=(iw i l).toArray) (v:=v1) (l:=lf (Array.replicate l.toArray.size false)) (t:=t) 0 (iw i l).toArray.size fun j _ _ _=>dQ _ j;rw[Nat.zero_add]at this;exact this
   rw[this,eW]at e;exact st.tm t u e
 case done=>
  intro L a' w' hs hI hr;have aQ:=Mf lA hr hs;rw[bC]at aQ hs;obtain⟨_,_,hI⟩:=hI;have fin:∀{ops:List Oper} {S:Nat→Tr AV×Tr ABlk×Nat} {v:Nat→AV} {bef:Nat→Nat→Bool} {M:Array Bool},ops.length=l.length→Dr P c r sz ops.toArray S v (fun i=>bA i Wl) bef→S 0=(tm,h,nx)→Q .norm (.mk (S l.length).1 (S l.length).2.1 (S l.length).2.2 ds)→(∀k,k<l.length→M.getD k false=true)→DInv c sz ops.toArray S v (fun i=>bA i Wl) σ w a.defers M a' w'→QQ .normal a' w':=by
   intro ops S v bef M hn R hS hq hM D;have rj:ops.toArray.size=l.length:=by simp[hn]
   obtain⟨p,τ,hp,ve,cM,bE,rQ⟩:=D.pos;rw[rj]at hp cM rQ;have oV:∀j,p≤j→j<p+(l.length-p)→bA j Wl=false:=by
    intro j h1 h2;cases hw:bA j Wl with
    |false=>rfl
    |true=>
     have:=(cM j (by omega) hw).1 (hM j (by omega));omega
   have cO:=R.same p (l.length-p) (by rw[rj];omega) oV;rw[Nat.add_sub_cancel' hp]at cO;rw[← hQ];refine⟨.norm,_,_,_,ds,τ,rfl,?_,⟨?_,D.size,?_⟩,hq⟩
   ·rw[cO,hS]at bE;exact bE
   ·intro t u e;refine rQ t u ?_;rw[R.text l.length (by rw[rj];exact ae _) t]at e;rw[← e];exact zB l.length fun j hj _=>hM j hj
   ·rw[D.defers];exact st.defers.mono bE.le
  rcases hI with D |⟨_,D⟩
  ·exact fin n1 R1 eW a3 aQ D
  ·refine fin n2 R2 fT b3 (fun k hk=>?_) D;rw[BF (by omega)];exact aQ _ (Q5 hle hk)
 case step=>
  intro L a' w' k hs hI hk;obtain⟨ct,tF,ba⟩:=BQ.1 hk;rw[bC]at ct hs;have U5:k<L.size:=by omega
  have cS:L.getD k false=false:=by simpa[Array.getD,U5]using tF
  obtain⟨aX,oU,hI⟩:=hI;have cg:∀j,(L.setIfInBounds k true).getD j false=if j=k then true else L.getD j false:=fun j=>zq U5
  have FO:qm l.toArray (L.setIfInBounds k true):=by
   intro j hj q hq;rw[cg]at hj ⊢
   by_cases Vl:q=k
   ·rw[if_pos Vl]
   ·rw[if_neg Vl]
    by_cases yF:j=k
    ·subst yF;exact ba q hq
    ·rw[if_neg yF]at hj;exact aX j hj q hq
  have yC:∀j,(L.setIfInBounds k true).getD j false=true→j<l.length:=by
   intro j hj;rw[cg]at hj
   by_cases yF:j=k
   ·omega
   ·rw[if_neg yF]at hj;exact oU j hj
  obtain⟨o,ho⟩:∃o,l[k]?=some o:=⟨_,aa ct⟩;have TX:DInv c sz (kg i l).toArray S2 v2 (fun i=>bA i Wl) σ w a.defers (xW i L) a' w'→(k=i+1∨L.getD (i+1) false=true)→wpOpIn (dT r) 0 P l.toArray QQ k (I (L.setIfInBounds k true)) a' w':=by
   intro D eF;obtain⟨o',fJ,rj⟩:=zQr X ho;refine Y5 (by rw[bH];exact ho) (k':=eG i k) (by rw[List.getElem?_toArray];exact fJ) rj (Av k o ho) (wpOpIn_mono (fun a2 w2 q=>?_) (R2.stepI (QQ:=QQ) (i:=eG i k) (by simp[xW,n2];omega) D (by simp[n2];exact Q5 hle ct) (by rw[BF (by omega),za];exact cS) fun x hx=>?_))
   ·refine⟨FO,yC,.inr ⟨?_,q.congr fun j=>?_⟩⟩
    ·rw[cg]
     rcases eF with e |e
     ·rw[if_pos e.symm]
     ·by_cases e2:i+1=k
      ·rw[if_pos e2]
      ·rw[if_neg e2];exact e
    rw[zq (by simp[xW];have:=Q5 hle ct;omega),BF (by omega),BF (by simp;omega),cg]
    by_cases e:j=eG i k
    ·rw[if_pos e,if_pos (by rw[e,za])]
    ·rw[if_neg e,if_neg (fun e2=>e (by rw[← e2,za]))]
   ·rw[BF (by omega)]
    rcases YP X hx with hd |⟨e1,e2⟩
    ·rw[za]at hd;exact ba _ hd
    ·have qT:k=i:=by
      have:=congrArg (eG i) e1;rw[za]at this;rw[this];simp[eG]
     rw[e2];have:eG i i=i+1:=by simp[eG]
     rw[this]
     rcases eF with e |e
     ·omega
     ·exact e
  rcases hI with D |⟨O8,D⟩
  ·by_cases eF:k=i+1∧L.getD i false=false
   ·
    obtain⟨dB,yB⟩:=eF;subst dB;have Ga:∀j,i+2≤j→L.getD j false=false:=by
     intro j hj;cases hl:L.getD j false with
     |false=>rfl
     |true=>
      exfalso;have kr:=oU j hl;obtain⟨mm,lG⟩:∃mm,(bP l [])[j]?=some mm:=⟨_,aa (by omega)⟩;have hb:=(X.bef j hj kr).1;unfold dn at hb;rw[DI]at hb;have e:(bP l []).getD j 0=mm:=by simp[List.getD,lG]
      rw[e]at hb;have:=dL j mm lG i hb L aX fun q hq=>aX j hl q hq;rw[yB]at this;cases this
    have tS:∀j,i≤j→L.getD j false=false:=by
     intro j hj
     by_cases e1:j=i
     ·rw[e1];exact yB
     ·by_cases e2:j=i+1
      ·rw[e2];exact cS
      ·exact Ga j (by omega)
    have pW:∀j,(xW i L).getD j false=L.getD j false:=by
     intro j;rw[BF (by omega)]
     by_cases hj:j<i
     ·rw[Ic hj]
     ·rw[tS j (by omega),tS];unfold eG
      (repeat' split) <;> omega
    refine TX ?_ (.inl rfl);obtain⟨i1,i2,⟨p,τ,q1,q2,q3,q4,q5⟩,i4,i5⟩:=D;have A7:(iw i l).toArray.size=l.length:=by simp[n1]
    have ku:(kg i l).toArray.size=l.length:=by simp[n2]
    rw[A7]at q1 q3 q5;have tI:p≤i:=by
     rcases Nat.lt_or_ge i p with h3 |h3
     ·have:=(q3 i (by omega) X.w1).2 h3;rw[yB]at this;cases this
     ·exact h3
    refine⟨fun j hj q hq=>?_,fun j hj=>?_,⟨p,τ,by rw[ku];exact q1,q2,fun j hj hw=>?_,?_,?_⟩,i4,i5⟩
    ·rw[pW]at hj;have eX:j<i:=by
      rcases Nat.lt_or_ge j i with h3 |h3
      ·exact h3
      ·rw[tS j h3]at hj;cases hj
     rcases YP X hq with hd |⟨e1,_⟩
     ·rw[BF (by omega)];rw[Ic eX]at hd;exact aX j hj _ hd
     ·omega
    ·rw[pW]at hj;rw[ku];exact oU j hj
    ·rw[ku]at hj;rw[pW];exact q3 j hj hw
    ·rw[b1 p tI,b1 0 (by omega)];rw[a1 p tI,a1 0 (by omega)]at q4;exact q4
    ·intro t u e;refine q5 t u ?_;rw[← e,ku];have JI:=zc (tm:=(S1 0).1) (ops:=(iw i l).toArray) (v:=v1) (l:=lf L) (t:=t) i (l.length-i) fun j mh _ _=>tS j mh;have vo:=zc (tm:=(S2 0).1) (ops:=(kg i l).toArray) (v:=v2) (l:=lf (xW i L)) (t:=t) i (l.length-i) fun j mh _ _=>by
      show (xW i L).getD j false=false;rw[pW];exact tS j mh
     rw[Nat.add_sub_cancel' (by omega)]at JI vo;rw[JI,vo,eW,fT]
     congr 1
     exact(zyz i fun q hq=>⟨by rw[List.getElem?_toArray,List.getElem?_toArray,g1 q hq,g2 q hq],by rw[a2 q hq,b2 q hq],(pW q).symm⟩)
   ·obtain⟨o',fJ,rj⟩:=zPj X ho;refine Y5 (by rw[bH];exact ho) (k':=k) (by rw[List.getElem?_toArray];exact fJ) rj (Av k o ho) (wpOpIn_mono (fun a2 w2 q=>⟨FO,yC,.inl q⟩) (R1.stepI (QQ:=QQ) (i:=k) (by simp[n1];omega) D (by simp[n1];exact ct) cS fun x hx=>?_))
    rcases zTc X hx with hd |⟨e1,e2⟩
    ·exact ba x hd
    ·rw[e2];cases hl:L.getD i false with
     |true=>rfl
     |false=>exact absurd ⟨e1,hl⟩ eF
  ·exact TX D (.inr O8)
end
section
variable {P : Program} {c c' : Cx} {σ τ υ : Sg} {h g f : Tr ABlk} {nx ny nz sz : Nat} {ds : List DE} {w x y : World} {tm : Tr AV} {a : Act} {G : Gl}
mutual
def jY:AV→Bool
 |.bool _=>true
 |.int _ _=>true
 |.str _ _=>true
 |.bs _=>true
 |.ptr0=>true
 |.sl0=>true
 |.map0=>true
 |.nilFunc=>true
 |.nilIface=>true
 |.agg l=>lN l
 |.tup l=>lN l
 |.iface _ v=>jY v
 |.func _ l m=>match lN l with
  |true=>lN m
  |false=>false
 |.ip l=>lN l
 |.fz _ _ l=>lN l
 |.ptr _ _=>false
 |.sl _ _ _ _ _=>false
 |.map _=>false
 |.yld _=>false
 |.opq _=>false
def lN:List AV→Bool
 |[]=>true
 |v::l=>match jY v with
  |true=>lN l
  |false=>false
end
def zO2 {v:AV}{l:List AV}(h:lN (v::l)=true):jY v=true∧lN l=true:=by
 simp only[lN]at h;cases hv:jY v with
 |true=>rw[hv]at h;exact⟨rfl,h⟩
 |false=>rw[hv]at h;cases h
mutual
def av.nf (hi:∀b C,σ.imm b=some C→τ.imm b=some C):∀(v:AV)(V:Value),jY v=true→av σ v V→av τ v V
 |.bool b,V,_,h=>by simpa only[av]using h
 |.int k n,V,_,h=>by simpa only[av]using h
 |.str l n,V,_,h=>by simpa only[av]using h
 |.bs b,V,_,h=>by simpa only[av]using h
 |.ptr0,V,_,h=>by simpa only[av]using h
 |.sl0,V,_,h=>by simpa only[av]using h
 |.map0,V,_,h=>by simpa only[av]using h
 |.nilFunc,V,_,h=>by simpa only[av]using h
 |.nilIface,V,_,h=>by simpa only[av]using h
 |.ptr _ _,V,n,_=>by simp[jY]at n
 |.sl _ _ _ _ _,V,n,_=>by simp[jY]at n
 |.map _,V,n,_=>by simp[jY]at n
 |.yld _,V,n,_=>by simp[jY]at n
 |.opq _,V,n,_=>by simp[jY]at n
 |.agg l,V,n,h=>by
  simp only[jY]at n;simp only[av]at h ⊢;obtain⟨L,e,q⟩:=h;exact⟨L,e,aC.nf hi l L n q⟩
 |.tup l,V,n,h=>by
  simp only[jY]at n;simp only[av]at h ⊢;obtain⟨L,e,q⟩:=h;exact⟨L,e,aC.nf hi l L n q⟩
 |.iface t v,V,n,h=>by
  simp only[jY]at n;simp only[av]at h ⊢;obtain⟨U,e,q⟩:=h;exact⟨U,e,av.nf hi v U n q⟩
 |.func fn l m,V,n,h=>by
  simp only[jY]at n;simp only[av]at h ⊢;obtain⟨A,C,e,q1,q2⟩:=h;cases hl:lN l with
  |false=>rw[hl]at n;cases n
  |true=>
   rw[hl]at n;exact⟨A,C,e,aC.nf hi l A hl q1,aC.nf hi m C n q2⟩
 |.ip l,V,n,h=>by
  simp only[jY]at n;simp only[av]at h ⊢;obtain⟨b,o,C,L,e,h1,h2,h3⟩:=h;exact⟨b,o,C,L,e,hi b C h1,aC.nf hi l L n h2,h3⟩
 |.fz es full l,V,n,h=>by
  simp only[jY]at n;simp only[av]at h ⊢;obtain⟨a,cap,e,g1,g2,g4,g3⟩:=h;refine⟨a,cap,e,g1,g2,g4,fun hx=>?_⟩;obtain⟨b,o,C,L,e1,h1,h2,h3⟩:=g3 hx;exact⟨b,o,C,L,e1,hi b C h1,aC.nf hi l L n h2,h3⟩
def aC.nf (hi:∀b C,σ.imm b=some C→τ.imm b=some C):∀(l:List AV)(L:List Value),lN l=true→aC σ l L→aC τ l L
 |[],L,_,h=>by simpa only[aC]using h
 |v::l,L,n,h=>by
  obtain⟨n1,n2⟩:=zO2 n;simp only[aC]at h ⊢;obtain⟨V,L',e,q1,q2⟩:=h;exact⟨V,L',e,av.nf hi v V n1 q1,aC.nf hi l L' n2 q2⟩
end
def aB.of_nil (hG:∀g cs,c.G.tab g=some cs→lN cs=true){fid:FuncId}{args:List AV}{u:AV}(ha:lN args=true)(hu:jY u=true)
  (hc:bf P c fid args .nil c.G.n fun v g _=>az c.G.n .nil g∧Fz g c.G.n v u):aB P c fid args u:=by
 intro h nx σ w A hk hA
 let σ0:Sg:={ blk:=fun i=>if i<c.G.n then some i else none,cap:=σ.cap,opq:=σ.opq,imm:=σ.imm }
 have eY:Ok c.G σ0 .nil c.G.n w:=by
  refine⟨fun g hg=>if_pos hg,ae _,fun i hi=>if_neg (by omega),(fun i j b B B' h1=>by cases h1),(fun i B h1=>by cases h1),(fun b C hb=>⟨(hk.imm b C hb).1,(fun i B h1=>by cases h1)⟩),fun g cs hg=>?_⟩;exact av.nf (σ:=σ) (τ:=σ0) (fun _ _ e=>e) (.ip cs) _ (by simpa only[jY]using hG g cs hg) (hk.gl g cs hg)
 refine(hc σ0 w A eY (aC.nf (σ:=σ) (τ:=σ0) (fun _ _ e=>e) args A ha hA)).mono fun V x q=>?_;obtain⟨τ,v,g,ny,q1,q2,q3,q4⟩:=q;have p:=Post.frz eY q2 q3;have hV:=q4.rel q2.ok V q1
 let τ':Sg:={ blk:=σ.blk,cap:=σ.cap,opq:=σ.opq,imm:=(τ.frz x g c.G.n).imm }
 have hle:σ.Le τ':=⟨fun _ _ e=>⟨e,rfl⟩,rfl,fun b C hb=>p.le.imm b C hb⟩;have nE:∀b,b<w.heap.size→x.heap[b]?=w.heap[b]?:=fun b hb=>p.fr.keep b hb fun i B hi=>by cases hi
 refine⟨τ',u,h,nx,av.nf (σ:=τ.frz x g c.G.n) (τ:=τ') (fun _ _ e=>e) u V hu hV,⟨⟨hk.glob,hk.le,hk.fresh,hk.inj,fun i B h1=>?_,fun b C hb=>⟨(p.ok.imm b C hb).1,fun i B h1 e=>?_⟩,fun i cs hi=>(hk.gl i cs hi).mono hle⟩,hle,⟨p.fr.os,p.fr.tape,p.fr.output,p.fr.size,fun b hb _=>nE b hb,fun i B b h1 h2=>.inr ⟨i,B,h1,h2⟩,fun b C hb=>?_⟩,ae _⟩,rfl,rfl,rfl⟩
 ·obtain⟨b,o,r1,r2,r3⟩:=hk.blk i B h1;exact⟨b,o,r1,by rw[nE b (BZ r2)];exact r2,r3.mono hle r1⟩
 ·rcases p.fr.imm b C hb with h2 |h2 |⟨j,B',hj,_⟩
  ·exact(hk.imm b C h2).2 i B h1 e
  ·have:=hk.blt h1 e;omega
  ·cases hj
 ·rcases p.fr.imm b C hb with h2 |h2 |⟨j,B',hj,_⟩
  ·exact .inl h2
  ·exact .inr (.inl h2)
  ·cases hj
mutual
inductive Wk:AV→AV→Prop
 |same (v:AV):Wk v v
 |sl0 (es:Nat) (full:Bool):Wk .sl0 (.fz es full [])
 |full (es:Nat) (l m:List AV) (full:Bool):fS l m→Wk (.fz es full l) (.fz es false m)
 |fz (es:Nat) (l m:List AV) (full:Bool):fS l m→Wk (.fz es full l) (.fz es full m)
 |agg (l m:List AV):fS l m→Wk (.agg l) (.agg m)
 |tup (l m:List AV):fS l m→Wk (.tup l) (.tup m)
 |ip (l m:List AV):fS l m→Wk (.ip l) (.ip m)
 |str (l n:Nat):Wk (.str l n) (.bs (bK l n))
inductive fS:List AV→List AV→Prop
 |nil:fS [] []
 |cons (v u:AV) (l m:List AV):Wk v u→fS l m→fS (v::l) (u::m)
end
def fS.len:∀{l m:List AV},fS l m→m.length=l.length
 |_,_,.nil=>rfl
 |_,_,.cons _ _ _ _ _ h=>by simp[h.len]
def fS.refl:∀l:List AV,fS l l
 |[]=>.nil
 |v::l=>.cons _ _ _ _ (.same v) (fS.refl l)
mutual
def Wk.rel:∀{v u:AV},Wk v u→∀V,av σ v V→av σ u V
 |_,_,.same v,V,h=>h
 |_,_,.sl0 es full,V,h=>by
  simp only[av]at h ⊢;exact⟨none,0,h,by simp,by simp,by simp,by simp⟩
 |_,_,.full es l m full hl,V,h=>by
  have e:=hl.len;simp only[av]at h ⊢;rw[e];obtain⟨a,cap,e,g1,g2,g4,g3⟩:=h;refine⟨a,cap,e,g1,(fun e=>by cases e),g4,fun hx=>?_⟩;obtain⟨b,o,C,L,e1,h1,h2,h3⟩:=g3 hx;exact⟨b,o,C,L,e1,h1,fS.rel hl L h2,h3⟩
 |_,_,.fz es l m full hl,V,h=>by
  have e:=hl.len;simp only[av]at h ⊢;rw[e];obtain⟨a,cap,e,g1,g2,g4,g3⟩:=h;refine⟨a,cap,e,g1,g2,g4,fun hx=>?_⟩;obtain⟨b,o,C,L,e1,h1,h2,h3⟩:=g3 hx;exact⟨b,o,C,L,e1,h1,fS.rel hl L h2,h3⟩
 |_,_,.agg l m hl,V,h=>by
  simp only[av]at h ⊢;obtain⟨L,e,q⟩:=h;exact⟨L,e,fS.rel hl L q⟩
 |_,_,.tup l m hl,V,h=>by
  simp only[av]at h ⊢;obtain⟨L,e,q⟩:=h;exact⟨L,e,fS.rel hl L q⟩
 |_,_,.ip l m hl,V,h=>by
  simp only[av]at h ⊢;obtain⟨b,o,C,L,e,h1,h2,h3⟩:=h;exact⟨b,o,C,L,e,h1,fS.rel hl L h2,h3⟩
 |_,_,.str l n,V,h=>by
  simp only[av]at h ⊢;exact h.2
def fS.rel:∀{l m:List AV},fS l m→∀L,aC σ l L→aC σ m L
 |_,_,.nil,L,h=>h
 |_,_,.cons v u l m h1 h2,L,h=>by
  simp only[aC]at h ⊢;obtain⟨V,L',e,q1,q2⟩:=h;exact⟨V,L',e,Wk.rel h1 V q1,fS.rel h2 L' q2⟩
end
def bf.wk {fid:FuncId}{args args':List AV}{R:AV→Tr ABlk→Nat→Prop}(ha:fS args args')(hc:bf P c fid args' h nx R):bf P c fid args h nx R:=
 fun σ w A ok hA=>hc σ w A ok (ha.rel A hA)
def bf.wkR {fid:FuncId}{args:List AV}{R S:AV→Tr ABlk→Nat→Prop}(hc:bf P c fid args h nx R)(hr:∀v g ny,R v g ny→∃u,Wk v u∧S u g ny):bf P c fid args h nx S:=
 fun σ w A ok hA=>(hc σ w A ok hA).mono fun V x ⟨τ,v,g,ny,h1,h2,h3⟩=>by
  obtain⟨u,e1,e2⟩:=hr v g ny h3;exact⟨τ,u,g,ny,e1.rel V h1,h2,e2⟩
def aB.wk {fid:FuncId}{args args':List AV}{u u':AV}(hc:aB P c fid args' u)(ha:fS args args')(hu:Wk u u'):aB P c fid args u':=
 fun h nx=>bf.wk ha ((hc h nx).wkR fun v g ny ⟨e1,e2,e3⟩=>⟨u',by rw[e1];exact hu,rfl,e2,e3⟩)
def bf.tab (hn:c'.G.n=c.G.n)(ht:∀g cs,c.G.tab g=some cs→c'.G.tab g=some cs){fid:FuncId}{args:List AV}{R:AV→Tr ABlk→Nat→Prop}(hc:bf P c fid args h nx R):bf P c' fid args h nx R:=by
 intro σ w A ok hA;have ok0:Ok c.G σ h nx w:=⟨fun g hg=>ok.glob g (by rw[hn];exact hg),by rw[← hn];exact ok.le,ok.fresh,ok.inj,ok.blk,ok.imm,fun g cs hg=>ok.gl g cs (ht g cs hg)⟩;refine(hc σ w A ok0 hA).mono fun V x ⟨τ,v,g,ny,h1,h2,h3⟩=>⟨τ,v,g,ny,h1,⟨?_,h2.le,h2.fr,h2.nx⟩,h3⟩;exact⟨fun g hg=>h2.ok.glob g (by rw[← hn];exact hg),by rw[hn];exact h2.ok.le,h2.ok.fresh,h2.ok.inj,h2.ok.blk,h2.ok.imm,fun g cs hg=>(ok.gl g cs hg).mono h2.le⟩
def aB.tab (hn:c'.G.n=c.G.n)(ht:∀g cs,c.G.tab g=some cs→c'.G.tab g=some cs){fid:FuncId}{args:List AV}{u:AV}(hc:aB P c fid args u):aB P c' fid args u:=
 fun h nx=>(hc h nx).tab hn ht
end
section
variable {P : Program} {c : Cx} {sz : Nat} {tm : Tr AV} {h : Tr ABlk} {nx : Nat} {ds : List DE} {s : AS} {ops : List Oper} {Wl Cl : List Nat} {U : List (Nat × Nat)}
@[go_sem ↓] theorem ye0 (K:(Nat→Tr ABlk)→AS→Prop) (i:Nat)(hs:Nat→Tr ABlk):uw P c sz ops Wl Cl U K [] i hs s=K hs s:=rfl
@[go_sem ↓] theorem zV2 (K:(Nat→Tr ABlk)→AS→Prop)(o:Oper)(l:List Oper) (i:Nat)(hs:Nat→Tr ABlk):uw P c sz ops Wl Cl U K (o::l) i hs s=qq P c sz ops Wl Cl U i hs o (uw P c sz ops Wl Cl U K l (i+1)) s:=rfl
@[go_sem ↓] theorem ydp (i:Nat)(o1 o2:Oper)(t:List Oper):vI i (o1::o2::t)=o1::xA i o2::t:=rfl
@[go_sem ↓] theorem ydt (i:Nat)(o1 o2:Oper)(t:List Oper):vK i (o1::o2::t)=tX i o2::xA i (tX i o1)::t.map (tX i):=rfl
@[go_sem ↓] theorem yb0 (i:Nat)(dst:Option Tmp)(op:Op)(ty:TypeId)(pos:String)(aY:Array Edge)(g:Option (Nat×Bool)):tX i ⟨dst,op,ty,pos,aY,g⟩=⟨dst,op,ty,pos,aY.map (VO i),g⟩:=rfl
@[go_sem ↓] theorem zXc (i:Nat)(dst:Option Tmp)(op:Op)(ty:TypeId)(pos:String)(aY:Array Edge)(g:Option (Nat×Bool)):xA i ⟨dst,op,ty,pos,aY,g⟩=⟨dst,op,ty,pos,aY.push { on:=i,ground:=.data },g⟩:=rfl
@[go_sem ↓] theorem zW9 (l1 l2:List Oper)(fl:List (Nat×Nat×Nat)) (m2:Nat)(Kf:AS→Prop):Ku P c sz l1 l2 fl m2 Kf (.mk tm h nx ds)=((∀p∈fl,∃u,tm.get p.2.2=some u∧tm.get p.2.1=some u∧p.2.2<sz)∧gZ P c sz (l1++l2) (fun s'=>gZ P c sz (l1++l2) Kf (l2.drop m2) (si fl tm s')) (l2.take m2) (.mk (sh fl tm) h nx ds)):=rfl
@[go_sem] theorem ydb:sh [] tm=tm:=rfl
@[go_sem] theorem zX3 (p:Nat×Nat×Nat)(l:List (Nat×Nat×Nat)):sh (p::l) tm=(sh l tm).put p.2.2 none:=rfl
@[go_sem] theorem ybo (fl:List (Nat×Nat×Nat))(eg:Tr AV):si fl eg (.mk tm h nx ds)=.mk (sc fl eg tm) h nx ds:=rfl
@[go_sem] theorem yci (eg:Tr AV):sc [] eg tm=tm:=rfl
@[go_sem] theorem zV1 (p:Nat×Nat×Nat)(l:List (Nat×Nat×Nat))(eg:Tr AV):sc (p::l) eg tm=(sc l eg tm).put p.2.2 (eg.get p.2.2):=rfl
def Hz (hm:P.follows .mixedOrders=true)(hc:CxOk P c)(hG:c.G.sym=true){inr:Bool}{id:Nat}{l:List Oper}(k:Nat)(Wl Cl:List Nat)(U:List (Nat×Nat))(fl:List (Nat×Nat×Nat)) (m2:Nat)(cC:uB c (l.take k) (bP (l.take k) []) Wl Cl U=true)(o9:Ke (bP l []) (l.take k) (l.drop k) Wl fl m2=true){Q:AX→AS→Prop}{s:AS}
  (hw:pD P c sz (l.take k) Wl Cl U (Ku P c sz (l.take k) (l.drop k) fl m2 (Q .norm)) (l.take k) 0 (fun _=>.nil) s):AW P c inr sz (.region id l.toArray true) Q s:=by
 have:=zMl (inr:=inr) (id:=id) hm hc hG (l1:=l.take k) (l2:=l.drop k) Wl Cl U fl m2 cC (by rw[List.take_append_drop];exact o9) hw;rw[List.take_append_drop]at this;exact this
@[go_sem] theorem ye5 (i:Nat)(hs:Nat→Tr ABlk) (a b:Nat)(U:List (Nat×Nat)):zb c ops i tm hs h ((a,b)::U)=((a=i→b<i→gJ (jG c ops i tm) h (hs b))∧zb c ops i tm hs h U):=rfl
@[go_sem] theorem zVr (j:Nat)(h':Tr ABlk) (a b:Nat)(U:List (Nat×Nat)):xB c ops j tm h h' ((a,b)::U)=((b=j→a<j→gJ (jG c ops a tm) h h')∧xB c ops j tm h h' U):=rfl
@[go_sem] theorem zW0 (j:Nat):jG c ops j tm=match ops[j]? with
 |some o=>(pI o.op).bind (aL c.G tm)
 |none=>none:=rfl
attribute [go_sem] iw kg
@[go_sem] theorem zXs (t:TypeId)(x:Operand):pI (.load t x)=some x:=rfl
@[go_sem] theorem zYh (cs:List AV)(h':Tr ABlk):gJ (some (.ip cs)) h h'=True:=rfl
@[go_sem] theorem zWo (k o:Nat)(h':Tr ABlk):gJ (some (.ptr k o)) h h'=(h'.get k=h.get k):=rfl
end
section
open Go.Proofs
attribute [-go_sem] dN bX
def zGs:cx.ft.get 43=some Tryz.f43:=aO
def sq (a b:Pv):Prop:=a.id=b.id∧a.rank=b.rank∧a.kind=b.kind∧a.name=b.name∧a.value=b.value∧∀x,x∈a.except↔x∈b.except
open Classical in
def zIg (a b:Pv)(v:AV)(ha:a.except.length≤1000000000)(hb:b.except.length≤1000000000):aM 43 [.ip (a.cs++(b.cs++[v]))] (.tup [.bool (!(decide (sq a b))),.sl0,.int .i64 0]):=by
 have c1:=zG2 false false a.except b.except ha hb;unfold sq
 rcases a with⟨id,rank,kind,name,value,⟨w1,w2,w3,w4,w5⟩,ex,⟨b1,b2,b3,b4⟩,⟨e1,e2,e3,e4⟩,⟨g1,g2,g3,g4⟩⟩
 rcases b with⟨iD,jf,jc,jd,fw,⟨qh,Hb,Hc,Hd,He⟩,qA,⟨yd,rK,Cv,ye⟩,⟨jF,pF,sN,qz⟩,⟨CH,CI,CJ,CM⟩⟩
 dsimp only at c1 ⊢
 generalize A7:decide (∀x,x∈ex↔x∈qA)=s1 at c1;refine aB.mk fun h nx R hR=>aP zGs (sz:=59) (rs:=[.tmp 2,.tmp 3,.tmp 4]) ?_;simp[go_sem];refine Zj mixed iQ xh 8 [8,9,10,11] [] [(3,8),(3,9),(7,8),(7,9),(7,10)] (by kernel_rfl) (by kernel_rfl) (by kernel_rfl) ?_;have fin:∀(x:Bool) (g:Tr ABlk) (ny:Nat),az nx h g→(x=true↔¬(id=iD∧rank=jf∧kind=jc∧name=jd∧value=fw∧∀x,x∈ex↔x∈qA))→R (.tup [.bool x,.sl0,.int .i64 0]) g ny:=by
  intro x g ny he hx;refine hR _ _ _ he (Fz.eq rfl ?_)
  congr 2
  cases x
  ·simp at hx;simp[hx]
  ·have:=hx.1 rfl;simp[this]
 have E:∀(x y z u:Option ABlk),az nx h ((((h.put nx x).put (nx+1) y).put nx z).put (nx+1) u):=fun x y z u=>(((((az.refl nx h).put (ae _) _).put (by omega) _).put (by omega) _).put (by omega) _);have E':∀(x y z u:Option ABlk),az nx h ((((h.put nx x).put (nx+1) y).put (nx+1) z).put nx u):=fun x y z u=>(((((az.refl nx h).put (ae _) _).put (by omega) _).put (by omega) _).put (by omega) _);have d1:s1=true↔∀x,x∈ex↔x∈qA:=by rw[← A7];simp
 simp[go_sem,Pv.cs,Fm.cs,bB.cs];refine⟨?_,?_⟩
 ·simp(maxSteps:=1000000) +contextual -implicitDefEqProofs[go_sem];refine QL (fid:=91) (first:=[]) (cap:=[]) (l:=[.fz 1 false (bp ex),.fz 1 false (bp qA)]) (by simp[go_sem]) ?_ c1 ?_
  ·simp +contextual [go_sem]
  simp +contextual -implicitDefEqProofs[go_sem,cW];refine fin _ _ _ (E _ _ _ _) ?_;rw[← d1];cases s1 <;> simp <;> (by_cases h1:id=iD <;> by_cases h2:rank=jf <;> by_cases h3:kind=jc <;> by_cases h4:name=jd <;> by_cases h5:value=fw <;> simp[h1,h2,h3,h4,h5])
 ·simp(maxSteps:=1000000) +contextual -implicitDefEqProofs[go_sem];refine QL (fid:=91) (first:=[]) (cap:=[]) (l:=[.fz 1 false (bp ex),.fz 1 false (bp qA)]) (by simp[go_sem]) ?_ c1 ?_
  ·simp +contextual [go_sem]
  simp +contextual -implicitDefEqProofs[go_sem,cW];refine fin _ _ _ (E' _ _ _ _) ?_;rw[← d1];cases s1 <;> simp <;> (by_cases h1:id=iD <;> by_cases h2:rank=jf <;> by_cases h3:kind=jc <;> by_cases h4:name=jd <;> by_cases h5:value=fw <;> simp[h1,h2,h3,h4,h5])
def zLk:cx.ft.get 204=some Tryz.f204:=aO
def zKs:cx.ft.get 205=some Tryz.f205:=aO
def zIb:cx.ft.get 214=some Tryz.f214:=aO
def zH1:cx.ft.get 295=some Tryz.f295:=aO
def zO8:cx.ft.get 261=some Tryz.f261:=aO
def zRy:cx.ft.get 210=some Tryz.f210:=aO
def zIq:cx.ft.get 211=some Tryz.f211:=aO
def lj (b:Bool):Fm:=.mk (if b then 1 else 2) .empty 0 0 []
def Ts (b:Bool):aM 204 [.bool b] (.agg (lj b).cs):=by
 refine aB.wk (u:=.agg [.int .i64 (if b then 1 else 2),.bs .empty,.int .i64 0,.int .i64 0,.sl0]) ?_ (fS.refl _) ?_
 ·refine aB.mk fun h nx R hR=>aP zLk (sz:=6) (rs:=[.cell 2 24]) ?_;cases b
  ·simp[go_sem,aI];exact hR _ _ _ (((az.refl nx h).put (ae _) _).put (ae _) _) (Fz.eq rfl rfl)
  ·simp[go_sem,aI];exact hR _ _ _ (((az.refl nx h).put (ae _) _).put (ae _) _) (Fz.eq rfl rfl)
 ·exact .agg _ _ (.cons _ _ _ _ (.same _) (.cons _ _ _ _ (.same _) (.cons _ _ _ _ (.same _) (.cons _ _ _ _ (.same _) (.cons _ _ _ _ (.sl0 5 false) .nil)))))
def js (v cmp n:Int):Bool:=if cmp=1 then decide (v=n) else if cmp=2 then decide (¬v=n) else if cmp=3 then decide (v<n) else if cmp=4 then decide (v≤n) else if cmp=5 then decide (n<v) else decide (n≤v)
def zSa (v cmp n:Int):aM 205 [.int .i64 v,.int .i64 cmp,.int .i64 n] (.bool (js v cmp n)):=by
 refine aB.mk fun h nx R hR=>aP zKs (sz:=36) (rs:=[.tmp 6]) ?_;have fin:∀b,b=js v cmp n→R (.bool b) h nx:=fun b hb=>hR _ _ _ (az.refl _ _) (Fz.eq rfl (by rw[hb]))
 by_cases e1:cmp=1
 ·simp[go_sem,e1];exact fin _ (by simp[js,e1])
 by_cases e2:cmp=2
 ·simp[go_sem,e1,e2];exact fin _ (by simp[js,e1,e2])
 by_cases e3:cmp=3
 ·simp[go_sem,e1,e2,e3];exact fin _ (by simp[js,e1,e2,e3])
 by_cases e4:cmp=4
 ·simp[go_sem,e1,e2,e3,e4];exact fin _ (by simp[js,e1,e2,e3,e4])
 by_cases e5:cmp=5
 ·simp[go_sem,e1,e2,e3,e4,e5];exact fin _ (by simp[js,e1,e2,e3,e4,e5])
 simp[go_sem,e1,e2,e3,e4,e5];exact fin _ (by simp[js,e1,e2,e3,e4,e5])
def zNk (x v:Int):aM 295 [.int .i64 x,.ip [.int .i64 v]] (.bool (decide (v<x))):=by
 refine aB.mk fun h nx R hR=>aP zH1 (sz:=7) (rs:=[.tmp 3]) ?_;simp[go_sem];exact hR _ _ _ (az.refl _ _) (Fz.eq rfl (by simp))
def X7 (full:Bool)(l:List Int)(fid:FuncId)(cap:List AV)(p:Int→Bool)(hl:l.length≤1000000000)(hp:∀x∈l,aM fid ([.int .i64 x]++cap) (.bool (p x))):aM 214 [.fz 1 full (aG l),.func fid [] cap] (.int .i64 (bj p l)):=by
 refine aB.mk fun h nx R hR=>aP zIb (sz:=19) (rs:=[.tmp 4]) ?_;simp[go_sem];refine bF (fun mm st=>∃tm k,st=.mk tm h nx []∧mm=l.length-k∧k≤l.length∧tm.get 0=some (.fz 1 full (aG l))∧tm.get 1=some (.func fid [] cap)∧tm.get 7=some (.int .i64 (l.length:Int))∧tm.get 8=some (.int .i64 (k:Int))∧RowKit.Hid (bj p l=rF p l k)) ⟨l.length,_,0,rfl,by simp,by simp,?_⟩ ?_
 ·simp[go_sem];exact Lib.hid (Mt _ l).symm
 ·rintro mm st ⟨tm,k,rfl,rfl,hk,t0,t1,t7,t8,hv⟩ J hJ
  refine bl ?_
  by_cases ay:k<l.length
  ·have A3:=hp _ (ah ay)
   by_cases he:p l[k]=true
   ·have:=Mr (p:=p) ay he;simp[go_sem,t0,t1,t7,t8,ay];refine aB.use A3 ?_;simp[go_sem,aA,t0,t1,t7,t8,ay,he];refine hR _ _ _ (az.refl _ _) (Fz.eq rfl ?_);rw[hv.out,this]
   ·have:=Mn (p:=p) ay he;have HM:=Lib.hid this;clear this;simp[go_sem,t0,t1,t7,t8,ay];refine aB.use A3 ?_;simp[go_sem,aA,t0,t1,t7,t8,ay,he];refine hJ (l.length-(k+1)) _ (by omega) ⟨_,k+1,rfl,rfl,by omega,?_⟩;simp(disch:=omega) [go_sem,t0,t1,t7,t8,aS];exact Lib.hid (by rw[hv.out,HM.out])
  ·have:=Mj (p:=p) (l:=l) (k:=k) (by omega);simp[go_sem,t0,t1,t7,t8,ay];refine hR _ _ _ (az.refl _ _) (Fz.eq rfl ?_);rw[hv.out,this]
structure Nd where
 fact:Int
 cuts:List Int
 kids:List Int
 leaf:Bool
def Nd.cs (n:Nd):List AV:=[.int .i64 n.fact,.fz 1 false (aG n.cuts),.fz 1 false (aG n.kids),.bool n.leaf]
def bQ (l:List Nd):List AV:=l.map fun f=>.agg f.cs
@[go_sem] theorem zyp (l:List Nd):(bQ l).length=l.length:=by simp[bQ]
@[go_sem] theorem zZ4 (l:List Nd) (k:Nat)(hk:k<(bQ l).length):(bQ l)[k]=.agg (l[k]'(by simpa[bQ]using hk)).cs:=by simp[bQ]
@[go_sem] theorem Nd.cs_len (f:Nd):f.cs.length=4:=by cases f;rfl
@[go_sem] theorem Nd.cs_one (f:Nd):dS f.cs=true:=by cases f;rfl
@[go_sem] theorem Nd.cs_take (f:Nd):f.cs.take 4=f.cs:=by cases f;rfl
def vP:∀l:List Int,bJ (aG l)=true
 |[]=>rfl
 |f::l=>by
  have:=vP l;rw[show aG (f::l)=.int .i64 f::aG l from rfl];simp[bJ,plain,this]
def Nd.cs_plain (n:Nd):bJ n.cs=true:=by simp[Nd.cs,bJ,plain,vP]
def kl (n:Nd) (v:Int):Int:=if bj (fun c=>decide (v<c)) n.cuts<0 then n.kids.length-1 else bj (fun c=>decide (v<c)) n.cuts
def zP3 (n:Nd) (v:Int)(h1:n.cuts.length≤1000000000)(h2:n.kids.length≤1000000000):aM 261 [.agg n.cs,.int .i64 v] (.int .i64 (kl n v)):=by
 refine aB.mk fun h nx R hR=>bf.ofLe fun hG=>aP zO8 (sz:=17) (rs:=[.tmp 4]) ?_;simp[go_sem,Nd.cs];refine aB.useB uf (X7 false n.cuts 295 [.ip [.int .i64 v]] (fun c=>decide (v<c)) h1 fun x _=>zNk x v) rfl (.cons _ _ _ _ (Fz.eq (by simp[plain,vP]) rfl) (.cons _ _ _ _ (.func 295 _ _ _ _ .nil (.cons _ _ _ _ (xp (t:=3) (opn:=false) (esz:=0) (by omega) (by simp[go_sem]) (by simp[plain,bJ])) .nil)) .nil)) ?_;have E:az nx h ((h.put nx (some (bx 154 n.cs false 0))).put (nx+1) (some (bx 3 [.int .i64 v] false 0))):=((az.refl nx h).put (ae _) _).put (by omega) _;simp only[Nd.cs]at E
 by_cases hn:bj (fun c=>decide (v<c)) n.cuts<0
 ·simp[go_sem,aA,hn];refine hR _ _ _ E (Fz.eq rfl ?_);rw[kl,if_pos hn,aS _ (by omega) (by omega)]
 ·simp[go_sem,aA,hn];refine hR _ _ _ E (Fz.eq rfl ?_);rw[kl,if_neg hn]
def bq (n:Nd)(d:List Fc):Int:=if n.kids=[] then d.length else n.fact
def Ri (n:Nd)(full:Bool)(d:List Fc):aM 210 [.agg n.cs,.agg [.fz 4 full (aN d)]] (.int .i64 (bq n d)):=by
 refine aB.mk fun h nx R hR=>aP zRy (sz:=14) (rs:=[.tmp 4]) ?_;have E:∀x y,az nx h ((h.put nx x).put (nx+1) y):=fun x y=>((az.refl nx h).put (ae _) _).put (by omega) _
 by_cases hn:n.kids=[]
 ·simp[go_sem,Nd.cs,hn];refine hR _ _ _ (E _ _) (Fz.eq rfl ?_);rw[bq,if_pos hn]
 ·have hl:¬n.kids.length=0:=fun e=>hn (au e);simp[go_sem,Nd.cs,hn,hl];refine hR _ _ _ (E _ _) (Fz.eq rfl ?_);rw[bq,if_neg hn]
def aB.mkW {P:Program}{c:Cx}{f:FuncId}{args:List AV}{u:AV}(hr:∀h nx (R:AV→Tr ABlk→Nat→Prop),(∀v g ny u',az nx h g→Fz g nx v u'→Wk u' u→R v g ny)→bf P c f args h nx R):aB P c f args u:=by
 intro h nx;have:=bf.frz (R:=fun v=>Wk v u) (hr h nx _ fun v g ny u' h1 h2 h3=>⟨h1,u',h2,h3⟩);exact this.wkR fun v g ny ⟨e1,e2,e3⟩=>⟨u,e1,rfl,e2,e3⟩
def TD {α:Type}(p:α→Bool):∀l:List α,bj p l<l.length
 |[]=>by simp[bj]
 |y::l=>by
  have:=TD p l;unfold bj;simp only[List.length_cons]
  repeat' split
  all_goals omega
def Mu {n:Nd}{v:Int}(h:n.kids.length=n.cuts.length+1):∃k:Nat,kl n v=(k:Int)∧k<n.kids.length:=by
 have h1:=TD (fun c=>decide (v<c)) n.cuts;unfold kl;split
 ·exact⟨n.cuts.length,by omega,by omega⟩
 ·exact⟨(bj (fun c=>decide (v<c)) n.cuts).toNat,by omega,by omega⟩
def eR (n:Nd) (at_:Nat) (i v:Int):Int:=if ¬n.kids=[]∧n.fact=i then n.kids.getD (kl n v).toNat 0 else at_
def zyf (full:Bool)(g:List Nd) (at_:Nat) (i v:Int)(ig:at_<g.length)(hk:¬(g[at_]).kids=[]→(g[at_]).kids.length=(g[at_]).cuts.length+1)(h1:(g[at_]).cuts.length<1000000000):aM 211 [.agg [.fz 4 full (bQ g)],.int .i64 (at_:Int),.int .i64 i,.int .i64 v] (.int .i64 (eR g[at_] at_ i v)):=by
 obtain⟨n,hn⟩:∃n,g[at_]=n:=⟨_,rfl⟩;rw[hn]at hk h1 ⊢;refine aB.mk fun h nx R hR=>aP zIq (sz:=33) (rs:=[.tmp 8]) ?_;have E:∀x y z,az nx h (((h.put nx x).put (nx+1) y).put (nx+1) z):=fun x y z=>(((az.refl nx h).put (ae _) _).put (by omega) _).put (by omega) _
 by_cases c1:n.kids=[]
 ·simp[go_sem,ig,hn,Nd.cs,c1];refine hR _ _ _ (E _ _ _) (Fz.eq rfl ?_);rw[eR,if_neg (fun q=>q.1 c1)]
 ·have hl:=hk c1;have mN:0<n.kids.length:=by omega
  by_cases c2:n.fact=i
  ·obtain⟨k,k1,k2⟩:=Mu (v:=v) hl;have cn:=zP3 n v (by omega) (by omega);rw[k1]at cn;simp only[Nd.cs]at cn;simp[go_sem,ig,hn,Nd.cs,mN,c2];refine eI [] [4] [] ?_;simp[go_sem,Nd.cs];rw[c2]at cn;refine dV cn ?_;simp[go_sem,cW,k2];refine hR _ _ _ (E _ _ _) (Fz.eq rfl ?_);rw[eR,if_pos ⟨c1,c2⟩,k1];simp[k2]
  ·simp[go_sem,ig,hn,Nd.cs,mN,c2];refine hR _ _ _ (E _ _ _) (Fz.eq rfl ?_);rw[eR,if_neg (fun q=>c2 q.2)]
def zOc:cx.ft.get 144=some Tryz.f144:=aO
def Fm.op:Fm→Int |.mk o _ _ _ _=>o
def fA (o unit zero:Int):List Fm→List Fm→Fm
 |acc,[]=>match acc with
  |[]=>.mk unit .empty 0 0 []
  |[k]=>k
  |ks=>.mk o .empty 0 0 ks
 |acc,k::l=>if k.op=zero then k else if k.op=unit then fA o unit zero acc l else fA o unit zero (acc++[k]) l
mutual
def bY (nm:ByteArray) (v:Int):Fm→Fm
 |.mk o n c m kids=>if o=3 then (if n=nm then lj (js v c m) else .mk o n c m kids)
  else if o=5 then (match jD nm v kids with
   |[]=>.mk o n c m kids
   |k::_=>if k.op=1∨k.op=2 then lj (decide (k.op=2)) else .mk 5 .empty 0 0 [k])
  else if o=6 then fA o 1 2 [] (jD nm v kids)
  else if o=7 then fA o 2 1 [] (jD nm v kids)
  else .mk o n c m kids
def jD (nm:ByteArray) (v:Int):List Fm→List Fm
 |[]=>[]
 |f::l=>bY nm v f::jD nm v l
end
mutual
def notOk:Fm→Prop
 |.mk o _ _ _ kids=>(o=5→kids≠[])∧Kv kids
def Kv:List Fm→Prop
 |[]=>True
 |f::l=>notOk f∧Kv l
end
def Yn:∀{l:List Fm},Kv l→∀f∈l,notOk f
 |[],_,f,h=>by cases h
 |g::l,hl,f,h=>by
  rcases List.mem_cons.1 h with e |e
  ·subst e;exact hl.1
  ·exact Yn hl.2 f e
def zy1:∀l:List Fm,rD 5 (bU l) (l.flatMap Fm.cs)
 |[]=>rfl
 |x::l=>⟨x.cs,l.flatMap Fm.cs,by simp,rfl,by cases x;rfl,.inl rfl,zy1 l⟩
def Yb:∀l:List Fm,bJ (l.flatMap Fm.cs)=true
 |[]=>rfl
 |x::l=>by
  have h1:=Yb l;cases x with
  |mk o n c m k=>
  simp[Fm.cs,bJ,plain,Kz k,h1]
def X0 (l:List Fm):(l.flatMap Fm.cs).length=l.length * 5:=by
 induction l with
 |nil=>rfl
 |cons x l ih=>
  cases x;simp[Fm.cs,ih];omega
def QU:∀l:List Fm,dS (l.flatMap Fm.cs)=true
 |[]=>rfl
 |x::l=>by
  have h1:=QU l;cases x with
  |mk o n c m k=>
  simp[Fm.cs,dS,AV.one];exact h1
def MK {g:Tr ABlk}{nx b:Nat}{s:List Fm}{cp esz:Nat}{op opn:Bool}(hb:nx≤b)(hg:g.get b=some (bx 24 (s.flatMap Fm.cs) opn esz)):Fz g nx (.sl b 0 s.length cp op) (.fz 5 false (bU s)):=
 .slz b 0 _ cp op 24 _ _ opn esz 5 (s.flatMap Fm.cs) (s.flatMap Fm.cs) (bU s) hb hg (by simp) (fun j hj=>by rw[Nat.zero_add,fX]) (cE.same _ (Yb s)) (zy1 s) (zLj s)
@[go_sem] theorem zYc (e:TypeId) (size b:Nat)(z:Option AV) (x:Nat) (s:Nat)(y:Bool)(fs:List (Nat×Nat×Bool)) (i o l cp:Nat)(opn:Bool)(k:IntKind)(h:Tr ABlk) (nx:Nat)(hn:0<l):
  kh (.mk (.slice e) size b z ((x,s,y)::fs)) (.sl i o l cp opn) (.int k 0) h nx=.val (.ptr i o) h nx:=by
 have:=Zo e size b z x s y fs i o l cp opn k 0 h nx hn;simpa using this
@[go_sem] theorem yd9 (e:TypeId) (size b:Nat)(z:Option AV) (x:Nat) (s:Nat)(y:Bool)(fs:List (Nat×Nat×Bool))(full:Bool)(v:AV)(xs:List AV)(k:IntKind)(h:Tr ABlk) (nx:Nat):
  kh (.mk (.slice e) size b z ((x,s,y)::fs)) (.fz s full (v::xs)) (.int k 0) h nx=.val (.ip v.cells) h nx:=by
 have:=Sw e size b z x s y fs full (v::xs) k 0 h nx (by simp);simpa using this
def zKn (f:Fm)(l:List Fm):bU (f::l)=.agg f.cs::bU l:=by simp[Ek]
def aK {nx:Nat}{h g:Tr ABlk}{i:Nat}{B:Option ABlk}(hi:nx≤i):az nx h (g.put i B)↔az nx h g:=by
 constructor
 ·intro e j hj;have:=e j hj;rw[Tr.get_put,if_neg (by omega)]at this;exact this
 ·exact fun e=>e.put hi B
def BO (f:Fm):plain (.agg f.cs)=true:=by
 cases f;simp[plain,Fm.cs,bJ,Kz]
def zOl {o unit zero:Int}{acc l:List Fm}{k:Fm}(h:k.op=zero):fA o unit zero acc (k::l)=k:=by rw[fA,if_pos h]
def zH4 {o unit zero:Int}{acc l:List Fm}{k:Fm}(h1:¬k.op=zero)(h2:k.op=unit):fA o unit zero acc (k::l)=fA o unit zero acc l:=by rw[fA,if_neg h1,if_pos h2]
def zHl {o unit zero:Int}{acc l:List Fm}{k:Fm}(h1:¬k.op=zero)(h2:¬k.op=unit):fA o unit zero acc (k::l)=fA o unit zero (acc++[k]) l:=by rw[fA,if_neg h1,if_neg h2]
def Zn (n:Nat):∀(f:Fm)(nm:ByteArray) (v:Int),f.size≤n→n≤1000000→notOk f→aM 144 [.agg f.cs,.bs nm,.int .i64 v] (.agg (bY nm v f).cs):=by
 induction n with
 |zero=>intro f nm v hf;cases f;simp[Fm.size]at hf
 |succ n ih=>
 rintro⟨o,nn,cm,m,kids⟩ nm v hf hn oY
 simp only[Fm.size]at hf;obtain⟨OV,Gv⟩:=oY;refine aB.mkW fun h nx R hR=>aP zOc (sz:=101) (rs:=[.cell 6 24]) ?_;have E2:∀x y z,az nx h (((h.put nx x).put (nx+1) y).put (nx+1) z):=fun x y z=>(((az.refl nx h).put (ae _) _).put (by omega) _).put (by omega) _
 by_cases e3:o=3
 ·by_cases en:nn=nm
  ·have ck:=Ts (js v cm m);simp[go_sem,e3,en,Fm.cs];refine aB.use (zSa v cm m) ?_;simp[go_sem,aA,e3,en];refine aB.use ck ?_;generalize hk:lj (js v cm m)=kf;cases kf with
   |mk o' n' c' m' k'=>
   simp[go_sem,aA,e3,en,Fm.cs];refine hR _ _ _ _ (E2 _ _ _) (Fz.eq (BO (.mk o' n' c' m' k')) rfl) ?_;rw[bY,if_pos e3,if_pos en,hk];exact .same _
  ·simp[go_sem,e3,en,Fm.cs];refine hR _ _ _ _ (E2 _ _ _) (Fz.eq (BO (.mk 3 nn cm m kids)) rfl) ?_;rw[bY,if_pos e3,if_neg en,e3];exact .same _
 ·by_cases e5:o=5
  ·cases kids with
   |nil=>exact absurd rfl (OV e5)
   |cons k0 ks=>
   simp only[bd]at hf;have c0:=ih k0 nm v (by omega) (by omega) Gv.1;have hg:bY nm v (.mk o nn cm m (k0::ks))=if (bY nm v k0).op=1∨(bY nm v k0).op=2 then lj (decide ((bY nm v k0).op=2)) else .mk 5 .empty 0 0 [bY nm v k0]:=by
    rw[bY,if_neg e3,if_pos e5,jD]
   generalize bY nm v (.mk o nn cm m (k0::ks))=res at hR hg;generalize bY nm v k0=g0 at c0 hg;cases g0 with
   |mk o' n' c' m' k'=>
   have EV:∀b g ny,az nx h g→res=lj b→R (.agg (lj b).cs) g ny:=fun b g ny he hr=>hR _ _ _ _ he (Fz.eq (BO _) rfl) (by rw[hr];exact .same _);simp only[Fm.cs]at c0;have E5:∀x y z u t,az nx h (((((h.put nx x).put (nx+1) y).put (nx+1+1) z).put (nx+1+1) u).put (nx+1) t):=fun x y z u t=>(((((az.refl nx h).put (ae _) _).put (by omega) _).put (by omega) _).put (by omega) _).put (by omega) _;simp[go_sem,e3,e5,Fm.cs,zKn];refine aB.use c0 ?_
   by_cases o1:o'=1
   ·have mf:res=lj false:=by rw[hg,if_pos (Or.inl (by exact o1))];simp[Fm.op,o1]
    have ck:=Ts false;have mi:(lj false).cs=[.int .i64 2,.bs .empty,.int .i64 0,.int .i64 0,.fz 5 false (bU [])]:=rfl;rw[mi]at ck;simp[go_sem,aA,o1];refine aB.use ck ?_;simp[go_sem,aA,o1];exact EV _ _ _ (E5 _ _ _ _ _) mf
   ·by_cases o2:o'=2
    ·have mf:res=lj true:=by rw[hg,if_pos (Or.inr (by exact o2))];simp[Fm.op,o2]
     have ck:=Ts true;have mi:(lj true).cs=[.int .i64 1,.bs .empty,.int .i64 0,.int .i64 0,.fz 5 false (bU [])]:=rfl;rw[mi]at ck;simp[go_sem,aA,o1,o2];refine aB.use ck ?_;simp[go_sem,aA,o1];exact EV _ _ _ (E5 _ _ _ _ _) mf
    ·have mf:res=.mk 5 .empty 0 0 [.mk o' n' c' m' k']:=by rw[hg,if_neg];intro q;rcases q with q |q;exact o1 q;exact o2 q
     simp[go_sem,aA,o1,o2,aI];refine hR _ _ _ (.agg [.int .i64 5,.bs .empty,.int .i64 0,.int .i64 0,.fz 5 false (bU [.mk o' n' c' m' k'])]) ?_ ?_ (by rw[mf];exact .same _)
     ·exact((((((az.refl nx h).put (ae _) _).put (by omega) _).put (by omega) _).put (by omega) _).put (by omega) _).put (by omega) _
     refine .agg _ _ (.cons _ _ _ _ (.int _ _) (.cons _ _ _ _ (.bs _) (.cons _ _ _ _ (.int _ _) (.cons _ _ _ _ (.int _ _) (.cons _ _ _ _ (MK (s:=[.mk o' n' c' m' k']) (opn:=false) (esz:=0) (by omega) (by simp[go_sem,Fm.cs,show ¬nx+1+1=nx by omega])) .nil)))))
  ·by_cases IM:o=6∨o=7
   ·obtain⟨unit,hu⟩:∃u:Int,u=if o=7 then 2 else 1:=⟨_,rfl⟩
    obtain⟨zero,hz⟩:∃u:Int,u=if o=7 then 1 else 2:=⟨_,rfl⟩
    have aH:bY nm v (.mk o nn cm m kids)=fA o unit zero [] (jD nm v kids):=by
     rw[bY,if_neg e3,if_neg e5]
     rcases IM with e |e
     ·rw[if_pos e,hu,hz];simp[e]
     ·rw[if_neg (by omega),if_pos e,hu,hz];simp[e]
    generalize bY nm v (.mk o nn cm m kids)=res at hR aH;have lI:=sI kids
    rcases IM with eo |eo
    all_goals
     rw[eo]at hu hz;simp at hu hz;have HR:=Lib.hid aH;clear aH;simp[go_sem,eo,Fm.cs];refine bF (fun mm st=>∃tm h' ax k acc,st=.mk tm h' ax []∧mm=kids.length-k∧k≤kids.length∧tm.get 1=some (.bs nm)∧tm.get 2=some (.int .i64 v)∧tm.get 3=some (.ptr nx 0)∧tm.get 6=some (.ptr (nx+1) 0)∧tm.get 8=some (.int .i64 unit)∧tm.get 9=some (.int .i64 zero)∧tm.get 61=some (.fz 5 false (bU kids))∧tm.get 62=some (.int .i64 (kids.length:Int))∧tm.get 63=some (.int .i64 (k:Int))∧
      ((acc=[]∧tm.get 10=some .sl0)∨(acc≠[]∧∃b,nx+1<b∧b<ax∧tm.get 10=some (.sl b 0 acc.length 0 true)∧h'.get b=some (bx 24 (acc.flatMap Fm.cs) true 5)))∧
      h'.get nx=some (bx 24 [.int .i64 o,.bs nn,.int .i64 cm,.int .i64 m,.fz 5 false (bU kids)] false 0)∧h'.get (nx+1)=some (bx 24 [.int .i64 0,.bs .empty,.int .i64 0,.int .i64 0,.sl0] false 0)∧az nx h h'∧nx+2≤ax∧acc.length≤k∧
      RowKit.Hid (res=fA o unit zero acc (jD nm v (kids.drop k)))) ⟨kids.length,_,_,_,0,[],rfl,by simp,by simp,?_⟩ ?_
     ·simp[go_sem,hu,hz,eo];exact⟨((az.refl nx h).put (ae _) _).put (by omega) _,Lib.hid (by have:=HR.out;simp[hu,hz,eo]at this ⊢;exact this)⟩
     ·rintro mm st ⟨tm,h',ax,k,acc,rfl,rfl,hk,t1,t2,t3,t6,t8,t9,t61,t62,t63,fF,g0,g1,he,ei,od,hv⟩ J hJ
      refine bl ?_;have n0:¬nx=ax:=by omega
      have n1:¬nx+1=ax:=by omega
      by_cases ay:k<kids.length
      ·obtain⟨s1,_,s3⟩:=nX ay;have ck:=ih kids[k] nm v (by omega) (by omega) (Yn Gv _ (ah ay));have bg:=hv.out;rw[aj ay,jD]at bg;generalize bY nm v kids[k]=gk at ck bg;cases gk with
       |mk o' n' c' m' k'=>
       have HV:=Lib.hid bg;clear bg;simp only[Fm.cs]at ck;simp[go_sem,t1,t2,t3,t6,t8,t9,t61,t62,t63,ay];refine aB.use ck ?_
       by_cases fu:o'=zero
       ·have hr:res=.mk o' n' c' m' k':=by rw[HV.out,zOl (by exact fu)]
        simp[go_sem,aA,t1,t2,t3,t6,t8,t9,t61,t62,t63,ay,fu,g1,n0,n1];refine hR _ _ _ _ ?_ (Fz.eq (BO (.mk zero n' c' m' k')) rfl) ?_
        ·simp(disch:=omega)only[aK,he]
        ·rw[hr,fu];exact .same _
       ·by_cases nO:o'=unit
        ·have hr:res=fA o unit zero acc (jD nm v (kids.drop (k+1))):=by rw[HV.out,zH4 (by exact fu) (by exact nO)]
         have huz:¬unit=zero:=fun e=>fu (nO.trans e);have Iy:=Lib.hid hr;clear hr;simp[go_sem,aA,t1,t2,t3,t6,t8,t9,t61,t62,t63,ay,nO,huz,g1,n0,n1];refine hJ (kids.length-(k+1)) _ (by omega) ⟨_,_,_,k+1,acc,rfl,rfl,by omega,?_⟩;simp(disch:=omega) [go_sem,t1,t2,t3,t6,t8,t9,t61,t62,t63,aS,n0,n1,g0,g1];refine⟨?_,by simp(disch:=omega)only[aK];exact he,by omega,by omega,Iy⟩
         rcases fF with fF |⟨h1,b,b1,b2,b3,b4⟩
         ·exact .inl fF
         ·have nb:¬b=ax:=(by omega);exact .inr ⟨h1,b,b1,by omega,b3,by simp[nb,b4]⟩
        ·have hr:res=fA o unit zero (acc++[.mk o' n' c' m' k']) (jD nm v (kids.drop (k+1))):=by rw[HV.out,zHl (by exact fu) (by exact nO)]
         have Iy:=Lib.hid hr;clear hr;have sN:¬nx=ax+1:=(by omega);have qz:¬nx+1=ax+1:=(by omega);have IJ:¬nx=ax+1+1:=(by omega);have IK:¬nx+1=ax+1+1:=by omega
         rcases fF with⟨h1,h2⟩ |⟨h1,b,b1,b2,b3,b4⟩
         ·subst h1;simp[go_sem,aA,t1,t2,t3,t6,t8,t9,t61,t62,t63,ay,fu,nO,g1,n0,n1,h2];refine hJ (kids.length-(k+1)) _ (by omega) ⟨_,_,_,k+1,[.mk o' n' c' m' k'],rfl,rfl,by omega,?_⟩;simp(disch:=omega) [go_sem,t1,t2,t3,t6,t8,t9,t61,t62,t63,aS,n0,n1,g0,g1,sN,qz,IJ,IK,Fm.cs];refine⟨⟨ax+1+1,by omega,by omega,rfl,by simp⟩,?_,by omega,Iy⟩;simp(disch:=omega)only[aK,he]
         ·have nb:¬b=ax:=(by omega);have Bk:¬b=ax+1:=(by omega);have pY:¬nx=b:=(by omega);have Dp:¬nx+1=b:=(by omega);have fl:=X0 acc;have fo:=QU acc;have hle:acc.length+1≤16777216:=(by omega);simp[go_sem,aA,t1,t2,t3,t6,t8,t9,t61,t62,t63,ay,fu,nO,g1,n0,n1,b3,b4,nb,Bk,pY,Dp,fl,fo,hle];refine hJ (kids.length-(k+1)) _ (by omega) ⟨_,_,_,k+1,acc++[.mk o' n' c' m' k'],rfl,rfl,by omega,?_⟩;simp(disch:=omega) [go_sem,t1,t2,t3,t6,t8,t9,t61,t62,t63,aS,n0,n1,g0,g1,sN,qz,IJ,IK,pY,Dp,Fm.cs];refine⟨⟨ax+1+1,by omega,by omega,rfl,by simp⟩,?_,by omega,by omega,Iy⟩;simp(disch:=omega)only[aK,he]
      ·have hr:res=fA o unit zero acc []:=by
        have:=hv.out;rw[al (by omega)]at this;exact this
       rcases fF with⟨h1,h2⟩ |⟨h1,b,b1,b2,b3,b4⟩
       ·subst h1;have De:res=.mk unit .empty 0 0 []:=hr;simp[go_sem,t1,t2,t3,t6,t8,t9,t61,t62,t63,ay,h2,g1,aI];refine hR _ _ _ (.agg [.int .i64 unit,.bs .empty,.int .i64 0,.int .i64 0,.sl0]) (he.put (by omega) _) (Fz.eq rfl rfl) ?_;rw[De];exact .agg _ _ (.cons _ _ _ _ (.same _) (.cons _ _ _ _ (.same _) (.cons _ _ _ _ (.same _) (.cons _ _ _ _ (.same _) (.cons _ _ _ _ (.sl0 5 false) .nil)))))
       ·have pY:¬nx=b:=(by omega);have Dp:¬nx+1=b:=(by omega);have G6:¬b=nx+1:=(by omega);cases acc with
        |nil=>exact absurd rfl h1
        |cons a1 acc=>
        cases acc with
        |nil=>
         have De:res=a1:=hr;cases a1 with
         |mk o' n' c' m' k'=>
         simp[go_sem,t1,t2,t3,t6,t8,t9,t61,t62,t63,ay,b3,b4,g1,Fm.cs]at b4 ⊢;refine hR _ _ _ _ (he.put (by omega) _) (Fz.eq (BO (.mk o' n' c' m' k')) rfl) ?_;rw[De];exact .same _
        |cons a2 acc=>
         have De:res=.mk o .empty 0 0 (a1::a2::acc):=hr;have jI:¬a1::a2::acc=[]:=(by simp);have iO:¬(a1::a2::acc).length=1:=(by simp);have U7:¬((a1::a2::acc).length:Int)=1:=by simp;omega
         generalize a1::a2::acc=L at b3 b4 De jI iO U7;simp[go_sem,t1,t2,t3,t6,t8,t9,t61,t62,t63,ay,b3,g0,g1,jI,iO,U7,aI];refine hR _ _ _ (.agg [.int .i64 o,.bs .empty,.int .i64 0,.int .i64 0,.fz 5 false (bU L)]) (he.put (by omega) _) ?_ (by rw[De];exact .same _);refine .agg _ _ (.cons _ _ _ _ (.int _ _) (.cons _ _ _ _ (.bs _) (.cons _ _ _ _ (.int _ _) (.cons _ _ _ _ (.int _ _) (.cons _ _ _ _ (MK (s:=L) (opn:=true) (esz:=5) (by omega) ?_) .nil)))));simp[go_sem,G6,b4]
   ·have e6:¬o=6:=fun e=>IM (.inl e);have e7:¬o=7:=fun e=>IM (.inr e);simp[go_sem,e3,e5,e6,e7,Fm.cs];refine hR _ _ _ _ (E2 _ _ _) (Fz.eq (BO (.mk o nn cm m kids)) rfl) ?_;rw[bY,if_neg e3,if_neg e5,if_neg e6,if_neg e7];exact .same _
def bf.mkW {P:Program}{c:Cx}{f:FuncId}{args:List AV}{u:AV}{h:Tr ABlk}{nx:Nat}(hr:∀(R:AV→Tr ABlk→Nat→Prop),(∀v g ny u',az nx h g→Fz g nx v u'→Wk u' u→R v g ny)→bf P c f args h nx R):bf P c f args h nx (fun v g ny=>v=u∧g=h∧ny=nx):=by
 have:=bf.frz (R:=fun v=>Wk v u) (hr _ fun v g ny u' h1 h2 h3=>⟨h1,u',h2,h3⟩);exact this.wkR fun v g ny ⟨e1,e2,e3⟩=>⟨u,e1,rfl,e2,e3⟩
def bf.useE {P:Program}{c:Cx}{f:FuncId}{args:List AV}{u:AV}{h:Tr ABlk}{nx:Nat}{R:AV→Tr ABlk→Nat→Prop}(hc:bf P c f args h nx (fun v g ny=>v=u∧g=h∧ny=nx))(hR:R u h nx):bf P c f args h nx R:=
 hc.mono fun v g ny ⟨e1,e2,e3⟩=>by subst e1;subst e2;subst e3;exact hR
def zNa:cx.ft.get 147=some Tryz.f147:=aO
def zH0:cx.ft.get 94=some Tryz.f94:=aO
mutual
def bL:Fm→Fm
 |.mk o n c m kids=>if o=4 then .mk 3 n 1 1 [] else .mk o n c m (uC kids)
def uC:List Fm→List Fm
 |[]=>[]
 |f::l=>bL f::uC l
end
def zEr:∀l:List Fm,uC l=l.map bL
 |[]=>rfl
 |f::l=>by rw[uC,zEr l];rfl
def zRl (n:Nat):∀(f:Fm)(h:Tr ABlk) (nx a:Nat),f.size≤n→n≤1000000→a<nx→h.get a=some (bx 70 [.func 147 [] [.ptr a 0]] false 0)→di 147 [.agg f.cs,.ptr a 0] h nx (fun v g ny=>v=.agg (bL f).cs∧g=h∧ny=nx):=by
 induction n with
 |zero=>intro f h nx a hf;cases f;simp[Fm.size]at hf
 |succ n ih=>
 rintro⟨o,nn,cm,m,kids⟩ h nx a hf hn ha ga
 simp only[Fm.size]at hf;refine bf.mkW fun R hR=>aP zNa (sz:=32) (rs:=[.cell 3 24]) ?_;have E2:∀x y z,az nx h (((h.put nx x).put (nx+1) y).put (nx+1) z):=fun x y z=>(((az.refl nx h).put (ae _) _).put (by omega) _).put (by omega) _;have na:¬a=nx:=by omega
 have na1:¬a=nx+1:=by omega
 by_cases e4:o=4
 ·simp[go_sem,e4,Fm.cs,aI];refine hR _ _ _ (.agg [.int .i64 3,.bs nn,.int .i64 1,.int .i64 1,.sl0]) (E2 _ _ _) (Fz.eq rfl rfl) ?_;rw[bL,if_pos e4];exact .agg _ _ (.cons _ _ _ _ (.same _) (.cons _ _ _ _ (.same _) (.cons _ _ _ _ (.same _) (.cons _ _ _ _ (.same _) (.cons _ _ _ _ (.sl0 5 false) .nil)))))
 ·have aH:bL (.mk o nn cm m kids)=.mk o nn cm m (kids.map bL):=by rw[bL,if_neg e4,zEr]
  rw[aH]at hR;have lI:=sI kids;simp[go_sem,e4,Fm.cs,aI];refine bF (fun mm st=>∃tm h' ax k kc,st=.mk tm h' ax []∧mm=kids.length-k∧k≤kids.length∧tm.get 1=some (.ptr a 0)∧tm.get 2=some (.ptr nx 0)∧tm.get 3=some (.ptr (nx+1) 0)∧tm.get 16=some (.fz 5 false (bU kids))∧tm.get 17=some (.int .i64 (kids.length:Int))∧tm.get 18=some (.int .i64 (k:Int))∧
   ((k=0∧kc=.sl0)∨(0<k∧∃b,nx+1<b∧b<ax∧kc=.sl b 0 k 0 true∧h'.get b=some (bx 24 (((kids.map bL).take k).flatMap Fm.cs) true 5)))∧
   h'.get nx=some (bx 24 [.int .i64 o,.bs nn,.int .i64 cm,.int .i64 m,kc] false 0)∧h'.get (nx+1)=some (bx 24 [.int .i64 0,.bs .empty,.int .i64 0,.int .i64 0,.sl0] false 0)∧az nx h h'∧nx+2≤ax) ⟨kids.length,_,_,_,0,.sl0,rfl,by simp,by simp,?_⟩ ?_
  ·simp[go_sem];simp(disch:=omega)only[aK];exact az.refl nx h
  ·rintro mm st ⟨tm,h',ax,k,kc,rfl,rfl,hk,t1,t2,t3,t16,t17,t18,mi,g0,g1,he,ei⟩ J hJ
   refine bl ?_;have n0:¬nx=ax:=by omega
   have n1:¬nx+1=ax:=(by omega);have n2:¬a=ax:=(by omega);have ML:h'.get a=some (bx 70 [.func 147 [] [.ptr a 0]] false 0):=by rw[he a ha];exact ga
   by_cases ay:k<kids.length
   ·obtain⟨s1,_,s3⟩:=nX ay;simp[go_sem,t16,t17,t18,ay];refine eI [6,8] [4] [] ?_;simp[go_sem,t1,t2,n0,n2,g0,ML];have ck:=ih kids[k] ((h'.put ax (some (bx 24 [.int .i64 0,.bs .empty,.int .i64 0,.int .i64 0,.sl0] false 0))).put ax (some (bx 24 kids[k].cs false 0))) (ax+1) a (by omega) (by omega) (by omega) (by simp[go_sem,n2,ML]);refine zKp (by kernel_rfl) ck ?_;have e1:¬nx=ax+1:=by omega
    have e2:¬nx+1=ax+1:=(by omega);have e3:¬ax+1=nx:=(by omega);have dR:((kids.map bL).take (k+1)).flatMap Fm.cs=((kids.map bL).take k).flatMap Fm.cs++(bL kids[k]).cs:=by
     rw[List.take_succ_eq_append_getElem (show k<(kids.map bL).length by simpa using ay)];simp[-List.take_append_getElem]
    have HT:=Lib.hid dR;clear dR
    rcases mi with⟨k0,Bh⟩ |⟨k0,b,b1,b2,Bh,b4⟩
    ·subst k0;subst Bh;simp[go_sem,cW,t2,t18,n0,g0,e1,aI];refine hJ (kids.length-(0+1)) _ (by omega) ⟨_,_,_,0+1,.sl (ax+1) 0 1 0 true,rfl,rfl,by omega,?_⟩;simp(disch:=omega) [go_sem,t1,t2,t3,t16,t17,aS,n0,n1,g1];refine⟨⟨ax+1,by omega,by omega,rfl,?_⟩,?_,by omega⟩
     ·have hh:=HT.out;simp at hh;simp[hh,e3]
     ·simp(disch:=omega)only[aK,he]
    ·have nb:¬b=ax:=(by omega);have Bk:¬nx=b:=(by omega);have pY:¬nx+1=b:=(by omega);have C9:((kids.map bL).take k).length=k:=by simp;omega
     have fl:=X0 ((kids.map bL).take k);rw[C9]at fl;have fo:=QU ((kids.map bL).take k);have uH:dS (bL kids[k]).cs=true:=by cases bL kids[k];rfl
     have fl2:(bL kids[k]).cs.length=5:=by cases bL kids[k];rfl
     have hle:k+1≤16777216:=(by omega);subst Bh;simp[go_sem,cW,t2,t18,n0,g0,b4,nb,Bk,fl,uH,fl2,hle,e1,aI];refine hJ (kids.length-(k+1)) _ (by omega) ⟨_,_,_,k+1,.sl (ax+1) 0 (k+1) 0 true,rfl,rfl,by omega,?_⟩;simp(disch:=omega) [go_sem,t1,t2,t3,t16,t17,aS,n0,n1,g1,pY];refine⟨⟨ax+1,by omega,by omega,rfl,by simp[e3,HT.out]⟩,?_,by omega⟩;simp(disch:=omega)only[aK,he]
   ·have fV:k=kids.length:=by omega
    rcases mi with⟨k0,Bh⟩ |⟨k0,b,b1,b2,Bh,b4⟩
    ·have uk:kids=[]:=au (by omega);subst Bh;simp[go_sem,t2,t3,t17,t18,ay,g0,g1];refine hR _ _ _ (.agg [.int .i64 o,.bs nn,.int .i64 cm,.int .i64 m,.sl0]) (he.put (by omega) _) (Fz.eq rfl rfl) ?_;rw[uk];exact .agg _ _ (.cons _ _ _ _ (.same _) (.cons _ _ _ _ (.same _) (.cons _ _ _ _ (.same _) (.cons _ _ _ _ (.same _) (.cons _ _ _ _ (.sl0 5 false) .nil)))))
    ·have G6:¬b=nx+1:=(by omega);have bS:(kids.map bL).take k=kids.map bL:=ar (by simp;omega);rw[bS]at b4;have eO:k=(kids.map bL).length:=by simp;omega
     subst Bh;simp[go_sem,t2,t3,t17,t18,ay,g0,g1];refine hR _ _ _ (.agg [.int .i64 o,.bs nn,.int .i64 cm,.int .i64 m,.fz 5 false (bU (kids.map bL))]) (he.put (by omega) _) ?_ (.same _);rw[eO];refine .agg _ _ (.cons _ _ _ _ (.int _ _) (.cons _ _ _ _ (.bs _) (.cons _ _ _ _ (.int _ _) (.cons _ _ _ _ (.int _ _) (.cons _ _ _ _ (MK (s:=kids.map bL) (opn:=true) (esz:=5) (by omega) ?_) .nil)))));simp[go_sem,G6,b4]
def zFh (f:Fm)(hf:f.size≤1000000):aM 94 [.agg f.cs] (.agg (bL f).cs):=by
 refine aB.mk fun h nx R hR=>aP zH0 (sz:=8) (rs:=[.cell 2 24]) ?_;have q1:¬nx=nx+1+1:=by omega
 have q2:¬nx+1=nx+1+1:=by omega
 simp[go_sem,q1];refine bf.useE (zRl f.size f _ _ (nx+1+1) (ae _) hf ?_ ?_) ?_
 ·omega
 ·simp[go_sem]
 generalize bL f=g at hR;cases g with
 |mk o' n' c' m' k'=>
 simp[go_sem,aA,Fm.cs];refine hR _ _ _ ?_ (Fz.eq (BO (.mk o' n' c' m' k')) rfl);simp(disch:=omega)only[aK];exact az.refl nx h
def zSv:cx.ft.get 137=some Tryz.f137:=aO
mutual
def jz:List ByteArray→Fm→List ByteArray
 |U,.mk o n _ _ kids=>jh (if o=3 then jk U n else U) kids
def jh:List ByteArray→List Fm→List ByteArray
 |U,[]=>U
 |U,f::l=>jh (jz U f) l
end
def jm (U:List ByteArray):ABlk:=.map (gV U 0) U.length
def jQ (i nx:Nat)(h g:Tr ABlk):Prop:=∀k,k<nx→k≠i→g.get k=h.get k
def jQ.put {i nx:Nat}{h g:Tr ABlk}(e:jQ i nx h g){j:Nat}(hj:nx≤j∨j=i)(B:Option ABlk):jQ i nx h (g.put j B):=fun k hk aT=>by
 rw[Tr.get_put,if_neg (by omega)];exact e k hk aT
def jQ.trans {i nx ny:Nat}{h g f:Tr ABlk}(p:jQ i nx h g)(hl:nx≤ny)(q:jQ i ny g f):jQ i nx h f:=fun k hk aT=>by rw[q k (by omega) aT,p k hk aT]
def zR0 {U:List ByteArray}{x:ByteArray}(h:x∈U):jk U x=U:=by unfold jk;rw[if_pos h]
def zHd {U:List ByteArray}{x:ByteArray}(h:¬x∈U):jk U x=U++[x]:=by unfold jk;rw[if_neg h]
def zMj (n:Nat):∀(f:Fm)(U:List ByteArray)(h:Tr ABlk) (nx i:Nat)(R:AV→Tr ABlk→Nat→Prop),f.size≤n→n≤1000000→i<nx→h.get i=some (jm U)→(∀g ny,jQ i nx h g→g.get i=some (jm (jz U f))→nx≤ny→R (.map i) g ny)→di 137 [.agg f.cs,.map i] h nx R:=by
 induction n with
 |zero=>intro f U h nx i R hf;cases f;simp[Fm.size]at hf
 |succ n ih=>
 rintro⟨o,nn,cm,m,kids⟩ U h nx i R hf hn hi gi hR
 simp only[Fm.size]at hf;simp only[jz]at hR;refine aP zSv (sz:=25) (rs:=[.tmp 4]) ?_;have lH:¬i=nx:=by omega
 have ct:¬nx=i:=by omega
 have lI:=sI kids;obtain⟨V0,lu⟩:∃V0,V0=if o=3 then jk U nn else U:=⟨_,rfl⟩
 rw[← lu]at hR;have lC:(¬o=3∧V0=U)∨(o=3∧nn∈U∧V0=U)∨(o=3∧¬nn∈U∧V0=U++[nn]):=by
  by_cases e3:o=3
  ·rw[if_pos e3]at lu
   by_cases hu:nn∈U
   ·exact .inr (.inl ⟨e3,hu,by rw[lu,zR0 hu]⟩)
   ·exact .inr (.inr ⟨e3,hu,by rw[lu,zHd hu]⟩)
  ·rw[if_neg e3]at lu;exact .inl ⟨e3,lu⟩
 clear lu;have Ue:h.get i=some (.map (gV U 0) U.length):=gi
 rcases lC with⟨e3,hV⟩ |⟨e3,hu,hV⟩ |⟨e3,hu,hV⟩
 ·simp[go_sem,e3,Fm.cs];have hm:(h.put nx (some (bx 24 [.int .i64 o,.bs nn,.int .i64 cm,.int .i64 m,.fz 5 false (bU kids)] false 0))).get i=some (jm V0):=by simp[go_sem,lH,gi,hV]
  have yv:jQ i nx h (h.put nx (some (bx 24 [.int .i64 o,.bs nn,.int .i64 cm,.int .i64 m,.fz 5 false (bU kids)] false 0))):=jQ.put (fun _ _ _=>rfl) (.inl (ae _)) _;generalize h.put nx (some (bx 24 [.int .i64 o,.bs nn,.int .i64 cm,.int .i64 m,.fz 5 false (bU kids)] false 0))=h0 at hm yv;refine bF (fun mm st=>∃tm h' ax k V,st=.mk tm h' ax []∧mm=kids.length-k∧k≤kids.length∧tm.get 1=some (.map i)∧tm.get 14=some (.fz 5 false (bU kids))∧tm.get 15=some (.int .i64 (kids.length:Int))∧tm.get 16=some (.int .i64 (k:Int))∧jQ i nx h h'∧h'.get i=some (jm V)∧nx≤ax∧RowKit.Hid (jh V0 kids=jh V (kids.drop k))) ⟨kids.length,_,_,_,0,V0,rfl,by simp,by simp,?_⟩ ?_
  ·simp[go_sem,hm,yv];exact Lib.hid trivial
  ·rintro mm st ⟨tm,h',ax,k,V,rfl,rfl,hk,t1,t14,t15,t16,hb,yh,ei,hv⟩ J hJ
   refine bl ?_;have n1:¬i=ax:=by omega
   by_cases ay:k<kids.length
   ·obtain⟨s1,_,s3⟩:=nX ay;have HD:=Lib.hid (show jh V (kids.drop k)=jh (jz V kids[k]) (kids.drop (k+1)) by rw[aj ay,jh]);simp[go_sem,t1,t14,t15,t16,ay];refine ih kids[k] V _ _ i _ ?_ ?_ ?_ ?_ fun g ny b1 b2 b3=>?_
    ·omega
    ·omega
    ·omega
    ·simp[go_sem,n1,yh]
    simp[go_sem,aA,t16];refine hJ (kids.length-(k+1)) _ (by omega) ⟨_,_,_,k+1,jz V kids[k],rfl,rfl,by omega,?_⟩;simp(disch:=omega) [go_sem,t1,t14,t15,aS];exact⟨(jQ.put (jQ.put hb (.inl ei) _) (.inl ei) _).trans (by omega) b1,b2,by omega,Lib.hid (by rw[hv.out,HD.out])⟩
   ·simp[go_sem,t1,t15,t16,ay];refine hR _ _ hb ?_ ei;rw[yh,hv.out,al (by omega),jh]
 ·obtain⟨j,h1,h2⟩:=Kd 0 hu;rw[Nat.zero_add]at h2;have h3:=Tm h1;simp[go_sem,e3,Fm.cs,lH,ct,Ue,h2];generalize cY:Tr.put _ i _=h0;have hm:h0.get i=some (jm V0):=by
   rw[← cY,hV];simp[go_sem,jm];exact h3
  have yv:jQ i nx h h0:=by
   rw[← cY];exact(jQ.put (fun _ _ _=>rfl) (.inl (ae _)) _).put (.inr rfl) _
  refine bF (fun mm st=>∃tm h' ax k V,st=.mk tm h' ax []∧mm=kids.length-k∧k≤kids.length∧tm.get 1=some (.map i)∧tm.get 14=some (.fz 5 false (bU kids))∧tm.get 15=some (.int .i64 (kids.length:Int))∧tm.get 16=some (.int .i64 (k:Int))∧jQ i nx h h'∧h'.get i=some (jm V)∧nx≤ax∧RowKit.Hid (jh V0 kids=jh V (kids.drop k))) ⟨kids.length,_,_,_,0,V0,rfl,by simp,by simp,?_⟩ ?_
  ·simp[go_sem,hm,yv];exact Lib.hid trivial
  ·rintro mm st ⟨tm,h',ax,k,V,rfl,rfl,hk,t1,t14,t15,t16,hb,yh,ei,hv⟩ J hJ
   refine bl ?_;have n1:¬i=ax:=by omega
   by_cases ay:k<kids.length
   ·obtain⟨s1,_,s3⟩:=nX ay;have HD:=Lib.hid (show jh V (kids.drop k)=jh (jz V kids[k]) (kids.drop (k+1)) by rw[aj ay,jh]);simp[go_sem,t1,t14,t15,t16,ay];refine ih kids[k] V _ _ i _ ?_ ?_ ?_ ?_ fun g ny b1 b2 b3=>?_
    ·omega
    ·omega
    ·omega
    ·simp[go_sem,n1,yh]
    simp[go_sem,aA,t16];refine hJ (kids.length-(k+1)) _ (by omega) ⟨_,_,_,k+1,jz V kids[k],rfl,rfl,by omega,?_⟩;simp(disch:=omega) [go_sem,t1,t14,t15,aS];exact⟨(jQ.put (jQ.put hb (.inl ei) _) (.inl ei) _).trans (by omega) b1,b2,by omega,Lib.hid (by rw[hv.out,HD.out])⟩
   ·simp[go_sem,t1,t15,t16,ay];refine hR _ _ hb ?_ ei;rw[yh,hv.out,al (by omega),jh]
 ·simp[go_sem,e3,Fm.cs,lH,ct,Ue,hu];generalize cY:Tr.put _ i _=h0;have hm:h0.get i=some (jm V0):=by
   rw[← cY,hV,jm,← Ip];simp[go_sem]
  have yv:jQ i nx h h0:=by
   rw[← cY];exact(jQ.put (fun _ _ _=>rfl) (.inl (ae _)) _).put (.inr rfl) _
  refine bF (fun mm st=>∃tm h' ax k V,st=.mk tm h' ax []∧mm=kids.length-k∧k≤kids.length∧tm.get 1=some (.map i)∧tm.get 14=some (.fz 5 false (bU kids))∧tm.get 15=some (.int .i64 (kids.length:Int))∧tm.get 16=some (.int .i64 (k:Int))∧jQ i nx h h'∧h'.get i=some (jm V)∧nx≤ax∧RowKit.Hid (jh V0 kids=jh V (kids.drop k))) ⟨kids.length,_,_,_,0,V0,rfl,by simp,by simp,?_⟩ ?_
  ·simp[go_sem,hm,yv];exact Lib.hid trivial
  ·rintro mm st ⟨tm,h',ax,k,V,rfl,rfl,hk,t1,t14,t15,t16,hb,yh,ei,hv⟩ J hJ
   refine bl ?_;have n1:¬i=ax:=by omega
   by_cases ay:k<kids.length
   ·obtain⟨s1,_,s3⟩:=nX ay;have HD:=Lib.hid (show jh V (kids.drop k)=jh (jz V kids[k]) (kids.drop (k+1)) by rw[aj ay,jh]);simp[go_sem,t1,t14,t15,t16,ay];refine ih kids[k] V _ _ i _ ?_ ?_ ?_ ?_ fun g ny b1 b2 b3=>?_
    ·omega
    ·omega
    ·omega
    ·simp[go_sem,n1,yh]
    simp[go_sem,aA,t16];refine hJ (kids.length-(k+1)) _ (by omega) ⟨_,_,_,k+1,jz V kids[k],rfl,rfl,by omega,?_⟩;simp(disch:=omega) [go_sem,t1,t14,t15,aS];exact⟨(jQ.put (jQ.put hb (.inl ei) _) (.inl ei) _).trans (by omega) b1,b2,by omega,Lib.hid (by rw[hv.out,HD.out])⟩
   ·simp[go_sem,t1,t15,t16,ay];refine hR _ _ hb ?_ ei;rw[yh,hv.out,al (by omega),jh]
def Ky (B:Option ABlk) (m:Nat)(news:List AV) (e size:Nat)(h:Tr ABlk) (nx:Nat):R:=match B with
 |some (.cells _ _ _ _ _)=>match Nat.ble m 16777216 with
  |false=>.fail
  |true=>.val (.sl nx 0 m 0 true) (h.put nx (some (bx e news true size))) (nx+1)
 |_=>.fail
@[go_sem] theorem ybv (m:Nat)(news:List AV) (e size i:Nat)(h:Tr ABlk) (nx:Nat):lS true (m+1) news e size (.sl i 0 0 0 false) h nx=Ky (h.get i) (m+1) news e size h nx:=by
 unfold lS Ky;simp only;cases h.get i with
 |none=>rfl
 |some B=>
  cases B <;> try rfl
  simp only[Nat.add_eq,Nat.zero_add];cases Nat.ble (m+1) 16777216 with
  |false=>rfl
  |true=>
   simp only[Nat.mul_eq,Nat.zero_mul];have h1 (n:Nat):Nat.ble 0 n=true:=Nat.ble_eq_true_of_le (Nat.zero_le n);have h2:Nat.beq (m+1) 0=false:=rfl;simp[h1,h2]
@[go_sem] theorem zZr (t:TypeId)(l:List AV)(opn:Bool) (esz m:Nat)(news:List AV) (e size:Nat)(h:Tr ABlk) (nx:Nat)(hm:m≤16777216):Ky (some (bx t l opn esz)) m news e size h nx=.val (.sl nx 0 m 0 true) (h.put nx (some (bx e news true size))) (nx+1):=by
 have:Nat.ble m 16777216=true:=Nat.ble_eq_true_of_le hm;simp[Ky,bx,this]
def zzt:cx.ft.get 40=some Tryz.f40:=aO
def zNz (full:Bool)(v:AV)(vs:List AV)(h1:dS ((v::vs).flatMap AV.cells)=true)(hl:vs.length+1≤16777216)(h:Tr ABlk) (nx:Nat)(R:AV→Tr ABlk→Nat→Prop)(hR:∀g q ny,az nx h g→nx≤q→q<ny→g.get q=some (bx 65 ((v::vs).flatMap AV.cells) true 4)→R (.sl q 0 (vs.length+1) 0 true) g ny):di 40 [.fz 4 full (v::vs)] h nx R:=by
 refine aP zzt (sz:=8) (rs:=[.tmp 2]) ?_;generalize h0:(v::vs).flatMap AV.cells=fl at h1 hR;simp[go_sem,-List.flatMap_cons,h0,h1,hl];refine hR _ _ _ ?_ ?_ ?_ ?_
 ·simp(disch:=omega)only[aK];exact az.refl nx h
 ·omega
 ·omega
 ·simp[go_sem]
def zy5:cx.ft.get 41=some Tryz.f41:=aO
def zLy (full:Bool)(v:AV)(vs:List AV)(h1:dS ((v::vs).flatMap AV.cells)=true)(hl:vs.length+1≤16777216)(h:Tr ABlk) (nx:Nat)(R:AV→Tr ABlk→Nat→Prop)(hR:∀g q ny,az nx h g→nx≤q→q<ny→g.get q=some (bx 9 ((v::vs).flatMap AV.cells) true 1)→R (.sl q 0 (vs.length+1) 0 true) g ny):di 41 [.fz 1 full (v::vs)] h nx R:=by
 refine aP zy5 (sz:=8) (rs:=[.tmp 2]) ?_;generalize h0:(v::vs).flatMap AV.cells=fl at h1 hR;simp[go_sem,-List.flatMap_cons,h0,h1,hl];refine hR _ _ _ ?_ ?_ ?_ ?_
 ·simp(disch:=omega)only[aK];exact az.refl nx h
 ·omega
 ·omega
 ·simp[go_sem]
def zG3:aM 41 [.sl0] .sl0:=by
 refine aB.mk fun h nx R hR=>aP zy5 (sz:=8) (rs:=[.tmp 2]) ?_;simp[go_sem];exact hR _ _ _ (az.refl nx h) .sl0
def XM:cx.ft.get 207=some Tryz.f207:=aO
def zJ9 (full:Bool)(v:AV)(vs:List AV)(h1:dS ((v::vs).flatMap AV.cells)=true)(hl:vs.length+1≤16777216)(h:Tr ABlk) (nx:Nat)(R:AV→Tr ABlk→Nat→Prop)(hR:∀g q ny,az nx h g→nx≤q→q<ny→g.get q=some (bx 3 ((v::vs).flatMap AV.cells) true 1)→R (.sl q 0 (vs.length+1) 0 true) g ny):di 207 [.fz 1 full (v::vs)] h nx R:=by
 refine aP XM (sz:=8) (rs:=[.tmp 2]) ?_;generalize h0:(v::vs).flatMap AV.cells=fl at h1 hR;simp[go_sem,-List.flatMap_cons,h0,h1,hl];refine hR _ _ _ ?_ ?_ ?_ ?_
 ·simp(disch:=omega)only[aK];exact az.refl nx h
 ·omega
 ·omega
 ·simp[go_sem]
def zO6:cx.ft.get 212=some Tryz.f212:=aO
def zMy (full:Bool)(v:AV)(vs:List AV)(h1:dS ((v::vs).flatMap AV.cells)=true)(hl:vs.length+1≤16777216)(h:Tr ABlk) (nx:Nat)(R:AV→Tr ABlk→Nat→Prop)(hR:∀g q ny,az nx h g→nx≤q→q<ny→g.get q=some (bx 154 ((v::vs).flatMap AV.cells) true 4)→R (.sl q 0 (vs.length+1) 0 true) g ny):di 212 [.fz 4 full (v::vs)] h nx R:=by
 refine aP zO6 (sz:=8) (rs:=[.tmp 2]) ?_;generalize h0:(v::vs).flatMap AV.cells=fl at h1 hR;simp[go_sem,-List.flatMap_cons,h0,h1,hl];refine hR _ _ _ ?_ ?_ ?_ ?_
 ·simp(disch:=omega)only[aK];exact az.refl nx h
 ·omega
 ·omega
 ·simp[go_sem]
def zz8:cx.ft.get 213=some Tryz.f213:=aO
def LP:∀l:List Int,rD 1 (aG l) (aG l)
 |[]=>rfl
 |x::l=>⟨[.int .i64 x],aG l,rfl,rfl,rfl,.inr rfl,LP l⟩
def T7 {g:Tr ABlk}{nx b:Nat}{s:List Int}{cp esz:Nat}{op opn:Bool}(hb:nx≤b)(hg:g.get b=some (bx 3 (aG s) opn esz)):Fz g nx (.sl b 0 s.length cp op) (.fz 1 false (aG s)):=
 .slz b 0 _ cp op 3 _ _ opn esz 1 (aG s) (aG s) (aG s) hb hg (by simp) (fun j hj=>by rw[Nat.zero_add,fX]) (cE.same _ (vP s)) (LP s) (Kk s)
def vU:∀l:List Int,dS (aG l)=true
 |[]=>rfl
 |x::l=>by
  have:=vU l;rw[show aG (x::l)=.int .i64 x::aG l from rfl];simp[dS,AV.one];exact this
def zLv (l:List Int) (x:Int):aG (l++[x])=aG l++[.int .i64 x]:=by simp[aG]
def gN (l:List Fc):List Int:=if dH l then l.map Fc.lo else []
def Hn (lo nx:Nat)(h:Tr ABlk)(v:Option AV)(acc:List Int):Prop:=(acc=[]∧v=some .sl0)∨(acc≠[]∧∃b,lo≤b∧b<nx∧v=some (.sl b 0 acc.length 0 true)∧h.get b=some (bx 3 (aG acc) true 1))
end
section
open Go.Sort
variable {P : Program} {c : Cx} {σ τ υ : Sg} {h g f : Tr ABlk} {nx ny nz sz : Nat} {w x y : World}
def Hw (hc:CxOk P c){fid:FuncId}{fn:Func}(bO:c.ft.get fid=some fn){A:Array Value}{Q:Value→World→Prop}(hC:Calls P fid A w fun e x=>match e with |.returned v=>Q v x |_=>False):CR P fid A w Q:=by
 obtain⟨hf,bu⟩:=hc.ft fid fn bO;unfold CR;rw[bu];exact hC
def zxi (hc:CxOk P c){fid:FuncId}{fn:Func}(bO:c.ft.get fid=some fn){args:List AV}{R:AV→Tr ABlk→Nat→Prop}
  (hC:∀(σ:Sg) (w:World) (A:List Value),Ok c.G σ h nx w→aC σ args A→Calls P fid A.toArray w fun e x=>∃V u k os,e=.returned V∧av σ u V∧R u h nx∧x=grow (Go.Sort.ahead w k) os):bf P c fid args h nx R:=by
 intro σ w A hk hA;refine Hw hc bO ((hC σ w A hk hA).mono fun e x q=>?_);obtain⟨V,u,k,os,rfl,h1,h2,rfl⟩:=q;refine⟨σ,u,h,nx,h1,?_,h2⟩;refine Post.same hk rfl rfl rfl ?_ fun b hb=>?_
 ·simp[grow,Go.Sort.ahead]
 ·rw[heap_grow_old _ _ (by simpa[Go.Sort.ahead]using hb)];rfl
def R4 (hc:CxOk P c){fid:FuncId}{fn:Func}(bO:c.ft.get fid=some fn){α:Type} [Inhabited α] (enc:α→AV)(ia:α→Value)(hE:∀σ x V,av σ (enc x) V↔V=ia x)
  {i o n cp esz:Nat} {t:TypeId} {opn bD:Bool} {rest:List AV} {l:List α} {R:AV→Tr ABlk→Nat→Prop} (hg:h.get i=some (bx t (l.map enc) bD esz)) (hl:o+n≤l.length)
  (RR:List α→AV→Prop)
  (hC:∀(σ:Sg) (w:World) (RA:List Value) (b cap:Nat),Ok c.G σ h nx w→aC σ rest RA→Holds ia w b o ((l.drop o).take n).toArray→b<w.heap.size→σ.blk i=some b→cap=(if opn then σ.cap i-cp else cp)→n≤cap→Calls P fid (.slice (some ⟨b,o,none⟩) n cap::RA).toArray w fun e x=>∃V u k os d,e=.returned V∧av σ u V∧d.length=n∧RR d u∧x=grow (putRow ia (Go.Sort.ahead w k) b o d.toArray) os)
  (hR:∀d u,d.length=n→RR d u→R u (h.put i (some (bx t ((l.take o++(d++l.drop (o+n))).map enc) bD esz))) nx):bf P c fid (.sl i o n cp opn::rest) h nx R:=by
 intro σ w A hk hA;simp only[aC,av]at hA;obtain⟨V0,RA,rfl,⟨b,hb,rfl,fh⟩,qK⟩:=hA;obtain⟨b',o',aV,ho,hr⟩:=hk.blk i _ hg;rw[hb]at aV;cases aV;simp only[bx,cq]at hr;obtain⟨C,fr,rfl,h1,h2,h3⟩:=hr;have aJ:∀(k:Nat) (x:α),l[k]?=some x→C[k]?=some (ia x):=by
  intro k x hx;have dK:k<l.length:=by
   rcases Nat.lt_or_ge k l.length with q |q
   ·exact q
   ·rw[List.getElem?_eq_none q]at hx;cases hx
  obtain⟨v,V,e1,e2,e3⟩:=h1 k (by simpa using dK);rw[fX,List.getElem?_map,hx]at e1;cases e1;rw[e2,(hE σ x V).1 e3]
 have hCs:l.length≤C.size:=by
  rcases Nat.eq_zero_or_pos l.length with q |q
  ·omega
  ·have hx:l[l.length-1]?=some l[l.length-1]:=aa (by omega);have:=aJ _ _ hx;have:l.length-1<C.size:=by
    rcases Nat.lt_or_ge (l.length-1) C.size with q2 |q2
    ·exact q2
    ·rw[Array.getElem?_eq_none q2]at this;cases this
   omega
 have hH:Holds ia w b o ((l.drop o).take n).toArray:=by
  intro j hj;have yD:j<n:=by simp at hj;omega
  have ay:o+j<l.length:=by omega
  have pN:=h2 (o+j) (by omega);have e0:((l.drop o).take n).toArray[j]! = l[o+j]:=by
   rw[getElem!_pos _ j hj];simp
  refine⟨?_,?_⟩
  ·rw[e0];simp only[World.cell?,ho];have:=aJ (o+j) _ (aa ay);simpa using this
  ·simp only[World.frozen?,ho];simp;omega
 refine Hw hc bO ((hC σ w RA b _ hk qK hH (hk.blt hg hb) hb rfl fh).mono fun e x q=>?_);obtain⟨V,u,k,os,d,rfl,q1,q2,q3,rfl⟩:=q;refine⟨σ,u,_,nx,q1,?_,hR d u q2 q3⟩;have pU:(putCells ia o d.toArray C).size=C.size:=by simp[putCells]
 have hpc:∀k,(putCells ia o d.toArray C)[k]?=if o≤k∧k<o+n∧k<C.size then some (ia (d.toArray[k-o]!)) else C[k]?:=by
  intro k;simp only[putCells];rw[Array.getElem?_mapIdx]
  by_cases mi:k<C.size
  ·rw[Array.getElem?_eq_getElem mi]
   by_cases lB:o≤k∧k<o+n
   ·rw[if_pos ⟨lB.1,lB.2,mi⟩];simp[q2,lB]
   ·rw[if_neg (by omega)];simp only[Option.map_some,List.size_toArray,q2];rw[if_neg lB]
  ·rw[Array.getElem?_eq_none (by omega),if_neg (by omega)];rfl
 have pd:=Post.drawn hk (w.drawn+k);have ps:=Post.set pd.ok hg hb (bx t ((l.take o++(d++l.drop (o+n))).map enc) bD esz) (.cells (putCells ia o d.toArray C) t fr) (by
  simp only[bx,cq];have hlen:((l.take o++(d++l.drop (o+n))).map enc).length=l.length:=by
   simp[q2];omega
  refine⟨_,fr,rfl,fun j hj=>?_,fun j hj=>h2 j (by rw[pU]at hj;exact hj),?_⟩
  ·rw[hlen]at hj;rw[fX,List.getElem?_map,hpc j]
   by_cases mh:j<o
   ·rw[if_neg (by omega),List.getElem?_append_left (by simp;omega),List.getElem?_take_of_lt mh,aa hj];exact⟨_,_,rfl,aJ j _ (aa hj),(hE σ _ _).2 rfl⟩
   ·rw[List.getElem?_append_right (by simp;omega),show (l.take o).length=o by simp;omega]
    by_cases fm:j<o+n
    ·have hd:j-o<d.length:=(by omega);rw[if_pos (by omega),List.getElem?_append_left hd,aa hd];refine⟨_,_,rfl,rfl,(hE σ _ _).2 ?_⟩;rw[getElem!_pos _ _ (by simpa using hd)];simp
    ·rw[if_neg (by omega),List.getElem?_append_right (by omega),List.getElem?_drop,q2,show o+n+(j-o-n)=j by omega,aa hj];exact⟨_,_,rfl,aJ j _ (aa hj),(hE σ _ _).2 rfl⟩
  ·rw[hlen,pU];simpa using h3)
 have pp:=pd.trans ps;refine pp.trans (Post.same pp.ok ?_ ?_ ?_ ?_ ?_)
 ·rfl
 ·rfl
 ·rfl
 ·simp[grow,putRow,mapBlock,Go.Sort.ahead]
 ·intro k' aW;rw[heap_grow_old _ _ (by simpa[putRow,mapBlock,Go.Sort.ahead]using aW)];simp only[putRow,mapBlock,Go.Sort.ahead,Array.getElem?_modify];simp only[Array.getElem?_setIfInBounds]
  by_cases e:b=k'
  ·subst e;rw[if_pos rfl,if_pos rfl,ho];have:=hk.blt hg hb;simp[onCells,this]
  ·rw[if_neg e,if_neg e]
def zyj (hc:CxOk P c){fid:FuncId}{fn:Func}(bO:c.ft.get fid=some fn){α:Type} [Inhabited α] (enc:α→AV)(ia:α→Value)(hE:∀σ x V,av σ (enc x) V↔V=ia x)
  {i o n cp esz:Nat} {t:TypeId} {opn bD:Bool} {rest:List AV} {l:List α} {R:AV→Tr ABlk→Nat→Prop} (hg:h.get i=some (bx t (l.map enc) bD esz)) (hl:o+n≤l.length)
  (RR:List α→AV→Prop)
  (hC:∀(σ:Sg) (w:World) (RA:List Value) (b cap:Nat),Ok c.G σ h nx w→aC σ rest RA→Holds ia w b o ((l.drop o).take n).toArray→b<w.heap.size→Calls P fid (.slice (some ⟨b,o,none⟩) n cap::RA).toArray w fun e x=>∃V u k os d,e=.returned V∧av σ u V∧d.length=n∧RR d u∧x=grow (putRow ia (Go.Sort.ahead w k) b o d.toArray) os)
  (hR:∀d u,d.length=n→RR d u→R u (h.put i (some (bx t ((l.take o++(d++l.drop (o+n))).map enc) bD esz))) nx):bf P c fid (.sl i o n cp opn::rest) h nx R:=
 R4 hc bO enc ia hE hg hl RR (fun σ w RA b cap a1 a2 a3 a4 _ _ _=>hC σ w RA b cap a1 a2 a3 a4) hR
end
section
open Go.Proofs Go.Sort
attribute [-go_sem] dN bX
def zTl:cx.ft.get 200=some Tryz.f200:=aO
def dG (L:List Int):List Int:=L.mergeSort fun x y=>decide (x≤y)
def Ie (L:List Int):(dG L).length=L.length:=by simp[dG]
def Rv (σ:Sg) (x:Int)(V:Value):av σ (.int .i64 x) V↔V=.int .i64 x:=by simp only[av]
def zzk (L:List Int)(h:Tr ABlk) (nx q cp esz:Nat)(opn bD:Bool)(hq:h.get q=some (bx 3 (aG L) bD esz))(hl:L.length<1000000000)(R:AV→Tr ABlk→Nat→Prop)(hR:R (.tup []) (h.put q (some (bx 3 (aG (dG L)) bD esz))) nx):di 200 [.sl q 0 L.length cp opn] h nx R:=by
 refine zyj iQ zTl (fun x:Int=>AV.int .i64 x) (Value.int .i64) (fun σ x V=>Rv σ x V) (l:=L) (rest:=[]) hq (by omega) (fun d u=>d=dG L∧u=.tup []) ?_ ?_
 ·intro σ w RA b cap hk qK hH hb;simp only[aC]at qK;subst qK;rw[List.drop_zero,List.take_length]at hH;refine(Any.slices_Sort_int Tryz.lays189 b 0 cap L w hH hb (by omega)).mono ?_
  rintro e x ⟨rfl,n,os,rfl⟩
  exact⟨_,.tup [],n,os,dG L,rfl,by simp only[av];exact⟨[],rfl,by simp only[aC]⟩,Ie L,⟨rfl,rfl⟩,rfl⟩
 ·rintro d u _ ⟨rfl,rfl⟩
  have e1:L.take 0++(dG L++L.drop (0+L.length))=dG L:=by simp
  rw[e1];exact hR
end
section
open Go.Proofs
attribute [-go_sem] dN bX
@[go_sem] theorem ye6 (n0:Nat)(e:TypeId) (size b:Nat)(z:Option AV) (x:Nat) (s:Nat)(y:Bool)(fs:List (Nat×Nat×Bool))(cs:List AV)(k:IntKind) (n:Nat)(h:Tr ABlk) (nx:Nat)(hn:n<n0):
  kh (.mk (.array n0 e) size b z ((x,s,y)::fs)) (.ip cs) (.int k (n:Int)) h nx=.val (.ip (cs.drop (n * s))) h nx:=by
 simp[kh,BJ,jn,Nat.succ_le_of_lt hn]
def zP1:cx.ft.get 221=some Tryz.f221:=aO
def zi (cls:Nat→Int):List AV:=(List.range 256).map fun b=>.int .u8 (cls b)
def zIk (cls:Nat→Int) (b:Nat)(hb:b<256):(zi cls).drop b=.int .u8 (cls b)::(zi cls).drop (b+1):=by
 have hl:b<(zi cls).length:=by simp[zi];exact hb
 rw[aj hl];simp[zi]
def zv (cls:Nat→Int)(s:ByteArray) (i:Nat):Int:=if h:i<s.size then cls (s[i]).toNat else 0
def zNy (cls:Nat→Int)(s:ByteArray) (i:Nat):aM 221 [.int .i64 (i:Int),.ip [.bs s],.ip (zi cls)] (.int .u8 (zv cls s i)):=by
 refine aB.mk fun h nx R hR=>aP zP1 (sz:=14) (rs:=[.tmp 4]) ?_
 by_cases c1:i<s.size
 ·have n1:¬s.size≤i:=by omega
  have hc:zv cls s i=cls (s[i]).toNat:=by rw[zv,dif_pos c1]
  rw[hc]at hR;have hb:(s[i]).toNat<256:=(s[i]).toNat_lt;generalize hx:(s[i]).toNat=x at hR hb;have hd:=zIk cls x hb;simp[go_sem,c1,n1,hx,hb,hd];exact hR _ _ _ (az.refl _ _) (Fz.eq rfl rfl)
 ·have n1:s.size≤i:=by omega
  simp[go_sem,n1];exact hR _ _ _ (az.refl _ _) (Fz.eq rfl (by simp[zv,c1]))
end
section
open Go.Proofs Go.Sort
attribute [-go_sem] dN bX
def zU7:cx.ft.get 290=some Tryz.f290:=aO
def zM4:cx.ft.get 306=some Tryz.f306:=aO
def zK9:cx.ft.get 307=some Tryz.f307:=aO
def zPb:cx.ft.get 277=some Tryz.f277:=aO
def zM0:cx.ft.get 276=some Tryz.f276:=aO
def zIn:cx.ft.get 278=some Tryz.f278:=aO
def bT (l:List UInt8):List AV:=l.map fun z=>.int .u8 (z.toNat:Int)
@[go_sem] theorem ux (l:List UInt8):(bT l).length=l.length:=by simp[bT]
def vE:∀l:List UInt8,dS (bT l)=true
 |[]=>rfl
 |x::l=>by
  have:=vE l;rw[show bT (x::l)=.int .u8 (x.toNat:Int)::bT l from rfl];simp[dS,AV.one];exact this
def xj (l m:List UInt8):bT (l++m)=bT l++bT m:=by simp[bT]
@[go_sem] theorem ybk (b:ByteArray)(h:Tr ABlk):rB 1 (.bs b) h=some (b.size,bT b.data.toList):=rfl
def zOs (σ:Sg)(x:UInt8)(V:Value):av σ (.int .u8 (x.toNat:Int)) V↔V=.int .u8 (x.toNat:Int):=by simp only[av]
def zUv (u:Nat)(hu:u<18446744073709551616):aM 290 [.int .u64 (u:Int)] (.int .i64 (Lib.bitLen u:Int)):=by
 refine fun h nx=>zxi iQ zU7 fun σ w A hk hA=>?_;simp only[aC,av]at hA;obtain⟨V,L,rfl,rfl,rfl⟩:=hA;refine(Any.bits_Len64 Tryz.lays129 (u:Int) w (by omega) (by omega)).mono ?_
 rintro e x ⟨rfl,rfl⟩
 exact⟨_,.int .i64 (Lib.bitLen u:Int),0,#[],rfl,by simp only[av,Int.toNat_natCast],⟨rfl,rfl,rfl⟩,by simp⟩
def zyw (i:Nat)(hi:i<100):aM 276 [.int .i64 (i:Int)] (.bs ⟨(Lib.decDigits i).toArray⟩):=by
 refine fun h nx=>zxi iQ zM0 fun σ w A hk hA=>?_;simp only[aC,av]at hA;obtain⟨V,L,rfl,rfl,rfl⟩:=hA;refine(Any.internal_strconv_small Tryz.lays283 i hi w).mono ?_
 rintro e x ⟨rfl,rfl⟩
 exact⟨_,.bs ⟨(Lib.decDigits i).toArray⟩,0,#[],rfl,by simp only[av],⟨rfl,rfl,rfl⟩,by simp⟩
def er (n u:Nat):List UInt8:=(List.range n).map fun t=>Lib.dg u (n-1-t)
def KM (n u:Nat):(er n u).length=n:=by simp[er]
def RH (h:Tr ABlk) (nx q u o n cp esz:Nat)(t:TypeId)(opn bD:Bool)(l:List UInt8)(hq:h.get q=some (bx t (bT l) bD esz))(hl:o+n≤l.length)(hn:n<1000000)(hu:u<10 ^ n)(kz:u<18446744073709551616)(R:AV→Tr ABlk→Nat→Prop)
  (hR:R (.tup []) (h.put q (some (bx t (bT (l.take o++(er n u++l.drop (o+n)))) bD esz))) nx):di 278 [.sl q o n cp opn,.int .u64 (u:Int)] h nx R:=by
 refine zyj iQ zIn (fun x:UInt8=>AV.int .u8 (x.toNat:Int)) (fun x:UInt8=>Value.int .u8 (x.toNat:Int)) (fun σ x V=>zOs σ x V) (l:=l) (rest:=[.int .u64 (u:Int)]) hq hl (fun d v=>d=er n u∧v=.tup []) ?_ ?_
 ·intro σ w RA b cap hk qK hH hb;simp only[aC,av]at qK;obtain⟨V,L,rfl,rfl,rfl⟩:=qK;have bC:((l.drop o).take n).toArray.size=n:=by simp;omega
  have hc:=Any.internal_strconv_formatBase10 Tryz.lays285 b o cap u ((l.drop o).take n).toArray w hH (by rw[bC];exact hu) kz (by rw[bC];omega);rw[bC]at hc;refine hc.mono ?_
  rintro e x ⟨rfl,k,v',dk,rfl,hf⟩
  have hd:dk.toList=er n u:=by
   have hs:=hf.size;apply List.ext_getElem (by simp[er];exact hs);intro t h1 h2;have ht:t<n:=by simpa[er]using h2
   have:=hf.done t (by omega) ht;rw[getElem!_pos _ t (by omega)]at this;simp[er,this]
  refine⟨_,.tup [],k,#[],er n u,rfl,by simp only[av];exact⟨[],rfl,by simp only[aC]⟩,KM n u,⟨rfl,rfl⟩,?_⟩;rw[← hd];rfl
 ·rintro d v _ ⟨rfl,rfl⟩
  exact hR
def zT6 (k:IntKind) (a n:Nat)(h:Tr ABlk) (nx:Nat):ur .shr k (a:Int) (n:Int) h nx=.val (.int k ((a / 2 ^ (min n k.bits):Nat):Int)) h nx:=by
 show fN (Nat.div a (Nat.pow 2 (min n k.bits))) (fun z=>R.val (.int k (Int.ofNat z)) h nx)=_;rw[fN_eq];rfl
@[go_sem] theorem zV4 (a:Nat)(h:Tr ABlk) (nx:Nat):ur .shr .i64 (a:Int) 18 h nx=.val (.int .i64 ((a / 262144:Nat):Int)) h nx:=zT6 .i64 a 18 h nx
def zMr (n:Nat)(hn:n≤64):aM 306 [.int .i64 (n:Int)] (.int .i64 (Lib.l10 n:Int)):=by
 refine aB.mk fun h nx R hR=>aP zM4 (sz:=6) (rs:=[.tmp 2]) ?_;have e1:IntKind.i64.wrap ((n:Int) * 78913)=((n * 78913:Nat):Int):=by
  rw[aS] <;> omega
 simp[go_sem,-Int.natCast_mul,e1];exact hR _ _ _ (az.refl _ _) (Fz.eq rfl rfl)
def zUb (b:Bool):aM 307 [.bool b] (.int .i64 (if b then 1 else 0)):=by
 refine aB.mk fun h nx R hR=>aP zK9 (sz:=4) (rs:=[.tmp 2]) ?_;cases b
 ·simp[go_sem];exact hR _ _ _ (az.refl _ _) (Fz.eq rfl rfl)
 ·simp[go_sem];exact hR _ _ _ (az.refl _ _) (Fz.eq rfl rfl)
def zSt (n:Nat)(hn:n<20):xz.drop n=.int .u64 ((10 ^ n:Nat):Int)::xz.drop (n+1):=by
 have hl:n<xz.length:=by simp[xz];exact hn
 rw[aj hl];simp[xz]
@[go_sem] theorem zYm (tm:Tr AV):aL G0 tm (.global 0)=some (.ip xz):=rfl
def Ta (u:Nat)(h1:1≤u)(hu:u<18446744073709551616):aM 277 [.int .u64 (u:Int)] (.int .i64 (Lib.nDigits u:Int)):=by
 refine aB.mk fun h nx R hR=>aP zPb (sz:=15) (rs:=[.tmp 2]) ?_;obtain⟨d1,d2⟩:=Lib.numDigits_eq u h1 hu;have d3:=Lib.bitLen_le u 64 (ae _) hu;simp[go_sem];refine aB.use (zUv u hu) ?_;simp[go_sem,aA];refine aB.use (zMr _ d3) ?_;have hd:=zSt (Lib.l10 (Lib.bitLen u)) (by omega);generalize Lib.l10 (Lib.bitLen u)=q at *;have hq:q<20:=by omega
 simp[go_sem,aA,hq,hd];refine aB.use (zUb _) ?_;simp[go_sem,aA];refine hR _ _ _ (az.refl _ _) (Fz.eq rfl ?_);have hc:((10:Int) ^ q≤(u:Int))↔10 ^ q≤u:=by
  have:((10:Int) ^ q)=((10 ^ q:Nat):Int):=by simp
  rw[this];omega
 simp only[hc]
 congr 1
 by_cases c:10 ^ q≤u
 ·rw[if_pos c]at d1 ⊢;rw[aS] <;> omega
 ·rw[if_neg c]at d1 ⊢;rw[aS] <;> omega
def Rh (u:Nat):Lib.decDigits u=er (Lib.nDigits u) u:=Lib.decDigits_eq u
def HZ (u:Nat)(h1:1≤u)(hu:u<18446744073709551616):Lib.nDigits u≤20:=by
 obtain⟨d1,d2⟩:=Lib.numDigits_eq u h1 hu;split at d1 <;> omega
def zK2:cx.ft.get 305=some Tryz.f305:=aO
def zK7:cx.ft.get 274=some Tryz.f274:=aO
def zFz:cx.ft.get 252=some Tryz.f252:=aO
def uo (h:Tr ABlk) (nx q:Nat)(v:AV)(l:List UInt8):Prop:=q<nx∧((v=.sl q 0 l.length 0 true∧h.get q=some (bx 5 (bT l) true 1))∨(v=.sl q 0 l.length l.length false∧h.get q=some (bx 5 (bT l) false 0)))
def Sq (u:Nat):u<10 ^ Lib.nDigits u:=Lib.lt_pow_nDigits u
def Ma (B:Option ABlk) (len m:Nat)(news:List AV) (e size:Nat)(h:Tr ABlk) (nx:Nat):R:=match B with
 |some (.cells _ n cs _ _)=>match Nat.ble (Nat.add len m) 16777216 with
  |false=>.fail
  |true=>match Nat.ble (Nat.add 0 (Nat.mul len size)) n with
   |false=>.fail
   |true=>.val (.sl nx 0 (len+m) 0 true) (h.put nx (some (bx e (((toL cs n).drop 0).take (Nat.mul len size)++news) true size))) (nx+1)
 |_=>.fail
@[go_sem] theorem ybn (m len i e size:Nat)(news:List AV)(h:Tr ABlk) (nx:Nat)(h0:m≠0):lS true m news e size (.sl i 0 len len false) h nx=Ma (h.get i) len m news e size h nx:=by
 have e0:Nat.beq m 0=false:=by cases m;exact absurd rfl h0;rfl
 have e5:Nat.beq len len=true:=Nat.beq_refl len;simp only[lS,Ma,e0,e5,Bool.true_and];cases h.get i with
 |none=>rfl
 |some B=>
  cases B <;> rfl
@[go_sem] theorem zXv (m len e t size esz:Nat)(opn:Bool)(news l:List AV)(h:Tr ABlk) (nx:Nat)(h1:len * size=l.length)(h2:len+m≤16777216):Ma (some (bx t l opn esz)) len m news e size h nx=.val (.sl nx 0 (len+m) 0 true) (h.put nx (some (bx e (l++news) true size))) (nx+1):=by
 have e3:toL (eu l .nil 0) l.length=l:=by
  apply List.ext_getElem?;intro k
  by_cases hk:k<l.length
  ·simp[toL,hk,fX]
  ·simp[toL,hk]
 have e4:Nat.mul len size=l.length:=h1;have e6:Nat.ble (Nat.add 0 l.length) l.length=true:=Nat.ble_eq_true_of_le (by show 0+l.length≤_;omega);have e7:Nat.ble (Nat.add len m) 16777216=true:=Nat.ble_eq_true_of_le h2;simp only[Ma,bx,e3,e4,e6,e7,List.drop_zero,List.take_length]
@[go_sem] theorem zVq (G:Gl)(tm:Tr AV):vx G tm none=some none:=rfl
@[go_sem] theorem zZe (G:Gl)(tm:Tr AV)(o:Operand):vx G tm (some o)=match aL G tm o with
 |some v=>some (some v)
 |none=>none:=rfl
def Zb (h:Tr ABlk) (nx q:Nat)(v:AV)(l:List UInt8) (u:Nat)(hq:uo h nx q v l)(hl:l.length≤16000000)(hu:u<18446744073709551616)(R:AV→Tr ABlk→Nat→Prop)
  (hR:∀g ny q',nx≤ny→nx≤q'→(∀k,k<nx→k≠q→g.get k=h.get k)→uo g ny q' (.sl q' 0 (l++Lib.decDigits u).length 0 true) (l++Lib.decDigits u)→R (.sl q' 0 (l++Lib.decDigits u).length 0 true) g ny):di 305 [v,.int .u64 (u:Int),.int .i64 10] h nx R:=by
 refine aP zK2 (sz:=36) (rs:=[.tmp 6]) ?_;obtain⟨re,hq⟩:=hq;have e1:¬q=nx:=by omega
 have fo:=vE l
 by_cases c:u<100
 ·have w1:IntKind.i64.wrap (u:Int)=(u:Int):=by rw[aS] <;> omega
  have hi:((u:Int)<100):=by omega
  simp[go_sem,hi,w1];refine aB.use (zyw u c) ?_;have uH:=vE (Lib.decDigits u);have hz:(Lib.decDigits u).length≠0:=by
   have:=Lib.nDigits_pos u;rw[Lib.decDigits_length];omega
  have Dk:(Lib.decDigits u).length≤2:=by
   rcases Nat.lt_or_ge u 10 with c1 |c1
   ·rw[Lib.decDigits_one c1];simp
   ·rw[Lib.decDigits_two (by omega) c];simp
  have wZ:l.length+(Lib.decDigits u).length≤16777216:=by omega
  rcases hq with⟨rfl,gq⟩ |⟨rfl,gq⟩
  ·simp[go_sem,aA,gq,uH,wZ];have:=hR ((h.put q none).put nx (some (bx 5 (bT l++bT (Lib.decDigits u)) true 1))) (nx+1) nx (by omega) (by omega) (fun k k1 k2=>by simp[go_sem,k2,show ¬k=nx by omega]) ⟨by omega,.inl ⟨rfl,by simp[go_sem,xj]⟩⟩;simpa using this
  ·simp[go_sem,aA,gq,uH,hz,wZ];have:=hR (h.put nx (some (bx 5 (bT l++bT (Lib.decDigits u)) true 1))) (nx+1) nx (by omega) (by omega) (fun k k1 k2=>by simp[go_sem,show ¬k=nx by omega]) ⟨by omega,.inl ⟨rfl,by simp[go_sem,xj]⟩⟩;simpa using this
 ·have hi:¬((u:Int)<100):=by omega
  have n20:=HZ u (by omega) hu;have n1:=Lib.nDigits_pos u;have nlt:=Sq u;have FT:=Rh u;have nB:=KM (Lib.nDigits u) u;simp[go_sem,hi];refine aB.use (Ta u (by omega) hu) ?_;generalize Lib.nDigits u=n at *;have n24:n≤24:=by omega
  simp[go_sem,aA,n24];refine RH _ _ nx u 0 n 24 0 289 false false (List.replicate 24 0) (by simp only[Tr.get_put,if_true];rfl) (by simp;omega) (by omega) nlt hu _ ?_;have uH:=vE (er n u);have hz:n≠0:=by omega
  have wZ:l.length+n≤16777216:=by omega
  have kO:(List.take 0 (List.replicate 24 (0:UInt8))++(er n u++List.drop (0+n) (List.replicate 24 0)))=er n u++List.replicate (24-n) 0:=by rw[List.drop_replicate];simp
  rw[kO];have dR:(bT (er n u++List.replicate (24-n) 0)).take n=bT (er n u):=by
   rw[xj];have:=ux (er n u);rw[nB]at this;exact List.take_left' this
  have qU:n≤(bT (er n u++List.replicate (24-n) 0)).length:=by simp[ux,nB]
  rw[FT]at hR;generalize bT (er n u++List.replicate (24-n) 0)=TW at dR qU
  rcases hq with⟨rfl,gq⟩ |⟨rfl,gq⟩
  ·simp[go_sem,aA,gq,uH,hz,wZ,e1,n24,dR,qU];rw[show l.length+n=(l++er n u).length by simp[nB]];refine hR _ _ (nx+1) (by omega) (by omega) (fun k k1 k2=>?_) ⟨by omega,.inl ⟨rfl,?_⟩⟩
   ·simp[go_sem,k2,show ¬k=nx by omega,show ¬k=nx+1 by omega]
   ·simp[go_sem,xj]
  ·simp[go_sem,aA,gq,uH,hz,wZ,e1,n24,dR,qU];rw[show l.length+n=(l++er n u).length by simp[nB]];refine hR _ _ (nx+1) (by omega) (by omega) (fun k k1 k2=>?_) ⟨by omega,.inl ⟨rfl,?_⟩⟩
   ·simp[go_sem,show ¬k=nx by omega,show ¬k=nx+1 by omega]
   ·simp[go_sem,xj]
def zxs (x:Int)(h1:0≤x)(h2:x≤18446744073709551615):IntKind.u64.wrap x=x:=by
 have:=IntWalk.u64_in x;exact this (by omega)
def zxh (u:Nat)(h1:1≤u)(h2:u≤9223372036854775808):IntKind.u64.wrap (-IntKind.u64.wrap (-(u:Int)))=(u:Int):=by
 simp only[IntKind.wrap,IntKind.signed,IntKind.bits];simp;omega
@[go_sem] theorem yd5 (k:IntKind) (n:Int)(h:Tr ABlk) (nx:Nat):vQ .neg (.int k n) h nx=.val (.int k (k.wrap (-n))) h nx:=by
 show fI (oD k (Int.sub 0 n)) (fun z=>R.val (.int k z) h nx)=_;rw[fI_eq,qu,show Int.sub 0 n=-n from Int.zero_sub n]
def zGm (h:Tr ABlk) (nx q:Nat)(v:AV)(l:List UInt8) (i:Int)(hq:uo h nx q v l)(hl:l.length≤15000000)(h0:-9223372036854775808≤i)(h1:i≤9223372036854775807)(R:AV→Tr ABlk→Nat→Prop)
  (hR:∀g ny q',nx≤ny→nx≤q'→(∀k,k<nx→k≠q→g.get k=h.get k)→uo g ny q' (.sl q' 0 (l++Lib.itoa i).length 0 true) (l++Lib.itoa i)→R (.sl q' 0 (l++Lib.itoa i).length 0 true) g ny):di 274 [v,.int .i64 i,.int .i64 10] h nx R:=by
 refine aP zK7 (sz:=21) (rs:=[.tmp 6]) ?_
 by_cases c:i<0
 ·obtain⟨u,hu⟩:∃u:Nat,i=-(u:Int):=⟨i.natAbs,by omega⟩;have hw:IntKind.u64.wrap (-IntKind.u64.wrap i)=(u:Int):=by rw[hu];exact zxh u (by omega) (by omega)
  have hit:Lib.itoa i=45::Lib.decDigits u:=by rw[Lib.itoa,if_pos c,hu];simp
  rw[hit]at hR;have fo:=vE l;obtain⟨re,hq⟩:=hq;have e1:¬q=nx:=by omega
  have wZ:l.length+1≤16777216:=by omega
  have kz:u<18446744073709551616:=by omega
  have wG:l++45::Lib.decDigits u=(l++[45])++Lib.decDigits u:=by simp
  rw[wG]at hR;have hl4:(l++[45]).length≤16000000:=by simp;omega
  rcases hq with⟨rfl,gq⟩ |⟨rfl,gq⟩
  all_goals
   simp[go_sem,c,gq,e1,wZ,hw,aI];refine Zb _ _ (nx+1) _ (l++[45]) u ⟨by omega,.inl ⟨by simp,by simp[go_sem,bT]⟩⟩ hl4 kz _ fun g ny q' b1 b2 b3 b4=>?_;generalize (l++[45])++Lib.decDigits u=L at hR b4 ⊢;simp[go_sem,aA];refine hR g ny q' (by omega) (by omega) (fun k k1 k2=>?_) b4;rw[b3 k (by omega) (by omega)];simp[go_sem,k2,show ¬k=nx by omega,show ¬k=nx+1 by omega]
 ·obtain⟨u,hu⟩:∃u:Nat,i=(u:Int):=⟨i.toNat,by omega⟩;have hw:IntKind.u64.wrap i=(u:Int):=by rw[hu];exact zxs _ (by omega) (by omega)
  have hit:Lib.itoa i=Lib.decDigits u:=by rw[Lib.itoa,if_neg c,hu];simp
  rw[hit]at hR;simp[go_sem,c,hw];refine Zb h nx q v l u hq (by omega) (by omega) _ fun g ny q' b1 b2 b3 b4=>?_;generalize l++Lib.decDigits u=L at hR b4 ⊢;simp[go_sem,aA];exact hR g ny q' b1 b2 b3 b4
def zyb (h:Tr ABlk) (nx q:Nat)(v:AV)(l:List UInt8) (i:Int)(hq:uo h nx q v l)(hl:l.length≤15000000)(h0:-9223372036854775808≤i)(h1:i≤9223372036854775807)(R:AV→Tr ABlk→Nat→Prop)
  (hR:∀g ny q',nx≤ny→nx≤q'→(∀k,k<nx→k≠q→g.get k=h.get k)→uo g ny q' (.sl q' 0 (l++Lib.itoa i).length 0 true) (l++Lib.itoa i)→R (.sl q' 0 (l++Lib.itoa i).length 0 true) g ny):di 252 [v,.int .i64 i,.int .i64 10] h nx R:=by
 refine aP zFz (sz:=11) (rs:=[.tmp 6]) ?_;simp[go_sem];refine zGm h nx q v l i hq hl h0 h1 _ fun g ny q' b1 b2 b3 b4=>?_;generalize l++Lib.itoa i=L at hR b4 ⊢;simp[go_sem,aA];exact hR g ny q' b1 b2 b3 b4
end
end
end Go.Ev
