/- Texts DX MM LB. -/
import Derived.Sort.Grow
import Derived.Test.YtkdnmldmffkkoaaGreatDoorP11
import Derived.Test.YtkdnmldmffkkoaaGreatDoorP15
set_option linter.unusedSimpArgs false
set_option linter.unusedVariables false
set_option maxRecDepth 100000
namespace Go.Ev
noncomputable section
variable {P : Program} {c : Cx} {σ τ υ : Sg} {h h' g f : Tr ABlk} {nx nx' ny nz sz : Nat} {ds : List DE} {w x y : World} {tm tm' : Tr AV} {a : Act} {G : Gl} {r : Option Nat}
def pi2 (i k:Nat):Nat:=if k=i then i+1 else if k=i+1 then i else k
theorem zjc (i k:Nat):pi2 i (pi2 i k)=k:=by unfold pi2;(repeat' split) <;> omega
theorem zt0 {i k n:Nat}(hi:i+2≤n)(hk:k<n):pi2 i k<n:=by unfold pi2;(repeat' split) <;> omega
theorem zob {i k:Nat}(h:k<i):pi2 i k=k:=by unfold pi2;(repeat' split) <;> omega
theorem zU1 {i k:Nat}(h:i+2≤k):pi2 i k=k:=by unfold pi2;(repeat' split) <;> omega
def reE (i:Nat)(e:Edge):Edge:={ e with on:=pi2 i e.on }
def reO (i:Nat)(o:Oper):Oper:={ o with after:=o.after.map (reE i) }
def zij (i:Nat)(o:Oper):Oper:={ o with after:=o.after.push { on:=i,ground:=.data } }
def zho (i:Nat):List Oper→List Oper
 |o1::o2::t=>o1::zij i o2::t
 |l=>l
def zhq (i:Nat):List Oper→List Oper
 |o1::o2::t=>reO i o2::zij i (reO i o1)::t.map (reO i)
 |l=>l
def zc3 (i:Nat)(l:List Oper):List Oper:=l.take i++zho i (l.drop i)
def zcy (i:Nat)(l:List Oper):List Oper:=l.take i++zhq i (l.drop i)
def ztc (i:Nat)(l:List Oper)(Wl:List Nat):Bool:=
 zbi l (fun o=>o.guard.isNone) && Nat.ble (i+2) l.length && inL i Wl && inL (i+1) Wl &&
 zbi (zcr l.length) (fun j=>(match l[j]? with
  |none=>true
  |some o=>zbi o.after.toList (fun e=>match Region.binds .any e with |true=>Nat.ble (Nat.succ e.on) j |false=>true)) &&
  (match Nat.ble (i+2) j with |false=>true |true=>zb1 (zak l []) i j && zb1 (zak l []) (i+1) j)) &&
 zbi (zcr i) (fun j=>!(zgo (zc3 i l) Wl j) || zgo (zcy i l) Wl j)
structure SwapOk (i:Nat)(l:List Oper)(Wl:List Nat):Prop where
 guard:∀o∈l,o.guard=none
 le:i+2≤l.length
 w1:inL i Wl=true
 w2:inL (i+1) Wl=true
 back:∀j o,l[j]?=some o→∀e∈o.after.toList,Region.binds .any e=true→e.on<j
 bef:∀j,i+2≤j→j<l.length→zb1 (zak l []) i j=true∧zb1 (zak l []) (i+1) j=true
 ord:∀j,j<i→zgo (zc3 i l) Wl j=true→zgo (zcy i l) Wl j=true
theorem zSi {i:Nat}{l:List Oper}{Wl:List Nat}(h:ztc i l Wl=true):SwapOk i l Wl:=by
 unfold ztc at h
 simp only[Bool.and_eq_true]at h
 obtain⟨⟨⟨⟨⟨h1,h2⟩,h3⟩,h4⟩,h5⟩,h6⟩:=h
 refine⟨fun o ho=>?_,Nat.le_of_ble_eq_true h2,h3,h4,fun j o ho e he hb=>?_,fun j hj hlt=>?_,fun j hj e=>?_⟩
 ·have:=zbf h1 o ho
  cases hg:o.guard with
  |none=>rfl
  |some p=>rw[hg]at this;cases this
 ·have hlt:j<l.length:=(List.getElem?_eq_some_iff.1 ho).1
  have h6:=zbf h5 j (List.mem_range.2 hlt)
  simp only[Bool.and_eq_true]at h6
  have h7:=h6.1
  rw[ho]at h7
  have:=zbf h7 e he
  rw[hb]at this
  exact Nat.le_of_ble_eq_true this
 ·have h6:=zbf h5 j (List.mem_range.2 hlt)
  simp only[Bool.and_eq_true]at h6
  have h7:=h6.2
  rw[Nat.ble_eq_true_of_le hj]at h7
  simpa using h7
 ·have:=zbf h6 j (List.mem_range.2 hj)
  rw[e]at this
  simpa using this
def zrt (o o':Oper):Prop:=o'={ o with after:=o'.after }
section
variable {i : Nat} {l : List Oper} {Wl : List Nat}
theorem zp5 (X:SwapOk i l Wl):∃o1 o2 t,l.drop i=o1::o2::t∧l[i]?=some o1∧l[i+1]?=some o2∧∀k,t[k]?=l[i+2+k]?:=by
 have hle:=X.le
 refine⟨l[i],l[i+1],l.drop (i+2),?_,List.getElem?_eq_getElem (by omega),List.getElem?_eq_getElem (by omega),fun k=>by rw[List.getElem?_drop]⟩
 rw[List.drop_eq_getElem_cons (by omega),List.drop_eq_getElem_cons (show i+1<l.length by omega)]
theorem zT3 (X:SwapOk i l Wl):(zc3 i l).length=l.length:=by
 obtain⟨o1,o2,t,e,_,_,_⟩:=zp5 X
 have h1:=congrArg List.length e
 have hle:=X.le
 unfold zc3
 rw[e]
 simp only[List.length_drop,List.length_cons]at h1
 simp[zho]
 omega
theorem zFv (X:SwapOk i l Wl):(zcy i l).length=l.length:=by
 obtain⟨o1,o2,t,e,_,_,_⟩:=zp5 X
 have h1:=congrArg List.length e
 have hle:=X.le
 unfold zcy
 rw[e]
 simp only[List.length_drop,List.length_cons]at h1
 simp[zhq]
 omega
theorem zt6 (X:SwapOk i l Wl) (k:Nat):(zc3 i l)[k]?=if k=i+1 then (l[i+1]?).map (zij i) else l[k]?:=by
 obtain⟨o1,o2,t,e,g1,g2,g3⟩:=zp5 X
 have hle:=X.le
 unfold zc3
 rw[e]
 by_cases hk:k<i
 ·rw[List.getElem?_append_left (by simp;omega),if_neg (by omega),List.getElem?_take_of_lt hk]
 ·rw[List.getElem?_append_right (by simp;omega)]
  have hl:(l.take i).length=i:=by simp;omega
  rw[hl]
  by_cases h1:k=i
  ·subst h1;simp[zho,g1]
  ·by_cases h2:k=i+1
   ·subst h2;simp[zho,g2]
   ·rw[if_neg h2]
    have h3:=g3 (k-i-2)
    rw[show i+2+(k-i-2)=k by omega]at h3
    rw[← h3,show k-i=(k-i-2)+1+1 by omega]
    simp[zho]
theorem zvi (X:SwapOk i l Wl) (k:Nat):(zcy i l)[k]?=if k<i then l[k]? else if k=i+1 then (l[i]?).map fun o=>zij i (reO i o) else (l[pi2 i k]?).map (reO i):=by
 obtain⟨o1,o2,t,e,g1,g2,g3⟩:=zp5 X
 have hle:=X.le
 unfold zcy
 rw[e]
 by_cases hk:k<i
 ·rw[List.getElem?_append_left (by simp;omega),if_pos hk,List.getElem?_take_of_lt hk]
 ·rw[List.getElem?_append_right (by simp;omega),if_neg hk]
  have hl:(l.take i).length=i:=by simp;omega
  rw[hl]
  by_cases h1:k=i
  ·subst h1
   have:pi2 k k=k+1:=by simp[pi2]
   simp[zhq,g2,this]
  ·by_cases h2:k=i+1
   ·subst h2;simp[zhq,g1]
   ·rw[if_neg h2,zU1 (by omega)]
    have h3:=g3 (k-i-2)
    rw[show i+2+(k-i-2)=k by omega]at h3
    rw[← h3,show k-i=(k-i-2)+1+1 by omega]
    simp[zhq]
theorem zjj {ops:List Oper}{x k:Nat}:dir ops.toArray x k=true↔∃o,ops[k]?=some o∧∃e∈o.after.toList,Region.binds .any e=true∧e.on=x:=by
 unfold dir
 rw[List.getElem?_toArray]
 cases ops[k]? with
 |none=>simp
 |some o=>
  simp only[Option.map_some,Option.getD_some,Array.any_eq_true',Bool.and_eq_true]
  constructor
  ·rintro⟨e,he,h1,h2⟩
   exact⟨o,rfl,e,by simpa using he,h1,by simpa using h2⟩
  ·rintro⟨o',e',e,he,h1,h2⟩
   cases e'
   exact⟨e,by simpa using he,h1,by simpa using h2⟩
theorem zTc (X:SwapOk i l Wl){x k:Nat}(hd:dir (zc3 i l).toArray x k=true):dir l.toArray x k=true∨(k=i+1∧x=i):=by
 obtain⟨o,ho,e,he,hb,hx⟩:=zjj.1 hd
 rw[zt6 X]at ho
 by_cases hk:k=i+1
 ·subst hk
  rw[if_pos rfl]at ho
  cases hl:l[i+1]? with
  |none=>rw[hl]at ho;cases ho
  |some o0=>
   rw[hl]at ho
   cases ho
   simp only[zij,Array.toList_push,List.mem_append,List.mem_singleton]at he
   rcases he with he |he
   ·exact .inl (zjj.2 ⟨o0,hl,e,he,hb,hx⟩)
   ·subst he
    exact .inr ⟨rfl,hx.symm⟩
 ·rw[if_neg hk]at ho
  exact .inl (zjj.2 ⟨o,ho,e,he,hb,hx⟩)
theorem zC5 (X:SwapOk i l Wl){x k:Nat}(hd:dir (zcy i l).toArray x k=true):dir l.toArray (pi2 i x) (pi2 i k)=true∨(k=i+1∧x=i):=by
 obtain⟨o,ho,e,he,hb,hx⟩:=zjj.1 hd
 rw[zvi X]at ho
 by_cases hk:k<i
 ·rw[if_pos hk]at ho
  have:=X.back k o ho e he hb
  rw[zob hk,zob (by omega)]
  exact .inl (zjj.2 ⟨o,ho,e,he,hb,hx⟩)
 ·rw[if_neg hk]at ho
  by_cases h2:k=i+1
  ·subst h2
   rw[if_pos rfl]at ho
   cases hl:l[i]? with
   |none=>rw[hl]at ho;cases ho
   |some o0=>
    rw[hl]at ho
    cases ho
    simp only[zij,reO,Array.toList_push,Array.toList_map,List.mem_append,List.mem_map,List.mem_singleton]at he
    rcases he with⟨e0,he0,ee⟩ |he
    ·subst ee
     refine .inl (zjj.2 ⟨o0,?_,e0,he0,hb,?_⟩)
     ·have:pi2 i (i+1)=i:=by simp[pi2]
      rw[this];exact hl
     ·rw[← hx]
      show e0.on=pi2 i (pi2 i e0.on)
      rw[zjc]
    ·subst he
     exact .inr ⟨rfl,hx.symm⟩
  ·rw[if_neg h2]at ho
   cases hl:l[pi2 i k]? with
   |none=>rw[hl]at ho;cases ho
   |some o0=>
    rw[hl]at ho
    cases ho
    simp only[reO,Array.toList_map,List.mem_map]at he
    obtain⟨e0,he0,ee⟩:=he
    subst ee
    refine .inl (zjj.2 ⟨o0,hl,e0,he0,hb,?_⟩)
    rw[← hx]
    show e0.on=pi2 i (pi2 i e0.on)
    rw[zjc]
theorem zPj (X:SwapOk i l Wl){k:Nat}{o:Oper}(ho:l[k]?=some o):∃o',(zc3 i l)[k]?=some o'∧zrt o o':=by
 rw[zt6 X]
 by_cases hk:k=i+1
 ·subst hk
  rw[if_pos rfl,ho]
  exact⟨_,rfl,rfl⟩
 ·rw[if_neg hk]
  exact⟨o,ho,rfl⟩
theorem zQr (X:SwapOk i l Wl){k:Nat}{o:Oper}(ho:l[k]?=some o):∃o',(zcy i l)[pi2 i k]?=some o'∧zrt o o':=by
 rw[zvi X]
 by_cases hk:k<i
 ·rw[zob hk,if_pos hk]
  exact⟨o,ho,rfl⟩
 ·by_cases h1:k=i
  ·subst h1
   have:pi2 k k=k+1:=by simp[pi2]
   rw[this,if_neg (by omega),if_pos rfl,ho]
   exact⟨_,rfl,rfl⟩
  ·have h2:¬pi2 i k<i:=by unfold pi2;(repeat' split) <;> omega
   have h3:¬pi2 i k=i+1:=by unfold pi2;(repeat' split) <;> omega
   rw[if_neg h2,if_neg h3,zjc,ho]
   exact⟨_,rfl,rfl⟩
end
theorem zCl {ops ops':Array Oper}{Q:Exit→Act→World→Prop}{K:Act→World→Prop}{k k':Nat}{o o':Oper}(ho:ops[k]?=some o)(ho':ops'[k']?=some o')(hs:zrt o o')(hg:o.guard=none)
  (h:wpOpIn (zbb r) 0 P ops' Q k' K a w):wpOpIn (zbb r) 0 P ops Q k K a w:=by
 unfold wpOpIn at *
 rw[ho]
 rw[ho']at h
 unfold zrt at hs
 have hg':o'.guard=none:=by rw[hs];exact hg
 have w1:Region.wanted o (yielded ops a.tmps)=true:=by unfold Region.wanted;rw[hg]
 have w2:Region.wanted o' (yielded ops' a.tmps)=true:=by unfold Region.wanted;rw[hg']
 simp only[w1,if_true]
 simp only[w2,if_true]at h
 rw[hs]at h
 exact h
theorem DInv.congr {ops:Array Oper}{S:Nat→Tr AV×Tr ABlk×Nat}{v:Nat→AV}{W:Nat→Bool}{D0:List Deferred}{l l':Array Bool}(hl:∀i,l.getD i false=l'.getD i false)(I:DInv c sz ops S v W σ w D0 l a x):DInv c sz ops S v W σ w D0 l' a x:=by
 obtain⟨i1,i2,⟨p,τ,q1,q2,q3,q4,q5⟩,i4,i5⟩:=I
 refine⟨fun j hj k hk=>by rw[← hl]at hj ⊢;exact i1 j hj k hk,fun i hi=>i2 i (by rw[hl];exact hi),⟨p,τ,q1,q2,fun j hj hw=>by rw[← hl];exact q3 j hj hw,q4,fun t u e=>q5 t u ?_⟩,i4,i5⟩
 rw[← e]
 exact zk6 _ fun j _ _=>hl j
theorem zsd {ops ops':Array Oper}{o:Oper}{u:AV}(hg:o.guard=none)(h:OpY P c r ops o u tm g nx f ny):OpY P c r ops' o u tm g nx f ny:=by
 intro σ a w hk ht Q K hK
 have:=h σ a w hk ht Q K hK
 have w1:Region.wanted o (yielded ops a.tmps)=true:=by unfold Region.wanted;rw[hg]
 have w2:Region.wanted o (yielded ops' a.tmps)=true:=by unfold Region.wanted;rw[hg]
 rw[w1]at this
 rw[w2]
 exact this
theorem zA7 {ops ops':List Oper}{o:Oper}(hg:o.guard=none):zbl ops o=zbl ops' o:=by
 unfold zbl
 rw[hg]
theorem zym {ops ops':Array Oper}{Wl Cl:List Nat}{U:List (Nat×Nat)}{S S':Nat→Tr AV×Tr ABlk×Nat}{v v':Nat→AV}{j:Nat}(hpre:∀k,k≤j→ops'[k]?=ops[k]?)(hg:∀o,ops[j]?=some o→o.guard=none)(hS:∀k,k≤j+1→S' k=S k)(hv:v' j=v j)(hord:zgo ops.toList Wl j=true→zgo ops'.toList Wl j=true)
  (h:zjx P c r sz ops Wl Cl U S v j):zjx P c r sz ops' Wl Cl U S' v' j:=by
 obtain⟨o,ho,e1,e2,e3,e4,e5⟩:=h
 have hg':=hg o ho
 have hfp:∀k,k≤j→∀t,fpv c ops'.toList k t=fpv c ops.toList k t:=by
  intro k hk t
  unfold fpv
  rw[Array.getElem?_toList,Array.getElem?_toList,hpre k hk]
 refine⟨o,by rw[hpre j (Nat.le_refl _)];exact ho,?_,e2,?_,fun hW=>?_,fun hW a ha hlt=>?_⟩
 ·rw[hS j (by omega),hS (j+1) (Nat.le_refl _),hv,zA7 (ops':=ops.toList) hg']
  exact zsd hg' e1
 ·rw[hS j (by omega),hS (j+1) (Nat.le_refl _),hv]
  exact e3
 ·obtain⟨f1,f2⟩:=e4 hW
  rw[hS j (by omega),hS (j+1) (Nat.le_refl _),hv,zA7 (ops':=ops.toList) hg']
  refine⟨f1,?_⟩
  rcases f2 with f2 |⟨f2,f3,f4⟩ |f2
  ·exact .inl fun h' nx'=>zsd hg' (f2 h' nx')
  rotate_left
  ·exact .inr (.inr (hord f2))
  ·refine .inr (.inl ⟨f2,fun h' nx' hk=>zsd hg' (f3 h' nx' (by rw[hfp j (Nat.le_refl _)]at hk;exact hk)),fun b hb hlt=>?_⟩)
   rw[hfp j (Nat.le_refl _),hS b (by omega)]
   exact f4 b hb hlt
 ·rw[hS j (by omega),hS (j+1) (Nat.le_refl _),hfp a (by omega)]
  exact e5 hW a ha hlt
theorem zyz {ops ops':Array Oper}{v v':Nat→AV}{f f':Nat→Bool}:∀(n:Nat),(∀k,k<n→ops'[k]?=ops[k]?∧v' k=v k∧f' k=f k)→TL ops' v' tm f' n=TL ops v tm f n
 |0,_=>rfl
 |n+1,hh=>by
  obtain⟨e1,e2,e3⟩:=hh n (by omega)
  rw[TL,TL,zyz n fun k hk=>hh k (by omega),e1,e2,e3]
def zj5 (i:Nat)(l:Array Bool):Array Bool:=(l.setIfInBounds i (l.getD (i+1) false)).setIfInBounds (i+1) (l.getD i false)
theorem zke {i:Nat}{l:Array Bool}(hi:i+2≤l.size) (k:Nat):(zj5 i l).getD k false=l.getD (pi2 i k) false:=by
 unfold zj5 pi2
 simp only[Array.getD_eq_getD_getElem?,Array.getElem?_setIfInBounds,Array.size_setIfInBounds]
 by_cases h1:k=i
 ·subst h1
  simp[show k<l.size by omega]
 ·by_cases h2:k=i+1
  ·subst h2
   simp[show i+1<l.size by omega]
  ·have h1':¬i=k:=fun e=>h1 e.symm
   have h2':¬i+1=k:=fun e=>h2 e.symm
   simp[h1,h2,h1',h2']
theorem zD1 (hm:P.follows .mixedOrders=true)(hc:CxOk P c)(hG:c.G.sym=true){inr:Bool}{id:Nat}{l:List Oper}(i:Nat)(Wl Cl:List Nat)(U:List (Nat×Nat))(h1:zhs c (zc3 i l) (zak (zc3 i l) []) Wl Cl U=true)(h2:zhs c (zcy i l) (zak (zcy i l) []) Wl Cl U=true)(hsw:ztc i l Wl=true){Q:AX→AS→Prop}{s:AS}
  (hw:zh2 P c sz (zc3 i l) Wl Cl U (fun hs s=>awD P c sz (zc3 i l) Wl Cl U (Q .norm) (zho i (l.drop i)) i hs s∧awD P c sz (zcy i l) Wl Cl U (Q .norm) (zhq i (l.drop i)) i hs s) (l.take i) 0 (fun _=>.nil) s):AW P c inr sz (.region id l.toArray true) Q s:=by
 intro r hi σ a w ok st
 cases s with
 |mk tm h nx ds=>
 simp only[AS.tm,AS.h,AS.nx,AS.ds]at ok st ⊢
 have X:=zSi hsw
 have hle:=X.le
 obtain⟨hcl1,hWC⟩:=zty h1
 obtain⟨hcl2,_⟩:=zty h2
 have n1:=zT3 X
 have n2:=zFv X
 have hlt:(l.take i).length=i:=by simp;omega
 have g1:∀k,k<i→(zc3 i l)[k]?=l[k]?:=fun k hk=>by rw[zt6 X,if_neg (by omega)]
 have g2:∀k,k<i→(zcy i l)[k]?=l[k]?:=fun k hk=>by rw[zvi X,if_pos hk]
 obtain⟨S0,v0,p1,_,⟨hs',p2,p3⟩,p4⟩:=zEe (r:=r) hc hG (ops:=(zc3 i l).toArray) (by simpa using hcl1) hWC (l.take i) 0 (fun _=>.nil) tm h nx ds (fun k hk=>by
  rw[hlt]at hk
  rw[Nat.zero_add,List.getElem?_toArray,g1 k hk,List.getElem?_take_of_lt hk]) (by simpa using hw) (fun _=>(tm,h,nx)) (fun _=>.nilFunc) rfl (fun j hj=>by omega)
 rw[hlt,Nat.zero_add]at p2 p3 p4
 obtain⟨p5,p6⟩:=p3
 have ql1:∀k,(zho i (l.drop i))[k]?=(zc3 i l).toArray[i+k]?:=fun k=>by
  rw[List.getElem?_toArray]
  unfold zc3
  rw[List.getElem?_append_right (by omega),hlt,Nat.add_sub_cancel_left]
 have ql2:∀k,(zhq i (l.drop i))[k]?=(zcy i l).toArray[i+k]?:=fun k=>by
  rw[List.getElem?_toArray]
  unfold zcy
  rw[List.getElem?_append_right (by omega),hlt,Nat.add_sub_cancel_left]
 have qn1:i+(zho i (l.drop i)).length=l.length:=by
  rw[← n1];unfold zc3;simp;omega
 have qn2:i+(zhq i (l.drop i)).length=l.length:=by
  rw[← n2];unfold zcy;simp;omega
 obtain⟨S1,v1,a1,a2,a3,a4⟩:=zv5 (r:=r) hc hG (ops:=(zc3 i l).toArray) (by simpa using hcl1) hWC (zho i (l.drop i)) i hs' (S0 i).1 (S0 i).2.1 (S0 i).2.2 ds ql1 (by simpa using p5) S0 v0 rfl p2
 obtain⟨S2,v2,b1,b2,b3,b4⟩:=zv5 (r:=r) hc hG (ops:=(zcy i l).toArray) (by simpa using hcl2) hWC (zhq i (l.drop i)) i hs' (S0 i).1 (S0 i).2.1 (S0 i).2.2 ds ql2 (by simpa using p6) S0 v0 rfl p2
 rw[qn1]at a3 a4
 rw[qn2]at b3 b4
 have hgd:∀(k:Nat) (o:Oper),l[k]?=some o→o.guard=none:=fun k o ho=>X.guard o (List.mem_of_getElem? ho)
 have hgd1:∀k,k<i→∀o,(zc3 i l).toArray[k]?=some o→o.guard=none:=fun k hk o ho=>by
  rw[List.getElem?_toArray,g1 k hk]at ho
  exact hgd k o ho
 have R1:Dr P c r sz (zc3 i l).toArray S1 v1 (fun i=>inL i Wl) (zb1 (zak (zc3 i l) [])):=zss h1 fun j hj=>by
  rw[n1]at hj
  by_cases hji:j<i
  ·exact zym (fun k _=>rfl) (hgd1 j hji) (fun k hk=>a1 k (by omega)) (a2 j hji) (fun e=>e) (p4 j (by omega) hji)
  ·exact a4 j (by omega) hj
 have R2:Dr P c r sz (zcy i l).toArray S2 v2 (fun i=>inL i Wl) (zb1 (zak (zcy i l) [])):=zss h2 fun j hj=>by
  rw[n2]at hj
  by_cases hji:j<i
  ·exact zym (fun k hk=>by rw[List.getElem?_toArray,List.getElem?_toArray,g1 k (by omega),g2 k (by omega)]) (hgd1 j hji) (fun k hk=>b1 k (by omega)) (b2 j hji) (fun e=>X.ord j hji (by simpa using e) |> fun q=>by simpa using q) (p4 j (by omega) hji)
  ·exact b4 j (by omega) hj
 have hS1:S1 0=(tm,h,nx):=by rw[a1 0 (by omega),p1 0 (Nat.le_refl _)]
 have hS2:S2 0=(tm,h,nx):=by rw[b1 0 (by omega),p1 0 (Nat.le_refl _)]
 have hmask:zil l.toArray (zak l []):=zn0 l [] (fun j m hj=>by simp at hj) fun j=>by simp
 have hml:(zak l []).length=l.length:=by
  have key:∀(l:List Oper) (acc:List Nat),(zak l acc).length=acc.length+l.length:=by
   intro l
   induction l with
   |nil=>intro acc;rfl
   |cons o l ih=>
    intro acc
    show (zak l (acc++[moL acc o.after.toList])).length=_
    rw[ih]
    simp
    omega
  simpa using key l []
 refine wpIn_region_any hm ?_
 have hd0:=Post.drawn ok (w.drawn+1)
 generalize hQ:AQ c.G σ h nx w sz Q=QQ
 have hsz:l.toArray.size=l.length:=by simp
 have hget:∀j,l.toArray[j]?=l[j]?:=fun j=>List.getElem?_toArray
 have hrep:∀n i,(Array.replicate n false).getD i false=false:=by
  intro n i
  simp only[Array.getD_eq_getD_getElem?,Array.getElem?_replicate]
  split <;> rfl
 have hback:∀k,k<l.toArray.size→∀x,dir l.toArray x k=true→x<k:=by
  intro k hk x hd
  obtain⟨o,ho,e,he,hb,hx⟩:=zjj.1 hd
  rw[← hx]
  exact X.back k o ho e he hb
 let I:Array Bool→Act→World→Prop:=fun L a' w'=>zf6 l.toArray L∧(∀k,L.getD k false=true→k<l.length)∧
  (DInv c sz (zc3 i l).toArray S1 v1 (fun i=>inL i Wl) σ w a.defers L a' w'∨(L.getD (i+1) false=true∧DInv c sz (zcy i l).toArray S2 v2 (fun i=>inL i Wl) σ w a.defers (zj5 i L) a' w'))
 refine zr2 I ?step ?done l.toArray.size _ a _ (by simp) ?count ?init
 case count=>simp
 case init=>
  refine⟨(fun j hj=>by rw[hrep]at hj;cases hj),(fun k hk=>by rw[hrep]at hk;cases hk),.inl ⟨(fun j hj=>by rw[hrep]at hj;cases hj),(fun k hk=>by rw[hrep]at hk;cases hk),⟨0,σ,by omega,.inl rfl,(fun j hj hw=>⟨(fun e=>by rw[hrep]at e;cases e),(fun e=>by omega)⟩),?_,?_⟩,st.size,rfl⟩⟩
  ·rw[hS1];exact hd0
  ·intro t u e
   have:(TL (zc3 i l).toArray v1 (S1 0).1 (lf (Array.replicate l.toArray.size false)) (zc3 i l).toArray.size).get t=(S1 0).1.get t:=by
    have:=zje (tm:=(S1 0).1) (ops:=(zc3 i l).toArray) (v:=v1) (l:=lf (Array.replicate l.toArray.size false)) (t:=t) 0 (zc3 i l).toArray.size fun j _ _ _=>hrep _ j
    rw[Nat.zero_add]at this
    exact this
   rw[this,hS1]at e
   exact st.tm t u e
 case done=>
  intro L a' w' hs hI hr
  have hall:=zs1 hback hr hs
  rw[hsz]at hall hs
  obtain⟨_,_,hI⟩:=hI
  have fin:∀{ops:List Oper} {S:Nat→Tr AV×Tr ABlk×Nat} {v:Nat→AV} {bef:Nat→Nat→Bool} {M:Array Bool},ops.length=l.length→Dr P c r sz ops.toArray S v (fun i=>inL i Wl) bef→S 0=(tm,h,nx)→Q .norm (.mk (S l.length).1 (S l.length).2.1 (S l.length).2.2 ds)→(∀k,k<l.length→M.getD k false=true)→DInv c sz ops.toArray S v (fun i=>inL i Wl) σ w a.defers M a' w'→QQ .normal a' w':=by
   intro ops S v bef M hn R hS hq hM D
   have hso:ops.toArray.size=l.length:=by simp[hn]
   obtain⟨p,τ,hp,hp0,hpos,hpost,htm⟩:=D.pos
   rw[hso]at hp hpos htm
   have hnoW:∀j,p≤j→j<p+(l.length-p)→inL j Wl=false:=by
    intro j h1 h2
    cases hw:inL j Wl with
    |false=>rfl
    |true=>
     have:=(hpos j (by omega) hw).1 (hM j (by omega))
     omega
   have hsame:=R.same p (l.length-p) (by rw[hso];omega) hnoW
   rw[Nat.add_sub_cancel' hp]at hsame
   rw[← hQ]
   refine⟨.norm,_,_,_,ds,τ,rfl,?_,⟨?_,D.size,?_⟩,hq⟩
   ·rw[hsame,hS]at hpost
    exact hpost
   ·intro t u e
    refine htm t u ?_
    rw[R.text l.length (by rw[hso];exact Nat.le_refl _) t]at e
    rw[← e]
    exact zk6 l.length fun j hj _=>hM j hj
   ·rw[D.defers];exact st.defers.mono hpost.le
  rcases hI with D |⟨_,D⟩
  ·exact fin n1 R1 hS1 a3 hall D
  ·refine fin n2 R2 hS2 b3 (fun k hk=>?_) D
   rw[zke (by omega)]
   exact hall _ (zt0 hle hk)
 case step=>
  intro L a' w' k hs hI hk
  obtain⟨hin,hnl0,hdeps⟩:=zkq.1 hk
  rw[hsz]at hin hs
  have hkL:k<L.size:=by omega
  have hnl:L.getD k false=false:=by simpa[Array.getD,hkL]using hnl0
  obtain⟨hcl,hinn,hI⟩:=hI
  have hset:∀j,(L.setIfInBounds k true).getD j false=if j=k then true else L.getD j false:=fun j=>zjs hkL
  have hcl':zf6 l.toArray (L.setIfInBounds k true):=by
   intro j hj q hq
   rw[hset]at hj ⊢
   by_cases hqk:q=k
   ·rw[if_pos hqk]
   ·rw[if_neg hqk]
    by_cases hjk:j=k
    ·subst hjk;exact hdeps q hq
    ·rw[if_neg hjk]at hj
     exact hcl j hj q hq
  have hinn':∀j,(L.setIfInBounds k true).getD j false=true→j<l.length:=by
   intro j hj
   rw[hset]at hj
   by_cases hjk:j=k
   ·omega
   ·rw[if_neg hjk]at hj;exact hinn j hj
  obtain⟨o,ho⟩:∃o,l[k]?=some o:=⟨_,List.getElem?_eq_getElem hin⟩
  have by2:DInv c sz (zcy i l).toArray S2 v2 (fun i=>inL i Wl) σ w a.defers (zj5 i L) a' w'→(k=i+1∨L.getD (i+1) false=true)→wpOpIn (zbb r) 0 P l.toArray QQ k (I (L.setIfInBounds k true)) a' w':=by
   intro D hord
   obtain⟨o',ho',hso⟩:=zQr X ho
   refine zCl (by rw[hget];exact ho) (k':=pi2 i k) (by rw[List.getElem?_toArray];exact ho') hso (hgd k o ho) (wpOpIn_mono (fun a2 w2 q=>?_) (R2.stepI (QQ:=QQ) (i:=pi2 i k) (by simp[zj5,n2];omega) D (by simp[n2];exact zt0 hle hin) (by rw[zke (by omega),zjc];exact hnl) fun x hx=>?_))
   ·refine⟨hcl',hinn',.inr ⟨?_,q.congr fun j=>?_⟩⟩
    ·rw[hset]
     rcases hord with e |e
     ·rw[if_pos e.symm]
     ·by_cases e2:i+1=k
      ·rw[if_pos e2]
      ·rw[if_neg e2];exact e
    rw[zjs (by simp[zj5];have:=zt0 hle hin;omega),zke (by omega),zke (by simp;omega),hset]
    by_cases e:j=pi2 i k
    ·rw[if_pos e,if_pos (by rw[e,zjc])]
    ·rw[if_neg e,if_neg (fun e2=>e (by rw[← e2,zjc]))]
   ·rw[zke (by omega)]
    rcases zC5 X hx with hd |⟨e1,e2⟩
    ·rw[zjc]at hd
     exact hdeps _ hd
    ·have hki:k=i:=by
      have:=congrArg (pi2 i) e1
      rw[zjc]at this
      rw[this]
      simp[pi2]
     rw[e2]
     have:pi2 i i=i+1:=by simp[pi2]
     rw[this]
     rcases hord with e |e
     ·omega
     ·exact e
  rcases hI with D |⟨hsec,D⟩
  ·by_cases hord:k=i+1∧L.getD i false=false
   ·
    obtain⟨hk1,hi0⟩:=hord
    subst hk1
    have hhigh:∀j,i+2≤j→L.getD j false=false:=by
     intro j hj
     cases hl:L.getD j false with
     |false=>rfl
     |true=>
      exfalso
      have hjl:=hinn j hl
      obtain⟨mm,hmm⟩:∃mm,(zak l [])[j]?=some mm:=⟨_,List.getElem?_eq_getElem (by omega)⟩
      have hb:=(X.bef j hj hjl).1
      unfold zb1 at hb
      rw[zln]at hb
      have e:(zak l []).getD j 0=mm:=by simp[List.getD,hmm]
      rw[e]at hb
      have:=hmask j mm hmm i hb L hcl fun q hq=>hcl j hl q hq
      rw[hi0]at this
      cases this
    have hunl:∀j,i≤j→L.getD j false=false:=by
     intro j hj
     by_cases e1:j=i
     ·rw[e1];exact hi0
     ·by_cases e2:j=i+1
      ·rw[e2];exact hnl
      ·exact hhigh j (by omega)
    have hsw:∀j,(zj5 i L).getD j false=L.getD j false:=by
     intro j
     rw[zke (by omega)]
     by_cases hj:j<i
     ·rw[zob hj]
     ·rw[hunl j (by omega),hunl]
      unfold pi2
      (repeat' split) <;> omega
    refine by2 ?_ (.inl rfl)
    obtain⟨i1,i2,⟨p,τ,q1,q2,q3,q4,q5⟩,i4,i5⟩:=D
    have hs1:(zc3 i l).toArray.size=l.length:=by simp[n1]
    have hs2:(zcy i l).toArray.size=l.length:=by simp[n2]
    rw[hs1]at q1 q3 q5
    have hpi:p≤i:=by
     rcases Nat.lt_or_ge i p with h3 |h3
     ·have:=(q3 i (by omega) X.w1).2 h3
      rw[hi0]at this
      cases this
     ·exact h3
    refine⟨fun j hj q hq=>?_,fun j hj=>?_,⟨p,τ,by rw[hs2];exact q1,q2,fun j hj hw=>?_,?_,?_⟩,i4,i5⟩
    ·rw[hsw]at hj
     have hji:j<i:=by
      rcases Nat.lt_or_ge j i with h3 |h3
      ·exact h3
      ·rw[hunl j h3]at hj;cases hj
     rcases zC5 X hq with hd |⟨e1,_⟩
     ·rw[zke (by omega)]
      rw[zob hji]at hd
      exact hcl j hj _ hd
     ·omega
    ·rw[hsw]at hj
     rw[hs2]
     exact hinn j hj
    ·rw[hs2]at hj
     rw[hsw]
     exact q3 j hj hw
    ·rw[b1 p hpi,b1 0 (by omega)]
     rw[a1 p hpi,a1 0 (by omega)]at q4
     exact q4
    ·intro t u e
     refine q5 t u ?_
     rw[← e,hs2]
     have st1:=zje (tm:=(S1 0).1) (ops:=(zc3 i l).toArray) (v:=v1) (l:=lf L) (t:=t) i (l.length-i) fun j hj1 _ _=>hunl j hj1
     have st2:=zje (tm:=(S2 0).1) (ops:=(zcy i l).toArray) (v:=v2) (l:=lf (zj5 i L)) (t:=t) i (l.length-i) fun j hj1 _ _=>by
      show (zj5 i L).getD j false=false
      rw[hsw]
      exact hunl j hj1
     rw[Nat.add_sub_cancel' (by omega)]at st1 st2
     rw[st1,st2,hS1,hS2]
     congr 1
     exact(zyz i fun q hq=>⟨by rw[List.getElem?_toArray,List.getElem?_toArray,g1 q hq,g2 q hq],by rw[a2 q hq,b2 q hq],(hsw q).symm⟩)
   ·obtain⟨o',ho',hso⟩:=zPj X ho
    refine zCl (by rw[hget];exact ho) (k':=k) (by rw[List.getElem?_toArray];exact ho') hso (hgd k o ho) (wpOpIn_mono (fun a2 w2 q=>⟨hcl',hinn',.inl q⟩) (R1.stepI (QQ:=QQ) (i:=k) (by simp[n1];omega) D (by simp[n1];exact hin) hnl fun x hx=>?_))
    rcases zTc X hx with hd |⟨e1,e2⟩
    ·exact hdeps x hd
    ·rw[e2]
     cases hl:L.getD i false with
     |true=>rfl
     |false=>exact absurd ⟨e1,hl⟩ hord
  ·exact by2 D (.inr hsec)
end
end Go.Ev
namespace Go.Ev
noncomputable section
variable {P : Program} {c c' : Cx} {σ τ υ : Sg} {h g f : Tr ABlk} {nx ny nz sz : Nat} {ds : List DE} {w x y : World} {tm : Tr AV} {a : Act} {G : Gl}
mutual
def nfV:AV→Bool
 |.bool _=>true
 |.int _ _=>true
 |.str _ _=>true
 |.bs _=>true
 |.ptr0=>true
 |.sl0=>true
 |.map0=>true
 |.nilFunc=>true
 |.nilIface=>true
 |.agg l=>nfL l
 |.tup l=>nfL l
 |.iface _ v=>nfV v
 |.func _ l m=>match nfL l with
  |true=>nfL m
  |false=>false
 |.ip l=>nfL l
 |.fz _ _ l=>nfL l
 |.ptr _ _=>false
 |.sl _ _ _ _ _=>false
 |.map _=>false
 |.yld _=>false
 |.opq _=>false
def nfL:List AV→Bool
 |[]=>true
 |v::l=>match nfV v with
  |true=>nfL l
  |false=>false
end
theorem zO2 {v:AV}{l:List AV}(h:nfL (v::l)=true):nfV v=true∧nfL l=true:=by
 simp only[nfL]at h
 cases hv:nfV v with
 |true=>rw[hv]at h;exact⟨rfl,h⟩
 |false=>rw[hv]at h;cases h
mutual
theorem Rel.nf (hi:∀b C,σ.imm b=some C→τ.imm b=some C):∀(v:AV)(V:Value),nfV v=true→Rel σ v V→Rel τ v V
 |.bool b,V,_,h=>by simpa only[Rel]using h
 |.int k n,V,_,h=>by simpa only[Rel]using h
 |.str l n,V,_,h=>by simpa only[Rel]using h
 |.bs b,V,_,h=>by simpa only[Rel]using h
 |.ptr0,V,_,h=>by simpa only[Rel]using h
 |.sl0,V,_,h=>by simpa only[Rel]using h
 |.map0,V,_,h=>by simpa only[Rel]using h
 |.nilFunc,V,_,h=>by simpa only[Rel]using h
 |.nilIface,V,_,h=>by simpa only[Rel]using h
 |.ptr _ _,V,n,_=>by simp[nfV]at n
 |.sl _ _ _ _ _,V,n,_=>by simp[nfV]at n
 |.map _,V,n,_=>by simp[nfV]at n
 |.yld _,V,n,_=>by simp[nfV]at n
 |.opq _,V,n,_=>by simp[nfV]at n
 |.agg l,V,n,h=>by
  simp only[nfV]at n
  simp only[Rel]at h ⊢
  obtain⟨L,e,q⟩:=h
  exact⟨L,e,za1.nf hi l L n q⟩
 |.tup l,V,n,h=>by
  simp only[nfV]at n
  simp only[Rel]at h ⊢
  obtain⟨L,e,q⟩:=h
  exact⟨L,e,za1.nf hi l L n q⟩
 |.iface t v,V,n,h=>by
  simp only[nfV]at n
  simp only[Rel]at h ⊢
  obtain⟨U,e,q⟩:=h
  exact⟨U,e,Rel.nf hi v U n q⟩
 |.func fn l m,V,n,h=>by
  simp only[nfV]at n
  simp only[Rel]at h ⊢
  obtain⟨A,C,e,q1,q2⟩:=h
  cases hl:nfL l with
  |false=>rw[hl]at n;cases n
  |true=>
   rw[hl]at n
   exact⟨A,C,e,za1.nf hi l A hl q1,za1.nf hi m C n q2⟩
 |.ip l,V,n,h=>by
  simp only[nfV]at n
  simp only[Rel]at h ⊢
  obtain⟨b,o,C,L,e,h1,h2,h3⟩:=h
  exact⟨b,o,C,L,e,hi b C h1,za1.nf hi l L n h2,h3⟩
 |.fz es full l,V,n,h=>by
  simp only[nfV]at n
  simp only[Rel]at h ⊢
  obtain⟨a,cap,e,g1,g2,g4,g3⟩:=h
  refine⟨a,cap,e,g1,g2,g4,fun hx=>?_⟩
  obtain⟨b,o,C,L,e1,h1,h2,h3⟩:=g3 hx
  exact⟨b,o,C,L,e1,hi b C h1,za1.nf hi l L n h2,h3⟩
theorem za1.nf (hi:∀b C,σ.imm b=some C→τ.imm b=some C):∀(l:List AV)(L:List Value),nfL l=true→za1 σ l L→za1 τ l L
 |[],L,_,h=>by simpa only[za1]using h
 |v::l,L,n,h=>by
  obtain⟨n1,n2⟩:=zO2 n
  simp only[za1]at h ⊢
  obtain⟨V,L',e,q1,q2⟩:=h
  exact⟨V,L',e,Rel.nf hi v V n1 q1,za1.nf hi l L' n2 q2⟩
end
theorem Ret.of_nil (hG:∀g cs,c.G.tab g=some cs→nfL cs=true){fid:FuncId}{args:List AV}{u:AV}(ha:nfL args=true)(hu:nfV u=true)
  (hc:za7 P c fid args .nil c.G.n fun v g _=>Ext c.G.n .nil g∧Fz g c.G.n v u):Ret P c fid args u:=by
 intro h nx σ w A hk hA
 let σ0:Sg:={ blk:=fun i=>if i<c.G.n then some i else none,cap:=σ.cap,opq:=σ.opq,imm:=σ.imm }
 have hk0:Ok c.G σ0 .nil c.G.n w:=by
  refine⟨fun g hg=>if_pos hg,Nat.le_refl _,fun i hi=>if_neg (by omega),(fun i j b B B' h1=>by cases h1),(fun i B h1=>by cases h1),(fun b C hb=>⟨(hk.imm b C hb).1,(fun i B h1=>by cases h1)⟩),fun g cs hg=>?_⟩
  exact Rel.nf (σ:=σ) (τ:=σ0) (fun _ _ e=>e) (.ip cs) _ (by simpa only[nfV]using hG g cs hg) (hk.gl g cs hg)
 refine(hc σ0 w A hk0 (za1.nf (σ:=σ) (τ:=σ0) (fun _ _ e=>e) args A ha hA)).mono fun V x q=>?_
 obtain⟨τ,v,g,ny,q1,q2,q3,q4⟩:=q
 have p:=Post.frz hk0 q2 q3
 have hV:=q4.rel q2.ok V q1
 let τ':Sg:={ blk:=σ.blk,cap:=σ.cap,opq:=σ.opq,imm:=(τ.frz x g c.G.n).imm }
 have hle:σ.Le τ':=⟨fun _ _ e=>⟨e,rfl⟩,rfl,fun b C hb=>p.le.imm b C hb⟩
 have hkeep:∀b,b<w.heap.size→x.heap[b]?=w.heap[b]?:=fun b hb=>p.fr.keep b hb fun i B hi=>by cases hi
 refine⟨τ',u,h,nx,Rel.nf (σ:=τ.frz x g c.G.n) (τ:=τ') (fun _ _ e=>e) u V hu hV,⟨⟨hk.glob,hk.le,hk.fresh,hk.inj,fun i B h1=>?_,fun b C hb=>⟨(p.ok.imm b C hb).1,fun i B h1 e=>?_⟩,fun i cs hi=>(hk.gl i cs hi).mono hle⟩,hle,⟨p.fr.os,p.fr.tape,p.fr.output,p.fr.size,fun b hb _=>hkeep b hb,fun i B b h1 h2=>.inr ⟨i,B,h1,h2⟩,fun b C hb=>?_⟩,Nat.le_refl _⟩,rfl,rfl,rfl⟩
 ·obtain⟨b,o,r1,r2,r3⟩:=hk.blk i B h1
  exact⟨b,o,r1,by rw[hkeep b (zl1 r2)];exact r2,r3.mono hle r1⟩
 ·rcases p.fr.imm b C hb with h2 |h2 |⟨j,B',hj,_⟩
  ·exact(hk.imm b C h2).2 i B h1 e
  ·have:=hk.blt h1 e
   omega
  ·cases hj
 ·rcases p.fr.imm b C hb with h2 |h2 |⟨j,B',hj,_⟩
  ·exact .inl h2
  ·exact .inr (.inl h2)
  ·cases hj
mutual
inductive Wk:AV→AV→Prop
 |same (v:AV):Wk v v
 |sl0 (es:Nat) (full:Bool):Wk .sl0 (.fz es full [])
 |full (es:Nat) (l m:List AV) (full:Bool):WkL l m→Wk (.fz es full l) (.fz es false m)
 |fz (es:Nat) (l m:List AV) (full:Bool):WkL l m→Wk (.fz es full l) (.fz es full m)
 |agg (l m:List AV):WkL l m→Wk (.agg l) (.agg m)
 |tup (l m:List AV):WkL l m→Wk (.tup l) (.tup m)
 |ip (l m:List AV):WkL l m→Wk (.ip l) (.ip m)
 |str (l n:Nat):Wk (.str l n) (.bs (zai l n))
inductive WkL:List AV→List AV→Prop
 |nil:WkL [] []
 |cons (v u:AV) (l m:List AV):Wk v u→WkL l m→WkL (v::l) (u::m)
end
theorem WkL.len:∀{l m:List AV},WkL l m→m.length=l.length
 |_,_,.nil=>rfl
 |_,_,.cons _ _ _ _ _ h=>by simp[h.len]
theorem WkL.refl:∀l:List AV,WkL l l
 |[]=>.nil
 |v::l=>.cons _ _ _ _ (.same v) (WkL.refl l)
mutual
theorem Wk.rel:∀{v u:AV},Wk v u→∀V,Rel σ v V→Rel σ u V
 |_,_,.same v,V,h=>h
 |_,_,.sl0 es full,V,h=>by
  simp only[Rel]at h ⊢
  exact⟨none,0,h,by simp,by simp,by simp,by simp⟩
 |_,_,.full es l m full hl,V,h=>by
  have e:=hl.len
  simp only[Rel]at h ⊢
  rw[e]
  obtain⟨a,cap,e,g1,g2,g4,g3⟩:=h
  refine⟨a,cap,e,g1,(fun e=>by cases e),g4,fun hx=>?_⟩
  obtain⟨b,o,C,L,e1,h1,h2,h3⟩:=g3 hx
  exact⟨b,o,C,L,e1,h1,WkL.rel hl L h2,h3⟩
 |_,_,.fz es l m full hl,V,h=>by
  have e:=hl.len
  simp only[Rel]at h ⊢
  rw[e]
  obtain⟨a,cap,e,g1,g2,g4,g3⟩:=h
  refine⟨a,cap,e,g1,g2,g4,fun hx=>?_⟩
  obtain⟨b,o,C,L,e1,h1,h2,h3⟩:=g3 hx
  exact⟨b,o,C,L,e1,h1,WkL.rel hl L h2,h3⟩
 |_,_,.agg l m hl,V,h=>by
  simp only[Rel]at h ⊢
  obtain⟨L,e,q⟩:=h
  exact⟨L,e,WkL.rel hl L q⟩
 |_,_,.tup l m hl,V,h=>by
  simp only[Rel]at h ⊢
  obtain⟨L,e,q⟩:=h
  exact⟨L,e,WkL.rel hl L q⟩
 |_,_,.ip l m hl,V,h=>by
  simp only[Rel]at h ⊢
  obtain⟨b,o,C,L,e,h1,h2,h3⟩:=h
  exact⟨b,o,C,L,e,h1,WkL.rel hl L h2,h3⟩
 |_,_,.str l n,V,h=>by
  simp only[Rel]at h ⊢
  exact h.2
theorem WkL.rel:∀{l m:List AV},WkL l m→∀L,za1 σ l L→za1 σ m L
 |_,_,.nil,L,h=>h
 |_,_,.cons v u l m h1 h2,L,h=>by
  simp only[za1]at h ⊢
  obtain⟨V,L',e,q1,q2⟩:=h
  exact⟨V,L',e,Wk.rel h1 V q1,WkL.rel h2 L' q2⟩
end
theorem za7.wk {fid:FuncId}{args args':List AV}{R:AV→Tr ABlk→Nat→Prop}(ha:WkL args args')(hc:za7 P c fid args' h nx R):za7 P c fid args h nx R:=
 fun σ w A ok hA=>hc σ w A ok (ha.rel A hA)
theorem za7.wkR {fid:FuncId}{args:List AV}{R S:AV→Tr ABlk→Nat→Prop}(hc:za7 P c fid args h nx R)(hr:∀v g ny,R v g ny→∃u,Wk v u∧S u g ny):za7 P c fid args h nx S:=
 fun σ w A ok hA=>(hc σ w A ok hA).mono fun V x ⟨τ,v,g,ny,h1,h2,h3⟩=>by
  obtain⟨u,e1,e2⟩:=hr v g ny h3
  exact⟨τ,u,g,ny,e1.rel V h1,h2,e2⟩
theorem Ret.wk {fid:FuncId}{args args':List AV}{u u':AV}(hc:Ret P c fid args' u)(ha:WkL args args')(hu:Wk u u'):Ret P c fid args u':=
 fun h nx=>za7.wk ha ((hc h nx).wkR fun v g ny ⟨e1,e2,e3⟩=>⟨u',by rw[e1];exact hu,rfl,e2,e3⟩)
theorem za7.tab (hn:c'.G.n=c.G.n)(ht:∀g cs,c.G.tab g=some cs→c'.G.tab g=some cs){fid:FuncId}{args:List AV}{R:AV→Tr ABlk→Nat→Prop}(hc:za7 P c fid args h nx R):za7 P c' fid args h nx R:=by
 intro σ w A ok hA
 have ok0:Ok c.G σ h nx w:=⟨fun g hg=>ok.glob g (by rw[hn];exact hg),by rw[← hn];exact ok.le,ok.fresh,ok.inj,ok.blk,ok.imm,fun g cs hg=>ok.gl g cs (ht g cs hg)⟩
 refine(hc σ w A ok0 hA).mono fun V x ⟨τ,v,g,ny,h1,h2,h3⟩=>⟨τ,v,g,ny,h1,⟨?_,h2.le,h2.fr,h2.nx⟩,h3⟩
 exact⟨fun g hg=>h2.ok.glob g (by rw[← hn];exact hg),by rw[hn];exact h2.ok.le,h2.ok.fresh,h2.ok.inj,h2.ok.blk,h2.ok.imm,fun g cs hg=>(ok.gl g cs hg).mono h2.le⟩
theorem Ret.tab (hn:c'.G.n=c.G.n)(ht:∀g cs,c.G.tab g=some cs→c'.G.tab g=some cs){fid:FuncId}{args:List AV}{u:AV}(hc:Ret P c fid args u):Ret P c' fid args u:=
 fun h nx=>(hc h nx).tab hn ht
end
end Go.Ev
namespace Go.Ev
open Go.Sort
noncomputable section
variable {P : Program} {c : Cx} {σ τ υ : Sg} {h g f : Tr ABlk} {nx ny nz sz : Nat} {w x y : World}
theorem zni (hc:CxOk P c){fid:FuncId}{fn:Func}(hft:c.ft.get fid=some fn){A:Array Value}{Q:Value→World→Prop}(hC:Calls P fid A w fun e x=>match e with |.returned v=>Q v x |_=>False):CR P fid A w Q:=by
 obtain⟨hf,hcall⟩:=hc.ft fid fn hft
 unfold CR
 rw[hcall]
 exact hC
theorem zxi (hc:CxOk P c){fid:FuncId}{fn:Func}(hft:c.ft.get fid=some fn){args:List AV}{R:AV→Tr ABlk→Nat→Prop}
  (hC:∀(σ:Sg) (w:World) (A:List Value),Ok c.G σ h nx w→za1 σ args A→Calls P fid A.toArray w fun e x=>∃V u k os,e=.returned V∧Rel σ u V∧R u h nx∧x=grow (Go.Sort.ahead w k) os):za7 P c fid args h nx R:=by
 intro σ w A hk hA
 refine zni hc hft ((hC σ w A hk hA).mono fun e x q=>?_)
 obtain⟨V,u,k,os,rfl,h1,h2,rfl⟩:=q
 refine⟨σ,u,h,nx,h1,?_,h2⟩
 refine Post.same hk rfl rfl rfl ?_ fun b hb=>?_
 ·simp[grow,Go.Sort.ahead]
 ·rw[heap_grow_old _ _ (by simpa[Go.Sort.ahead]using hb)]
  rfl
theorem zum (hc:CxOk P c){fid:FuncId}{fn:Func}(hft:c.ft.get fid=some fn){α:Type} [Inhabited α] (enc:α→AV)(encV:α→Value)(hE:∀σ x V,Rel σ (enc x) V↔V=encV x)
  {i o n cp esz:Nat} {t:TypeId} {opn opn':Bool} {rest:List AV} {l:List α} {R:AV→Tr ABlk→Nat→Prop} (hg:h.get i=some (bx t (l.map enc) opn' esz)) (hl:o+n≤l.length)
  (RR:List α→AV→Prop)
  (hC:∀(σ:Sg) (w:World) (RA:List Value) (b cap:Nat),Ok c.G σ h nx w→za1 σ rest RA→Holds encV w b o ((l.drop o).take n).toArray→b<w.heap.size→σ.blk i=some b→cap=(if opn then σ.cap i-cp else cp)→n≤cap→Calls P fid (.slice (some ⟨b,o,none⟩) n cap::RA).toArray w fun e x=>∃V u k os d,e=.returned V∧Rel σ u V∧d.length=n∧RR d u∧x=grow (putRow encV (Go.Sort.ahead w k) b o d.toArray) os)
  (hR:∀d u,d.length=n→RR d u→R u (h.put i (some (bx t ((l.take o++(d++l.drop (o+n))).map enc) opn' esz))) nx):za7 P c fid (.sl i o n cp opn::rest) h nx R:=by
 intro σ w A hk hA
 simp only[za1,Rel]at hA
 obtain⟨V0,RA,rfl,⟨b,hb,rfl,hcap⟩,hRA⟩:=hA
 obtain⟨b',o',hb',ho,hr⟩:=hk.blk i _ hg
 rw[hb]at hb'
 cases hb'
 simp only[bx,zao]at hr
 obtain⟨C,fr,rfl,h1,h2,h3⟩:=hr
 have hcell:∀(k:Nat) (x:α),l[k]?=some x→C[k]?=some (encV x):=by
  intro k x hx
  have hk2:k<l.length:=by
   rcases Nat.lt_or_ge k l.length with q |q
   ·exact q
   ·rw[List.getElem?_eq_none q]at hx;cases hx
  obtain⟨v,V,e1,e2,e3⟩:=h1 k (by simpa using hk2)
  rw[zbt,List.getElem?_map,hx]at e1
  cases e1
  rw[e2,(hE σ x V).1 e3]
 have hCs:l.length≤C.size:=by
  rcases Nat.eq_zero_or_pos l.length with q |q
  ·omega
  ·have hx:l[l.length-1]?=some l[l.length-1]:=List.getElem?_eq_getElem (by omega)
   have:=hcell _ _ hx
   have:l.length-1<C.size:=by
    rcases Nat.lt_or_ge (l.length-1) C.size with q2 |q2
    ·exact q2
    ·rw[Array.getElem?_eq_none q2]at this;cases this
   omega
 have hH:Holds encV w b o ((l.drop o).take n).toArray:=by
  intro j hj
  have hj':j<n:=by simp at hj;omega
  have hlt:o+j<l.length:=by omega
  have hfr:=h2 (o+j) (by omega)
  have e0:((l.drop o).take n).toArray[j]! = l[o+j]:=by
   rw[getElem!_pos _ j hj]
   simp
  refine⟨?_,?_⟩
  ·rw[e0]
   simp only[World.cell?,ho]
   have:=hcell (o+j) _ (List.getElem?_eq_getElem hlt)
   simpa using this
  ·simp only[World.frozen?,ho]
   simp
   omega
 refine zni hc hft ((hC σ w RA b _ hk hRA hH (hk.blt hg hb) hb rfl hcap).mono fun e x q=>?_)
 obtain⟨V,u,k,os,d,rfl,q1,q2,q3,rfl⟩:=q
 refine⟨σ,u,_,nx,q1,?_,hR d u q2 q3⟩
 have hputlen:(putCells encV o d.toArray C).size=C.size:=by simp[putCells]
 have hpc:∀k,(putCells encV o d.toArray C)[k]?=if o≤k∧k<o+n∧k<C.size then some (encV (d.toArray[k-o]!)) else C[k]?:=by
  intro k
  simp only[putCells]
  rw[Array.getElem?_mapIdx]
  by_cases hkc:k<C.size
  ·rw[Array.getElem?_eq_getElem hkc]
   by_cases hc2:o≤k∧k<o+n
   ·rw[if_pos ⟨hc2.1,hc2.2,hkc⟩]
    simp[q2,hc2]
   ·rw[if_neg (by omega)]
    simp only[Option.map_some,List.size_toArray,q2]
    rw[if_neg hc2]
  ·rw[Array.getElem?_eq_none (by omega),if_neg (by omega)]
   rfl
 have pd:=Post.drawn hk (w.drawn+k)
 have ps:=Post.set pd.ok hg hb (bx t ((l.take o++(d++l.drop (o+n))).map enc) opn' esz) (.cells (putCells encV o d.toArray C) t fr) (by
  simp only[bx,zao]
  have hlen:((l.take o++(d++l.drop (o+n))).map enc).length=l.length:=by
   simp[q2]
   omega
  refine⟨_,fr,rfl,fun j hj=>?_,fun j hj=>h2 j (by rw[hputlen]at hj;exact hj),?_⟩
  ·rw[hlen]at hj
   rw[zbt,List.getElem?_map,hpc j]
   by_cases hj1:j<o
   ·rw[if_neg (by omega),List.getElem?_append_left (by simp;omega),List.getElem?_take_of_lt hj1,List.getElem?_eq_getElem hj]
    exact⟨_,_,rfl,hcell j _ (List.getElem?_eq_getElem hj),(hE σ _ _).2 rfl⟩
   ·rw[List.getElem?_append_right (by simp;omega),show (l.take o).length=o by simp;omega]
    by_cases hj2:j<o+n
    ·have hd:j-o<d.length:=by omega
     rw[if_pos (by omega),List.getElem?_append_left hd,List.getElem?_eq_getElem hd]
     refine⟨_,_,rfl,rfl,(hE σ _ _).2 ?_⟩
     rw[getElem!_pos _ _ (by simpa using hd)]
     simp
    ·rw[if_neg (by omega),List.getElem?_append_right (by omega),List.getElem?_drop,q2,show o+n+(j-o-n)=j by omega,List.getElem?_eq_getElem hj]
     exact⟨_,_,rfl,hcell j _ (List.getElem?_eq_getElem hj),(hE σ _ _).2 rfl⟩
  ·rw[hlen,hputlen]
   simpa using h3)
 have pp:=pd.trans ps
 refine pp.trans (Post.same pp.ok ?_ ?_ ?_ ?_ ?_)
 ·rfl
 ·rfl
 ·rfl
 ·simp[grow,putRow,mapBlock,Go.Sort.ahead]
 ·intro k' hk'
  rw[heap_grow_old _ _ (by simpa[putRow,mapBlock,Go.Sort.ahead]using hk')]
  simp only[putRow,mapBlock,Go.Sort.ahead,Array.getElem?_modify]
  simp only[Array.getElem?_setIfInBounds]
  by_cases e:b=k'
  ·subst e
   rw[if_pos rfl,if_pos rfl,ho]
   have:=hk.blt hg hb
   simp[onCells,this]
  ·rw[if_neg e,if_neg e]
theorem zyj (hc:CxOk P c){fid:FuncId}{fn:Func}(hft:c.ft.get fid=some fn){α:Type} [Inhabited α] (enc:α→AV)(encV:α→Value)(hE:∀σ x V,Rel σ (enc x) V↔V=encV x)
  {i o n cp esz:Nat} {t:TypeId} {opn opn':Bool} {rest:List AV} {l:List α} {R:AV→Tr ABlk→Nat→Prop} (hg:h.get i=some (bx t (l.map enc) opn' esz)) (hl:o+n≤l.length)
  (RR:List α→AV→Prop)
  (hC:∀(σ:Sg) (w:World) (RA:List Value) (b cap:Nat),Ok c.G σ h nx w→za1 σ rest RA→Holds encV w b o ((l.drop o).take n).toArray→b<w.heap.size→Calls P fid (.slice (some ⟨b,o,none⟩) n cap::RA).toArray w fun e x=>∃V u k os d,e=.returned V∧Rel σ u V∧d.length=n∧RR d u∧x=grow (putRow encV (Go.Sort.ahead w k) b o d.toArray) os)
  (hR:∀d u,d.length=n→RR d u→R u (h.put i (some (bx t ((l.take o++(d++l.drop (o+n))).map enc) opn' esz))) nx):za7 P c fid (.sl i o n cp opn::rest) h nx R:=
 zum hc hft enc encV hE hg hl RR (fun σ w RA b cap a1 a2 a3 a4 _ _ _=>hC σ w RA b cap a1 a2 a3 a4) hR
end
end Go.Ev
