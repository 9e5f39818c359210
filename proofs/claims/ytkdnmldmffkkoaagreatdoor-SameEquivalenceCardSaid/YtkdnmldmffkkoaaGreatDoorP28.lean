/- Texts. -/
import Derived.Lib.Bytealg
import Derived.Test.YtkdnmldmffkkoaaGreatDoorP27
set_option linter.unusedSimpArgs false
set_option linter.unusedVariables false
set_option maxRecDepth 100000
namespace Go.Ev
noncomputable section
variable {P : Program} {c : Cx} {σ τ υ : Sg} {h g f : Tr ABlk} {nx ny nz sz : Nat} {w x y : World} {tm tm' : Tr AV} {a : Act}
def Kp (h:Tr ABlk) (nx:Nat):R→Prop
 |.val _ g ny=>g=h∧ny=nx
 |.unit _ _=>False
 |.fail=>True
theorem Kp.bR {α:Type}{o:Option α}{k:α→R}(hh:∀v,Kp h nx (k v)):Kp h nx (bR o k):=by
 cases o with
 |none=>trivial
 |some v=>exact hh v
theorem Kp.val {v:AV}:Kp h nx (.val v h nx):=⟨rfl,rfl⟩
theorem Kp.fI {z:Int}{k:Int→R}(hh:∀v,Kp h nx (k v)):Kp h nx (fI z k):=by rw[fI_eq];exact hh z
theorem Kp.fN {z:Nat}{k:Nat→R}(hh:∀v,Kp h nx (k v)):Kp h nx (fN z k):=by rw[fN_eq];exact hh z
theorem Kp.vInt {n:Nat}:Kp h nx (vInt n h nx):=Kp.fN fun _=>.val
theorem Kp.vBool {b:Bool}:Kp h nx (vBool b h nx):=by cases b <;> exact .val
theorem zJ2 (ti:TI)(a:AV):Kp h nx (jm ti a h nx):=by
 unfold jm
 repeat' split
 all_goals first |exact .val |trivial
theorem zOg (op:BinOp)(k:IntKind) (a b:Int):Kp h nx (gK op k a b h nx):=by
 unfold gK;simp only
 repeat' split
 all_goals first |exact .val |exact Kp.fI fun _=>.val |trivial
theorem zLo (op:BinOp)(k:IntKind) (a b:Int):Kp h nx (tz op k a b h nx):=by
 unfold tz
 repeat' split
 all_goals first |exact Kp.fI fun _=>.val |exact Kp.fN fun _=>.val |trivial
theorem zQf (op:BinOp) (l n k m:Nat):Kp h nx (yX op l n k m h nx):=by
 unfold yX;simp only
 repeat' split
 all_goals first |exact .val |exact Kp.fN fun _=>Kp.fN fun _=>.val |trivial
theorem zOr (ti:TI)(eqs:Option (List (Nat×TypeDesc)))(b:Bool)(op:BinOp)(x y:AV):Kp h nx (wX ti eqs b op x y h nx):=by
 unfold wX
 repeat' split
 all_goals first |exact Kp.vBool |trivial
theorem zUf (op:BinOp)(a b:ByteArray):Kp h nx (gH op a b h nx):=by
 unfold gH
 repeat' split
 all_goals first |exact .val |exact Kp.vBool |trivial
theorem zP7 (ti:TI)(eqs:Option (List (Nat×TypeDesc)))(b:Bool)(op:BinOp)(x y:AV):Kp h nx (xf ti eqs b op x y h nx):=by
 unfold xf
 repeat' split
 all_goals first |exact zLo _ _ _ _ |exact zOg _ _ _ _ |exact zQf _ _ _ _ _ |exact zUf _ _ _ |exact zOr _ _ _ _ _ _ |trivial
theorem zQm (op:UnOp)(x:AV):Kp h nx (uY op x h nx):=by
 unfold uY
 repeat' split
 all_goals first |exact .val |exact Kp.fI fun _=>.val |trivial
theorem zU4 (ti:TI)(t:TypeId)(x:AV):Kp h nx (wW ti t x h nx):=by
 unfold wW
 repeat' split
 all_goals first |exact .val |trivial
theorem zJq (ti:TI)(a:AV) (k:Nat):Kp h nx (wM ti a k h nx):=by
 unfold wM
 repeat' split
 all_goals first |exact Kp.fN fun _=>.val |trivial
theorem zQ8 (ti:TI)(a:AV) (k:Nat):Kp h nx (wR ti a k h nx):=by
 unfold wR
 repeat' split
 all_goals first |exact .val |trivial
theorem zRq (ti:TI)(a b:AV):Kp h nx (jE ti a b h nx):=by
 unfold jE
 repeat' split
 all_goals first |exact Kp.fN fun _=>.val |trivial
theorem zQ7 (ti:TI)(a b:AV):Kp h nx (tE ti a b h nx):=by
 unfold tE
 repeat' split
 all_goals first |exact .val |exact Kp.fN fun _=>.val |trivial
theorem zNg (a:AV) (k:Nat):Kp h nx (wZ a k h nx):=by
 unfold wZ
 repeat' split
 all_goals first |exact .val |trivial
theorem zUh (ti:TI)(a:AV)(lo hi mx:Option AV):Kp h nx (w9 ti a lo hi mx h nx):=by
 unfold w9
 repeat' split
 all_goals try simp only[fN_eq]
 all_goals repeat' split
 all_goals first |exact .val |trivial
theorem zKx (ti:TI)(t:TypeId)(ok:Bool)(a:AV):Kp h nx (yU ti t ok a h nx):=by
 unfold yU
 repeat' split
 all_goals first |exact .val |trivial
theorem zI5 (ok:Bool)(z:AV)(r:Option (Nat×AV)):Kp h nx (bP ok z r h nx):=by
 unfold bP
 repeat' split
 all_goals exact .val
theorem zG6 (ti:TI)(tk te:Option TI)(kt et:TypeId)(ok:Bool)(m k:AV):Kp h nx (wJ ti tk te kt et ok m k h nx):=by
 unfold wJ
 repeat' split
 all_goals first |exact zI5 _ _ _ |trivial
theorem zNd (ti:TI)(ps:List (Nat×AV)):Kp h nx (tF ti ps h nx):=by
 unfold tF
 repeat' split
 all_goals first |exact .val |trivial
theorem zSy (ti:TI)(a:AV):Kp h nx (lP ti a h nx):=by
 unfold lP
 repeat' split
 all_goals first |exact Kp.vInt |trivial
theorem zNo (ti:TI)(a:AV):Kp h nx (yG ti a h nx):=by
 unfold yG
 repeat' split
 all_goals first |exact Kp.vInt |trivial
theorem zy4 (b:Bool)(l:List AV):Kp h nx (pC b l h nx):=by
 unfold pC
 repeat' split
 all_goals first |exact .val |trivial
def RJ:Option TI→Bool
 |some (.mk (.slice _) _ _ _ _)=>true
 |some _=>false
 |none=>false
theorem zKr (ts td:TI)(te:Option TI)(et:TypeId)(v:AV)(hs:RJ (some td)=false):Kp h nx (Dy ts td te et v h nx):=by
 unfold Dy
 repeat' split
 all_goals first |exact .val |exact Kp.fI fun _=>.val |exact Kp.fN fun _=>.val |trivial |(cases hs;done)
theorem zIz (ts td:TI)(te:Option TI)(et:TypeId)(v:AV)(hs:RJ (some td)=false):Kp h nx (ep ts td te et v h nx):=by
 unfold ep
 repeat' split
 all_goals first |exact .val |trivial |(cases hs;done)
def me (c:Cx)(op:Op):Bool:=
 match op with
 |.move _=>false |.assign _=>false |.pick _ _ _=>false |.build _ _=>false |.load _ _=>false |.nilCheck _=>false |.binOp _ _ _ _ _=>false |.unOp _ _ _=>false
 |.convert _ d _=>RJ (c.tt.get d)
 |.makeInterface _ _=>false |.makeFunc _ _ _=>false |.slice _ _ _ _ _=>false |.fieldAddr _ _ _=>false |.field _ _ _=>false |.indexAddr _ _ _=>false |.index _ _ _=>false
 |.lookup _ _ _ _=>false |.typeAssert _ _ _ _=>false |.extract _ _=>false
 |.call cl=>match cl.callee with
  |.builtin .len=>false
  |.builtin .cap=>false
  |.builtin .max=>false
  |.builtin .min=>false
  |_=>true
 |_=>true
theorem zKk (op:Op)(hw:me c op=false):Kp h nx (jF c op tm h nx):=by
 cases op <;> try (cases hw;done)
 ·exact Kp.bR fun _=>.val
 ·exact Kp.bR fun _=>.val
 ·refine Kp.bR fun v=>?_;split
  ·exact Kp.bR fun _=>.val
  ·exact Kp.bR fun _=>.val
  ·trivial
 ·exact Kp.bR fun _=>Kp.bR fun _=>zNd _ _
 ·exact Kp.bR fun _=>Kp.bR fun _=>zJ2 _ _
 ·refine Kp.bR fun v=>?_;split <;> first |exact .val |trivial
 ·exact Kp.bR fun _=>Kp.bR fun _=>Kp.bR fun _=>zP7 _ _ _ _ _ _
 ·exact Kp.bR fun _=>zQm _ _
 ·rename_i s d x;show Kp h nx (ra c s d x tm h nx);unfold ra;refine Kp.bR fun ts0=>Kp.bR fun td0=>?_;split
  ·unfold GP;cases eG:c.tt.get s with
   |none=>trivial
   |some ts=>
    cases mO:c.tt.get d with
    |none=>trivial
    |some td=>
     show Kp h nx (bR (aM c.G tm x) fun a=>match c.G.sym with
      |false=>Dy ts td (c.tt.get (xl ts td)) (xl ts td) a h nx
      |true=>ep ts td (c.tt.get (xl ts td)) (xl ts td) a h nx)
     refine Kp.bR fun _=>?_;cases c.G.sym with
     |false=>exact zKr _ _ _ _ _ (by rw[← mO];exact hw)
     |true=>exact zIz _ _ _ _ _ (by rw[← mO];exact hw)
  ·refine Kp.bR fun _=>?_;unfold Dh
   repeat' split
   all_goals first |exact .val |trivial
  ·refine Kp.bR fun _=>?_;unfold G9
   repeat' split
   all_goals first |exact .val |trivial
  ·trivial
 ·exact Kp.bR fun _=>Kp.bR fun _=>zU4 _ _ _
 ·rename_i fn a b;show Kp h nx (wS c fn a b tm h nx);unfold wS;cases fn <;> first |exact Kp.bR fun _=>Kp.bR fun _=>.val |trivial
 ·exact Kp.bR fun _=>Kp.bR fun _=>Kp.bR fun _=>Kp.bR fun _=>Kp.bR fun _=>zUh _ _ _ _ _
 ·exact Kp.bR fun _=>Kp.bR fun _=>zJq _ _ _
 ·exact Kp.bR fun _=>Kp.bR fun _=>zQ8 _ _ _
 ·exact Kp.bR fun _=>Kp.bR fun _=>Kp.bR fun _=>zRq _ _ _
 ·exact Kp.bR fun _=>Kp.bR fun _=>Kp.bR fun _=>zQ7 _ _ _
 ·exact Kp.bR fun _=>Kp.bR fun _=>Kp.bR fun _=>zG6 _ _ _ _ _ _ _ _
 ·exact Kp.bR fun _=>Kp.bR fun _=>zKx _ _ _ _
 ·exact Kp.bR fun _=>zNg _ _
 ·rename_i cl;obtain⟨callee,args,ts⟩:=cl;cases callee <;> try (cases hw;done)
  rename_i b;cases b <;> try (cases hw;done)
  ·exact Kp.bR fun l=>Kp.bR fun _=>Kp.bR fun _=>by split <;> first |exact zNo _ _ |trivial
  ·exact Kp.bR fun l=>Kp.bR fun _=>Kp.bR fun _=>by split <;> first |exact zSy _ _ |trivial
  ·exact Kp.bR fun l=>zy4 true l
  ·exact Kp.bR fun l=>zy4 false l
def nL (c:Cx)(ca:Ca)(ya:Ya)(ops:List Oper)(o:Oper)(tm:Tr AV)(h:Tr ABlk) (nx:Nat):Option (AV×Tr ABlk×Nat):=
 match fY ops tm o with
 |none=>none
 |some false=>some (.tup [],h,nx)
 |some true=>match kA o.op with
  |some (f,args)=>match J0 ca ya (aM c.G tm f) (cZ c.G tm args.toList) h nx with
   |.ok v h nx=>some (v,h,nx)
   |.fail=>none
  |none=>match qC o.op with
   |true=>none
   |false=>match jF c o.op tm h nx with
    |.val v h nx=>some (v,h,nx)
    |.unit h nx=>some (.tup [],h,nx)
    |.fail=>none
theorem zye (hc:CxOk P c){ca:Ca}(df:jn P c ca){ya:Ya}(gF:pD P c ya){ops:Array Oper}{o:Oper}{v:AV}{rr:Option Nat}(hs:nL c ca ya ops.toList o tm h nx=some (v,g,ny)):gX P c rr ops o v tm h nx g ny:=by
 intro σ a w hk ht Q K hK;unfold nL at hs;cases hw:fY ops.toList tm o with
 |none=>rw[hw]at hs;cases hs
 |some b=>
  rw[yE ht hw];rw[hw]at hs;cases b with
  |false=>
   cases hs;simp only[Bool.false_eq_true,if_false];exact⟨fun _ _=>trivial,hK σ w undef uR (.refl hk)⟩
  |true=>
   simp only[if_true];simp only at hs;have plain:kA o.op=none→o.wpIn (dD rr) 0 P a w K Q:=by
    intro uc;rw[uc]at hs;simp only at hs;cases iQ:qC o.op with
    |true=>rw[iQ]at hs;cases hs
    |false=>
    rw[iQ]at hs;simp only at hs;have hd:∀cl,o.op≠.defer cl:=fun cl e=>by rw[e]at iQ;cases iQ
    have hp:=Rb hc hk ht o;cases hv:jF c o.op tm h nx with
    |fail=>rw[hv]at hs;cases hs
    |val v' g' oy=>
     rw[hv]at hs hp;cases hs;obtain⟨V,τ,x,h1,h2,h3⟩:=hp;refine jS hd ?_;rw[h1];exact hK τ x V h2 h3
    |unit g' oy=>
     rw[hv]at hs hp;cases hs;obtain⟨τ,x,h1,h3⟩:=hp;refine jS hd ?_;rw[h1];exact hK τ x undef uR h3
   obtain⟨dst,op,type,pos,after,guard⟩:=o;cases op <;> try exact plain rfl
   rename_i cl;obtain⟨callee,args,argTypes⟩:=cl;cases callee <;> try exact plain rfl
   rename_i fo;clear plain
   replace hs:(match J0 ca ya (aM c.G tm fo) (cZ c.G tm args.toList) h nx with |.ok v h nx=>some (v,h,nx) |.fail=>none)=some (v,g,ny):=hs
   cases hf:aM c.G tm fo with
   |none=>rw[hf]at hs;cases hs
   |some fv=>
    rw[hf]at hs;have kK:=jT hk ht hf;cases fv <;> try (cases hs;done)
    case yld i=>
     cases hl:cZ c.G tm args.toList with
     |none=>rw[hl]at hs;cases hs
     |some l=>
      rw[hl]at hs
      replace hs:(match ya i l h nx with |.ok v h nx=>some (v,h,nx) |.fail=>none)=some (v,g,ny):=hs
      cases hy:ya i l h nx with
      |fail=>rw[hy]at hs;cases hs
      |ok v0 g0 n0=>
      rw[hy]at hs;cases hs;have qf:=tB hk ht hl;simp only[av]at kK;obtain⟨lb,uj,e1⟩:=kK;obtain⟨fn,tmps,assign,body,F4,F5⟩:=gF i l h nx _ _ _ hy σ w (args.toList.map a.eval) lb hk qf uj;have hex:(execOp a.eval ⟨dst,.call ⟨.value fo,args,argTypes⟩,type,pos,after,guard⟩).run P w=(Instr.yield lb (args.toList.map a.eval).toArray).run P w:=by
       have e2:execOp a.eval ⟨dst,.call ⟨.value fo,args,argTypes⟩,type,pos,after,guard⟩=(do let d ← Deferred.ofValue (a.eval fo) (args.map a.eval);invoke d.target d.args):=rfl;rw[e2,e1];show (Instr.yield lb (#[]++args.map a.eval)).run P w=_
       congr 2
       apply Array.ext';simp
      refine jS (fun _ e=>by cases e) ?_;rw[hex,F4];refine⟨fun hh=>by simp[dD,Fence.wide]at hh,Q5 (F5.mono fun e x q=>?_)⟩;cases e with
      |returned V=>
       obtain⟨τ,v,g,ny,q1,q2,q3,q4,q5⟩:=q;subst q3;subst q4;subst q5;exact hK τ x V q1 q2
      |panicked ch=>exact q.elim
      |outgrown=>exact q.elim
    rename_i fid first cap
    cases hl:cZ c.G tm args.toList with
    |none=>rw[hl]at hs;cases hs
    |some l=>
     rw[hl]at hs
     replace hs:(match ca fid (first++(l++cap)) h nx with |.ok v h nx=>some (v,h,nx) |.fail=>none)=some (v,g,ny):=hs
     cases hy:ca fid (first++(l++cap)) h nx with
     |fail=>rw[hy]at hs;cases hs
     |ok v0 g0 n0=>
     rw[hy]at hs;cases hs;have qf:=tB hk ht hl;simp only[av]at kK;obtain⟨F,C,e1,r1,r2⟩:=kK;have fD:=df fid _ h nx _ _ _ hy σ w (F++(args.toList.map a.eval++C)) hk (r1.append (qf.append r2));have hex:(execOp a.eval ⟨dst,.call ⟨.value fo,args,argTypes⟩,type,pos,after,guard⟩).run P w=(callFunc fid (F++(args.toList.map a.eval++C)).toArray).run P w:=by
      have e2:execOp a.eval ⟨dst,.call ⟨.value fo,args,argTypes⟩,type,pos,after,guard⟩=(do let d ← Deferred.ofValue (a.eval fo) (args.map a.eval);invoke d.target d.args):=rfl;rw[e2,e1];show (callFunc fid (F.toArray++args.map a.eval++C.toArray)).run P w=_
      congr 2
      apply Array.ext';simp
     refine jS (fun _ e=>by cases e) ?_;rw[hex];unfold CR at fD;cases aO:(callFunc fid (F++(args.toList.map a.eval++C)).toArray).run P w with
     |halt hh w'=>rw[aO]at fD;exact fD.elim
     |ok AG w'=>
      rw[aO]at fD;cases AG <;> try exact fD.elim
      ·rename_i V;obtain⟨τ,v,g,ny,q1,q2,q3,q4,q5⟩:=fD;subst q3;subst q4;subst q5;exact hK τ _ V q1 q2
      ·rename_i f' A';refine⟨fun hh=>by simp[dD,Fence.wide]at hh,GZ (Calls.mono fD fun e x q=>?_)⟩;cases e with
       |returned V=>
        obtain⟨τ,v,g,ny,q1,q2,q3,q4,q5⟩:=q;subst q3;subst q4;subst q5;exact hK τ x V q1 q2
       |panicked ch=>exact q.elim
       |outgrown=>exact q.elim
theorem XR {ca:Ca}{ya:Ya}{ops:List Oper}{o:Oper}(hs:∀t∈eP ops o,tm.get t=tm'.get t):nL c ca ya ops o tm h nx=nL c ca ya ops o tm' h nx:=by
 have eF:uJ tm tm' o.op.operands.toList:=fun t ht=>hs t (by
  unfold eP;rw[List.mem_append];exact .inl (List.mem_filterMap.2 ⟨.tmp t,ht,rfl⟩))
 have cr:fY ops tm o=fY ops tm' o:=by
  unfold fY;cases hg:o.guard with
  |none=>rfl
  |some p=>
   obtain⟨j,want⟩:=p;simp only;cases hj:ops[j]? with
   |none=>rfl
   |some oj=>
    simp only;cases hd:oj.dst with
    |none=>rfl
    |some d=>
     simp only;rw[hs d (by unfold eP;rw[List.mem_append];refine .inr ?_;rw[hg];simp only;rw[hj];simp[hd])]
 unfold nL;rw[cr];have bg:∀f args,kA o.op=some (f,args)→aM c.G tm f=aM c.G tm' f∧cZ c.G tm args.toList=cZ c.G tm' args.toList:=by
  intro f args zz;unfold kA at zz;cases FL:o.op <;> rw[FL]at zz <;> try (cases zz;done)
  rename_i cl;obtain⟨callee,args',ts⟩:=cl;cases callee <;> try (cases zz;done)
  cases zz;rw[FL]at eF;exact⟨yW eF (by simp[Op.operands,Call.operands]),DA eF fun y hy=>by simp[Op.operands,Call.operands]at hy ⊢;exact .inr hy⟩
 cases fY ops tm' o with
 |none=>rfl
 |some b=>
  cases b with
  |false=>rfl
  |true=>
   simp only;cases zz:kA o.op with
   |none=>simp only;rw[YP o.op eF]
   |some p=>
    obtain⟨f,args⟩:=p;obtain⟨e1,e2⟩:=bg f args zz;simp only;rw[e1,e2]
theorem zyo {ca:Ca}{ya:Ya}{ops:List Oper}{o:Oper}(hw:me c o.op=false){v:AV}(he:nL c ca ya ops o tm h nx=some (v,g,ny)):g=h∧ny=nx:=by
 unfold nL at he;split at he
 ·cases he
 ·cases he;exact⟨rfl,rfl⟩
 ·have uc:kA o.op=none:=by
   unfold kA;cases eF:o.op <;> try rfl
   rename_i cl;obtain⟨callee,args,ts⟩:=cl;rw[eF]at hw;cases callee <;> first |rfl |(cases hw;done)
  rw[uc]at he;simp only at he;split at he
  ·cases he
  have Iw:=zKk (c:=c) (tm:=tm) (h:=h) (nx:=nx) o.op hw;cases hv:jF c o.op tm h nx with
  |fail=>rw[hv]at he;cases he
  |unit _ _=>rw[hv]at Iw;exact Iw.elim
  |val v' g' oy=>
   rw[hv]at he Iw;cases he;exact Iw
def mV (c:Cx)(ca:Ca)(ya:Ya) (sz:Nat)(ops:List Oper)(tm:Tr AV)(h:Tr ABlk) (nx:Nat) (i:Nat):Option (Tr AV×Tr ABlk×Nat):=
 Nat.rec (motive:=fun _=>Option (Tr AV×Tr ABlk×Nat)) (some (tm,h,nx)) (fun i s=>match s with
  |none=>none
  |some (tm,h,nx)=>match ops[i]? with
   |none=>none
   |some o=>match nL c ca ya ops o tm h nx with
    |none=>none
    |some (v,h',ax)=>match o.dst with
     |none=>some (tm,h',ax)
     |some d=>match Nat.ble (Nat.succ d) sz with
      |true=>tm.putK (some v) d fun tm'=>some (tm',h',ax)
      |false=>none) i
theorem XK {ca:Ca}{ya:Ya}{ops:List Oper}{i:Nat}{s:Tr AV×Tr ABlk×Nat}(hs:mV c ca ya sz ops tm h nx (i+1)=some s):
  ∃ba h1 n1 o v h2 n2,mV c ca ya sz ops tm h nx i=some (ba,h1,n1)∧ops[i]?=some o∧nL c ca ya ops o ba h1 n1=some (v,h2,n2)∧(∀d,o.dst=some d→d<sz)∧
   s=((match o.dst with |none=>ba |some d=>ba.put d (some v)),h2,n2):=by
 change (match mV c ca ya sz ops tm h nx i with
  |none=>none
  |some (tm,h,nx)=>match ops[i]? with
   |none=>none
   |some o=>match nL c ca ya ops o tm h nx with
    |none=>none
    |some (v,h',ax)=>match o.dst with
     |none=>some (tm,h',ax)
     |some d=>match Nat.ble (Nat.succ d) sz with
      |true=>tm.putK (some v) d fun tm'=>some (tm',h',ax)
      |false=>none)=some s at hs
 cases h1:mV c ca ya sz ops tm h nx i with
 |none=>rw[h1]at hs;cases hs
 |some p=>
  obtain⟨ba,g1,n1⟩:=p;rw[h1]at hs;simp only at hs;cases h2:ops[i]? with
  |none=>rw[h2]at hs;cases hs
  |some o=>
   rw[h2]at hs;simp only at hs;cases h3:nL c ca ya ops o ba g1 n1 with
   |none=>rw[h3]at hs;cases hs
   |some q=>
    obtain⟨v,g2,n2⟩:=q;rw[h3]at hs;simp only at hs;cases h4:o.dst with
    |none=>
     rw[h4]at hs;cases hs;exact⟨ba,g1,n1,o,v,g2,n2,rfl,rfl,h3,(fun d e=>by rw[h4]at e;cases e),by rw[h4]⟩
    |some d=>
     rw[h4]at hs;simp only at hs;cases h5:Nat.ble (Nat.succ d) sz with
     |false=>rw[h5]at hs;cases hs
     |true=>
      rw[h5]at hs;simp only[Tr.putK_eq]at hs;cases hs;exact⟨ba,g1,n1,o,v,g2,n2,rfl,rfl,h3,(fun d' e=>by rw[h4]at e;cases e;exact ah h5),by rw[h4]⟩
theorem Yw {ca:Ca}{ya:Ya}{ops:List Oper}{s:Tr AV×Tr ABlk×Nat}:∀(n i:Nat),mV c ca ya sz ops tm h nx (i+n)=some s→∃s',mV c ca ya sz ops tm h nx i=some s'
 |0,i,hs=>⟨s,hs⟩
 |n+1,i,hs=>by
  obtain⟨ba,h1,n1,_,_,_,_,e,_⟩:=XK (show mV c ca ya sz ops tm h nx ((i+n)+1)=some s from hs);exact Yw n i e
mutual
def BD:AV→AV→Bool
 |.bool a,.bool b=>match a with |true=>b |false=>!b
 |.int k a,.int k' b=>match uE k k' with |true=>qR a b |false=>false
 |.str l n,.str k m=>match Nat.beq l k with |true=>Nat.beq n m |false=>false
 |.ptr0,.ptr0=>true
 |.ptr i o,.ptr j p=>match Nat.beq i j with |true=>Nat.beq o p |false=>false
 |.sl0,.sl0=>true
 |.sl i o l c b,.sl i' o' l' c' b'=>Nat.beq i i' && Nat.beq o o' && Nat.beq l l' && Nat.beq c c' && (match b with |true=>b' |false=>!b')
 |.map0,.map0=>true
 |.map i,.map j=>Nat.beq i j
 |.func f a c,.func f' a' c'=>match Nat.beq f f' with |true=>wY a a' && wY c c' |false=>false
 |.nilFunc,.nilFunc=>true
 |.iface t v,.iface t' v'=>match Nat.beq t t' with |true=>BD v v' |false=>false
 |.nilIface,.nilIface=>true
 |.agg l,.agg m=>wY l m
 |.tup l,.tup m=>wY l m
 |.opq n,.opq m=>Nat.beq n m
 |.yld n,.yld m=>Nat.beq n m
 |_,_=>false
def wY:List AV→List AV→Bool
 |[],[]=>true
 |a::l,b::m=>match BD a b with |true=>wY l m |false=>false
 |_,_=>false
end
theorem bm {a b:Bool}(h:(match a with |true=>b |false=>!b)=true):a=b:=by cases a <;> cases b <;> first |rfl |(cases h;done)
mutual
theorem Jr:∀(a b:AV),BD a b=true→a=b:=by
 intro a b h;cases a <;> cases b <;> first |rfl |(simp only[BD]at h;first |(cases h;done) |skip)
 ·exact congrArg AV.bool (bm h)
 ·rename_i k a k' b;cases hk:uE k k' with
  |false=>rw[hk]at h;cases h
  |true=>
   rw[hk]at h;have e1:=K4 hk;have h2:qR a b=true:=h;rw[rC]at h2;have e2:=eq_of_beq h2;subst e1;subst e2;rfl
 ·rename_i l n k m;cases hk:Nat.beq l k with
  |false=>rw[hk]at h;cases h
  |true=>
   rw[hk]at h;rw[ad hk,ad (show Nat.beq n m=true from h)]
 ·rename_i l n k m;cases hk:Nat.beq l k with
  |false=>rw[hk]at h;cases h
  |true=>
   rw[hk]at h;rw[ad hk,ad (show Nat.beq n m=true from h)]
 ·rename_i i o l c b i' o' l' c' b';simp only[al]at h;obtain⟨⟨⟨⟨e1,e2⟩,e3⟩,e4⟩,e5⟩:=h;rw[ad e1,ad e2,ad e3,ad e4,bm e5]
 ·rw[ad h]
 ·rename_i f a c f' a' c';cases hk:Nat.beq f f' with
  |false=>rw[hk]at h;cases h
  |true=>
   rw[hk]at h;have h2:(wY a a' && wY c c')=true:=h;rw[al]at h2;rw[ad hk,Ho a a' h2.1,Ho c c' h2.2]
 ·rename_i t v t' v';cases hk:Nat.beq t t' with
  |false=>rw[hk]at h;cases h
  |true=>
   rw[hk]at h;rw[ad hk,Jr v v' h]
 ·rename_i l m;rw[Ho l m h]
 ·rename_i l m;rw[Ho l m h]
 ·rw[ad h]
 ·rw[ad h]
theorem Ho:∀(a b:List AV),wY a b=true→a=b:=by
 intro a b h;cases a <;> cases b <;> first |rfl |(simp only[wY]at h;first |(cases h;done) |skip)
 rename_i a l b m;cases hk:BD a b with
 |false=>rw[hk]at h;cases h
 |true=>
  rw[hk]at h;rw[Jr a b hk,Ho l m h]
end
def KU (c:Cx)(ms:List Nat) (i j:Nat)(li:List Tmp)(oi oj:Oper):Bool:=
 match Nat.beq i j with
 |true=>true
 |false=>
  let ordered:Bool:=match Nat.ble (Nat.succ j) i with
   |true=>cU ms j i
   |false=>cU ms i j
  match (match me c oi.op with |true=>me c oj.op |false=>false) with
  |true=>ordered
  |false=>match oj.dst with
   |none=>true
   |some d=>match yA d (li++oi.dst.toList) with
    |true=>ordered
    |false=>true
def Zr (c:Cx)(ops:List Oper)(ms:List Nat):Bool:=
 eg (jk ops.length) fun i=>match ops[i]? with
  |none=>true
  |some oi=>match eg oi.after.toList (fun e=>match Region.binds .any e with |true=>Nat.ble (Nat.succ e.on) i |false=>true) with
   |false=>false
   |true=>eg (jk ops.length) fun j=>match ops[j]? with
    |none=>true
    |some oj=>KU c ms i j (eP ops oi) oi oj
def zzy (c:Cx)(ops:List Oper)(ms:List Nat) (i p:Nat):Bool:=
 eg (jk ops.length) fun j=>match ops[j]? with
  |none=>true
  |some oj=>match me c oj.op with
   |false=>true
   |true=>match Nat.ble (Nat.succ j) p with
    |true=>!(cU ms i j)
    |false=>!(cU ms j i)
def G4 (c:Cx)(ca:Ca)(ya:Ya) (sz:Nat)(ops:List Oper)(tm:Tr AV)(h:Tr ABlk) (nx:Nat)(ms:List Nat) (i:Nat)(o:Oper) (p:Nat):Bool:=
 match zzy c ops ms i p with
 |false=>true
 |true=>match mV c ca ya sz ops tm h nx i,mV c ca ya sz ops tm h nx p with
  |some (ba,h1,n1),some (_,h2,n2)=>match nL c ca ya ops o ba h1 n1,nL c ca ya ops o ba h2 n2 with
   |some (v,_,_),some (u,_,_)=>BD u v
   |_,_=>false
  |_,_=>false
def zxm (c:Cx)(ca:Ca)(ya:Ya) (sz:Nat)(ops:List Oper)(tm:Tr AV)(h:Tr ABlk) (nx:Nat)(ms:List Nat):Bool:=
 eg (jk ops.length) fun i=>match ops[i]? with
  |none=>true
  |some o=>match me c o.op with
   |true=>true
   |false=>match G4 c ca ya sz ops tm h nx ms i o 0 with
    |false=>false
    |true=>eg (jk ops.length) fun j=>match ops[j]? with
     |none=>true
     |some oj=>match me c oj.op with
      |false=>true
      |true=>G4 c ca ya sz ops tm h nx ms i o (Nat.succ j)
def BV (c:Cx)(ca:Ca)(ya:Ya) (sz:Nat)(ops:Array Oper)(tm:Tr AV)(h:Tr ABlk) (nx:Nat):OS:=
 match Zr c ops.toList (bJ ops.toList []) with
 |false=>.fail
 |true=>match mV c ca ya sz ops.toList tm h nx ops.toList.length with
  |none=>.fail
  |some (tm',h',ax)=>match zxm c ca ya sz ops.toList tm h nx (bJ ops.toList []) with
   |true=>.ok tm' h' ax
   |false=>.fail
def qB (c:Cx)(ca:Ca)(ya:Ya) (sz:Nat)(ops:Array Oper)(tm:Tr AV)(h:Tr ABlk) (nx:Nat) (i:Nat):Tr AV×Tr ABlk×Nat:=(mV c ca ya sz ops.toList tm h nx i).getD (tm,h,nx)
def Qb (c:Cx)(ca:Ca)(ya:Ya) (sz:Nat)(ops:Array Oper)(tm:Tr AV)(h:Tr ABlk) (nx:Nat) (i:Nat):AV:=match mV c ca ya sz ops.toList tm h nx i with
 |some (ba,h1,n1)=>match ops[i]? with
  |some o=>match nL c ca ya ops.toList o ba h1 n1 with
   |some (v,_,_)=>v
   |none=>.tup []
  |none=>.tup []
 |none=>.tup []
def Jj (c:Cx)(ops:Array Oper) (i:Nat):Bool:=match ops[i]? with
 |some o=>me c o.op
 |none=>false
theorem R8 (hm:P.follows .mixedOrders=true)(hc:CxOk P c){ca:Ca}(df:jn P c ca){ya:Ya}(gF:pD P c ya):BH P c (BV c ca ya):=by
 intro sz ops tm h nx tm' h' ax he inr id ds rr hi σ a w hk st;simp only[AS.h,AS.nx,AS.tm,AS.ds]at hk st;unfold BV at he;cases hs:Zr c ops.toList (bJ ops.toList []) with
 |false=>rw[hs]at he;cases he
 |true=>
  rw[hs]at he;simp only at he;cases hf:mV c ca ya sz ops.toList tm h nx ops.toList.length with
  |none=>rw[hf]at he;cases he
  |some s=>
   obtain⟨kW,hF,nF⟩:=s;rw[hf]at he;simp only at he;cases hd:zxm c ca ya sz ops.toList tm h nx (bJ ops.toList []) with
   |false=>rw[hd]at he;cases he
   |true=>
    rw[hd]at he;injection he with he1 nC he3;subst he1;subst nC;subst he3;rw[Array.length_toList]at hf;have dJ:wQ ops (bJ ops.toList []):=DK ops.toList [] (fun j m hm=>by simp at hm) fun j=>by simp
    have aW:∀i oi,ops[i]?=some oi→(∀e∈oi.after.toList,Region.binds .any e=true→e.on<i)∧∀j oj,ops[j]?=some oj→KU c (bJ ops.toList []) i j (eP ops.toList oi) oi oj=true:=by
     intro i oi hi;have az:i<ops.size:=by
      rcases Nat.lt_or_ge i ops.size with h1 |h1
      ·exact h1
      ·rw[Array.getElem?_eq_none h1]at hi;cases hi
     have h1:=dO hs i (by simp[jk,az]);simp only[Array.getElem?_toList,hi]at h1;cases hb:eg oi.after.toList (fun e=>match Region.binds .any e with |true=>Nat.ble (Nat.succ e.on) i |false=>true) with
     |false=>rw[hb]at h1;cases h1
     |true=>
      rw[hb]at h1;refine⟨fun e he EL=>?_,fun j oj hj=>?_⟩
      ·have:=dO hb e he;simp only[EL]at this;exact ah this
      ·have Np:j<ops.size:=by
        rcases Nat.lt_or_ge j ops.size with h2 |h2
        ·exact h2
        ·rw[Array.getElem?_eq_none h2]at hj;cases hj
       have:=dO h1 j (by simp[jk,Np]);simpa only[Array.getElem?_toList,hj]using this
    have dW:∀i j,i≠j→(match Nat.ble (Nat.succ j) i with |true=>cU (bJ ops.toList []) j i |false=>cU (bJ ops.toList []) i j)=true→(j<i→cU (bJ ops.toList []) j i=true)∧(i<j→cU (bJ ops.toList []) i j=true):=by
     intro i j aQ ho;cases hb:Nat.ble (Nat.succ j) i with
     |true=>
      rw[hb]at ho;have:=ah hb;exact⟨fun _=>ho,fun h2=>by omega⟩
     |false=>
      rw[hb]at ho;have:¬j<i:=fun hh=>by rw[show Nat.ble (Nat.succ j) i=true from Nat.ble_eq_true_of_le hh]at hb;cases hb
      exact⟨fun h2=>absurd h2 this,fun _=>ho⟩
    have gD:∀i,i≤ops.size→∃s,mV c ca ya sz ops.toList tm h nx i=some s:=fun i hi=>Yw (ops.size-i) i (by rw[Nat.add_sub_cancel' hi];exact hf);have eF:∀i o,ops[i]?=some o→∃ba h1 n1 v h2 n2,mV c ca ya sz ops.toList tm h nx i=some (ba,h1,n1)∧nL c ca ya ops.toList o ba h1 n1=some (v,h2,n2)∧(∀d,o.dst=some d→d<sz)∧mV c ca ya sz ops.toList tm h nx (i+1)=some ((match o.dst with |none=>ba |some d=>ba.put d (some v)),h2,n2)∧Qb c ca ya sz ops tm h nx i=v∧qB c ca ya sz ops tm h nx i=(ba,h1,n1)∧qB c ca ya sz ops tm h nx (i+1)=((match o.dst with |none=>ba |some d=>ba.put d (some v)),h2,n2):=by
     intro i o ho;have az:i<ops.size:=(Array.getElem?_eq_some_iff.1 ho).1;obtain⟨s,hs⟩:=gD (i+1) az;obtain⟨ba,h1,n1,o',v,h2,n2,e1,e2,e3,e4,e5⟩:=XK hs;have:o'=o:=by
      rw[Array.getElem?_toList,ho]at e2;cases e2;rfl
     subst this;have l8:mV c ca ya sz ops.toList tm h nx (i+1)=some ((match o'.dst with |none=>ba |some d=>ba.put d (some v)),h2,n2):=by rw[hs];exact congrArg some e5
     exact⟨ba,h1,n1,v,h2,n2,e1,e3,e4,l8,by unfold Qb;rw[e1];simp only;rw[ho];simp only;rw[e3],by unfold qB;rw[e1];rfl,by unfold qB;rw[l8];rfl⟩
    have EH:∀{i o},ops[i]?=some o→Jj c ops i=me c o.op:=fun {i o} ho=>by unfold Jj;rw[ho]
    have kg:qB c ca ya sz ops tm h nx 0=(tm,h,nx):=rfl;have hSn:qB c ca ya sz ops tm h nx ops.size=(kW,hF,nF):=by unfold qB;rw[hf];rfl
    have key:Dr P c rr sz ops (qB c ca ya sz ops tm h nx) (Qb c ca ya sz ops tm h nx) (Jj c ops) (cU (bJ ops.toList [])):=by
     refine⟨?back,?bef,?tmps,?chain,?step,?keep,?dyn⟩
     case step=>
      intro i o ho;obtain⟨ba,h1,n1,v,h2,n2,e1,e3,e4,e5,e6,e7,e8⟩:=eF i o ho;rw[e6,e7,e8];refine⟨zye hc df gF ?_,e4,rfl⟩;rw[← e3];exact XR fun t ht=>by rw[Dw,if_pos ht]
     case keep=>
      intro i az hw;obtain⟨ba,h1,n1,v,h2,n2,e1,e3,e4,e5,e6,e7,e8⟩:=eF i _ (Array.getElem?_eq_getElem az);rw[EH (Array.getElem?_eq_getElem az)]at hw;obtain⟨k1,k2⟩:=zyo hw e3;rw[e7,e8,k1,k2]
     case back=>
      intro i hi k aU;have ho:ops[i]?=some ops[i]:=Array.getElem?_eq_getElem hi;unfold fS at aU;rw[ho]at aU;simp only[Option.map_some,Option.getD_some,Array.any_eq_true']at aU;obtain⟨e,he,hb⟩:=aU;rw[al]at hb;have:=(aW i _ ho).1 e (by simpa using he) hb.1;have ei:e.on=k:=by simpa using hb.2
      omega
     case bef=>
      intro i j hb l hl bd;unfold cU at hb;rw[CV]at hb;cases qg:(bJ ops.toList [])[j]? with
      |none=>simp[List.getD,qg]at hb
      |some m=>
       have:(bJ ops.toList []).getD j 0=m:=by simp[List.getD,qg]
       rw[this]at hb;exact dJ j m qg i hb l hl bd
     case tmps=>
      intro i j o p d hi hj aQ FN Fx;have hp:=(aW i o hi).2 j p hj;unfold KU at hp;cases hb:Nat.beq i j with
      |true=>exact absurd (ad hb) aQ
      |false=>
       rw[hb]at hp;simp only at hp;refine dW i j aQ ?_;have bV:yA d (eP ops.toList o++o.dst.toList)=true:=by
        apply GY;rw[List.mem_append]
        rcases Fx with h1 |h1
        ·exact .inl h1
        ·rw[h1];exact .inr (by simp)
       cases UJ:(match me c o.op with |true=>me c p.op |false=>false) with
       |true=>rw[UJ]at hp;exact hp
       |false=>
        rw[UJ,FN]at hp;simp only at hp;rw[bV]at hp;exact hp
     case chain=>
      intro i j az jK UG UH;have hi:ops[i]?=some ops[i]:=Array.getElem?_eq_getElem (by omega);have hj:ops[j]?=some ops[j]:=Array.getElem?_eq_getElem jK;rw[EH hi]at UG;rw[EH hj]at UH;have hp:=(aW i _ hi).2 j _ hj;unfold KU at hp;cases hb:Nat.beq i j with
      |true=>have:=ad hb;omega
      |false=>
       rw[hb]at hp;simp only[UG,UH]at hp;exact(dW i j (by omega) hp).2 az
     case dyn=>
      intro i o hi NR p hp NX vY;have IA:me c o.op=false:=by rw[← EH hi];exact NR
      obtain⟨ba,h1,n1,v,h2,n2,N7,NU,e4,e5,e6,e7,e8⟩:=eF i o hi;obtain⟨q,FU⟩:=gD p hp;have um:p=0∨∃o',ops[p-1]?=some o'∧me c o'.op=true:=by
       rcases NX with e |e
       ·exact .inl e
       ·refine .inr ?_;unfold Jj at e;cases e9:ops[p-1]? with
        |none=>rw[e9]at e;cases e
        |some o'=>rw[e9]at e;exact⟨o',rfl,e⟩
      have hvalid:∀j o',ops[j]?=some o'→me c o'.op=true→(cU (bJ ops.toList []) j i=true→j<p)∧(cU (bJ ops.toList []) i j=true→p≤j):=fun j o' hj hw=>vY j (Array.getElem?_eq_some_iff.1 hj).1 (by rw[EH hj];exact hw);have hSp:qB c ca ya sz ops tm h nx p=q:=by unfold qB;rw[FU];rfl
      rw[e6,e7,hSp];have Nh:i<ops.size:=by
       rcases Nat.lt_or_ge i ops.size with h5 |h5
       ·exact h5
       ·rw[Array.getElem?_eq_none h5]at hi;cases hi
      have EX:=dO hd i (by simp[jk,Nh]);simp only[Array.getElem?_toList,hi,IA]at EX;have mF:G4 c ca ya sz ops.toList tm h nx (bJ ops.toList []) i o p=true:=by
       cases iQ:G4 c ca ya sz ops.toList tm h nx (bJ ops.toList []) i o 0 with
       |false=>rw[iQ]at EX;cases EX
       |true=>
        rw[iQ]at EX
        rcases um with um |⟨o',e9,qQ⟩
        ·subst um;exact iQ
        ·cases p with
         |zero=>exact iQ
         |succ p=>
          have oV:ops[p]?=some o':=by simpa using e9
          have:=dO EX p (by simp[jk];omega);simpa only[Array.getElem?_toList,oV,qQ]using this
      unfold G4 at mF;have FP:zzy c ops.toList (bJ ops.toList []) i p=true:=by
       have gen:∀(l:List Nat),eg l (fun j=>match ops.toList[j]? with
         |none=>true
         |some oj=>match me c oj.op with
          |false=>true
          |true=>match Nat.ble (Nat.succ j) p with
           |true=>!(cU (bJ ops.toList []) i j)
           |false=>!(cU (bJ ops.toList []) j i))=true:=by
        intro l
        induction l with
        |nil=>rfl
        |cons j l ih=>
         show (match (match ops.toList[j]? with
          |none=>true
          |some oj=>match me c oj.op with
           |false=>true
           |true=>match Nat.ble (Nat.succ j) p with
            |true=>!(cU (bJ ops.toList []) i j)
            |false=>!(cU (bJ ops.toList []) j i)) with |true=>_ |false=>false)=true
         have lI:(match ops.toList[j]? with
          |none=>true
          |some oj=>match me c oj.op with
           |false=>true
           |true=>match Nat.ble (Nat.succ j) p with
            |true=>!(cU (bJ ops.toList []) i j)
            |false=>!(cU (bJ ops.toList []) j i))=true:=by
          rw[Array.getElem?_toList];cases hj:ops[j]? with
          |none=>rfl
          |some oj=>
           simp only;cases hw:me c oj.op with
           |false=>rfl
           |true=>
            simp only;obtain⟨v1,v2⟩:=hvalid j oj hj hw;cases hb:Nat.ble (Nat.succ j) p with
            |true=>
             have:=ah hb;simp only;cases EJ:cU (bJ ops.toList []) i j with
             |false=>rfl
             |true=>have:=v2 EJ;omega
            |false=>
             have cI:¬j<p:=fun hh=>by rw[show Nat.ble (Nat.succ j) p=true from Nat.ble_eq_true_of_le hh]at hb;cases hb
             simp only;cases EJ:cU (bJ ops.toList []) j i with
             |false=>rfl
             |true=>exact absurd (v1 EJ) cI
         rw[lI];exact ih
       exact gen _
      rw[FP,N7,FU]at mF;obtain⟨q1,q2,q3⟩:=q;simp only at mF ⊢;rw[NU]at mF;cases oV:nL c ca ya ops.toList o ba q2 q3 with
      |none=>rw[oV]at mF;cases mF
      |some r=>
       obtain⟨u,g,ny⟩:=r;rw[oV]at mF;have:=Jr u v mF;subst this;obtain⟨k1,k2⟩:=zyo IA oV;subst k1;subst k2;refine zye hc df gF ?_;rw[← oV];exact XR fun t ht=>by rw[Dw,if_pos ht]
    have aU:Ok c.G σ (qB c ca ya sz ops tm h nx 0).2.1 (qB c ca ya sz ops tm h nx 0).2.2 w:=hk;have qw:St σ (qB c ca ya sz ops tm h nx 0).1 a sz ds:=st;have fin:=Zu hm key aU qw id (Q:=QE (.norm kW hF nF ds)) (by rw[hSn];exact⟨rfl,rfl⟩);exact fin
end
end Go.Ev
namespace Go.Ev
variable {P : Program} {c : Cx} {σ τ υ : Sg} {h g : Tr ABlk} {nx ny : Nat} {w x : World}
def DY (P:Program)(f:FuncId)(e:Array Value→Sem Value):Prop:=∀A w,(callFunc f A).run P w=((e A).run P w).andThen fun v w'=>.ok (.value v) w'
theorem YE {f : FuncId} {fn : Func} {e : Array Value → Sem Value} (hf : P.funcs[f]? = some fn) (hn : (fn.name == "runtime.NumGoroutine") = false) (hb : fn.body = none) (h1 : Extern.findNext fn = none) (h2 : Extern.find fn = some e) : DY P f e := by
 intro A w
 have dK : ¬ fn.name = "runtime.NumGoroutine" := fun e => by rw [e] at hn; simp at hn
 simp only[callFunc,Sem.run_bind,run_program,Result.andThen,hf,dK,hb,h1,h2,mark,Sem.run,Option.isNone_none,if_true,beq_iff_eq,if_false];cases (e A).run P w <;> rfl
noncomputable section
def KR (f0:FuncId)(ca:Ca):Ca:=fun f args h nx=>
 match Nat.beq f f0 with
 |true=>match args with
  |[v]=>.ok v h nx
  |_=>.fail
 |false=>ca f args h nx
theorem XT {f0:FuncId}(hx:DY P f0 Extern.AbiNoEscape.same){ca:Ca}(df:jn P c ca):jn P c (KR f0 ca):=by
 intro f args h nx v g ny he;unfold KR at he;cases hf:Nat.beq f f0 with
 |false=>rw[hf]at he;exact df f args h nx v g ny he
 |true=>
  intro σ w A ok hA;rw[hf]at he;have e1:=ad hf;subst e1;simp only at he;split at he
  ·cases he;simp only[aC]at hA;obtain⟨V,L,e2,e3,e4⟩:=hA;subst e4;subst e2;unfold CR;rw[hx];exact⟨σ,_,_,_,e3,.refl ok,rfl,rfl,rfl⟩
  ·cases he
def Di (b l:Nat):Nat→Nat→Option Nat:=
 Nat.rec (motive:=fun _=>Nat→Nat→Option Nat) (fun _ _=>none) (fun _ ih n i=>match Nat.beq (Nat.mod n 256) b with
  |true=>some i
  |false=>ih (Nat.div n 256) (Nat.succ i)) l
theorem zOw (b l n i:Nat):Di b (l+1) n i=match Nat.beq (n % 256) b with
  |true=>some i
  |false=>Di b l (n / 256) (i+1):=rfl
theorem zQv {b:Nat}(hb:b<256):∀(l n i:Nat),(match Di b l n i with |some j=>i≤j∧Lib.indexByte (cC l n) (UInt8.ofNat b)=((j-i:Nat):Int) |none=>Lib.indexByte (cC l n) (UInt8.ofNat b)=-1):=by
 intro l
 induction l with
 |zero=>intro n i;rfl
 |succ l ih=>
  intro n i;rw[zOw,qW];have a1:n % 256<256:=Nat.mod_lt _ (by decide);cases hq:Nat.beq (n % 256) b with
  |true=>
   have e:=ad hq;simp only;refine⟨ae _,?_⟩;rw[e];simp[Lib.indexByte]
  |false=>
   have aQ:=mX hq;have zw:(UInt8.ofNat (n % 256) == UInt8.ofNat b)=false:=by
    apply beq_eq_false_iff_ne.2;intro e;have:=congrArg UInt8.toNat e;rw[u8 a1,u8 hb]at this;exact aQ this
   have h1:=ih (n / 256) (i+1);simp only;cases hi:Di b l (n / 256) (i+1) with
   |none=>
    rw[hi]at h1;simp only at h1 ⊢;simp[Lib.indexByte,zw,h1]
   |some j=>
    rw[hi]at h1;simp only at h1 ⊢;obtain⟨h2,h3⟩:=h1;refine⟨by omega,?_⟩;have NM:((((j-(i+1):Nat):Int)) == -1)=false:=by
     rw[beq_eq_false_iff_ne];omega
    simp only[Lib.indexByte,zw,h3,NM];simp;omega
def Ku (f0:FuncId)(ca:Ca):Ca:=fun f args h nx=>
 match Nat.beq f f0 with
 |true=>match args with
  |[.str l n,.int .u8 (.ofNat b)]=>match Nat.ble b 255 with
   |true=>match Di b l n 0 with
    |some i=>fN i fun i=>.ok (.int .i64 (Int.ofNat i)) h nx
    |none=>.ok (.int .i64 (Int.negSucc 0)) h nx
   |false=>.fail
  |_=>.fail
 |false=>ca f args h nx
theorem ZE {f0:FuncId}(hx:DY P f0 Extern.BytealgIndexByte.indexByte){ca:Ca}(df:jn P c ca):jn P c (Ku f0 ca):=by
 intro f args h nx v g ny he;unfold Ku at he;cases hf:Nat.beq f f0 with
 |false=>rw[hf]at he;exact df f args h nx v g ny he
 |true=>
  intro σ w A ok hA;rw[hf]at he;have e1:=ad hf;subst e1;simp only at he;split at he
  ·rename_i l n b;cases hb:Nat.ble b 255 with
   |false=>rw[hb]at he;cases he
   |true=>
    rw[hb]at he;simp only at he;have aS:b<256:=by have:=ah hb;omega
    simp only[aC,av]at hA;obtain⟨V,L,e2,⟨_,e3⟩,V2,L2,e4,e5,e6⟩:=hA;subst e6;subst e5;subst e4;subst e3;subst e2;have aO:=Lib.run_indexByteString (P:=P) (bE l n) (Int.ofNat b) w;have ox:=zQv aS l n 0;have pV:(bE l n).data.toList=cC l n:=by show (cC l n).toArray.toList=_;simp
    have hu:(Int.ofNat b).toNat.toUInt8=UInt8.ofNat b:=rfl;rw[pV,hu]at aO;have bg:(callFunc f [Value.string (bE l n),.int .u8 (Int.ofNat b)].toArray).run P w=.ok (.value (.int .i64 (Lib.indexByte (cC l n) (UInt8.ofNat b)))) w:=by
     rw[hx];show ((Extern.BytealgIndexByte.indexByte #[.string (bE l n),.int .u8 (Int.ofNat b)]).run P w).andThen _=_;rw[aO];rfl
    unfold CR;rw[bg];cases hi:Di b l n 0 with
    |none=>
     rw[hi]at he ox;cases he;exact⟨σ,_,_,_,by simp only[av];rw[ox];rfl,.refl ok,rfl,rfl,rfl⟩
    |some i=>
     rw[hi]at he ox;simp only[fN_eq]at he;cases he;exact⟨σ,_,_,_,by simp only[av];rw[ox.2];rfl,.refl ok,rfl,rfl,rfl⟩
  ·cases he
end
end Go.Ev
