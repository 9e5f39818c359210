/- Texts ED EX. -/
import Derived.Lib.Bytealg
import Derived.Test.YtkdnmldmffkkoaaGreatDoorP27
set_option linter.unusedSimpArgs false
set_option linter.unusedVariables false
set_option maxRecDepth 100000
namespace Go.Ev
noncomputable section
variable {P : Program} {c : Cx} {σ τ υ : Sg} {h g f : Tr ABlk} {nx ny nz sz : Nat} {w x y : World} {tm tm' : Tr AV} {a : Act}
def Kp (h:Tr ABlk) (nx:Nat):R→Prop
 |.val _ g ny=>g=h∧ny=nx
 |.unit _ _=>False
 |.fail=>True
theorem Kp.bR {α:Type}{o:Option α}{k:α→R}(hh:∀v,Kp h nx (k v)):Kp h nx (bR o k):=by
 cases o with
 |none=>trivial
 |some v=>exact hh v
theorem Kp.val {v:AV}:Kp h nx (.val v h nx):=⟨rfl,rfl⟩
theorem Kp.fI {z:Int}{k:Int→R}(hh:∀v,Kp h nx (k v)):Kp h nx (fI z k):=by rw[fI_eq];exact hh z
theorem Kp.fN {z:Nat}{k:Nat→R}(hh:∀v,Kp h nx (k v)):Kp h nx (fN z k):=by rw[fN_eq];exact hh z
theorem Kp.vInt {n:Nat}:Kp h nx (vInt n h nx):=Kp.fN fun _=>.val
theorem Kp.vBool {b:Bool}:Kp h nx (vBool b h nx):=by cases b <;> exact .val
theorem zJ2 (ti:TI)(a:AV):Kp h nx (zcv ti a h nx):=by
 unfold zcv
 repeat' split
 all_goals first |exact .val |trivial
theorem zOg (op:BinOp)(k:IntKind) (a b:Int):Kp h nx (zc2 op k a b h nx):=by
 unfold zc2
 simp only
 repeat' split
 all_goals first |exact .val |exact Kp.fI fun _=>.val |trivial
theorem zLo (op:BinOp)(k:IntKind) (a b:Int):Kp h nx (zgy op k a b h nx):=by
 unfold zgy
 repeat' split
 all_goals first |exact Kp.fI fun _=>.val |exact Kp.fN fun _=>.val |trivial
theorem zQf (op:BinOp) (l n k m:Nat):Kp h nx (zk8 op l n k m h nx):=by
 unfold zk8
 simp only
 repeat' split
 all_goals first |exact .val |exact Kp.fN fun _=>Kp.fN fun _=>.val |trivial
theorem zOr (ti:TI)(eqs:Option (List (Nat×TypeDesc)))(b:Bool)(op:BinOp)(x y:AV):Kp h nx (zis ti eqs b op x y h nx):=by
 unfold zis
 repeat' split
 all_goals first |exact Kp.vBool |trivial
theorem zUf (op:BinOp)(a b:ByteArray):Kp h nx (zbj op a b h nx):=by
 unfold zbj
 repeat' split
 all_goals first |exact .val |exact Kp.vBool |trivial
theorem zP7 (ti:TI)(eqs:Option (List (Nat×TypeDesc)))(b:Bool)(op:BinOp)(x y:AV):Kp h nx (zj3 ti eqs b op x y h nx):=by
 unfold zj3
 repeat' split
 all_goals first |exact zLo _ _ _ _ |exact zOg _ _ _ _ |exact zQf _ _ _ _ _ |exact zUf _ _ _ |exact zOr _ _ _ _ _ _ |trivial
theorem zQm (op:UnOp)(x:AV):Kp h nx (zhy op x h nx):=by
 unfold zhy
 repeat' split
 all_goals first |exact .val |exact Kp.fI fun _=>.val |trivial
theorem zU4 (ti:TI)(t:TypeId)(x:AV):Kp h nx (zir ti t x h nx):=by
 unfold zir
 repeat' split
 all_goals first |exact .val |trivial
theorem zJq (ti:TI)(a:AV) (k:Nat):Kp h nx (zif ti a k h nx):=by
 unfold zif
 repeat' split
 all_goals first |exact Kp.fN fun _=>.val |trivial
theorem zQ8 (ti:TI)(a:AV) (k:Nat):Kp h nx (zim ti a k h nx):=by
 unfold zim
 repeat' split
 all_goals first |exact .val |trivial
theorem zRq (ti:TI)(a b:AV):Kp h nx (zd3 ti a b h nx):=by
 unfold zd3
 repeat' split
 all_goals first |exact Kp.fN fun _=>.val |trivial
theorem zQ7 (ti:TI)(a b:AV):Kp h nx (zh4 ti a b h nx):=by
 unfold zh4
 repeat' split
 all_goals first |exact .val |exact Kp.fN fun _=>.val |trivial
theorem zNg (a:AV) (k:Nat):Kp h nx (ziu a k h nx):=by
 unfold ziu
 repeat' split
 all_goals first |exact .val |trivial
theorem zUh (ti:TI)(a:AV)(lo hi mx:Option AV):Kp h nx (zix ti a lo hi mx h nx):=by
 unfold zix
 repeat' split
 all_goals try simp only[fN_eq]
 all_goals repeat' split
 all_goals first |exact .val |trivial
theorem zKx (ti:TI)(t:TypeId)(ok:Bool)(a:AV):Kp h nx (zk5 ti t ok a h nx):=by
 unfold zk5
 repeat' split
 all_goals first |exact .val |trivial
theorem zI5 (ok:Bool)(z:AV)(r:Option (Nat×AV)):Kp h nx (zac ok z r h nx):=by
 unfold zac
 repeat' split
 all_goals exact .val
theorem zG6 (ti:TI)(tk te:Option TI)(kt et:TypeId)(ok:Bool)(m k:AV):Kp h nx (zic ti tk te kt et ok m k h nx):=by
 unfold zic
 repeat' split
 all_goals first |exact zI5 _ _ _ |trivial
theorem zNd (ti:TI)(ps:List (Nat×AV)):Kp h nx (zh5 ti ps h nx):=by
 unfold zh5
 repeat' split
 all_goals first |exact .val |trivial
theorem zSy (ti:TI)(a:AV):Kp h nx (zdu ti a h nx):=by
 unfold zdu
 repeat' split
 all_goals first |exact Kp.vInt |trivial
theorem zNo (ti:TI)(a:AV):Kp h nx (zjr ti a h nx):=by
 unfold zjr
 repeat' split
 all_goals first |exact Kp.vInt |trivial
theorem zy4 (b:Bool)(l:List AV):Kp h nx (zfb b l h nx):=by
 unfold zfb
 repeat' split
 all_goals first |exact .val |trivial
def zvy:Option TI→Bool
 |some (.mk (.slice _) _ _ _ _)=>true
 |some _=>false
 |none=>false
theorem zKr (ts td:TI)(te:Option TI)(et:TypeId)(v:AV)(hs:zvy (some td)=false):Kp h nx (zmm ts td te et v h nx):=by
 unfold zmm
 repeat' split
 all_goals first |exact .val |exact Kp.fI fun _=>.val |exact Kp.fN fun _=>.val |trivial |(cases hs;done)
theorem zIz (ts td:TI)(te:Option TI)(et:TypeId)(v:AV)(hs:zvy (some td)=false):Kp h nx (zay ts td te et v h nx):=by
 unfold zay
 repeat' split
 all_goals first |exact .val |trivial |(cases hs;done)
def isW (c:Cx)(op:Op):Bool:=
 match op with
 |.move _=>false |.assign _=>false |.pick _ _ _=>false |.build _ _=>false |.load _ _=>false |.nilCheck _=>false |.binOp _ _ _ _ _=>false |.unOp _ _ _=>false
 |.convert _ d _=>zvy (c.tt.get d)
 |.makeInterface _ _=>false |.makeFunc _ _ _=>false |.slice _ _ _ _ _=>false |.fieldAddr _ _ _=>false |.field _ _ _=>false |.indexAddr _ _ _=>false |.index _ _ _=>false
 |.lookup _ _ _ _=>false |.typeAssert _ _ _ _=>false |.extract _ _=>false
 |.call cl=>match cl.callee with
  |.builtin .len=>false
  |.builtin .cap=>false
  |.builtin .max=>false
  |.builtin .min=>false
  |_=>true
 |_=>true
theorem zKk (op:Op)(hw:isW c op=false):Kp h nx (zdp c op tm h nx):=by
 cases op <;> try (cases hw;done)
 ·exact Kp.bR fun _=>.val
 ·exact Kp.bR fun _=>.val
 ·refine Kp.bR fun v=>?_
  split
  ·exact Kp.bR fun _=>.val
  ·exact Kp.bR fun _=>.val
  ·trivial
 ·exact Kp.bR fun _=>Kp.bR fun _=>zNd _ _
 ·exact Kp.bR fun _=>Kp.bR fun _=>zJ2 _ _
 ·refine Kp.bR fun v=>?_
  split <;> first |exact .val |trivial
 ·exact Kp.bR fun _=>Kp.bR fun _=>Kp.bR fun _=>zP7 _ _ _ _ _ _
 ·exact Kp.bR fun _=>zQm _ _
 ·rename_i s d x
  show Kp h nx (zfz c s d x tm h nx)
  unfold zfz
  refine Kp.bR fun ts0=>Kp.bR fun td0=>?_
  split
  ·unfold zno
   cases hts:c.tt.get s with
   |none=>trivial
   |some ts=>
    cases htd:c.tt.get d with
    |none=>trivial
    |some td=>
     show Kp h nx (bR (evO c.G tm x) fun a=>match c.G.sym with
      |false=>zmm ts td (c.tt.get (zj7 ts td)) (zj7 ts td) a h nx
      |true=>zay ts td (c.tt.get (zj7 ts td)) (zj7 ts td) a h nx)
     refine Kp.bR fun _=>?_
     cases c.G.sym with
     |false=>exact zKr _ _ _ _ _ (by rw[← htd];exact hw)
     |true=>exact zIz _ _ _ _ _ (by rw[← htd];exact hw)
  ·refine Kp.bR fun _=>?_
   unfold zm7
   repeat' split
   all_goals first |exact .val |trivial
  ·refine Kp.bR fun _=>?_
   unfold zo1
   repeat' split
   all_goals first |exact .val |trivial
  ·trivial
 ·exact Kp.bR fun _=>Kp.bR fun _=>zU4 _ _ _
 ·rename_i fn a b
  show Kp h nx (zin c fn a b tm h nx)
  unfold zin
  cases fn <;> first |exact Kp.bR fun _=>Kp.bR fun _=>.val |trivial
 ·exact Kp.bR fun _=>Kp.bR fun _=>Kp.bR fun _=>Kp.bR fun _=>Kp.bR fun _=>zUh _ _ _ _ _
 ·exact Kp.bR fun _=>Kp.bR fun _=>zJq _ _ _
 ·exact Kp.bR fun _=>Kp.bR fun _=>zQ8 _ _ _
 ·exact Kp.bR fun _=>Kp.bR fun _=>Kp.bR fun _=>zRq _ _ _
 ·exact Kp.bR fun _=>Kp.bR fun _=>Kp.bR fun _=>zQ7 _ _ _
 ·exact Kp.bR fun _=>Kp.bR fun _=>Kp.bR fun _=>zG6 _ _ _ _ _ _ _ _
 ·exact Kp.bR fun _=>Kp.bR fun _=>zKx _ _ _ _
 ·exact Kp.bR fun _=>zNg _ _
 ·rename_i cl
  obtain⟨callee,args,ts⟩:=cl
  cases callee <;> try (cases hw;done)
  rename_i b
  cases b <;> try (cases hw;done)
  ·exact Kp.bR fun l=>Kp.bR fun _=>Kp.bR fun _=>by split <;> first |exact zNo _ _ |trivial
  ·exact Kp.bR fun l=>Kp.bR fun _=>Kp.bR fun _=>by split <;> first |exact zSy _ _ |trivial
  ·exact Kp.bR fun l=>zy4 true l
  ·exact Kp.bR fun l=>zy4 false l
def opR (c:Cx)(ca:Ca)(ya:Ya)(ops:List Oper)(o:Oper)(tm:Tr AV)(h:Tr ABlk) (nx:Nat):Option (AV×Tr ABlk×Nat):=
 match zbz ops tm o with
 |none=>none
 |some false=>some (.tup [],h,nx)
 |some true=>match zdo o.op with
  |some (f,args)=>match zpu ca ya (evO c.G tm f) (zb2 c.G tm args.toList) h nx with
   |.ok v h nx=>some (v,h,nx)
   |.fail=>none
  |none=>match zfm o.op with
   |true=>none
   |false=>match zdp c o.op tm h nx with
    |.val v h nx=>some (v,h,nx)
    |.unit h nx=>some (.tup [],h,nx)
    |.fail=>none
theorem zye (hc:CxOk P c){ca:Ca}(hca:zcw P c ca){ya:Ya}(hya:zfc P c ya){ops:Array Oper}{o:Oper}{v:AV}{rr:Option Nat}(hs:opR c ca ya ops.toList o tm h nx=some (v,g,ny)):OpY P c rr ops o v tm h nx g ny:=by
 intro σ a w hk ht Q K hK
 unfold opR at hs
 cases hw:zbz ops.toList tm o with
 |none=>rw[hw]at hs;cases hs
 |some b=>
  rw[zjp ht hw]
  rw[hw]at hs
  cases b with
  |false=>
   cases hs
   simp only[Bool.false_eq_true,if_false]
   exact⟨fun _ _=>trivial,hK σ w undef zhp (.refl hk)⟩
  |true=>
   simp only[if_true]
   simp only at hs
   have plain:zdo o.op=none→o.wpIn (zbb rr) 0 P a w K Q:=by
    intro hcn
    rw[hcn]at hs
    simp only at hs
    cases hd0:zfm o.op with
    |true=>rw[hd0]at hs;cases hs
    |false=>
    rw[hd0]at hs
    simp only at hs
    have hd:∀cl,o.op≠.defer cl:=fun cl e=>by rw[e]at hd0;cases hd0
    have hp:=zv1 hc hk ht o
    cases hv:zdp c o.op tm h nx with
    |fail=>rw[hv]at hs;cases hs
    |val v' g' ny'=>
     rw[hv]at hs hp
     cases hs
     obtain⟨V,τ,x,h1,h2,h3⟩:=hp
     refine zdc hd ?_
     rw[h1]
     exact hK τ x V h2 h3
    |unit g' ny'=>
     rw[hv]at hs hp
     cases hs
     obtain⟨τ,x,h1,h3⟩:=hp
     refine zdc hd ?_
     rw[h1]
     exact hK τ x undef zhp h3
   obtain⟨dst,op,type,pos,after,guard⟩:=o
   cases op <;> try exact plain rfl
   rename_i cl
   obtain⟨callee,args,argTypes⟩:=cl
   cases callee <;> try exact plain rfl
   rename_i fo
   clear plain
   replace hs:(match zpu ca ya (evO c.G tm fo) (zb2 c.G tm args.toList) h nx with |.ok v h nx=>some (v,h,nx) |.fail=>none)=some (v,g,ny):=hs
   cases hf:evO c.G tm fo with
   |none=>rw[hf]at hs;cases hs
   |some fv=>
    rw[hf]at hs
    have hfv:=zde hk ht hf
    cases fv <;> try (cases hs;done)
    case yld i=>
     cases hl:zb2 c.G tm args.toList with
     |none=>rw[hl]at hs;cases hs
     |some l=>
      rw[hl]at hs
      replace hs:(match ya i l h nx with |.ok v h nx=>some (v,h,nx) |.fail=>none)=some (v,g,ny):=hs
      cases hy:ya i l h nx with
      |fail=>rw[hy]at hs;cases hs
      |ok v0 g0 n0=>
      rw[hy]at hs
      cases hs
      have hlr:=zh1 hk ht hl
      simp only[Rel]at hfv
      obtain⟨lb,hlb,e1⟩:=hfv
      obtain⟨fn,tmps,assign,body,hy1,hy2⟩:=hya i l h nx _ _ _ hy σ w (args.toList.map a.eval) lb hk hlr hlb
      have hex:(execOp a.eval ⟨dst,.call ⟨.value fo,args,argTypes⟩,type,pos,after,guard⟩).run P w=(Instr.yield lb (args.toList.map a.eval).toArray).run P w:=by
       have e2:execOp a.eval ⟨dst,.call ⟨.value fo,args,argTypes⟩,type,pos,after,guard⟩=(do let d ← Deferred.ofValue (a.eval fo) (args.map a.eval);invoke d.target d.args):=rfl
       rw[e2,e1]
       show (Instr.yield lb (#[]++args.map a.eval)).run P w=_
       congr 2
       apply Array.ext'
       simp
      refine zdc (fun _ e=>by cases e) ?_
      rw[hex,hy1]
      refine⟨fun hh=>by simp[zbb,Fence.wide]at hh,zuu (hy2.mono fun e x q=>?_)⟩
      cases e with
      |returned V=>
       obtain⟨τ,v,g,ny,q1,q2,q3,q4,q5⟩:=q
       subst q3
       subst q4
       subst q5
       exact hK τ x V q1 q2
      |panicked ch=>exact q.elim
      |outgrown=>exact q.elim
    rename_i fid first cap
    cases hl:zb2 c.G tm args.toList with
    |none=>rw[hl]at hs;cases hs
    |some l=>
     rw[hl]at hs
     replace hs:(match ca fid (first++(l++cap)) h nx with |.ok v h nx=>some (v,h,nx) |.fail=>none)=some (v,g,ny):=hs
     cases hy:ca fid (first++(l++cap)) h nx with
     |fail=>rw[hy]at hs;cases hs
     |ok v0 g0 n0=>
     rw[hy]at hs
     cases hs
     have hlr:=zh1 hk ht hl
     simp only[Rel]at hfv
     obtain⟨F,C,e1,r1,r2⟩:=hfv
     have hcr:=hca fid _ h nx _ _ _ hy σ w (F++(args.toList.map a.eval++C)) hk (r1.append (hlr.append r2))
     have hex:(execOp a.eval ⟨dst,.call ⟨.value fo,args,argTypes⟩,type,pos,after,guard⟩).run P w=(callFunc fid (F++(args.toList.map a.eval++C)).toArray).run P w:=by
      have e2:execOp a.eval ⟨dst,.call ⟨.value fo,args,argTypes⟩,type,pos,after,guard⟩=(do let d ← Deferred.ofValue (a.eval fo) (args.map a.eval);invoke d.target d.args):=rfl
      rw[e2,e1]
      show (callFunc fid (F.toArray++args.map a.eval++C.toArray)).run P w=_
      congr 2
      apply Array.ext'
      simp
     refine zdc (fun _ e=>by cases e) ?_
     rw[hex]
     unfold CR at hcr
     cases hrun:(callFunc fid (F++(args.toList.map a.eval++C)).toArray).run P w with
     |halt hh w'=>rw[hrun]at hcr;exact hcr.elim
     |ok nxt w'=>
      rw[hrun]at hcr
      cases nxt <;> try exact hcr.elim
      ·rename_i V
       obtain⟨τ,v,g,ny,q1,q2,q3,q4,q5⟩:=hcr
       subst q3
       subst q4
       subst q5
       exact hK τ _ V q1 q2
      ·rename_i f' A'
       refine⟨fun hh=>by simp[zbb,Fence.wide]at hh,znv (Calls.mono hcr fun e x q=>?_)⟩
       cases e with
       |returned V=>
        obtain⟨τ,v,g,ny,q1,q2,q3,q4,q5⟩:=q
        subst q3
        subst q4
        subst q5
        exact hK τ x V q1 q2
       |panicked ch=>exact q.elim
       |outgrown=>exact q.elim
theorem zCb {ca:Ca}{ya:Ya}{ops:List Oper}{o:Oper}(hs:∀t∈zbl ops o,tm.get t=tm'.get t):opR c ca ya ops o tm h nx=opR c ca ya ops o tm' h nx:=by
 have hop:zhf tm tm' o.op.operands.toList:=fun t ht=>hs t (by
  unfold zbl
  rw[List.mem_append]
  exact .inl (List.mem_filterMap.2 ⟨.tmp t,ht,rfl⟩))
 have hwant:zbz ops tm o=zbz ops tm' o:=by
  unfold zbz
  cases hg:o.guard with
  |none=>rfl
  |some p=>
   obtain⟨j,want⟩:=p
   simp only
   cases hj:ops[j]? with
   |none=>rfl
   |some oj=>
    simp only
    cases hd:oj.dst with
    |none=>rfl
    |some d=>
     simp only
     rw[hs d (by unfold zbl;rw[List.mem_append];refine .inr ?_;rw[hg];simp only;rw[hj];simp[hd])]
 unfold opR
 rw[hwant]
 have hcall:∀f args,zdo o.op=some (f,args)→evO c.G tm f=evO c.G tm' f∧zb2 c.G tm args.toList=zb2 c.G tm' args.toList:=by
  intro f args hcf
  unfold zdo at hcf
  cases hop2:o.op <;> rw[hop2]at hcf <;> try (cases hcf;done)
  rename_i cl
  obtain⟨callee,args',ts⟩:=cl
  cases callee <;> try (cases hcf;done)
  cases hcf
  rw[hop2]at hop
  exact⟨zk7 hop (by simp[Op.operands,Call.operands]),zmo hop fun y hy=>by simp[Op.operands,Call.operands]at hy ⊢;exact .inr hy⟩
 cases zbz ops tm' o with
 |none=>rfl
 |some b=>
  cases b with
  |false=>rfl
  |true=>
   simp only
   cases hcf:zdo o.op with
   |none=>simp only;rw[zE1 o.op hop]
   |some p=>
    obtain⟨f,args⟩:=p
    obtain⟨e1,e2⟩:=hcall f args hcf
    simp only
    rw[e1,e2]
theorem zyo {ca:Ca}{ya:Ya}{ops:List Oper}{o:Oper}(hw:isW c o.op=false){v:AV}(he:opR c ca ya ops o tm h nx=some (v,g,ny)):g=h∧ny=nx:=by
 unfold opR at he
 split at he
 ·cases he
 ·cases he;exact⟨rfl,rfl⟩
 ·have hcn:zdo o.op=none:=by
   unfold zdo
   cases hop:o.op <;> try rfl
   rename_i cl
   obtain⟨callee,args,ts⟩:=cl
   rw[hop]at hw
   cases callee <;> first |rfl |(cases hw;done)
  rw[hcn]at he
  simp only at he
  split at he
  ·cases he
  have hkp:=zKk (c:=c) (tm:=tm) (h:=h) (nx:=nx) o.op hw
  cases hv:zdp c o.op tm h nx with
  |fail=>rw[hv]at he;cases he
  |unit _ _=>rw[hv]at hkp;exact hkp.elim
  |val v' g' ny'=>
   rw[hv]at he hkp
   cases he
   exact hkp
def stt (c:Cx)(ca:Ca)(ya:Ya) (sz:Nat)(ops:List Oper)(tm:Tr AV)(h:Tr ABlk) (nx:Nat) (i:Nat):Option (Tr AV×Tr ABlk×Nat):=
 Nat.rec (motive:=fun _=>Option (Tr AV×Tr ABlk×Nat)) (some (tm,h,nx)) (fun i s=>match s with
  |none=>none
  |some (tm,h,nx)=>match ops[i]? with
   |none=>none
   |some o=>match opR c ca ya ops o tm h nx with
    |none=>none
    |some (v,h',nx')=>match o.dst with
     |none=>some (tm,h',nx')
     |some d=>match Nat.ble (Nat.succ d) sz with
      |true=>tm.putK (some v) d fun tm'=>some (tm',h',nx')
      |false=>none) i
theorem zC3 {ca:Ca}{ya:Ya}{ops:List Oper}{i:Nat}{s:Tr AV×Tr ABlk×Nat}(hs:stt c ca ya sz ops tm h nx (i+1)=some s):
  ∃tm1 h1 n1 o v h2 n2,stt c ca ya sz ops tm h nx i=some (tm1,h1,n1)∧ops[i]?=some o∧opR c ca ya ops o tm1 h1 n1=some (v,h2,n2)∧(∀d,o.dst=some d→d<sz)∧
   s=((match o.dst with |none=>tm1 |some d=>tm1.put d (some v)),h2,n2):=by
 change (match stt c ca ya sz ops tm h nx i with
  |none=>none
  |some (tm,h,nx)=>match ops[i]? with
   |none=>none
   |some o=>match opR c ca ya ops o tm h nx with
    |none=>none
    |some (v,h',nx')=>match o.dst with
     |none=>some (tm,h',nx')
     |some d=>match Nat.ble (Nat.succ d) sz with
      |true=>tm.putK (some v) d fun tm'=>some (tm',h',nx')
      |false=>none)=some s at hs
 cases h1:stt c ca ya sz ops tm h nx i with
 |none=>rw[h1]at hs;cases hs
 |some p=>
  obtain⟨tm1,g1,n1⟩:=p
  rw[h1]at hs
  simp only at hs
  cases h2:ops[i]? with
  |none=>rw[h2]at hs;cases hs
  |some o=>
   rw[h2]at hs
   simp only at hs
   cases h3:opR c ca ya ops o tm1 g1 n1 with
   |none=>rw[h3]at hs;cases hs
   |some q=>
    obtain⟨v,g2,n2⟩:=q
    rw[h3]at hs
    simp only at hs
    cases h4:o.dst with
    |none=>
     rw[h4]at hs
     cases hs
     exact⟨tm1,g1,n1,o,v,g2,n2,rfl,rfl,h3,(fun d e=>by rw[h4]at e;cases e),by rw[h4]⟩
    |some d=>
     rw[h4]at hs
     simp only at hs
     cases h5:Nat.ble (Nat.succ d) sz with
     |false=>rw[h5]at hs;cases hs
     |true=>
      rw[h5]at hs
      simp only[Tr.putK_eq]at hs
      cases hs
      exact⟨tm1,g1,n1,o,v,g2,n2,rfl,rfl,h3,(fun d' e=>by rw[h4]at e;cases e;exact Nat.le_of_ble_eq_true h5),by rw[h4]⟩
theorem zDh {ca:Ca}{ya:Ya}{ops:List Oper}{s:Tr AV×Tr ABlk×Nat}:∀(n i:Nat),stt c ca ya sz ops tm h nx (i+n)=some s→∃s',stt c ca ya sz ops tm h nx i=some s'
 |0,i,hs=>⟨s,hs⟩
 |n+1,i,hs=>by
  obtain⟨tm1,h1,n1,_,_,_,_,e,_⟩:=zC3 (show stt c ca ya sz ops tm h nx ((i+n)+1)=some s from hs)
  exact zDh n i e
mutual
def zlh:AV→AV→Bool
 |.bool a,.bool b=>match a with |true=>b |false=>!b
 |.int k a,.int k' b=>match zha k k' with |true=>ieq a b |false=>false
 |.str l n,.str k m=>match Nat.beq l k with |true=>Nat.beq n m |false=>false
 |.ptr0,.ptr0=>true
 |.ptr i o,.ptr j p=>match Nat.beq i j with |true=>Nat.beq o p |false=>false
 |.sl0,.sl0=>true
 |.sl i o l c b,.sl i' o' l' c' b'=>Nat.beq i i' && Nat.beq o o' && Nat.beq l l' && Nat.beq c c' && (match b with |true=>b' |false=>!b')
 |.map0,.map0=>true
 |.map i,.map j=>Nat.beq i j
 |.func f a c,.func f' a' c'=>match Nat.beq f f' with |true=>zit a a' && zit c c' |false=>false
 |.nilFunc,.nilFunc=>true
 |.iface t v,.iface t' v'=>match Nat.beq t t' with |true=>zlh v v' |false=>false
 |.nilIface,.nilIface=>true
 |.agg l,.agg m=>zit l m
 |.tup l,.tup m=>zit l m
 |.opq n,.opq m=>Nat.beq n m
 |.yld n,.yld m=>Nat.beq n m
 |_,_=>false
def zit:List AV→List AV→Bool
 |[],[]=>true
 |a::l,b::m=>match zlh a b with |true=>zit l m |false=>false
 |_,_=>false
end
theorem bm {a b:Bool}(h:(match a with |true=>b |false=>!b)=true):a=b:=by cases a <;> cases b <;> first |rfl |(cases h;done)
mutual
theorem zoy:∀(a b:AV),zlh a b=true→a=b:=by
 intro a b h
 cases a <;> cases b <;> first |rfl |(simp only[zlh]at h;first |(cases h;done) |skip)
 ·exact congrArg AV.bool (bm h)
 ·rename_i k a k' b
  cases hk:zha k k' with
  |false=>rw[hk]at h;cases h
  |true=>
   rw[hk]at h
   have e1:=zrj hk
   have h2:ieq a b=true:=h
   rw[zgi]at h2
   have e2:=eq_of_beq h2
   subst e1
   subst e2
   rfl
 ·rename_i l n k m
  cases hk:Nat.beq l k with
  |false=>rw[hk]at h;cases h
  |true=>
   rw[hk]at h
   rw[Nat.eq_of_beq_eq_true hk,Nat.eq_of_beq_eq_true (show Nat.beq n m=true from h)]
 ·rename_i l n k m
  cases hk:Nat.beq l k with
  |false=>rw[hk]at h;cases h
  |true=>
   rw[hk]at h
   rw[Nat.eq_of_beq_eq_true hk,Nat.eq_of_beq_eq_true (show Nat.beq n m=true from h)]
 ·rename_i i o l c b i' o' l' c' b'
  simp only[Bool.and_eq_true]at h
  obtain⟨⟨⟨⟨e1,e2⟩,e3⟩,e4⟩,e5⟩:=h
  rw[Nat.eq_of_beq_eq_true e1,Nat.eq_of_beq_eq_true e2,Nat.eq_of_beq_eq_true e3,Nat.eq_of_beq_eq_true e4,bm e5]
 ·rw[Nat.eq_of_beq_eq_true h]
 ·rename_i f a c f' a' c'
  cases hk:Nat.beq f f' with
  |false=>rw[hk]at h;cases h
  |true=>
   rw[hk]at h
   have h2:(zit a a' && zit c c')=true:=h
   rw[Bool.and_eq_true]at h2
   rw[Nat.eq_of_beq_eq_true hk,zog a a' h2.1,zog c c' h2.2]
 ·rename_i t v t' v'
  cases hk:Nat.beq t t' with
  |false=>rw[hk]at h;cases h
  |true=>
   rw[hk]at h
   rw[Nat.eq_of_beq_eq_true hk,zoy v v' h]
 ·rename_i l m
  rw[zog l m h]
 ·rename_i l m
  rw[zog l m h]
 ·rw[Nat.eq_of_beq_eq_true h]
 ·rw[Nat.eq_of_beq_eq_true h]
theorem zog:∀(a b:List AV),zit a b=true→a=b:=by
 intro a b h
 cases a <;> cases b <;> first |rfl |(simp only[zit]at h;first |(cases h;done) |skip)
 rename_i a l b m
 cases hk:zlh a b with
 |false=>rw[hk]at h;cases h
 |true=>
  rw[hk]at h
  rw[zoy a b hk,zog l m h]
end
def zrc (c:Cx)(ms:List Nat) (i j:Nat)(li:List Tmp)(oi oj:Oper):Bool:=
 match Nat.beq i j with
 |true=>true
 |false=>
  let ordered:Bool:=match Nat.ble (Nat.succ j) i with
   |true=>zb1 ms j i
   |false=>zb1 ms i j
  match (match isW c oi.op with |true=>isW c oj.op |false=>false) with
  |true=>ordered
  |false=>match oj.dst with
   |none=>true
   |some d=>match zjk d (li++oi.dst.toList) with
    |true=>ordered
    |false=>true
def zF5 (c:Cx)(ops:List Oper)(ms:List Nat):Bool:=
 zbi (zcr ops.length) fun i=>match ops[i]? with
  |none=>true
  |some oi=>match zbi oi.after.toList (fun e=>match Region.binds .any e with |true=>Nat.ble (Nat.succ e.on) i |false=>true) with
   |false=>false
   |true=>zbi (zcr ops.length) fun j=>match ops[j]? with
    |none=>true
    |some oj=>zrc c ms i j (zbl ops oi) oi oj
def zzy (c:Cx)(ops:List Oper)(ms:List Nat) (i p:Nat):Bool:=
 zbi (zcr ops.length) fun j=>match ops[j]? with
  |none=>true
  |some oj=>match isW c oj.op with
   |false=>true
   |true=>match Nat.ble (Nat.succ j) p with
    |true=>!(zb1 ms i j)
    |false=>!(zb1 ms j i)
def znw (c:Cx)(ca:Ca)(ya:Ya) (sz:Nat)(ops:List Oper)(tm:Tr AV)(h:Tr ABlk) (nx:Nat)(ms:List Nat) (i:Nat)(o:Oper) (p:Nat):Bool:=
 match zzy c ops ms i p with
 |false=>true
 |true=>match stt c ca ya sz ops tm h nx i,stt c ca ya sz ops tm h nx p with
  |some (tm1,h1,n1),some (_,h2,n2)=>match opR c ca ya ops o tm1 h1 n1,opR c ca ya ops o tm1 h2 n2 with
   |some (v,_,_),some (u,_,_)=>zlh u v
   |_,_=>false
  |_,_=>false
def zxm (c:Cx)(ca:Ca)(ya:Ya) (sz:Nat)(ops:List Oper)(tm:Tr AV)(h:Tr ABlk) (nx:Nat)(ms:List Nat):Bool:=
 zbi (zcr ops.length) fun i=>match ops[i]? with
  |none=>true
  |some o=>match isW c o.op with
   |true=>true
   |false=>match znw c ca ya sz ops tm h nx ms i o 0 with
    |false=>false
    |true=>zbi (zcr ops.length) fun j=>match ops[j]? with
     |none=>true
     |some oj=>match isW c oj.op with
      |false=>true
      |true=>znw c ca ya sz ops tm h nx ms i o (Nat.succ j)
def edW (c:Cx)(ca:Ca)(ya:Ya) (sz:Nat)(ops:Array Oper)(tm:Tr AV)(h:Tr ABlk) (nx:Nat):OS:=
 match zF5 c ops.toList (zak ops.toList []) with
 |false=>.fail
 |true=>match stt c ca ya sz ops.toList tm h nx ops.toList.length with
  |none=>.fail
  |some (tm',h',nx')=>match zxm c ca ya sz ops.toList tm h nx (zak ops.toList []) with
   |true=>.ok tm' h' nx'
   |false=>.fail
def zfh (c:Cx)(ca:Ca)(ya:Ya) (sz:Nat)(ops:Array Oper)(tm:Tr AV)(h:Tr ABlk) (nx:Nat) (i:Nat):Tr AV×Tr ABlk×Nat:=(stt c ca ya sz ops.toList tm h nx i).getD (tm,h,nx)
def zt7 (c:Cx)(ca:Ca)(ya:Ya) (sz:Nat)(ops:Array Oper)(tm:Tr AV)(h:Tr ABlk) (nx:Nat) (i:Nat):AV:=match stt c ca ya sz ops.toList tm h nx i with
 |some (tm1,h1,n1)=>match ops[i]? with
  |some o=>match opR c ca ya ops.toList o tm1 h1 n1 with
   |some (v,_,_)=>v
   |none=>.tup []
  |none=>.tup []
 |none=>.tup []
def zoq (c:Cx)(ops:Array Oper) (i:Nat):Bool:=match ops[i]? with
 |some o=>isW c o.op
 |none=>false
theorem zwa (hm:P.follows .mixedOrders=true)(hc:CxOk P c){ca:Ca}(hca:zcw P c ca){ya:Ya}(hya:zfc P c ya):zlk P c (edW c ca ya):=by
 intro sz ops tm h nx tm' h' nx' he inr id ds rr hi σ a w hk st
 simp only[AS.h,AS.nx,AS.tm,AS.ds]at hk st
 unfold edW at he
 cases hs:zF5 c ops.toList (zak ops.toList []) with
 |false=>rw[hs]at he;cases he
 |true=>
  rw[hs]at he
  simp only at he
  cases hf:stt c ca ya sz ops.toList tm h nx ops.toList.length with
  |none=>rw[hf]at he;cases he
  |some s=>
   obtain⟨tmF,hF,nF⟩:=s
   rw[hf]at he
   simp only at he
   cases hd:zxm c ca ya sz ops.toList tm h nx (zak ops.toList []) with
   |false=>rw[hd]at he;cases he
   |true=>
    rw[hd]at he
    injection he with he1 he2 he3
    subst he1
    subst he2
    subst he3
    rw[Array.length_toList]at hf
    have hmask:zil ops (zak ops.toList []):=zn0 ops.toList [] (fun j m hm=>by simp at hm) fun j=>by simp
    have hst:∀i oi,ops[i]?=some oi→(∀e∈oi.after.toList,Region.binds .any e=true→e.on<i)∧∀j oj,ops[j]?=some oj→zrc c (zak ops.toList []) i j (zbl ops.toList oi) oi oj=true:=by
     intro i oi hi
     have hlt:i<ops.size:=by
      rcases Nat.lt_or_ge i ops.size with h1 |h1
      ·exact h1
      ·rw[Array.getElem?_eq_none h1]at hi;cases hi
     have h1:=zbf hs i (by simp[zcr,hlt])
     simp only[Array.getElem?_toList,hi]at h1
     cases hb:zbi oi.after.toList (fun e=>match Region.binds .any e with |true=>Nat.ble (Nat.succ e.on) i |false=>true) with
     |false=>rw[hb]at h1;cases h1
     |true=>
      rw[hb]at h1
      refine⟨fun e he hbind=>?_,fun j oj hj=>?_⟩
      ·have:=zbf hb e he
       simp only[hbind]at this
       exact Nat.le_of_ble_eq_true this
      ·have hjlt:j<ops.size:=by
        rcases Nat.lt_or_ge j ops.size with h2 |h2
        ·exact h2
        ·rw[Array.getElem?_eq_none h2]at hj;cases hj
       have:=zbf h1 j (by simp[zcr,hjlt])
       simpa only[Array.getElem?_toList,hj]using this
    have hord:∀i j,i≠j→(match Nat.ble (Nat.succ j) i with |true=>zb1 (zak ops.toList []) j i |false=>zb1 (zak ops.toList []) i j)=true→(j<i→zb1 (zak ops.toList []) j i=true)∧(i<j→zb1 (zak ops.toList []) i j=true):=by
     intro i j hne ho
     cases hb:Nat.ble (Nat.succ j) i with
     |true=>
      rw[hb]at ho
      have:=Nat.le_of_ble_eq_true hb
      exact⟨fun _=>ho,fun h2=>by omega⟩
     |false=>
      rw[hb]at ho
      have:¬j<i:=fun hh=>by rw[show Nat.ble (Nat.succ j) i=true from Nat.ble_eq_true_of_le hh]at hb;cases hb
      exact⟨fun h2=>absurd h2 this,fun _=>ho⟩
    have hat:∀i,i≤ops.size→∃s,stt c ca ya sz ops.toList tm h nx i=some s:=fun i hi=>zDh (ops.size-i) i (by rw[Nat.add_sub_cancel' hi];exact hf)
    have hop:∀i o,ops[i]?=some o→∃tm1 h1 n1 v h2 n2,stt c ca ya sz ops.toList tm h nx i=some (tm1,h1,n1)∧opR c ca ya ops.toList o tm1 h1 n1=some (v,h2,n2)∧(∀d,o.dst=some d→d<sz)∧stt c ca ya sz ops.toList tm h nx (i+1)=some ((match o.dst with |none=>tm1 |some d=>tm1.put d (some v)),h2,n2)∧zt7 c ca ya sz ops tm h nx i=v∧zfh c ca ya sz ops tm h nx i=(tm1,h1,n1)∧zfh c ca ya sz ops tm h nx (i+1)=((match o.dst with |none=>tm1 |some d=>tm1.put d (some v)),h2,n2):=by
     intro i o ho
     have hlt:i<ops.size:=(Array.getElem?_eq_some_iff.1 ho).1
     obtain⟨s,hs⟩:=hat (i+1) hlt
     obtain⟨tm1,h1,n1,o',v,h2,n2,e1,e2,e3,e4,e5⟩:=zC3 hs
     have:o'=o:=by
      rw[Array.getElem?_toList,ho]at e2
      cases e2
      rfl
     subst this
     have hs2:stt c ca ya sz ops.toList tm h nx (i+1)=some ((match o'.dst with |none=>tm1 |some d=>tm1.put d (some v)),h2,n2):=by rw[hs];exact congrArg some e5
     exact⟨tm1,h1,n1,v,h2,n2,e1,e3,e4,hs2,by unfold zt7;rw[e1];simp only;rw[ho];simp only;rw[e3],by unfold zfh;rw[e1];rfl,by unfold zfh;rw[hs2];rfl⟩
    have hWA:∀{i o},ops[i]?=some o→zoq c ops i=isW c o.op:=fun {i o} ho=>by unfold zoq;rw[ho]
    have hS0:zfh c ca ya sz ops tm h nx 0=(tm,h,nx):=rfl
    have hSn:zfh c ca ya sz ops tm h nx ops.size=(tmF,hF,nF):=by unfold zfh;rw[hf];rfl
    have key:Dr P c rr sz ops (zfh c ca ya sz ops tm h nx) (zt7 c ca ya sz ops tm h nx) (zoq c ops) (zb1 (zak ops.toList [])):=by
     refine⟨?back,?bef,?tmps,?chain,?step,?keep,?dyn⟩
     case step=>
      intro i o ho
      obtain⟨tm1,h1,n1,v,h2,n2,e1,e3,e4,e5,e6,e7,e8⟩:=hop i o ho
      rw[e6,e7,e8]
      refine⟨zye hc hca hya ?_,e4,rfl⟩
      rw[← e3]
      exact zCb fun t ht=>by rw[zmk,if_pos ht]
     case keep=>
      intro i hlt hw
      obtain⟨tm1,h1,n1,v,h2,n2,e1,e3,e4,e5,e6,e7,e8⟩:=hop i _ (Array.getElem?_eq_getElem hlt)
      rw[hWA (Array.getElem?_eq_getElem hlt)]at hw
      obtain⟨k1,k2⟩:=zyo hw e3
      rw[e7,e8,k1,k2]
     case back=>
      intro i hi k hk'
      have ho:ops[i]?=some ops[i]:=Array.getElem?_eq_getElem hi
      unfold dir at hk'
      rw[ho]at hk'
      simp only[Option.map_some,Option.getD_some,Array.any_eq_true']at hk'
      obtain⟨e,he,hb⟩:=hk'
      rw[Bool.and_eq_true]at hb
      have:=(hst i _ ho).1 e (by simpa using he) hb.1
      have hk2:e.on=k:=by simpa using hb.2
      omega
     case bef=>
      intro i j hb l hl hdeps
      unfold zb1 at hb
      rw[zln]at hb
      cases hm2:(zak ops.toList [])[j]? with
      |none=>simp[List.getD,hm2]at hb
      |some m=>
       have:(zak ops.toList []).getD j 0=m:=by simp[List.getD,hm2]
       rw[this]at hb
       exact hmask j m hm2 i hb l hl hdeps
     case tmps=>
      intro i j o p d hi hj hne hpd hlook
      have hp:=(hst i o hi).2 j p hj
      unfold zrc at hp
      cases hb:Nat.beq i j with
      |true=>exact absurd (Nat.eq_of_beq_eq_true hb) hne
      |false=>
       rw[hb]at hp
       simp only at hp
       refine hord i j hne ?_
       have hmem:zjk d (zbl ops.toList o++o.dst.toList)=true:=by
        apply znu
        rw[List.mem_append]
        rcases hlook with h1 |h1
        ·exact .inl h1
        ·rw[h1];exact .inr (by simp)
       cases hww:(match isW c o.op with |true=>isW c p.op |false=>false) with
       |true=>rw[hww]at hp;exact hp
       |false=>
        rw[hww,hpd]at hp
        simp only at hp
        rw[hmem]at hp
        exact hp
     case chain=>
      intro i j hlt hjl hwo hwp
      have hi:ops[i]?=some ops[i]:=Array.getElem?_eq_getElem (by omega)
      have hj:ops[j]?=some ops[j]:=Array.getElem?_eq_getElem hjl
      rw[hWA hi]at hwo
      rw[hWA hj]at hwp
      have hp:=(hst i _ hi).2 j _ hj
      unfold zrc at hp
      cases hb:Nat.beq i j with
      |true=>have:=Nat.eq_of_beq_eq_true hb;omega
      |false=>
       rw[hb]at hp
       simp only[hwo,hwp]at hp
       exact(hord i j (by omega) hp).2 hlt
     case dyn=>
      intro i o hi hnw0 p hp hp00 hvalid0
      have hnw:isW c o.op=false:=by rw[← hWA hi];exact hnw0
      obtain⟨tm1,h1,n1,v,h2,n2,hsti,hopi,e4,e5,e6,e7,e8⟩:=hop i o hi
      obtain⟨q,hstp⟩:=hat p hp
      have hp0:p=0∨∃o',ops[p-1]?=some o'∧isW c o'.op=true:=by
       rcases hp00 with e |e
       ·exact .inl e
       ·refine .inr ?_
        unfold zoq at e
        cases ho':ops[p-1]? with
        |none=>rw[ho']at e;cases e
        |some o'=>rw[ho']at e;exact⟨o',rfl,e⟩
      have hvalid:∀j o',ops[j]?=some o'→isW c o'.op=true→(zb1 (zak ops.toList []) j i=true→j<p)∧(zb1 (zak ops.toList []) i j=true→p≤j):=fun j o' hj hw=>hvalid0 j (Array.getElem?_eq_some_iff.1 hj).1 (by rw[hWA hj];exact hw)
      have hSp:zfh c ca ya sz ops tm h nx p=q:=by unfold zfh;rw[hstp];rfl
      rw[e6,e7,hSp]
      have hilt:i<ops.size:=by
       rcases Nat.lt_or_ge i ops.size with h5 |h5
       ·exact h5
       ·rw[Array.getElem?_eq_none h5]at hi;cases hi
      have hd1:=zbf hd i (by simp[zcr,hilt])
      simp only[Array.getElem?_toList,hi,hnw]at hd1
      have hdat:znw c ca ya sz ops.toList tm h nx (zak ops.toList []) i o p=true:=by
       cases hd0:znw c ca ya sz ops.toList tm h nx (zak ops.toList []) i o 0 with
       |false=>rw[hd0]at hd1;cases hd1
       |true=>
        rw[hd0]at hd1
        rcases hp0 with hp0 |⟨o',ho',hw'⟩
        ·subst hp0;exact hd0
        ·cases p with
         |zero=>exact hd0
         |succ p=>
          have ho2:ops[p]?=some o':=by simpa using ho'
          have:=zbf hd1 p (by simp[zcr];omega)
          simpa only[Array.getElem?_toList,ho2,hw']using this
      unfold znw at hdat
      have hposk:zzy c ops.toList (zak ops.toList []) i p=true:=by
       have gen:∀(l:List Nat),zbi l (fun j=>match ops.toList[j]? with
         |none=>true
         |some oj=>match isW c oj.op with
          |false=>true
          |true=>match Nat.ble (Nat.succ j) p with
           |true=>!(zb1 (zak ops.toList []) i j)
           |false=>!(zb1 (zak ops.toList []) j i))=true:=by
        intro l
        induction l with
        |nil=>rfl
        |cons j l ih=>
         show (match (match ops.toList[j]? with
          |none=>true
          |some oj=>match isW c oj.op with
           |false=>true
           |true=>match Nat.ble (Nat.succ j) p with
            |true=>!(zb1 (zak ops.toList []) i j)
            |false=>!(zb1 (zak ops.toList []) j i)) with |true=>_ |false=>false)=true
         have hone:(match ops.toList[j]? with
          |none=>true
          |some oj=>match isW c oj.op with
           |false=>true
           |true=>match Nat.ble (Nat.succ j) p with
            |true=>!(zb1 (zak ops.toList []) i j)
            |false=>!(zb1 (zak ops.toList []) j i))=true:=by
          rw[Array.getElem?_toList]
          cases hj:ops[j]? with
          |none=>rfl
          |some oj=>
           simp only
           cases hw:isW c oj.op with
           |false=>rfl
           |true=>
            simp only
            obtain⟨v1,v2⟩:=hvalid j oj hj hw
            cases hb:Nat.ble (Nat.succ j) p with
            |true=>
             have:=Nat.le_of_ble_eq_true hb
             simp only
             cases hbf:zb1 (zak ops.toList []) i j with
             |false=>rfl
             |true=>have:=v2 hbf;omega
            |false=>
             have hnl:¬j<p:=fun hh=>by rw[show Nat.ble (Nat.succ j) p=true from Nat.ble_eq_true_of_le hh]at hb;cases hb
             simp only
             cases hbf:zb1 (zak ops.toList []) j i with
             |false=>rfl
             |true=>exact absurd (v1 hbf) hnl
         rw[hone]
         exact ih
       exact gen _
      rw[hposk,hsti,hstp]at hdat
      obtain⟨q1,q2,q3⟩:=q
      simp only at hdat ⊢
      rw[hopi]at hdat
      cases ho2:opR c ca ya ops.toList o tm1 q2 q3 with
      |none=>rw[ho2]at hdat;cases hdat
      |some r=>
       obtain⟨u,g,ny⟩:=r
       rw[ho2]at hdat
       have:=zoy u v hdat
       subst this
       obtain⟨k1,k2⟩:=zyo hnw ho2
       subst k1
       subst k2
       refine zye hc hca hya ?_
       rw[← ho2]
       exact zCb fun t ht=>by rw[zmk,if_pos ht]
    have hk':Ok c.G σ (zfh c ca ya sz ops tm h nx 0).2.1 (zfh c ca ya sz ops tm h nx 0).2.2 w:=hk
    have st':St σ (zfh c ca ya sz ops tm h nx 0).1 a sz ds:=st
    have fin:=zF8 hm key hk' st' id (Q:=QE (.norm tmF hF nF ds)) (by rw[hSn];exact⟨rfl,rfl⟩)
    exact fin
end
end Go.Ev
namespace Go.Ev
variable {P : Program} {c : Cx} {σ τ υ : Sg} {h g : Tr ABlk} {nx ny : Nat} {w x : World}
def XOk (P:Program)(f:FuncId)(e:Array Value→Sem Value):Prop:=∀A w,(callFunc f A).run P w=((e A).run P w).andThen fun v w'=>.ok (.value v) w'
theorem zDq {f : FuncId} {fn : Func} {e : Array Value → Sem Value} (hf : P.funcs[f]? = some fn) (hn : (fn.name == "runtime.NumGoroutine") = false) (hb : fn.body = none) (h1 : Extern.findNext fn = none) (h2 : Extern.find fn = some e) : XOk P f e := by
 intro A w
 have hn' : ¬ fn.name = "runtime.NumGoroutine" := fun e => by rw [e] at hn; simp at hn
 simp only[callFunc,Sem.run_bind,run_program,Result.andThen,hf,hn',hb,h1,h2,mark,Sem.run,Option.isNone_none,if_true,beq_iff_eq,if_false]
 cases (e A).run P w <;> rfl
noncomputable section
def zr9 (f0:FuncId)(ca:Ca):Ca:=fun f args h nx=>
 match Nat.beq f f0 with
 |true=>match args with
  |[v]=>.ok v h nx
  |_=>.fail
 |false=>ca f args h nx
theorem zCc {f0:FuncId}(hx:XOk P f0 Extern.AbiNoEscape.same){ca:Ca}(hca:zcw P c ca):zcw P c (zr9 f0 ca):=by
 intro f args h nx v g ny he
 unfold zr9 at he
 cases hf:Nat.beq f f0 with
 |false=>rw[hf]at he;exact hca f args h nx v g ny he
 |true=>
  intro σ w A ok hA
  rw[hf]at he
  have e1:=Nat.eq_of_beq_eq_true hf
  subst e1
  simp only at he
  split at he
  ·cases he
   simp only[za1]at hA
   obtain⟨V,L,e2,e3,e4⟩:=hA
   subst e4
   subst e2
   unfold CR
   rw[hx]
   exact⟨σ,_,_,_,e3,.refl ok,rfl,rfl,rfl⟩
  ·cases he
def zm8 (b l:Nat):Nat→Nat→Option Nat:=
 Nat.rec (motive:=fun _=>Nat→Nat→Option Nat) (fun _ _=>none) (fun _ ih n i=>match Nat.beq (Nat.mod n 256) b with
  |true=>some i
  |false=>ih (Nat.div n 256) (Nat.succ i)) l
theorem zOw (b l n i:Nat):zm8 b (l+1) n i=match Nat.beq (n % 256) b with
  |true=>some i
  |false=>zm8 b l (n / 256) (i+1):=rfl
theorem zQv {b:Nat}(hb:b<256):∀(l n i:Nat),(match zm8 b l n i with |some j=>i≤j∧Lib.indexByte (zar l n) (UInt8.ofNat b)=((j-i:Nat):Int) |none=>Lib.indexByte (zar l n) (UInt8.ofNat b)=-1):=by
 intro l
 induction l with
 |zero=>intro n i;rfl
 |succ l ih=>
  intro n i
  rw[zOw,zfu]
  have a1:n % 256<256:=Nat.mod_lt _ (by decide)
  cases hq:Nat.beq (n % 256) b with
  |true=>
   have e:=Nat.eq_of_beq_eq_true hq
   simp only
   refine⟨Nat.le_refl _,?_⟩
   rw[e]
   simp[Lib.indexByte]
  |false=>
   have hne:=zea hq
   have hbq:(UInt8.ofNat (n % 256) == UInt8.ofNat b)=false:=by
    apply beq_eq_false_iff_ne.2
    intro e
    have:=congrArg UInt8.toNat e
    rw[u8 a1,u8 hb]at this
    exact hne this
   have h1:=ih (n / 256) (i+1)
   simp only
   cases hi:zm8 b l (n / 256) (i+1) with
   |none=>
    rw[hi]at h1
    simp only at h1 ⊢
    simp[Lib.indexByte,hbq,h1]
   |some j=>
    rw[hi]at h1
    simp only at h1 ⊢
    obtain⟨h2,h3⟩:=h1
    refine⟨by omega,?_⟩
    have hne1:((((j-(i+1):Nat):Int)) == -1)=false:=by
     rw[beq_eq_false_iff_ne]
     omega
    simp only[Lib.indexByte,hbq,h3,hne1]
    simp
    omega
def zqp (f0:FuncId)(ca:Ca):Ca:=fun f args h nx=>
 match Nat.beq f f0 with
 |true=>match args with
  |[.str l n,.int .u8 (.ofNat b)]=>match Nat.ble b 255 with
   |true=>match zm8 b l n 0 with
    |some i=>fN i fun i=>.ok (.int .i64 (Int.ofNat i)) h nx
    |none=>.ok (.int .i64 (Int.negSucc 0)) h nx
   |false=>.fail
  |_=>.fail
 |false=>ca f args h nx
theorem zFi {f0:FuncId}(hx:XOk P f0 Extern.BytealgIndexByte.indexByte){ca:Ca}(hca:zcw P c ca):zcw P c (zqp f0 ca):=by
 intro f args h nx v g ny he
 unfold zqp at he
 cases hf:Nat.beq f f0 with
 |false=>rw[hf]at he;exact hca f args h nx v g ny he
 |true=>
  intro σ w A ok hA
  rw[hf]at he
  have e1:=Nat.eq_of_beq_eq_true hf
  subst e1
  simp only at he
  split at he
  ·rename_i l n b
   cases hb:Nat.ble b 255 with
   |false=>rw[hb]at he;cases he
   |true=>
    rw[hb]at he
    simp only at he
    have hb':b<256:=by have:=Nat.le_of_ble_eq_true hb;omega
    simp only[za1,Rel]at hA
    obtain⟨V,L,e2,⟨_,e3⟩,V2,L2,e4,e5,e6⟩:=hA
    subst e6
    subst e5
    subst e4
    subst e3
    subst e2
    have hrun:=Lib.run_indexByteString (P:=P) (zai l n) (Int.ofNat b) w
    have hsp:=zQv hb' l n 0
    have hdl:(zai l n).data.toList=zar l n:=by show (zar l n).toArray.toList=_;simp
    have hu:(Int.ofNat b).toNat.toUInt8=UInt8.ofNat b:=rfl
    rw[hdl,hu]at hrun
    have hcall:(callFunc f [Value.string (zai l n),.int .u8 (Int.ofNat b)].toArray).run P w=.ok (.value (.int .i64 (Lib.indexByte (zar l n) (UInt8.ofNat b)))) w:=by
     rw[hx]
     show ((Extern.BytealgIndexByte.indexByte #[.string (zai l n),.int .u8 (Int.ofNat b)]).run P w).andThen _=_
     rw[hrun]
     rfl
    unfold CR
    rw[hcall]
    cases hi:zm8 b l n 0 with
    |none=>
     rw[hi]at he hsp
     cases he
     exact⟨σ,_,_,_,by simp only[Rel];rw[hsp];rfl,.refl ok,rfl,rfl,rfl⟩
    |some i=>
     rw[hi]at he hsp
     simp only[fN_eq]at he
     cases he
     exact⟨σ,_,_,_,by simp only[Rel];rw[hsp.2];rfl,.refl ok,rfl,rfl,rfl⟩
  ·cases he
end
end Go.Ev
