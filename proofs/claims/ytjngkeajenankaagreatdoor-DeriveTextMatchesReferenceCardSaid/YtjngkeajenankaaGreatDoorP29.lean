/- Texts ED EX DD. -/
import Derived.Lib.Bytealg
import Derived.RecoverIn
import Derived.Test.YtjngkeajenankaaGreatDoorP28
set_option linter.unusedSimpArgs false
set_option linter.unusedVariables false
set_option maxRecDepth 100000
namespace Go.Ev
noncomputable section
variable {P : Program} {c : Cx} {σ τ υ : Sg} {h g f : Tr ABlk} {nx ny nz sz : Nat} {w x y : World} {tm tm' : Tr AV} {a : Act}
def Kp (h:Tr ABlk) (nx:Nat):R→Prop
 |.val _ g ny=>g=h∧ny=nx
 |.unit _ _=>False
 |.fail=>True
theorem Kp.bR {α:Type}{o:Option α}{k:α→R}(hh:∀v,Kp h nx (k v)):Kp h nx (bR o k):=by
 cases o with
 |none=>trivial
 |some v=>exact hh v
theorem Kp.val {v:AV}:Kp h nx (.val v h nx):=⟨rfl,rfl⟩
theorem Kp.fI {z:Int}{k:Int→R}(hh:∀v,Kp h nx (k v)):Kp h nx (fI z k):=by rw[fI_eq];exact hh z
theorem Kp.fN {z:Nat}{k:Nat→R}(hh:∀v,Kp h nx (k v)):Kp h nx (fN z k):=by rw[fN_eq];exact hh z
theorem Kp.vInt {n:Nat}:Kp h nx (vInt n h nx):=Kp.fN fun _=>.val
theorem Kp.vBool {b:Bool}:Kp h nx (vBool b h nx):=by cases b <;> exact .val
theorem kp_load (ti:TI)(a:AV):Kp h nx (evLoad ti a h nx):=by
 unfold evLoad
 repeat' split
 all_goals first |exact .val |trivial
theorem kp_int (op:BinOp)(k:IntKind) (a b:Int):Kp h nx (evInt op k a b h nx):=by
 unfold evInt
 simp only
 repeat' split
 all_goals first |exact .val |exact Kp.fI fun _=>.val |trivial
theorem kp_shift (op:BinOp)(k:IntKind) (a b:Int):Kp h nx (evShift op k a b h nx):=by
 unfold evShift
 repeat' split
 all_goals first |exact Kp.fI fun _=>.val |exact Kp.fN fun _=>.val |trivial
theorem kp_str (op:BinOp) (l n k m:Nat):Kp h nx (evStr op l n k m h nx):=by
 unfold evStr
 simp only
 repeat' split
 all_goals first |exact .val |exact Kp.fN fun _=>Kp.fN fun _=>.val |trivial
theorem kp_eq (ti:TI)(eqs:Option (List (Nat×TypeDesc)))(b:Bool)(op:BinOp)(x y:AV):Kp h nx (evEq ti eqs b op x y h nx):=by
 unfold evEq
 repeat' split
 all_goals first |exact Kp.vBool |trivial
theorem kp_strB (op:BinOp)(a b:ByteArray):Kp h nx (evStrB op a b h nx):=by
 unfold evStrB
 repeat' split
 all_goals first |exact .val |exact Kp.vBool |trivial
theorem kp_bin (ti:TI)(eqs:Option (List (Nat×TypeDesc)))(b:Bool)(op:BinOp)(x y:AV):Kp h nx (evBin ti eqs b op x y h nx):=by
 unfold evBin
 repeat' split
 all_goals first |exact kp_shift _ _ _ _ |exact kp_int _ _ _ _ |exact kp_str _ _ _ _ _ |exact kp_strB _ _ _ |exact kp_eq _ _ _ _ _ _ |trivial
theorem kp_un (op:UnOp)(x:AV):Kp h nx (evUn op x h nx):=by
 unfold evUn
 repeat' split
 all_goals first |exact .val |exact Kp.fI fun _=>.val |trivial
theorem kp_iface (ti:TI)(t:TypeId)(x:AV):Kp h nx (evIface ti t x h nx):=by
 unfold evIface
 repeat' split
 all_goals first |exact .val |trivial
theorem kp_fieldAddr (ti:TI)(a:AV) (k:Nat):Kp h nx (evFieldAddr ti a k h nx):=by
 unfold evFieldAddr
 repeat' split
 all_goals first |exact Kp.fN fun _=>.val |trivial
theorem kp_field (ti:TI)(a:AV) (k:Nat):Kp h nx (evField ti a k h nx):=by
 unfold evField
 repeat' split
 all_goals first |exact .val |trivial
theorem kp_indexAddr (ti:TI)(a b:AV):Kp h nx (evIndexAddr ti a b h nx):=by
 unfold evIndexAddr
 repeat' split
 all_goals first |exact Kp.fN fun _=>.val |trivial
theorem kp_index (ti:TI)(a b:AV):Kp h nx (evIndex ti a b h nx):=by
 unfold evIndex
 repeat' split
 all_goals first |exact .val |exact Kp.fN fun _=>.val |trivial
theorem kp_extract (a:AV) (k:Nat):Kp h nx (evExtract a k h nx):=by
 unfold evExtract
 repeat' split
 all_goals first |exact .val |trivial
theorem kp_slice (ti:TI)(a:AV)(lo hi mx:Option AV):Kp h nx (evSlice ti a lo hi mx h nx):=by
 unfold evSlice
 repeat' split
 all_goals try simp only[fN_eq]
 all_goals repeat' split
 all_goals first |exact .val |trivial
theorem kp_ta (ti:TI)(t:TypeId)(ok:Bool)(a:AV):Kp h nx (evTA ti t ok a h nx):=by
 unfold evTA
 repeat' split
 all_goals first |exact .val |trivial
theorem kp_lookRes (ok:Bool)(z:AV)(r:Option (Nat×AV)):Kp h nx (lookRes ok z r h nx):=by
 unfold lookRes
 repeat' split
 all_goals exact .val
theorem kp_lookup (ti:TI)(tk te:Option TI)(kt et:TypeId)(ok:Bool)(m k:AV):Kp h nx (evLookup ti tk te kt et ok m k h nx):=by
 unfold evLookup
 repeat' split
 all_goals first |exact kp_lookRes _ _ _ |trivial
theorem kp_build (ti:TI)(ps:List (Nat×AV)):Kp h nx (evBuild ti ps h nx):=by
 unfold evBuild
 repeat' split
 all_goals first |exact .val |trivial
theorem kp_len (ti:TI)(a:AV):Kp h nx (evLen ti a h nx):=by
 unfold evLen
 repeat' split
 all_goals first |exact Kp.vInt |trivial
theorem kp_cap (ti:TI)(a:AV):Kp h nx (evCap ti a h nx):=by
 unfold evCap
 repeat' split
 all_goals first |exact Kp.vInt |trivial
theorem kp_mm (b:Bool)(l:List AV):Kp h nx (evMM b l h nx):=by
 unfold evMM
 repeat' split
 all_goals first |exact .val |trivial
def toSl:Option TI→Bool
 |some (.mk (.slice _) _ _ _ _)=>true
 |some _=>false
 |none=>false
theorem kp_conv (ts td:TI)(te:Option TI)(et:TypeId)(v:AV)(hs:toSl (some td)=false):Kp h nx (evConv ts td te et v h nx):=by
 unfold evConv
 repeat' split
 all_goals first |exact .val |exact Kp.fI fun _=>.val |exact Kp.fN fun _=>.val |trivial |(cases hs;done)
theorem kp_convS (ts td:TI)(te:Option TI)(et:TypeId)(v:AV)(hs:toSl (some td)=false):Kp h nx (evConvS ts td te et v h nx):=by
 unfold evConvS
 repeat' split
 all_goals first |exact .val |trivial |(cases hs;done)
def isW (c:Cx)(op:Op):Bool:=
 match op with
 |.move _=>false |.assign _=>false |.pick _ _ _=>false |.build _ _=>false |.load _ _=>false |.nilCheck _=>false |.binOp _ _ _ _ _=>false |.unOp _ _ _=>false
 |.convert _ d _=>toSl (c.tt.get d)
 |.makeInterface _ _=>false |.makeFunc _ _ _=>false |.slice _ _ _ _ _=>false |.fieldAddr _ _ _=>false |.field _ _ _=>false |.indexAddr _ _ _=>false |.index _ _ _=>false
 |.lookup _ _ _ _=>false |.typeAssert _ _ _ _=>false |.extract _ _=>false
 |.call cl=>match cl.callee with
  |.builtin .len=>false
  |.builtin .cap=>false
  |.builtin .max=>false
  |.builtin .min=>false
  |_=>true
 |_=>true
theorem kp_plain (op:Op)(hw:isW c op=false):Kp h nx (evPlain c op tm h nx):=by
 cases op <;> try (cases hw;done)
 ·exact Kp.bR fun _=>.val
 ·exact Kp.bR fun _=>.val
 ·refine Kp.bR fun v=>?_
  split
  ·exact Kp.bR fun _=>.val
  ·exact Kp.bR fun _=>.val
  ·trivial
 ·exact Kp.bR fun _=>Kp.bR fun _=>kp_build _ _
 ·exact Kp.bR fun _=>Kp.bR fun _=>kp_load _ _
 ·refine Kp.bR fun v=>?_
  split <;> first |exact .val |trivial
 ·exact Kp.bR fun _=>Kp.bR fun _=>Kp.bR fun _=>kp_bin _ _ _ _ _ _
 ·exact Kp.bR fun _=>kp_un _ _
 ·rename_i s d x
  show Kp h nx (pConv c s d x tm h nx)
  unfold pConv
  refine Kp.bR fun ts0=>Kp.bR fun td0=>?_
  split
  ·unfold pConv1
   cases hts:c.tt.get s with
   |none=>trivial
   |some ts=>
    cases htd:c.tt.get d with
    |none=>trivial
    |some td=>
     show Kp h nx (bR (evO c.G tm x) fun a=>match c.G.sym with
      |false=>evConv ts td (c.tt.get (convT ts td)) (convT ts td) a h nx
      |true=>evConvS ts td (c.tt.get (convT ts td)) (convT ts td) a h nx)
     refine Kp.bR fun _=>?_
     cases c.G.sym with
     |false=>exact kp_conv _ _ _ _ _ (by rw[← htd];exact hw)
     |true=>exact kp_convS _ _ _ _ _ (by rw[← htd];exact hw)
  ·refine Kp.bR fun _=>?_
   unfold evTo
   repeat' split
   all_goals first |exact .val |trivial
  ·refine Kp.bR fun _=>?_
   unfold evBack
   repeat' split
   all_goals first |exact .val |trivial
  ·trivial
 ·exact Kp.bR fun _=>Kp.bR fun _=>kp_iface _ _ _
 ·rename_i fn a b
  show Kp h nx (pFunc c fn a b tm h nx)
  unfold pFunc
  cases fn <;> first |exact Kp.bR fun _=>Kp.bR fun _=>.val |trivial
 ·exact Kp.bR fun _=>Kp.bR fun _=>Kp.bR fun _=>Kp.bR fun _=>Kp.bR fun _=>kp_slice _ _ _ _ _
 ·exact Kp.bR fun _=>Kp.bR fun _=>kp_fieldAddr _ _ _
 ·exact Kp.bR fun _=>Kp.bR fun _=>kp_field _ _ _
 ·exact Kp.bR fun _=>Kp.bR fun _=>Kp.bR fun _=>kp_indexAddr _ _ _
 ·exact Kp.bR fun _=>Kp.bR fun _=>Kp.bR fun _=>kp_index _ _ _
 ·exact Kp.bR fun _=>Kp.bR fun _=>Kp.bR fun _=>kp_lookup _ _ _ _ _ _ _ _
 ·exact Kp.bR fun _=>Kp.bR fun _=>kp_ta _ _ _ _
 ·exact Kp.bR fun _=>kp_extract _ _
 ·rename_i cl
  obtain⟨callee,args,ts⟩:=cl
  cases callee <;> try (cases hw;done)
  rename_i b
  cases b <;> try (cases hw;done)
  ·exact Kp.bR fun l=>Kp.bR fun _=>Kp.bR fun _=>by split <;> first |exact kp_cap _ _ |trivial
  ·exact Kp.bR fun l=>Kp.bR fun _=>Kp.bR fun _=>by split <;> first |exact kp_len _ _ |trivial
  ·exact Kp.bR fun l=>kp_mm true l
  ·exact Kp.bR fun l=>kp_mm false l
def opR (c:Cx)(ca:Ca)(ya:Ya)(ops:List Oper)(o:Oper)(tm:Tr AV)(h:Tr ABlk) (nx:Nat):Option (AV×Tr ABlk×Nat):=
 match wantA ops tm o with
 |none=>none
 |some false=>some (.tup [],h,nx)
 |some true=>match callOf o.op with
  |some (f,args)=>match callF ca ya (evO c.G tm f) (evOs c.G tm args.toList) h nx with
   |.ok v h nx=>some (v,h,nx)
   |.fail=>none
  |none=>match isDefer o.op with
   |true=>none
   |false=>match evPlain c o.op tm h nx with
    |.val v h nx=>some (v,h,nx)
    |.unit h nx=>some (.tup [],h,nx)
    |.fail=>none
theorem opR_ok (hc:CxOk P c){ca:Ca}(hca:CaOk P c ca){ya:Ya}(hya:YaOk P c ya){ops:Array Oper}{o:Oper}{v:AV}{rr:Option Nat}(hs:opR c ca ya ops.toList o tm h nx=some (v,g,ny)):OpY P c rr ops o v tm h nx g ny:=by
 intro σ a w hk ht Q K hK
 unfold opR at hs
 cases hw:wantA ops.toList tm o with
 |none=>rw[hw]at hs;cases hs
 |some b=>
  rw[wantA_ok ht hw]
  rw[hw]at hs
  cases b with
  |false=>
   cases hs
   simp only[Bool.false_eq_true,if_false]
   exact⟨fun _ _=>trivial,hK σ w undef rel_undef (.refl hk)⟩
  |true=>
   simp only[if_true]
   simp only at hs
   have plain:callOf o.op=none→o.wpIn (fence rr) 0 P a w K Q:=by
    intro hcn
    rw[hcn]at hs
    simp only at hs
    cases hd0:isDefer o.op with
    |true=>rw[hd0]at hs;cases hs
    |false=>
    rw[hd0]at hs
    simp only at hs
    have hd:∀cl,o.op≠.defer cl:=fun cl e=>by rw[e]at hd0;cases hd0
    have hp:=evPlain_ok hc hk ht o
    cases hv:evPlain c o.op tm h nx with
    |fail=>rw[hv]at hs;cases hs
    |val v' g' ny'=>
     rw[hv]at hs hp
     cases hs
     obtain⟨V,τ,x,h1,h2,h3⟩:=hp
     refine upon_fence hd ?_
     rw[h1]
     exact hK τ x V h2 h3
    |unit g' ny'=>
     rw[hv]at hs hp
     cases hs
     obtain⟨τ,x,h1,h3⟩:=hp
     refine upon_fence hd ?_
     rw[h1]
     exact hK τ x undef rel_undef h3
   obtain⟨dst,op,type,pos,after,guard⟩:=o
   cases op <;> try exact plain rfl
   rename_i cl
   obtain⟨callee,args,argTypes⟩:=cl
   cases callee <;> try exact plain rfl
   rename_i fo
   clear plain
   replace hs:(match callF ca ya (evO c.G tm fo) (evOs c.G tm args.toList) h nx with |.ok v h nx=>some (v,h,nx) |.fail=>none)=some (v,g,ny):=hs
   cases hf:evO c.G tm fo with
   |none=>rw[hf]at hs;cases hs
   |some fv=>
    rw[hf]at hs
    have hfv:=evO_ok hk ht hf
    cases fv <;> try (cases hs;done)
    case yld i=>
     cases hl:evOs c.G tm args.toList with
     |none=>rw[hl]at hs;cases hs
     |some l=>
      rw[hl]at hs
      replace hs:(match ya i l h nx with |.ok v h nx=>some (v,h,nx) |.fail=>none)=some (v,g,ny):=hs
      cases hy:ya i l h nx with
      |fail=>rw[hy]at hs;cases hs
      |ok v0 g0 n0=>
      rw[hy]at hs
      cases hs
      have hlr:=evOs_ok hk ht hl
      simp only[Rel]at hfv
      obtain⟨lb,hlb,e1⟩:=hfv
      obtain⟨fn,tmps,assign,body,hy1,hy2⟩:=hya i l h nx _ _ _ hy σ w (args.toList.map a.eval) lb hk hlr hlb
      have hex:(execOp a.eval ⟨dst,.call ⟨.value fo,args,argTypes⟩,type,pos,after,guard⟩).run P w=(Instr.yield lb (args.toList.map a.eval).toArray).run P w:=by
       have e2:execOp a.eval ⟨dst,.call ⟨.value fo,args,argTypes⟩,type,pos,after,guard⟩=(do let d ← Deferred.ofValue (a.eval fo) (args.map a.eval);invoke d.target d.args):=rfl
       rw[e2,e1]
       show (Instr.yield lb (#[]++args.map a.eval)).run P w=_
       congr 2
       apply Array.ext'
       simp
      refine upon_fence (fun _ e=>by cases e) ?_
      rw[hex,hy1]
      refine⟨fun hh=>by simp[fence,Fence.wide]at hh,round_fence (hy2.mono fun e x q=>?_)⟩
      cases e with
      |returned V=>
       obtain⟨τ,v,g,ny,q1,q2,q3,q4,q5⟩:=q
       subst q3
       subst q4
       subst q5
       exact hK τ x V q1 q2
      |panicked ch=>exact q.elim
      |outgrown=>exact q.elim
    rename_i fid first cap
    cases hl:evOs c.G tm args.toList with
    |none=>rw[hl]at hs;cases hs
    |some l=>
     rw[hl]at hs
     replace hs:(match ca fid (first++(l++cap)) h nx with |.ok v h nx=>some (v,h,nx) |.fail=>none)=some (v,g,ny):=hs
     cases hy:ca fid (first++(l++cap)) h nx with
     |fail=>rw[hy]at hs;cases hs
     |ok v0 g0 n0=>
     rw[hy]at hs
     cases hs
     have hlr:=evOs_ok hk ht hl
     simp only[Rel]at hfv
     obtain⟨F,C,e1,r1,r2⟩:=hfv
     have hcr:=hca fid _ h nx _ _ _ hy σ w (F++(args.toList.map a.eval++C)) hk (r1.append (hlr.append r2))
     have hex:(execOp a.eval ⟨dst,.call ⟨.value fo,args,argTypes⟩,type,pos,after,guard⟩).run P w=(callFunc fid (F++(args.toList.map a.eval++C)).toArray).run P w:=by
      have e2:execOp a.eval ⟨dst,.call ⟨.value fo,args,argTypes⟩,type,pos,after,guard⟩=(do let d ← Deferred.ofValue (a.eval fo) (args.map a.eval);invoke d.target d.args):=rfl
      rw[e2,e1]
      show (callFunc fid (F.toArray++args.map a.eval++C.toArray)).run P w=_
      congr 2
      apply Array.ext'
      simp
     refine upon_fence (fun _ e=>by cases e) ?_
     rw[hex]
     unfold CR at hcr
     cases hrun:(callFunc fid (F++(args.toList.map a.eval++C)).toArray).run P w with
     |halt hh w'=>rw[hrun]at hcr;exact hcr.elim
     |ok nxt w'=>
      rw[hrun]at hcr
      cases nxt <;> try exact hcr.elim
      ·rename_i V
       obtain⟨τ,v,g,ny,q1,q2,q3,q4,q5⟩:=hcr
       subst q3
       subst q4
       subst q5
       exact hK τ _ V q1 q2
      ·rename_i f' A'
       refine⟨fun hh=>by simp[fence,Fence.wide]at hh,calls_fence (Calls.mono hcr fun e x q=>?_)⟩
       cases e with
       |returned V=>
        obtain⟨τ,v,g,ny,q1,q2,q3,q4,q5⟩:=q
        subst q3
        subst q4
        subst q5
        exact hK τ x V q1 q2
       |panicked ch=>exact q.elim
       |outgrown=>exact q.elim
theorem opR_sees {ca:Ca}{ya:Ya}{ops:List Oper}{o:Oper}(hs:∀t∈looks ops o,tm.get t=tm'.get t):opR c ca ya ops o tm h nx=opR c ca ya ops o tm' h nx:=by
 have hop:Sees tm tm' o.op.operands.toList:=fun t ht=>hs t (by
  unfold looks
  rw[List.mem_append]
  exact .inl (List.mem_filterMap.2 ⟨.tmp t,ht,rfl⟩))
 have hwant:wantA ops tm o=wantA ops tm' o:=by
  unfold wantA
  cases hg:o.guard with
  |none=>rfl
  |some p=>
   obtain⟨j,want⟩:=p
   simp only
   cases hj:ops[j]? with
   |none=>rfl
   |some oj=>
    simp only
    cases hd:oj.dst with
    |none=>rfl
    |some d=>
     simp only
     rw[hs d (by unfold looks;rw[List.mem_append];refine .inr ?_;rw[hg];simp only;rw[hj];simp[hd])]
 unfold opR
 rw[hwant]
 have hcall:∀f args,callOf o.op=some (f,args)→evO c.G tm f=evO c.G tm' f∧evOs c.G tm args.toList=evOs c.G tm' args.toList:=by
  intro f args hcf
  unfold callOf at hcf
  cases hop2:o.op <;> rw[hop2]at hcf <;> try (cases hcf;done)
  rename_i cl
  obtain⟨callee,args',ts⟩:=cl
  cases callee <;> try (cases hcf;done)
  cases hcf
  rw[hop2]at hop
  exact⟨evO_sees hop (by simp[Op.operands,Call.operands]),evOs_sees hop fun y hy=>by simp[Op.operands,Call.operands]at hy ⊢;exact .inr hy⟩
 cases wantA ops tm' o with
 |none=>rfl
 |some b=>
  cases b with
  |false=>rfl
  |true=>
   simp only
   cases hcf:callOf o.op with
   |none=>simp only;rw[evPlain_sees o.op hop]
   |some p=>
    obtain⟨f,args⟩:=p
    obtain⟨e1,e2⟩:=hcall f args hcf
    simp only
    rw[e1,e2]
theorem opR_keeps {ca:Ca}{ya:Ya}{ops:List Oper}{o:Oper}(hw:isW c o.op=false){v:AV}(he:opR c ca ya ops o tm h nx=some (v,g,ny)):g=h∧ny=nx:=by
 unfold opR at he
 split at he
 ·cases he
 ·cases he;exact⟨rfl,rfl⟩
 ·have hcn:callOf o.op=none:=by
   unfold callOf
   cases hop:o.op <;> try rfl
   rename_i cl
   obtain⟨callee,args,ts⟩:=cl
   rw[hop]at hw
   cases callee <;> first |rfl |(cases hw;done)
  rw[hcn]at he
  simp only at he
  split at he
  ·cases he
  have hkp:=kp_plain (c:=c) (tm:=tm) (h:=h) (nx:=nx) o.op hw
  cases hv:evPlain c o.op tm h nx with
  |fail=>rw[hv]at he;cases he
  |unit _ _=>rw[hv]at hkp;exact hkp.elim
  |val v' g' ny'=>
   rw[hv]at he hkp
   cases he
   exact hkp
def stt (c:Cx)(ca:Ca)(ya:Ya) (sz:Nat)(ops:List Oper)(tm:Tr AV)(h:Tr ABlk) (nx:Nat) (i:Nat):Option (Tr AV×Tr ABlk×Nat):=
 Nat.rec (motive:=fun _=>Option (Tr AV×Tr ABlk×Nat)) (some (tm,h,nx)) (fun i s=>match s with
  |none=>none
  |some (tm,h,nx)=>match ops[i]? with
   |none=>none
   |some o=>match opR c ca ya ops o tm h nx with
    |none=>none
    |some (v,h',nx')=>match o.dst with
     |none=>some (tm,h',nx')
     |some d=>match Nat.ble (Nat.succ d) sz with
      |true=>tm.putK (some v) d fun tm'=>some (tm',h',nx')
      |false=>none) i
theorem stt_succ {ca:Ca}{ya:Ya}{ops:List Oper}{i:Nat}{s:Tr AV×Tr ABlk×Nat}(hs:stt c ca ya sz ops tm h nx (i+1)=some s):
  ∃tm1 h1 n1 o v h2 n2,stt c ca ya sz ops tm h nx i=some (tm1,h1,n1)∧ops[i]?=some o∧opR c ca ya ops o tm1 h1 n1=some (v,h2,n2)∧(∀d,o.dst=some d→d<sz)∧
   s=((match o.dst with |none=>tm1 |some d=>tm1.put d (some v)),h2,n2):=by
 change (match stt c ca ya sz ops tm h nx i with
  |none=>none
  |some (tm,h,nx)=>match ops[i]? with
   |none=>none
   |some o=>match opR c ca ya ops o tm h nx with
    |none=>none
    |some (v,h',nx')=>match o.dst with
     |none=>some (tm,h',nx')
     |some d=>match Nat.ble (Nat.succ d) sz with
      |true=>tm.putK (some v) d fun tm'=>some (tm',h',nx')
      |false=>none)=some s at hs
 cases h1:stt c ca ya sz ops tm h nx i with
 |none=>rw[h1]at hs;cases hs
 |some p=>
  obtain⟨tm1,g1,n1⟩:=p
  rw[h1]at hs
  simp only at hs
  cases h2:ops[i]? with
  |none=>rw[h2]at hs;cases hs
  |some o=>
   rw[h2]at hs
   simp only at hs
   cases h3:opR c ca ya ops o tm1 g1 n1 with
   |none=>rw[h3]at hs;cases hs
   |some q=>
    obtain⟨v,g2,n2⟩:=q
    rw[h3]at hs
    simp only at hs
    cases h4:o.dst with
    |none=>
     rw[h4]at hs
     cases hs
     exact⟨tm1,g1,n1,o,v,g2,n2,rfl,rfl,h3,(fun d e=>by rw[h4]at e;cases e),by rw[h4]⟩
    |some d=>
     rw[h4]at hs
     simp only at hs
     cases h5:Nat.ble (Nat.succ d) sz with
     |false=>rw[h5]at hs;cases hs
     |true=>
      rw[h5]at hs
      simp only[Tr.putK_eq]at hs
      cases hs
      exact⟨tm1,g1,n1,o,v,g2,n2,rfl,rfl,h3,(fun d' e=>by rw[h4]at e;cases e;exact Nat.le_of_ble_eq_true h5),by rw[h4]⟩
theorem stt_le {ca:Ca}{ya:Ya}{ops:List Oper}{s:Tr AV×Tr ABlk×Nat}:∀(n i:Nat),stt c ca ya sz ops tm h nx (i+n)=some s→∃s',stt c ca ya sz ops tm h nx i=some s'
 |0,i,hs=>⟨s,hs⟩
 |n+1,i,hs=>by
  obtain⟨tm1,h1,n1,_,_,_,_,e,_⟩:=stt_succ (show stt c ca ya sz ops tm h nx ((i+n)+1)=some s from hs)
  exact stt_le n i e
mutual
def avEq:AV→AV→Bool
 |.bool a,.bool b=>match a with |true=>b |false=>!b
 |.int k a,.int k' b=>match ikeq k k' with |true=>ieq a b |false=>false
 |.str l n,.str k m=>match Nat.beq l k with |true=>Nat.beq n m |false=>false
 |.ptr0,.ptr0=>true
 |.ptr i o,.ptr j p=>match Nat.beq i j with |true=>Nat.beq o p |false=>false
 |.sl0,.sl0=>true
 |.sl i o l c b,.sl i' o' l' c' b'=>Nat.beq i i' && Nat.beq o o' && Nat.beq l l' && Nat.beq c c' && (match b with |true=>b' |false=>!b')
 |.map0,.map0=>true
 |.map i,.map j=>Nat.beq i j
 |.func f a c,.func f' a' c'=>match Nat.beq f f' with |true=>avEqL a a' && avEqL c c' |false=>false
 |.nilFunc,.nilFunc=>true
 |.iface t v,.iface t' v'=>match Nat.beq t t' with |true=>avEq v v' |false=>false
 |.nilIface,.nilIface=>true
 |.agg l,.agg m=>avEqL l m
 |.tup l,.tup m=>avEqL l m
 |.opq n,.opq m=>Nat.beq n m
 |.yld n,.yld m=>Nat.beq n m
 |.ip l,.ip m=>avEqL l m
 |.fz e b l,.fz e' b' m=>Nat.beq e e' && (match b with |true=>b' |false=>!b') && avEqL l m
 |_,_=>false
def avEqL:List AV→List AV→Bool
 |[],[]=>true
 |a::l,b::m=>match avEq a b with |true=>avEqL l m |false=>false
 |_,_=>false
end
theorem bm {a b:Bool}(h:(match a with |true=>b |false=>!b)=true):a=b:=by cases a <;> cases b <;> first |rfl |(cases h;done)
mutual
theorem avEq_ok:∀(a b:AV),avEq a b=true→a=b:=by
 intro a b h
 cases a <;> cases b <;> first |rfl |(simp only[avEq]at h;first |(cases h;done) |skip)
 ·exact congrArg AV.bool (bm h)
 ·rename_i k a k' b
  cases hk:ikeq k k' with
  |false=>rw[hk]at h;cases h
  |true=>
   rw[hk]at h
   have e1:=ikeq_spec hk
   have h2:ieq a b=true:=h
   rw[ieq_eq]at h2
   have e2:=eq_of_beq h2
   subst e1
   subst e2
   rfl
 ·rename_i l n k m
  cases hk:Nat.beq l k with
  |false=>rw[hk]at h;cases h
  |true=>
   rw[hk]at h
   rw[Nat.eq_of_beq_eq_true hk,Nat.eq_of_beq_eq_true (show Nat.beq n m=true from h)]
 ·rename_i l n k m
  cases hk:Nat.beq l k with
  |false=>rw[hk]at h;cases h
  |true=>
   rw[hk]at h
   rw[Nat.eq_of_beq_eq_true hk,Nat.eq_of_beq_eq_true (show Nat.beq n m=true from h)]
 ·rename_i l m
  rw[avEqL_ok l m h]
 ·rename_i i o l c b i' o' l' c' b'
  simp only[Bool.and_eq_true]at h
  obtain⟨⟨⟨⟨e1,e2⟩,e3⟩,e4⟩,e5⟩:=h
  rw[Nat.eq_of_beq_eq_true e1,Nat.eq_of_beq_eq_true e2,Nat.eq_of_beq_eq_true e3,Nat.eq_of_beq_eq_true e4,bm e5]
 ·rename_i e b l e' b' m
  simp only[Bool.and_eq_true]at h
  obtain⟨⟨e1,e2⟩,e3⟩:=h
  rw[Nat.eq_of_beq_eq_true e1,bm e2,avEqL_ok l m e3]
 ·rw[Nat.eq_of_beq_eq_true h]
 ·rename_i f a c f' a' c'
  cases hk:Nat.beq f f' with
  |false=>rw[hk]at h;cases h
  |true=>
   rw[hk]at h
   have h2:(avEqL a a' && avEqL c c')=true:=h
   rw[Bool.and_eq_true]at h2
   rw[Nat.eq_of_beq_eq_true hk,avEqL_ok a a' h2.1,avEqL_ok c c' h2.2]
 ·rename_i t v t' v'
  cases hk:Nat.beq t t' with
  |false=>rw[hk]at h;cases h
  |true=>
   rw[hk]at h
   rw[Nat.eq_of_beq_eq_true hk,avEq_ok v v' h]
 ·rename_i l m
  rw[avEqL_ok l m h]
 ·rename_i l m
  rw[avEqL_ok l m h]
 ·rw[Nat.eq_of_beq_eq_true h]
 ·rw[Nat.eq_of_beq_eq_true h]
theorem avEqL_ok:∀(a b:List AV),avEqL a b=true→a=b:=by
 intro a b h
 cases a <;> cases b <;> first |rfl |(simp only[avEqL]at h;first |(cases h;done) |skip)
 rename_i a l b m
 cases hk:avEq a b with
 |false=>rw[hk]at h;cases h
 |true=>
  rw[hk]at h
  rw[avEq_ok a b hk,avEqL_ok l m h]
end
def pairOk (c:Cx)(ms:List Nat) (i j:Nat)(li:List Tmp)(oi oj:Oper):Bool:=
 match Nat.beq i j with
 |true=>true
 |false=>
  let ordered:Bool:=match Nat.ble (Nat.succ j) i with
   |true=>befM ms j i
   |false=>befM ms i j
  match (match isW c oi.op with |true=>isW c oj.op |false=>false) with
  |true=>ordered
  |false=>match oj.dst with
   |none=>true
   |some d=>match memN d (li++oi.dst.toList) with
    |true=>ordered
    |false=>true
def statOk (c:Cx)(ops:List Oper)(ms:List Nat):Bool:=
 allL (upTo ops.length) fun i=>match ops[i]? with
  |none=>true
  |some oi=>match allL oi.after.toList (fun e=>match Region.binds .any e with |true=>Nat.ble (Nat.succ e.on) i |false=>true) with
   |false=>false
   |true=>allL (upTo ops.length) fun j=>match ops[j]? with
    |none=>true
    |some oj=>pairOk c ms i j (looks ops oi) oi oj
def posOk (c:Cx)(ops:List Oper)(ms:List Nat) (i p:Nat):Bool:=
 allL (upTo ops.length) fun j=>match ops[j]? with
  |none=>true
  |some oj=>match isW c oj.op with
   |false=>true
   |true=>match Nat.ble (Nat.succ j) p with
    |true=>!(befM ms i j)
    |false=>!(befM ms j i)
def dynAt (c:Cx)(ca:Ca)(ya:Ya) (sz:Nat)(ops:List Oper)(tm:Tr AV)(h:Tr ABlk) (nx:Nat)(ms:List Nat) (i:Nat)(o:Oper) (p:Nat):Bool:=
 match posOk c ops ms i p with
 |false=>true
 |true=>match stt c ca ya sz ops tm h nx i,stt c ca ya sz ops tm h nx p with
  |some (tm1,h1,n1),some (_,h2,n2)=>match opR c ca ya ops o tm1 h1 n1,opR c ca ya ops o tm1 h2 n2 with
   |some (v,_,_),some (u,_,_)=>avEq u v
   |_,_=>false
  |_,_=>false
def dynOk (c:Cx)(ca:Ca)(ya:Ya) (sz:Nat)(ops:List Oper)(tm:Tr AV)(h:Tr ABlk) (nx:Nat)(ms:List Nat):Bool:=
 allL (upTo ops.length) fun i=>match ops[i]? with
  |none=>true
  |some o=>match isW c o.op with
   |true=>true
   |false=>match dynAt c ca ya sz ops tm h nx ms i o 0 with
    |false=>false
    |true=>allL (upTo ops.length) fun j=>match ops[j]? with
     |none=>true
     |some oj=>match isW c oj.op with
      |false=>true
      |true=>dynAt c ca ya sz ops tm h nx ms i o (Nat.succ j)
def edW (c:Cx)(ca:Ca)(ya:Ya) (sz:Nat)(ops:Array Oper)(tm:Tr AV)(h:Tr ABlk) (nx:Nat):OS:=
 match statOk c ops.toList (mAcc ops.toList []) with
 |false=>.fail
 |true=>match stt c ca ya sz ops.toList tm h nx ops.toList.length with
  |none=>.fail
  |some (tm',h',nx')=>match dynOk c ca ya sz ops.toList tm h nx (mAcc ops.toList []) with
   |true=>.ok tm' h' nx'
   |false=>.fail
def sttD (c:Cx)(ca:Ca)(ya:Ya) (sz:Nat)(ops:Array Oper)(tm:Tr AV)(h:Tr ABlk) (nx:Nat) (i:Nat):Tr AV×Tr ABlk×Nat:=(stt c ca ya sz ops.toList tm h nx i).getD (tm,h,nx)
def valAt (c:Cx)(ca:Ca)(ya:Ya) (sz:Nat)(ops:Array Oper)(tm:Tr AV)(h:Tr ABlk) (nx:Nat) (i:Nat):AV:=match stt c ca ya sz ops.toList tm h nx i with
 |some (tm1,h1,n1)=>match ops[i]? with
  |some o=>match opR c ca ya ops.toList o tm1 h1 n1 with
   |some (v,_,_)=>v
   |none=>.tup []
  |none=>.tup []
 |none=>.tup []
def isWA (c:Cx)(ops:Array Oper) (i:Nat):Bool:=match ops[i]? with
 |some o=>isW c o.op
 |none=>false
theorem edW_ok (hm:P.follows .mixedOrders=true)(hc:CxOk P c){ca:Ca}(hca:CaOk P c ca){ya:Ya}(hya:YaOk P c ya):EdOk P c (edW c ca ya):=by
 intro sz ops tm h nx tm' h' nx' he inr id ds rr hi σ a w hk st
 simp only[AS.h,AS.nx,AS.tm,AS.ds]at hk st
 unfold edW at he
 cases hs:statOk c ops.toList (mAcc ops.toList []) with
 |false=>rw[hs]at he;cases he
 |true=>
  rw[hs]at he
  simp only at he
  cases hf:stt c ca ya sz ops.toList tm h nx ops.toList.length with
  |none=>rw[hf]at he;cases he
  |some s=>
   obtain⟨tmF,hF,nF⟩:=s
   rw[hf]at he
   simp only at he
   cases hd:dynOk c ca ya sz ops.toList tm h nx (mAcc ops.toList []) with
   |false=>rw[hd]at he;cases he
   |true=>
    rw[hd]at he
    injection he with he1 he2 he3
    subst he1
    subst he2
    subst he3
    rw[Array.length_toList]at hf
    have hmask:MaskOk ops (mAcc ops.toList []):=mAcc_ok ops.toList [] (fun j m hm=>by simp at hm) fun j=>by simp
    have hst:∀i oi,ops[i]?=some oi→(∀e∈oi.after.toList,Region.binds .any e=true→e.on<i)∧∀j oj,ops[j]?=some oj→pairOk c (mAcc ops.toList []) i j (looks ops.toList oi) oi oj=true:=by
     intro i oi hi
     have hlt:i<ops.size:=by
      rcases Nat.lt_or_ge i ops.size with h1 |h1
      ·exact h1
      ·rw[Array.getElem?_eq_none h1]at hi;cases hi
     have h1:=allL_spec hs i (by simp[upTo,hlt])
     simp only[Array.getElem?_toList,hi]at h1
     cases hb:allL oi.after.toList (fun e=>match Region.binds .any e with |true=>Nat.ble (Nat.succ e.on) i |false=>true) with
     |false=>rw[hb]at h1;cases h1
     |true=>
      rw[hb]at h1
      refine⟨fun e he hbind=>?_,fun j oj hj=>?_⟩
      ·have:=allL_spec hb e he
       simp only[hbind]at this
       exact Nat.le_of_ble_eq_true this
      ·have hjlt:j<ops.size:=by
        rcases Nat.lt_or_ge j ops.size with h2 |h2
        ·exact h2
        ·rw[Array.getElem?_eq_none h2]at hj;cases hj
       have:=allL_spec h1 j (by simp[upTo,hjlt])
       simpa only[Array.getElem?_toList,hj]using this
    have hord:∀i j,i≠j→(match Nat.ble (Nat.succ j) i with |true=>befM (mAcc ops.toList []) j i |false=>befM (mAcc ops.toList []) i j)=true→(j<i→befM (mAcc ops.toList []) j i=true)∧(i<j→befM (mAcc ops.toList []) i j=true):=by
     intro i j hne ho
     cases hb:Nat.ble (Nat.succ j) i with
     |true=>
      rw[hb]at ho
      have:=Nat.le_of_ble_eq_true hb
      exact⟨fun _=>ho,fun h2=>by omega⟩
     |false=>
      rw[hb]at ho
      have:¬j<i:=fun hh=>by rw[show Nat.ble (Nat.succ j) i=true from Nat.ble_eq_true_of_le hh]at hb;cases hb
      exact⟨fun h2=>absurd h2 this,fun _=>ho⟩
    have hat:∀i,i≤ops.size→∃s,stt c ca ya sz ops.toList tm h nx i=some s:=fun i hi=>stt_le (ops.size-i) i (by rw[Nat.add_sub_cancel' hi];exact hf)
    have hop:∀i o,ops[i]?=some o→∃tm1 h1 n1 v h2 n2,stt c ca ya sz ops.toList tm h nx i=some (tm1,h1,n1)∧opR c ca ya ops.toList o tm1 h1 n1=some (v,h2,n2)∧(∀d,o.dst=some d→d<sz)∧stt c ca ya sz ops.toList tm h nx (i+1)=some ((match o.dst with |none=>tm1 |some d=>tm1.put d (some v)),h2,n2)∧valAt c ca ya sz ops tm h nx i=v∧sttD c ca ya sz ops tm h nx i=(tm1,h1,n1)∧sttD c ca ya sz ops tm h nx (i+1)=((match o.dst with |none=>tm1 |some d=>tm1.put d (some v)),h2,n2):=by
     intro i o ho
     have hlt:i<ops.size:=(Array.getElem?_eq_some_iff.1 ho).1
     obtain⟨s,hs⟩:=hat (i+1) hlt
     obtain⟨tm1,h1,n1,o',v,h2,n2,e1,e2,e3,e4,e5⟩:=stt_succ hs
     have:o'=o:=by
      rw[Array.getElem?_toList,ho]at e2
      cases e2
      rfl
     subst this
     have hs2:stt c ca ya sz ops.toList tm h nx (i+1)=some ((match o'.dst with |none=>tm1 |some d=>tm1.put d (some v)),h2,n2):=by rw[hs];exact congrArg some e5
     exact⟨tm1,h1,n1,v,h2,n2,e1,e3,e4,hs2,by unfold valAt;rw[e1];simp only;rw[ho];simp only;rw[e3],by unfold sttD;rw[e1];rfl,by unfold sttD;rw[hs2];rfl⟩
    have hWA:∀{i o},ops[i]?=some o→isWA c ops i=isW c o.op:=fun {i o} ho=>by unfold isWA;rw[ho]
    have hS0:sttD c ca ya sz ops tm h nx 0=(tm,h,nx):=rfl
    have hSn:sttD c ca ya sz ops tm h nx ops.size=(tmF,hF,nF):=by unfold sttD;rw[hf];rfl
    have key:Dr P c rr sz ops (sttD c ca ya sz ops tm h nx) (valAt c ca ya sz ops tm h nx) (isWA c ops) (befM (mAcc ops.toList [])):=by
     refine⟨?back,?bef,?tmps,?chain,?step,?keep,?dyn⟩
     case step=>
      intro i o ho
      obtain⟨tm1,h1,n1,v,h2,n2,e1,e3,e4,e5,e6,e7,e8⟩:=hop i o ho
      rw[e6,e7,e8]
      refine⟨opR_ok hc hca hya ?_,e4,rfl⟩
      rw[← e3]
      exact opR_sees fun t ht=>by rw[rst_get,if_pos ht]
     case keep=>
      intro i hlt hw
      obtain⟨tm1,h1,n1,v,h2,n2,e1,e3,e4,e5,e6,e7,e8⟩:=hop i _ (Array.getElem?_eq_getElem hlt)
      rw[hWA (Array.getElem?_eq_getElem hlt)]at hw
      obtain⟨k1,k2⟩:=opR_keeps hw e3
      rw[e7,e8,k1,k2]
     case back=>
      intro i hi k hk'
      have ho:ops[i]?=some ops[i]:=Array.getElem?_eq_getElem hi
      unfold dir at hk'
      rw[ho]at hk'
      simp only[Option.map_some,Option.getD_some,Array.any_eq_true']at hk'
      obtain⟨e,he,hb⟩:=hk'
      rw[Bool.and_eq_true]at hb
      have:=(hst i _ ho).1 e (by simpa using he) hb.1
      have hk2:e.on=k:=by simpa using hb.2
      omega
     case bef=>
      intro i j hb l hl hdeps
      unfold befM at hb
      rw[tb_eq]at hb
      cases hm2:(mAcc ops.toList [])[j]? with
      |none=>simp[List.getD,hm2]at hb
      |some m=>
       have:(mAcc ops.toList []).getD j 0=m:=by simp[List.getD,hm2]
       rw[this]at hb
       exact hmask j m hm2 i hb l hl hdeps
     case tmps=>
      intro i j o p d hi hj hne hpd hlook
      have hp:=(hst i o hi).2 j p hj
      unfold pairOk at hp
      cases hb:Nat.beq i j with
      |true=>exact absurd (Nat.eq_of_beq_eq_true hb) hne
      |false=>
       rw[hb]at hp
       simp only at hp
       refine hord i j hne ?_
       have hmem:memN d (looks ops.toList o++o.dst.toList)=true:=by
        apply memN_spec
        rw[List.mem_append]
        rcases hlook with h1 |h1
        ·exact .inl h1
        ·rw[h1];exact .inr (by simp)
       cases hww:(match isW c o.op with |true=>isW c p.op |false=>false) with
       |true=>rw[hww]at hp;exact hp
       |false=>
        rw[hww,hpd]at hp
        simp only at hp
        rw[hmem]at hp
        exact hp
     case chain=>
      intro i j hlt hjl hwo hwp
      have hi:ops[i]?=some ops[i]:=Array.getElem?_eq_getElem (by omega)
      have hj:ops[j]?=some ops[j]:=Array.getElem?_eq_getElem hjl
      rw[hWA hi]at hwo
      rw[hWA hj]at hwp
      have hp:=(hst i _ hi).2 j _ hj
      unfold pairOk at hp
      cases hb:Nat.beq i j with
      |true=>have:=Nat.eq_of_beq_eq_true hb;omega
      |false=>
       rw[hb]at hp
       simp only[hwo,hwp]at hp
       exact(hord i j (by omega) hp).2 hlt
     case dyn=>
      intro i o hi hnw0 p hp hp00 hvalid0
      have hnw:isW c o.op=false:=by rw[← hWA hi];exact hnw0
      obtain⟨tm1,h1,n1,v,h2,n2,hsti,hopi,e4,e5,e6,e7,e8⟩:=hop i o hi
      obtain⟨q,hstp⟩:=hat p hp
      have hp0:p=0∨∃o',ops[p-1]?=some o'∧isW c o'.op=true:=by
       rcases hp00 with e |e
       ·exact .inl e
       ·refine .inr ?_
        unfold isWA at e
        cases ho':ops[p-1]? with
        |none=>rw[ho']at e;cases e
        |some o'=>rw[ho']at e;exact⟨o',rfl,e⟩
      have hvalid:∀j o',ops[j]?=some o'→isW c o'.op=true→(befM (mAcc ops.toList []) j i=true→j<p)∧(befM (mAcc ops.toList []) i j=true→p≤j):=fun j o' hj hw=>hvalid0 j (Array.getElem?_eq_some_iff.1 hj).1 (by rw[hWA hj];exact hw)
      have hSp:sttD c ca ya sz ops tm h nx p=q:=by unfold sttD;rw[hstp];rfl
      rw[e6,e7,hSp]
      have hilt:i<ops.size:=by
       rcases Nat.lt_or_ge i ops.size with h5 |h5
       ·exact h5
       ·rw[Array.getElem?_eq_none h5]at hi;cases hi
      have hd1:=allL_spec hd i (by simp[upTo,hilt])
      simp only[Array.getElem?_toList,hi,hnw]at hd1
      have hdat:dynAt c ca ya sz ops.toList tm h nx (mAcc ops.toList []) i o p=true:=by
       cases hd0:dynAt c ca ya sz ops.toList tm h nx (mAcc ops.toList []) i o 0 with
       |false=>rw[hd0]at hd1;cases hd1
       |true=>
        rw[hd0]at hd1
        rcases hp0 with hp0 |⟨o',ho',hw'⟩
        ·subst hp0;exact hd0
        ·cases p with
         |zero=>exact hd0
         |succ p=>
          have ho2:ops[p]?=some o':=by simpa using ho'
          have:=allL_spec hd1 p (by simp[upTo];omega)
          simpa only[Array.getElem?_toList,ho2,hw']using this
      unfold dynAt at hdat
      have hposk:posOk c ops.toList (mAcc ops.toList []) i p=true:=by
       have gen:∀(l:List Nat),allL l (fun j=>match ops.toList[j]? with
         |none=>true
         |some oj=>match isW c oj.op with
          |false=>true
          |true=>match Nat.ble (Nat.succ j) p with
           |true=>!(befM (mAcc ops.toList []) i j)
           |false=>!(befM (mAcc ops.toList []) j i))=true:=by
        intro l
        induction l with
        |nil=>rfl
        |cons j l ih=>
         show (match (match ops.toList[j]? with
          |none=>true
          |some oj=>match isW c oj.op with
           |false=>true
           |true=>match Nat.ble (Nat.succ j) p with
            |true=>!(befM (mAcc ops.toList []) i j)
            |false=>!(befM (mAcc ops.toList []) j i)) with |true=>_ |false=>false)=true
         have hone:(match ops.toList[j]? with
          |none=>true
          |some oj=>match isW c oj.op with
           |false=>true
           |true=>match Nat.ble (Nat.succ j) p with
            |true=>!(befM (mAcc ops.toList []) i j)
            |false=>!(befM (mAcc ops.toList []) j i))=true:=by
          rw[Array.getElem?_toList]
          cases hj:ops[j]? with
          |none=>rfl
          |some oj=>
           simp only
           cases hw:isW c oj.op with
           |false=>rfl
           |true=>
            simp only
            obtain⟨v1,v2⟩:=hvalid j oj hj hw
            cases hb:Nat.ble (Nat.succ j) p with
            |true=>
             have:=Nat.le_of_ble_eq_true hb
             simp only
             cases hbf:befM (mAcc ops.toList []) i j with
             |false=>rfl
             |true=>have:=v2 hbf;omega
            |false=>
             have hnl:¬j<p:=fun hh=>by rw[show Nat.ble (Nat.succ j) p=true from Nat.ble_eq_true_of_le hh]at hb;cases hb
             simp only
             cases hbf:befM (mAcc ops.toList []) j i with
             |false=>rfl
             |true=>exact absurd (v1 hbf) hnl
         rw[hone]
         exact ih
       exact gen _
      rw[hposk,hsti,hstp]at hdat
      obtain⟨q1,q2,q3⟩:=q
      simp only at hdat ⊢
      rw[hopi]at hdat
      cases ho2:opR c ca ya ops.toList o tm1 q2 q3 with
      |none=>rw[ho2]at hdat;cases hdat
      |some r=>
       obtain⟨u,g,ny⟩:=r
       rw[ho2]at hdat
       have:=avEq_ok u v hdat
       subst this
       obtain⟨k1,k2⟩:=opR_keeps hnw ho2
       subst k1
       subst k2
       refine opR_ok hc hca hya ?_
       rw[← ho2]
       exact opR_sees fun t ht=>by rw[rst_get,if_pos ht]
    have hk':Ok c.G σ (sttD c ca ya sz ops tm h nx 0).2.1 (sttD c ca ya sz ops tm h nx 0).2.2 w:=hk
    have st':St σ (sttD c ca ya sz ops tm h nx 0).1 a sz ds:=st
    have fin:=drawn_ok hm key hk' st' id (Q:=QE (.norm tmF hF nF ds)) (by rw[hSn];exact⟨rfl,rfl⟩)
    exact fin
end
end Go.Ev
namespace Go.Ev
variable {P : Program} {c : Cx} {σ τ υ : Sg} {h g : Tr ABlk} {nx ny : Nat} {w x : World}
def XOk (P:Program)(f:FuncId)(e:Array Value→Sem Value):Prop:=∀A w,(callFunc f A).run P w=((e A).run P w).andThen fun v w'=>.ok (.value v) w'
theorem xok_of {f : FuncId} {fn : Func} {e : Array Value → Sem Value} (hf : P.funcs[f]? = some fn) (hn : (fn.name == "runtime.NumGoroutine") = false) (hb : fn.body = none) (h1 : Extern.findNext fn = none) (h2 : Extern.find fn = some e) : XOk P f e := by
 intro A w
 have hn' : ¬ fn.name = "runtime.NumGoroutine" := fun e => by rw [e] at hn; simp at hn
 simp only[callFunc,Sem.run_bind,run_program,Result.andThen,hf,hn',hb,h1,h2,mark,Sem.run,Option.isNone_none,if_true,beq_iff_eq,if_false]
 cases (e A).run P w <;> rfl
noncomputable section
def hSame (f0:FuncId)(ca:Ca):Ca:=fun f args h nx=>
 match Nat.beq f f0 with
 |true=>match args with
  |[v]=>.ok v h nx
  |_=>.fail
 |false=>ca f args h nx
theorem hSame_ok {f0:FuncId}(hx:XOk P f0 Extern.AbiNoEscape.same){ca:Ca}(hca:CaOk P c ca):CaOk P c (hSame f0 ca):=by
 intro f args h nx v g ny he
 unfold hSame at he
 cases hf:Nat.beq f f0 with
 |false=>rw[hf]at he;exact hca f args h nx v g ny he
 |true=>
  intro σ w A ok hA
  rw[hf]at he
  have e1:=Nat.eq_of_beq_eq_true hf
  subst e1
  simp only at he
  split at he
  ·cases he
   simp only[RelL]at hA
   obtain⟨V,L,e2,e3,e4⟩:=hA
   subst e4
   subst e2
   unfold CR
   rw[hx]
   exact⟨σ,_,_,_,e3,.refl ok,rfl,rfl,rfl⟩
  ·cases he
def idxN (b l:Nat):Nat→Nat→Option Nat:=
 Nat.rec (motive:=fun _=>Nat→Nat→Option Nat) (fun _ _=>none) (fun _ ih n i=>match Nat.beq (Nat.mod n 256) b with
  |true=>some i
  |false=>ih (Nat.div n 256) (Nat.succ i)) l
theorem idxN_succ (b l n i:Nat):idxN b (l+1) n i=match Nat.beq (n % 256) b with
  |true=>some i
  |false=>idxN b l (n / 256) (i+1):=rfl
theorem idxN_spec {b:Nat}(hb:b<256):∀(l n i:Nat),(match idxN b l n i with |some j=>i≤j∧Lib.indexByte (strL l n) (UInt8.ofNat b)=((j-i:Nat):Int) |none=>Lib.indexByte (strL l n) (UInt8.ofNat b)=-1):=by
 intro l
 induction l with
 |zero=>intro n i;rfl
 |succ l ih=>
  intro n i
  rw[idxN_succ,strL_succ]
  have a1:n % 256<256:=Nat.mod_lt _ (by decide)
  cases hq:Nat.beq (n % 256) b with
  |true=>
   have e:=Nat.eq_of_beq_eq_true hq
   simp only
   refine⟨Nat.le_refl _,?_⟩
   rw[e]
   simp[Lib.indexByte]
  |false=>
   have hne:=beq_false hq
   have hbq:(UInt8.ofNat (n % 256) == UInt8.ofNat b)=false:=by
    apply beq_eq_false_iff_ne.2
    intro e
    have:=congrArg UInt8.toNat e
    rw[u8 a1,u8 hb]at this
    exact hne this
   have h1:=ih (n / 256) (i+1)
   simp only
   cases hi:idxN b l (n / 256) (i+1) with
   |none=>
    rw[hi]at h1
    simp only at h1 ⊢
    simp[Lib.indexByte,hbq,h1]
   |some j=>
    rw[hi]at h1
    simp only at h1 ⊢
    obtain⟨h2,h3⟩:=h1
    refine⟨by omega,?_⟩
    have hne1:((((j-(i+1):Nat):Int)) == -1)=false:=by
     rw[beq_eq_false_iff_ne]
     omega
    simp only[Lib.indexByte,hbq,h3,hne1]
    simp
    omega
def hIdx (f0:FuncId)(ca:Ca):Ca:=fun f args h nx=>
 match Nat.beq f f0 with
 |true=>match args with
  |[.str l n,.int .u8 (.ofNat b)]=>match Nat.ble b 255 with
   |true=>match idxN b l n 0 with
    |some i=>fN i fun i=>.ok (.int .i64 (Int.ofNat i)) h nx
    |none=>.ok (.int .i64 (Int.negSucc 0)) h nx
   |false=>.fail
  |_=>.fail
 |false=>ca f args h nx
theorem hIdx_ok {f0:FuncId}(hx:XOk P f0 Extern.BytealgIndexByte.indexByte){ca:Ca}(hca:CaOk P c ca):CaOk P c (hIdx f0 ca):=by
 intro f args h nx v g ny he
 unfold hIdx at he
 cases hf:Nat.beq f f0 with
 |false=>rw[hf]at he;exact hca f args h nx v g ny he
 |true=>
  intro σ w A ok hA
  rw[hf]at he
  have e1:=Nat.eq_of_beq_eq_true hf
  subst e1
  simp only at he
  split at he
  ·rename_i l n b
   cases hb:Nat.ble b 255 with
   |false=>rw[hb]at he;cases he
   |true=>
    rw[hb]at he
    simp only at he
    have hb':b<256:=by have:=Nat.le_of_ble_eq_true hb;omega
    simp only[RelL,Rel]at hA
    obtain⟨V,L,e2,⟨_,e3⟩,V2,L2,e4,e5,e6⟩:=hA
    subst e6
    subst e5
    subst e4
    subst e3
    subst e2
    have hrun:=Lib.run_indexByteString (P:=P) (strB l n) (Int.ofNat b) w
    have hsp:=idxN_spec hb' l n 0
    have hdl:(strB l n).data.toList=strL l n:=by show (strL l n).toArray.toList=_;simp
    have hu:(Int.ofNat b).toNat.toUInt8=UInt8.ofNat b:=rfl
    rw[hdl,hu]at hrun
    have hcall:(callFunc f [Value.string (strB l n),.int .u8 (Int.ofNat b)].toArray).run P w=.ok (.value (.int .i64 (Lib.indexByte (strL l n) (UInt8.ofNat b)))) w:=by
     rw[hx]
     show ((Extern.BytealgIndexByte.indexByte #[.string (strB l n),.int .u8 (Int.ofNat b)]).run P w).andThen _=_
     rw[hrun]
     rfl
    unfold CR
    rw[hcall]
    cases hi:idxN b l n 0 with
    |none=>
     rw[hi]at he hsp
     cases he
     exact⟨σ,_,_,_,by simp only[Rel];rw[hsp];rfl,.refl ok,rfl,rfl,rfl⟩
    |some i=>
     rw[hi]at he hsp
     simp only[fN_eq]at he
     cases he
     exact⟨σ,_,_,_,by simp only[Rel];rw[hsp.2];rfl,.refl ok,rfl,rfl,rfl⟩
  ·cases he
end
end Go.Ev
namespace Go.Ev
noncomputable section
variable {P : Program} {c : Cx} {σ τ υ : Sg} {h g : Tr ABlk} {nx ny sz : Nat} {w x : World} {tm : Tr AV} {a : Act}
def Harm (P:Program)(f:FuncId):Prop:=∀p q r w,CallsDIn Fence.wide 0 P f #[p,q,r] .returning w fun e u' w'=>(∃v,e=.returned v)∧u'=.returning∧w'=w
theorem leaves_fn (hc:CxOk P c){fn:Func}{tmps:Array Value}{RR:Ending→World→Prop}{f:FuncId}{fd:Func}(hft:c.ft.get f=some fd)(hH:Harm P f){F C:List Value}{u1 u2 u3:AV}(hF:RelL σ [] F)(hC:RelL σ [u1,u2,u3] C)(hf:∃v,(results fn tmps).run P w=.ok v w∧RR (.returned v) w):
  LeavesInM Fence.wide 0 P fn tmps RR [{ target:=.fn (.func f) C.toArray,args:=F.toArray }] .returning w:=by
 obtain⟨_,hcall⟩:=hc.ft f fd hft
 simp only[RelL]at hF hC
 obtain⟨p,C1,rfl,_,q,C2,rfl,_,r,C3,rfl,_,rfl⟩:=hC
 subst hF
 refine⟨by simp,.inr ⟨fun hh=>by simp[Fence.wide]at hh,_,_,f,#[p,q,r],rfl,hcall _ w,fun _ _=>trivial,?_⟩⟩
 refine CallsDIn.mono (hH p q r w) ?_
 rintro e u' w' ⟨⟨v,rfl⟩,rfl,rfl⟩
 exact hf
def exitD (c:Cx)(rs:List ResultVar)(hm:FuncId→Prop)(R:AV→Tr ABlk→Nat→Prop):AX→AS→Prop
 |.exit _,_=>False
 |_,.mk tm h nx ds=>∃f a b e l,ds=[.fn f [] [a,b,e]]∧hm f∧resL c tm h nx rs=some l∧R (resV l) h nx
theorem ACall_of_defer (hc:CxOk P c){f:FuncId}{fn:Func}(hft:c.ft.get f=some fn){code:Code}(hb:fn.body=some code){args:List AV}(hle:args.length≤fn.ntmps){R:AV→Tr ABlk→Nat→Prop}{hm:FuncId→Prop}(hH:∀f,hm f→Harm P f∧∃fd,c.ft.get f=some fd)
  (hw:AW P c false fn.ntmps code (exitD c fn.results.toList hm R) (.mk (putN args .nil 0) h nx [])):ACall P c f args h nx R:=by
 intro σ w A hk hA
 obtain⟨hf,hcall⟩:=hc.ft f fn hft
 unfold CR
 rw[hcall]
 simp only
 have hAl:A.length=args.length:=hA.length
 have hst:St σ (putN args .nil 0) { tmps:=A.toArray++Array.replicate (fn.ntmps-A.toArray.size) undef,defers:=[] } fn.ntmps []:=by
  refine⟨fun t u e=>?_,by simp;omega,rfl⟩
  rw[get_putN]at e
  by_cases h1:0≤t∧t<0+args.length
  ·rw[if_pos h1,Nat.sub_zero]at e
   obtain⟨U,e1,e2⟩:=hA.get e
   have ht:t<A.length:=by omega
   rw[List.getElem?_eq_getElem ht]at e1
   cases e1
   simp only[Array.getD_eq_getD_getElem?]
   rw[Array.getElem?_append_left (by simpa using ht)]
   simpa[ht]using e2
  ·rw[if_neg h1]at e
   cases e
 refine callsIn_wide.1 (callsIn_of_wp_marks (F:=Fence.wide) (n:=0) hf hb trivial (wpIn_mono (hw none (fun _=>rfl) σ _ w hk hst) fun e a' w' q=>?_))
 obtain⟨k,tm,g,ny,ds,τ,e1,q1,q2,q3⟩:=q
 have fin:(∃f a b e l,ds=[.fn f [] [a,b,e]]∧hm f∧resL c tm g ny fn.results.toList=some l∧R (resV l) g ny)→LeavesInM Fence.wide 0 P fn a'.tmps (fun e x=>match e with |.returned v=>∃τ v' g ny,Rel τ v' v∧Post c.G σ h nx w τ g ny x∧R v' g ny |_=>False) a'.defers .returning w':=by
  rintro⟨f0,b1,b2,b3,l,rfl,h0,hl,hR⟩
  obtain⟨F,C,D',e2,hF,hC,e3⟩:=q2.defers
  have e3':D'=[]:=e3
  subst e3'
  rw[e2]
  obtain⟨h1,fd,h2⟩:=hH f0 h0
  obtain⟨V,r1,r2⟩:=results_ok hc q1.ok q2.tm hl
  exact leaves_fn hc h2 h1 hF hC ⟨V,r1,τ,resV l,g,ny,r2,q1,hR⟩
 cases k with
 |norm=>subst e1;exact fin q3
 |ret=>subst e1;exact fin q3
 |exit id=>exact q3.elim
def cDefer (c:Cx)(ca:Ca)(ya:Ya) (sz:Nat)(ops:Array Oper)(tm:Tr AV)(h:Tr ABlk) (nx:Nat)(ds:List DE):ER:=
 match ops.toList with
 |[o1,⟨none,.defer ⟨.value f,args,_⟩,_,_,_,none⟩]=>match args.toList with
  |[]=>match evStep c ca ya sz ops.toList o1 tm h nx OS.ok with
   |.ok tm h nx=>match evO c.G tm f with
    |some (.func fid first cap)=>.norm tm h nx (.fn fid first cap::ds)
    |_=>.fail
   |.fail=>.fail
  |_=>.fail
 |_=>.fail
theorem cDefer_ok (hc:CxOk P c){ca:Ca}(hca:CaOk P c ca){ya:Ya}(hya:YaOk P c ya){ops:Array Oper}{id:Nat}{tm:Tr AV}{h:Tr ABlk}{nx:Nat}{ds:List DE}{r:ER}(he:cDefer c ca ya sz ops tm h nx ds=r)(hr:r≠.fail):
  AW P c false sz (.region id ops false) (QE r) (.mk tm h nx ds):=by
 intro rr hi σ a w ok st
 obtain rfl:=hi rfl
 simp only[AS.tm,AS.h,AS.nx,AS.ds]at ok st
 refine wpIn_region_list ?_
 unfold cDefer at he
 split at he
 ·rename_i o1 f args ty t p af hops
  split at he
  ·rename_i hargs
   cases h1:evStep c ca ya sz ops.toList o1 tm h nx OS.ok with
   |fail=>rw[h1]at he;exact absurd he.symm hr
   |ok tm1 g1 n1=>
    rw[h1]at he
    simp only at he
    cases hv:evO c.G tm1 f with
    |none=>rw[hv]at he;exact absurd he.symm hr
    |some fv=>
     rw[hv]at he
     cases fv <;> try exact absurd he.symm hr
     rename_i fid first cap
     subst he
     rw[hops]
     unfold wpListIn
     refine evStep_ok hc hca hya (ops:=ops) (k:=OS.ok) h1 (by simp) ok st _ _ fun τ tm2 a1 w1 h2 n2 e1 p1 s1=>?_
     cases e1
     unfold wpListIn
     rw[if_pos (show Region.wanted (⟨none,.defer ⟨.value f,args,ty⟩,t,p,af,none⟩:Oper) (yielded ops a1.tmps)=true from rfl)]
     have hfv:=evO_ok p1.ok s1.tm hv
     simp only[Rel]at hfv
     obtain⟨F,C,e2,r1,r2⟩:=hfv
     refine⟨fun _ _=>trivial,?_⟩
     have ea:args=#[]:=by cases args;simp_all
     subst ea
     have hex:(Oper.semAt (fence none).round a1.eval ⟨none,.defer ⟨.value f,#[],ty⟩,t,p,af,none⟩).run P w1=.ok (.defer { target:=.fn (.func fid) C.toArray,args:=F.toArray }) w1:=by
      show (Oper.semAt none a1.eval _).run P w1=_
      rw[Oper.semAt_none]
      have e3:execOp a1.eval ⟨none,.defer ⟨.value f,#[],ty⟩,t,p,af,none⟩=(do pure (.defer (← Deferred.ofValue (a1.eval f) (#[].map a1.eval)))):=rfl
      rw[e3,e2]
      simp[Deferred.ofValue]
     rw[hex]
     refine⟨.norm,tm1,g1,n1,.fn fid first cap::ds,τ,rfl,p1,?_,rfl,rfl⟩
     exact⟨s1.tm,s1.size,F,C,a1.defers,rfl,r1,r2,s1.defers⟩
  ·exact absurd he.symm hr
 ·exact absurd he.symm hr
def isDR:Code→Option (Array Oper)
 |.region _ ops false=>match ops.toList with
  |[_,o]=>match isDefer o.op with
   |true=>some ops
   |false=>none
  |_=>none
 |_=>none
theorem isDR_spec {code:Code}{ops:Array Oper}(h:isDR code=some ops):∃id,code=.region id ops false:=by
 unfold isDR at h
 split at h
 ·split at h
  ·split at h
   ·cases h;exact⟨_,rfl⟩
   ·cases h
  ·cases h
 ·cases h
def evD (c:Cx)(ca:Ca)(ya:Ya)(ed:Ed) (sz m:Nat) (k:Nat):Code→CE:=
 Nat.rec (motive:=fun _=>Code→CE) (fun code=>evC c ca ya ed false sz m code) (fun _ ih code=>match code with
  |.seq x y=>match isDR x with
   |some ops=>fun tm h nx ds=>thenE (ih y) (cDefer c ca ya sz ops tm h nx ds)
   |none=>fun tm h nx ds=>thenE (ih y) (evC c ca ya ed false sz m x tm h nx ds)
  |code=>evC c ca ya ed false sz m code) k
theorem evD_ok (hc:CxOk P c){ca:Ca}(hca:CaOk P c ca){ya:Ya}(hya:YaOk P c ya){ed:Ed}(hed:EdOk P c ed){m:Nat}:∀(k:Nat)(code:Code)(tm:Tr AV)(h:Tr ABlk) (nx:Nat)(ds:List DE)(r:ER),evD c ca ya ed sz m k code tm h nx ds=r→r≠.fail→
  AW P c false sz code (QE r) (.mk tm h nx ds)
 |0,code,tm,h,nx,ds,r,he,hr=>evC_ok hc hca hya hed m code tm h nx ds r he hr
 |k+1,code,tm,h,nx,ds,r,he,hr=>by
  have ih:=evD_ok hc hca hya hed (m:=m) k
  have plain:evC c ca ya ed false sz m code tm h nx ds=r→AW P c false sz code (QE r) (.mk tm h nx ds):=fun e=>evC_ok hc hca hya hed m code tm h nx ds r e hr
  cases code with
  |seq x y=>
   have step:∀r1,thenE (evD c ca ya ed sz m k y) r1=r→(r1≠.fail→AW P c false sz x (QE r1) (.mk tm h nx ds))→AW P c false sz (.seq x y) (QE r) (.mk tm h nx ds):=by
    intro r1 e hx
    refine AW_seq ?_
    cases r1 with
    |fail=>exact absurd e.symm hr
    |norm tm1 g1 n1 d1=>
     refine(hx (by simp)).mono ?_
     rintro k' s ⟨rfl,rfl⟩
     exact ih y tm1 g1 n1 d1 r e hr
    |exit id tm1 g1 n1 d1=>
     change ER.exit id tm1 g1 n1 d1=r at e
     subst e
     refine(hx (by simp)).mono ?_
     rintro k' s ⟨rfl,rfl⟩
     exact⟨rfl,rfl⟩
    |ret tm1 g1 n1 d1=>
     change ER.ret tm1 g1 n1 d1=r at e
     subst e
     refine(hx (by simp)).mono ?_
     rintro k' s ⟨rfl,rfl⟩
     exact⟨rfl,rfl⟩
   change (match isDR x with
    |some ops=>fun tm h nx ds=>thenE (evD c ca ya ed sz m k y) (cDefer c ca ya sz ops tm h nx ds)
    |none=>fun tm h nx ds=>thenE (evD c ca ya ed sz m k y) (evC c ca ya ed false sz m x tm h nx ds)) tm h nx ds=r at he
   cases hd:isDR x with
   |some ops=>
    rw[hd]at he
    obtain⟨id,rfl⟩:=isDR_spec hd
    exact step _ he fun h1=>cDefer_ok hc hca hya rfl h1
   |none=>
    rw[hd]at he
    exact step _ he fun h1=>evC_ok hc hca hya hed m x tm h nx ds _ rfl h1
  |_=>exact plain he
def runDfr (c:Cx)(ca:Ca)(ya:Ya)(ed:Ca→Ya→Ed) (m k:Nat)(hm:FuncId→Bool)(f:FuncId)(args:List AV)(h:Tr ABlk) (nx:Nat):CO:=
 match c.ft.get f with
 |none=>.fail
 |some fn=>match fn.body with
  |none=>.fail
  |some code=>match Nat.ble args.length fn.ntmps with
   |false=>.fail
   |true=>putNK args .nil 0 fun tm=>match evD c ca ya (ed ca ya) fn.ntmps m k code tm h nx [] with
    |.ret tm h nx [.fn f0 [] [_,_,_]]=>match hm f0 with
     |true=>match resL c tm h nx fn.results.toList with
      |some l=>.ok (resV l) h nx
      |none=>.fail
     |false=>.fail
    |_=>.fail
theorem runDfr_ok (hc:CxOk P c){ca:Ca}(hca:CaOk P c ca){ya:Ya}(hya:YaOk P c ya){ed:Ca→Ya→Ed}(hed:EdOk P c (ed ca ya)) (m k:Nat){hm:FuncId→Bool}(hH:∀f,hm f=true→Harm P f∧∃fd,c.ft.get f=some fd){f:FuncId}{args:List AV}{h:Tr ABlk}{nx:Nat}{v:AV}{g:Tr ABlk}{ny:Nat}(he:runDfr c ca ya ed m k hm f args h nx=.ok v g ny):ACall P c f args h nx (eqQ v g ny):=by
 unfold runDfr at he
 cases hft:c.ft.get f with
 |none=>rw[hft]at he;cases he
 |some fn=>
 rw[hft]at he
 simp only at he
 cases hb:fn.body with
 |none=>rw[hb]at he;cases he
 |some code=>
 rw[hb]at he
 simp only at he
 cases hl:Nat.ble args.length fn.ntmps with
 |false=>rw[hl]at he;cases he
 |true=>
 rw[hl]at he
 simp only[putNK_eq]at he
 refine ACall_of_defer hc hft hb (Nat.le_of_ble_eq_true hl) (hm:=fun f=>hm f=true) hH ?_
 cases hev:evD c ca ya (ed ca ya) fn.ntmps m k code (putN args .nil 0) h nx [] with
 |fail=>rw[hev]at he;cases he
 |exit id tm1 g1 n1 d1=>rw[hev]at he;cases he
 |norm tm1 g1 n1 d1=>rw[hev]at he;cases he
 |ret tm1 g1 n1 d1=>
  rw[hev]at he
  refine(evD_ok hc hca hya hed k code _ h nx [] _ hev (by simp)).mono ?_
  rintro k' s ⟨rfl,rfl⟩
  cases d1 with
  |nil=>cases he
  |cons d1 dd=>
   cases d1 with
   |mark i=>cases he
   |fn f0 a b=>
    have hx:∃u1 u2 u3,a=[]∧b=[u1,u2,u3]∧dd=[]:=by
     rcases a with _ |⟨a1,a⟩
     ·rcases b with _ |⟨u1,_ |⟨u2,_ |⟨u3,_ |⟨u4,b⟩⟩⟩⟩
      ·cases he
      ·cases he
      ·cases he
      ·cases dd with
       |nil=>exact⟨u1,u2,u3,rfl,rfl,rfl⟩
       |cons _ _=>cases he
      ·cases he
     ·cases he
    obtain⟨u1,u2,u3,rfl,rfl,rfl⟩:=hx
    simp only at he
    cases h0:hm f0 with
    |false=>rw[h0]at he;cases he
    |true=>
     rw[h0]at he
     simp only at he
     cases hres:resL c tm1 g1 n1 fn.results.toList with
     |none=>rw[hres]at he;cases he
     |some l=>
      rw[hres]at he
      cases he
      exact⟨f0,u1,u2,u3,l,rfl,h0,hres,rfl,rfl,rfl⟩
end
end Go.Ev
