/- Texts EM EQ. -/
import Derived.Laws.StructEq
import Derived.Test.YtjngkeajenankaaGreatDoorP29
import Derived.Test.YtjngkeajenankaaGreatDoorP33
set_option linter.unusedSimpArgs false
set_option linter.unusedVariables false
set_option maxRecDepth 100000
namespace Go.Ev
noncomputable section
variable {P : Program} {G : Gl} {c : Cx} {σ τ υ : Sg} {h g f : Tr ABlk} {nx ny nz sz : Nat} {ds : List DE} {w x y : World} {tm tm' : Tr AV} {a : Act}
inductive MR where
 |mk (t:TypeId) (l:List AV) (sh:Sh)
 |fail
def MkOk (P:Program)(σ:Sg)(w:World)(m:Sem Value):MR→Prop
 |.mk t l sh=>sh.ok∧∃L,RelL σ l L∧m.run P w=.ok (sh.conc w.heap.size) { w with heap:=w.heap.push (.cells L.toArray t) }
 |.fail=>True
def mkAlloc (ti:TI)(t:TypeId):MR:=
 match ti with
 |.mk _ _ _ (some z) _=>.mk t z.cells .ptr
 |_=>.fail
theorem mkAlloc_ok (t:TypeId){ti:TI}(ht:TIok P t ti):MkOk P σ w (Instr.alloc t true (.tuple #[])) (mkAlloc ti t):=by
 cases ti with
 |mk d size bytes zero fs=>
  cases zero with
  |none=>trivial
  |some z=>
   obtain⟨hu,i,hi,_,_,hz,_⟩:=ht
   obtain⟨Z,hZ,hzr,_⟩:=hz z rfl
   exact⟨trivial,_,(hzr σ).cells,by simp[Instr.alloc,run_zero hi hZ,newVar,newRow,newObj,Sem.run,Sh.conc]⟩
def mkMakeSlice (ti:TI)(te:Option TI)(et:TypeId)(ln cp:AV):MR:=
 match ti,te with
 |.mk d _ _ _ _,some (.mk _ _ bytes (some z) _)=>match d with
  |.slice e=>match Nat.beq e et with
   |true=>match idx ln with
    |some l=>match idx cp with
     |some c=>match Nat.ble l c with
      |true=>match Nat.ble c 16777216 with
       |true=>match Nat.ble bytes 16777216 with
        |true=>fN l fun l=>fN c fun c=>.mk e (repL z.cells c) (.sl l c)
        |false=>.fail
       |false=>.fail
      |false=>.fail
     |none=>.fail
    |none=>.fail
   |false=>.fail
  |_=>.fail
 |_,_=>.fail
theorem mkMakeSlice_ok (t:TypeId){ti:TI}(ht:TIok P t ti){te:Option TI}{et:TypeId}(hte:∀ti,te=some ti→TIok P et ti){ln cp:AV}{LN CP:Value}(hl:Rel σ ln LN)(hc:Rel σ cp CP):
  MkOk P σ w (Instr.makeSlice t LN CP) (mkMakeSlice ti te et ln cp):=by
 cases ti with
 |mk d size bytes zero fs=>
 obtain⟨hu,hu2⟩:=ht
 clear hu2
 unfold mkMakeSlice
 split
 ·rename_i dd q1 q2 q3 q4 d2 s by' z q6 e0
  cases e0
  obtain⟨hue,inf,hi,hs,hby,hzz,hf,hfl,he⟩:=hte _ rfl
  obtain⟨Z,hZ,hzr,hzs⟩:=hzz z rfl
  cases d <;> try trivial
  rename_i e
  simp only
  cases hbe:Nat.beq e et with
  |false=>trivial
  |true=>
  have:=Nat.eq_of_beq_eq_true hbe
  subst this
  simp only
  cases hln:idx ln with
  |none=>trivial
  |some l=>
  cases hcp:idx cp with
  |none=>trivial
  |some c=>
  simp only
  cases hb1:Nat.ble l c with
  |false=>trivial
  |true=>
  cases hb2:Nat.ble c 16777216 with
  |false=>trivial
  |true=>
  cases hb3:Nat.ble by' 16777216 with
  |false=>trivial
  |true=>
  simp only[fN_eq]
  obtain⟨k1,e1⟩:=idx_ok hl hln
  obtain⟨k2,e2⟩:=idx_ok hc hcp
  subst e1
  subst e2
  have n1:=Nat.le_of_ble_eq_true hb1
  have n2:=Nat.le_of_ble_eq_true hb2
  have n3:=Nat.le_of_ble_eq_true hb3
  have hrun:=run_make (P:=P) w t e inf Z hu hi hZ k1 k2 (l:Int) (c:Int) (by omega) (by omega) (by
   rw[hby]
   have:by' * c≤16777216 * 16777216:=Nat.mul_le_mul n3 n2
   have h2:((by' * c:Nat):Int)≤281474976710656:=by omega
   simpa using h2) (by omega)
  refine⟨n1,_,rep_ok (hzr σ).cells c,?_⟩
  rw[hrun]
  have hsz:Z.cells.size=inf.size:=by rw[hzs,hs]
  simp only[madeCells,Int.toNat_natCast,hsz,Array.toArray_toList]
  rfl
 ·trivial
theorem RO.or {m:Sem Next}{p q:R}(h1:RO P G σ h nx w m p)(h2:RO P G σ h nx w m q):RO P G σ h nx w m (orR p q):=by
 cases p with
 |fail=>exact h2
 |val _ _ _=>exact h1
 |unit _ _=>exact h1
def evX (c:Cx)(op:Op)(tm:Tr AV)(h:Tr ABlk) (nx:Nat):R:=match isBS op with
 |true=>opD c op tm h nx
 |false=>match isW c op with
  |true=>orR (evPlain c op tm h nx) (evPlainS c op tm h nx)
  |false=>evPlain c op tm h nx
def isWX (c:Cx)(op:Op):Bool:=match isBS op with
 |true=>false
 |false=>isW c op
theorem evX_ok (hc:CxOk P c)(hk:Ok c.G σ h nx w)(ht:TmOk σ tm a)(o:Oper):RO P c.G σ h nx w (execOp a.eval o) (evX c o.op tm h nx):=by
 unfold evX
 cases isBS o.op with
 |true=>exact opD_ok hc hk ht o
 |false=>
  cases isW c o.op with
  |true=>exact(evPlain_ok hc hk ht o).or (evPlainS_ok hc hk ht o)
  |false=>exact evPlain_ok hc hk ht o
theorem evX_sees (op:Op)(hs:Sees tm tm' op.operands.toList):evX c op tm h nx=evX c op tm' h nx:=by
 unfold evX
 rw[opD_sees op hs,evPlain_sees op hs,evPlainS_sees op hs]
theorem Kp.buildV (ti:TI)(te:Option TI)(et:TypeId) (len:Nat)(ps:List (Nat×AV)):Kp h nx (evBuildV ti te et len ps h nx):=by
 unfold evBuildV
 repeat' split
 all_goals first |exact .val |trivial
theorem kp_X (op:Op)(hw:isWX c op=false):Kp h nx (evX c op tm h nx):=by
 unfold isWX at hw
 unfold evX
 cases hb:isBS op with
 |true=>
  cases op <;> try (cases hb;done)
  exact Kp.bR fun _=>Kp.bR fun _=>Kp.buildV _ _ _ _ _
 |false=>
  rw[hb]at hw
  simp only at hw
  simp only[hw]
  exact kp_plain op hw
def opX (c:Cx)(ca:Ca)(ya:Ya)(ops:List Oper)(o:Oper)(tm:Tr AV)(h:Tr ABlk) (nx:Nat):Option (AV×Tr ABlk×Nat):=
 match wantA ops tm o with
 |none=>none
 |some false=>some (.tup [],h,nx)
 |some true=>match callOf o.op with
  |some (f,args)=>match callF ca ya (evO c.G tm f) (evOs c.G tm args.toList) h nx with
   |.ok v h nx=>some (v,h,nx)
   |.fail=>none
  |none=>match isDefer o.op with
   |true=>none
   |false=>match evX c o.op tm h nx with
    |.val v h nx=>some (v,h,nx)
    |.unit h nx=>some (.tup [],h,nx)
    |.fail=>none
theorem opX_ok (hc:CxOk P c){ca:Ca}(hca:CaOk P c ca){ya:Ya}(hya:YaOk P c ya){ops:Array Oper}{o:Oper}{v:AV}{rr:Option Nat}(hs:opX c ca ya ops.toList o tm h nx=some (v,g,ny)):OpY P c rr ops o v tm h nx g ny:=by
 intro σ a w hk ht Q K hK
 unfold opX at hs
 cases hw:wantA ops.toList tm o with
 |none=>rw[hw]at hs;cases hs
 |some b=>
  rw[wantA_ok ht hw]
  rw[hw]at hs
  cases b with
  |false=>
   cases hs
   simp only[Bool.false_eq_true,if_false]
   exact⟨fun _ _=>trivial,hK σ w undef rel_undef (.refl hk)⟩
  |true=>
   simp only[if_true]
   simp only at hs
   have plain:callOf o.op=none→o.wpIn (fence rr) 0 P a w K Q:=by
    intro hcn
    rw[hcn]at hs
    simp only at hs
    cases hd0:isDefer o.op with
    |true=>rw[hd0]at hs;cases hs
    |false=>
    rw[hd0]at hs
    simp only at hs
    have hd:∀cl,o.op≠.defer cl:=fun cl e=>by rw[e]at hd0;cases hd0
    have hp:=evX_ok hc hk ht o
    cases hv:evX c o.op tm h nx with
    |fail=>rw[hv]at hs;cases hs
    |val v' g' ny'=>
     rw[hv]at hs hp
     cases hs
     obtain⟨V,τ,x,h1,h2,h3⟩:=hp
     refine upon_fence hd ?_
     rw[h1]
     exact hK τ x V h2 h3
    |unit g' ny'=>
     rw[hv]at hs hp
     cases hs
     obtain⟨τ,x,h1,h3⟩:=hp
     refine upon_fence hd ?_
     rw[h1]
     exact hK τ x undef rel_undef h3
   obtain⟨dst,op,type,pos,after,guard⟩:=o
   cases op <;> try exact plain rfl
   rename_i cl
   obtain⟨callee,args,argTypes⟩:=cl
   cases callee <;> try exact plain rfl
   rename_i fo
   clear plain
   replace hs:(match callF ca ya (evO c.G tm fo) (evOs c.G tm args.toList) h nx with |.ok v h nx=>some (v,h,nx) |.fail=>none)=some (v,g,ny):=hs
   cases hf:evO c.G tm fo with
   |none=>rw[hf]at hs;cases hs
   |some fv=>
    rw[hf]at hs
    have hfv:=evO_ok hk ht hf
    cases fv <;> try (cases hs;done)
    case yld i=>
     cases hl:evOs c.G tm args.toList with
     |none=>rw[hl]at hs;cases hs
     |some l=>
      rw[hl]at hs
      replace hs:(match ya i l h nx with |.ok v h nx=>some (v,h,nx) |.fail=>none)=some (v,g,ny):=hs
      cases hy:ya i l h nx with
      |fail=>rw[hy]at hs;cases hs
      |ok v0 g0 n0=>
      rw[hy]at hs
      cases hs
      have hlr:=evOs_ok hk ht hl
      simp only[Rel]at hfv
      obtain⟨lb,hlb,e1⟩:=hfv
      obtain⟨fn,tmps,assign,body,hy1,hy2⟩:=hya i l h nx _ _ _ hy σ w (args.toList.map a.eval) lb hk hlr hlb
      have hex:(execOp a.eval ⟨dst,.call ⟨.value fo,args,argTypes⟩,type,pos,after,guard⟩).run P w=(Instr.yield lb (args.toList.map a.eval).toArray).run P w:=by
       have e2:execOp a.eval ⟨dst,.call ⟨.value fo,args,argTypes⟩,type,pos,after,guard⟩=(do let d ← Deferred.ofValue (a.eval fo) (args.map a.eval);invoke d.target d.args):=rfl
       rw[e2,e1]
       show (Instr.yield lb (#[]++args.map a.eval)).run P w=_
       congr 2
       apply Array.ext'
       simp
      refine upon_fence (fun _ e=>by cases e) ?_
      rw[hex,hy1]
      refine⟨fun hh=>by simp[fence,Fence.wide]at hh,round_fence (hy2.mono fun e x q=>?_)⟩
      cases e with
      |returned V=>
       obtain⟨τ,v,g,ny,q1,q2,q3,q4,q5⟩:=q
       subst q3
       subst q4
       subst q5
       exact hK τ x V q1 q2
      |panicked ch=>exact q.elim
      |outgrown=>exact q.elim
    rename_i fid first cap
    cases hl:evOs c.G tm args.toList with
    |none=>rw[hl]at hs;cases hs
    |some l=>
     rw[hl]at hs
     replace hs:(match ca fid (first++(l++cap)) h nx with |.ok v h nx=>some (v,h,nx) |.fail=>none)=some (v,g,ny):=hs
     cases hy:ca fid (first++(l++cap)) h nx with
     |fail=>rw[hy]at hs;cases hs
     |ok v0 g0 n0=>
     rw[hy]at hs
     cases hs
     have hlr:=evOs_ok hk ht hl
     simp only[Rel]at hfv
     obtain⟨F,C,e1,r1,r2⟩:=hfv
     have hcr:=hca fid _ h nx _ _ _ hy σ w (F++(args.toList.map a.eval++C)) hk (r1.append (hlr.append r2))
     have hex:(execOp a.eval ⟨dst,.call ⟨.value fo,args,argTypes⟩,type,pos,after,guard⟩).run P w=(callFunc fid (F++(args.toList.map a.eval++C)).toArray).run P w:=by
      have e2:execOp a.eval ⟨dst,.call ⟨.value fo,args,argTypes⟩,type,pos,after,guard⟩=(do let d ← Deferred.ofValue (a.eval fo) (args.map a.eval);invoke d.target d.args):=rfl
      rw[e2,e1]
      show (callFunc fid (F.toArray++args.map a.eval++C.toArray)).run P w=_
      congr 2
      apply Array.ext'
      simp
     refine upon_fence (fun _ e=>by cases e) ?_
     rw[hex]
     unfold CR at hcr
     cases hrun:(callFunc fid (F++(args.toList.map a.eval++C)).toArray).run P w with
     |halt hh w'=>rw[hrun]at hcr;exact hcr.elim
     |ok nxt w'=>
      rw[hrun]at hcr
      cases nxt <;> try exact hcr.elim
      ·rename_i V
       obtain⟨τ,v,g,ny,q1,q2,q3,q4,q5⟩:=hcr
       subst q3
       subst q4
       subst q5
       exact hK τ _ V q1 q2
      ·rename_i f' A'
       refine⟨fun hh=>by simp[fence,Fence.wide]at hh,calls_fence (Calls.mono hcr fun e x q=>?_)⟩
       cases e with
       |returned V=>
        obtain⟨τ,v,g,ny,q1,q2,q3,q4,q5⟩:=q
        subst q3
        subst q4
        subst q5
        exact hK τ x V q1 q2
       |panicked ch=>exact q.elim
       |outgrown=>exact q.elim
theorem opX_sees {ca:Ca}{ya:Ya}{ops:List Oper}{o:Oper}(hs:∀t∈looks ops o,tm.get t=tm'.get t):opX c ca ya ops o tm h nx=opX c ca ya ops o tm' h nx:=by
 have hop:Sees tm tm' o.op.operands.toList:=fun t ht=>hs t (by
  unfold looks
  rw[List.mem_append]
  exact .inl (List.mem_filterMap.2 ⟨.tmp t,ht,rfl⟩))
 have hwant:wantA ops tm o=wantA ops tm' o:=by
  unfold wantA
  cases hg:o.guard with
  |none=>rfl
  |some p=>
   obtain⟨j,want⟩:=p
   simp only
   cases hj:ops[j]? with
   |none=>rfl
   |some oj=>
    simp only
    cases hd:oj.dst with
    |none=>rfl
    |some d=>
     simp only
     rw[hs d (by unfold looks;rw[List.mem_append];refine .inr ?_;rw[hg];simp only;rw[hj];simp[hd])]
 unfold opX
 rw[hwant]
 have hcall:∀f args,callOf o.op=some (f,args)→evO c.G tm f=evO c.G tm' f∧evOs c.G tm args.toList=evOs c.G tm' args.toList:=by
  intro f args hcf
  unfold callOf at hcf
  cases hop2:o.op <;> rw[hop2]at hcf <;> try (cases hcf;done)
  rename_i cl
  obtain⟨callee,args',ts⟩:=cl
  cases callee <;> try (cases hcf;done)
  cases hcf
  rw[hop2]at hop
  exact⟨evO_sees hop (by simp[Op.operands,Call.operands]),evOs_sees hop fun y hy=>by simp[Op.operands,Call.operands]at hy ⊢;exact .inr hy⟩
 cases wantA ops tm' o with
 |none=>rfl
 |some b=>
  cases b with
  |false=>rfl
  |true=>
   simp only
   cases hcf:callOf o.op with
   |none=>simp only;rw[evX_sees o.op hop]
   |some p=>
    obtain⟨f,args⟩:=p
    obtain⟨e1,e2⟩:=hcall f args hcf
    simp only
    rw[e1,e2]
theorem opX_keeps {ca:Ca}{ya:Ya}{ops:List Oper}{o:Oper}(hw:isWX c o.op=false){v:AV}(he:opX c ca ya ops o tm h nx=some (v,g,ny)):g=h∧ny=nx:=by
 unfold opX at he
 split at he
 ·cases he
 ·cases he;exact⟨rfl,rfl⟩
 ·have hcn:callOf o.op=none:=by
   unfold callOf
   cases hop:o.op <;> try rfl
   rename_i cl
   obtain⟨callee,args,ts⟩:=cl
   rw[hop]at hw
   cases callee <;> first |rfl |(cases hw;done)
  rw[hcn]at he
  simp only at he
  split at he
  ·cases he
  have hkp:=kp_X (c:=c) (tm:=tm) (h:=h) (nx:=nx) o.op hw
  cases hv:evX c o.op tm h nx with
  |fail=>rw[hv]at he;cases he
  |unit _ _=>rw[hv]at hkp;exact hkp.elim
  |val v' g' ny'=>
   rw[hv]at he hkp
   cases he
   exact hkp
def stx (c:Cx)(ca:Ca)(ya:Ya) (sz:Nat)(ops:List Oper)(tm:Tr AV)(h:Tr ABlk) (nx:Nat) (i:Nat):Option (Tr AV×Tr ABlk×Nat):=
 Nat.rec (motive:=fun _=>Option (Tr AV×Tr ABlk×Nat)) (some (tm,h,nx)) (fun i s=>match s with
  |none=>none
  |some (tm,h,nx)=>match ops[i]? with
   |none=>none
   |some o=>match opX c ca ya ops o tm h nx with
    |none=>none
    |some (v,h',nx')=>match o.dst with
     |none=>some (tm,h',nx')
     |some d=>match Nat.ble (Nat.succ d) sz with
      |true=>tm.putK (some v) d fun tm'=>some (tm',h',nx')
      |false=>none) i
theorem stx_succ {ca:Ca}{ya:Ya}{ops:List Oper}{i:Nat}{s:Tr AV×Tr ABlk×Nat}(hs:stx c ca ya sz ops tm h nx (i+1)=some s):
  ∃tm1 h1 n1 o v h2 n2,stx c ca ya sz ops tm h nx i=some (tm1,h1,n1)∧ops[i]?=some o∧opX c ca ya ops o tm1 h1 n1=some (v,h2,n2)∧(∀d,o.dst=some d→d<sz)∧
   s=((match o.dst with |none=>tm1 |some d=>tm1.put d (some v)),h2,n2):=by
 change (match stx c ca ya sz ops tm h nx i with
  |none=>none
  |some (tm,h,nx)=>match ops[i]? with
   |none=>none
   |some o=>match opX c ca ya ops o tm h nx with
    |none=>none
    |some (v,h',nx')=>match o.dst with
     |none=>some (tm,h',nx')
     |some d=>match Nat.ble (Nat.succ d) sz with
      |true=>tm.putK (some v) d fun tm'=>some (tm',h',nx')
      |false=>none)=some s at hs
 cases h1:stx c ca ya sz ops tm h nx i with
 |none=>rw[h1]at hs;cases hs
 |some p=>
  obtain⟨tm1,g1,n1⟩:=p
  rw[h1]at hs
  simp only at hs
  cases h2:ops[i]? with
  |none=>rw[h2]at hs;cases hs
  |some o=>
   rw[h2]at hs
   simp only at hs
   cases h3:opX c ca ya ops o tm1 g1 n1 with
   |none=>rw[h3]at hs;cases hs
   |some q=>
    obtain⟨v,g2,n2⟩:=q
    rw[h3]at hs
    simp only at hs
    cases h4:o.dst with
    |none=>
     rw[h4]at hs
     cases hs
     exact⟨tm1,g1,n1,o,v,g2,n2,rfl,rfl,h3,(fun d e=>by rw[h4]at e;cases e),by rw[h4]⟩
    |some d=>
     rw[h4]at hs
     simp only at hs
     cases h5:Nat.ble (Nat.succ d) sz with
     |false=>rw[h5]at hs;cases hs
     |true=>
      rw[h5]at hs
      simp only[Tr.putK_eq]at hs
      cases hs
      exact⟨tm1,g1,n1,o,v,g2,n2,rfl,rfl,h3,(fun d' e=>by rw[h4]at e;cases e;exact Nat.le_of_ble_eq_true h5),by rw[h4]⟩
theorem stx_le {ca:Ca}{ya:Ya}{ops:List Oper}{s:Tr AV×Tr ABlk×Nat}:∀(n i:Nat),stx c ca ya sz ops tm h nx (i+n)=some s→∃s',stx c ca ya sz ops tm h nx i=some s'
 |0,i,hs=>⟨s,hs⟩
 |n+1,i,hs=>by
  obtain⟨tm1,h1,n1,_,_,_,_,e,_⟩:=stx_succ (show stx c ca ya sz ops tm h nx ((i+n)+1)=some s from hs)
  exact stx_le n i e
def bM {α:Type}(o:Option α)(k:α→MR):MR:=match o with |some a=>k a |none=>.fail
def mkOf (c:Cx)(op:Op)(tm:Tr AV):MR:=
 match op with
 |.alloc e=>bM (c.tt.get e) fun ti=>mkAlloc ti e
 |.makeSlice t l cp=>bM (c.tt.get t) fun ti=>bM (evO c.G tm l) fun a=>bM (evO c.G tm cp) fun b=>bM (idx a) fun n=>match Nat.beq n 0 with
  |true=>.fail
  |false=>mkMakeSlice ti (c.tt.get (elemT ti)) (elemT ti) a b
 |_=>.fail
def MkOp (P:Program)(σ:Sg)(w:World)(m:Sem Next):MR→Prop
 |.mk t l sh=>sh.ok∧∃L,RelL σ l L∧m.run P w=.ok (.value (sh.conc w.heap.size)) { w with heap:=w.heap.push (.cells L.toArray t) }
 |.fail=>True
theorem MkOp.of {m:Sem Value}{r:MR}(hm:MkOk P σ w m r):MkOp P σ w (do pure (.value (← m))) r:=by
 cases r with
 |fail=>trivial
 |mk t l sh=>
  obtain⟨h1,L,h2,h3⟩:=hm
  exact⟨h1,L,h2,by simp only[Sem.run_bind,h3,Result.andThen,Sem.run_pure]⟩
theorem bM_ok {α:Type}{m:Sem Next}{o:Option α}{k:α→MR}(hh:∀v,o=some v→MkOp P σ w m (k v)):MkOp P σ w m (bM o k):=by
 cases o with
 |none=>trivial
 |some v=>exact hh v rfl
theorem mkOf_ok (hc:CxOk P c)(hev:∀{x v},evO c.G tm x=some v→Rel σ v (a.eval x))(o:Oper):MkOp P σ w (execOp a.eval o) (mkOf c o.op tm):=by
 obtain⟨dst,op,type,pos,after,guard⟩:=o
 have hT:∀(t:TypeId) (ti:TI),c.tt.get t=some ti→TIok P t ti:=hc.tt
 show MkOp P σ w (execOp a.eval _) (mkOf c op tm)
 cases op <;> try trivial
 ·exact bM_ok fun ti e=>MkOp.of (mkAlloc_ok _ (hT _ _ e))
 ·refine bM_ok fun ti e=>bM_ok fun v e1=>bM_ok fun u e2=>bM_ok fun n e3=>?_
  cases Nat.beq n 0 with
  |true=>trivial
  |false=>exact MkOp.of (mkMakeSlice_ok _ (hT _ _ e) (hT _) (hev e1) (hev e2))
theorem mkOf_sees (op:Op)(hs:Sees tm tm' op.operands.toList):mkOf c op tm=mkOf c op tm':=by
 have e:∀x,x∈op.operands.toList→evO c.G tm x=evO c.G tm' x:=fun x hx=>evO_sees hs hx
 cases op <;> try rfl
 show (bM _ fun ti=>bM _ fun a=>bM _ fun b=>_)=(bM _ fun ti=>bM _ fun a=>bM _ fun b=>_)
 rw[e _ (by simp[Op.operands]),e _ (by simp[Op.operands])]
theorem newK_blk (t:TypeId)(l:List AV)(mk:Nat→AV):newK t l h nx mk=.val (mk nx) (h.put nx (some (blkM t l))) (nx+1):=by
 simp[newK,putNK_eq,fN_eq,Tr.putK_eq,blkM]
theorem bM_mk {α:Type}{o:Option α}{k:α→MR}{t:TypeId}{l:List AV}{s:Sh}(he:bM o k=.mk t l s):∃v,o=some v∧k v=.mk t l s:=by
 cases o with
 |none=>cases he
 |some v=>exact⟨v,rfl,he⟩
theorem mkMakeSlice_plain {ti:TI}{te:Option TI}{et:TypeId}{v1 v2:AV}{n:Nat}{t:TypeId}{l:List AV}{s:Sh}(e4:idx v1=some n)(hn:Nat.beq n 0=false)(he:mkMakeSlice ti te et v1 v2=.mk t l s):evMakeSlice ti te et v1 v2 h nx=.val (s.val nx) (h.put nx (some (blkM t l))) (nx+1):=by
 cases ti with
 |mk d q1 q2 q3 q4=>
 cases te with
 |none=>cases he
 |some te=>
 cases te with
 |mk d2 s1 by' zo q6=>
 cases zo with
 |none=>cases he
 |some z=>
 cases d <;> try (cases he;done)
 rename_i e
 unfold mkMakeSlice at he
 unfold evMakeSlice
 simp only at he ⊢
 cases hbe:Nat.beq e et with
 |false=>rw[hbe]at he;cases he
 |true=>
 rw[hbe]at he
 simp only[e4]at he ⊢
 cases hcp:idx v2 with
 |none=>rw[hcp]at he;cases he
 |some cp=>
 rw[hcp]at he
 simp only at he ⊢
 cases hb1:Nat.ble n cp with
 |false=>rw[hb1]at he;cases he
 |true=>
 rw[hb1]at he
 simp only at he ⊢
 cases hb2:Nat.ble cp 16777216 with
 |false=>rw[hb2]at he;cases he
 |true=>
 rw[hb2]at he
 simp only at he ⊢
 cases hb3:Nat.ble by' 16777216 with
 |false=>rw[hb3]at he;cases he
 |true=>
 rw[hb3]at he
 simp only[hn,fN_eq]at he ⊢
 injection he with r1 r2 r3
 subst r1
 subst r2
 subst r3
 rw[newK_blk]
 rfl
theorem mkOf_plain {op:Op}{t:TypeId}{l:List AV}{s:Sh}(he:mkOf c op tm=.mk t l s):evX c op tm h nx=.val (s.val nx) (h.put nx (some (blkM t l))) (nx+1):=by
 cases op <;> try (cases he;done)
 ·obtain⟨ti,e1,e2⟩:=bM_mk he
  show orR (pAlloc c _ tm h nx) _=_
  unfold pAlloc
  rw[e1]
  show orR (evAlloc ti _ h nx) _=_
  cases ti with
  |mk d size bytes zero fs=>
   cases zero with
   |none=>cases e2
   |some z=>
    injection e2 with q1 q2 q3
    subst q1
    subst q2
    subst q3
    show orR (newK _ z.cells h nx fun i=>.ptr i 0) _=_
    rw[newK_blk]
    rfl
 ·obtain⟨ti,e1,he⟩:=bM_mk he
  obtain⟨v1,e2,he⟩:=bM_mk he
  obtain⟨v2,e3,he⟩:=bM_mk he
  obtain⟨n,e4,he⟩:=bM_mk he
  show orR (pMakeSlice c _ _ _ tm h nx) _=_
  unfold pMakeSlice
  rw[e1,e2,e3]
  show orR (evMakeSlice ti (c.tt.get (elemT ti)) (elemT ti) v1 v2 h nx) _=_
  cases hn:Nat.beq n 0 with
  |true=>rw[hn]at he;cases he
  |false=>
  rw[hn]at he
  simp only at he
  rw[mkMakeSlice_plain e4 hn he]
  rfl
def zeroC:Operand→Bool
 |.const (.int _ n)=>match n with
  |.ofNat 0=>true
  |_=>false
 |_=>false
def isMkO (o:Oper):Bool:=match o.guard with
 |some _=>false
 |none=>match o.dst with
  |none=>false
  |some _=>match o.op with
   |.alloc _=>true
   |.makeSlice _ l _=>!zeroC l
   |_=>false
def mSlots (ops:List Oper):List Tmp:=ops.filterMap fun o=>match isMkO o with
 |true=>o.dst
 |false=>none
def anyL {α:Type}(l:List α)(p:α→Bool):Bool:=List.rec (motive:=fun _=>Bool) false (fun a _ ih=>match p a with |true=>true |false=>ih) l
def isWO (c:Cx)(ops:List Oper)(ms:List Tmp)(o:Oper):Bool:=match isMkO o with
 |true=>false
 |false=>match isWX c o.op with
  |true=>true
  |false=>anyL (looks ops o) fun t=>memN t ms
theorem isWO_X {ops:List Oper}{ms:List Tmp}{o:Oper}(h1:isWO c ops ms o=false)(h2:isMkO o=false):isWX c o.op=false:=by
 unfold isWO at h1
 rw[h2]at h1
 cases h3:isWX c o.op with
 |false=>rfl
 |true=>rw[h3]at h1;cases h1
theorem isWO_mk {ops:List Oper}{ms:List Tmp}{o:Oper}(h2:isMkO o=true):isWO c ops ms o=false:=by
 unfold isWO
 rw[h2]
def ordX (ms:List Nat) (i j:Nat):Bool:=match Nat.ble (Nat.succ j) i with
 |true=>befM ms j i
 |false=>befM ms i j
def andB (p q:Bool):Bool:=match p with |true=>q |false=>false
theorem andB_ok {p q:Bool}(hh:andB p q=true):p=true∧q=true:=by cases p <;> first |exact⟨rfl,hh⟩ |cases hh
def condB (p q:Bool):Bool:=match p with |true=>q |false=>true
theorem condB_ok {p q:Bool}(hh:condB p q=true)(hp:p=true):q=true:=by rw[hp]at hh;exact hh
def pairX (ms:List Nat) (i j:Nat)(li:List Tmp)(wi wj mj:Bool)(di dj:Option Tmp):Bool:=
 match Nat.beq i j with
 |true=>match mj with
  |false=>true
  |true=>match dj with
   |none=>true
   |some d=>!(memN d li)
 |false=>
  match condB (andB wi wj) (ordX ms i j) with
  |false=>false
  |true=>match condB (andB mj (andB wi (Nat.ble (Nat.succ j) i))) (befM ms j i) with
   |false=>false
   |true=>match dj with
    |none=>true
    |some d=>match condB (memN d (li++di.toList)) (ordX ms i j) with
     |false=>false
     |true=>match mj with
      |false=>true
      |true=>match condB (memN d li) (andB wi (Nat.ble (Nat.succ j) i)) with
       |false=>false
       |true=>!(memN d di.toList)
def statX (c:Cx)(ops:List Oper)(ms:List Nat)(sl:List Tmp):Bool:=
 allL (upTo ops.length) fun i=>match ops[i]? with
  |none=>true
  |some oi=>match allL oi.after.toList (fun e=>match Region.binds .any e with |true=>Nat.ble (Nat.succ e.on) i |false=>true) with
   |false=>false
   |true=>allL (upTo ops.length) fun j=>match ops[j]? with
    |none=>true
    |some oj=>pairX ms i j (looks ops oi) (isWO c ops sl oi) (isWO c ops sl oj) (isMkO oj) oi.dst oj.dst
def posX (c:Cx)(ops:List Oper)(ms:List Nat)(sl:List Tmp) (i p:Nat):Bool:=
 allL (upTo ops.length) fun j=>match ops[j]? with
  |none=>true
  |some oj=>match isWO c ops sl oj with
   |false=>true
   |true=>match Nat.ble (Nat.succ j) p with
    |true=>!(befM ms i j)
    |false=>!(befM ms j i)
def dynXAt (c:Cx)(ca:Ca)(ya:Ya) (sz:Nat)(ops:List Oper)(tm:Tr AV)(h:Tr ABlk) (nx:Nat)(ms:List Nat)(sl:List Tmp) (i:Nat)(o:Oper) (p:Nat):Bool:=
 match posX c ops ms sl i p with
 |false=>true
 |true=>match stx c ca ya sz ops tm h nx i,stx c ca ya sz ops tm h nx p with
  |some (tm1,h1,n1),some (_,h2,n2)=>match opX c ca ya ops o tm1 h1 n1,opX c ca ya ops o tm1 h2 n2 with
   |some (v,_,_),some (u,_,_)=>avEq u v
   |_,_=>false
  |_,_=>false
def mkX (c:Cx)(s:Option (Tr AV×Tr ABlk×Nat))(o:Oper):Bool:=match s with
 |some (tm,_,_)=>match mkOf c o.op tm with
  |.mk _ _ _=>true
  |.fail=>false
 |none=>false
def dynX (c:Cx)(ca:Ca)(ya:Ya) (sz:Nat)(ops:List Oper)(tm:Tr AV)(h:Tr ABlk) (nx:Nat)(ms:List Nat)(sl:List Tmp):Bool:=
 allL (upTo ops.length) fun i=>match ops[i]? with
  |none=>true
  |some o=>match isMkO o with
   |true=>mkX c (stx c ca ya sz ops tm h nx i) o
   |false=>match isWO c ops sl o with
    |true=>true
    |false=>match dynXAt c ca ya sz ops tm h nx ms sl i o 0 with
     |false=>false
     |true=>allL (upTo ops.length) fun j=>match ops[j]? with
      |none=>true
      |some oj=>match isWO c ops sl oj with
       |false=>true
       |true=>dynXAt c ca ya sz ops tm h nx ms sl i o (Nat.succ j)
def edM (c:Cx)(ca:Ca)(ya:Ya) (sz:Nat)(ops:Array Oper)(tm:Tr AV)(h:Tr ABlk) (nx:Nat):OS:=
 match statX c ops.toList (mAcc ops.toList []) (mSlots ops.toList) with
 |false=>.fail
 |true=>match stx c ca ya sz ops.toList tm h nx ops.toList.length with
  |none=>.fail
  |some (tm',h',nx')=>match dynX c ca ya sz ops.toList tm h nx (mAcc ops.toList []) (mSlots ops.toList) with
   |true=>.ok tm' h' nx'
   |false=>.fail
def stxD (c:Cx)(ca:Ca)(ya:Ya) (sz:Nat)(ops:Array Oper)(tm:Tr AV)(h:Tr ABlk) (nx:Nat) (i:Nat):Tr AV×Tr ABlk×Nat:=(stx c ca ya sz ops.toList tm h nx i).getD (tm,h,nx)
def valX (c:Cx)(ca:Ca)(ya:Ya) (sz:Nat)(ops:Array Oper)(tm:Tr AV)(h:Tr ABlk) (nx:Nat) (i:Nat):AV:=match stx c ca ya sz ops.toList tm h nx i with
 |some (tm1,h1,n1)=>match ops[i]? with
  |some o=>match opX c ca ya ops.toList o tm1 h1 n1 with
   |some (v,_,_)=>v
   |none=>.tup []
  |none=>.tup []
 |none=>.tup []
def mkAt (c:Cx)(ca:Ca)(ya:Ya) (sz:Nat)(ops:Array Oper)(tm:Tr AV)(h:Tr ABlk) (nx:Nat) (i:Nat):MR:=match stx c ca ya sz ops.toList tm h nx i with
 |some (tm1,_,_)=>match ops[i]? with
  |some o=>mkOf c o.op tm1
  |none=>.fail
 |none=>.fail
def MR.t:MR→TypeId |.mk t _ _=>t |.fail=>0
def MR.l:MR→List AV |.mk _ l _=>l |.fail=>[]
def MR.s:MR→Sh |.mk _ _ s=>s |.fail=>.ptr
def isWA' (c:Cx)(ops:Array Oper) (i:Nat):Bool:=match ops[i]? with
 |some o=>isWO c ops.toList (mSlots ops.toList) o
 |none=>false
def isMA (ops:Array Oper) (i:Nat):Bool:=match ops[i]? with
 |some o=>isMkO o
 |none=>false
theorem allL_of {α:Type}{p:α→Bool}:∀{l:List α},(∀x∈l,p x=true)→allL l p=true
 |[],_=>rfl
 |x::l,hh=>by
  show (match p x with |true=>allL l p |false=>false)=true
  rw[hh x (by simp)]
  exact allL_of fun y hy=>hh y (by simp[hy])
theorem mkMakeSlice_sh {ti:TI}{te:Option TI}{et:TypeId}{v1 v2:AV}{n:Nat}{t:TypeId}{l:List AV}{s:Sh}(e4:idx v1=some n)(he:mkMakeSlice ti te et v1 v2=.mk t l s):s.ok:=by
 unfold mkMakeSlice at he
 split at he
 ·split at he
  ·split at he
   ·rw[e4]at he
    simp only at he
    split at he
    ·split at he
     ·rename_i hb1
      split at he
      ·split at he
       ·simp only[fN_eq]at he
        injection he with _ _ q3
        subst q3
        exact Nat.le_of_ble_eq_true hb1
       ·cases he
      ·cases he
     ·cases he
    ·cases he
   ·cases he
  ·cases he
 ·cases he
theorem pairX_spec {ms:List Nat}{i j:Nat}{li:List Tmp}{wi wj mj:Bool}{di dj:Option Tmp}(hp:pairX ms i j li wi wj mj di dj=true)(hne:i≠j):
  (wi=true→wj=true→ordX ms i j=true)∧(mj=true→wi=true→j<i→befM ms j i=true)∧(∀d,dj=some d→(d∈li∨di=some d)→ordX ms i j=true)∧(mj=true→∀d,dj=some d→d∈li→wi=true∧j<i)∧(mj=true→∀d,dj=some d→di≠some d):=by
 unfold pairX at hp
 cases hb:Nat.beq i j with
 |true=>exact absurd (Nat.eq_of_beq_eq_true hb) hne
 |false=>
 rw[hb]at hp
 simp only at hp
 cases h1:condB (andB wi wj) (ordX ms i j) with
 |false=>rw[h1]at hp;cases hp
 |true=>
 rw[h1]at hp
 simp only at hp
 cases h2:condB (andB mj (andB wi (Nat.ble (Nat.succ j) i))) (befM ms j i) with
 |false=>rw[h2]at hp;cases hp
 |true=>
 rw[h2]at hp
 simp only at hp
 refine⟨fun e1 e2=>condB_ok h1 (by rw[e1];exact e2),fun e1 e2 e3=>condB_ok h2 (by rw[e1,e2];exact Nat.ble_eq_true_of_le e3),?_,?_,?_⟩
 ·intro d e1 e2
  rw[e1]at hp
  simp only at hp
  cases h3:condB (memN d (li++di.toList)) (ordX ms i j) with
  |false=>rw[h3]at hp;cases hp
  |true=>
   refine condB_ok h3 (memN_spec ?_)
   rw[List.mem_append]
   rcases e2 with e2 |e2
   ·exact .inl e2
   ·rw[e2];exact .inr (by simp)
 ·intro e0 d e1 e2
  rw[e1]at hp
  simp only at hp
  cases h3:condB (memN d (li++di.toList)) (ordX ms i j) with
  |false=>rw[h3]at hp;cases hp
  |true=>
   rw[h3,e0]at hp
   simp only at hp
   cases h4:condB (memN d li) (andB wi (Nat.ble (Nat.succ j) i)) with
   |false=>rw[h4]at hp;cases hp
   |true=>
    obtain⟨r1,r2⟩:=andB_ok (condB_ok h4 (memN_spec e2))
    exact⟨r1,Nat.le_of_ble_eq_true r2⟩
 ·intro e0 d e1 e2
  rw[e1]at hp
  simp only at hp
  cases h3:condB (memN d (li++di.toList)) (ordX ms i j) with
  |false=>rw[h3]at hp;cases hp
  |true=>
   rw[h3,e0]at hp
   simp only at hp
   cases h4:condB (memN d li) (andB wi (Nat.ble (Nat.succ j) i)) with
   |false=>rw[h4]at hp;cases hp
   |true=>
    rw[h4]at hp
    simp only at hp
    have:memN d di.toList=true:=memN_spec (by rw[e2];simp)
    rw[this]at hp
    cases hp
theorem pairX_self {ms:List Nat}{i:Nat}{li:List Tmp}{wi wj:Bool}{di dj:Option Tmp}(hp:pairX ms i i li wi wj true di dj=true):∀d,dj=some d→d ∉ li:=by
 intro d e1 e2
 unfold pairX at hp
 rw[show Nat.beq i i=true from Nat.beq_refl i,e1]at hp
 simp only at hp
 rw[memN_spec e2]at hp
 cases hp
theorem ordX_spec {ms:List Nat}{i j:Nat}(hne:i≠j)(ho:ordX ms i j=true):(j<i→befM ms j i=true)∧(i<j→befM ms i j=true):=by
 unfold ordX at ho
 cases hb:Nat.ble (Nat.succ j) i with
 |true=>
  rw[hb]at ho
  have:=Nat.le_of_ble_eq_true hb
  exact⟨fun _=>ho,fun h2=>by omega⟩
 |false=>
  rw[hb]at ho
  have:¬j<i:=fun hh=>by rw[show Nat.ble (Nat.succ j) i=true from Nat.ble_eq_true_of_le hh]at hb;cases hb
  exact⟨fun h2=>absurd h2 this,fun _=>ho⟩
theorem isMkO_dst {o:Oper}(hh:isMkO o=true):o.guard=none∧(∃d,o.dst=some d)∧∀cl,o.op≠.defer cl:=by
 unfold isMkO at hh
 cases hg:o.guard with
 |some _=>rw[hg]at hh;cases hh
 |none=>
  rw[hg]at hh
  simp only at hh
  cases hd:o.dst with
  |none=>rw[hd]at hh;cases hh
  |some d=>
   rw[hd]at hh
   simp only at hh
   exact⟨rfl,⟨d,rfl⟩,fun cl e=>by rw[e]at hh;cases hh⟩
theorem isMkO_W {o:Oper}(hh:isMkO o=true):callOf o.op=none∧isDefer o.op=false:=by
 unfold isMkO at hh
 cases hg:o.guard with
 |some _=>rw[hg]at hh;cases hh
 |none=>
  rw[hg]at hh
  simp only at hh
  cases hd:o.dst with
  |none=>rw[hd]at hh;cases hh
  |some d=>
   rw[hd]at hh
   simp only at hh
   generalize o.op=op at hh
   cases op <;> first |exact⟨rfl,rfl⟩ |cases hh
theorem opX_mk {ca:Ca}{ya:Ya}{ops:List Oper}{o:Oper}(hh:isMkO o=true){t:TypeId}{l:List AV}{s:Sh}(he:mkOf c o.op tm=.mk t l s):opX c ca ya ops o tm h nx=some (s.val nx,h.put nx (some (blkM t l)),nx+1):=by
 obtain⟨h1,_,_⟩:=isMkO_dst hh
 obtain⟨h2,h3⟩:=isMkO_W hh
 have hw:wantA ops tm o=some true:=by unfold wantA;rw[h1]
 unfold opX
 rw[hw]
 simp only[h2,h3]
 rw[mkOf_plain he]
theorem OpM_of (hc:CxOk P c){r:Option Nat}{ops:Array Oper}{o:Oper}(hh:isMkO o=true){t:TypeId}{l:List AV}{s:Sh}(he:mkOf c o.op tm=.mk t l s):s.ok∧OpM P c r ops o t l s (rst (looks ops.toList o) tm):=by
 obtain⟨h1,⟨d,h2⟩,h3⟩:=isMkO_dst hh
 rw[mkOf_sees o.op (tm':=rst (looks ops.toList o) tm) fun t ht=>by
  rw[rst_get,if_pos]
  unfold looks
  rw[List.mem_append]
  exact .inl (List.mem_filterMap.2 ⟨.tmp t,ht,rfl⟩)]at he
 refine⟨?_,fun σ h0 n0 a w hk ht Q K hK=>?_⟩
 ·cases hm:o.op with
  |alloc e=>
   rw[hm]at he
   obtain⟨ti,e1,e2⟩:=bM_mk he
   cases ti with
   |mk d size bytes zero fs=>
    cases zero with
    |none=>cases e2
    |some z=>injection e2 with q1 q2 q3;subst q3;trivial
  |makeSlice t' l' cp=>
   rw[hm]at he
   obtain⟨ti,e1,he⟩:=bM_mk he
   obtain⟨v1,e2,he⟩:=bM_mk he
   obtain⟨v2,e3,he⟩:=bM_mk he
   obtain⟨n,e4,he⟩:=bM_mk he
   cases hn:Nat.beq n 0 with
   |true=>rw[hn]at he;cases he
   |false=>
    rw[hn]at he
    exact mkMakeSlice_sh e4 he
  |_=>rw[hm]at he;cases he
 ·rw[show Region.wanted o (yielded ops a.tmps)=true by unfold Region.wanted;rw[h1],if_pos rfl]
  have hp:=mkOf_ok (P:=P) (w:=w) hc (a:=a) (fun e=>evO_ok hk ht e) o
  rw[he]at hp
  obtain⟨_,L',h5,h6⟩:=hp
  refine upon_fence h3 ?_
  rw[h6]
  exact hK L' h5
theorem edM_ok (hm:P.follows .mixedOrders=true)(hc:CxOk P c){ca:Ca}(hca:CaOk P c ca){ya:Ya}(hya:YaOk P c ya):EdOk P c (edM c ca ya):=by
 intro sz ops tm h nx tm' h' nx' he inr id ds rr hi σ a w hk st
 simp only[AS.h,AS.nx,AS.tm,AS.ds]at hk st
 unfold edM at he
 cases hs:statX c ops.toList (mAcc ops.toList []) (mSlots ops.toList) with
 |false=>rw[hs]at he;cases he
 |true=>
  rw[hs]at he
  simp only at he
  cases hf:stx c ca ya sz ops.toList tm h nx ops.toList.length with
  |none=>rw[hf]at he;cases he
  |some s=>
   obtain⟨tmF,hF,nF⟩:=s
   rw[hf]at he
   simp only at he
   cases hd:dynX c ca ya sz ops.toList tm h nx (mAcc ops.toList []) (mSlots ops.toList) with
   |false=>rw[hd]at he;cases he
   |true=>
    rw[hd]at he
    injection he with he1 he2 he3
    subst he1
    subst he2
    subst he3
    rw[Array.length_toList]at hf
    have hmask:MaskOk ops (mAcc ops.toList []):=mAcc_ok ops.toList [] (fun j m hm=>by simp at hm) fun j=>by simp
    have hst:∀i oi,ops[i]?=some oi→(∀e∈oi.after.toList,Region.binds .any e=true→e.on<i)∧∀j oj,ops[j]?=some oj→pairX (mAcc ops.toList []) i j (looks ops.toList oi) (isWO c ops.toList (mSlots ops.toList) oi) (isWO c ops.toList (mSlots ops.toList) oj) (isMkO oj) oi.dst oj.dst=true:=by
     intro i oi hi
     have hlt:i<ops.size:=(Array.getElem?_eq_some_iff.1 hi).1
     have h1:=allL_spec hs i (by simp[upTo,hlt])
     simp only[Array.getElem?_toList,hi]at h1
     cases hb:allL oi.after.toList (fun e=>match Region.binds .any e with |true=>Nat.ble (Nat.succ e.on) i |false=>true) with
     |false=>rw[hb]at h1;cases h1
     |true=>
      rw[hb]at h1
      refine⟨fun e he hbind=>?_,fun j oj hj=>?_⟩
      ·have:=allL_spec hb e he
       simp only[hbind]at this
       exact Nat.le_of_ble_eq_true this
      ·have hjlt:j<ops.size:=(Array.getElem?_eq_some_iff.1 hj).1
       have:=allL_spec h1 j (by simp[upTo,hjlt])
       simpa only[Array.getElem?_toList,hj]using this
    have hat:∀i,i≤ops.size→∃s,stx c ca ya sz ops.toList tm h nx i=some s:=fun i hi=>stx_le (ops.size-i) i (by rw[Nat.add_sub_cancel' hi];exact hf)
    have hop:∀i o,ops[i]?=some o→∃tm1 h1 n1 v h2 n2,stx c ca ya sz ops.toList tm h nx i=some (tm1,h1,n1)∧opX c ca ya ops.toList o tm1 h1 n1=some (v,h2,n2)∧(∀d,o.dst=some d→d<sz)∧stx c ca ya sz ops.toList tm h nx (i+1)=some ((match o.dst with |none=>tm1 |some d=>tm1.put d (some v)),h2,n2)∧valX c ca ya sz ops tm h nx i=v∧stxD c ca ya sz ops tm h nx i=(tm1,h1,n1)∧stxD c ca ya sz ops tm h nx (i+1)=((match o.dst with |none=>tm1 |some d=>tm1.put d (some v)),h2,n2):=by
     intro i o ho
     have hlt:i<ops.size:=(Array.getElem?_eq_some_iff.1 ho).1
     obtain⟨s,hs⟩:=hat (i+1) hlt
     obtain⟨tm1,h1,n1,o',v,h2,n2,e1,e2,e3,e4,e5⟩:=stx_succ hs
     have:o'=o:=by
      rw[Array.getElem?_toList,ho]at e2
      cases e2
      rfl
     subst this
     have hs2:stx c ca ya sz ops.toList tm h nx (i+1)=some ((match o'.dst with |none=>tm1 |some d=>tm1.put d (some v)),h2,n2):=by rw[hs];exact congrArg some e5
     exact⟨tm1,h1,n1,v,h2,n2,e1,e3,e4,hs2,by unfold valX;rw[e1];simp only;rw[ho];simp only;rw[e3],by unfold stxD;rw[e1];rfl,by unfold stxD;rw[hs2];rfl⟩
    have hWA:∀{i o},ops[i]?=some o→isWA' c ops i=isWO c ops.toList (mSlots ops.toList) o:=fun {i o} ho=>by unfold isWA';rw[ho]
    have hMA:∀{i o},ops[i]?=some o→isMA ops i=isMkO o:=fun {i o} ho=>by unfold isMA;rw[ho]
    have hget:∀{i},i<ops.size→∃o,ops[i]?=some o:=fun {i} hi=>⟨_,Array.getElem?_eq_getElem hi⟩
    have hMsz:∀{i},isMA ops i=true→∃o,ops[i]?=some o∧isMkO o=true:=by
     intro i hh
     unfold isMA at hh
     cases ho:ops[i]? with
     |none=>rw[ho]at hh;cases hh
     |some o=>rw[ho]at hh;exact⟨o,rfl,hh⟩
    have hS0:stxD c ca ya sz ops tm h nx 0=(tm,h,nx):=rfl
    have hSn:stxD c ca ya sz ops tm h nx ops.size=(tmF,hF,nF):=by unfold stxD;rw[hf];rfl
    have key:DrM P c rr sz ops (stxD c ca ya sz ops tm h nx) (valX c ca ya sz ops tm h nx) (isWA' c ops) (isMA ops) (befM (mAcc ops.toList [])) (fun i=>(mkAt c ca ya sz ops tm h nx i).t) (fun i=>(mkAt c ca ya sz ops tm h nx i).l) (fun i=>(mkAt c ca ya sz ops tm h nx i).s):=by
     refine⟨?back,?bef,?tmps,?chain,?mkb,?disj,?step,?slots,?keep,?mkr,?mlook,?mdst,?dyn⟩
     case step=>
      intro i o ho _
      obtain⟨tm1,h1,n1,v,h2,n2,e1,e3,e4,e5,e6,e7,e8⟩:=hop i o ho
      rw[e6,e7,e8]
      refine opX_ok hc hca hya ?_
      rw[← e3]
      exact opX_sees fun t ht=>by rw[rst_get,if_pos ht]
     case slots=>
      intro i o ho
      obtain⟨tm1,h1,n1,v,h2,n2,e1,e3,e4,e5,e6,e7,e8⟩:=hop i o ho
      rw[e6,e7,e8]
      exact⟨e4,rfl⟩
     case keep=>
      intro i hlt hw hmk
      obtain⟨o,ho⟩:=hget hlt
      obtain⟨tm1,h1,n1,v,h2,n2,e1,e3,e4,e5,e6,e7,e8⟩:=hop i o ho
      rw[hWA ho]at hw
      rw[hMA ho]at hmk
      obtain⟨k1,k2⟩:=opX_keeps (isWO_X hw hmk) e3
      rw[e7,e8,k1,k2]
     case mkr=>
      intro i o ho hmk
      rw[hMA ho]at hmk
      obtain⟨tm1,h1,n1,v,h2,n2,e1,e3,e4,e5,e6,e7,e8⟩:=hop i o ho
      have hilt:i<ops.size:=(Array.getElem?_eq_some_iff.1 ho).1
      have hd1:=allL_spec hd i (by simp[upTo,hilt])
      simp only[Array.getElem?_toList,ho,hmk,e1]at hd1
      unfold mkX at hd1
      simp only at hd1
      have hat':mkAt c ca ya sz ops tm h nx i=mkOf c o.op tm1:=by unfold mkAt;rw[e1];simp only;rw[ho]
      simp only[hat']
      cases hmo:mkOf c o.op tm1 with
      |fail=>rw[hmo]at hd1;cases hd1
      |mk t l s=>
       have e9:=opX_mk (ca:=ca) (ya:=ya) (ops:=ops.toList) (h:=h1) (nx:=n1) hmk hmo
       rw[e9]at e3
       cases e3
       rw[e6,e7,e8]
       obtain⟨q1,q2⟩:=OpM_of (r:=rr) hc hmk hmo (ops:=ops)
       exact⟨(isMkO_dst hmk).2.1,q1,rfl,rfl,q2⟩
     case disj=>
      intro i hmk
      obtain⟨o,ho,hmk⟩:=hMsz hmk
      rw[hWA ho,isWO_mk hmk]
     case back=>
      intro i hi k hk'
      have ho:ops[i]?=some ops[i]:=Array.getElem?_eq_getElem hi
      unfold dir at hk'
      rw[ho]at hk'
      simp only[Option.map_some,Option.getD_some,Array.any_eq_true']at hk'
      obtain⟨e,he,hb⟩:=hk'
      rw[Bool.and_eq_true]at hb
      have:=(hst i _ ho).1 e (by simpa using he) hb.1
      have hk2:e.on=k:=by simpa using hb.2
      omega
     case bef=>
      intro i j hb l hl hdeps
      unfold befM at hb
      rw[tb_eq]at hb
      cases hm2:(mAcc ops.toList [])[j]? with
      |none=>simp[List.getD,hm2]at hb
      |some m=>
       have:(mAcc ops.toList []).getD j 0=m:=by simp[List.getD,hm2]
       rw[this]at hb
       exact hmask j m hm2 i hb l hl hdeps
     case tmps=>
      intro i j o p d hi hj hne hpd hlook
      exact ordX_spec hne ((pairX_spec ((hst i o hi).2 j p hj) hne).2.2.1 d hpd hlook)
     case chain=>
      intro i j hlt hjl hwo hwp
      obtain⟨o,ho⟩:=hget (show i<ops.size by omega)
      obtain⟨p,hp⟩:=hget hjl
      rw[hWA ho]at hwo
      rw[hWA hp]at hwp
      exact(ordX_spec (by omega) ((pairX_spec ((hst i o ho).2 j p hp) (by omega)).1 hwo hwp)).2 hlt
     case mkb=>
      intro k j hlt hjl hmk hw
      obtain⟨p,hp⟩:=hget hjl
      obtain⟨o,ho,hmk⟩:=hMsz hmk
      rw[hWA hp]at hw
      exact(pairX_spec ((hst j p hp).2 k o ho) (by omega)).2.1 hmk hw hlt
     case mlook=>
      intro i k o p d hi hk' hmk hpd hlook
      rw[hMA hk']at hmk
      by_cases hne:i=k
      ·subst hne
       rw[hi]at hk'
       cases hk'
       have hps:=(hst i o hi).2 i o hi
       rw[hmk]at hps
       exact absurd hlook (pairX_self hps d hpd)
      ·rw[hWA hi]
       exact(pairX_spec ((hst i o hi).2 k p hk') hne).2.2.2.1 hmk d hpd hlook
     case mdst=>
      intro i k o p d hi hk' hmk hpd hne
      rw[hMA hk']at hmk
      exact(pairX_spec ((hst i o hi).2 k p hk') hne).2.2.2.2 hmk d hpd
     case dyn=>
      intro i o hi hnw0 hnm0 p hp hp00 hvalid0
      have hnw:isWO c ops.toList (mSlots ops.toList) o=false:=by rw[← hWA hi];exact hnw0
      have hnm:isMkO o=false:=by rw[← hMA hi];exact hnm0
      obtain⟨tm1,h1,n1,v,h2,n2,hsti,hopi,e4,e5,e6,e7,e8⟩:=hop i o hi
      obtain⟨q,hstp⟩:=hat p hp
      have hp0:p=0∨∃o',ops[p-1]?=some o'∧isWO c ops.toList (mSlots ops.toList) o'=true:=by
       rcases hp00 with e |e
       ·exact .inl e
       ·refine .inr ?_
        unfold isWA' at e
        cases ho':ops[p-1]? with
        |none=>rw[ho']at e;cases e
        |some o'=>rw[ho']at e;exact⟨o',rfl,e⟩
      have hvalid:∀j o',ops[j]?=some o'→isWO c ops.toList (mSlots ops.toList) o'=true→(befM (mAcc ops.toList []) j i=true→j<p)∧(befM (mAcc ops.toList []) i j=true→p≤j):=fun j o' hj hw=>hvalid0 j (Array.getElem?_eq_some_iff.1 hj).1 (by rw[hWA hj];exact hw)
      have hSp:stxD c ca ya sz ops tm h nx p=q:=by unfold stxD;rw[hstp];rfl
      rw[e6,e7,hSp]
      have hilt:i<ops.size:=(Array.getElem?_eq_some_iff.1 hi).1
      have hd1:=allL_spec hd i (by simp[upTo,hilt])
      simp only[Array.getElem?_toList,hi,hnw,hnm]at hd1
      have hdat:dynXAt c ca ya sz ops.toList tm h nx (mAcc ops.toList []) (mSlots ops.toList) i o p=true:=by
       cases hd0:dynXAt c ca ya sz ops.toList tm h nx (mAcc ops.toList []) (mSlots ops.toList) i o 0 with
       |false=>rw[hd0]at hd1;cases hd1
       |true=>
        rw[hd0]at hd1
        rcases hp0 with hp0 |⟨o',ho',hw'⟩
        ·subst hp0;exact hd0
        ·cases p with
         |zero=>exact hd0
         |succ p=>
          have ho2:ops[p]?=some o':=by simpa using ho'
          have:=allL_spec hd1 p (by simp[upTo];omega)
          simpa only[Array.getElem?_toList,ho2,hw']using this
      unfold dynXAt at hdat
      have hposk:posX c ops.toList (mAcc ops.toList []) (mSlots ops.toList) i p=true:=by
       refine allL_of fun j _=>?_
       rw[Array.getElem?_toList]
       cases hj:ops[j]? with
       |none=>rfl
       |some oj=>
        simp only
        cases hw:isWO c ops.toList (mSlots ops.toList) oj with
        |false=>rfl
        |true=>
         simp only
         obtain⟨v1,v2⟩:=hvalid j oj hj hw
         cases hb:Nat.ble (Nat.succ j) p with
         |true=>
          have:=Nat.le_of_ble_eq_true hb
          simp only
          cases hbf:befM (mAcc ops.toList []) i j with
          |false=>rfl
          |true=>have:=v2 hbf;omega
         |false=>
          have hnl:¬j<p:=fun hh=>by rw[show Nat.ble (Nat.succ j) p=true from Nat.ble_eq_true_of_le hh]at hb;cases hb
          simp only
          cases hbf:befM (mAcc ops.toList []) j i with
          |false=>rfl
          |true=>exact absurd (v1 hbf) hnl
      rw[hposk,hsti,hstp]at hdat
      obtain⟨q1,q2,q3⟩:=q
      simp only at hdat ⊢
      rw[hopi]at hdat
      cases ho2:opX c ca ya ops.toList o tm1 q2 q3 with
      |none=>rw[ho2]at hdat;cases hdat
      |some r=>
       obtain⟨u,g,ny⟩:=r
       rw[ho2]at hdat
       have:=avEq_ok u v hdat
       subst this
       obtain⟨k1,k2⟩:=opX_keeps (isWO_X hnw hnm) ho2
       subst k1
       subst k2
       refine opX_ok hc hca hya ?_
       rw[← ho2]
       exact opX_sees fun t ht=>by rw[rst_get,if_pos ht]
    have hk':Ok c.G σ (stxD c ca ya sz ops tm h nx 0).2.1 (stxD c ca ya sz ops tm h nx 0).2.2 w:=hk
    have st':St σ (stxD c ca ya sz ops tm h nx 0).1 a sz ds:=st
    have fin:=drawnM_ok hm key hk' st' id (Q:=QE (.norm tmF hF nF ds)) (by rw[hSn];exact⟨rfl,rfl⟩)
    exact fin
def edB (c:Cx)(ca:Ca)(ya:Ya) (sz:Nat)(ops:Array Oper)(tm:Tr AV)(h:Tr ABlk) (nx:Nat):OS:=match edW c ca ya sz ops tm h nx with
 |.ok tm h nx=>.ok tm h nx
 |.fail=>edM c ca ya sz ops tm h nx
theorem edB_ok (hm:P.follows .mixedOrders=true)(hc:CxOk P c){ca:Ca}(hca:CaOk P c ca){ya:Ya}(hya:YaOk P c ya):EdOk P c (edB c ca ya):=by
 intro sz ops tm h nx tm' h' nx' he
 unfold edB at he
 cases h1:edW c ca ya sz ops tm h nx with
 |ok a b d=>
  rw[h1]at he
  cases he
  exact edW_ok hm hc hca hya sz ops tm h nx _ _ _ h1
 |fail=>
  rw[h1]at he
  exact edM_ok hm hc hca hya sz ops tm h nx _ _ _ he
end
end Go.Ev
namespace Go.Ev
variable {P : Program} {c : Cx} {σ : Sg} {w : World}
noncomputable section
def eqFs (P:Program)(l:List Field):Option (List (Nat×TypeDesc)):=
 List.rec (motive := fun _ => Option (List (Nat × TypeDesc))) (some []) (fun f _ ih => match f.name == "_" with
  |true=>none
  |false=>match P.underlying f.type with
   |some d=>match scal d with
    |true=>match ih with
     |some l=>some ((f.offset,d)::l)
     |none=>none
    |false=>none
   |none=>none) l
def eqOf (P:Program)(t:TypeId):Option (List (Nat×TypeDesc)):=
 match P.underlying t with
 |some (.struct fields)=>match P.eqGuardType P.depth t with
  |true=>none
  |false=>match P.stoodInHeld t with
   |true=>none
   |false=>eqFs P fields.toList
 |_=>none
theorem eqFs_ok {xs ys:List AV}{XS YS:List Value}(hx:RelL σ xs XS)(hy:RelL σ ys YS) (n:Nat):∀(l:List Field)(ks:List (Nat×TypeDesc)),eqFs P l=some ks→∀b,flatEq ks xs ys=some b→
  (Op.eqFields (n+1) XS.toArray YS.toArray l).run P w=.ok b w
 |[],ks,hk,b,hb=>by cases hk;cases hb;rfl
 |f::l,ks,hk,b,hb=>by
  change (match f.name == "_" with
   |true=>none
   |false=>match P.underlying f.type with
    |some d=>match scal d with
     |true=>match eqFs P l with
      |some l=>some ((f.offset,d)::l)
      |none=>none
     |false=>none
    |none=>none)=some ks at hk
  cases hn : f.name == "_" with
  |true=>rw[hn]at hk;cases hk
  |false=>
   rw[hn]at hk
   simp only at hk
   cases hd:P.underlying f.type with
   |none=>rw[hd]at hk;cases hk
   |some d=>
    rw[hd]at hk
    simp only at hk
    cases hs:scal d with
    |false=>rw[hs]at hk;cases hk
    |true=>
     rw[hs]at hk
     simp only at hk
     cases hr:eqFs P l with
     |none=>rw[hr]at hk;cases hk
     |some ks'=>
      rw[hr]at hk
      cases hk
      change (match xs[f.offset]?,ys[f.offset]? with
       |some a,some b=>match scalEq d a b with
        |some true=>flatEq ks' xs ys
        |some false=>match flatEq ks' xs ys with
         |some _=>some false
         |none=>none
        |none=>none
       |_,_=>none)=some b at hb
      cases hxa:xs[f.offset]? with
      |none=>rw[hxa]at hb;cases hb
      |some xa=>
       rw[hxa]at hb
       cases hya:ys[f.offset]? with
       |none=>rw[hya]at hb;cases hb
       |some ya=>
        rw[hya]at hb
        simp only at hb
        obtain⟨XA,e1,r1⟩:=hx.get hxa
        obtain⟨YA,e2,r2⟩:=hy.get hya
        have hagg:isA d=false:=by cases d <;> first |rfl |(cases hs;done)
        have hpx:(part f.type XS.toArray f.offset).run P w=.ok XA w:=by simp[part,run_agg hd,hagg,e1]
        have hpy:(part f.type YS.toArray f.offset).run P w=.ok YA w:=by simp[part,run_agg hd,hagg,e2]
        have hne : ¬ f.name = "_" := fun e => by rw [e] at hn; simp at hn
        cases hq:scalEq d xa ya with
        |none=>rw[hq]at hb;cases hb
        |some q=>
         rw[hq]at hb
         have heq:=(scalEq_ok (P:=P) r1 r2 hq).2 n f.type w hd
         cases q with
         |true=>
          have ih:=eqFs_ok hx hy n l ks' hr b hb
          simp[Op.eqFields,hne,hpx,hpy,heq,ih]
         |false=>
          simp only at hb
          cases hf:flatEq ks' xs ys with
          |none=>rw[hf]at hb;cases hb
          |some _=>
           rw[hf]at hb
           cases hb
           simp[Op.eqFields,hne,hpx,hpy,heq]
theorem eqOf_ok (t:TypeId):EqOk P t (eqOf P t):=by
 unfold eqOf
 cases hu:P.underlying t with
 |none=>trivial
 |some d=>
  cases d <;> try trivial
  rename_i fields
  simp only
  cases hg:P.eqGuardType P.depth t with
  |true=>trivial
  |false=>
   simp only
   cases hp:P.stoodInHeld t with
   |true=>trivial
   |false=>
    simp only
    cases hks:eqFs P fields.toList with
    |none=>trivial
    |some ks=>
     refine⟨hg,fun σ xs ys XS YS b hx hy hb w=>?_⟩
     have hfo:P.fieldsOf t=fields:=by unfold Program.fieldsOf;rw[hu]
     show (Op.equalIn (9998+1+1) t (.agg XS.toArray) (.agg YS.toArray)).run P w=_
     rw[run_equalIn_struct w (9998+1) t _ _ (by rw[hfo];exact hu) hp,hfo]
     exact eqFs_ok hx hy 9998 fields.toList ks hks b hb
def eqTab (P:Program):List Nat→Tr (List (Nat×TypeDesc))
 |[]=>.nil
 |t::l=>(eqTab P l).put t (eqOf P t)
theorem eqTab_ok:∀(l:List Nat)(t:TypeId),EqOk P t ((eqTab P l).get t)
 |[],_=>trivial
 |u::l,t=>by
  rw[eqTab,Tr.get_put]
  split
  ·rename_i h
   rw[h]
   exact eqOf_ok u
  ·exact eqTab_ok l t
end
end Go.Ev
