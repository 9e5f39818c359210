/- Texts W2 W3 W4. -/
import Derived.Maps.RangeRun
import Derived.Test.YtjngkeajenankaaGreatDoorP05
set_option linter.unusedSimpArgs false
set_option linter.unusedVariables false
set_option maxRecDepth 100000
namespace Go.Ev
noncomputable section
variable {P : Program} {c : Cx} {σ τ υ : Sg} {h g f : Tr ABlk} {nx ny nz sz : Nat} {ds : List DE} {w x y : World} {tm : Tr AV} {a : Act}
def wantA (ops:List Oper)(tm:Tr AV)(o:Oper):Option Bool:=
 match o.guard with
 |none=>some true
 |some (j,want)=>match ops[j]? with
  |none=>some false
  |some oj=>match oj.dst with
   |none=>some false
   |some d=>match tm.get d with
    |some (.bool b)=>some (match b with |true=>want |false=>!want)
    |some (.tup _)=>some false
    |_=>none
theorem Rel.bool {b:Bool}{V:Value}(hr:Rel σ (.bool b) V):V=.bool b:=by simpa only[Rel]using hr
theorem wantA_ok {ops:Array Oper}(ht:TmOk σ tm a){o:Oper}{b:Bool}(hw:wantA ops.toList tm o=some b):Region.wanted o (yielded ops a.tmps)=b:=by
 unfold wantA at hw
 unfold Region.wanted
 cases hg:o.guard with
 |none=>rw[hg]at hw;cases hw;rfl
 |some p=>
  obtain⟨j,want⟩:=p
  rw[hg]at hw
  simp only at hw ⊢
  rw[Array.getElem?_toList]at hw
  unfold yielded
  cases hj:ops[j]? with
  |none=>
   rw[hj]at hw
   cases hw
   simp
  |some oj=>
   rw[hj]at hw
   simp only[Option.bind_some]at hw ⊢
   cases hd:oj.dst with
   |none=>
    rw[hd]at hw
    cases hw
    simp
   |some d=>
    rw[hd]at hw
    simp only[Option.bind_some]at hw ⊢
    cases hv:tm.get d with
    |none=>rw[hv]at hw;cases hw
    |some v=>
     rw[hv]at hw
     have hr:=ht d v hv
     cases v <;> try (cases hw;done)
     ·rename_i q
      cases hw
      have hb:=hr.bool
      have:a.tmps[d]?=some (.bool q):=by
       cases ht':a.tmps[d]? with
       |none=>rw[Array.getD_eq_getD_getElem?,ht']at hb;cases hb
       |some V=>rw[Array.getD_eq_getD_getElem?,ht']at hb;simp at hb;rw[hb]
      rw[this]
      cases q <;> cases want <;> rfl
     ·cases hw
      simp only[Rel]at hr
      obtain⟨L,e,_⟩:=hr
      cases ht':a.tmps[d]? with
      |none=>simp
      |some V=>
       rw[Array.getD_eq_getD_getElem?,ht']at e
       simp at e
       subst e
       simp
def callOf (op:Op):Option (Operand×Array Operand):=
 match op with
 |.call cl=>match cl.callee with
  |.value f=>some (f,cl.args)
  |_=>none
 |_=>none
def putS (sz:Nat)(d:Option Tmp)(v:AV)(s:AS)(K:AS→Prop):Prop:=
 match d with
 |none=>K s
 |some d=>d<sz∧K (match s with |.mk tm h nx ds=>.mk (tm.put d (some v)) h nx ds)
theorem putS_ok {d:Option Tmp}{v:AV}{s:AS}{K:AS→Prop}(hp:putS sz d v s K){τ:Sg}(ht:St τ s.tm a sz s.ds){V:Value}(hv:Rel τ v V):∃tm',K (.mk tm' s.h s.nx s.ds)∧St τ tm' (a.put d V) sz s.ds:=by
 cases s with
 |mk tm h nx ds=>
 cases d with
 |none=>exact⟨tm,hp,ht⟩
 |some d=>exact⟨_,hp.2,ht.put hp.1 hv⟩
theorem rel_undef:Rel σ (.tup []) undef:=by
 simp only[Rel]
 exact⟨[],rfl,by simp only[RelL]⟩
def afterP (sz:Nat)(d:Option Tmp)(tm:Tr AV)(ds:List DE)(K:AS→Prop)(r:R):Prop:=
 match r with
 |.val v h nx=>putS sz d v (.mk tm h nx ds) K
 |.unit h nx=>putS sz d (.tup []) (.mk tm h nx ds) K
 |.fail=>False
def callP (P:Program)(c:Cx) (sz:Nat)(d:Option Tmp)(tm:Tr AV)(h:Tr ABlk) (nx:Nat)(ds:List DE)(K:AS→Prop)(f:Option AV)(l:Option (List AV)):Prop:=
 match f with
 |some (.func fid first cap)=>match l with
  |some l=>ACall P c fid (first++(l++cap)) h nx fun v h nx=>putS sz d v (.mk tm h nx ds) K
  |none=>False
 |some (.yld i)=>match l with
  |some l=>AYld P c i l h nx fun v h nx=>putS sz d v (.mk tm h nx ds) K
  |none=>False
 |_=>False
def awS0 (P:Program)(c:Cx) (sz:Nat)(ops:List Oper)(o:Oper)(K:AS→Prop)(s:AS):Prop:=
 match s with
 |.mk tm h nx ds=>match wantA ops tm o with
  |none=>False
  |some false=>putS sz o.dst (.tup []) (.mk tm h nx ds) K
  |some true=>match callOf o.op with
   |some (f,args)=>callP P c sz o.dst tm h nx ds K (evO c.G tm f) (evOs c.G tm args.toList)
   |none=>afterP sz o.dst tm ds K (evPlainS c o.op tm h nx)
theorem upon_fence {o:Oper}{r:Option Nat}{a:Act}{next:Act→World→Prop}{Q:Exit→Act→World→Prop}(hd:∀cl,o.op≠.defer cl)
  (hu:o.uponIn (fence r) 0 P a next Q ((execOp a.eval o).run P w)):o.wpIn (fence r) 0 P a w next Q:=
 ⟨fun _ _=>trivial,by rw[Oper.semAt_eq _ _ _ hd];exact hu⟩
def isDefer:Op→Bool
 |.defer _=>true
 |_=>false
theorem awS0_ok (hc:CxOk P c){ops:Array Oper}{o:Oper}{K:AS→Prop}{s:AS}(hs:awS0 P c sz ops.toList o K s){r:Option Nat}(hk:Ok c.G σ s.h s.nx w)(ht:St σ s.tm a sz s.ds)(Q:Exit→Act→World→Prop)(L:Act→World→Prop)
  (hK:∀τ tm1 V w1 h1 nx1,K (.mk tm1 h1 nx1 s.ds)→Post c.G σ s.h s.nx w τ h1 nx1 w1→St τ tm1 (a.put o.dst V) sz s.ds→L (a.put o.dst V) w1):
  if Region.wanted o (yielded ops a.tmps) then o.wpIn (fence r) 0 P a w L Q else (∀f,o.about P w a.eval=some f→(fence r).fn f)∧L (a.put o.dst undef) w:=by
 cases s with
 |mk tm h nx ds=>
 simp only[AS.h,AS.nx,AS.tm,AS.ds]at hk ht hK
 unfold awS0 at hs
 simp only at hs
 cases hw:wantA ops.toList tm o with
 |none=>rw[hw]at hs;exact hs.elim
 |some b=>
  rw[wantA_ok ht.tm hw]
  rw[hw]at hs
  cases b with
  |false=>
   simp only[Bool.false_eq_true,if_false]
   obtain⟨tm',e1,e2⟩:=putS_ok (a:=a) (s:=.mk tm h nx ds) hs ht rel_undef
   exact⟨fun _ _=>trivial,hK σ tm' _ w h nx e1 (.refl hk) e2⟩
  |true=>
   simp only[if_true]
   simp only at hs
   have plain:isDefer o.op=false→afterP sz o.dst tm ds K (evPlainS c o.op tm h nx)→o.wpIn (fence r) 0 P a w L Q:=by
    intro hd0 he
    have hd:∀cl,o.op≠.defer cl:=fun cl e=>by rw[e]at hd0;cases hd0
    have hp:=evPlainS_ok hc hk ht.tm o
    cases hv:evPlainS c o.op tm h nx with
    |fail=>rw[hv]at he;exact he.elim
    |val v g ny=>
     rw[hv]at he hp
     obtain⟨V,τ,x,h1,h2,h3⟩:=hp
     obtain⟨tm',e1,e2⟩:=putS_ok (a:=a) (s:=.mk tm g ny ds) he (ht.mono h3.le) h2
     refine upon_fence hd ?_
     rw[h1]
     exact hK τ tm' _ x g ny e1 h3 e2
    |unit g ny=>
     rw[hv]at he hp
     obtain⟨τ,x,h1,h3⟩:=hp
     obtain⟨tm',e1,e2⟩:=putS_ok (a:=a) (s:=.mk tm g ny ds) he (ht.mono h3.le) rel_undef
     refine upon_fence hd ?_
     rw[h1]
     exact hK τ tm' _ x g ny e1 h3 e2
   obtain⟨dst,op,type,pos,after,guard⟩:=o
   cases op <;> try exact plain rfl hs
   case defer cl=>exact(show False from hs).elim
   rename_i cl
   obtain⟨callee,args,argTypes⟩:=cl
   cases callee <;> try exact plain rfl hs
   rename_i fo
   clear plain
   replace hs:callP P c sz dst tm h nx ds K (evO c.G tm fo) (evOs c.G tm args.toList):=hs
   unfold callP at hs
   cases hf:evO c.G tm fo with
   |none=>rw[hf]at hs;exact hs.elim
   |some fv=>
    rw[hf]at hs
    have hfv:=evO_ok hk ht.tm hf
    cases fv <;> try exact hs.elim
    case yld i=>
     cases hl:evOs c.G tm args.toList with
     |none=>rw[hl]at hs;exact hs.elim
     |some l=>
      rw[hl]at hs
      simp only at hs
      have hlr:=evOs_ok hk ht.tm hl
      simp only[Rel]at hfv
      obtain⟨lb,hlb,e1⟩:=hfv
      obtain⟨fn,tmps,assign,body,hy1,hy2⟩:=hs σ w (args.toList.map a.eval) lb hk hlr hlb
      have hex:(execOp a.eval ⟨dst,.call ⟨.value fo,args,argTypes⟩,type,pos,after,guard⟩).run P w=(Instr.yield lb (args.toList.map a.eval).toArray).run P w:=by
       have e2:execOp a.eval ⟨dst,.call ⟨.value fo,args,argTypes⟩,type,pos,after,guard⟩=(do let d ← Deferred.ofValue (a.eval fo) (args.map a.eval);invoke d.target d.args):=rfl
       rw[e2,e1]
       show (Instr.yield lb (#[]++args.map a.eval)).run P w=_
       congr 2
       apply Array.ext'
       simp
      refine upon_fence (fun _ e=>by cases e) ?_
      rw[hex,hy1]
      refine⟨fun hh=>by simp[fence,Fence.wide]at hh,round_fence (hy2.mono fun e x q=>?_)⟩
      cases e with
      |returned V=>
       obtain⟨τ,v,g,ny,q1,q2,q3⟩:=q
       obtain⟨tm',k1,k2⟩:=putS_ok (a:=a) (s:=.mk tm g ny ds) q3 (ht.mono q2.le) q1
       exact hK τ tm' _ x g ny k1 q2 k2
      |panicked ch=>exact q.elim
      |outgrown=>exact q.elim
    rename_i fid first cap
    cases hl:evOs c.G tm args.toList with
    |none=>rw[hl]at hs;exact hs.elim
    |some l=>
     rw[hl]at hs
     simp only at hs
     have hlr:=evOs_ok hk ht.tm hl
     simp only[Rel]at hfv
     obtain⟨F,C,e1,r1,r2⟩:=hfv
     have hcr:=hs σ w (F++(args.toList.map a.eval++C)) hk (r1.append (hlr.append r2))
     have hex:(execOp a.eval ⟨dst,.call ⟨.value fo,args,argTypes⟩,type,pos,after,guard⟩).run P w=(callFunc fid (F++(args.toList.map a.eval++C)).toArray).run P w:=by
      have e2:execOp a.eval ⟨dst,.call ⟨.value fo,args,argTypes⟩,type,pos,after,guard⟩=(do let d ← Deferred.ofValue (a.eval fo) (args.map a.eval);invoke d.target d.args):=rfl
      rw[e2,e1]
      show (callFunc fid (F.toArray++args.map a.eval++C.toArray)).run P w=_
      congr 2
      apply Array.ext'
      simp
     refine upon_fence (fun _ e=>by cases e) ?_
     rw[hex]
     unfold CR at hcr
     cases hrun:(callFunc fid (F++(args.toList.map a.eval++C)).toArray).run P w with
     |halt hh w'=>rw[hrun]at hcr;exact hcr.elim
     |ok nxt w'=>
      rw[hrun]at hcr
      cases nxt <;> try exact hcr.elim
      ·rename_i V
       obtain⟨τ,v,g,ny,q1,q2,q3⟩:=hcr
       obtain⟨tm',k1,k2⟩:=putS_ok (a:=a) (s:=.mk tm g ny ds) q3 (ht.mono q2.le) q1
       exact hK τ tm' _ _ g ny k1 q2 k2
      ·rename_i f' A'
       refine⟨fun hh=>by simp[fence,Fence.wide]at hh,calls_fence (Calls.mono hcr fun e x q=>?_)⟩
       cases e with
       |returned V=>
        obtain⟨τ,v,g,ny,q1,q2,q3⟩:=q
        obtain⟨tm',k1,k2⟩:=putS_ok (a:=a) (s:=.mk tm g ny ds) q3 (ht.mono q2.le) q1
        exact hK τ tm' _ x g ny k1 q2 k2
       |panicked ch=>exact q.elim
       |outgrown=>exact q.elim
def rangeP (c:Cx) (sz:Nat)(dst:Option Tmp)(t:TypeId)(x:Operand)(tm:Tr AV)(h:Tr ABlk) (nx:Nat)(ds:List DE)(K:AS→Prop):Prop:=
 ∃m es cl k e q1 q2 q3 q4,evO c.G tm x=some (.map m)∧h.get m=some (.map es cl)∧c.tt.get t=some (.mk (.map k e) q1 q2 q3 q4)∧putS sz dst (.ptr nx 0) (.mk tm (h.put nx (some (.miter m cl [] cl))) (nx+1) ds) K
def nextP (c:Cx) (sz:Nat)(dst:Option Tmp)(x:Operand)(tm:Tr AV)(h:Tr ABlk) (nx:Nat)(ds:List DE)(K:AS→Prop):Prop:=
 ∃it m since seen st es cl,evO c.G tm x=some (.ptr it 0)∧h.get it=some (.miter m since seen st)∧h.get m=some (.map es cl)∧(∀e∈es,e.2.2<since)∧since≤st∧
  ((∀e∈es,e.2.2∈seen)→putS sz dst (.tup [.bool false]) (.mk tm h nx ds) K)∧
  (∀e∈es,¬e.2.2∈seen→putS sz dst (.tup [.bool true,e.1,e.2.1]) (.mk tm (h.put it (some (.miter m since (seen++[e.2.2]) cl))) nx ds) K)
def entryP (c:Cx) (sz:Nat)(dst:Option Tmp)(x:Operand)(tm:Tr AV)(h:Tr ABlk) (nx:Nat)(ds:List DE)(K:AS→Prop):Prop:=
 ∃it m since seen es cl e,evO c.G tm x=some (.ptr it 0)∧h.get it=some (.miter m since (seen++[e.2.2]) cl)∧h.get m=some (.map es cl)∧e∈es∧(es.map (fun e=>e.2.2)).Nodup∧putS sz dst (.tup [e.1,e.2.1]) (.mk tm h nx ds) K
structure MethP (P:Program)(t:TypeId)(name:String)(f:FuncId):Prop where
 info:∃i m e,P.info? t=some i∧i.methods.find? (fun m=>m.name == name)=some m∧m.path=#[]∧m.func=some (f,true)∧P.underlying t=some (.pointer e)
def invOf (op:Op):Option (Operand×String×Array Operand):=
 match op with
 |.call cl=>match cl.callee with
  |.invoke x name=>some (x,name,cl.args)
  |_=>none
 |_=>none
def invP (P:Program)(c:Cx) (sz:Nat)(d:Option Tmp)(tm:Tr AV)(h:Tr ABlk) (nx:Nat)(ds:List DE)(K:AS→Prop)(x:Operand)(name:String)(args:List Operand):Prop:=
 ∃t v f l,evO c.G tm x=some (.iface t v)∧evOs c.G tm args=some l∧MethP P t name f∧ACall P c f (v::l) h nx fun v h nx=>putS sz d v (.mk tm h nx ds) K
def opW (P:Program)(c:Cx) (sz:Nat)(op:Op)(dst:Option Tmp)(tm:Tr AV)(h:Tr ABlk) (nx:Nat)(ds:List DE)(K:AS→Prop):Prop:=
 match op with
 |.range t x=>rangeP c sz dst t x tm h nx ds K
 |.next x b=>match b with
  |true=>False
  |false=>nextP c sz dst x tm h nx ds K
 |.entry x=>entryP c sz dst x tm h nx ds K
 |.lookup t x k ok=>afterP sz dst tm ds K (match isKeyT c t with |true=>evLookK c t ok (evO c.G tm x) (evO c.G tm k) h nx |false=>evPlainS c (.lookup t x k ok) tm h nx)
 |.mapUpdate t x k v=>afterP sz dst tm ds K (match isKeyT c t with |true=>evSetK c t (evO c.G tm x) (evO c.G tm k) (evO c.G tm v) h nx |false=>evPlainS c (.mapUpdate t x k v) tm h nx)
 |op=>match callOf op with
  |some (f,args)=>callP P c sz dst tm h nx ds K (evO c.G tm f) (evOs c.G tm args.toList)
  |none=>match invOf op with
   |some (x,name,args)=>invP P c sz dst tm h nx ds K x name args.toList
   |none=>afterP sz dst tm ds K (evPlainS c op tm h nx)
def awS (P:Program)(c:Cx) (sz:Nat)(ops:List Oper)(o:Oper)(K:AS→Prop)(s:AS):Prop:=
 match s with
 |.mk tm h nx ds=>match wantA ops tm o with
  |none=>False
  |some false=>putS sz o.dst (.tup []) (.mk tm h nx ds) K
  |some true=>opW P c sz o.op o.dst tm h nx ds K
def awO (P:Program)(c:Cx) (sz:Nat)(ops:List Oper)(K:AS→Prop):List Oper→AS→Prop
 |[]=>K
 |o::l=>awS P c sz ops o (awO P c sz ops K l)
theorem RelE.toL {σ:Sg}:∀{l:List (AV×AV×Nat)}{E:List MapEntry},RelE σ l E→E.map (·.born)=l.map (fun e=>e.2.2)∧(∀X∈E,∃e∈l,X.born=e.2.2∧Rel σ e.1 X.key∧Rel σ e.2.1 X.val)∧∀e∈l,∃X∈E,X.born=e.2.2∧Rel σ e.1 X.key∧Rel σ e.2.1 X.val
 |[],E,h=>by
  have:E=[]:=h
  subst this
  exact⟨rfl,(fun X hX=>by cases hX),(fun e he=>by cases he)⟩
 |(k,v,n)::l,E,h=>by
  obtain⟨K,V,E',e,h1,h2,h3⟩:=h
  subst e
  obtain⟨q1,q2,q3⟩:=h3.toL
  refine⟨by simp[q1],fun X hX=>?_,fun e he=>?_⟩
  ·rcases List.mem_cons.1 hX with h4 |h4
   ·subst h4;exact⟨(k,v,n),List.mem_cons_self,rfl,h1,h2⟩
   ·obtain⟨e,e1,e2⟩:=q2 X h4
    exact⟨e,List.mem_cons_of_mem _ e1,e2⟩
  ·rcases List.mem_cons.1 he with h4 |h4
   ·subst h4;exact⟨⟨K,V,n⟩,List.mem_cons_self,rfl,h1,h2⟩
   ·obtain⟨X,e1,e2⟩:=q3 e h4
    exact⟨X,List.mem_cons_of_mem _ e1,e2⟩
theorem Ok.mapB {G:Gl}(hk:Ok G σ h nx w){m es cl}(hm:h.get m=some (.map es cl)):∃b E,σ.blk m=some b∧w.heap[b]?=some (.map (List.toArray E) cl)∧RelE σ es E:=by
 obtain⟨b,o,hb,ho,hr⟩:=hk.blk m _ hm
 simp only[RelB]at hr
 obtain⟨E,e,h1⟩:=hr
 subst e
 exact⟨b,E,hb,ho,h1⟩
theorem Ok.iterB {G:Gl}(hk:Ok G σ h nx w){it m since seen st}(hm:h.get it=some (.miter m since seen st)):∃r b,σ.blk it=some r∧σ.blk m=some b∧w.heap[r]?=some (.mapIter (some b) since seen.toArray st):=by
 obtain⟨r,o,hb,ho,hr⟩:=hk.blk it _ hm
 simp only[RelB]at hr
 obtain⟨b,h1,e⟩:=hr
 subst e
 exact⟨r,b,hb,h1,ho⟩
theorem awS_ok (hc:CxOk P c){ops:Array Oper}{o:Oper}{K:AS→Prop}{s:AS}(hs:awS P c sz ops.toList o K s){r:Option Nat}(hk:Ok c.G σ s.h s.nx w)(ht:St σ s.tm a sz s.ds)(Q:Exit→Act→World→Prop)(L:Act→World→Prop)
  (hK:∀τ tm1 V w1 h1 nx1,K (.mk tm1 h1 nx1 s.ds)→Post c.G σ s.h s.nx w τ h1 nx1 w1→St τ tm1 (a.put o.dst V) sz s.ds→L (a.put o.dst V) w1):
  if Region.wanted o (yielded ops a.tmps) then o.wpIn (fence r) 0 P a w L Q else (∀f,o.about P w a.eval=some f→(fence r).fn f)∧L (a.put o.dst undef) w:=by
 cases s with
 |mk tm h nx ds=>
 have pre:(opW P c sz o.op o.dst tm h nx ds K→o.wpIn (fence r) 0 P a w L Q)→if Region.wanted o (yielded ops a.tmps) then o.wpIn (fence r) 0 P a w L Q else (∀f,o.about P w a.eval=some f→(fence r).fn f)∧L (a.put o.dst undef) w:=by
  intro hp
  simp only[AS.h,AS.nx,AS.tm,AS.ds]at hk ht hK
  unfold awS at hs
  simp only at hs
  cases hw:wantA ops.toList tm o with
  |none=>rw[hw]at hs;exact hs.elim
  |some b=>
  rw[wantA_ok ht.tm hw]
  rw[hw]at hs
  cases b with
  |false=>
   simp only[Bool.false_eq_true,if_false]
   obtain⟨tm',e1,e2⟩:=putS_ok (a:=a) (s:=.mk tm h nx ds) hs ht rel_undef
   exact⟨fun _ _=>trivial,hK σ tm' _ w h nx e1 (.refl hk) e2⟩
  |true=>
   simp only[if_true]
   exact hp hs
 simp only[AS.h,AS.nx,AS.tm,AS.ds]at hk ht hK
 obtain⟨dst,op,type,pos,after,guard⟩:=o
 cases op <;> try exact awS0_ok hc (s:=.mk tm h nx ds) hs hk ht Q L hK
 case call cl=>
  obtain⟨callee,args,argTypes⟩:=cl
  cases callee <;> try exact awS0_ok hc (s:=.mk tm h nx ds) hs hk ht Q L hK
  rename_i recv name
  refine pre fun hs=>?_
  obtain⟨t,v,f,l,e1,e2,⟨i,m,e,m1,m2,m3,m4,m5⟩,hcall⟩:=hs
  have hx:=evO_ok hk ht.tm e1
  simp only[Rel]at hx
  obtain⟨V,eX,hV⟩:=hx
  have hl:=evOs_ok hk ht.tm e2
  have hcr:=hcall σ w (V::args.toList.map a.eval) hk (by simp only[RelL];exact⟨V,_,rfl,hV,hl⟩)
  have hmeth:(method (P.types.size+Made.depth) t V name).run P w=.ok (f,V) w:=by
   rw[show P.types.size+Made.depth=(P.types.size+99)+1 from rfl,method]
   simp[typeInfo,m1,m2,m3,m4,follow,receiverAt,run_underlying m5,Place.get]
  have hex:(execOp a.eval ⟨dst,.call ⟨.invoke recv name,args,argTypes⟩,type,pos,after,guard⟩).run P w=(callFunc f (V::args.toList.map a.eval).toArray).run P w:=by
   have e2:execOp a.eval ⟨dst,.call ⟨.invoke recv name,args,argTypes⟩,type,pos,after,guard⟩=callMethod (a.eval recv) name ((#[a.eval recv]++args.map a.eval).extract 1 (#[a.eval recv]++args.map a.eval).size):=by
    show (do let d ← (pure { target:=.fn (.method name) #[],args:=#[a.eval recv]++args.map a.eval }:Sem Deferred);invoke d.target d.args)=_
    have h0:(#[a.eval recv]++args.map a.eval)[0]?=some (a.eval recv):=by simp[Array.getElem?_append]
    simp[invoke]
    rw[h0]
   rw[e2,eX]
   simp[callMethod,hmeth]
   congr 2
   apply Array.ext'
   simp
   exact List.take_of_length_le (by simp)
  refine upon_fence (fun _ e=>by cases e) ?_
  rw[hex]
  unfold CR at hcr
  cases hrun:(callFunc f (V::args.toList.map a.eval).toArray).run P w with
  |halt hh w'=>rw[hrun]at hcr;exact hcr.elim
  |ok nxt w'=>
   rw[hrun]at hcr
   cases nxt <;> try exact hcr.elim
   ·rename_i V
    obtain⟨τ,v,g,ny,q1,q2,q3⟩:=hcr
    obtain⟨tm',k1,k2⟩:=putS_ok (a:=a) (s:=.mk tm g ny ds) q3 (ht.mono q2.le) q1
    exact hK τ tm' _ _ g ny k1 q2 k2
   ·rename_i f' A'
    refine⟨fun hh=>by simp[fence,Fence.wide]at hh,calls_fence (Calls.mono hcr fun e x q=>?_)⟩
    cases e with
    |returned V=>
     obtain⟨τ,v,g,ny,q1,q2,q3⟩:=q
     obtain⟨tm',k1,k2⟩:=putS_ok (a:=a) (s:=.mk tm g ny ds) q3 (ht.mono q2.le) q1
     exact hK τ tm' _ x g ny k1 q2 k2
    |panicked ch=>exact q.elim
    |outgrown=>exact q.elim
 case lookup t x kk ok=>
  cases hkt:isKeyT c t with
  |false=>
   refine awS0_ok hc (s:=.mk tm h nx ds) ?_ hk ht Q L hK
   unfold awS opW at hs
   simp only[hkt]at hs
   exact hs
  |true=>
   refine pre fun hs=>?_
   unfold opW at hs
   simp only[hkt]at hs
   have hp:=evLookK_ok hc hk t ok (fun v e=>evO_ok hk ht.tm e) (fun v e=>evO_ok hk ht.tm e) (m:=evO c.G tm x) (k:=evO c.G tm kk) (M:=a.eval x) (K:=a.eval kk)
   refine upon_fence (fun _ e=>by cases e) ?_
   have hex:(execOp a.eval ⟨dst,.lookup t x kk ok,type,pos,after,guard⟩).run P w=((Instr.lookup t (a.eval x) (a.eval kk) ok).run P w).andThen fun v w'=>.ok (.value v) w':=by
    show (do pure (.value (← Instr.lookup t (a.eval x) (a.eval kk) ok)):Sem Next).run P w=_
    simp only[Sem.run_bind,Sem.run_pure]
   rw[hex]
   cases hv:evLookK c t ok (evO c.G tm x) (evO c.G tm kk) h nx with
   |fail=>rw[hv]at hs;exact hs.elim
   |unit g ny=>rw[hv]at hp;exact hp.elim
   |val v g ny=>
    rw[hv]at hs hp
    obtain⟨V,τ,x,h1,h2,h3⟩:=hp
    obtain⟨tm',e1,e2⟩:=putS_ok (a:=a) (s:=.mk tm g ny ds) hs (ht.mono h3.le) h2
    rw[h1]
    exact hK τ tm' _ x g ny e1 h3 e2
 case mapUpdate t x kk vv=>
  cases hkt:isKeyT c t with
  |false=>
   refine awS0_ok hc (s:=.mk tm h nx ds) ?_ hk ht Q L hK
   unfold awS opW at hs
   simp only[hkt]at hs
   exact hs
  |true=>
   refine pre fun hs=>?_
   unfold opW at hs
   simp only[hkt]at hs
   have hp:=evSetK_ok hc hk t (fun v e=>evO_ok hk ht.tm e) (fun v e=>evO_ok hk ht.tm e) (fun v e=>evO_ok hk ht.tm e) (m:=evO c.G tm x) (k:=evO c.G tm kk) (v:=evO c.G tm vv) (M:=a.eval x) (K:=a.eval kk) (V:=a.eval vv)
   refine upon_fence (fun _ e=>by cases e) ?_
   have hex:(execOp a.eval ⟨dst,.mapUpdate t x kk vv,type,pos,after,guard⟩).run P w=((Instr.mapUpdate t (a.eval x) (a.eval kk) (a.eval vv)).run P w).andThen fun _ w'=>.ok .skip w':=by
    show (do Instr.mapUpdate t (a.eval x) (a.eval kk) (a.eval vv);pure .skip:Sem Next).run P w=_
    simp only[Sem.run_bind,Sem.run_pure]
   rw[hex]
   cases hv:evSetK c t (evO c.G tm x) (evO c.G tm kk) (evO c.G tm vv) h nx with
   |fail=>rw[hv]at hs;exact hs.elim
   |val v g ny=>rw[hv]at hp;exact hp.elim
   |unit g ny=>
    rw[hv]at hs hp
    obtain⟨τ,x,h1,h3⟩:=hp
    obtain⟨tm',e1,e2⟩:=putS_ok (a:=a) (s:=.mk tm g ny ds) hs (ht.mono h3.le) rel_undef
    rw[h1]
    exact hK τ tm' _ x g ny e1 h3 e2
 case range t x=>
  refine pre fun hs=>?_
  obtain⟨m,es,cl,k,e,q1,q2,q3,q4,e1,e2,e3,e4⟩:=hs
  have hx:=evO_ok hk ht.tm e1
  simp only[Rel]at hx
  obtain⟨b,hb,ex⟩:=hx
  obtain⟨b',E,hb',ho,hE⟩:=hk.mapB e2
  rw[hb]at hb'
  cases hb'
  have hu:P.underlying t=some (.map k e):=(hc.tt t _ e3).1
  have pa:=Post.alloc hk 0 (.miter m cl [] cl) (.mapIter (some b) cl #[] cl) (by
   simp only[RelB]
   refine⟨b,?_,rfl⟩
   have:m≠nx:=by have:=hk.lt e2;omega
   simp[Sg.add,this,hb])
  have hv:Rel (σ.add nx w.heap.size 0) (.ptr nx 0) (.pointer (some ⟨w.heap.size,0,none⟩)):=by
   simp only[Rel]
   exact⟨w.heap.size,by simp[Sg.add],rfl⟩
  obtain⟨tm',k1,k2⟩:=putS_ok (a:=a) e4 (ht.mono pa.le) hv
  refine upon_fence (fun _ e=>by cases e) ?_
  have hrun:(execOp a.eval ⟨dst,.range t x,type,pos,after,guard⟩).run P w=.ok (.value (.pointer (some ⟨w.heap.size,0,none⟩))) (w.alloc (.mapIter (some b) cl #[] cl)):=by
   show (do pure (.value (← Instr.range t (a.eval x))):Sem Next).run P w=_
   rw[ex]
   simp[run_range_map w t k e b E.toArray cl hu ho]
  rw[hrun]
  exact hK _ tm' _ _ _ _ k1 pa k2
 case next x isS=>
  refine pre fun hs=>?_
  cases isS with
  |true=>exact hs.elim
  |false=>
  obtain⟨it,m,since,seen,st,es,cl,e1,e2,e3,e4,e5,e6,e7⟩:=hs
  have hx:=evO_ok hk ht.tm e1
  simp only[Rel]at hx
  obtain⟨r,hr,ex⟩:=hx
  obtain⟨r',b,hr',hb,ho⟩:=hk.iterB e2
  rw[hr]at hr'
  cases hr'
  obtain⟨b',E,hb',hom,hE⟩:=hk.mapB e3
  rw[hb]at hb'
  cases hb'
  obtain⟨t1,t2,t3⟩:=hE.toL
  have hold:∀X∈E.toArray.toList,X.born<since:=fun X hX=>by
   obtain⟨e,q1,q2,_⟩:=t2 X (by simpa using hX)
   rw[q2]
   exact e4 e q1
  refine upon_fence (fun _ e=>by cases e) ?_
  have hex:(execOp a.eval ⟨dst,.next x false,type,pos,after,guard⟩).run P w=((Instr.next (.pointer (some ⟨r,0,none⟩)) false type).run P w).andThen fun v w'=>.ok (.value v) w':=by
   show (do pure (.value (← Instr.next (a.eval x) false type)):Sem Next).run P w=_
   rw[ex]
   simp only[Sem.run_bind,Sem.run_pure]
  rw[hex]
  rcases run_next_at (P:=P) w type r b since st seen.toArray E.toArray cl ho hom hold e5 with⟨h1,h2⟩ |⟨X,hX,w1,hw1,h2⟩
  ·have hall:∀e∈es,e.2.2∈seen:=by
    intro e he
    obtain⟨X,x1,x2,_⟩:=t3 e he
    have:leftOf E.toArray seen.toArray=#[]:=Array.eq_empty_of_size_eq_zero h1
    unfold leftOf at this
    rw[Array.filter_eq_empty_iff]at this
    have:=this X (by simpa using x1)
    simpa[x2]using this
   rw[h2]
   obtain⟨tm',k1,k2⟩:=putS_ok (a:=a) (V:=.tuple #[.bool false]) (e6 hall) ht (by simp only[Rel];exact⟨[.bool false],rfl,by simp only[RelL,Rel];exact⟨_,[],rfl,rfl,rfl⟩⟩)
   exact hK _ tm' _ _ _ _ k1 (.refl hk) k2
  ·have hXE:X∈E∧¬X.born∈seen:=by
    unfold leftOf at hX
    simpa using hX
   obtain⟨e,q1,q2,q3,q4⟩:=t2 X hXE.1
   have hns:¬e.2.2∈seen:=by rw[← q2];exact hXE.2
   have p1:Post c.G σ h nx w σ h nx w1:=by
    rcases hw1 with h3 |h3
    ·rw[h3];exact .refl hk
    ·rw[h3];exact Post.drawn hk _
   have hh:w1.heap=w.heap:=by
    rcases hw1 with h3 |h3
    ·rw[h3]
    ·rw[h3];rfl
   have p2:=Post.set p1.ok e2 hr (.miter m since (seen++[e.2.2]) cl) (.mapIter (some b) since (seen.toArray.push X.born) cl) (by
    simp only[RelB]
    exact⟨b,hb,by rw[q2];simp⟩)
   rw[h2]
   have hv:Rel σ (.tup [.bool true,e.1,e.2.1]) (.tuple #[.bool true,X.key,X.val]):=by
    simp only[Rel]
    exact⟨[.bool true,X.key,X.val],rfl,by simp only[RelL,Rel];exact⟨_,_,rfl,rfl,_,_,rfl,q3,_,_,rfl,q4,rfl⟩⟩
   obtain⟨tm',k1,k2⟩:=putS_ok (a:=a) (e7 e q1 hns) ht hv
   exact hK _ tm' _ _ _ _ k1 (p1.trans p2) k2
 case entry x=>
  refine pre fun hs=>?_
  obtain⟨it,m,since,seen,es,cl,e,e1,e2,e3,e4,e5,e6⟩:=hs
  have hx:=evO_ok hk ht.tm e1
  simp only[Rel]at hx
  obtain⟨r,hr,ex⟩:=hx
  obtain⟨r',b,hr',hb,ho⟩:=hk.iterB e2
  rw[hr]at hr'
  cases hr'
  obtain⟨b',E,hb',hom,hE⟩:=hk.mapB e3
  rw[hb]at hb'
  cases hb'
  obtain⟨t1,t2,t3⟩:=hE.toL
  obtain⟨X,x1,x2,x3,x4⟩:=t3 e e4
  refine upon_fence (fun _ e=>by cases e) ?_
  have hrun:=run_entry_at (P:=P) w r b since seen.toArray E.toArray cl X (by rw[x2];simpa using ho) hom (by simpa using x1) (by simpa[t1]using e5)
  have hex:(execOp a.eval ⟨dst,.entry x,type,pos,after,guard⟩).run P w=.ok (.value (.tuple #[X.key,X.val])) w:=by
   show (do pure (.value (← Instr.entry (a.eval x))):Sem Next).run P w=_
   rw[ex]
   simp[hrun]
  rw[hex]
  have hv:Rel σ (.tup [e.1,e.2.1]) (.tuple #[X.key,X.val]):=by
   simp only[Rel]
   exact⟨[X.key,X.val],rfl,by simp only[RelL];exact⟨_,_,rfl,x3,_,_,rfl,x4,rfl⟩⟩
  obtain⟨tm',k1,k2⟩:=putS_ok (a:=a) e6 ht hv
  exact hK _ tm' _ _ _ _ k1 (.refl hk) k2
theorem awO_ok (hc:CxOk P c){ops:Array Oper}{K:AS→Prop}{r:Option Nat}{Q:AX→AS→Prop}(hKQ:∀s,K s→Q .norm s)(Q0:Exit→Act→World→Prop):∀(l:List Oper){s:AS},awO P c sz ops.toList K l s→∀{σ:Sg}{a:Act}{w:World},Ok c.G σ s.h s.nx w→St σ s.tm a sz s.ds→
  (∀e a' w',AQ c.G σ s.h s.nx w sz Q e a' w'→Q0 e a' w')→wpListIn (fence r) 0 P ops Q0 l a w
 |[],s,hs,σ,a,w,ok,st,hq=>hq _ _ _ (AQ.mk (k:=.norm) ok st (hKQ s hs))
 |o::l,s,hs,σ,a,w,ok,st,hq=>by
  unfold wpListIn
  refine awS_ok hc (K:=awO P c sz ops.toList K l) hs ok st _ _ fun τ tm1 a1 w1 h1 nx1 k1 p1 s1=>?_
  exact awO_ok hc hKQ Q0 l (s:=.mk tm1 h1 nx1 s.ds) k1 p1.ok s1 fun e a' w' q=>hq e a' w' (q.trans p1)
def aw (P:Program)(c:Cx)(inr:Bool) (sz:Nat):Code→(AX→AS→Prop)→AS→Prop
 |.skip,Q,s=>Q .norm s
 |.label _,Q,s=>Q .norm s
 |.region id ops draw,Q,s=>match draw with
  |false=>awO P c sz ops.toList (Q .norm) ops.toList s
  |true=>AW P c inr sz (.region id ops true) Q s
 |.seq a b,Q,s=>aw P c inr sz a (thenA (aw P c inr sz b Q) Q) s
 |.cond x a b,Q,s=>match evO c.G s.tm x with
  |some (.bool t)=>(t=true→aw P c inr sz a Q s)∧(t=false→aw P c inr sz b Q s)
  |_=>False
 |.block id a,Q,s=>aw P c inr sz a (inBlockA id Q) s
 |.loop a,Q,s=>AW P c inr sz (.loop a) Q s
 |.rangeFunc f ps x y,Q,s=>AW P c inr sz (.rangeFunc f ps x y) Q s
 |.exit id,Q,s=>Q (.exit id) s
 |.ret,Q,s=>Q .ret s
 |.scope a,Q,s=>aw P c inr sz a Q s
 |.goto _,_,_=>False
 |.refuse _,_,_=>False
theorem aw_ok (hc:CxOk P c){inr:Bool}:∀(code:Code){Q:AX→AS→Prop}{s:AS},aw P c inr sz code Q s→AW P c inr sz code Q s
 |.skip,Q,s,h=>AW_skip h
 |.label _,Q,s,h=>AW_label h
 |.region id ops draw,Q,s,h=>by
  cases draw with
  |true=>exact h
  |false=>exact fun r hi σ a w ok st=>wpIn_region_list (awO_ok hc (K:=Q .norm) (Q:=Q) (fun s h=>h) _ ops.toList h ok st fun _ _ _ q=>q)
 |.seq a b,Q,s,h=>AW_seq ((aw_ok hc a h).mono fun k s q=>by
   cases k with
   |norm=>exact aw_ok hc b q
   |exit id=>exact q
   |ret=>exact q)
 |.cond x a b,Q,s,h=>by
  unfold aw at h
  split at h
  ·rename_i t ht
   exact AW_cond ht (fun e=>aw_ok hc a (h.1 e)) (fun e=>aw_ok hc b (h.2 e))
  ·exact h.elim
 |.block id a,Q,s,h=>AW_block (aw_ok hc a h)
 |.loop a,Q,s,h=>h
 |.rangeFunc f ps x y,Q,s,h=>h
 |.exit id,Q,s,h=>AW_exit h
 |.ret,Q,s,h=>AW_ret h
 |.scope a,Q,s,h=>AW_scope (aw_ok hc a h)
 |.goto _,Q,s,h=>h.elim
 |.refuse _,Q,s,h=>h.elim
end
end Go.Ev
namespace Go.Ev
noncomputable section
variable {P : Program} {c : Cx} {σ τ υ : Sg} {h g f : Tr ABlk} {nx ny nz sz : Nat} {ds : List DE} {w x y : World} {tm : Tr AV} {a : Act}
def res1 (c:Cx)(tm:Tr AV)(h:Tr ABlk) (nx:Nat)(r:ResultVar):Option AV:=
 match r with
 |.tmp t=>tm.get t
 |.cell a t=>match tm.get a with
  |some p=>match c.tt.get t with
   |some ti=>match evLoad ti p h nx with
    |.val v _ _=>some v
    |_=>none
   |none=>none
  |none=>none
def resL (c:Cx)(tm:Tr AV)(h:Tr ABlk) (nx:Nat):List ResultVar→Option (List AV)
 |[]=>some []
 |r::l=>match res1 c tm h nx r with
  |some v=>match resL c tm h nx l with
   |some l=>some (v::l)
   |none=>none
  |none=>none
def resV (l:List AV):AV:=match l with |[v]=>v |l=>.tup l
def resS (tmps:Array Value):ResultVar→Sem Value
 |.tmp t=>pure (tmps.getD t undef)
 |.cell a t=>do loadVar t (← asAddr (tmps.getD a undef))
theorem results_eq (fn:Func)(tmps:Array Value):results fn tmps=(do let vs ← fn.results.mapM (resS tmps);pure (if h:vs.size=1 then vs[0] else .tuple vs)):=rfl
theorem res1_ok (hc:CxOk P c)(hk:Ok c.G σ h nx w)(ht:TmOk σ tm a){rv:ResultVar}{v:AV}(he:res1 c tm h nx rv=some v):
  ∃V,(resS a.tmps rv).run P w=.ok V w∧Rel σ v V:=by
 unfold res1 at he
 cases rv with
 |tmp t=>exact⟨_,rfl,ht t v he⟩
 |cell b t=>
  simp only at he
  cases hp:tm.get b with
  |none=>rw[hp]at he;cases he
  |some p=>
   rw[hp]at he
   simp only at he
   cases hti:c.tt.get t with
   |none=>rw[hti]at he;cases he
   |some ti=>
    rw[hti]at he
    simp only at he
    have hpr:=ht b p hp
    have hl:=evLoad_run hk t (hc.tt t ti hti) hpr
    cases hlv:evLoad ti p h nx with
    |fail=>rw[hlv]at he;cases he
    |unit _ _=>rw[hlv]at he;cases he
    |val v' g ny=>
     rw[hlv]at he hl
     cases he
     obtain⟨_,_,V,h1,h2⟩:=hl
     have hex:∃q,a.tmps.getD b undef=.pointer (some q):=by
      cases p <;> try (exfalso;unfold evLoad at hlv;cases ti;cases hlv;done)
      ·simp only[Rel]at hpr
       obtain⟨bb,hb,e⟩:=hpr
       exact⟨_,e⟩
      ·simp only[Rel]at hpr
       obtain⟨bb,_,_,_,e,_⟩:=hpr
       exact⟨_,e⟩
     obtain⟨q,e⟩:=hex
     rw[e]at h1
     refine⟨V,?_,h2⟩
     show (do loadVar t (← asAddr (a.tmps.getD b undef)):Sem Value).run P w=_
     rw[e]
     simpa[Instr.loadAt,Instr.sureAddr,asAddr]using h1
theorem resL_ok (hc:CxOk P c)(hk:Ok c.G σ h nx w)(ht:TmOk σ tm a):∀{l:List ResultVar}{vs:List AV},resL c tm h nx l=some vs→
  ∃VS,(l.mapM (resS a.tmps)).run P w=.ok VS w∧RelL σ vs VS
 |[],vs,e=>by cases e;exact⟨[],by simp,by simp only[RelL]⟩
 |rv::l,vs,e=>by
  simp only[resL]at e
  cases h1:res1 c tm h nx rv with
  |none=>rw[h1]at e;cases e
  |some v=>
   rw[h1]at e
   cases h2:resL c tm h nx l with
   |none=>rw[h2]at e;cases e
   |some l'=>
    rw[h2]at e
    cases e
    obtain⟨V,r1,r2⟩:=res1_ok hc hk ht h1
    obtain⟨VS,r3,r4⟩:=resL_ok hc hk ht h2
    refine⟨V::VS,?_,by simp only[RelL];exact⟨V,VS,rfl,r2,r4⟩⟩
    rw[List.mapM_cons,Sem.run_bind,r1]
    simp only[Result.andThen,Sem.run_bind,r3,Sem.run_pure]
theorem results_ok (hc:CxOk P c)(hk:Ok c.G σ h nx w)(ht:TmOk σ tm a){fn:Func}{vs:List AV}(he:resL c tm h nx fn.results.toList=some vs):∃V,(results fn a.tmps).run P w=.ok V w∧Rel σ (resV vs) V:=by
 obtain⟨VS,h1,h2⟩:=resL_ok hc hk ht he
 have h3:(results fn a.tmps).run P w=.ok (if h:VS.toArray.size=1 then VS.toArray[0] else .tuple VS.toArray) w:=by
  rw[results_eq,Array.mapM_eq_mapM_toList]
  simp only[Sem.run_bind,Sem.run_map,h1]
  rfl
 refine⟨_,h3,?_⟩
 unfold resV
 split
 ·rename_i v
  simp only[RelL]at h2
  obtain⟨V,L,e1,e2,e3⟩:=h2
  subst e3
  subst e1
  simpa using e2
 ·rename_i hne
  have:VS.toArray.size≠1:=by
   intro e
   have hl:vs.length=1:=by rw[← h2.length];simpa using e
   match vs,hl with
   |[v],_=>exact hne v rfl
  rw[dif_neg this]
  simp only[Rel]
  exact⟨VS,rfl,h2⟩
def eraseL (h:Tr ABlk):List DE→Tr ABlk
 |[]=>h
 |.mark i::ds=>eraseL (h.put i none) ds
 |.fn _ _ _::ds=>eraseL h ds
def marksOk (h:Tr ABlk):List DE→Prop
 |[]=>True
 |.mark i::ds=>h.get i=some .dfr∧marksOk (h.put i none) ds
 |.fn _ _ _::_=>False
def endP (c:Cx)(rs:List ResultVar)(R:AV→Tr ABlk→Nat→Prop)(s:AS):Prop:=
 match s with
 |.mk tm h nx ds=>marksOk h ds∧match resL c tm (eraseL h ds) nx rs with
  |some l=>R (resV l) (eraseL h ds) nx
  |none=>False
def exitP (c:Cx)(rs:List ResultVar)(R:AV→Tr ABlk→Nat→Prop):AX→AS→Prop
 |.norm,s=>endP c rs R s
 |.ret,s=>endP c rs R s
 |.exit _,_=>False
theorem Post.kill {G:Gl}(hk:Ok G σ h nx w){i b:Nat}{B:ABlk}(hi:h.get i=some B)(hb:σ.blk i=some b)(o:Obj):Post G σ h nx w σ (h.put i none) nx (w.putObj b o):=by
 have hs:∀j B',(h.put i none).get j=some B'→j≠i∧h.get j=some B':=by
  intro j B' hj
  rw[Tr.get_put]at hj
  split at hj
  ·cases hj
  ·exact⟨by assumption,hj⟩
 have hheap:∀k,k≠b→(w.putObj b o).heap[k]?=w.heap[k]?:=fun k hk'=>World.putObj_heap_other hk'
 refine⟨⟨hk.glob,hk.le,hk.fresh,fun a c d B1 B2 h1 h2=>hk.inj a c d B1 B2 (hs _ _ h1).2 (hs _ _ h2).2,fun a B1 h1=>?_,fun d C hd=>⟨?_,fun a B1 h1=>(hk.imm d C hd).2 a B1 (hs _ _ h1).2⟩,hk.gl⟩,.refl σ,⟨rfl,rfl,rfl,by simp,fun d hd hn=>hheap d fun e=>hn i B hi (e ▸ hb),fun a B1 d h1 h2=>.inr ⟨a,B1,(hs _ _ h1).2,h2⟩,fun _ _ h=>.inl h⟩,Nat.le_refl _⟩
 ·obtain⟨n1,n2⟩:=hs a B1 h1
  obtain⟨b',o',hb',ho,hr⟩:=hk.blk a B1 n2
  refine⟨b',o',hb',?_,hr⟩
  rw[hheap b' fun e=>n1 (hk.inj a i b B1 B n2 hi (e ▸ hb') hb)]
  exact ho
 ·obtain⟨⟨t,fr,h1⟩,h2⟩:=hk.imm d C hd
  refine⟨t,fr,?_⟩
  rw[hheap d fun e=>h2 i B hi (e ▸ hb)]
  exact h1
theorem leaves_marks {fn:Func}{tmps:Array Value}{RR:Ending→World→Prop}{G:Gl}:∀{ds:List DE}{D:List Deferred}{h:Tr ABlk}{w:World}{σ:Sg},Ok G σ h nx w→RelD σ ds D→marksOk h ds→
  (∀x,Post G σ h nx w σ (eraseL h ds) nx x→∃v,(results fn tmps).run P x=.ok v x∧RR (.returned v) x)→LeavesInM Fence.wide 0 P fn tmps RR D .returning w
 |[],D,h,w,σ,ok,hD,_,hf=>by
  have e:D=[]:=hD
  subst e
  exact hf w (.refl ok)
 |.fn _ _ _::_,D,h,w,σ,ok,hD,hm,hf=>hm.elim
 |.mark i::ds,D,h,w,σ,ok,hD,hm,hf=>by
  obtain⟨b,D',e,hb,hD'⟩:=hD
  subst e
  obtain⟨b',o,hb',ho,hr⟩:=ok.blk i _ hm.1
  rw[hb]at hb'
  cases hb'
  simp only[RelB]at hr
  subst hr
  refine⟨by simp,.inl ⟨b,_,rfl,run_takeDeferred ho,?_⟩⟩
  have pk:=Post.kill ok hm.1 hb (.deferred none)
  exact leaves_marks pk.ok hD' hm.2 fun x px=>hf x (pk.trans px)
theorem ACall_of (hc:CxOk P c){f:FuncId}{fn:Func}(hft:c.ft.get f=some fn){code:Code}(hb:fn.body=some code){args:List AV}(hle:args.length≤fn.ntmps){R:AV→Tr ABlk→Nat→Prop}
  (hw:AW P c false fn.ntmps code (exitP c fn.results.toList R) (.mk (putN args .nil 0) h nx [])):ACall P c f args h nx R:=by
 intro σ w A hk hA
 obtain⟨hf,hcall⟩:=hc.ft f fn hft
 unfold CR
 rw[hcall]
 simp only
 have hAl:A.length=args.length:=hA.length
 have hst:St σ (putN args .nil 0) { tmps:=A.toArray++Array.replicate (fn.ntmps-A.toArray.size) undef,defers:=[] } fn.ntmps []:=by
  refine⟨fun t u e=>?_,by simp;omega,rfl⟩
  rw[get_putN]at e
  by_cases h1:0≤t∧t<0+args.length
  ·rw[if_pos h1,Nat.sub_zero]at e
   obtain⟨U,e1,e2⟩:=hA.get e
   have ht:t<A.length:=by omega
   rw[List.getElem?_eq_getElem ht]at e1
   cases e1
   simp only[Array.getD_eq_getD_getElem?]
   rw[Array.getElem?_append_left (by simpa using ht)]
   simpa[ht]using e2
  ·rw[if_neg h1]at e
   cases e
 refine callsIn_wide.1 (callsIn_of_wp_marks (F:=Fence.wide) (n:=0) hf hb trivial (wpIn_mono (hw none (fun _=>rfl) σ _ w hk hst) fun e a' w' q=>?_))
 obtain⟨k,tm,g,ny,ds,τ,e1,q1,q2,q3⟩:=q
 have fin:endP c fn.results.toList R (.mk tm g ny ds)→LeavesInM Fence.wide 0 P fn a'.tmps (fun e x=>match e with |.returned v=>∃τ v' g ny,Rel τ v' v∧Post c.G σ h nx w τ g ny x∧R v' g ny |_=>False) a'.defers .returning w':=by
  intro q3
  obtain⟨e2,q4⟩:=q3
  refine leaves_marks q1.ok q2.defers e2 fun x px=>?_
  cases hres:resL c tm (eraseL g ds) ny fn.results.toList with
  |none=>rw[hres]at q4;exact q4.elim
  |some vs=>
   rw[hres]at q4
   obtain⟨V,r1,r2⟩:=results_ok hc px.ok q2.tm hres
   exact⟨V,r1,τ,resV vs,eraseL g ds,ny,r2,q1.trans px,q4⟩
 cases k with
 |norm=>subst e1;exact fin q3
 |ret=>subst e1;exact fin q3
 |exit id=>exact q3.elim
theorem ACall_mk (hc:CxOk P c){f:FuncId}{fn:Func}(hft:c.ft.get f=some fn){code:Code}{sz:Nat}{rs:List ResultVar}(hb:fn.body=some code)(hs:fn.ntmps=sz)(hr:fn.results.toList=rs){args:List AV}(hle:args.length≤sz){R:AV→Tr ABlk→Nat→Prop}
  (hw:aw P c false sz code (exitP c rs R) (.mk (putN args .nil 0) h nx [])):ACall P c f args h nx R:=by
 subst hs
 subst hr
 exact ACall_of hc hft hb hle (aw_ok hc _ hw)
end
end Go.Ev
namespace Go.Ev
noncomputable section
variable {P : Program} {c : Cx} {σ τ υ : Sg} {h g f : Tr ABlk} {nx ny nz sz : Nat} {ds : List DE} {w x y : World} {tm : Tr AV} {a : Act}
theorem Ok.nlt {G:Gl}(hk:Ok G σ h nx w){i b:Nat}(hb:σ.blk i=some b):i<nx:=by
 rcases Nat.lt_or_ge i nx with h1 |h1
 ·exact h1
 ·rw[hk.fresh i h1]at hb;cases hb
def Chunk (es:Nat):List AV→List AV→Prop
 |[],D=>D=[]
 |v::l,D=>∃d D',D=d++D'∧v.cells=d∧d.length=es∧(v=.agg d∨v.one=true)∧Chunk es l D'
mutual
inductive Fz (g:Tr ABlk) (nx:Nat):AV→AV→Prop
 |bool (b:Bool):Fz g nx (.bool b) (.bool b)
 |int (k:IntKind) (n:Int):Fz g nx (.int k n) (.int k n)
 |str (l n:Nat):Fz g nx (.str l n) (.str l n)
 |bs (b:ByteArray):Fz g nx (.bs b) (.bs b)
 |ptr0:Fz g nx .ptr0 .ptr0
 |sl0:Fz g nx .sl0 .sl0
 |map0:Fz g nx .map0 .map0
 |nilFunc:Fz g nx .nilFunc .nilFunc
 |nilIface:Fz g nx .nilIface .nilIface
 |opq (n:Nat):Fz g nx (.opq n) (.opq n)
 |ptr (i o:Nat):i<nx→Fz g nx (.ptr i o) (.ptr i o)
 |sl (i o l cp:Nat) (opn:Bool):i<nx→Fz g nx (.sl i o l cp opn) (.sl i o l cp opn)
 |map (i:Nat):i<nx→Fz g nx (.map i) (.map i)
 |yld (i:Nat):i<nx→Fz g nx (.yld i) (.yld i)
 |agg (l m:List AV):FzL g nx l m→Fz g nx (.agg l) (.agg m)
 |tup (l m:List AV):FzL g nx l m→Fz g nx (.tup l) (.tup m)
 |iface (t:TypeId) (v u:AV):Fz g nx v u→Fz g nx (.iface t v) (.iface t u)
 |func (fn:FuncId) (l m l' m':List AV):FzL g nx l m→FzL g nx l' m'→Fz g nx (.func fn l l') (.func fn m m')
 |ip (l m:List AV):FzL g nx l m→Fz g nx (.ip l) (.ip m)
 |fz (es:Nat) (full:Bool) (l m:List AV):FzL g nx l m→Fz g nx (.fz es full l) (.fz es full m)
 |pin (i o e n:Nat) (c:Tr AV) (opn:Bool) (esz:Nat) (cs ds:List AV):nx≤i→g.get i=some (.cells e n c opn esz)→o+cs.length≤n→(∀j,j<cs.length→c.get (o+j)=cs[j]?)→FzL g nx cs ds→Fz g nx (.ptr i o) (.ip ds)
 |slz (i o len cp:Nat) (op:Bool) (e n:Nat) (c:Tr AV) (opn:Bool) (esz es:Nat) (cs ds xs:List AV):nx≤i→g.get i=some (.cells e n c opn esz)→o+cs.length≤n→(∀j,j<cs.length→c.get (o+j)=cs[j]?)→FzL g nx cs ds→Chunk es xs ds→xs.length=len→Fz g nx (.sl i o len cp op) (.fz es false xs)
inductive FzL (g:Tr ABlk) (nx:Nat):List AV→List AV→Prop
 |nil:FzL g nx [] []
 |cons (v u:AV) (l m:List AV):Fz g nx v u→FzL g nx l m→FzL g nx (v::l) (u::m)
end
open Classical in
def Sg.frz (τ:Sg)(x:World)(g:Tr ABlk) (nx:Nat):Sg where
 blk:=fun i=>if i<nx then τ.blk i else none
 cap:=τ.cap
 opq:=τ.opq
 imm:=fun b=>match τ.imm b with
  |some C=>some C
  |none=>if ∃i e n c opn esz,nx≤i∧g.get i=some (.cells e n c opn esz)∧τ.blk i=some b then (match x.heap[b]? with |some (.cells C _ _)=>some C.toList |_=>none) else none
theorem Rel.one_cells {v:AV}{V:Value}(hr:Rel σ v V)(h1:v.one=true):V.cells=#[V]:=by
 have:=hr.one h1
 cases V <;> first |rfl |(simp[Value.oneCell']at this)
theorem Chunk.rel {es:Nat}:∀{xs D:List AV}{L:List Value},Chunk es xs D→RelL υ D L→∃XS,RelL υ xs XS∧Rows es XS L
 |[],D,L,h,hr=>⟨[],by simp only[RelL],trivial⟩
 |v::l,D,L,h,hr=>by
  obtain⟨d,D',e,h1,h2,h3,h4⟩:=h
  subst e
  have hd:RelL υ d (L.take es):=by
   have:=hr.take d.length
   rw[List.take_left,h2]at this
   exact this
  have hd':RelL υ D' (L.drop es):=by
   have:=hr.drop d.length
   rw[List.drop_left,h2]at this
   exact this
  obtain⟨XS,q1,q2⟩:=Chunk.rel h4 hd'
  have hlen:(L.take es).length=es:=by rw[hd.length,h2]
  rcases h3 with h3 |h3
  ·refine⟨.agg (L.take es).toArray::XS,?_,?_⟩
   ·simp only[RelL]
    exact⟨_,_,rfl,by rw[h3];simp only[Rel];exact⟨_,rfl,hd⟩,q1⟩
   ·exact⟨by simp[Value.cells],by simp[Value.cells];rw[List.length_take]at hlen;exact hlen,q2⟩
  ·have hc:v.cells=[v]:=by cases v <;> first |rfl |(simp[AV.one]at h3)
   rw[hc]at h1
   subst h1
   simp only[RelL]at hd
   obtain⟨V,L',e1,e2,e3⟩:=hd
   subst e3
   refine⟨V::XS,by simp only[RelL];exact⟨_,_,rfl,e2,q1⟩,?_⟩
   have:=e2.one_cells h3
   refine⟨by rw[this,e1],?_,q2⟩
   rw[this]
   simpa using h2
theorem FzL.length:∀{l m:List AV},FzL g nx l m→m.length=l.length
 |_,_,.nil=>rfl
 |_,_,.cons v u l m _ h2=>by simp[FzL.length h2]
theorem Rows.of_take {es:Nat}:∀{L D:List Value}{n:Nat},Rows es L (D.take n)→Rows es L D
 |[],D,n,_=>trivial
 |X::L,D,n,h=>by
  simp only[Rows]at h ⊢
  obtain⟨h1,h2,h3⟩:=h
  have hl:((D.take n).take es).length=es:=by rw[← h1,Array.length_toList,h2]
  simp only[List.length_take]at hl
  have hn:es≤n:=by omega
  rw[List.take_take,Nat.min_eq_left hn]at h1
  rw[List.drop_take]at h3
  exact⟨h1,h2,h3.of_take⟩
section
variable {G : Gl}
theorem frz_cells (hk:Ok G τ g ny x){i e n esz b:Nat}{c:Tr AV}{opn:Bool}(hn:nx≤i)(hg:g.get i=some (.cells e n c opn esz))(hb:τ.blk i=some b):
  ∃C fr,x.heap[b]?=some (.cells C e fr)∧(τ.frz x g nx).imm b=some C.toList∧∀k,k<n→∃v V,c.get k=some v∧C[k]?=some V∧Rel τ v V:=by
 obtain⟨b',C,fr,hb',hheap,hcell,_,_⟩:=hk.cells hg
 rw[hb]at hb'
 cases hb'
 refine⟨C,fr,hheap,?_,hcell⟩
 have hno:τ.imm b=none:=by
  cases hi:τ.imm b with
  |none=>rfl
  |some D=>exact absurd hb ((hk.imm b D hi).2 i _ hg)
 show (match τ.imm b with |some C=>some C |none=>_)=_
 rw[hno]
 simp only
 rw[if_pos ⟨i,e,n,c,opn,esz,hn,hg,hb⟩,hheap]
theorem cells_list {c:Tr AV}{C:Array Value}{n o:Nat}{cs:List AV}(hcell:∀k,k<n→∃v V,c.get k=some v∧C[k]?=some V∧Rel τ v V)(hle:o+cs.length≤n)(hcs:∀j,j<cs.length→c.get (o+j)=cs[j]?):
  ∃L,RelL τ cs L∧L=(C.toList.drop o).take L.length:=by
 have hl:((C.toList.drop o).take cs.length).length=cs.length:=by
  simp only[List.length_take,List.length_drop,Array.length_toList]
  rcases Nat.eq_zero_or_pos cs.length with e |e
  ·omega
  ·obtain⟨_,V,_,h2,_⟩:=hcell (o+cs.length-1) (by omega)
   have:=(Array.getElem?_eq_some_iff.1 h2).1
   omega
 refine⟨(C.toList.drop o).take cs.length,RelL.of_get hl fun k v V h1 h2=>?_,by rw[hl]⟩
 have hk:k<cs.length:=(List.getElem?_eq_some_iff.1 h1).1
 obtain⟨v',V',e1,e2,e3⟩:=hcell (o+k) (by omega)
 rw[hcs k hk,h1]at e1
 cases e1
 rw[List.getElem?_take,if_pos hk,List.getElem?_drop,Array.getElem?_toList,e2]at h2
 cases h2
 exact e3
mutual
theorem Fz.rel (hk:Ok G τ g ny x):∀{v u:AV},Fz g nx v u→∀V,Rel τ v V→Rel (τ.frz x g nx) u V
 |_,_,.bool b,V,h=>by simpa only[Rel]using h
 |_,_,.int k n,V,h=>by simpa only[Rel]using h
 |_,_,.str l n,V,h=>by simpa only[Rel]using h
 |_,_,.bs b,V,h=>by simpa only[Rel]using h
 |_,_,.ptr0,V,h=>by simpa only[Rel]using h
 |_,_,.sl0,V,h=>by simpa only[Rel]using h
 |_,_,.map0,V,h=>by simpa only[Rel]using h
 |_,_,.nilFunc,V,h=>by simpa only[Rel]using h
 |_,_,.nilIface,V,h=>by simpa only[Rel]using h
 |_,_,.opq n,V,h=>by
  simp only[Rel]at h ⊢
  exact h
 |_,_,.ptr i o hi,V,h=>by
  simp only[Rel]at h ⊢
  obtain⟨b,hb,e⟩:=h
  exact⟨b,by simp only[Sg.frz];rw[if_pos hi];exact hb,e⟩
 |_,_,.sl i o l cp opn hi,V,h=>by
  simp only[Rel]at h ⊢
  obtain⟨b,hb,e⟩:=h
  exact⟨b,by simp only[Sg.frz];rw[if_pos hi];exact hb,e⟩
 |_,_,.map i hi,V,h=>by
  simp only[Rel]at h ⊢
  obtain⟨b,hb,e⟩:=h
  exact⟨b,by simp only[Sg.frz];rw[if_pos hi];exact hb,e⟩
 |_,_,.yld i hi,V,h=>by
  simp only[Rel]at h ⊢
  obtain⟨b,hb,e⟩:=h
  exact⟨b,by simp only[Sg.frz];rw[if_pos hi];exact hb,e⟩
 |_,_,.agg l m hl,V,h=>by
  simp only[Rel]at h ⊢
  obtain⟨L,e,h1⟩:=h
  exact⟨L,e,FzL.rel hk hl L h1⟩
 |_,_,.tup l m hl,V,h=>by
  simp only[Rel]at h ⊢
  obtain⟨L,e,h1⟩:=h
  exact⟨L,e,FzL.rel hk hl L h1⟩
 |_,_,.iface t v u hu,V,h=>by
  simp only[Rel]at h ⊢
  obtain⟨U,e,h1⟩:=h
  exact⟨U,e,Fz.rel hk hu U h1⟩
 |_,_,.func fn l m l' m' h1 h2,V,h=>by
  simp only[Rel]at h ⊢
  obtain⟨A,C,e,q1,q2⟩:=h
  exact⟨A,C,e,FzL.rel hk h1 A q1,FzL.rel hk h2 C q2⟩
 |_,_,.ip l m hl,V,h=>by
  simp only[Rel]at h ⊢
  obtain⟨b,o,C,L,e,h1,h2,h3⟩:=h
  exact⟨b,o,C,L,e,by simp only[Sg.frz];rw[h1],FzL.rel hk hl L h2,h3⟩
 |_,_,.fz es full l m hl,V,h=>by
  have hlen:m.length=l.length:=FzL.length hl
  simp only[Rel]at h ⊢
  obtain⟨a,cap,e,g1,g2,g4,g3⟩:=h
  rw[hlen]
  refine⟨a,cap,e,g1,g2,g4,fun hx=>?_⟩
  obtain⟨b,o,C,L,e1,h1,h2,h3⟩:=g3 hx
  exact⟨b,o,C,L,e1,by simp only[Sg.frz];rw[h1],FzL.rel hk hl L h2,h3⟩
 |_,_,.pin i o e n c opn esz cs ds hn hg hle hcs hl,V,h=>by
  simp only[Rel]at h ⊢
  obtain⟨b,hb,e1⟩:=h
  obtain⟨C,fr,hheap,himm,hcell⟩:=frz_cells hk hn hg hb
  obtain⟨L,r1,r2⟩:=cells_list hcell hle hcs
  exact⟨b,o,C.toList,L,e1,himm,FzL.rel hk hl L r1,r2⟩
 |_,_,.slz i o len cp op e n c opn esz es cs ds xs hn hg hle hcs hl hch hlen,V,h=>by
  simp only[Rel]at h ⊢
  obtain⟨b,hb,e1,hlc⟩:=h
  obtain⟨C,fr,hheap,himm,hcell⟩:=frz_cells hk hn hg hb
  obtain⟨L,r1,r2⟩:=cells_list hcell hle hcs
  obtain⟨XS,q1,q2⟩:=hch.rel (FzL.rel hk hl L r1)
  refine⟨_,_,by rw[hlen];exact e1,by rw[hlen];exact hlc,(fun hf=>by cases hf),(fun hf=>by cases hf),fun hx=>⟨b,o,C.toList,XS,rfl,himm,q1,?_⟩⟩
  rw[r2]at q2
  exact Rows.of_take q2
theorem FzL.rel (hk:Ok G τ g ny x):∀{l m:List AV},FzL g nx l m→∀L,RelL τ l L→RelL (τ.frz x g nx) m L
 |_,_,.nil,L,h=>by simpa only[RelL]using h
 |_,_,.cons v u l m h1 h2,L,h=>by
  simp only[RelL]at h ⊢
  obtain⟨V,L',e,q1,q2⟩:=h
  exact⟨V,L',e,Fz.rel hk h1 V q1,FzL.rel hk h2 L' q2⟩
end
mutual
theorem Rel.back (hk:Ok G σ h nx w)(hl:σ.Le τ):∀(v:AV)(V0 V:Value),Rel σ v V0→Rel τ v V→Rel (τ.frz x g nx) v V
 |.bool b,V0,V,_,h=>by simpa only[Rel]using h
 |.int k n,V0,V,_,h=>by simpa only[Rel]using h
 |.str l n,V0,V,_,h=>by simpa only[Rel]using h
 |.bs b,V0,V,_,h=>by simpa only[Rel]using h
 |.ptr0,V0,V,_,h=>by simpa only[Rel]using h
 |.sl0,V0,V,_,h=>by simpa only[Rel]using h
 |.map0,V0,V,_,h=>by simpa only[Rel]using h
 |.nilFunc,V0,V,_,h=>by simpa only[Rel]using h
 |.nilIface,V0,V,_,h=>by simpa only[Rel]using h
 |.opq n,V0,V,_,h=>by
  simp only[Rel]at h ⊢
  exact h
 |.ptr i o,V0,V,h0,h=>by
  simp only[Rel]at h0 h ⊢
  obtain⟨b0,hb0,_⟩:=h0
  obtain⟨b,hb,e⟩:=h
  exact⟨b,by simp only[Sg.frz];rw[if_pos (hk.nlt hb0)];exact hb,e⟩
 |.sl i o l cp opn,V0,V,h0,h=>by
  simp only[Rel]at h0 h ⊢
  obtain⟨b0,hb0,_⟩:=h0
  obtain⟨b,hb,e⟩:=h
  exact⟨b,by simp only[Sg.frz];rw[if_pos (hk.nlt hb0)];exact hb,e⟩
 |.map i,V0,V,h0,h=>by
  simp only[Rel]at h0 h ⊢
  obtain⟨b0,hb0,_⟩:=h0
  obtain⟨b,hb,e⟩:=h
  exact⟨b,by simp only[Sg.frz];rw[if_pos (hk.nlt hb0)];exact hb,e⟩
 |.yld i,V0,V,h0,h=>by
  simp only[Rel]at h0 h ⊢
  obtain⟨b0,hb0,_⟩:=h0
  obtain⟨b,hb,e⟩:=h
  exact⟨b,by simp only[Sg.frz];rw[if_pos (hk.nlt hb0)];exact hb,e⟩
 |.agg l,V0,V,h0,h=>by
  simp only[Rel]at h0 h ⊢
  obtain⟨L0,_,q0⟩:=h0
  obtain⟨L,e,h1⟩:=h
  exact⟨L,e,RelL.back hk hl l L0 L q0 h1⟩
 |.tup l,V0,V,h0,h=>by
  simp only[Rel]at h0 h ⊢
  obtain⟨L0,_,q0⟩:=h0
  obtain⟨L,e,h1⟩:=h
  exact⟨L,e,RelL.back hk hl l L0 L q0 h1⟩
 |.iface t v,V0,V,h0,h=>by
  simp only[Rel]at h0 h ⊢
  obtain⟨U0,_,q0⟩:=h0
  obtain⟨U,e,h1⟩:=h
  exact⟨U,e,Rel.back hk hl v U0 U q0 h1⟩
 |.func fn l m,V0,V,h0,h=>by
  simp only[Rel]at h0 h ⊢
  obtain⟨A0,C0,_,p1,p2⟩:=h0
  obtain⟨A,C,e,q1,q2⟩:=h
  exact⟨A,C,e,RelL.back hk hl l A0 A p1 q1,RelL.back hk hl m C0 C p2 q2⟩
 |.ip l,V0,V,h0,h=>by
  simp only[Rel]at h0 h ⊢
  obtain⟨_,_,_,L0,_,_,p2,_⟩:=h0
  obtain⟨b,o,C,L,e,h1,h2,h3⟩:=h
  exact⟨b,o,C,L,e,by simp only[Sg.frz];rw[h1],RelL.back hk hl l L0 L p2 h2,h3⟩
 |.fz es full l,V0,V,h0,h=>by
  simp only[Rel]at h0 h ⊢
  obtain⟨_,_,_,_,_,_,p3⟩:=h0
  obtain⟨a,cap,e,g1,g2,g4,g3⟩:=h
  refine⟨a,cap,e,g1,g2,g4,fun hx=>?_⟩
  obtain⟨_,_,_,L0,_,_,p2,_⟩:=p3 hx
  obtain⟨b,o,C,L,e1,h1,h2,h3⟩:=g3 hx
  exact⟨b,o,C,L,e1,by simp only[Sg.frz];rw[h1],RelL.back hk hl l L0 L p2 h2,h3⟩
theorem RelL.back (hk:Ok G σ h nx w)(hl:σ.Le τ):∀(l:List AV)(L0 L:List Value),RelL σ l L0→RelL τ l L→RelL (τ.frz x g nx) l L
 |[],L0,L,_,h=>by simpa only[RelL]using h
 |v::l,L0,L,h0,h=>by
  simp only[RelL]at h0 h ⊢
  obtain⟨V0,L0',_,p1,p2⟩:=h0
  obtain⟨V,L',e,q1,q2⟩:=h
  exact⟨V,L',e,Rel.back hk hl v V0 V p1 q1,RelL.back hk hl l L0' L' p2 q2⟩
end
theorem RelE.back (hk:Ok G σ h nx w)(hl:σ.Le τ):∀{l E0 E},RelE σ l E0→RelE τ l E→RelE (τ.frz x g nx) l E
 |[],E0,E,_,h=>h
 |(k,v,n)::l,E0,E,h0,h=>by
  simp only[RelE]at h0 h ⊢
  obtain⟨K0,V0,E0',_,p1,p2,p3⟩:=h0
  obtain⟨K,V,E',e,h1,h2,h3⟩:=h
  exact⟨K,V,E',e,Rel.back hk hl k K0 K p1 h1,Rel.back hk hl v V0 V p2 h2,RelE.back hk hl p3 h3⟩
theorem RelB.back (hk:Ok G σ h nx w)(hl:σ.Le τ){i:Nat}:∀{B o0 o},RelB σ i B o0→RelB τ i B o→RelB (τ.frz x g nx) i B o
 |.cells e n c opn esz,o0,o,h0,h=>by
  simp only[RelB]at h0 h ⊢
  obtain⟨C0,_,_,p1,_,_⟩:=h0
  obtain⟨C,fr,e,h1,h2,h3⟩:=h
  refine⟨C,fr,e,fun k hk'=>?_,h2,h3⟩
  obtain⟨v0,V0,a1,a2,a3⟩:=p1 k hk'
  obtain⟨v,V,e1,e2,e3⟩:=h1 k hk'
  rw[a1]at e1
  cases e1
  exact⟨v0,V,a1,e2,Rel.back hk hl v0 V0 V a3 e3⟩
 |.map es cl,o0,o,h0,h=>by
  simp only[RelB]at h0 h ⊢
  obtain⟨E0,_,p1⟩:=h0
  obtain⟨E,e,h1⟩:=h
  exact⟨E,e,RelE.back hk hl p1 h1⟩
 |.loop st pend fn sz tm ps assign body db,o0,o,h0,h=>by
  simp only[RelB]at h0 h ⊢
  obtain⟨T0,d0,_,_,_,p2,p3⟩:=h0
  obtain⟨T,d,fn',e,h1,h2,h3⟩:=h
  exact⟨T,d,fn',e,h1,fun t v ht=>Rel.back hk hl v _ _ (p2 t v ht) (h2 t v ht),by simp only[Sg.frz];rw[if_pos (hk.nlt p3)];exact h3⟩
 |.dfr,o0,o,_,h=>by simpa only[RelB]using h
 |.miter i since seen stepped,o0,o,h0,h=>by
  simp only[RelB]at h0 h ⊢
  obtain⟨b0,p1,_⟩:=h0
  obtain⟨b,h1,h2⟩:=h
  exact⟨b,by simp only[Sg.frz];rw[if_pos (hk.nlt p1)];exact h1,h2⟩
 |.siter s pos,o0,o,_,h=>by simpa only[RelB]using h
theorem Post.frz (hk:Ok G σ h nx w)(p:Post G σ h nx w τ g ny x)(he:∀i,i<nx→g.get i=h.get i):Post G σ h nx w (τ.frz x g nx) h nx x:=by
 have hget:∀i B,h.get i=some B→i<nx∧g.get i=some B:=fun i B hi=>⟨hk.lt hi,by rw[he i (hk.lt hi)];exact hi⟩
 have hle:σ.Le (τ.frz x g nx):=by
  refine⟨fun i b hb=>?_,p.le.opq,fun b C hb=>?_⟩
  ·have:=p.le.blk i b hb
   refine⟨?_,this.2⟩
   simp only[Sg.frz]
   rw[if_pos (hk.nlt hb)]
   exact this.1
  ·simp only[Sg.frz]
   rw[p.le.imm b C hb]
 have hblk:∀i b,i<nx→τ.blk i=some b→(τ.frz x g nx).blk i=some b:=fun i b hi hb=>by simp only[Sg.frz];rw[if_pos hi];exact hb
 have hblk':∀i b,(τ.frz x g nx).blk i=some b→i<nx∧τ.blk i=some b:=fun i b hb=>by
  simp only[Sg.frz]at hb
  split at hb
  ·exact⟨by assumption,hb⟩
  ·cases hb
 refine⟨⟨fun i hi=>(hle.blk i i (hk.glob i hi)).1,hk.le,fun i hi=>?_,fun i j b B B' h1 h2 h3 h4=>?_,fun i B h1=>?_,fun b C hb=>?_,fun i cs hi=>(hk.gl i cs hi).mono hle⟩,hle,⟨p.fr.os,p.fr.tape,p.fr.output,p.fr.size,p.fr.keep,fun i B b h1 h2=>?_,fun b C hb=>?_⟩,Nat.le_refl _⟩
 ·simp only[Sg.frz];rw[if_neg (by omega)]
 ·exact p.ok.inj i j b B B' (hget i B h1).2 (hget j B' h2).2 (hblk' i b h3).2 (hblk' j b h4).2
 ·obtain⟨b,o,q1,q2,q3⟩:=p.ok.blk i B (hget i B h1).2
  obtain⟨b0,o0,r1,r2,r3⟩:=hk.blk i B h1
  exact⟨b,o,hblk i b (hget i B h1).1 q1,q2,r3.back hk p.le q3⟩
 ·have himm:(τ.imm b=some C)∨(τ.imm b=none∧∃i e n c opn esz,nx≤i∧g.get i=some (.cells e n c opn esz)∧τ.blk i=some b):=by
   simp only[Sg.frz]at hb
   cases hi:τ.imm b with
   |some D=>rw[hi]at hb;exact .inl hb
   |none=>
    rw[hi]at hb
    simp only at hb
    split at hb
    ·exact .inr ⟨rfl,by assumption⟩
    ·cases hb
  rcases himm with hi |⟨_,i,e,n,c,opn,esz,h1,h2,h3⟩
  ·obtain⟨q1,q2⟩:=p.ok.imm b C hi
   exact⟨q1,fun j B hj e=>q2 j B (hget j B hj).2 (hblk' j b e).2⟩
  ·obtain⟨D,fr,r1,r2,_⟩:=frz_cells (nx:=nx) p.ok h1 h2 h3
   rw[hb]at r2
   cases r2
   refine⟨⟨e,fr,by simpa using r1⟩,fun j B hj e'=>?_⟩
   have:=p.ok.inj j i b B _ (hget j B hj).2 h2 (hblk' j b e').2 h3
   have:=(hget j B hj).1
   omega
 ·exact .inr ⟨i,B,h1,by
   obtain⟨b0,o0,r1,_⟩:=hk.blk i B h1
   have:=(p.le.blk i b0 r1).1
   rw[(hblk' i b h2).2]at this
   cases this
   exact r1⟩
 ·simp only[Sg.frz]at hb
  cases hi:τ.imm b with
  |some D=>rw[hi]at hb;cases hb;exact p.fr.imm b _ hi
  |none=>
   rw[hi]at hb
   simp only at hb
   split at hb
   ·rename_i hex
    obtain⟨i,e,n,c,opn,esz,_,h2,h3⟩:=hex
    exact .inr (p.fr.own i _ b h2 h3)
   ·cases hb
end
end
end Go.Ev
namespace Go.Ev
noncomputable section
variable {P : Program} {c : Cx} {h g : Tr ABlk} {nx ny sz : Nat}
def Ext (nx:Nat)(h g:Tr ABlk):Prop:=∀i,i<nx→g.get i=h.get i
theorem Ext.refl (nx:Nat)(h:Tr ABlk):Ext nx h h:=fun _ _=>rfl
theorem Ext.put {nx:Nat}{h g:Tr ABlk}(e:Ext nx h g){i:Nat}(hi:nx≤i)(B:Option ABlk):Ext nx h (g.put i B):=fun j hj=>by
 rw[Tr.get_put,if_neg (by omega)];exact e j hj
theorem ACall.frz {f:FuncId}{args:List AV}{R:AV→Prop}(hc:ACall P c f args h nx fun v g _=>Ext nx h g∧∃u,Fz g nx v u∧R u):ACall P c f args h nx fun v g ny=>R v∧g=h∧ny=nx:=by
 intro σ w A hk hA
 refine(hc σ w A hk hA).mono fun V x q=>?_
 obtain⟨τ,v,g,ny,q1,q2,q3,u,q4,q5⟩:=q
 exact⟨τ.frz x g nx,u,h,nx,q4.rel q2.ok V q1,Post.frz hk q2 q3,q5,rfl,rfl⟩
def Ret (P:Program)(c:Cx)(f:FuncId)(args:List AV)(u:AV):Prop:=∀h nx,ACall P c f args h nx fun v g ny=>v=u∧g=h∧ny=nx
theorem Ret.use {f:FuncId}{args:List AV}{u:AV}(hr:Ret P c f args u){R:AV→Tr ABlk→Nat→Prop}(hR:R u h nx):ACall P c f args h nx R:=
 (hr h nx).mono fun v g ny ⟨e1,e2,e3⟩=>by subst e1;subst e2;subst e3;exact hR
theorem Ret.of {f:FuncId}{args:List AV}{u:AV}(hr:∀h nx,ACall P c f args h nx fun v g _=>Ext nx h g∧Fz g nx v u):Ret P c f args u:=by
 intro h nx
 have:=ACall.frz (R:=fun v=>v=u) ((hr h nx).mono fun v g ny ⟨e,q⟩=>⟨e,u,q,rfl⟩)
 exact this
theorem Ret.mk {f:FuncId}{args:List AV}{u:AV}(hr:∀h nx (R:AV→Tr ABlk→Nat→Prop),(∀v g ny,Ext nx h g→Fz g nx v u→R v g ny)→ACall P c f args h nx R):Ret P c f args u:=
 Ret.of fun h nx=>hr h nx _ fun _ _ _ h1 h2=>⟨h1,h2⟩
end
end Go.Ev
