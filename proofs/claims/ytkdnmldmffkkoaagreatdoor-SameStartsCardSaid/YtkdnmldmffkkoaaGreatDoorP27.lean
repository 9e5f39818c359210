/- Texts EV EV2. -/
import Derived.Test.YtkdnmldmffkkoaaGreatDoorP10
set_option linter.unusedSimpArgs false
set_option linter.unusedVariables false
set_option maxRecDepth 100000
namespace Go.Ev
inductive CO where
 |ok (v:AV) (h:Tr ABlk) (nx:Nat)
 |fail
inductive OS where
 |ok (tm:Tr AV) (h:Tr ABlk) (nx:Nat)
 |fail
inductive ER where
 |norm (tm:Tr AV) (h:Tr ABlk) (nx:Nat) (ds:List DE)
 |exit (id:Nat) (tm:Tr AV) (h:Tr ABlk) (nx:Nat) (ds:List DE)
 |ret (tm:Tr AV) (h:Tr ABlk) (nx:Nat) (ds:List DE)
 |fail
abbrev Ca:=FuncId→List AV→Tr ABlk→Nat→CO
abbrev Ya:=Nat→List AV→Tr ABlk→Nat→CO
def eqQ (v:AV)(g:Tr ABlk) (ny:Nat):AV→Tr ABlk→Nat→Prop:=fun v' g' ny'=>v'=v∧g'=g∧ny'=ny
def zcw (P:Program)(c:Cx)(ca:Ca):Prop:=∀f args h nx v g ny,ca f args h nx=.ok v g ny→za7 P c f args h nx (eqQ v g ny)
def zfc (P:Program)(c:Cx)(ya:Ya):Prop:=∀i args h nx v g ny,ya i args h nx=.ok v g ny→zgp P c i args h nx (eqQ v g ny)
noncomputable section
def zhe (sz:Nat)(d:Option Tmp)(v:AV)(tm:Tr AV)(k:Tr AV→OS):OS:=
 match d with
 |none=>k tm
 |some d=>match Nat.ble (Nat.succ d) sz with
  |true=>tm.putK (some v) d k
  |false=>.fail
def zGc (sz:Nat)(dst:Option Tmp)(tm:Tr AV)(k:Tr AV→Tr ABlk→Nat→OS)(r:R):OS:=
 match r with
 |.val v h nx=>zhe sz dst v tm fun tm=>k tm h nx
 |.unit h nx=>zhe sz dst (.tup []) tm fun tm=>k tm h nx
 |.fail=>.fail
def zs0 (sz:Nat)(dst:Option Tmp)(tm:Tr AV)(k:Tr AV→Tr ABlk→Nat→OS)(r:CO):OS:=
 match r with
 |.ok v h nx=>zhe sz dst v tm fun tm=>k tm h nx
 |.fail=>.fail
def zpu (ca:Ca)(ya:Ya)(f:Option AV)(l:Option (List AV))(h:Tr ABlk) (nx:Nat):CO:=
 match f with
 |some (.func fid first cap)=>match l with
  |some l=>ca fid (first++(l++cap)) h nx
  |none=>.fail
 |some (.yld i)=>match l with
  |some l=>ya i l h nx
  |none=>.fail
 |_=>.fail
def evZ (c:Cx)(op:Op)(tm:Tr AV)(h:Tr ABlk) (nx:Nat):R:=match op with
 |.slice t x (some lo) none none=>match c.tt.get t with
  |some (.mk (.slice _) _ _ _ ((_,s,_)::_))=>match evO c.G tm x with
   |some (.sl _ _ len _ true)=>match evO c.G tm lo with
    |some (.int .i64 (.ofNat l))=>match Nat.beq l len with
     |true=>.val (.fz s false []) h nx
     |false=>.fail
    |_=>.fail
   |_=>.fail
  |_=>.fail
 |_=>.fail
def orR (r q:R):R:=match r with
 |.val v h nx=>.val v h nx
 |.unit h nx=>.unit h nx
 |.fail=>q
def zy0 (c:Cx)(ca:Ca)(ya:Ya) (sz:Nat)(o:Oper)(tm:Tr AV)(h:Tr ABlk) (nx:Nat)(k:Tr AV→Tr ABlk→Nat→OS):OS:=
 match zdo o.op with
 |some (f,args)=>zs0 sz o.dst tm k (zpu ca ya (evO c.G tm f) (zb2 c.G tm args.toList) h nx)
 |none=>match zfm o.op with
  |true=>.fail
  |false=>zGc sz o.dst tm k (orR (zdp c o.op tm h nx) (evZ c o.op tm h nx))
def zoi (c:Cx)(ca:Ca)(ya:Ya) (sz:Nat)(ops:List Oper)(o:Oper)(tm:Tr AV)(h:Tr ABlk) (nx:Nat)(k:Tr AV→Tr ABlk→Nat→OS):OS:=
 match zbz ops tm o with
 |none=>.fail
 |some false=>zhe sz o.dst (.tup []) tm fun tm=>k tm h nx
 |some true=>zy0 c ca ya sz o tm h nx k
def zo9 (c:Cx)(ca:Ca)(ya:Ya) (sz:Nat)(ops:List Oper)(l:List Oper):Tr AV→Tr ABlk→Nat→OS:=
 List.rec (motive:=fun _=>Tr AV→Tr ABlk→Nat→OS) (fun tm h nx=>.ok tm h nx) (fun o _ ih tm h nx=>zoi c ca ya sz ops o tm h nx ih) l
def zpo (ds:List DE)(r:OS):ER:=match r with
 |.ok tm h nx=>.norm tm h nx ds
 |.fail=>.fail
abbrev CE:=Tr AV→Tr ABlk→Nat→List DE→ER
abbrev Ed:=Nat→Array Oper→Tr AV→Tr ABlk→Nat→OS
def zKa (c:Cx)(ca:Ca)(ya:Ya)(ed:Ed) (sz:Nat)(ops:Array Oper)(draw:Bool)(tm:Tr AV)(h:Tr ABlk) (nx:Nat)(ds:List DE):ER:=
 match draw with
 |false=>zpo ds (zo9 c ca ya sz ops.toList ops.toList tm h nx)
 |true=>zpo ds (ed sz ops tm h nx)
def zj2 (k:CE)(r:ER):ER:=match r with
 |.norm tm h nx ds=>k tm h nx ds
 |.exit id tm h nx ds=>.exit id tm h nx ds
 |.ret tm h nx ds=>.ret tm h nx ds
 |.fail=>.fail
def zIj (ih:Code→CE)(a b:Code)(tm:Tr AV)(h:Tr ABlk) (nx:Nat)(ds:List DE):ER:=zj2 (ih b) (ih a tm h nx ds)
def zJt (ih:Code→CE)(a:Code)(tm:Tr AV)(h:Tr ABlk) (nx:Nat)(ds:List DE):ER:=zj2 (ih (.loop a)) (ih a tm h nx ds)
def zMx (c:Cx)(ih:Code→CE)(x:Operand)(a b:Code)(tm:Tr AV)(h:Tr ABlk) (nx:Nat)(ds:List DE):ER:=match evO c.G tm x with
 |some (.bool true)=>ih a tm h nx ds
 |some (.bool false)=>ih b tm h nx ds
 |_=>.fail
def zA9 (id:Nat)(r:ER):ER:=match r with
 |.norm tm h nx ds=>.norm tm h nx ds
 |.exit id' tm h nx ds=>match Nat.beq id' id with
  |true=>.norm tm h nx ds
  |false=>.exit id' tm h nx ds
 |.ret tm h nx ds=>.ret tm h nx ds
 |.fail=>.fail
def zP8 (ih:Code→CE) (id:Nat)(a:Code)(tm:Tr AV)(h:Tr ABlk) (nx:Nat)(ds:List DE):ER:=zA9 id (ih a tm h nx ds)
def zUs:CE:=fun _ _ _ _=>.fail
def busy:LoopState→Bool
 |.busy=>true
 |_=>false
def zB2 (tm:Tr AV)(ds:List DE) (nx:Nat)(r:CO):ER:=match r with
 |.ok _ g ny=>match g.get (Nat.succ nx) with
  |some (.loop st pend _ _ _ _ _ _ _)=>match busy st with
   |true=>.fail
   |false=>match pend with
    |none=>g.putK none (Nat.succ nx) fun g=>.norm tm g ny (.mark nx::ds)
    |some .ret=>g.putK none (Nat.succ nx) fun g=>.ret tm g ny (.mark nx::ds)
    |some (.exit id)=>g.putK none (Nat.succ nx) fun g=>.exit id tm g ny (.mark nx::ds)
    |_=>.fail
  |_=>.fail
 |.fail=>.fail
def ztg (c:Cx)(ca:Ca)(inr:Bool) (sz:Nat)(go:Operand)(ps:Array Tmp)(assign body:Code)(tm:Tr AV)(h:Tr ABlk) (nx:Nat)(ds:List DE):ER:=match inr with
 |true=>.fail
 |false=>match evO c.G tm go with
  |some (.func fid first cap)=>match c.ft.get fid with
   |some _=>fN (Nat.succ nx) fun n1=>fN (Nat.succ n1) fun n2=>h.putK (some .dfr) nx fun h=>h.putK (some (.loop .ready none 0 sz tm ps assign body nx)) n1 fun h=>zB2 tm ds nx (ca fid (first++(.yld n1::cap)) h n2)
   |none=>.fail
  |_=>.fail
def zS5 (c:Cx)(ca:Ca)(ya:Ya)(ed:Ed)(inr:Bool) (sz:Nat)(ih:Code→CE)(code:Code):CE:=
 match code with
 |.skip=>ER.norm
 |.label _=>ER.norm
 |.region _ ops draw=>zKa c ca ya ed sz ops draw
 |.seq a b=>zIj ih a b
 |.cond x a b=>zMx c ih x a b
 |.block id a=>zP8 ih id a
 |.loop a=>zJt ih a
 |.rangeFunc go ps x y=>ztg c ca inr sz go ps x y
 |.scope a=>ih a
 |.exit id=>ER.exit id
 |.ret=>ER.ret
 |_=>zUs
def evC (c:Cx)(ca:Ca)(ya:Ya)(ed:Ed)(inr:Bool) (sz:Nat) (m:Nat):Code→CE:=
 Nat.rec (motive:=fun _=>Code→CE) (fun _ _ _ _ _=>.fail) (fun _ ih=>zS5 c ca ya ed inr sz ih) m
def zwn (h:Tr ABlk)(ds:List DE)(k:Tr ABlk→CO):CO:=
 List.rec (motive:=fun _=>Tr ABlk→CO) k (fun d _ ih h=>match d with
  |.mark i=>match h.get i with
   |some .dfr=>h.putK none i ih
   |_=>.fail
  |.fn _ _ _=>.fail) ds h
def zs2 (c:Cx)(rs:List ResultVar)(tm:Tr AV)(h:Tr ABlk) (nx:Nat)(ds:List DE):CO:=
 zwn h ds fun h=>match zco c tm h nx rs with
  |some l=>.ok (zf3 l) h nx
  |none=>.fail
def zw2 (c:Cx)(ca:Ca)(ya:Ya)(ed:Ca→Ya→Ed) (m:Nat):Ca:=fun f args h nx=>
 match c.ft.get f with
 |none=>.fail
 |some fn=>match fn.body with
  |none=>.fail
  |some code=>match Nat.ble args.length fn.ntmps with
   |false=>.fail
   |true=>zft args .nil 0 fun tm=>match evC c ca ya (ed ca ya) false fn.ntmps m code tm h nx [] with
    |.norm tm h nx ds=>zs2 c fn.results.toList tm h nx ds
    |.ret tm h nx ds=>zs2 c fn.results.toList tm h nx ds
    |_=>.fail
def putPK (ps:List Tmp)(vs:List AV)(tm:Tr AV)(k:Tr AV→CO):CO:=
 List.rec (motive:=fun _=>List AV→Tr AV→CO) (fun _ tm=>k tm) (fun t _ ih vs tm=>match vs with
  |[]=>k tm
  |v::vs=>tm.putK (some v) t (ih vs)) ps vs tm
def zn9 (i:Nat)(h:Tr ABlk)(b:Bool)(st:LoopState)(pend:Option Code) (nx:Nat):CO:=match h.get i with
 |some (.loop _ _ fn sz tm ps x y db)=>h.putK (some (.loop st pend fn sz tm ps x y db)) i fun h=>.ok (.bool b) h nx
 |_=>.fail
def zwx (c:Cx)(ca:Ca)(ya:Ya)(ed:Ca→Ya→Ed) (m:Nat):Ya:=fun i args h nx=>
 match h.get i with
 |some (.loop .ready _ _ sz tmR ps assign body _)=>match Nat.beq args.length ps.toList.length && zbi ps.toList (fun t=>Nat.ble (Nat.succ t) sz) with
  |false=>.fail
  |true=>putPK ps.toList args tmR fun tm=>match evC c ca ya (ed ca ya) true sz m assign tm h nx [] with
   |.norm tm h nx ds=>match h.get i with
    |some (.loop .ready pend fn sz' tmR ps x y db)=>h.putK (some (.loop .busy pend fn sz' tmR ps x y db)) i fun h=>match evC c ca ya (ed ca ya) true sz m body tm h nx ds with
     |.norm _ h nx _=>zn9 i h true .ready none nx
     |.ret _ h nx _=>zn9 i h false .done (some .ret) nx
     |.exit id _ h nx _=>zn9 i h false .done (some (.exit id)) nx
     |.fail=>.fail
    |_=>.fail
   |_=>.fail
 |_=>.fail
inductive CY where
 |mk (ca:Ca) (ya:Ya)
def CY.ca:CY→Ca |.mk a _=>a
def CY.ya:CY→Ya |.mk _ y=>y
def ev (c:Cx)(hook:Ca→Ca)(ed:Ca→Ya→Ed) (m:Nat) (n:Nat):CY:=
 Nat.rec (motive:=fun _=>CY) (.mk (fun _ _ _ _=>.fail) (fun _ _ _ _=>.fail)) (fun _ ih=>.mk (hook (zw2 c ih.ca ih.ya ed m)) (zwx c ih.ca ih.ya ed m)) n
end
end Go.Ev
namespace Go.Ev
noncomputable section
variable {P : Program} {c : Cx} {σ τ υ : Sg} {h g f : Tr ABlk} {nx ny nz sz : Nat} {ds : List DE} {w x y : World} {tm : Tr AV} {a : Act}
theorem zml {d:Option Tmp}{v:AV}{k:Tr AV→OS}{r:OS}(he:zhe sz d v tm k=r)(hr:r≠.fail)(ht:St σ tm a sz ds){V:Value}(hv:Rel σ v V):∃tm',k tm'=r∧St σ tm' (a.put d V) sz ds:=by
 unfold zhe at he
 cases d with
 |none=>exact⟨tm,he,ht⟩
 |some d=>
  simp only at he
  cases hb:Nat.ble (Nat.succ d) sz with
  |false=>rw[hb]at he;exact absurd he.symm hr
  |true=>
   rw[hb]at he
   simp only[Tr.putK_eq]at he
   exact⟨_,he,ht.put (Nat.le_of_ble_eq_true hb) hv⟩
theorem zH6 (hc:CxOk P c)(hk:Ok c.G σ h nx w)(ht:zd8 σ tm a)(o:Oper):RO P c.G σ h nx w (execOp a.eval o) (evZ c o.op tm h nx):=by
 obtain⟨dst,op,type,pos,after,guard⟩:=o
 show RO P c.G σ h nx w (execOp a.eval _) (evZ c op tm h nx)
 unfold evZ
 split
 ·rename_i t x lo
  split
  ·rename_i elem size bytes zero o0 s b0 fs htt
   split
   ·rename_i i o len cc hx
    split
    ·rename_i l hlo
     cases hb:Nat.beq l len with
     |false=>trivial
     |true=>
      have e:=Nat.eq_of_beq_eq_true hb
      subst e
      obtain⟨hu,inf,hi',hs,hby,hzz,hff,hfl0,he⟩:=hc.tt _ _ htt
      have htf:=he elem (.inl rfl) o0 s b0 rfl
      have hX:=zde hk ht hx
      have hL:=zde hk ht hlo
      simp only[Rel,if_true]at hX hL
      obtain⟨bb,hb0,e1,hlc⟩:=hX
      have e2:execOp a.eval ⟨dst,.slice t x (some lo) none none,type,pos,after,guard⟩=(do pure (.value (← Instr.sliceAt t (a.eval x) (some (a.eval lo)) none none))):=rfl
      rw[e2]
      refine RO.ofV ?_
      have hsb:=zhk (P:=P) true l (σ.cap i-cc) (lo:=some (a.eval lo)) (hi:=none) (mx:=none) (l:=l) (hh:=l) (m:=σ.cap i-cc) rfl ⟨rfl,rfl⟩ ⟨⟨.i64,hL⟩,Nat.le_refl _⟩ w
      generalize σ.cap i-cc=m at e1 hsb hlc
      refine SV.pure hk (V:=.slice (some (if m=l then ⟨bb,o,none⟩ else ⟨bb,o+l * s,none⟩)) 0 (m-l)) ?_ ?_
      ·rw[e1]
       by_cases hml:m=l
       ·subst hml
        simp[Instr.sliceAt,run_underlying hu,Instr.slice,hsb,htf.size]
       ·simp[Instr.sliceAt,run_underlying hu,Instr.slice,hsb,htf.size,hml,zcm]
      ·simp only[Rel]
       exact⟨_,_,rfl,Nat.zero_le _,fun h=>by simp at h,fun h=>by simp at h,fun h=>by simp at h⟩
    ·trivial
   ·trivial
  ·trivial
 ·trivial
theorem zS1 (hc:CxOk P c)(hk:Ok c.G σ h nx w)(ht:zd8 σ tm a)(o:Oper):RO P c.G σ h nx w (execOp a.eval o) (orR (zdp c o.op tm h nx) (evZ c o.op tm h nx)):=by
 have h1:=zv1 hc hk ht o
 cases he:zdp c o.op tm h nx with
 |fail=>exact zH6 hc hk ht o
 |val v g n=>rw[he]at h1;exact h1
 |unit g n=>rw[he]at h1;exact h1
theorem zB5 (hc:CxOk P c){ca:Ca}(hca:zcw P c ca){ya:Ya}(hya:zfc P c ya){ops:Array Oper}{o:Oper}{k:Tr AV→Tr ABlk→Nat→OS}{r:OS}(hs:zoi c ca ya sz ops.toList o tm h nx k=r)(hr:r≠.fail){rr:Option Nat}(hk:Ok c.G σ h nx w)(ht:St σ tm a sz ds)(Q:Exit→Act→World→Prop)(L:Act→World→Prop)
  (hK:∀τ tm1 a1 w1 h1 nx1,k tm1 h1 nx1=r→Post c.G σ h nx w τ h1 nx1 w1→St τ tm1 a1 sz ds→L a1 w1):
  if Region.wanted o (yielded ops a.tmps) then o.wpIn (zbb rr) 0 P a w L Q else (∀f,o.about P w a.eval=some f→(zbb rr).fn f)∧L (a.put o.dst undef) w:=by
 unfold zoi at hs
 cases hw:zbz ops.toList tm o with
 |none=>rw[hw]at hs;exact absurd hs.symm hr
 |some b=>
  rw[zjp ht.tm hw]
  rw[hw]at hs
  cases b with
  |false=>
   simp only[Bool.false_eq_true,if_false]
   obtain⟨tm',e1,e2⟩:=zml hs hr ht zhp
   exact⟨fun _ _=>trivial,hK σ tm' _ w h nx e1 (.refl hk) e2⟩
  |true=>
   simp only[if_true]
   simp only at hs
   unfold zy0 at hs
   have plain:zdo o.op=none→o.wpIn (zbb rr) 0 P a w L Q:=by
    intro hcn
    rw[hcn]at hs
    simp only at hs
    cases hd0:zfm o.op with
    |true=>rw[hd0]at hs;exact absurd hs.symm hr
    |false=>
    rw[hd0]at hs
    simp only at hs
    have hd:∀cl,o.op≠.defer cl:=fun cl e=>by rw[e]at hd0;cases hd0
    have hp:=zS1 hc hk ht.tm o
    cases hv:orR (zdp c o.op tm h nx) (evZ c o.op tm h nx) with
    |fail=>rw[hv]at hs;exact absurd hs.symm hr
    |val v g ny=>
     rw[hv]at hs hp
     replace hs:(zhe sz o.dst v tm fun tm=>k tm g ny)=r:=hs
     obtain⟨V,τ,x,h1,h2,h3⟩:=hp
     obtain⟨tm',e1,e2⟩:=zml hs hr (ht.mono h3.le) h2
     refine zdc hd ?_
     rw[h1]
     exact hK τ tm' _ x g ny e1 h3 e2
    |unit g ny=>
     rw[hv]at hs hp
     replace hs:(zhe sz o.dst (.tup []) tm fun tm=>k tm g ny)=r:=hs
     obtain⟨τ,x,h1,h3⟩:=hp
     obtain⟨tm',e1,e2⟩:=zml hs hr (ht.mono h3.le) zhp
     refine zdc hd ?_
     rw[h1]
     exact hK τ tm' _ x g ny e1 h3 e2
   obtain⟨dst,op,type,pos,after,guard⟩:=o
   cases op <;> try exact plain rfl
   rename_i cl
   obtain⟨callee,args,argTypes⟩:=cl
   cases callee <;> try exact plain rfl
   rename_i fo
   clear plain
   replace hs:zs0 sz dst tm k (zpu ca ya (evO c.G tm fo) (zb2 c.G tm args.toList) h nx)=r:=hs
   cases hf:evO c.G tm fo with
   |none=>rw[hf]at hs;exact absurd hs.symm hr
   |some fv=>
    rw[hf]at hs
    have hfv:=zde hk ht.tm hf
    cases fv <;> try exact absurd hs.symm hr
    case yld i=>
     cases hl:zb2 c.G tm args.toList with
     |none=>rw[hl]at hs;exact absurd hs.symm hr
     |some l=>
      rw[hl]at hs
      replace hs:zs0 sz dst tm k (ya i l h nx)=r:=hs
      cases hy:ya i l h nx with
      |fail=>rw[hy]at hs;exact absurd hs.symm hr
      |ok v0 g0 n0=>
      rw[hy]at hs
      replace hs:(zhe sz dst v0 tm fun tm=>k tm g0 n0)=r:=hs
      have hlr:=zh1 hk ht.tm hl
      simp only[Rel]at hfv
      obtain⟨lb,hlb,e1⟩:=hfv
      obtain⟨fn,tmps,assign,body,hy1,hy2⟩:=hya i l h nx v0 g0 n0 hy σ w (args.toList.map a.eval) lb hk hlr hlb
      have hex:(execOp a.eval ⟨dst,.call ⟨.value fo,args,argTypes⟩,type,pos,after,guard⟩).run P w=(Instr.yield lb (args.toList.map a.eval).toArray).run P w:=by
       have e2:execOp a.eval ⟨dst,.call ⟨.value fo,args,argTypes⟩,type,pos,after,guard⟩=(do let d ← Deferred.ofValue (a.eval fo) (args.map a.eval);invoke d.target d.args):=rfl
       rw[e2,e1]
       show (Instr.yield lb (#[]++args.map a.eval)).run P w=_
       congr 2
       apply Array.ext'
       simp
      refine zdc (fun _ e=>by cases e) ?_
      rw[hex,hy1]
      refine⟨fun hh=>by simp[zbb,Fence.wide]at hh,zuu (hy2.mono fun e x q=>?_)⟩
      cases e with
      |returned V=>
       obtain⟨τ,v,g,ny,q1,q2,q3,q4,q5⟩:=q
       subst q3
       subst q4
       subst q5
       obtain⟨tm',k1,k2⟩:=zml hs hr (ht.mono q2.le) q1
       exact hK τ tm' _ x _ _ k1 q2 k2
      |panicked ch=>exact q.elim
      |outgrown=>exact q.elim
    rename_i fid first cap
    cases hl:zb2 c.G tm args.toList with
    |none=>rw[hl]at hs;exact absurd hs.symm hr
    |some l=>
     rw[hl]at hs
     replace hs:zs0 sz dst tm k (ca fid (first++(l++cap)) h nx)=r:=hs
     cases hy:ca fid (first++(l++cap)) h nx with
     |fail=>rw[hy]at hs;exact absurd hs.symm hr
     |ok v0 g0 n0=>
     rw[hy]at hs
     replace hs:(zhe sz dst v0 tm fun tm=>k tm g0 n0)=r:=hs
     have hlr:=zh1 hk ht.tm hl
     simp only[Rel]at hfv
     obtain⟨F,C,e1,r1,r2⟩:=hfv
     have hcr:=hca fid _ h nx v0 g0 n0 hy σ w (F++(args.toList.map a.eval++C)) hk (r1.append (hlr.append r2))
     have hex:(execOp a.eval ⟨dst,.call ⟨.value fo,args,argTypes⟩,type,pos,after,guard⟩).run P w=(callFunc fid (F++(args.toList.map a.eval++C)).toArray).run P w:=by
      have e2:execOp a.eval ⟨dst,.call ⟨.value fo,args,argTypes⟩,type,pos,after,guard⟩=(do let d ← Deferred.ofValue (a.eval fo) (args.map a.eval);invoke d.target d.args):=rfl
      rw[e2,e1]
      show (callFunc fid (F.toArray++args.map a.eval++C.toArray)).run P w=_
      congr 2
      apply Array.ext'
      simp
     refine zdc (fun _ e=>by cases e) ?_
     rw[hex]
     unfold CR at hcr
     cases hrun:(callFunc fid (F++(args.toList.map a.eval++C)).toArray).run P w with
     |halt hh w'=>rw[hrun]at hcr;exact hcr.elim
     |ok nxt w'=>
      rw[hrun]at hcr
      cases nxt <;> try exact hcr.elim
      ·rename_i V
       obtain⟨τ,v,g,ny,q1,q2,q3,q4,q5⟩:=hcr
       subst q3
       subst q4
       subst q5
       obtain⟨tm',k1,k2⟩:=zml hs hr (ht.mono q2.le) q1
       exact hK τ tm' _ _ _ _ k1 q2 k2
      ·rename_i f' A'
       refine⟨fun hh=>by simp[zbb,Fence.wide]at hh,znv (Calls.mono hcr fun e x q=>?_)⟩
       cases e with
       |returned V=>
        obtain⟨τ,v,g,ny,q1,q2,q3,q4,q5⟩:=q
        subst q3
        subst q4
        subst q5
        obtain⟨tm',k1,k2⟩:=zml hs hr (ht.mono q2.le) q1
        exact hK τ tm' _ x _ _ k1 q2 k2
       |panicked ch=>exact q.elim
       |outgrown=>exact q.elim
theorem zB1 (hc:CxOk P c){ca:Ca}(hca:zcw P c ca){ya:Ya}(hya:zfc P c ya){ops:Array Oper}{rr:Option Nat}(Q:Exit→Act→World→Prop){r:OS}(hr:r≠.fail):∀(l:List Oper){σ tm h nx w a},zo9 c ca ya sz ops.toList l tm h nx=r→
  Ok c.G σ h nx w→St σ tm a sz ds→(∀τ tm' a' w' h' nx',r=.ok tm' h' nx'→Post c.G σ h nx w τ h' nx' w'→St τ tm' a' sz ds→Q .normal a' w')→wpListIn (zbb rr) 0 P ops Q l a w
 |[],σ,tm,h,nx,w,a,he,hk,ht,hQ=>hQ σ tm a w h nx he.symm (.refl hk) ht
 |o::l,σ,tm,h,nx,w,a,he,hk,ht,hQ=>by
  unfold wpListIn
  refine zB5 hc hca hya (k:=zo9 c ca ya sz ops.toList l) he hr hk ht _ _ fun τ tm1 a1 w1 h1 nx1 e1 p1 s1=>?_
  exact zB1 hc hca hya Q hr l e1 p1.ok s1 fun υ tm' a' w' h' nx' e2 p2 s2=>hQ υ tm' a' w' h' nx' e2 (p1.trans p2) s2
def QE:ER→AX→AS→Prop
 |.norm tm h nx ds,k,s=>k=.norm∧s=.mk tm h nx ds
 |.exit id tm h nx ds,k,s=>k=.exit id∧s=.mk tm h nx ds
 |.ret tm h nx ds,k,s=>k=.ret∧s=.mk tm h nx ds
 |.fail,_,_=>False
def zlk (P:Program)(c:Cx)(ed:Ed):Prop:=∀sz ops tm h nx tm' h' nx',ed sz ops tm h nx=.ok tm' h' nx'→∀(inr:Bool) (id:Nat)(ds:List DE),AW P c inr sz (.region id ops true) (QE (.norm tm' h' nx' ds)) (.mk tm h nx ds)
theorem ziz (hc:CxOk P c){ca:Ca}(hca:zcw P c ca){ya:Ya}(hya:zfc P c ya){ed:Ed}(hed:zlk P c ed){inr:Bool}:∀(m:Nat)(code:Code)(tm:Tr AV)(h:Tr ABlk) (nx:Nat)(ds:List DE)(r:ER),evC c ca ya ed inr sz m code tm h nx ds=r→r≠.fail→
  AW P c inr sz code (QE r) (.mk tm h nx ds):=by
 intro m
 induction m using Nat.strongRecOn with
 |_ m0 ih0=>
  intro code tm h nx ds r he hr
  cases m0 with
  |zero=>exact absurd he.symm hr
  |succ m=>
  have ih:=ih0 m (Nat.lt_succ_self m)
  cases code with
  |skip=>cases he;exact zBf ⟨rfl,rfl⟩
  |label l=>cases he;exact zAe ⟨rfl,rfl⟩
  |exit id=>cases he;exact zDj ⟨rfl,rfl⟩
  |ret=>cases he;exact zB3 ⟨rfl,rfl⟩
  |goto l=>exact absurd he.symm hr
  |refuse s=>exact absurd he.symm hr
  |scope s=>exact zAi (ih s tm h nx ds r he hr)
  |region id ops draw=>
   cases draw with
   |false=>
    change zpo ds (zo9 c ca ya sz ops.toList ops.toList tm h nx)=r at he
    cases h1:zo9 c ca ya sz ops.toList ops.toList tm h nx with
    |fail=>rw[h1]at he;exact absurd he.symm hr
    |ok tm1 g1 n1=>
     rw[h1]at he
     subst he
     intro rr hi σ a w ok st
     refine wpIn_region_list (zB1 hc hca hya _ (by simp) ops.toList h1 ok st fun τ tm' a' w' h' nx' e p s=>?_)
     cases e
     exact⟨.norm,_,_,_,_,τ,rfl,p,s,rfl,rfl⟩
   |true=>
    change zpo ds (ed sz ops tm h nx)=r at he
    cases h1:ed sz ops tm h nx with
    |fail=>rw[h1]at he;exact absurd he.symm hr
    |ok tm1 g1 n1=>
     rw[h1]at he
     subst he
     exact hed sz ops tm h nx tm1 g1 n1 h1 inr id ds
  |seq x y=>
   change zj2 (evC c ca ya ed inr sz m y) (evC c ca ya ed inr sz m x tm h nx ds)=r at he
   refine zw0 ?_
   cases h1:evC c ca ya ed inr sz m x tm h nx ds with
   |fail=>rw[h1]at he;exact absurd he.symm hr
   |norm tm1 g1 n1 d1=>
    rw[h1]at he
    refine(ih x tm h nx ds _ h1 (by simp)).mono ?_
    rintro k s ⟨rfl,rfl⟩
    exact ih y tm1 g1 n1 d1 r he hr
   |exit id tm1 g1 n1 d1=>
    rw[h1]at he
    subst he
    refine(ih x tm h nx ds _ h1 (by simp)).mono ?_
    rintro k s ⟨rfl,rfl⟩
    exact⟨rfl,rfl⟩
   |ret tm1 g1 n1 d1=>
    rw[h1]at he
    subst he
    refine(ih x tm h nx ds _ h1 (by simp)).mono ?_
    rintro k s ⟨rfl,rfl⟩
    exact⟨rfl,rfl⟩
  |cond x y z=>
   change (match evO c.G tm x with
    |some (.bool true)=>evC c ca ya ed inr sz m y tm h nx ds
    |some (.bool false)=>evC c ca ya ed inr sz m z tm h nx ds
    |_=>.fail)=r at he
   cases h1:evO c.G tm x with
   |none=>rw[h1]at he;exact absurd he.symm hr
   |some v=>
    rw[h1]at he
    cases v <;> try exact absurd he.symm hr
    rename_i b
    cases b with
    |true=>exact ztx h1 (fun _=>ih y tm h nx ds r he hr) (fun e=>by cases e)
    |false=>exact ztx h1 (fun e=>by cases e) (fun _=>ih z tm h nx ds r he hr)
  |block id x=>
   change zA9 id (evC c ca ya ed inr sz m x tm h nx ds)=r at he
   refine zAt ?_
   cases h1:evC c ca ya ed inr sz m x tm h nx ds with
   |fail=>rw[h1]at he;exact absurd he.symm hr
   |norm tm1 g1 n1 d1=>
    rw[h1]at he
    subst he
    refine(ih x tm h nx ds _ h1 (by simp)).mono ?_
    rintro k s ⟨rfl,rfl⟩
    exact⟨rfl,rfl⟩
   |ret tm1 g1 n1 d1=>
    rw[h1]at he
    subst he
    refine(ih x tm h nx ds _ h1 (by simp)).mono ?_
    rintro k s ⟨rfl,rfl⟩
    exact⟨rfl,rfl⟩
   |exit id' tm1 g1 n1 d1=>
    rw[h1]at he
    replace he:(match Nat.beq id' id with |true=>ER.norm tm1 g1 n1 d1 |false=>ER.exit id' tm1 g1 n1 d1)=r:=he
    refine(ih x tm h nx ds _ h1 (by simp)).mono ?_
    rintro k s ⟨rfl,rfl⟩
    cases hb:Nat.beq id' id with
    |true=>
     rw[hb]at he
     subst he
     have:=Nat.eq_of_beq_eq_true hb
     subst this
     simp only[zi6,if_true]
     exact⟨rfl,rfl⟩
    |false=>
     rw[hb]at he
     subst he
     simp only[zi6,if_neg (zea hb)]
     exact⟨rfl,rfl⟩
  |loop x=>
   refine zap (fun n s=>∃tm h nx ds,s=.mk tm h nx ds∧n≤m+1∧evC c ca ya ed inr sz n (.loop x) tm h nx ds=r) ⟨m+1,tm,h,nx,ds,rfl,Nat.le_refl _,he⟩ ?_
   rintro n s ⟨tm,h,nx,ds,rfl,hn,he⟩ J hJ
   cases n with
   |zero=>exact absurd he.symm hr
   |succ n=>
   change zj2 (evC c ca ya ed inr sz n (.loop x)) (evC c ca ya ed inr sz n x tm h nx ds)=r at he
   have ihn:=ih0 n (by omega)
   cases h1:evC c ca ya ed inr sz n x tm h nx ds with
   |fail=>rw[h1]at he;exact absurd he.symm hr
   |norm tm1 g1 n1 d1=>
    rw[h1]at he
    refine(ihn x tm h nx ds _ h1 (by simp)).mono ?_
    rintro k s ⟨rfl,rfl⟩
    exact hJ n _ (Nat.lt_succ_self n) ⟨tm1,g1,n1,d1,rfl,by omega,he⟩
   |exit id tm1 g1 n1 d1=>
    rw[h1]at he
    subst he
    refine(ihn x tm h nx ds _ h1 (by simp)).mono ?_
    rintro k s ⟨rfl,rfl⟩
    exact⟨rfl,rfl⟩
   |ret tm1 g1 n1 d1=>
    rw[h1]at he
    subst he
    refine(ihn x tm h nx ds _ h1 (by simp)).mono ?_
    rintro k s ⟨rfl,rfl⟩
    exact⟨rfl,rfl⟩
  |rangeFunc go ps asg body=>
   change ztg c ca inr sz go ps asg body tm h nx ds=r at he
   unfold ztg at he
   cases inr with
   |true=>exact absurd he.symm hr
   |false=>
   simp only at he
   cases hg:evO c.G tm go with
   |none=>rw[hg]at he;exact absurd he.symm hr
   |some gv=>
   rw[hg]at he
   cases gv <;> try exact absurd he.symm hr
   rename_i fid first cap
   simp only at he
   cases hft:c.ft.get fid with
   |none=>rw[hft]at he;exact absurd he.symm hr
   |some fnn=>
   rw[hft]at he
   simp only[fN_eq,Tr.putK_eq]at he
   refine zqj hc hft hg (fn0:=0) ?_
   cases hcl:ca fid (first++(.yld (Nat.succ nx)::cap)) ((h.put nx (some .dfr)).put (Nat.succ nx) (some (.loop .ready none 0 sz tm ps asg body nx))) (Nat.succ (Nat.succ nx)) with
   |fail=>rw[hcl]at he;exact absurd he.symm hr
   |ok v g ny=>
   rw[hcl]at he
   refine(hca _ _ _ _ _ _ _ hcl).mono ?_
   rintro v' g' ny' ⟨rfl,rfl,rfl⟩
   unfold zB2 at he
   simp only at he
   cases hgl:g'.get (Nat.succ nx) with
   |none=>rw[hgl]at he;exact absurd he.symm hr
   |some B=>
   rw[hgl]at he
   cases B <;> try exact absurd he.symm hr
   rename_i st pend fn sz' tmR ps' x' y' db
   simp only at he
   cases hb:busy st with
   |true=>rw[hb]at he;exact absurd he.symm hr
   |false=>
   rw[hb]at he
   simp only at he
   have hst:st≠.busy:=fun e=>by rw[e]at hb;cases hb
   refine⟨st,pend,fn,sz',tmR,ps',x',y',db,hgl,hst,?_⟩
   cases pend with
   |none=>
    simp only[Tr.putK_eq]at he
    subst he
    exact⟨rfl,rfl⟩
   |some cd=>
    cases cd <;> try exact absurd he.symm hr
    ·simp only[Tr.putK_eq]at he
     subst he
     exact⟨rfl,rfl⟩
    ·simp only[Tr.putK_eq]at he
     subst he
     exact⟨rfl,rfl⟩
theorem zCj {k:Tr ABlk→CO}{r:CO}(hr:r≠.fail):∀{ds:List DE}{h:Tr ABlk},zwn h ds k=r→zks h ds∧k (zgb h ds)=r
 |[],h,he=>⟨trivial,he⟩
 |.fn _ _ _::ds,h,he=>absurd he.symm hr
 |.mark i::ds,h,he=>by
  change (match h.get i with |some .dfr=>h.putK none i (fun h=>zwn h ds k) |_=>.fail)=r at he
  cases hi:h.get i with
  |none=>rw[hi]at he;exact absurd he.symm hr
  |some B=>
   rw[hi]at he
   cases B <;> try exact absurd he.symm hr
   simp only[Tr.putK_eq]at he
   obtain⟨h1,h2⟩:=zCj hr he
   exact⟨⟨hi,h1⟩,h2⟩
theorem zBq {rs:List ResultVar}{v:AV}(he:zs2 c rs tm h nx ds=.ok v g ny):zl7 c rs (eqQ v g ny) (.mk tm h nx ds):=by
 unfold zs2 at he
 obtain⟨h1,h2⟩:=zCj (by simp) he
 refine⟨h1,?_⟩
 cases hl:zco c tm (zgb h ds) nx rs with
 |none=>rw[hl]at h2;cases h2
 |some l=>
  rw[hl]at h2
  cases h2
  exact⟨rfl,rfl,rfl⟩
theorem zH3 (hc:CxOk P c){ca:Ca}(hca:zcw P c ca){ya:Ya}(hya:zfc P c ya){ed:Ca→Ya→Ed}(hed:zlk P c (ed ca ya)) (m:Nat):zcw P c (zw2 c ca ya ed m):=by
 intro f args h nx v g ny he
 unfold zw2 at he
 cases hft:c.ft.get f with
 |none=>rw[hft]at he;cases he
 |some fn=>
 rw[hft]at he
 simp only at he
 cases hb:fn.body with
 |none=>rw[hb]at he;cases he
 |some code=>
 rw[hb]at he
 simp only at he
 cases hl:Nat.ble args.length fn.ntmps with
 |false=>rw[hl]at he;cases he
 |true=>
 rw[hl]at he
 simp only[zdr]at he
 refine zyc hc hft hb (Nat.le_of_ble_eq_true hl) ?_
 cases hev:evC c ca ya (ed ca ya) false fn.ntmps m code (zbh args .nil 0) h nx [] with
 |fail=>rw[hev]at he;cases he
 |exit id tm1 g1 n1 d1=>rw[hev]at he;cases he
 |norm tm1 g1 n1 d1=>
  rw[hev]at he
  refine(ziz hc hca hya hed m code _ h nx [] _ hev (by simp)).mono ?_
  rintro k s ⟨rfl,rfl⟩
  exact zBq he
 |ret tm1 g1 n1 d1=>
  rw[hev]at he
  refine(ziz hc hca hya hed m code _ h nx [] _ hev (by simp)).mono ?_
  rintro k s ⟨rfl,rfl⟩
  exact zBq he
theorem putPK_eq (k:Tr AV→CO):∀(ps:List Tmp)(vs:List AV)(tm:Tr AV),putPK ps vs tm k=k (putP ps vs tm)
 |[],vs,tm=>by cases vs <;> rfl
 |t::ps,[],tm=>rfl
 |t::ps,v::vs,tm=>by
  show tm.putK (some v) t (fun tm=>putPK ps vs tm k)=_
  rw[Tr.putK_eq,putPK_eq k ps vs]
  rfl
theorem zTq (hc:CxOk P c){ca:Ca}(hca:zcw P c ca){ya:Ya}(hya:zfc P c ya){ed:Ca→Ya→Ed}(hed:zlk P c (ed ca ya)) (m:Nat):zfc P c (zwx c ca ya ed m):=by
 intro i args h nx v g ny he
 unfold zwx at he
 cases hi:h.get i with
 |none=>rw[hi]at he;cases he
 |some B=>
 rw[hi]at he
 cases B <;> try (cases he;done)
 rename_i st pend fn sz tmR ps assign body db
 cases st <;> try (cases he;done)
 simp only at he
 cases hck:(Nat.beq args.length ps.toList.length && zbi ps.toList (fun t=>Nat.ble (Nat.succ t) sz)) with
 |false=>rw[hck]at he;cases he
 |true=>
 rw[hck]at he
 simp only[putPK_eq]at he
 rw[Bool.and_eq_true]at hck
 have hlen:=Nat.eq_of_beq_eq_true hck.1
 refine zow hi (by simpa using hlen) (fun t ht=>Nat.le_of_ble_eq_true (zbf hck.2 t ht)) ?_
 cases hev:evC c ca ya (ed ca ya) true sz m assign (putP ps.toList args tmR) h nx [] with
 |fail=>rw[hev]at he;cases he
 |exit id tm1 g1 n1 d1=>rw[hev]at he;cases he
 |ret tm1 g1 n1 d1=>rw[hev]at he;cases he
 |norm tm1 g1 n1 d1=>
 rw[hev]at he
 simp only at he
 refine(ziz hc hca hya hed m assign _ h nx [] _ hev (by simp)).mono ?_
 rintro k s ⟨rfl,rfl⟩
 cases hi1:g1.get i with
 |none=>rw[hi1]at he;cases he
 |some B1=>
 rw[hi1]at he
 cases B1 <;> try (cases he;done)
 rename_i st1 pend1 fn1 sz1 tmR1 ps1 x1 y1 db1
 cases st1 <;> try (cases he;done)
 simp only[Tr.putK_eq]at he
 refine⟨pend1,fn1,sz1,tmR1,ps1,x1,y1,db1,hi1,?_⟩
 have fin:∀{g2:Tr ABlk} {n2:Nat} {b:Bool} {st:LoopState} {pd:Option Code},zn9 i g2 b st pd n2=.ok v g ny→∃st' pend fn sz tm ps x y db,g2.get i=some (.loop st' pend fn sz tm ps x y db)∧eqQ v g ny (.bool b) (g2.put i (some (.loop st pd fn sz tm ps x y db))) n2:=by
  intro g2 n2 b st pd hr
  unfold zn9 at hr
  cases hi2:g2.get i with
  |none=>rw[hi2]at hr;cases hr
  |some B2=>
   rw[hi2]at hr
   cases B2 <;> try (cases hr;done)
   simp only[Tr.putK_eq]at hr
   cases hr
   exact⟨_,_,_,_,_,_,_,_,_,rfl,rfl,rfl,rfl⟩
 cases hev2:evC c ca ya (ed ca ya) true sz m body tm1 (g1.put i (some (.loop .busy pend1 fn1 sz1 tmR1 ps1 x1 y1 db1))) n1 d1 with
 |fail=>rw[hev2]at he;cases he
 |norm tm2 g2 n2 d2=>
  rw[hev2]at he
  refine(ziz hc hca hya hed m body _ _ n1 d1 _ hev2 (by simp)).mono ?_
  rintro k s ⟨rfl,rfl⟩
  exact fin he
 |ret tm2 g2 n2 d2=>
  rw[hev2]at he
  refine(ziz hc hca hya hed m body _ _ n1 d1 _ hev2 (by simp)).mono ?_
  rintro k s ⟨rfl,rfl⟩
  exact fin he
 |exit id tm2 g2 n2 d2=>
  rw[hev2]at he
  refine(ziz hc hca hya hed m body _ _ n1 d1 _ hev2 (by simp)).mono ?_
  rintro k s ⟨rfl,rfl⟩
  exact fin he
theorem ztr (hc:CxOk P c){hook:Ca→Ca}(hh:∀ca,zcw P c ca→zcw P c (hook ca)){ed:Ca→Ya→Ed}(hed:∀ca ya,zcw P c ca→zfc P c ya→zlk P c (ed ca ya)) (m:Nat):∀n,zcw P c (ev c hook ed m n).ca∧zfc P c (ev c hook ed m n).ya
 |0=>⟨(fun _ _ _ _ _ _ _ he=>by cases he),(fun _ _ _ _ _ _ _ he=>by cases he)⟩
 |n+1=>by
  obtain⟨h1,h2⟩:=ztr hc hh hed m n
  have h3:=hed _ _ h1 h2
  exact⟨hh _ (zH3 hc h1 h2 h3 m),zTq hc h1 h2 h3 m⟩
end
end Go.Ev
