/- Texts. -/
import Derived.Test.YtkdnmldmffkkoaaGreatDoorP10
set_option linter.unusedSimpArgs false
set_option linter.unusedVariables false
set_option maxRecDepth 100000
namespace Go.Ev
inductive CO where
 |ok (v:AV) (h:Tr ABlk) (nx:Nat)
 |fail
inductive OS where
 |ok (tm:Tr AV) (h:Tr ABlk) (nx:Nat)
 |fail
inductive ER where
 |norm (tm:Tr AV) (h:Tr ABlk) (nx:Nat) (ds:List DE)
 |exit (id:Nat) (tm:Tr AV) (h:Tr ABlk) (nx:Nat) (ds:List DE)
 |ret (tm:Tr AV) (h:Tr ABlk) (nx:Nat) (ds:List DE)
 |fail
abbrev Ca:=FuncId→List AV→Tr ABlk→Nat→CO
abbrev Ya:=Nat→List AV→Tr ABlk→Nat→CO
def zb (v:AV)(g:Tr ABlk) (ny:Nat):AV→Tr ABlk→Nat→Prop:=fun v' g' oy=>v'=v∧g'=g∧oy=ny
def jn (P:Program)(c:Cx)(ca:Ca):Prop:=∀f args h nx v g ny,ca f args h nx=.ok v g ny→aN P c f args h nx (zb v g ny)
def pD (P:Program)(c:Cx)(ya:Ya):Prop:=∀i args h nx v g ny,ya i args h nx=.ok v g ny→tl P c i args h nx (zb v g ny)
noncomputable section
def uI (sz:Nat)(d:Option Tmp)(v:AV)(tm:Tr AV)(k:Tr AV→OS):OS:=
 match d with
 |none=>k tm
 |some d=>match Nat.ble (Nat.succ d) sz with
  |true=>tm.putK (some v) d k
  |false=>.fail
def zGc (sz:Nat)(dst:Option Tmp)(tm:Tr AV)(k:Tr AV→Tr ABlk→Nat→OS)(r:R):OS:=
 match r with
 |.val v h nx=>uI sz dst v tm fun tm=>k tm h nx
 |.unit h nx=>uI sz dst (.tup []) tm fun tm=>k tm h nx
 |.fail=>.fail
def Li (sz:Nat)(dst:Option Tmp)(tm:Tr AV)(k:Tr AV→Tr ABlk→Nat→OS)(r:CO):OS:=
 match r with
 |.ok v h nx=>uI sz dst v tm fun tm=>k tm h nx
 |.fail=>.fail
def J0 (ca:Ca)(ya:Ya)(f:Option AV)(l:Option (List AV))(h:Tr ABlk) (nx:Nat):CO:=
 match f with
 |some (.func fid first cap)=>match l with
  |some l=>ca fid (first++(l++cap)) h nx
  |none=>.fail
 |some (.yld i)=>match l with
  |some l=>ya i l h nx
  |none=>.fail
 |_=>.fail
def BY (c:Cx)(op:Op)(tm:Tr AV)(h:Tr ABlk) (nx:Nat):R:=match op with
 |.slice t x (some lo) none none=>match c.tt.get t with
  |some (.mk (.slice _) _ _ _ ((_,s,_)::_))=>match aM c.G tm x with
   |some (.sl _ _ len _ true)=>match aM c.G tm lo with
    |some (.int .i64 (.ofNat l))=>match Nat.beq l len with
     |true=>.val (.fz s false []) h nx
     |false=>.fail
    |_=>.fail
   |_=>.fail
  |_=>.fail
 |_=>.fail
def OA (r q:R):R:=match r with
 |.val v h nx=>.val v h nx
 |.unit h nx=>.unit h nx
 |.fail=>q
def zy0 (c:Cx)(ca:Ca)(ya:Ya) (sz:Nat)(o:Oper)(tm:Tr AV)(h:Tr ABlk) (nx:Nat)(k:Tr AV→Tr ABlk→Nat→OS):OS:=
 match kA o.op with
 |some (f,args)=>Li sz o.dst tm k (J0 ca ya (aM c.G tm f) (cZ c.G tm args.toList) h nx)
 |none=>match qC o.op with
  |true=>.fail
  |false=>zGc sz o.dst tm k (OA (jF c o.op tm h nx) (BY c o.op tm h nx))
def Hq (c:Cx)(ca:Ca)(ya:Ya) (sz:Nat)(ops:List Oper)(o:Oper)(tm:Tr AV)(h:Tr ABlk) (nx:Nat)(k:Tr AV→Tr ABlk→Nat→OS):OS:=
 match fY ops tm o with
 |none=>.fail
 |some false=>uI sz o.dst (.tup []) tm fun tm=>k tm h nx
 |some true=>zy0 c ca ya sz o tm h nx k
def Hh (c:Cx)(ca:Ca)(ya:Ya) (sz:Nat)(ops:List Oper)(l:List Oper):Tr AV→Tr ABlk→Nat→OS:=
 List.rec (motive:=fun _=>Tr AV→Tr ABlk→Nat→OS) (fun tm h nx=>.ok tm h nx) (fun o _ ih tm h nx=>Hq c ca ya sz ops o tm h nx ih) l
def JV (ds:List DE)(r:OS):ER:=match r with
 |.ok tm h nx=>.norm tm h nx ds
 |.fail=>.fail
abbrev CE:=Tr AV→Tr ABlk→Nat→List DE→ER
abbrev Ed:=Nat→Array Oper→Tr AV→Tr ABlk→Nat→OS
def zKa (c:Cx)(ca:Ca)(ya:Ya)(ed:Ed) (sz:Nat)(ops:Array Oper)(draw:Bool)(tm:Tr AV)(h:Tr ABlk) (nx:Nat)(ds:List DE):ER:=
 match draw with
 |false=>JV ds (Hh c ca ya sz ops.toList ops.toList tm h nx)
 |true=>JV ds (ed sz ops tm h nx)
def xe (k:CE)(r:ER):ER:=match r with
 |.norm tm h nx ds=>k tm h nx ds
 |.exit id tm h nx ds=>.exit id tm h nx ds
 |.ret tm h nx ds=>.ret tm h nx ds
 |.fail=>.fail
def zIj (ih:Code→CE)(a b:Code)(tm:Tr AV)(h:Tr ABlk) (nx:Nat)(ds:List DE):ER:=xe (ih b) (ih a tm h nx ds)
def zJt (ih:Code→CE)(a:Code)(tm:Tr AV)(h:Tr ABlk) (nx:Nat)(ds:List DE):ER:=xe (ih (.loop a)) (ih a tm h nx ds)
def zMx (c:Cx)(ih:Code→CE)(x:Operand)(a b:Code)(tm:Tr AV)(h:Tr ABlk) (nx:Nat)(ds:List DE):ER:=match aM c.G tm x with
 |some (.bool true)=>ih a tm h nx ds
 |some (.bool false)=>ih b tm h nx ds
 |_=>.fail
def WC (id:Nat)(r:ER):ER:=match r with
 |.norm tm h nx ds=>.norm tm h nx ds
 |.exit iS tm h nx ds=>match Nat.beq iS id with
  |true=>.norm tm h nx ds
  |false=>.exit iS tm h nx ds
 |.ret tm h nx ds=>.ret tm h nx ds
 |.fail=>.fail
def zP8 (ih:Code→CE) (id:Nat)(a:Code)(tm:Tr AV)(h:Tr ABlk) (nx:Nat)(ds:List DE):ER:=WC id (ih a tm h nx ds)
def zUs:CE:=fun _ _ _ _=>.fail
def busy:LoopState→Bool
 |.busy=>true
 |_=>false
def Xb (tm:Tr AV)(ds:List DE) (nx:Nat)(r:CO):ER:=match r with
 |.ok _ g ny=>match g.get (Nat.succ nx) with
  |some (.loop st bh _ _ _ _ _ _ _)=>match busy st with
   |true=>.fail
   |false=>match bh with
    |none=>g.putK none (Nat.succ nx) fun g=>.norm tm g ny (.mark nx::ds)
    |some .ret=>g.putK none (Nat.succ nx) fun g=>.ret tm g ny (.mark nx::ds)
    |some (.exit id)=>g.putK none (Nat.succ nx) fun g=>.exit id tm g ny (.mark nx::ds)
    |_=>.fail
  |_=>.fail
 |.fail=>.fail
def Qk (c:Cx)(ca:Ca)(inr:Bool) (sz:Nat)(go:Operand)(ps:Array Tmp)(assign body:Code)(tm:Tr AV)(h:Tr ABlk) (nx:Nat)(ds:List DE):ER:=match inr with
 |true=>.fail
 |false=>match aM c.G tm go with
  |some (.func fid first cap)=>match c.ft.get fid with
   |some _=>fN (Nat.succ nx) fun n1=>fN (Nat.succ n1) fun n2=>h.putK (some .dfr) nx fun h=>h.putK (some (.loop .ready none 0 sz tm ps assign body nx)) n1 fun h=>Xb tm ds nx (ca fid (first++(.yld n1::cap)) h n2)
   |none=>.fail
  |_=>.fail
def zS5 (c:Cx)(ca:Ca)(ya:Ya)(ed:Ed)(inr:Bool) (sz:Nat)(ih:Code→CE)(code:Code):CE:=
 match code with
 |.skip=>ER.norm
 |.label _=>ER.norm
 |.region _ ops draw=>zKa c ca ya ed sz ops draw
 |.seq a b=>zIj ih a b
 |.cond x a b=>zMx c ih x a b
 |.block id a=>zP8 ih id a
 |.loop a=>zJt ih a
 |.rangeFunc go ps x y=>Qk c ca inr sz go ps x y
 |.scope a=>ih a
 |.exit id=>ER.exit id
 |.ret=>ER.ret
 |_=>zUs
def jt (c:Cx)(ca:Ca)(ya:Ya)(ed:Ed)(inr:Bool) (sz:Nat) (m:Nat):Code→CE:=
 Nat.rec (motive:=fun _=>Code→CE) (fun _ _ _ _ _=>.fail) (fun _ ih=>zS5 c ca ya ed inr sz ih) m
def Sm (h:Tr ABlk)(ds:List DE)(k:Tr ABlk→CO):CO:=
 List.rec (motive:=fun _=>Tr ABlk→CO) k (fun d _ ih h=>match d with
  |.mark i=>match h.get i with
   |some .dfr=>h.putK none i ih
   |_=>.fail
  |.fn _ _ _=>.fail) ds h
def Lk (c:Cx)(rs:List ResultVar)(tm:Tr AV)(h:Tr ABlk) (nx:Nat)(ds:List DE):CO:=
 Sm h ds fun h=>match iU c tm h nx rs with
  |some l=>.ok (po l) h nx
  |none=>.fail
def RS (c:Cx)(ca:Ca)(ya:Ya)(ed:Ca→Ya→Ed) (m:Nat):Ca:=fun f args h nx=>
 match c.ft.get f with
 |none=>.fail
 |some fn=>match fn.body with
  |none=>.fail
  |some code=>match Nat.ble args.length fn.ntmps with
   |false=>.fail
   |true=>qV args .nil 0 fun tm=>match jt c ca ya (ed ca ya) false fn.ntmps m code tm h nx [] with
    |.norm tm h nx ds=>Lk c fn.results.toList tm h nx ds
    |.ret tm h nx ds=>Lk c fn.results.toList tm h nx ds
    |_=>.fail
def putPK (ps:List Tmp)(vs:List AV)(tm:Tr AV)(k:Tr AV→CO):CO:=
 List.rec (motive:=fun _=>List AV→Tr AV→CO) (fun _ tm=>k tm) (fun t _ ih vs tm=>match vs with
  |[]=>k tm
  |v::vs=>tm.putK (some v) t (ih vs)) ps vs tm
def Gz (i:Nat)(h:Tr ABlk)(b:Bool)(st:LoopState)(bh:Option Code) (nx:Nat):CO:=match h.get i with
 |some (.loop _ _ fn sz tm ps x y db)=>h.putK (some (.loop st bh fn sz tm ps x y db)) i fun h=>.ok (.bool b) h nx
 |_=>.fail
def Sw (c:Cx)(ca:Ca)(ya:Ya)(ed:Ca→Ya→Ed) (m:Nat):Ya:=fun i args h nx=>
 match h.get i with
 |some (.loop .ready _ _ sz ff ps assign body _)=>match Nat.beq args.length ps.toList.length && eg ps.toList (fun t=>Nat.ble (Nat.succ t) sz) with
  |false=>.fail
  |true=>putPK ps.toList args ff fun tm=>match jt c ca ya (ed ca ya) true sz m assign tm h nx [] with
   |.norm tm h nx ds=>match h.get i with
    |some (.loop .ready bh fn CG ff ps x y db)=>h.putK (some (.loop .busy bh fn CG ff ps x y db)) i fun h=>match jt c ca ya (ed ca ya) true sz m body tm h nx ds with
     |.norm _ h nx _=>Gz i h true .ready none nx
     |.ret _ h nx _=>Gz i h false .done (some .ret) nx
     |.exit id _ h nx _=>Gz i h false .done (some (.exit id)) nx
     |.fail=>.fail
    |_=>.fail
   |_=>.fail
 |_=>.fail
inductive CY where
 |mk (ca:Ca) (ya:Ya)
def CY.ca:CY→Ca |.mk a _=>a
def CY.ya:CY→Ya |.mk _ y=>y
def ev (c:Cx)(sI:Ca→Ca)(ed:Ca→Ya→Ed) (m:Nat) (n:Nat):CY:=
 Nat.rec (motive:=fun _=>CY) (.mk (fun _ _ _ _=>.fail) (fun _ _ _ _=>.fail)) (fun _ ih=>.mk (sI (RS c ih.ca ih.ya ed m)) (Sw c ih.ca ih.ya ed m)) n
end
end Go.Ev
namespace Go.Ev
noncomputable section
variable {P : Program} {c : Cx} {σ τ υ : Sg} {h g f : Tr ABlk} {nx ny nz sz : Nat} {ds : List DE} {w x y : World} {tm : Tr AV} {a : Act}
theorem Dx {d:Option Tmp}{v:AV}{k:Tr AV→OS}{r:OS}(he:uI sz d v tm k=r)(hr:r≠.fail)(ht:St σ tm a sz ds){V:Value}(hv:av σ v V):∃tm',k tm'=r∧St σ tm' (a.put d V) sz ds:=by
 unfold uI at he;cases d with
 |none=>exact⟨tm,he,ht⟩
 |some d=>
  simp only at he;cases hb:Nat.ble (Nat.succ d) sz with
  |false=>rw[hb]at he;exact absurd he.symm hr
  |true=>
   rw[hb]at he;simp only[Tr.putK_eq]at he;exact⟨_,he,ht.put (ah hb) hv⟩
theorem zH6 (hc:CxOk P c)(hk:Ok c.G σ h nx w)(ht:jQ σ tm a)(o:Oper):RO P c.G σ h nx w (execOp a.eval o) (BY c o.op tm h nx):=by
 obtain⟨dst,op,type,pos,after,guard⟩:=o;show RO P c.G σ h nx w (execOp a.eval _) (BY c op tm h nx);unfold BY;split
 ·rename_i t x lo;split
  ·rename_i elem size bytes zero o0 s b0 fs FY;split
   ·rename_i i o len cc hx;split
    ·rename_i l fu;cases hb:Nat.beq l len with
     |false=>trivial
     |true=>
      have e:=ad hb;subst e;obtain⟨hu,inf,hi',hs,nB,eN,MZ,sf,he⟩:=hc.tt _ _ FY;have dL:=he elem (.inl rfl) o0 s b0 rfl;have hX:=jT hk ht hx;have hL:=jT hk ht fu;simp only[av,if_true]at hX hL;obtain⟨bb,fC,e1,gP⟩:=hX;have e2:execOp a.eval ⟨dst,.slice t x (some lo) none none,type,pos,after,guard⟩=(do pure (.value (← Instr.sliceAt t (a.eval x) (some (a.eval lo)) none none))):=rfl;rw[e2];refine RO.ofV ?_;have fe:=uM (P:=P) true l (σ.cap i-cc) (lo:=some (a.eval lo)) (hi:=none) (mx:=none) (l:=l) (hh:=l) (m:=σ.cap i-cc) rfl ⟨rfl,rfl⟩ ⟨⟨.i64,hL⟩,ae _⟩ w;generalize σ.cap i-cc=m at e1 fe gP;refine SV.pure hk (V:=.slice (some (if m=l then ⟨bb,o,none⟩ else ⟨bb,o+l * s,none⟩)) 0 (m-l)) ?_ ?_
      ·rw[e1]
       by_cases fF:m=l
       ·subst fF;simp[Instr.sliceAt,run_underlying hu,Instr.slice,fe,dL.size]
       ·simp[Instr.sliceAt,run_underlying hu,Instr.slice,fe,dL.size,fF,iM]
      ·simp only[av];exact⟨_,_,rfl,Nat.zero_le _,fun h=>by simp at h,fun h=>by simp at h,fun h=>by simp at h⟩
    ·trivial
   ·trivial
  ·trivial
 ·trivial
theorem zS1 (hc:CxOk P c)(hk:Ok c.G σ h nx w)(ht:jQ σ tm a)(o:Oper):RO P c.G σ h nx w (execOp a.eval o) (OA (jF c o.op tm h nx) (BY c o.op tm h nx)):=by
 have h1:=Rb hc hk ht o;cases he:jF c o.op tm h nx with
 |fail=>exact zH6 hc hk ht o
 |val v g n=>rw[he]at h1;exact h1
 |unit g n=>rw[he]at h1;exact h1
theorem Xe (hc:CxOk P c){ca:Ca}(df:jn P c ca){ya:Ya}(gF:pD P c ya){ops:Array Oper}{o:Oper}{k:Tr AV→Tr ABlk→Nat→OS}{r:OS}(hs:Hq c ca ya sz ops.toList o tm h nx k=r)(hr:r≠.fail){rr:Option Nat}(hk:Ok c.G σ h nx w)(ht:St σ tm a sz ds)(Q:Exit→Act→World→Prop)(L:Act→World→Prop)
  (hK:∀τ ba a1 w1 h1 sW,k ba h1 sW=r→Post c.G σ h nx w τ h1 sW w1→St τ ba a1 sz ds→L a1 w1):
  if Region.wanted o (yielded ops a.tmps) then o.wpIn (dD rr) 0 P a w L Q else (∀f,o.about P w a.eval=some f→(dD rr).fn f)∧L (a.put o.dst undef) w:=by
 unfold Hq at hs;cases hw:fY ops.toList tm o with
 |none=>rw[hw]at hs;exact absurd hs.symm hr
 |some b=>
  rw[yE ht.tm hw];rw[hw]at hs;cases b with
  |false=>
   simp only[Bool.false_eq_true,if_false];obtain⟨tm',e1,e2⟩:=Dx hs hr ht uR;exact⟨fun _ _=>trivial,hK σ tm' _ w h nx e1 (.refl hk) e2⟩
  |true=>
   simp only[if_true];simp only at hs;unfold zy0 at hs;have plain:kA o.op=none→o.wpIn (dD rr) 0 P a w L Q:=by
    intro uc;rw[uc]at hs;simp only at hs;cases iQ:qC o.op with
    |true=>rw[iQ]at hs;exact absurd hs.symm hr
    |false=>
    rw[iQ]at hs;simp only at hs;have hd:∀cl,o.op≠.defer cl:=fun cl e=>by rw[e]at iQ;cases iQ
    have hp:=zS1 hc hk ht.tm o;cases hv:OA (jF c o.op tm h nx) (BY c o.op tm h nx) with
    |fail=>rw[hv]at hs;exact absurd hs.symm hr
    |val v g ny=>
     rw[hv]at hs hp
     replace hs:(uI sz o.dst v tm fun tm=>k tm g ny)=r:=hs
     obtain⟨V,τ,x,h1,h2,h3⟩:=hp;obtain⟨tm',e1,e2⟩:=Dx hs hr (ht.mono h3.le) h2;refine jS hd ?_;rw[h1];exact hK τ tm' _ x g ny e1 h3 e2
    |unit g ny=>
     rw[hv]at hs hp
     replace hs:(uI sz o.dst (.tup []) tm fun tm=>k tm g ny)=r:=hs
     obtain⟨τ,x,h1,h3⟩:=hp;obtain⟨tm',e1,e2⟩:=Dx hs hr (ht.mono h3.le) uR;refine jS hd ?_;rw[h1];exact hK τ tm' _ x g ny e1 h3 e2
   obtain⟨dst,op,type,pos,after,guard⟩:=o;cases op <;> try exact plain rfl
   rename_i cl;obtain⟨callee,args,argTypes⟩:=cl;cases callee <;> try exact plain rfl
   rename_i fo;clear plain
   replace hs:Li sz dst tm k (J0 ca ya (aM c.G tm fo) (cZ c.G tm args.toList) h nx)=r:=hs
   cases hf:aM c.G tm fo with
   |none=>rw[hf]at hs;exact absurd hs.symm hr
   |some fv=>
    rw[hf]at hs;have kK:=jT hk ht.tm hf;cases fv <;> try exact absurd hs.symm hr
    case yld i=>
     cases hl:cZ c.G tm args.toList with
     |none=>rw[hl]at hs;exact absurd hs.symm hr
     |some l=>
      rw[hl]at hs
      replace hs:Li sz dst tm k (ya i l h nx)=r:=hs
      cases hy:ya i l h nx with
      |fail=>rw[hy]at hs;exact absurd hs.symm hr
      |ok v0 g0 n0=>
      rw[hy]at hs
      replace hs:(uI sz dst v0 tm fun tm=>k tm g0 n0)=r:=hs
      have qf:=tB hk ht.tm hl;simp only[av]at kK;obtain⟨lb,uj,e1⟩:=kK;obtain⟨fn,tmps,assign,body,F4,F5⟩:=gF i l h nx v0 g0 n0 hy σ w (args.toList.map a.eval) lb hk qf uj;have hex:(execOp a.eval ⟨dst,.call ⟨.value fo,args,argTypes⟩,type,pos,after,guard⟩).run P w=(Instr.yield lb (args.toList.map a.eval).toArray).run P w:=by
       have e2:execOp a.eval ⟨dst,.call ⟨.value fo,args,argTypes⟩,type,pos,after,guard⟩=(do let d ← Deferred.ofValue (a.eval fo) (args.map a.eval);invoke d.target d.args):=rfl;rw[e2,e1];show (Instr.yield lb (#[]++args.map a.eval)).run P w=_
       congr 2
       apply Array.ext';simp
      refine jS (fun _ e=>by cases e) ?_;rw[hex,F4];refine⟨fun hh=>by simp[dD,Fence.wide]at hh,Q5 (F5.mono fun e x q=>?_)⟩;cases e with
      |returned V=>
       obtain⟨τ,v,g,ny,q1,q2,q3,q4,q5⟩:=q;subst q3;subst q4;subst q5;obtain⟨tm',k1,k2⟩:=Dx hs hr (ht.mono q2.le) q1;exact hK τ tm' _ x _ _ k1 q2 k2
      |panicked ch=>exact q.elim
      |outgrown=>exact q.elim
    rename_i fid first cap
    cases hl:cZ c.G tm args.toList with
    |none=>rw[hl]at hs;exact absurd hs.symm hr
    |some l=>
     rw[hl]at hs
     replace hs:Li sz dst tm k (ca fid (first++(l++cap)) h nx)=r:=hs
     cases hy:ca fid (first++(l++cap)) h nx with
     |fail=>rw[hy]at hs;exact absurd hs.symm hr
     |ok v0 g0 n0=>
     rw[hy]at hs
     replace hs:(uI sz dst v0 tm fun tm=>k tm g0 n0)=r:=hs
     have qf:=tB hk ht.tm hl;simp only[av]at kK;obtain⟨F,C,e1,r1,r2⟩:=kK;have fD:=df fid _ h nx v0 g0 n0 hy σ w (F++(args.toList.map a.eval++C)) hk (r1.append (qf.append r2));have hex:(execOp a.eval ⟨dst,.call ⟨.value fo,args,argTypes⟩,type,pos,after,guard⟩).run P w=(callFunc fid (F++(args.toList.map a.eval++C)).toArray).run P w:=by
      have e2:execOp a.eval ⟨dst,.call ⟨.value fo,args,argTypes⟩,type,pos,after,guard⟩=(do let d ← Deferred.ofValue (a.eval fo) (args.map a.eval);invoke d.target d.args):=rfl;rw[e2,e1];show (callFunc fid (F.toArray++args.map a.eval++C.toArray)).run P w=_
      congr 2
      apply Array.ext';simp
     refine jS (fun _ e=>by cases e) ?_;rw[hex];unfold CR at fD;cases aO:(callFunc fid (F++(args.toList.map a.eval++C)).toArray).run P w with
     |halt hh w'=>rw[aO]at fD;exact fD.elim
     |ok AG w'=>
      rw[aO]at fD;cases AG <;> try exact fD.elim
      ·rename_i V;obtain⟨τ,v,g,ny,q1,q2,q3,q4,q5⟩:=fD;subst q3;subst q4;subst q5;obtain⟨tm',k1,k2⟩:=Dx hs hr (ht.mono q2.le) q1;exact hK τ tm' _ _ _ _ k1 q2 k2
      ·rename_i f' A';refine⟨fun hh=>by simp[dD,Fence.wide]at hh,GZ (Calls.mono fD fun e x q=>?_)⟩;cases e with
       |returned V=>
        obtain⟨τ,v,g,ny,q1,q2,q3,q4,q5⟩:=q;subst q3;subst q4;subst q5;obtain⟨tm',k1,k2⟩:=Dx hs hr (ht.mono q2.le) q1;exact hK τ tm' _ x _ _ k1 q2 k2
       |panicked ch=>exact q.elim
       |outgrown=>exact q.elim
theorem Xa (hc:CxOk P c){ca:Ca}(df:jn P c ca){ya:Ya}(gF:pD P c ya){ops:Array Oper}{rr:Option Nat}(Q:Exit→Act→World→Prop){r:OS}(hr:r≠.fail):∀(l:List Oper){σ tm h nx w a},Hh c ca ya sz ops.toList l tm h nx=r→
  Ok c.G σ h nx w→St σ tm a sz ds→(∀τ tm' a' w' h' ax,r=.ok tm' h' ax→Post c.G σ h nx w τ h' ax w'→St τ tm' a' sz ds→Q .normal a' w')→wpListIn (dD rr) 0 P ops Q l a w
 |[],σ,tm,h,nx,w,a,he,hk,ht,hQ=>hQ σ tm a w h nx he.symm (.refl hk) ht
 |o::l,σ,tm,h,nx,w,a,he,hk,ht,hQ=>by
  unfold wpListIn;refine Xe hc df gF (k:=Hh c ca ya sz ops.toList l) he hr hk ht _ _ fun τ ba a1 w1 h1 sW e1 p1 s1=>?_;exact Xa hc df gF Q hr l e1 p1.ok s1 fun υ tm' a' w' h' ax e2 p2 s2=>hQ υ tm' a' w' h' ax e2 (p1.trans p2) s2
def QE:ER→AX→AS→Prop
 |.norm tm h nx ds,k,s=>k=.norm∧s=.mk tm h nx ds
 |.exit id tm h nx ds,k,s=>k=.exit id∧s=.mk tm h nx ds
 |.ret tm h nx ds,k,s=>k=.ret∧s=.mk tm h nx ds
 |.fail,_,_=>False
def BH (P:Program)(c:Cx)(ed:Ed):Prop:=∀sz ops tm h nx tm' h' ax,ed sz ops tm h nx=.ok tm' h' ax→∀(inr:Bool) (id:Nat)(ds:List DE),AW P c inr sz (.region id ops true) (QE (.norm tm' h' ax ds)) (.mk tm h nx ds)
theorem xb (hc:CxOk P c){ca:Ca}(df:jn P c ca){ya:Ya}(gF:pD P c ya){ed:Ed}(lB:BH P c ed){inr:Bool}:∀(m:Nat)(code:Code)(tm:Tr AV)(h:Tr ABlk) (nx:Nat)(ds:List DE)(r:ER),jt c ca ya ed inr sz m code tm h nx ds=r→r≠.fail→
  AW P c inr sz code (QE r) (.mk tm h nx ds):=by
 intro m
 induction m using Nat.strongRecOn with
 |_ m0 UN=>
  intro code tm h nx ds r he hr;cases m0 with
  |zero=>exact absurd he.symm hr
  |succ m=>
  have ih:=UN m (Nat.lt_succ_self m);cases code with
  |skip=>cases he;exact Xn ⟨rfl,rfl⟩
  |label l=>cases he;exact WI ⟨rfl,rfl⟩
  |exit id=>cases he;exact Yy ⟨rfl,rfl⟩
  |ret=>cases he;exact Xc ⟨rfl,rfl⟩
  |goto l=>exact absurd he.symm hr
  |refuse s=>exact absurd he.symm hr
  |scope s=>exact WN (ih s tm h nx ds r he hr)
  |region id ops draw=>
   cases draw with
   |false=>
    change JV ds (Hh c ca ya sz ops.toList ops.toList tm h nx)=r at he
    cases h1:Hh c ca ya sz ops.toList ops.toList tm h nx with
    |fail=>rw[h1]at he;exact absurd he.symm hr
    |ok ba g1 n1=>
     rw[h1]at he;subst he;intro rr hi σ a w ok st;refine wpIn_region_list (Xa hc df gF _ (by simp) ops.toList h1 ok st fun τ tm' a' w' h' ax e p s=>?_);cases e;exact⟨.norm,_,_,_,_,τ,rfl,p,s,rfl,rfl⟩
   |true=>
    change JV ds (ed sz ops tm h nx)=r at he
    cases h1:ed sz ops tm h nx with
    |fail=>rw[h1]at he;exact absurd he.symm hr
    |ok ba g1 n1=>
     rw[h1]at he;subst he;exact lB sz ops tm h nx ba g1 n1 h1 inr id ds
  |seq x y=>
   change xe (jt c ca ya ed inr sz m y) (jt c ca ya ed inr sz m x tm h nx ds)=r at he
   refine RP ?_;cases h1:jt c ca ya ed inr sz m x tm h nx ds with
   |fail=>rw[h1]at he;exact absurd he.symm hr
   |norm ba g1 n1 d1=>
    rw[h1]at he;refine(ih x tm h nx ds _ h1 (by simp)).mono ?_
    rintro k s ⟨rfl,rfl⟩
    exact ih y ba g1 n1 d1 r he hr
   |exit id ba g1 n1 d1=>
    rw[h1]at he;subst he;refine(ih x tm h nx ds _ h1 (by simp)).mono ?_
    rintro k s ⟨rfl,rfl⟩
    exact⟨rfl,rfl⟩
   |ret ba g1 n1 d1=>
    rw[h1]at he;subst he;refine(ih x tm h nx ds _ h1 (by simp)).mono ?_
    rintro k s ⟨rfl,rfl⟩
    exact⟨rfl,rfl⟩
  |cond x y z=>
   change (match aM c.G tm x with
    |some (.bool true)=>jt c ca ya ed inr sz m y tm h nx ds
    |some (.bool false)=>jt c ca ya ed inr sz m z tm h nx ds
    |_=>.fail)=r at he
   cases h1:aM c.G tm x with
   |none=>rw[h1]at he;exact absurd he.symm hr
   |some v=>
    rw[h1]at he;cases v <;> try exact absurd he.symm hr
    rename_i b;cases b with
    |true=>exact QA h1 (fun _=>ih y tm h nx ds r he hr) (fun e=>by cases e)
    |false=>exact QA h1 (fun e=>by cases e) (fun _=>ih z tm h nx ds r he hr)
  |block id x=>
   change WC id (jt c ca ya ed inr sz m x tm h nx ds)=r at he
   refine WY ?_;cases h1:jt c ca ya ed inr sz m x tm h nx ds with
   |fail=>rw[h1]at he;exact absurd he.symm hr
   |norm ba g1 n1 d1=>
    rw[h1]at he;subst he;refine(ih x tm h nx ds _ h1 (by simp)).mono ?_
    rintro k s ⟨rfl,rfl⟩
    exact⟨rfl,rfl⟩
   |ret ba g1 n1 d1=>
    rw[h1]at he;subst he;refine(ih x tm h nx ds _ h1 (by simp)).mono ?_
    rintro k s ⟨rfl,rfl⟩
    exact⟨rfl,rfl⟩
   |exit iS ba g1 n1 d1=>
    rw[h1]at he
    replace he:(match Nat.beq iS id with |true=>ER.norm ba g1 n1 d1 |false=>ER.exit iS ba g1 n1 d1)=r:=he
    refine(ih x tm h nx ds _ h1 (by simp)).mono ?_
    rintro k s ⟨rfl,rfl⟩
    cases hb:Nat.beq iS id with
    |true=>
     rw[hb]at he;subst he;have:=ad hb;subst this;simp only[wE,if_true];exact⟨rfl,rfl⟩
    |false=>
     rw[hb]at he;subst he;simp only[wE,if_neg (mX hb)];exact⟨rfl,rfl⟩
  |loop x=>
   refine bT (fun n s=>∃tm h nx ds,s=.mk tm h nx ds∧n≤m+1∧jt c ca ya ed inr sz n (.loop x) tm h nx ds=r) ⟨m+1,tm,h,nx,ds,rfl,ae _,he⟩ ?_
   rintro n s ⟨tm,h,nx,ds,rfl,hn,he⟩ J hJ
   cases n with
   |zero=>exact absurd he.symm hr
   |succ n=>
   change xe (jt c ca ya ed inr sz n (.loop x)) (jt c ca ya ed inr sz n x tm h nx ds)=r at he
   have On:=UN n (by omega);cases h1:jt c ca ya ed inr sz n x tm h nx ds with
   |fail=>rw[h1]at he;exact absurd he.symm hr
   |norm ba g1 n1 d1=>
    rw[h1]at he;refine(On x tm h nx ds _ h1 (by simp)).mono ?_
    rintro k s ⟨rfl,rfl⟩
    exact hJ n _ (Nat.lt_succ_self n) ⟨ba,g1,n1,d1,rfl,by omega,he⟩
   |exit id ba g1 n1 d1=>
    rw[h1]at he;subst he;refine(On x tm h nx ds _ h1 (by simp)).mono ?_
    rintro k s ⟨rfl,rfl⟩
    exact⟨rfl,rfl⟩
   |ret ba g1 n1 d1=>
    rw[h1]at he;subst he;refine(On x tm h nx ds _ h1 (by simp)).mono ?_
    rintro k s ⟨rfl,rfl⟩
    exact⟨rfl,rfl⟩
  |rangeFunc go ps SQ body=>
   change Qk c ca inr sz go ps SQ body tm h nx ds=r at he
   unfold Qk at he;cases inr with
   |true=>exact absurd he.symm hr
   |false=>
   simp only at he;cases hg:aM c.G tm go with
   |none=>rw[hg]at he;exact absurd he.symm hr
   |some gv=>
   rw[hg]at he;cases gv <;> try exact absurd he.symm hr
   rename_i fid first cap
   simp only at he;cases cA:c.ft.get fid with
   |none=>rw[cA]at he;exact absurd he.symm hr
   |some LD=>
   rw[cA]at he;simp only[fN_eq,Tr.putK_eq]at he;refine Kn hc cA hg (fn0:=0) ?_;cases aX:ca fid (first++(.yld (Nat.succ nx)::cap)) ((h.put nx (some .dfr)).put (Nat.succ nx) (some (.loop .ready none 0 sz tm ps SQ body nx))) (Nat.succ (Nat.succ nx)) with
   |fail=>rw[aX]at he;exact absurd he.symm hr
   |ok v g ny=>
   rw[aX]at he;refine(df _ _ _ _ _ _ _ aX).mono ?_
   rintro v' g' oy ⟨rfl,rfl,rfl⟩
   unfold Xb at he;simp only at he;cases oS:g'.get (Nat.succ nx) with
   |none=>rw[oS]at he;exact absurd he.symm hr
   |some B=>
   rw[oS]at he;cases B <;> try exact absurd he.symm hr
   rename_i st bh fn CG ff ps' x' y' db;simp only at he;cases hb:busy st with
   |true=>rw[hb]at he;exact absurd he.symm hr
   |false=>
   rw[hb]at he;simp only at he;have aW:st≠.busy:=fun e=>by rw[e]at hb;cases hb
   refine⟨st,bh,fn,CG,ff,ps',x',y',db,oS,aW,?_⟩;cases bh with
   |none=>
    simp only[Tr.putK_eq]at he;subst he;exact⟨rfl,rfl⟩
   |some cd=>
    cases cd <;> try exact absurd he.symm hr
    ·simp only[Tr.putK_eq]at he;subst he;exact⟨rfl,rfl⟩
    ·simp only[Tr.putK_eq]at he;subst he;exact⟨rfl,rfl⟩
theorem X0 {k:Tr ABlk→CO}{r:CO}(hr:r≠.fail):∀{ds:List DE}{h:Tr ABlk},Sm h ds k=r→Bh h ds∧k (ry h ds)=r
 |[],h,he=>⟨trivial,he⟩
 |.fn _ _ _::ds,h,he=>absurd he.symm hr
 |.mark i::ds,h,he=>by
  change (match h.get i with |some .dfr=>h.putK none i (fun h=>Sm h ds k) |_=>.fail)=r at he
  cases hi:h.get i with
  |none=>rw[hi]at he;exact absurd he.symm hr
  |some B=>
   rw[hi]at he;cases B <;> try exact absurd he.symm hr
   simp only[Tr.putK_eq]at he;obtain⟨h1,h2⟩:=X0 hr he;exact⟨⟨hi,h1⟩,h2⟩
theorem Xy {rs:List ResultVar}{v:AV}(he:Lk c rs tm h nx ds=.ok v g ny):Bu c rs (zb v g ny) (.mk tm h nx ds):=by
 unfold Lk at he;obtain⟨h1,h2⟩:=X0 (by simp) he;refine⟨h1,?_⟩;cases hl:iU c tm (ry h ds) nx rs with
 |none=>rw[hl]at h2;cases h2
 |some l=>
  rw[hl]at h2;cases h2;exact⟨rfl,rfl,rfl⟩
theorem zH3 (hc:CxOk P c){ca:Ca}(df:jn P c ca){ya:Ya}(gF:pD P c ya){ed:Ca→Ya→Ed}(lB:BH P c (ed ca ya)) (m:Nat):jn P c (RS c ca ya ed m):=by
 intro f args h nx v g ny he;unfold RS at he;cases cA:c.ft.get f with
 |none=>rw[cA]at he;cases he
 |some fn=>
 rw[cA]at he;simp only at he;cases hb:fn.body with
 |none=>rw[hb]at he;cases he
 |some code=>
 rw[hb]at he;simp only at he;cases hl:Nat.ble args.length fn.ntmps with
 |false=>rw[hl]at he;cases he
 |true=>
 rw[hl]at he;simp only[kY]at he;refine zyc hc cA hb (ah hl) ?_;cases iz:jt c ca ya (ed ca ya) false fn.ntmps m code (ef args .nil 0) h nx [] with
 |fail=>rw[iz]at he;cases he
 |exit id ba g1 n1 d1=>rw[iz]at he;cases he
 |norm ba g1 n1 d1=>
  rw[iz]at he;refine(xb hc df gF lB m code _ h nx [] _ iz (by simp)).mono ?_
  rintro k s ⟨rfl,rfl⟩
  exact Xy he
 |ret ba g1 n1 d1=>
  rw[iz]at he;refine(xb hc df gF lB m code _ h nx [] _ iz (by simp)).mono ?_
  rintro k s ⟨rfl,rfl⟩
  exact Xy he
theorem putPK_eq (k:Tr AV→CO):∀(ps:List Tmp)(vs:List AV)(tm:Tr AV),putPK ps vs tm k=k (putP ps vs tm)
 |[],vs,tm=>by cases vs <;> rfl
 |t::ps,[],tm=>rfl
 |t::ps,v::vs,tm=>by
  show tm.putK (some v) t (fun tm=>putPK ps vs tm k)=_;rw[Tr.putK_eq,putPK_eq k ps vs];rfl
theorem zTq (hc:CxOk P c){ca:Ca}(df:jn P c ca){ya:Ya}(gF:pD P c ya){ed:Ca→Ya→Ed}(lB:BH P c (ed ca ya)) (m:Nat):pD P c (Sw c ca ya ed m):=by
 intro i args h nx v g ny he;unfold Sw at he;cases hi:h.get i with
 |none=>rw[hi]at he;cases he
 |some B=>
 rw[hi]at he;cases B <;> try (cases he;done)
 rename_i st bh fn sz ff ps assign body db;cases st <;> try (cases he;done)
 simp only at he;cases dT:(Nat.beq args.length ps.toList.length && eg ps.toList (fun t=>Nat.ble (Nat.succ t) sz)) with
 |false=>rw[dT]at he;cases he
 |true=>
 rw[dT]at he;simp only[putPK_eq]at he;rw[al]at dT;have hlen:=ad dT.1;refine Jp hi (by simpa using hlen) (fun t ht=>ah (dO dT.2 t ht)) ?_;cases iz:jt c ca ya (ed ca ya) true sz m assign (putP ps.toList args ff) h nx [] with
 |fail=>rw[iz]at he;cases he
 |exit id ba g1 n1 d1=>rw[iz]at he;cases he
 |ret ba g1 n1 d1=>rw[iz]at he;cases he
 |norm ba g1 n1 d1=>
 rw[iz]at he;simp only at he;refine(xb hc df gF lB m assign _ h nx [] _ iz (by simp)).mono ?_
 rintro k s ⟨rfl,rfl⟩
 cases vE:g1.get i with
 |none=>rw[vE]at he;cases he
 |some B1=>
 rw[vE]at he;cases B1 <;> try (cases he;done)
 rename_i I5 o9 LC OM AK OB x1 y1 Lz;cases I5 <;> try (cases he;done)
 simp only[Tr.putK_eq]at he;refine⟨o9,LC,OM,AK,OB,x1,y1,Lz,vE,?_⟩;have fin:∀{g2:Tr ABlk} {n2:Nat} {b:Bool} {st:LoopState} {pd:Option Code},Gz i g2 b st pd n2=.ok v g ny→∃qw bh fn sz tm ps x y db,g2.get i=some (.loop qw bh fn sz tm ps x y db)∧zb v g ny (.bool b) (g2.put i (some (.loop st pd fn sz tm ps x y db))) n2:=by
  intro g2 n2 b st pd hr;unfold Gz at hr;cases zL:g2.get i with
  |none=>rw[zL]at hr;cases hr
  |some B2=>
   rw[zL]at hr;cases B2 <;> try (cases hr;done)
   simp only[Tr.putK_eq]at hr;cases hr;exact⟨_,_,_,_,_,_,_,_,_,rfl,rfl,rfl,rfl⟩
 cases oe:jt c ca ya (ed ca ya) true sz m body ba (g1.put i (some (.loop .busy o9 LC OM AK OB x1 y1 Lz))) n1 d1 with
 |fail=>rw[oe]at he;cases he
 |norm wq g2 n2 d2=>
  rw[oe]at he;refine(xb hc df gF lB m body _ _ n1 d1 _ oe (by simp)).mono ?_
  rintro k s ⟨rfl,rfl⟩
  exact fin he
 |ret wq g2 n2 d2=>
  rw[oe]at he;refine(xb hc df gF lB m body _ _ n1 d1 _ oe (by simp)).mono ?_
  rintro k s ⟨rfl,rfl⟩
  exact fin he
 |exit id wq g2 n2 d2=>
  rw[oe]at he;refine(xb hc df gF lB m body _ _ n1 d1 _ oe (by simp)).mono ?_
  rintro k s ⟨rfl,rfl⟩
  exact fin he
theorem Qu (hc:CxOk P c){sI:Ca→Ca}(hh:∀ca,jn P c ca→jn P c (sI ca)){ed:Ca→Ya→Ed}(lB:∀ca ya,jn P c ca→pD P c ya→BH P c (ed ca ya)) (m:Nat):∀n,jn P c (ev c sI ed m n).ca∧pD P c (ev c sI ed m n).ya
 |0=>⟨(fun _ _ _ _ _ _ _ he=>by cases he),(fun _ _ _ _ _ _ _ he=>by cases he)⟩
 |n+1=>by
  obtain⟨h1,h2⟩:=Qu hc hh lB m n;have h3:=lB _ _ h1 h2;exact⟨hh _ (zH3 hc h1 h2 h3 m),zTq hc h1 h2 h3 m⟩
end
end Go.Ev
