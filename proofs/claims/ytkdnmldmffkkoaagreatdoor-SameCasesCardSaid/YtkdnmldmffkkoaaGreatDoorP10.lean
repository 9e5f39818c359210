/- Texts. -/
import Derived.Lib.Bytealg
import Derived.Test.YtkdnmldmffkkoaaGreatDoorP09
set_option linter.all false
set_option maxRecDepth 100000
set_option maxHeartbeats 8000000
namespace Go.Ev
noncomputable section
section
variable {P : Program} {c : Cx} {σ τ υ : Sg} {h g f : Tr ABlk} {nx ny nz sz : Nat} {ds : List DE} {w x y : World} {tm : Tr AV} {a : Act}
def Eg {d:Option Tmp}{v:AV}{k:Tr AV→OS}{r:OS}(he:vy sz d v tm k=r)(hr:r≠.fail)(ht:St σ tm a sz ds){V:Value}(hv:av σ v V):∃tm',k tm'=r∧St σ tm' (a.put d V) sz ds:=by
 unfold vy at he;cases d with
 |none=>exact⟨tm,he,ht⟩
 |some d=>
  simp only at he;cases hb:Nat.ble (Nat.succ d) sz with
  |false=>rw[hb]at he;exact absurd he.symm hr
  |true=>
   rw[hb]at he;simp only[Tr.putK_eq]at he;exact⟨_,he,ht.put (ai hb) hv⟩
def zH6 (hc:CxOk P c)(hk:Ok c.G σ h nx w)(ht:kE σ tm a)(o:Oper):RO P c.G σ h nx w (execOp a.eval o) (CD c o.op tm h nx):=by
 obtain⟨dst,op,type,pos,after,guard⟩:=o;show RO P c.G σ h nx w (execOp a.eval _) (CD c op tm h nx);unfold CD;split
 ·rename_i t x lo;split
  ·rename_i elem size bytes zero o0 s b0 fs GL;split
   ·rename_i i o len cc hx;split
    ·rename_i l eE;cases hb:Nat.beq l len with
     |false=>trivial
     |true=>
      have e:=ad hb;subst e;obtain⟨hu,inf,hi',hs,oe,fu,NW,tl,he⟩:=hc.tt _ _ GL;have ef:=he elem (.inl rfl) o0 s b0 rfl;have hX:=kH hk ht hx;have hL:=kH hk ht eE;simp only[av,if_true]at hX hL;obtain⟨bb,gw,e1,dE⟩:=hX;have e2:execOp a.eval ⟨dst,.slice t x (some lo) none none,type,pos,after,guard⟩=(do pure (.value (← Instr.sliceAt t (a.eval x) (some (a.eval lo)) none none))):=rfl;rw[e2];refine RO.ofV ?_;have fK:=vC (P:=P) true l (σ.cap i-cc) (lo:=some (a.eval lo)) (hi:=none) (mx:=none) (l:=l) (hh:=l) (m:=σ.cap i-cc) rfl ⟨rfl,rfl⟩ ⟨⟨.i64,hL⟩,ae _⟩ w;generalize σ.cap i-cc=m at e1 fK dE;refine SV.pure hk (V:=.slice (some (if m=l then ⟨bb,o,none⟩ else ⟨bb,o+l * s,none⟩)) 0 (m-l)) ?_ ?_
      ·rw[e1]
       by_cases gC:m=l
       ·subst gC;simp[Instr.sliceAt,run_underlying hu,Instr.slice,fK,ef.size]
       ·simp[Instr.sliceAt,run_underlying hu,Instr.slice,fK,ef.size,gC,jo]
      ·simp only[av];exact⟨_,_,rfl,Nat.zero_le _,fun h=>by simp at h,fun h=>by simp at h,fun h=>by simp at h⟩
    ·trivial
   ·trivial
  ·trivial
 ·trivial
def zS1 (hc:CxOk P c)(hk:Ok c.G σ h nx w)(ht:kE σ tm a)(o:Oper):RO P c.G σ h nx w (execOp a.eval o) (PA (k7 c o.op tm h nx) (CD c o.op tm h nx)):=by
 have h1:=Si hc hk ht o;cases he:k7 c o.op tm h nx with
 |fail=>exact zH6 hc hk ht o
 |val v g n=>rw[he]at h1;exact h1
 |unit g n=>rw[he]at h1;exact h1
def Yj (hc:CxOk P c){ca:Ca}(dA:jO P c ca){ya:Ya}(il:qt P c ya){ops:Array Oper}{o:Oper}{k:Tr AV→Tr ABlk→Nat→OS}{r:OS}(hs:Ik c ca ya sz ops.toList o tm h nx k=r)(hr:r≠.fail){rr:Option Nat}(hk:Ok c.G σ h nx w)(ht:St σ tm a sz ds)(Q:Exit→Act→World→Prop)(L:Act→World→Prop)
  (hK:∀τ aZ a1 w1 h1 tV,k aZ h1 tV=r→Post c.G σ h nx w τ h1 tV w1→St τ aZ a1 sz ds→L a1 w1):
  if Region.wanted o (yielded ops a.tmps) then o.wpIn (dT rr) 0 P a w L Q else (∀f,o.about P w a.eval=some f→(dT rr).fn f)∧L (a.put o.dst undef) w:=by
 unfold Ik at hs;cases hw:gU ops.toList tm o with
 |none=>rw[hw]at hs;exact absurd hs.symm hr
 |some b=>
  rw[zm ht.tm hw];rw[hw]at hs;cases b with
  |false=>
   simp only[Bool.false_eq_true,if_false];obtain⟨tm',e1,e2⟩:=Eg hs hr ht vJ;exact⟨fun _ _=>trivial,hK σ tm' _ w h nx e1 (.refl hk) e2⟩
  |true=>
   simp only[if_true];simp only at hs;unfold zy0 at hs;have plain:kZ o.op=none→o.wpIn (dT rr) 0 P a w L Q:=by
    intro tg;rw[tg]at hs;simp only at hs;cases jt:rA o.op with
    |true=>rw[jt]at hs;exact absurd hs.symm hr
    |false=>
    rw[jt]at hs;simp only at hs;have hd:∀cl,o.op≠.defer cl:=fun cl e=>by rw[e]at jt;cases jt
    have hp:=zS1 hc hk ht.tm o;cases hv:PA (k7 c o.op tm h nx) (CD c o.op tm h nx) with
    |fail=>rw[hv]at hs;exact absurd hs.symm hr
    |val v g ny=>
     rw[hv]at hs hp
     replace hs:(vy sz o.dst v tm fun tm=>k tm g ny)=r:=hs
     obtain⟨V,τ,x,h1,h2,h3⟩:=hp;obtain⟨tm',e1,e2⟩:=Eg hs hr (ht.mono h3.le) h2;refine kG hd ?_;rw[h1];exact hK τ tm' _ x g ny e1 h3 e2
    |unit g ny=>
     rw[hv]at hs hp
     replace hs:(vy sz o.dst (.tup []) tm fun tm=>k tm g ny)=r:=hs
     obtain⟨τ,x,h1,h3⟩:=hp;obtain⟨tm',e1,e2⟩:=Eg hs hr (ht.mono h3.le) vJ;refine kG hd ?_;rw[h1];exact hK τ tm' _ x g ny e1 h3 e2
   obtain⟨dst,op,type,pos,after,guard⟩:=o;cases op <;> try exact plain rfl
   rename_i cl;obtain⟨callee,args,argTypes⟩:=cl;cases callee <;> try exact plain rfl
   rename_i fo;clear plain
   replace hs:Me sz dst tm k (KQ ca ya (aL c.G tm fo) (dz c.G tm args.toList) h nx)=r:=hs
   cases hf:aL c.G tm fo with
   |none=>rw[hf]at hs;exact absurd hs.symm hr
   |some fv=>
    rw[hf]at hs;have lD:=kH hk ht.tm hf;cases fv <;> try exact absurd hs.symm hr
    case yld i=>
     cases hl:dz c.G tm args.toList with
     |none=>rw[hl]at hs;exact absurd hs.symm hr
     |some l=>
      rw[hl]at hs
      replace hs:Me sz dst tm k (ya i l h nx)=r:=hs
      cases hy:ya i l h nx with
      |fail=>rw[hy]at hs;exact absurd hs.symm hr
      |ok v0 g0 n0=>
      rw[hy]at hs
      replace hs:(vy sz dst v0 tm fun tm=>k tm g0 n0)=r:=hs
      have qV:=uv hk ht.tm hl;simp only[av]at lD;obtain⟨lb,uZ,e1⟩:=lD;obtain⟨fn,tmps,assign,body,GW,GX⟩:=il i l h nx v0 g0 n0 hy σ w (args.toList.map a.eval) lb hk qV uZ;have hex:(execOp a.eval ⟨dst,.call ⟨.value fo,args,argTypes⟩,type,pos,after,guard⟩).run P w=(Instr.yield lb (args.toList.map a.eval).toArray).run P w:=by
       have e2:execOp a.eval ⟨dst,.call ⟨.value fo,args,argTypes⟩,type,pos,after,guard⟩=(do let d ← Deferred.ofValue (a.eval fo) (args.map a.eval);invoke d.target d.args):=rfl;rw[e2,e1];show (Instr.yield lb (#[]++args.map a.eval)).run P w=_
       congr 2
       apply Array.ext';simp
      refine kG (fun _ e=>by cases e) ?_;rw[hex,GW];refine⟨fun hh=>by simp[dT,Fence.wide]at hh,Sc (GX.mono fun e x q=>?_)⟩;cases e with
      |returned V=>
       obtain⟨τ,v,g,ny,q1,q2,q3,q4,q5⟩:=q;subst q3;subst q4;subst q5;obtain⟨tm',k1,k2⟩:=Eg hs hr (ht.mono q2.le) q1;exact hK τ tm' _ x _ _ k1 q2 k2
      |panicked ch=>exact q.elim
      |outgrown=>exact q.elim
    rename_i fid first cap
    cases hl:dz c.G tm args.toList with
    |none=>rw[hl]at hs;exact absurd hs.symm hr
    |some l=>
     rw[hl]at hs
     replace hs:Me sz dst tm k (ca fid (first++(l++cap)) h nx)=r:=hs
     cases hy:ca fid (first++(l++cap)) h nx with
     |fail=>rw[hy]at hs;exact absurd hs.symm hr
     |ok v0 g0 n0=>
     rw[hy]at hs
     replace hs:(vy sz dst v0 tm fun tm=>k tm g0 n0)=r:=hs
     have qV:=uv hk ht.tm hl;simp only[av]at lD;obtain⟨F,C,e1,r1,r2⟩:=lD;have gB:=dA fid _ h nx v0 g0 n0 hy σ w (F++(args.toList.map a.eval++C)) hk (r1.append (qV.append r2));have hex:(execOp a.eval ⟨dst,.call ⟨.value fo,args,argTypes⟩,type,pos,after,guard⟩).run P w=(callFunc fid (F++(args.toList.map a.eval++C)).toArray).run P w:=by
      have e2:execOp a.eval ⟨dst,.call ⟨.value fo,args,argTypes⟩,type,pos,after,guard⟩=(do let d ← Deferred.ofValue (a.eval fo) (args.map a.eval);invoke d.target d.args):=rfl;rw[e2,e1];show (callFunc fid (F.toArray++args.map a.eval++C.toArray)).run P w=_
      congr 2
      apply Array.ext';simp
     refine kG (fun _ e=>by cases e) ?_;rw[hex];unfold CR at gB;cases aR:(callFunc fid (F++(args.toList.map a.eval++C)).toArray).run P w with
     |halt hh w'=>rw[aR]at gB;exact gB.elim
     |ok Bo w'=>
      rw[aR]at gB;cases Bo <;> try exact gB.elim
      ·rename_i V;obtain⟨τ,v,g,ny,q1,q2,q3,q4,q5⟩:=gB;subst q3;subst q4;subst q5;obtain⟨tm',k1,k2⟩:=Eg hs hr (ht.mono q2.le) q1;exact hK τ tm' _ _ _ _ k1 q2 k2
      ·rename_i f' A';refine⟨fun hh=>by simp[dT,Fence.wide]at hh,HU (Calls.mono gB fun e x q=>?_)⟩;cases e with
       |returned V=>
        obtain⟨τ,v,g,ny,q1,q2,q3,q4,q5⟩:=q;subst q3;subst q4;subst q5;obtain⟨tm',k1,k2⟩:=Eg hs hr (ht.mono q2.le) q1;exact hK τ tm' _ x _ _ k1 q2 k2
       |panicked ch=>exact q.elim
       |outgrown=>exact q.elim
def Yf (hc:CxOk P c){ca:Ca}(dA:jO P c ca){ya:Ya}(il:qt P c ya){ops:Array Oper}{rr:Option Nat}(Q:Exit→Act→World→Prop){r:OS}(hr:r≠.fail):∀(l:List Oper){σ tm h nx w a},Ia c ca ya sz ops.toList l tm h nx=r→
  Ok c.G σ h nx w→St σ tm a sz ds→(∀τ tm' a' w' h' ax,r=.ok tm' h' ax→Post c.G σ h nx w τ h' ax w'→St τ tm' a' sz ds→Q .normal a' w')→wpListIn (dT rr) 0 P ops Q l a w
 |[],σ,tm,h,nx,w,a,he,hk,ht,hQ=>hQ σ tm a w h nx he.symm (.refl hk) ht
 |o::l,σ,tm,h,nx,w,a,he,hk,ht,hQ=>by
  unfold wpListIn;refine Yj hc dA il (k:=Ia c ca ya sz ops.toList l) he hr hk ht _ _ fun τ aZ a1 w1 h1 tV e1 p1 s1=>?_;exact Yf hc dA il Q hr l e1 p1.ok s1 fun υ tm' a' w' h' ax e2 p2 s2=>hQ υ tm' a' w' h' ax e2 (p1.trans p2) s2
def QE:ER→AX→AS→Prop
 |.norm tm h nx ds,k,s=>k=.norm∧s=.mk tm h nx ds
 |.exit id tm h nx ds,k,s=>k=.exit id∧s=.mk tm h nx ds
 |.ret tm h nx ds,k,s=>k=.ret∧s=.mk tm h nx ds
 |.fail,_,_=>False
def Ck (P:Program)(c:Cx)(ed:Ed):Prop:=∀sz ops tm h nx tm' h' ax,ed sz ops tm h nx=.ok tm' h' ax→∀(inr:Bool) (id:Nat)(ds:List DE),AW P c inr sz (.region id ops true) (QE (.norm tm' h' ax ds)) (.mk tm h nx ds)
def xQ (hc:CxOk P c){ca:Ca}(dA:jO P c ca){ya:Ya}(il:qt P c ya){ed:Ed}(l9:Ck P c ed){inr:Bool}:∀(m:Nat)(code:Code)(tm:Tr AV)(h:Tr ABlk) (nx:Nat)(ds:List DE)(r:ER),jU c ca ya ed inr sz m code tm h nx ds=r→r≠.fail→
  AW P c inr sz code (QE r) (.mk tm h nx ds):=by
 intro m
 induction m using Nat.strongRecOn with
 |_ m0 VD=>
  intro code tm h nx ds r he hr;cases m0 with
  |zero=>exact absurd he.symm hr
  |succ m=>
  have ih:=VD m (Nat.lt_succ_self m);cases code with
  |skip=>cases he;exact Yr ⟨rfl,rfl⟩
  |label l=>cases he;exact XT ⟨rfl,rfl⟩
  |exit id=>cases he;exact ZA ⟨rfl,rfl⟩
  |ret=>cases he;exact Yh ⟨rfl,rfl⟩
  |goto l=>exact absurd he.symm hr
  |refuse s=>exact absurd he.symm hr
  |scope s=>exact XX (ih s tm h nx ds r he hr)
  |region id ops draw=>
   cases draw with
   |false=>
    change KL ds (Ia c ca ya sz ops.toList ops.toList tm h nx)=r at he
    cases h1:Ia c ca ya sz ops.toList ops.toList tm h nx with
    |fail=>rw[h1]at he;exact absurd he.symm hr
    |ok aZ g1 n1=>
     rw[h1]at he;subst he;intro rr hi σ a w ok st;refine wpIn_region_list (Yf hc dA il _ (by simp) ops.toList h1 ok st fun τ tm' a' w' h' ax e p s=>?_);cases e;exact⟨.norm,_,_,_,_,τ,rfl,p,s,rfl,rfl⟩
   |true=>
    change KL ds (ed sz ops tm h nx)=r at he
    cases h1:ed sz ops tm h nx with
    |fail=>rw[h1]at he;exact absurd he.symm hr
    |ok aZ g1 n1=>
     rw[h1]at he;subst he;exact l9 sz ops tm h nx aZ g1 n1 h1 inr id ds
  |seq x y=>
   change xT (jU c ca ya ed inr sz m y) (jU c ca ya ed inr sz m x tm h nx ds)=r at he
   refine SR ?_;cases h1:jU c ca ya ed inr sz m x tm h nx ds with
   |fail=>rw[h1]at he;exact absurd he.symm hr
   |norm aZ g1 n1 d1=>
    rw[h1]at he;refine(ih x tm h nx ds _ h1 (by simp)).mono ?_
    rintro k s ⟨rfl,rfl⟩
    exact ih y aZ g1 n1 d1 r he hr
   |exit id aZ g1 n1 d1=>
    rw[h1]at he;subst he;refine(ih x tm h nx ds _ h1 (by simp)).mono ?_
    rintro k s ⟨rfl,rfl⟩
    exact⟨rfl,rfl⟩
   |ret aZ g1 n1 d1=>
    rw[h1]at he;subst he;refine(ih x tm h nx ds _ h1 (by simp)).mono ?_
    rintro k s ⟨rfl,rfl⟩
    exact⟨rfl,rfl⟩
  |cond x y z=>
   change (match aL c.G tm x with
    |some (.bool true)=>jU c ca ya ed inr sz m y tm h nx ds
    |some (.bool false)=>jU c ca ya ed inr sz m z tm h nx ds
    |_=>.fail)=r at he
   cases h1:aL c.G tm x with
   |none=>rw[h1]at he;exact absurd he.symm hr
   |some v=>
    rw[h1]at he;cases v <;> try exact absurd he.symm hr
    rename_i b;cases b with
    |true=>exact Rz h1 (fun _=>ih y tm h nx ds r he hr) (fun e=>by cases e)
    |false=>exact Rz h1 (fun e=>by cases e) (fun _=>ih z tm h nx ds r he hr)
  |block id x=>
   change XN id (jU c ca ya ed inr sz m x tm h nx ds)=r at he
   refine X6 ?_;cases h1:jU c ca ya ed inr sz m x tm h nx ds with
   |fail=>rw[h1]at he;exact absurd he.symm hr
   |norm aZ g1 n1 d1=>
    rw[h1]at he;subst he;refine(ih x tm h nx ds _ h1 (by simp)).mono ?_
    rintro k s ⟨rfl,rfl⟩
    exact⟨rfl,rfl⟩
   |ret aZ g1 n1 d1=>
    rw[h1]at he;subst he;refine(ih x tm h nx ds _ h1 (by simp)).mono ?_
    rintro k s ⟨rfl,rfl⟩
    exact⟨rfl,rfl⟩
   |exit iD aZ g1 n1 d1=>
    rw[h1]at he
    replace he:(match Nat.beq iD id with |true=>ER.norm aZ g1 n1 d1 |false=>ER.exit iD aZ g1 n1 d1)=r:=he
    refine(ih x tm h nx ds _ h1 (by simp)).mono ?_
    rintro k s ⟨rfl,rfl⟩
    cases hb:Nat.beq iD id with
    |true=>
     rw[hb]at he;subst he;have:=ad hb;subst this;simp only[xm,if_true];exact⟨rfl,rfl⟩
    |false=>
     rw[hb]at he;subst he;simp only[xm,if_neg (nU hb)];exact⟨rfl,rfl⟩
  |loop x=>
   refine bF (fun n s=>∃tm h nx ds,s=.mk tm h nx ds∧n≤m+1∧jU c ca ya ed inr sz n (.loop x) tm h nx ds=r) ⟨m+1,tm,h,nx,ds,rfl,ae _,he⟩ ?_
   rintro n s ⟨tm,h,nx,ds,rfl,hn,he⟩ J hJ
   cases n with
   |zero=>exact absurd he.symm hr
   |succ n=>
   change xT (jU c ca ya ed inr sz n (.loop x)) (jU c ca ya ed inr sz n x tm h nx ds)=r at he
   have Ps:=VD n (by omega);cases h1:jU c ca ya ed inr sz n x tm h nx ds with
   |fail=>rw[h1]at he;exact absurd he.symm hr
   |norm aZ g1 n1 d1=>
    rw[h1]at he;refine(Ps x tm h nx ds _ h1 (by simp)).mono ?_
    rintro k s ⟨rfl,rfl⟩
    exact hJ n _ (Nat.lt_succ_self n) ⟨aZ,g1,n1,d1,rfl,by omega,he⟩
   |exit id aZ g1 n1 d1=>
    rw[h1]at he;subst he;refine(Ps x tm h nx ds _ h1 (by simp)).mono ?_
    rintro k s ⟨rfl,rfl⟩
    exact⟨rfl,rfl⟩
   |ret aZ g1 n1 d1=>
    rw[h1]at he;subst he;refine(Ps x tm h nx ds _ h1 (by simp)).mono ?_
    rintro k s ⟨rfl,rfl⟩
    exact⟨rfl,rfl⟩
  |rangeFunc go ps TS body=>
   change Rk c ca inr sz go ps TS body tm h nx ds=r at he
   unfold Rk at he;cases inr with
   |true=>exact absurd he.symm hr
   |false=>
   simp only at he;cases hg:aL c.G tm go with
   |none=>rw[hg]at he;exact absurd he.symm hr
   |some gv=>
   rw[hg]at he;cases gv <;> try exact absurd he.symm hr
   rename_i fid first cap
   simp only at he;cases bO:c.ft.get fid with
   |none=>rw[bO]at he;exact absurd he.symm hr
   |some MI=>
   rw[bO]at he;simp only[fN_eq,Tr.putK_eq]at he;refine Lf hc bO hg (fn0:=0) ?_;cases aX:ca fid (first++(.yld (Nat.succ nx)::cap)) ((h.put nx (some .dfr)).put (Nat.succ nx) (some (.loop .ready none 0 sz tm ps TS body nx))) (Nat.succ (Nat.succ nx)) with
   |fail=>rw[aX]at he;exact absurd he.symm hr
   |ok v g ny=>
   rw[aX]at he;refine(dA _ _ _ _ _ _ _ aX).mono ?_
   rintro v' g' pc ⟨rfl,rfl,rfl⟩
   unfold Yg at he;simp only at he;cases pO:g'.get (Nat.succ nx) with
   |none=>rw[pO]at he;exact absurd he.symm hr
   |some B=>
   rw[pO]at he;cases B <;> try exact absurd he.symm hr
   rename_i st bh fn Dv fL ps' x' y' db;simp only at he;cases hb:busy st with
   |true=>rw[hb]at he;exact absurd he.symm hr
   |false=>
   rw[hb]at he;simp only at he;have aU:st≠.busy:=fun e=>by rw[e]at hb;cases hb
   refine⟨st,bh,fn,Dv,fL,ps',x',y',db,pO,aU,?_⟩;cases bh with
   |none=>
    simp only[Tr.putK_eq]at he;subst he;exact⟨rfl,rfl⟩
   |some cd=>
    cases cd <;> try exact absurd he.symm hr
    ·simp only[Tr.putK_eq]at he;subst he;exact⟨rfl,rfl⟩
    ·simp only[Tr.putK_eq]at he;subst he;exact⟨rfl,rfl⟩
def Y3 {k:Tr ABlk→CO}{r:CO}(hr:r≠.fail):∀{ds:List DE}{h:Tr ABlk},Tj h ds k=r→BR h ds∧k (sB h ds)=r
 |[],h,he=>⟨trivial,he⟩
 |.fn _ _ _::ds,h,he=>absurd he.symm hr
 |.mark i::ds,h,he=>by
  change (match h.get i with |some .dfr=>h.putK none i (fun h=>Tj h ds k) |_=>.fail)=r at he
  cases hi:h.get i with
  |none=>rw[hi]at he;exact absurd he.symm hr
  |some B=>
   rw[hi]at he;cases B <;> try exact absurd he.symm hr
   simp only[Tr.putK_eq]at he;obtain⟨h1,h2⟩:=Y3 hr he;exact⟨⟨hi,h1⟩,h2⟩
def YB {rs:List ResultVar}{v:AV}(he:Mg c rs tm h nx ds=.ok v g ny):B6 c rs (zL v g ny) (.mk tm h nx ds):=by
 unfold Mg at he;obtain⟨h1,h2⟩:=Y3 (by simp) he;refine⟨h1,?_⟩;cases hl:jy c tm (sB h ds) nx rs with
 |none=>rw[hl]at h2;cases h2
 |some l=>
  rw[hl]at h2;cases h2;exact⟨rfl,rfl,rfl⟩
def zH3 (hc:CxOk P c){ca:Ca}(dA:jO P c ca){ya:Ya}(il:qt P c ya){ed:Ca→Ya→Ed}(l9:Ck P c (ed ca ya)) (m:Nat):jO P c (SW c ca ya ed m):=by
 intro f args h nx v g ny he;unfold SW at he;cases bO:c.ft.get f with
 |none=>rw[bO]at he;cases he
 |some fn=>
 rw[bO]at he;simp only at he;cases hb:fn.body with
 |none=>rw[hb]at he;cases he
 |some code=>
 rw[hb]at he;simp only at he;cases hl:Nat.ble args.length fn.ntmps with
 |false=>rw[hl]at he;cases he
 |true=>
 rw[hl]at he;simp only[lP]at he;refine zyc hc bO hb (ai hl) ?_;cases fU:jU c ca ya (ed ca ya) false fn.ntmps m code (eu args .nil 0) h nx [] with
 |fail=>rw[fU]at he;cases he
 |exit id aZ g1 n1 d1=>rw[fU]at he;cases he
 |norm aZ g1 n1 d1=>
  rw[fU]at he;refine(xQ hc dA il l9 m code _ h nx [] _ fU (by simp)).mono ?_
  rintro k s ⟨rfl,rfl⟩
  exact YB he
 |ret aZ g1 n1 d1=>
  rw[fU]at he;refine(xQ hc dA il l9 m code _ h nx [] _ fU (by simp)).mono ?_
  rintro k s ⟨rfl,rfl⟩
  exact YB he
def putPK_eq (k:Tr AV→CO):∀(ps:List Tmp)(vs:List AV)(tm:Tr AV),putPK ps vs tm k=k (putP ps vs tm)
 |[],vs,tm=>by cases vs <;> rfl
 |t::ps,[],tm=>rfl
 |t::ps,v::vs,tm=>by
  show tm.putK (some v) t (fun tm=>putPK ps vs tm k)=_;rw[Tr.putK_eq,putPK_eq k ps vs];rfl
def zTq (hc:CxOk P c){ca:Ca}(dA:jO P c ca){ya:Ya}(il:qt P c ya){ed:Ca→Ya→Ed}(l9:Ck P c (ed ca ya)) (m:Nat):qt P c (Tt c ca ya ed m):=by
 intro i args h nx v g ny he;unfold Tt at he;cases hi:h.get i with
 |none=>rw[hi]at he;cases he
 |some B=>
 rw[hi]at he;cases B <;> try (cases he;done)
 rename_i st bh fn sz fL ps assign body db;cases st <;> try (cases he;done)
 simp only at he;cases eB:(Nat.beq args.length ps.toList.length && eJ ps.toList (fun t=>Nat.ble (Nat.succ t) sz)) with
 |false=>rw[eB]at he;cases he
 |true=>
 rw[eB]at he;simp only[putPK_eq]at he;rw[ao]at eB;have hlen:=ad eB.1;refine Kg hi (by simpa using hlen) (fun t ht=>ai (ep eB.2 t ht)) ?_;cases fU:jU c ca ya (ed ca ya) true sz m assign (putP ps.toList args fL) h nx [] with
 |fail=>rw[fU]at he;cases he
 |exit id aZ g1 n1 d1=>rw[fU]at he;cases he
 |ret aZ g1 n1 d1=>rw[fU]at he;cases he
 |norm aZ g1 n1 d1=>
 rw[fU]at he;simp only at he;refine(xQ hc dA il l9 m assign _ h nx [] _ fU (by simp)).mono ?_
 rintro k s ⟨rfl,rfl⟩
 cases wC:g1.get i with
 |none=>rw[wC]at he;cases he
 |some B1=>
 rw[wC]at he;cases B1 <;> try (cases he;done)
 rename_i JI qc MH PH Bs PB x1 y1 ME;cases JI <;> try (cases he;done)
 simp only[Tr.putK_eq]at he;refine⟨qc,MH,PH,Bs,PB,x1,y1,ME,wC,?_⟩;have fin:∀{g2:Tr ABlk} {n2:Nat} {b:Bool} {st:LoopState} {pd:Option Code},Hp i g2 b st pd n2=.ok v g ny→∃rq bh fn sz tm ps x y db,g2.get i=some (.loop rq bh fn sz tm ps x y db)∧zL v g ny (.bool b) (g2.put i (some (.loop st pd fn sz tm ps x y db))) n2:=by
  intro g2 n2 b st pd hr;unfold Hp at hr;cases Ax:g2.get i with
  |none=>rw[Ax]at hr;cases hr
  |some B2=>
   rw[Ax]at hr;cases B2 <;> try (cases hr;done)
   simp only[Tr.putK_eq]at hr;cases hr;exact⟨_,_,_,_,_,_,_,_,_,rfl,rfl,rfl,rfl⟩
 cases me:jU c ca ya (ed ca ya) true sz m body aZ (g1.put i (some (.loop .busy qc MH PH Bs PB x1 y1 ME))) n1 d1 with
 |fail=>rw[me]at he;cases he
 |norm xd g2 n2 d2=>
  rw[me]at he;refine(xQ hc dA il l9 m body _ _ n1 d1 _ me (by simp)).mono ?_
  rintro k s ⟨rfl,rfl⟩
  exact fin he
 |ret xd g2 n2 d2=>
  rw[me]at he;refine(xQ hc dA il l9 m body _ _ n1 d1 _ me (by simp)).mono ?_
  rintro k s ⟨rfl,rfl⟩
  exact fin he
 |exit id xd g2 n2 d2=>
  rw[me]at he;refine(xQ hc dA il l9 m body _ _ n1 d1 _ me (by simp)).mono ?_
  rintro k s ⟨rfl,rfl⟩
  exact fin he
def Rt (hc:CxOk P c){tH:Ca→Ca}(hh:∀ca,jO P c ca→jO P c (tH ca)){ed:Ca→Ya→Ed}(l9:∀ca ya,jO P c ca→qt P c ya→Ck P c (ed ca ya)) (m:Nat):∀n,jO P c (ev c tH ed m n).ca∧qt P c (ev c tH ed m n).ya
 |0=>⟨(fun _ _ _ _ _ _ _ he=>by cases he),(fun _ _ _ _ _ _ _ he=>by cases he)⟩
 |n+1=>by
  obtain⟨h1,h2⟩:=Rt hc hh l9 m n;have h3:=l9 _ _ h1 h2;exact⟨hh _ (zH3 hc h1 h2 h3 m),zTq hc h1 h2 h3 m⟩
end
section
variable {P : Program} {c : Cx} {σ τ υ : Sg} {h g f : Tr ABlk} {nx ny nz sz : Nat} {w x y : World} {tm tm' : Tr AV} {a : Act}
def Kp (h:Tr ABlk) (nx:Nat):R→Prop
 |.val _ g ny=>g=h∧ny=nx
 |.unit _ _=>False
 |.fail=>True
def Kp.bR {α:Type}{o:Option α}{k:α→R}(hh:∀v,Kp h nx (k v)):Kp h nx (bR o k):=by
 cases o with
 |none=>trivial
 |some v=>exact hh v
def Kp.val {v:AV}:Kp h nx (.val v h nx):=⟨rfl,rfl⟩
def Kp.fI {z:Int}{k:Int→R}(hh:∀v,Kp h nx (k v)):Kp h nx (fI z k):=by rw[fI_eq];exact hh z
def Kp.fN {z:Nat}{k:Nat→R}(hh:∀v,Kp h nx (k v)):Kp h nx (fN z k):=by rw[fN_eq];exact hh z
def Kp.vInt {n:Nat}:Kp h nx (vInt n h nx):=Kp.fN fun _=>.val
def Kp.vBool {b:Bool}:Kp h nx (vBool b h nx):=by cases b <;> exact .val
def zJ2 (ti:TI)(a:AV):Kp h nx (jN ti a h nx):=by
 unfold jN
 repeat' split
 all_goals first |exact .val |trivial
def zOg (op:BinOp)(k:IntKind) (a b:Int):Kp h nx (iR op k a b h nx):=by
 unfold iR;simp only
 repeat' split
 all_goals first |exact .val |exact Kp.fI fun _=>.val |trivial
def zLo (op:BinOp)(k:IntKind) (a b:Int):Kp h nx (ur op k a b h nx):=by
 unfold ur
 repeat' split
 all_goals first |exact Kp.fI fun _=>.val |exact Kp.fN fun _=>.val |trivial
def zQf (op:BinOp) (l n k m:Nat):Kp h nx (zD op l n k m h nx):=by
 unfold zD;simp only
 repeat' split
 all_goals first |exact .val |exact Kp.fN fun _=>Kp.fN fun _=>.val |trivial
def zOr (ti:TI)(eqs:Option (List (Nat×TypeDesc)))(b:Bool)(op:BinOp)(x y:AV):Kp h nx (xI ti eqs b op x y h nx):=by
 unfold xI
 repeat' split
 all_goals first |exact Kp.vBool |trivial
def zUf (op:BinOp)(a b:ByteArray):Kp h nx (jg op a b h nx):=by
 unfold jg
 repeat' split
 all_goals first |exact .val |exact Kp.vBool |trivial
def zP7 (ti:TI)(eqs:Option (List (Nat×TypeDesc)))(b:Bool)(op:BinOp)(x y:AV):Kp h nx (xU ti eqs b op x y h nx):=by
 unfold xU
 repeat' split
 all_goals first |exact zLo _ _ _ _ |exact zOg _ _ _ _ |exact zQf _ _ _ _ _ |exact zUf _ _ _ |exact zOr _ _ _ _ _ _ |trivial
def zQm (op:UnOp)(x:AV):Kp h nx (vQ op x h nx):=by
 unfold vQ
 repeat' split
 all_goals first |exact .val |exact Kp.fI fun _=>.val |trivial
def zU4 (ti:TI)(t:TypeId)(x:AV):Kp h nx (xH ti t x h nx):=by
 unfold xH
 repeat' split
 all_goals first |exact .val |trivial
def zJq (ti:TI)(a:AV) (k:Nat):Kp h nx (xy ti a k h nx):=by
 unfold xy
 repeat' split
 all_goals first |exact Kp.fN fun _=>.val |trivial
def zQ8 (ti:TI)(a:AV) (k:Nat):Kp h nx (xD ti a k h nx):=by
 unfold xD
 repeat' split
 all_goals first |exact .val |trivial
def zRq (ti:TI)(a b:AV):Kp h nx (kh ti a b h nx):=by
 unfold kh
 repeat' split
 all_goals first |exact Kp.fN fun _=>.val |trivial
def zQ7 (ti:TI)(a b:AV):Kp h nx (uy ti a b h nx):=by
 unfold uy
 repeat' split
 all_goals first |exact .val |exact Kp.fN fun _=>.val |trivial
def zNg (a:AV) (k:Nat):Kp h nx (xK a k h nx):=by
 unfold xK
 repeat' split
 all_goals first |exact .val |trivial
def zUh (ti:TI)(a:AV)(lo hi mx:Option AV):Kp h nx (xO ti a lo hi mx h nx):=by
 unfold xO
 repeat' split
 all_goals try simp only[fN_eq]
 all_goals repeat' split
 all_goals first |exact .val |trivial
def zKx (ti:TI)(t:TypeId)(ok:Bool)(a:AV):Kp h nx (zA ti t ok a h nx):=by
 unfold zA
 repeat' split
 all_goals first |exact .val |trivial
def zI5 (ok:Bool)(z:AV)(r:Option (Nat×AV)):Kp h nx (bX ok z r h nx):=by
 unfold bX
 repeat' split
 all_goals exact .val
def zG6 (ti:TI)(tk te:Option TI)(kt et:TypeId)(ok:Bool)(m k:AV):Kp h nx (xv ti tk te kt et ok m k h nx):=by
 unfold xv
 repeat' split
 all_goals first |exact zI5 _ _ _ |trivial
def zNd (ti:TI)(ps:List (Nat×AV)):Kp h nx (uz ti ps h nx):=by
 unfold uz
 repeat' split
 all_goals first |exact .val |trivial
def zSy (ti:TI)(a:AV):Kp h nx (k8 ti a h nx):=by
 unfold k8
 repeat' split
 all_goals first |exact Kp.vInt |trivial
def zNo (ti:TI)(a:AV):Kp h nx (zp ti a h nx):=by
 unfold zp
 repeat' split
 all_goals first |exact Kp.vInt |trivial
def zy4 (b:Bool)(l:List AV):Kp h nx (qs b l h nx):=by
 unfold qs
 repeat' split
 all_goals first |exact .val |trivial
def SP:Option TI→Bool
 |some (.mk (.slice _) _ _ _ _)=>true
 |some _=>false
 |none=>false
def zKr (ts td:TI)(te:Option TI)(et:TypeId)(v:AV)(hs:SP (some td)=false):Kp h nx (Eh ts td te et v h nx):=by
 unfold Eh
 repeat' split
 all_goals first |exact .val |exact Kp.fI fun _=>.val |exact Kp.fN fun _=>.val |trivial |(cases hs;done)
def zIz (ts td:TI)(te:Option TI)(et:TypeId)(v:AV)(hs:SP (some td)=false):Kp h nx (fC ts td te et v h nx):=by
 unfold fC
 repeat' split
 all_goals first |exact .val |trivial |(cases hs;done)
def mP (c:Cx)(op:Op):Bool:=
 match op with
 |.move _=>false |.assign _=>false |.pick _ _ _=>false |.build _ _=>false |.load _ _=>false |.nilCheck _=>false |.binOp _ _ _ _ _=>false |.unOp _ _ _=>false
 |.convert _ d _=>SP (c.tt.get d)
 |.makeInterface _ _=>false |.makeFunc _ _ _=>false |.slice _ _ _ _ _=>false |.fieldAddr _ _ _=>false |.field _ _ _=>false |.indexAddr _ _ _=>false |.index _ _ _=>false
 |.lookup _ _ _ _=>false |.typeAssert _ _ _ _=>false |.extract _ _=>false
 |.call cl=>match cl.callee with
  |.builtin .len=>false
  |.builtin .cap=>false
  |.builtin .max=>false
  |.builtin .min=>false
  |_=>true
 |_=>true
def zKk (op:Op)(hw:mP c op=false):Kp h nx (k7 c op tm h nx):=by
 cases op <;> try (cases hw;done)
 ·exact Kp.bR fun _=>.val
 ·exact Kp.bR fun _=>.val
 ·refine Kp.bR fun v=>?_;split
  ·exact Kp.bR fun _=>.val
  ·exact Kp.bR fun _=>.val
  ·trivial
 ·exact Kp.bR fun _=>Kp.bR fun _=>zNd _ _
 ·exact Kp.bR fun _=>Kp.bR fun _=>zJ2 _ _
 ·refine Kp.bR fun v=>?_;split <;> first |exact .val |trivial
 ·exact Kp.bR fun _=>Kp.bR fun _=>Kp.bR fun _=>zP7 _ _ _ _ _ _
 ·exact Kp.bR fun _=>zQm _ _
 ·rename_i s d x;show Kp h nx (sd c s d x tm h nx);unfold sd;refine Kp.bR fun ts0=>Kp.bR fun td0=>?_;split
  ·unfold HF;cases e9:c.tt.get s with
   |none=>trivial
   |some ts=>
    cases nM:c.tt.get d with
    |none=>trivial
    |some td=>
     show Kp h nx (bR (aL c.G tm x) fun a=>match c.G.sym with
      |false=>Eh ts td (c.tt.get (xY ts td)) (xY ts td) a h nx
      |true=>fC ts td (c.tt.get (xY ts td)) (xY ts td) a h nx)
     refine Kp.bR fun _=>?_;cases c.G.sym with
     |false=>exact zKr _ _ _ _ _ (by rw[← nM];exact hw)
     |true=>exact zIz _ _ _ _ _ (by rw[← nM];exact hw)
  ·refine Kp.bR fun _=>?_;unfold DZ
   repeat' split
   all_goals first |exact .val |trivial
  ·refine Kp.bR fun _=>?_;unfold H2
   repeat' split
   all_goals first |exact .val |trivial
  ·trivial
 ·exact Kp.bR fun _=>Kp.bR fun _=>zU4 _ _ _
 ·rename_i fn a b;show Kp h nx (xE c fn a b tm h nx);unfold xE;cases fn <;> first |exact Kp.bR fun _=>Kp.bR fun _=>.val |trivial
 ·exact Kp.bR fun _=>Kp.bR fun _=>Kp.bR fun _=>Kp.bR fun _=>Kp.bR fun _=>zUh _ _ _ _ _
 ·exact Kp.bR fun _=>Kp.bR fun _=>zJq _ _ _
 ·exact Kp.bR fun _=>Kp.bR fun _=>zQ8 _ _ _
 ·exact Kp.bR fun _=>Kp.bR fun _=>Kp.bR fun _=>zRq _ _ _
 ·exact Kp.bR fun _=>Kp.bR fun _=>Kp.bR fun _=>zQ7 _ _ _
 ·exact Kp.bR fun _=>Kp.bR fun _=>Kp.bR fun _=>zG6 _ _ _ _ _ _ _ _
 ·exact Kp.bR fun _=>Kp.bR fun _=>zKx _ _ _ _
 ·exact Kp.bR fun _=>zNg _ _
 ·rename_i cl;obtain⟨callee,args,ts⟩:=cl;cases callee <;> try (cases hw;done)
  rename_i b;cases b <;> try (cases hw;done)
  ·exact Kp.bR fun l=>Kp.bR fun _=>Kp.bR fun _=>by split <;> first |exact zNo _ _ |trivial
  ·exact Kp.bR fun l=>Kp.bR fun _=>Kp.bR fun _=>by split <;> first |exact zSy _ _ |trivial
  ·exact Kp.bR fun l=>zy4 true l
  ·exact Kp.bR fun l=>zy4 false l
def oy (c:Cx)(ca:Ca)(ya:Ya)(ops:List Oper)(o:Oper)(tm:Tr AV)(h:Tr ABlk) (nx:Nat):Option (AV×Tr ABlk×Nat):=
 match gU ops tm o with
 |none=>none
 |some false=>some (.tup [],h,nx)
 |some true=>match kZ o.op with
  |some (f,args)=>match KQ ca ya (aL c.G tm f) (dz c.G tm args.toList) h nx with
   |.ok v h nx=>some (v,h,nx)
   |.fail=>none
  |none=>match rA o.op with
   |true=>none
   |false=>match k7 c o.op tm h nx with
    |.val v h nx=>some (v,h,nx)
    |.unit h nx=>some (.tup [],h,nx)
    |.fail=>none
def zye (hc:CxOk P c){ca:Ca}(dA:jO P c ca){ya:Ya}(il:qt P c ya){ops:Array Oper}{o:Oper}{v:AV}{rr:Option Nat}(hs:oy c ca ya ops.toList o tm h nx=some (v,g,ny)):iH P c rr ops o v tm h nx g ny:=by
 intro σ a w hk ht Q K hK;unfold oy at hs;cases hw:gU ops.toList tm o with
 |none=>rw[hw]at hs;cases hs
 |some b=>
  rw[zm ht hw];rw[hw]at hs;cases b with
  |false=>
   cases hs;simp only[Bool.false_eq_true,if_false];exact⟨fun _ _=>trivial,hK σ w undef vJ (.refl hk)⟩
  |true=>
   simp only[if_true];simp only at hs;have plain:kZ o.op=none→o.wpIn (dT rr) 0 P a w K Q:=by
    intro tg;rw[tg]at hs;simp only at hs;cases jt:rA o.op with
    |true=>rw[jt]at hs;cases hs
    |false=>
    rw[jt]at hs;simp only at hs;have hd:∀cl,o.op≠.defer cl:=fun cl e=>by rw[e]at jt;cases jt
    have hp:=Si hc hk ht o;cases hv:k7 c o.op tm h nx with
    |fail=>rw[hv]at hs;cases hs
    |val v' g' pc=>
     rw[hv]at hs hp;cases hs;obtain⟨V,τ,x,h1,h2,h3⟩:=hp;refine kG hd ?_;rw[h1];exact hK τ x V h2 h3
    |unit g' pc=>
     rw[hv]at hs hp;cases hs;obtain⟨τ,x,h1,h3⟩:=hp;refine kG hd ?_;rw[h1];exact hK τ x undef vJ h3
   obtain⟨dst,op,type,pos,after,guard⟩:=o;cases op <;> try exact plain rfl
   rename_i cl;obtain⟨callee,args,argTypes⟩:=cl;cases callee <;> try exact plain rfl
   rename_i fo;clear plain
   replace hs:(match KQ ca ya (aL c.G tm fo) (dz c.G tm args.toList) h nx with |.ok v h nx=>some (v,h,nx) |.fail=>none)=some (v,g,ny):=hs
   cases hf:aL c.G tm fo with
   |none=>rw[hf]at hs;cases hs
   |some fv=>
    rw[hf]at hs;have lD:=kH hk ht hf;cases fv <;> try (cases hs;done)
    case yld i=>
     cases hl:dz c.G tm args.toList with
     |none=>rw[hl]at hs;cases hs
     |some l=>
      rw[hl]at hs
      replace hs:(match ya i l h nx with |.ok v h nx=>some (v,h,nx) |.fail=>none)=some (v,g,ny):=hs
      cases hy:ya i l h nx with
      |fail=>rw[hy]at hs;cases hs
      |ok v0 g0 n0=>
      rw[hy]at hs;cases hs;have qV:=uv hk ht hl;simp only[av]at lD;obtain⟨lb,uZ,e1⟩:=lD;obtain⟨fn,tmps,assign,body,GW,GX⟩:=il i l h nx _ _ _ hy σ w (args.toList.map a.eval) lb hk qV uZ;have hex:(execOp a.eval ⟨dst,.call ⟨.value fo,args,argTypes⟩,type,pos,after,guard⟩).run P w=(Instr.yield lb (args.toList.map a.eval).toArray).run P w:=by
       have e2:execOp a.eval ⟨dst,.call ⟨.value fo,args,argTypes⟩,type,pos,after,guard⟩=(do let d ← Deferred.ofValue (a.eval fo) (args.map a.eval);invoke d.target d.args):=rfl;rw[e2,e1];show (Instr.yield lb (#[]++args.map a.eval)).run P w=_
       congr 2
       apply Array.ext';simp
      refine kG (fun _ e=>by cases e) ?_;rw[hex,GW];refine⟨fun hh=>by simp[dT,Fence.wide]at hh,Sc (GX.mono fun e x q=>?_)⟩;cases e with
      |returned V=>
       obtain⟨τ,v,g,ny,q1,q2,q3,q4,q5⟩:=q;subst q3;subst q4;subst q5;exact hK τ x V q1 q2
      |panicked ch=>exact q.elim
      |outgrown=>exact q.elim
    rename_i fid first cap
    cases hl:dz c.G tm args.toList with
    |none=>rw[hl]at hs;cases hs
    |some l=>
     rw[hl]at hs
     replace hs:(match ca fid (first++(l++cap)) h nx with |.ok v h nx=>some (v,h,nx) |.fail=>none)=some (v,g,ny):=hs
     cases hy:ca fid (first++(l++cap)) h nx with
     |fail=>rw[hy]at hs;cases hs
     |ok v0 g0 n0=>
     rw[hy]at hs;cases hs;have qV:=uv hk ht hl;simp only[av]at lD;obtain⟨F,C,e1,r1,r2⟩:=lD;have gB:=dA fid _ h nx _ _ _ hy σ w (F++(args.toList.map a.eval++C)) hk (r1.append (qV.append r2));have hex:(execOp a.eval ⟨dst,.call ⟨.value fo,args,argTypes⟩,type,pos,after,guard⟩).run P w=(callFunc fid (F++(args.toList.map a.eval++C)).toArray).run P w:=by
      have e2:execOp a.eval ⟨dst,.call ⟨.value fo,args,argTypes⟩,type,pos,after,guard⟩=(do let d ← Deferred.ofValue (a.eval fo) (args.map a.eval);invoke d.target d.args):=rfl;rw[e2,e1];show (callFunc fid (F.toArray++args.map a.eval++C.toArray)).run P w=_
      congr 2
      apply Array.ext';simp
     refine kG (fun _ e=>by cases e) ?_;rw[hex];unfold CR at gB;cases aR:(callFunc fid (F++(args.toList.map a.eval++C)).toArray).run P w with
     |halt hh w'=>rw[aR]at gB;exact gB.elim
     |ok Bo w'=>
      rw[aR]at gB;cases Bo <;> try exact gB.elim
      ·rename_i V;obtain⟨τ,v,g,ny,q1,q2,q3,q4,q5⟩:=gB;subst q3;subst q4;subst q5;exact hK τ _ V q1 q2
      ·rename_i f' A';refine⟨fun hh=>by simp[dT,Fence.wide]at hh,HU (Calls.mono gB fun e x q=>?_)⟩;cases e with
       |returned V=>
        obtain⟨τ,v,g,ny,q1,q2,q3,q4,q5⟩:=q;subst q3;subst q4;subst q5;exact hK τ x V q1 q2
       |panicked ch=>exact q.elim
       |outgrown=>exact q.elim
def YV {ca:Ca}{ya:Ya}{ops:List Oper}{o:Oper}(hs:∀t∈fx ops o,tm.get t=tm'.get t):oy c ca ya ops o tm h nx=oy c ca ya ops o tm' h nx:=by
 have eZ:vz tm tm' o.op.operands.toList:=fun t ht=>hs t (by
  unfold fx;rw[List.mem_append];exact .inl (List.mem_filterMap.2 ⟨.tmp t,ht,rfl⟩))
 have cD:gU ops tm o=gU ops tm' o:=by
  unfold gU;cases hg:o.guard with
  |none=>rfl
  |some p=>
   obtain⟨j,want⟩:=p;simp only;cases hj:ops[j]? with
   |none=>rfl
   |some oj=>
    simp only;cases hd:oj.dst with
    |none=>rfl
    |some d=>
     simp only;rw[hs d (by unfold fx;rw[List.mem_append];refine .inr ?_;rw[hg];simp only;rw[hj];simp[hd])]
 unfold oy;rw[cD];have bu:∀f args,kZ o.op=some (f,args)→aL c.G tm f=aL c.G tm' f∧dz c.G tm args.toList=dz c.G tm' args.toList:=by
  intro f args Ak;unfold kZ at Ak;cases Gx:o.op <;> rw[Gx]at Ak <;> try (cases Ak;done)
  rename_i cl;obtain⟨callee,args',ts⟩:=cl;cases callee <;> try (cases Ak;done)
  cases Ak;rw[Gx]at eZ;exact⟨zC eZ (by simp[Op.operands,Call.operands]),Ej eZ fun y hy=>by simp[Op.operands,Call.operands]at hy ⊢;exact .inr hy⟩
 cases gU ops tm' o with
 |none=>rfl
 |some b=>
  cases b with
  |false=>rfl
  |true=>
   simp only;cases Ak:kZ o.op with
   |none=>simp only;rw[ZR o.op eZ]
   |some p=>
    obtain⟨f,args⟩:=p;obtain⟨e1,e2⟩:=bu f args Ak;simp only;rw[e1,e2]
def zyo {ca:Ca}{ya:Ya}{ops:List Oper}{o:Oper}(hw:mP c o.op=false){v:AV}(he:oy c ca ya ops o tm h nx=some (v,g,ny)):g=h∧ny=nx:=by
 unfold oy at he;split at he
 ·cases he
 ·cases he;exact⟨rfl,rfl⟩
 ·have tg:kZ o.op=none:=by
   unfold kZ;cases eZ:o.op <;> try rfl
   rename_i cl;obtain⟨callee,args,ts⟩:=cl;rw[eZ]at hw;cases callee <;> first |rfl |(cases hw;done)
  rw[tg]at he;simp only at he;split at he
  ·cases he
  have Jf:=zKk (c:=c) (tm:=tm) (h:=h) (nx:=nx) o.op hw;cases hv:k7 c o.op tm h nx with
  |fail=>rw[hv]at he;cases he
  |unit _ _=>rw[hv]at Jf;exact Jf.elim
  |val v' g' pc=>
   rw[hv]at he Jf;cases he;exact Jf
def nR (c:Cx)(ca:Ca)(ya:Ya) (sz:Nat)(ops:List Oper)(tm:Tr AV)(h:Tr ABlk) (nx:Nat) (i:Nat):Option (Tr AV×Tr ABlk×Nat):=
 Nat.rec (motive:=fun _=>Option (Tr AV×Tr ABlk×Nat)) (some (tm,h,nx)) (fun i s=>match s with
  |none=>none
  |some (tm,h,nx)=>match ops[i]? with
   |none=>none
   |some o=>match oy c ca ya ops o tm h nx with
    |none=>none
    |some (v,h',ax)=>match o.dst with
     |none=>some (tm,h',ax)
     |some d=>match Nat.ble (Nat.succ d) sz with
      |true=>tm.putK (some v) d fun tm'=>some (tm',h',ax)
      |false=>none) i
def YN {ca:Ca}{ya:Ya}{ops:List Oper}{i:Nat}{s:Tr AV×Tr ABlk×Nat}(hs:nR c ca ya sz ops tm h nx (i+1)=some s):
  ∃aZ h1 n1 o v h2 n2,nR c ca ya sz ops tm h nx i=some (aZ,h1,n1)∧ops[i]?=some o∧oy c ca ya ops o aZ h1 n1=some (v,h2,n2)∧(∀d,o.dst=some d→d<sz)∧
   s=((match o.dst with |none=>aZ |some d=>aZ.put d (some v)),h2,n2):=by
 change (match nR c ca ya sz ops tm h nx i with
  |none=>none
  |some (tm,h,nx)=>match ops[i]? with
   |none=>none
   |some o=>match oy c ca ya ops o tm h nx with
    |none=>none
    |some (v,h',ax)=>match o.dst with
     |none=>some (tm,h',ax)
     |some d=>match Nat.ble (Nat.succ d) sz with
      |true=>tm.putK (some v) d fun tm'=>some (tm',h',ax)
      |false=>none)=some s at hs
 cases h1:nR c ca ya sz ops tm h nx i with
 |none=>rw[h1]at hs;cases hs
 |some p=>
  obtain⟨aZ,g1,n1⟩:=p;rw[h1]at hs;simp only at hs;cases h2:ops[i]? with
  |none=>rw[h2]at hs;cases hs
  |some o=>
   rw[h2]at hs;simp only at hs;cases h3:oy c ca ya ops o aZ g1 n1 with
   |none=>rw[h3]at hs;cases hs
   |some q=>
    obtain⟨v,g2,n2⟩:=q;rw[h3]at hs;simp only at hs;cases h4:o.dst with
    |none=>
     rw[h4]at hs;cases hs;exact⟨aZ,g1,n1,o,v,g2,n2,rfl,rfl,h3,(fun d e=>by rw[h4]at e;cases e),by rw[h4]⟩
    |some d=>
     rw[h4]at hs;simp only at hs;cases h5:Nat.ble (Nat.succ d) sz with
     |false=>rw[h5]at hs;cases hs
     |true=>
      rw[h5]at hs;simp only[Tr.putK_eq]at hs;cases hs;exact⟨aZ,g1,n1,o,v,g2,n2,rfl,rfl,h3,(fun d' e=>by rw[h4]at e;cases e;exact ai h5),by rw[h4]⟩
def Zy {ca:Ca}{ya:Ya}{ops:List Oper}{s:Tr AV×Tr ABlk×Nat}:∀(n i:Nat),nR c ca ya sz ops tm h nx (i+n)=some s→∃s',nR c ca ya sz ops tm h nx i=some s'
 |0,i,hs=>⟨s,hs⟩
 |n+1,i,hs=>by
  obtain⟨aZ,h1,n1,_,_,_,_,e,_⟩:=YN (show nR c ca ya sz ops tm h nx ((i+n)+1)=some s from hs);exact Zy n i e
mutual
def Ch:AV→AV→Bool
 |.bool a,.bool b=>match a with |true=>b |false=>!b
 |.int k a,.int k' b=>match vu k k' with |true=>rS a b |false=>false
 |.str l n,.str k m=>match Nat.beq l k with |true=>Nat.beq n m |false=>false
 |.ptr0,.ptr0=>true
 |.ptr i o,.ptr j p=>match Nat.beq i j with |true=>Nat.beq o p |false=>false
 |.sl0,.sl0=>true
 |.sl i o l c b,.sl i' o' l' c' b'=>Nat.beq i i' && Nat.beq o o' && Nat.beq l l' && Nat.beq c c' && (match b with |true=>b' |false=>!b')
 |.map0,.map0=>true
 |.map i,.map j=>Nat.beq i j
 |.func f a c,.func f' a' c'=>match Nat.beq f f' with |true=>xJ a a' && xJ c c' |false=>false
 |.nilFunc,.nilFunc=>true
 |.iface t v,.iface t' v'=>match Nat.beq t t' with |true=>Ch v v' |false=>false
 |.nilIface,.nilIface=>true
 |.agg l,.agg m=>xJ l m
 |.tup l,.tup m=>xJ l m
 |.opq n,.opq m=>Nat.beq n m
 |.yld n,.yld m=>Nat.beq n m
 |_,_=>false
def xJ:List AV→List AV→Bool
 |[],[]=>true
 |a::l,b::m=>match Ch a b with |true=>xJ l m |false=>false
 |_,_=>false
end
def bm {a b:Bool}(h:(match a with |true=>b |false=>!b)=true):a=b:=by cases a <;> cases b <;> first |rfl |(cases h;done)
mutual
def Ki:∀(a b:AV),Ch a b=true→a=b:=by
 intro a b h;cases a <;> cases b <;> first |rfl |(simp only[Ch]at h;first |(cases h;done) |skip)
 ·exact congrArg AV.bool (bm h)
 ·rename_i k a k' b;cases hk:vu k k' with
  |false=>rw[hk]at h;cases h
  |true=>
   rw[hk]at h;have e1:=LU hk;have h2:rS a b=true:=h;rw[sE]at h2;have e2:=eq_of_beq h2;subst e1;subst e2;rfl
 ·rename_i l n k m;cases hk:Nat.beq l k with
  |false=>rw[hk]at h;cases h
  |true=>
   rw[hk]at h;rw[ad hk,ad (show Nat.beq n m=true from h)]
 ·rename_i l n k m;cases hk:Nat.beq l k with
  |false=>rw[hk]at h;cases h
  |true=>
   rw[hk]at h;rw[ad hk,ad (show Nat.beq n m=true from h)]
 ·rename_i i o l c b i' o' l' c' b';simp only[ao]at h;obtain⟨⟨⟨⟨e1,e2⟩,e3⟩,e4⟩,e5⟩:=h;rw[ad e1,ad e2,ad e3,ad e4,bm e5]
 ·rw[ad h]
 ·rename_i f a c f' a' c';cases hk:Nat.beq f f' with
  |false=>rw[hk]at h;cases h
  |true=>
   rw[hk]at h;have h2:(xJ a a' && xJ c c')=true:=h;rw[ao]at h2;rw[ad hk,Ii a a' h2.1,Ii c c' h2.2]
 ·rename_i t v t' v';cases hk:Nat.beq t t' with
  |false=>rw[hk]at h;cases h
  |true=>
   rw[hk]at h;rw[ad hk,Ki v v' h]
 ·rename_i l m;rw[Ii l m h]
 ·rename_i l m;rw[Ii l m h]
 ·rw[ad h]
 ·rw[ad h]
def Ii:∀(a b:List AV),xJ a b=true→a=b:=by
 intro a b h;cases a <;> cases b <;> first |rfl |(simp only[xJ]at h;first |(cases h;done) |skip)
 rename_i a l b m;cases hk:Ch a b with
 |false=>rw[hk]at h;cases h
 |true=>
  rw[hk]at h;rw[Ki a b hk,Ii l m h]
end
def LI (c:Cx)(ms:List Nat) (i j:Nat)(li:List Tmp)(oi oj:Oper):Bool:=
 match Nat.beq i j with
 |true=>true
 |false=>
  let ordered:Bool:=match Nat.ble (Nat.succ j) i with
   |true=>dn ms j i
   |false=>dn ms i j
  match (match mP c oi.op with |true=>mP c oj.op |false=>false) with
  |true=>ordered
  |false=>match oj.dst with
   |none=>true
   |some d=>match zh d (li++oi.dst.toList) with
    |true=>ordered
    |false=>true
def zF5 (c:Cx)(ops:List Oper)(ms:List Nat):Bool:=
 eJ (jM ops.length) fun i=>match ops[i]? with
  |none=>true
  |some oi=>match eJ oi.after.toList (fun e=>match Region.binds .any e with |true=>Nat.ble (Nat.succ e.on) i |false=>true) with
   |false=>false
   |true=>eJ (jM ops.length) fun j=>match ops[j]? with
    |none=>true
    |some oj=>LI c ms i j (fx ops oi) oi oj
def zzy (c:Cx)(ops:List Oper)(ms:List Nat) (i p:Nat):Bool:=
 eJ (jM ops.length) fun j=>match ops[j]? with
  |none=>true
  |some oj=>match mP c oj.op with
   |false=>true
   |true=>match Nat.ble (Nat.succ j) p with
    |true=>!(dn ms i j)
    |false=>!(dn ms j i)
def HW (c:Cx)(ca:Ca)(ya:Ya) (sz:Nat)(ops:List Oper)(tm:Tr AV)(h:Tr ABlk) (nx:Nat)(ms:List Nat) (i:Nat)(o:Oper) (p:Nat):Bool:=
 match zzy c ops ms i p with
 |false=>true
 |true=>match nR c ca ya sz ops tm h nx i,nR c ca ya sz ops tm h nx p with
  |some (aZ,h1,n1),some (_,h2,n2)=>match oy c ca ya ops o aZ h1 n1,oy c ca ya ops o aZ h2 n2 with
   |some (v,_,_),some (u,_,_)=>Ch u v
   |_,_=>false
  |_,_=>false
def zxm (c:Cx)(ca:Ca)(ya:Ya) (sz:Nat)(ops:List Oper)(tm:Tr AV)(h:Tr ABlk) (nx:Nat)(ms:List Nat):Bool:=
 eJ (jM ops.length) fun i=>match ops[i]? with
  |none=>true
  |some o=>match mP c o.op with
   |true=>true
   |false=>match HW c ca ya sz ops tm h nx ms i o 0 with
    |false=>false
    |true=>eJ (jM ops.length) fun j=>match ops[j]? with
     |none=>true
     |some oj=>match mP c oj.op with
      |false=>true
      |true=>HW c ca ya sz ops tm h nx ms i o (Nat.succ j)
def Cz (c:Cx)(ca:Ca)(ya:Ya) (sz:Nat)(ops:Array Oper)(tm:Tr AV)(h:Tr ABlk) (nx:Nat):OS:=
 match zF5 c ops.toList (bP ops.toList []) with
 |false=>.fail
 |true=>match nR c ca ya sz ops.toList tm h nx ops.toList.length with
  |none=>.fail
  |some (tm',h',ax)=>match zxm c ca ya sz ops.toList tm h nx (bP ops.toList []) with
   |true=>.ok tm' h' ax
   |false=>.fail
def rz (c:Cx)(ca:Ca)(ya:Ya) (sz:Nat)(ops:Array Oper)(tm:Tr AV)(h:Tr ABlk) (nx:Nat) (i:Nat):Tr AV×Tr ABlk×Nat:=(nR c ca ya sz ops.toList tm h nx i).getD (tm,h,nx)
def Ra (c:Cx)(ca:Ca)(ya:Ya) (sz:Nat)(ops:Array Oper)(tm:Tr AV)(h:Tr ABlk) (nx:Nat) (i:Nat):AV:=match nR c ca ya sz ops.toList tm h nx i with
 |some (aZ,h1,n1)=>match ops[i]? with
  |some o=>match oy c ca ya ops.toList o aZ h1 n1 with
   |some (v,_,_)=>v
   |none=>.tup []
  |none=>.tup []
 |none=>.tup []
def J9 (c:Cx)(ops:Array Oper) (i:Nat):Bool:=match ops[i]? with
 |some o=>mP c o.op
 |none=>false
def S7 (hm:P.follows .mixedOrders=true)(hc:CxOk P c){ca:Ca}(dA:jO P c ca){ya:Ya}(il:qt P c ya):Ck P c (Cz c ca ya):=by
 intro sz ops tm h nx tm' h' ax he inr id ds rr hi σ a w hk st;simp only[AS.h,AS.nx,AS.tm,AS.ds]at hk st;unfold Cz at he;cases hs:zF5 c ops.toList (bP ops.toList []) with
 |false=>rw[hs]at he;cases he
 |true=>
  rw[hs]at he;simp only at he;cases hf:nR c ca ya sz ops.toList tm h nx ops.toList.length with
  |none=>rw[hf]at he;cases he
  |some s=>
   obtain⟨lO,hF,nF⟩:=s;rw[hf]at he;simp only at he;cases hd:zxm c ca ya sz ops.toList tm h nx (bP ops.toList []) with
   |false=>rw[hd]at he;cases he
   |true=>
    rw[hd]at he;injection he with he1 og he3;subst he1;subst og;subst he3;rw[Array.length_toList]at hf;have dL:xC ops (bP ops.toList []):=Eu ops.toList [] (fun j m hm=>by simp at hm) fun j=>by simp
    have aU:∀i oi,ops[i]?=some oi→(∀e∈oi.after.toList,Region.binds .any e=true→e.on<i)∧∀j oj,ops[j]?=some oj→LI c (bP ops.toList []) i j (fx ops.toList oi) oi oj=true:=by
     intro i oi hi;have ay:i<ops.size:=by
      rcases Nat.lt_or_ge i ops.size with h1 |h1
      ·exact h1
      ·rw[Array.getElem?_eq_none h1]at hi;cases hi
     have h1:=ep hs i (by simp[jM,ay]);simp only[Array.getElem?_toList,hi]at h1;cases hb:eJ oi.after.toList (fun e=>match Region.binds .any e with |true=>Nat.ble (Nat.succ e.on) i |false=>true) with
     |false=>rw[hb]at h1;cases h1
     |true=>
      rw[hb]at h1;refine⟨fun e he FF=>?_,fun j oj hj=>?_⟩
      ·have:=ep hb e he;simp only[FF]at this;exact ai this
      ·have On:j<ops.size:=by
        rcases Nat.lt_or_ge j ops.size with h2 |h2
        ·exact h2
        ·rw[Array.getElem?_eq_none h2]at hj;cases hj
       have:=ep h1 j (by simp[jM,On]);simpa only[Array.getElem?_toList,hj]using this
    have eF:∀i j,i≠j→(match Nat.ble (Nat.succ j) i with |true=>dn (bP ops.toList []) j i |false=>dn (bP ops.toList []) i j)=true→(j<i→dn (bP ops.toList []) j i=true)∧(i<j→dn (bP ops.toList []) i j=true):=by
     intro i j aT ho;cases hb:Nat.ble (Nat.succ j) i with
     |true=>
      rw[hb]at ho;have:=ai hb;exact⟨fun _=>ho,fun h2=>by omega⟩
     |false=>
      rw[hb]at ho;have:¬j<i:=fun hh=>by rw[show Nat.ble (Nat.succ j) i=true from Nat.ble_eq_true_of_le hh]at hb;cases hb
      exact⟨fun h2=>absurd h2 this,fun _=>ho⟩
    have ig:∀i,i≤ops.size→∃s,nR c ca ya sz ops.toList tm h nx i=some s:=fun i hi=>Zy (ops.size-i) i (by rw[Nat.add_sub_cancel' hi];exact hf);have eZ:∀i o,ops[i]?=some o→∃aZ h1 n1 v h2 n2,nR c ca ya sz ops.toList tm h nx i=some (aZ,h1,n1)∧oy c ca ya ops.toList o aZ h1 n1=some (v,h2,n2)∧(∀d,o.dst=some d→d<sz)∧nR c ca ya sz ops.toList tm h nx (i+1)=some ((match o.dst with |none=>aZ |some d=>aZ.put d (some v)),h2,n2)∧Ra c ca ya sz ops tm h nx i=v∧rz c ca ya sz ops tm h nx i=(aZ,h1,n1)∧rz c ca ya sz ops tm h nx (i+1)=((match o.dst with |none=>aZ |some d=>aZ.put d (some v)),h2,n2):=by
     intro i o ho;have ay:i<ops.size:=(Array.getElem?_eq_some_iff.1 ho).1;obtain⟨s,hs⟩:=ig (i+1) ay;obtain⟨aZ,h1,n1,o',v,h2,n2,e1,e2,e3,e4,e5⟩:=YN hs;have:o'=o:=by
      rw[Array.getElem?_toList,ho]at e2;cases e2;rfl
     subst this;have ku:nR c ca ya sz ops.toList tm h nx (i+1)=some ((match o'.dst with |none=>aZ |some d=>aZ.put d (some v)),h2,n2):=by rw[hs];exact congrArg some e5
     exact⟨aZ,h1,n1,v,h2,n2,e1,e3,e4,ku,by unfold Ra;rw[e1];simp only;rw[ho];simp only;rw[e3],by unfold rz;rw[e1];rfl,by unfold rz;rw[ku];rfl⟩
    have FA:∀{i o},ops[i]?=some o→J9 c ops i=mP c o.op:=fun {i o} ho=>by unfold J9;rw[ho]
    have kN:rz c ca ya sz ops tm h nx 0=(tm,h,nx):=rfl;have hSn:rz c ca ya sz ops tm h nx ops.size=(lO,hF,nF):=by unfold rz;rw[hf];rfl
    have key:Dr P c rr sz ops (rz c ca ya sz ops tm h nx) (Ra c ca ya sz ops tm h nx) (J9 c ops) (dn (bP ops.toList [])):=by
     refine⟨?back,?bef,?tmps,?chain,?step,?keep,?dyn⟩
     case step=>
      intro i o ho;obtain⟨aZ,h1,n1,v,h2,n2,e1,e3,e4,e5,e6,e7,e8⟩:=eZ i o ho;rw[e6,e7,e8];refine⟨zye hc dA il ?_,e4,rfl⟩;rw[← e3];exact YV fun t ht=>by rw[Ef,if_pos ht]
     case keep=>
      intro i ay hw;obtain⟨aZ,h1,n1,v,h2,n2,e1,e3,e4,e5,e6,e7,e8⟩:=eZ i _ (Array.getElem?_eq_getElem ay);rw[FA (Array.getElem?_eq_getElem ay)]at hw;obtain⟨k1,k2⟩:=zyo hw e3;rw[e7,e8,k1,k2]
     case back=>
      intro i hi k aW;have ho:ops[i]?=some ops[i]:=Array.getElem?_eq_getElem hi;unfold gO at aW;rw[ho]at aW;simp only[Option.map_some,Option.getD_some,Array.any_eq_true']at aW;obtain⟨e,he,hb⟩:=aW;rw[ao]at hb;have:=(aU i _ ho).1 e (by simpa using he) hb.1;have dK:e.on=k:=by simpa using hb.2
      omega
     case bef=>
      intro i j hb l hl ba;unfold dn at hb;rw[DI]at hb;cases qW:(bP ops.toList [])[j]? with
      |none=>simp[List.getD,qW]at hb
      |some m=>
       have:(bP ops.toList []).getD j 0=m:=by simp[List.getD,qW]
       rw[this]at hb;exact dL j m qW i hb l hl ba
     case tmps=>
      intro i j o p d hi hj aT Gz Gp;have hp:=(aU i o hi).2 j p hj;unfold LI at hp;cases hb:Nat.beq i j with
      |true=>exact absurd (ad hb) aT
      |false=>
       rw[hb]at hp;simp only at hp;refine eF i j aT ?_;have bZ:zh d (fx ops.toList o++o.dst.toList)=true:=by
        apply HP;rw[List.mem_append]
        rcases Gp with h1 |h1
        ·exact .inl h1
        ·rw[h1];exact .inr (by simp)
       cases Vy:(match mP c o.op with |true=>mP c p.op |false=>false) with
       |true=>rw[Vy]at hp;exact hp
       |false=>
        rw[Vy,Gz]at hp;simp only at hp;rw[bZ]at hp;exact hp
     case chain=>
      intro i j ay kr Vv Vw;have hi:ops[i]?=some ops[i]:=Array.getElem?_eq_getElem (by omega);have hj:ops[j]?=some ops[j]:=Array.getElem?_eq_getElem kr;rw[FA hi]at Vv;rw[FA hj]at Vw;have hp:=(aU i _ hi).2 j _ hj;unfold LI at hp;cases hb:Nat.beq i j with
      |true=>have:=ad hb;omega
      |false=>
       rw[hb]at hp;simp only[Vv,Vw]at hp;exact(eF i j (by omega) hp).2 ay
     case dyn=>
      intro i o hi OT p hp OZ wX;have Jj:mP c o.op=false:=by rw[← FA hi];exact OT
      obtain⟨aZ,h1,n1,v,h2,n2,Pb,OW,e4,e5,e6,e7,e8⟩:=eZ i o hi;obtain⟨q,GG⟩:=ig p hp;have ve:p=0∨∃o',ops[p-1]?=some o'∧mP c o'.op=true:=by
       rcases OZ with e |e
       ·exact .inl e
       ·refine .inr ?_;unfold J9 at e;cases fJ:ops[p-1]? with
        |none=>rw[fJ]at e;cases e
        |some o'=>rw[fJ]at e;exact⟨o',rfl,e⟩
      have hvalid:∀j o',ops[j]?=some o'→mP c o'.op=true→(dn (bP ops.toList []) j i=true→j<p)∧(dn (bP ops.toList []) i j=true→p≤j):=fun j o' hj hw=>wX j (Array.getElem?_eq_some_iff.1 hj).1 (by rw[FA hj];exact hw);have hSp:rz c ca ya sz ops tm h nx p=q:=by unfold rz;rw[GG];rfl
      rw[e6,e7,hSp];have Of:i<ops.size:=by
       rcases Nat.lt_or_ge i ops.size with h5 |h5
       ·exact h5
       ·rw[Array.getElem?_eq_none h5]at hi;cases hi
      have FQ:=ep hd i (by simp[jM,Of]);simp only[Array.getElem?_toList,hi,Jj]at FQ;have nA:HW c ca ya sz ops.toList tm h nx (bP ops.toList []) i o p=true:=by
       cases jt:HW c ca ya sz ops.toList tm h nx (bP ops.toList []) i o 0 with
       |false=>rw[jt]at FQ;cases FQ
       |true=>
        rw[jt]at FQ
        rcases ve with ve |⟨o',fJ,rR⟩
        ·subst ve;exact jt
        ·cases p with
         |zero=>exact jt
         |succ p=>
          have pT:ops[p]?=some o':=by simpa using fJ
          have:=ep FQ p (by simp[jM];omega);simpa only[Array.getElem?_toList,pT,rR]using this
      unfold HW at nA;have GB:zzy c ops.toList (bP ops.toList []) i p=true:=by
       have gen:∀(l:List Nat),eJ l (fun j=>match ops.toList[j]? with
         |none=>true
         |some oj=>match mP c oj.op with
          |false=>true
          |true=>match Nat.ble (Nat.succ j) p with
           |true=>!(dn (bP ops.toList []) i j)
           |false=>!(dn (bP ops.toList []) j i))=true:=by
        intro l
        induction l with
        |nil=>rfl
        |cons j l ih=>
         show (match (match ops.toList[j]? with
          |none=>true
          |some oj=>match mP c oj.op with
           |false=>true
           |true=>match Nat.ble (Nat.succ j) p with
            |true=>!(dn (bP ops.toList []) i j)
            |false=>!(dn (bP ops.toList []) j i)) with |true=>_ |false=>false)=true
         have mj:(match ops.toList[j]? with
          |none=>true
          |some oj=>match mP c oj.op with
           |false=>true
           |true=>match Nat.ble (Nat.succ j) p with
            |true=>!(dn (bP ops.toList []) i j)
            |false=>!(dn (bP ops.toList []) j i))=true:=by
          rw[Array.getElem?_toList];cases hj:ops[j]? with
          |none=>rfl
          |some oj=>
           simp only;cases hw:mP c oj.op with
           |false=>rfl
           |true=>
            simp only;obtain⟨v1,v2⟩:=hvalid j oj hj hw;cases hb:Nat.ble (Nat.succ j) p with
            |true=>
             have:=ai hb;simp only;cases FD:dn (bP ops.toList []) i j with
             |false=>rfl
             |true=>have:=v2 FD;omega
            |false=>
             have cS:¬j<p:=fun hh=>by rw[show Nat.ble (Nat.succ j) p=true from Nat.ble_eq_true_of_le hh]at hb;cases hb
             simp only;cases FD:dn (bP ops.toList []) j i with
             |false=>rfl
             |true=>exact absurd (v1 FD) cS
         rw[mj];exact ih
       exact gen _
      rw[GB,Pb,GG]at nA;obtain⟨q1,q2,q3⟩:=q;simp only at nA ⊢;rw[OW]at nA;cases pT:oy c ca ya ops.toList o aZ q2 q3 with
      |none=>rw[pT]at nA;cases nA
      |some r=>
       obtain⟨u,g,ny⟩:=r;rw[pT]at nA;have:=Ki u v nA;subst this;obtain⟨k1,k2⟩:=zyo Jj pT;subst k1;subst k2;refine zye hc dA il ?_;rw[← pT];exact YV fun t ht=>by rw[Ef,if_pos ht]
    have aW:Ok c.G σ (rz c ca ya sz ops tm h nx 0).2.1 (rz c ca ya sz ops tm h nx 0).2.2 w:=hk;have rq:St σ (rz c ca ya sz ops tm h nx 0).1 a sz ds:=st;have fin:=zF8 hm key aW rq id (Q:=QE (.norm lO hF nF ds)) (by rw[hSn];exact⟨rfl,rfl⟩);exact fin
end
section
variable {P : Program} {c : Cx} {σ τ υ : Sg} {h g : Tr ABlk} {nx ny : Nat} {w x : World}
def EJ (P:Program)(f:FuncId)(e:Array Value→Sem Value):Prop:=∀A w,(callFunc f A).run P w=((e A).run P w).andThen fun v w'=>.ok (.value v) w'
def ZG {f : FuncId} {fn : Func} {e : Array Value → Sem Value} (hf : P.funcs[f]? = some fn) (hn : (fn.name == "runtime.NumGoroutine") = false) (hb : fn.body = none) (h1 : Extern.findNext fn = none) (h2 : Extern.find fn = some e) : EJ P f e := by
 intro A w
 have ei : ¬ fn.name = "runtime.NumGoroutine" := fun e => by rw [e] at hn; simp at hn
 simp only[callFunc,Sem.run_bind,run_program,Result.andThen,hf,ei,hb,h1,h2,mark,Sem.run,Option.isNone_none,if_true,beq_iff_eq,if_false];cases (e A).run P w <;> rfl
noncomputable section
def LD (f0:FuncId)(ca:Ca):Ca:=fun f args h nx=>
 match Nat.beq f f0 with
 |true=>match args with
  |[v]=>.ok v h nx
  |_=>.fail
 |false=>ca f args h nx
def YW {f0:FuncId}(hx:EJ P f0 Extern.AbiNoEscape.same){ca:Ca}(dA:jO P c ca):jO P c (LD f0 ca):=by
 intro f args h nx v g ny he;unfold LD at he;cases hf:Nat.beq f f0 with
 |false=>rw[hf]at he;exact dA f args h nx v g ny he
 |true=>
  intro σ w A ok hA;rw[hf]at he;have e1:=ad hf;subst e1;simp only at he;split at he
  ·cases he;simp only[aC]at hA;obtain⟨V,L,e2,e3,e4⟩:=hA;subst e4;subst e2;unfold CR;rw[hx];exact⟨σ,_,_,_,e3,.refl ok,rfl,rfl,rfl⟩
  ·cases he
def D2 (b l:Nat):Nat→Nat→Option Nat:=
 Nat.rec (motive:=fun _=>Nat→Nat→Option Nat) (fun _ _=>none) (fun _ ih n i=>match Nat.beq (Nat.mod n 256) b with
  |true=>some i
  |false=>ih (Nat.div n 256) (Nat.succ i)) l
def zOw (b l n i:Nat):D2 b (l+1) n i=match Nat.beq (n % 256) b with
  |true=>some i
  |false=>D2 b l (n / 256) (i+1):=rfl
def zQv {b:Nat}(hb:b<256):∀(l n i:Nat),(match D2 b l n i with |some j=>i≤j∧Lib.indexByte (cJ l n) (UInt8.ofNat b)=((j-i:Nat):Int) |none=>Lib.indexByte (cJ l n) (UInt8.ofNat b)=-1):=by
 intro l
 induction l with
 |zero=>intro n i;rfl
 |succ l ih=>
  intro n i;rw[zOw,r7];have a1:n % 256<256:=Nat.mod_lt _ (by decide);cases hq:Nat.beq (n % 256) b with
  |true=>
   have e:=ad hq;simp only;refine⟨ae _,?_⟩;rw[e];simp[Lib.indexByte]
  |false=>
   have aT:=nU hq;have Ah:(UInt8.ofNat (n % 256) == UInt8.ofNat b)=false:=by
    apply beq_eq_false_iff_ne.2;intro e;have:=congrArg UInt8.toNat e;rw[u8 a1,u8 hb]at this;exact aT this
   have h1:=ih (n / 256) (i+1);simp only;cases hi:D2 b l (n / 256) (i+1) with
   |none=>
    rw[hi]at h1;simp only at h1 ⊢;simp[Lib.indexByte,Ah,h1]
   |some j=>
    rw[hi]at h1;simp only at h1 ⊢;obtain⟨h2,h3⟩:=h1;refine⟨by omega,?_⟩;have OO:((((j-(i+1):Nat):Int)) == -1)=false:=by
     rw[beq_eq_false_iff_ne];omega
    simp only[Lib.indexByte,Ah,h3,OO];simp;omega
def Ll (f0:FuncId)(ca:Ca):Ca:=fun f args h nx=>
 match Nat.beq f f0 with
 |true=>match args with
  |[.str l n,.int .u8 (.ofNat b)]=>match Nat.ble b 255 with
   |true=>match D2 b l n 0 with
    |some i=>fN i fun i=>.ok (.int .i64 (Int.ofNat i)) h nx
    |none=>.ok (.int .i64 (Int.negSucc 0)) h nx
   |false=>.fail
  |_=>.fail
 |false=>ca f args h nx
def zFi {f0:FuncId}(hx:EJ P f0 Extern.BytealgIndexByte.indexByte){ca:Ca}(dA:jO P c ca):jO P c (Ll f0 ca):=by
 intro f args h nx v g ny he;unfold Ll at he;cases hf:Nat.beq f f0 with
 |false=>rw[hf]at he;exact dA f args h nx v g ny he
 |true=>
  intro σ w A ok hA;rw[hf]at he;have e1:=ad hf;subst e1;simp only at he;split at he
  ·rename_i l n b;cases hb:Nat.ble b 255 with
   |false=>rw[hb]at he;cases he
   |true=>
    rw[hb]at he;simp only at he;have aV:b<256:=by have:=ai hb;omega
    simp only[aC,av]at hA;obtain⟨V,L,e2,⟨_,e3⟩,V2,L2,e4,e5,e6⟩:=hA;subst e6;subst e5;subst e4;subst e3;subst e2;have aR:=Lib.run_indexByteString (P:=P) (bK l n) (Int.ofNat b) w;have o9:=zQv aV l n 0;have nB:(bK l n).data.toList=cJ l n:=by show (cJ l n).toArray.toList=_;simp
    have hu:(Int.ofNat b).toNat.toUInt8=UInt8.ofNat b:=rfl;rw[nB,hu]at aR;have bu:(callFunc f [Value.string (bK l n),.int .u8 (Int.ofNat b)].toArray).run P w=.ok (.value (.int .i64 (Lib.indexByte (cJ l n) (UInt8.ofNat b)))) w:=by
     rw[hx];show ((Extern.BytealgIndexByte.indexByte #[.string (bK l n),.int .u8 (Int.ofNat b)]).run P w).andThen _=_;rw[aR];rfl
    unfold CR;rw[bu];cases hi:D2 b l n 0 with
    |none=>
     rw[hi]at he o9;cases he;exact⟨σ,_,_,_,by simp only[av];rw[o9];rfl,.refl ok,rfl,rfl,rfl⟩
    |some i=>
     rw[hi]at he o9;simp only[fN_eq]at he;cases he;exact⟨σ,_,_,_,by simp only[av];rw[o9.2];rfl,.refl ok,rfl,rfl,rfl⟩
  ·cases he
end
end
section
open Go.Proofs Go.RowKit
def G1:Gl:=⟨6,false,fun _=>none⟩
def IH (b:Bool)(P:Program)(G:Gl) (nt nf:Nat):Cx:=.mk (tab (x8 b P) nt) .nil (tab (rE P) nf) G (B7 P)
set_option linter.unusedVariables false in
def zF1 (b:Bool)(P:Program)(G:Gl) (nt nf:Nat):CxOk P (IH b P G nt nf):=
 ⟨fun t ti h=>ZB (Io _ _ _ _ h),fun t=>trivial,fun e k o u h=>h,fun f fn h=>zxy (Io _ _ _ _ h)⟩
def Cy:Cx:=IH false Tryz.prog G1 400 357
def ZI:CxOk Tryz.prog Cy:=zF1 _ _ _ _ _
def T5 (c:Cx):CY:=ev c (fun ca=>LD 275 (Ll 315 ca)) (fun ca ya=>Cz c ca ya) 100000 60
def KJ (f:Nat)(args:List AV):CO:=
 r9 (x8 false Tryz.prog) 400 fun tt=>r9 (rE Tryz.prog) 357 fun ft=>(T5 (.mk tt .nil ft G1 (B7 Tryz.prog))).ca f args .nil 6
def zJx (f:Nat)(args:List AV):KJ f args=(T5 Cy).ca f args .nil 6:=by
 unfold KJ;rw[zo];show r9 (rE Tryz.prog) 357 _=_;rw[zo];rfl
def XZ:EJ Tryz.prog 275 Extern.AbiNoEscape.same:=ZG (fn:=Tryz.f275) (by kernel_rfl) (by kernel_rfl) (by kernel_rfl) (by kernel_rfl) (by kernel_rfl)
def Yd:EJ Tryz.prog 315 Extern.BytealgIndexByte.indexByte:=ZG (fn:=Tryz.f315) (by kernel_rfl) (by kernel_rfl) (by kernel_rfl) (by kernel_rfl) (by kernel_rfl)
def zK3 {f:Nat}{args:List AV}{v:AV}{g:Tr ABlk}{ny:Nat}(h:KJ f args=.ok v g ny):bf Tryz.prog Cy f args .nil 6 (zL v g ny):=by
 rw[zJx]at h;exact(Rt ZI (fun ca dA=>YW XZ (zFi Yd dA)) (fun ca ya h1 h2=>S7 mixed ZI h1 h2) 100000 60).1 _ _ _ _ _ _ _ h
def rI (n:Nat):Nat:=
 if (97≤n∧n≤122)∨(65≤n∧n≤90) then 3 else if 48≤n∧n≤57 then 4 else if n=32∨n=9∨n=10 then 1 else if n∈[59,44,46,58,40,41,91,93,123,125,61] then 6 else if n=60∨n=62 then 7 else if n=35 then 2 else if n=95 then 5 else if n=33 then 8 else 0
def mB:List Nat:=(List.range 256).map rI
def iS (l:List Nat):List AV:=l.map fun (n:Nat)=>AV.int .u8 (n:Int)
def IG:List AV→List Nat→Bool
 |[],[]=>true
 |.int .u8 (.ofNat n)::l,m::ms=>Nat.beq n m && IG l ms
 |_,_=>false
def YZ:∀{l:List AV}{ms:List Nat},IG l ms=true→l=iS ms
 |[],[],_=>rfl
 |.int .u8 (.ofNat n)::l,m::ms,h=>by
  simp only[IG,ao]at h;rw[YZ h.2,ad h.1];rfl
def MD:CO→Bool
 |.ok (.agg l) g _=>IG l mB && ((g.get 0).isNone && ((g.get 1).isNone && ((g.get 2).isNone && ((g.get 3).isNone && ((g.get 4).isNone && (g.get 5).isNone)))))
 |_=>false
def zJ4:MD (KJ 220 [])=true:=by kernel_rfl
def zzm:∀l:List Nat,lN (iS l)=true
 |[]=>rfl
 |n::l=>by
  have:=zzm l;rw[show iS (n::l)=.int .u8 (n:Int)::iS l from rfl];simp only[lN,jY,this]
def RJ:∀l:List Nat,bJ (iS l)=true
 |[]=>rfl
 |n::l=>by
  have:=RJ l;rw[show iS (n::l)=.int .u8 (n:Int)::iS l from rfl];simp only[bJ,plain,this,Bool.and_self]
def Tp:Cy.G=G1:=rfl
def YA (g:Nat)(cs:List AV)(h:Cy.G.tab g=some cs):False:=by
 rw[Tp]at h;cases h
def zGn {r:CO}(h:MD r=true):∃g ny,r=.ok (.agg (iS mB)) g ny∧∀k,k<6→g.get k=none:=by
 unfold MD at h;split at h
 ·rename_i l g ny;simp only[ao,Option.isNone_iff_eq_none]at h;obtain⟨a1,a2,a3,a4,a5,a6,a7⟩:=h;refine⟨g,ny,by rw[YZ a1],fun k hk=>?_⟩
  match k,hk with
  |0,_=>exact a2
  |1,_=>exact a3
  |2,_=>exact a4
  |3,_=>exact a5
  |4,_=>exact a6
  |5,_=>exact a7
 ·cases h
def zyh:aM 220 [] (.agg (iS mB)):=by
 obtain⟨g,ny,hr,hg⟩:=zGn zJ4;have hc:=zK3 hr;have h1:aB Tryz.prog Cy 220 [] (.agg (iS mB)):=by
  refine aB.of_nil (fun g cs h=>(YA g cs h).elim) rfl (by simp only[jY];exact zzm _) ?_;rw[Tp];refine bf.mono hc ?_
  rintro v' g' pc ⟨rfl,rfl,rfl⟩
  exact⟨fun k hk=>hg k hk,Fz.same _ (by simp only[plain];exact RJ _)⟩
 exact h1.tab (by rw[Tp,ET];rfl) (fun g cs h=>(YA g cs h).elim)
end
section
open Go.Proofs Go.RowKit
attribute [-go_sem] dN bX fC jg
def zGy:cx.ft.get 162=some Tryz.f162:=aO
def HJ (s:ByteArray):AV:=.func 221 [] [.ip [.bs s],.ip (iS mB)]
def zLa:mB.length=256:=by unfold mB;rw[List.length_map,List.length_range]
def zR5 (l:List Nat):(iS l).length=l.length:=by unfold iS;rw[List.length_map]
def zy2:∀l:List Nat,dS (iS l)=true
 |[]=>rfl
 |n::l=>by
  have:=zy2 l;rw[show iS (n::l)=.int .u8 (n:Int)::iS l from rfl];exact this
def zI2 (s:ByteArray):aM 162 [.bs s] (.func 222 [] [.ip [.bs s],.ip [HJ s]]):=by
 refine aB.mk fun h nx R hR=>aP zGy (sz:=8) (rs:=[.tmp 2]) ?_;simp[go_sem];refine aB.use zyh ?_;have hl:(iS mB).length=256:=by rw[zR5,zLa]
 have ho:=zy2 mB;generalize hT:iS mB=T at hl ho;have dR:T.take 256=T:=ar (by omega);simp[go_sem,aA,hl,ho,aI];have hp:bJ T=true:=by rw[← hT];exact RJ _
 generalize hg:Tr.put _ (nx+1+1) (some (bx 246 [.func 221 [] _] false 0))=g;have g0:g.get nx=some (bx 9 [.bs s] false 0):=by rw[← hg];simp(disch:=omega) [go_sem,lW]
 have g1:g.get (nx+1)=some (bx 244 T false 0):=by rw[← hg];simp(disch:=omega) [go_sem]
 have g2:g.get (nx+2)=some (bx 246 [.func 221 [] [.ptr nx 0,.ptr (nx+1) 0]] false 0):=by rw[← hg];simp(disch:=omega) [go_sem]
 have E:az nx h g:=by
  rw[← hg];simp(disch:=omega)only[aK,az.refl]
 clear hg;have f0:=xp (nx:=nx) (ae _) g0 rfl;have f1:=xp (nx:=nx) (by omega) g1 hp;refine hR _ _ _ E (.func 222 _ _ _ _ .nil (.cons _ _ _ _ f0 (.cons _ _ _ _ ?_ .nil)));unfold HJ;rw[hT];exact .pin (nx+2) 0 246 1 _ false 0 [.func 221 [] [.ptr nx 0,.ptr (nx+1) 0]] _ (by omega) g2 (by simp) (fun j hj=>by rw[Nat.zero_add,fX]) (.cons _ _ _ _ (.func 221 _ _ _ _ .nil (.cons _ _ _ _ f0 (.cons _ _ _ _ f1 .nil))) .nil)
end
end
end Go.Ev
namespace Go.Proofs
open Go.Shelf Go.RowKit Go.Lib
variable {P : Program} {ρ : Ren}
set_option maxRecDepth 100000 in
def zMe (L:SlLaysE0.n41 P ρ)(i0:TypeInfo)(z:Value) (size bytes:Nat)(hi:P.info? (ρ.t 23)=some i0)(Jw:i0.zero=some z)(hz1:i0.size=size)(Dk:i0.bytes=bytes)(pX:z.cells.size=size)(bC:0<size)(z23:∀w,(Go.sizeOf (ρ.t 23)).run P w=.ok size w)(a:Addr) (c:Nat)(w:World):
  Calls P (ρ.f 41) #[.slice (some a) 0 c] w fun e w'=>∃v',e=.returned v'∧w'.ownsRow w.heap.size (ρ.t 23) size v' 0 []∧v'≠.slice none 0 0∧Below w.heap.size w w':=by
 have mixed:=L.mixed;have t4:=L.t4;have a4:=L.a4;have z4:=L.z4;have v4:=L.v4;have t22:=L.t22;have a22:=L.a22;have z22:=L.z22;have v22:=L.v22;have q22:∀(w:World) (a:Option Addr) (n c n' c':Nat),(binOp .eql (ρ.t 22) (.slice a n c) (.slice none n' c')).run P w=.ok (.bool a.isNone) w:=fun w a n c n' c'=>Lib.run_eql_slice_nil w _ _ a n c n' c' L.t22;have u22:∀w,Sem.run P (underlying (ρ.t 22)) w=.ok (TypeDesc.slice (ρ.t 23)) w:=run_underlying t22;obtain⟨_,_,FG⟩:=L.f41
 go_enter FG,SlBodyN.n41_ntmps ρ
 go_wp2_with (at_builtin;refine wpList_append_own _ rfl _ _ (ρ.t 22) rfl w.heap.size (ρ.t 23) i0 z size bytes t22 hi Jw hz1 Dk pX bC _ _ _ rfl (World.ownsRow_made w #[] 0 (Nat.le_refl _) (Nat.zero_le _) (by simp)) a 0 c [] rfl ?qc1 ?qc2 ?qc3 ?qc4 ?qc5 ?qc6 ?_)
 case qc1=>simp
 case qc2=>intro j u hj;simp at hj
 case qc3=>intro u hu;cases hu
 case qc4=>unfold maxLen;omega
 case qc5=>simp
 case qc6=>simp
 intro v' w1 A1 F9 uk
 go_wp2
 go_ret
 refine⟨v',rfl,by simpa using A1,?_,?_⟩
 ·first |exact uk |(intro e;exact absurd (uk.1 e).1 (by simp))
 ·exact((Below.refl _ w).alloc (Nat.le_refl _) _).grown F9 (by simp) (by intro k hk;simp[Value.ownBlock]at hk;omega)
end Go.Proofs
namespace Go.Ev
open Go.Proofs Go.RowKit
noncomputable section
def zRz (w:World):(Go.sizeOf 65).run Tryz.prog w=.ok 4 w:=by kernel_rfl
noncomputable def ZP:Bool:=match Tryz.prog.info? 65 with
 |some i=>Nat.beq i.size 4 && (match i.zero with |some z=>Nat.beq z.cells.size 4 |none=>false)
 |none=>false
def zPy:ZP=true:=by kernel_rfl
def zRg:∃i0 z,Tryz.prog.info? 65=some i0∧i0.zero=some z∧i0.size=4∧z.cells.size=4:=by
 have h:=zPy;unfold ZP at h;split at h
 ·rename_i i hi;rw[ao]at h;obtain⟨h1,h2⟩:=h;split at h2
  ·rename_i z hz;exact⟨i,z,hi,hz,ad h1,ad h2⟩
  ·cases h2
 ·cases h
def zUl (a:Addr) (cp:Nat)(w:World):Calls Tryz.prog 40 #[.slice (some a) 0 cp] w fun q w'=>∃v',q=.returned v'∧w'.ownsRow w.heap.size 65 4 v' 0 []∧v'≠.slice none 0 0∧Below w.heap.size w w':=by
 obtain⟨i0,z,h1,h2,h3,h4⟩:=zRg;exact zMe Tryz.clone40 i0 z 4 i0.bytes h1 h2 h3 rfl h4 (by decide) zRz a cp w
def zLr (n cp:Nat)(w:World):Calls Tryz.prog 40 #[.slice none n cp] w fun e w'=>e=.returned (.slice none 0 0)∧w'=w:=AnyE.slices_Clone_nil Tryz.clone40 n cp w
end
end Go.Ev
namespace Go.Ev
noncomputable section
section
open Go.Proofs Go.RowKit
attribute [-go_sem] dN bX fC jg
def zK5:iS mB=zi fun n=>(rI n:Int):=by
 unfold iS mB zi;rw[List.map_map];rfl
def cl (s:ByteArray) (i:Nat):Int:=zv (fun n=>(rI n:Int)) s i
def S5 (s:ByteArray) (i:Nat):aM 221 [.int .i64 (i:Int),.ip [.bs s],.ip (iS mB)] (.int .u8 (cl s i)):=by
 rw[zK5];exact zNy _ s i
def Mm {s:ByteArray}{i:Nat}(h:s.size≤i):cl s i=0:=by
 unfold cl zv;rw[dif_neg (by omega)]
def fY (p:Int→Bool)(s:ByteArray):Nat→Nat→Nat
 |0,i=>i
 |f+1,i=>if p (cl s i) then fY p s f (i+1) else i
def sD (s:ByteArray):Nat→Nat→Nat
 |0,i=>i
 |f+1,i=>if h:i<s.size then (if (s[i]).toNat=10 then i else sD s f (i+1)) else i
def Iv (p:Int→Bool)(hp:p 0=false)(s:ByteArray):∀(f i:Nat),i≤s.size→i≤fY p s f i∧fY p s f i≤s.size
 |0,i,h=>⟨ae _,h⟩
 |f+1,i,h=>by
  rw[fY]
  by_cases e:p (cl s i)=true
  ·rw[if_pos e];have hi:i<s.size:=by
    rcases Nat.lt_or_ge i s.size with q |q
    ·exact q
    ·rw[Mm q,hp]at e;cases e
   obtain⟨a,b⟩:=Iv p hp s f (i+1) hi;exact⟨by omega,b⟩
  ·rw[if_neg e];exact⟨ae _,h⟩
def Qs (p:Int→Bool)(s:ByteArray):∀(f i j:Nat),i≤j→j<fY p s f i→p (cl s j)=true
 |0,i,j,h1,h2=>by rw[fY]at h2;omega
 |f+1,i,j,h1,h2=>by
  rw[fY]at h2
  by_cases e:p (cl s i)=true
  ·rw[if_pos e]at h2
   rcases Nat.eq_or_lt_of_le h1 with q |q
   ·rw[← q];exact e
   ·exact Qs p s f (i+1) j q h2
  ·rw[if_neg e]at h2;omega
def QP (s:ByteArray):∀(f i:Nat),i≤s.size→i≤sD s f i∧sD s f i≤s.size
 |0,i,h=>⟨ae _,h⟩
 |f+1,i,h=>by
  rw[sD]
  by_cases e:i<s.size
  ·rw[dif_pos e]
   by_cases e2:(s[i]).toNat=10
   ·rw[if_pos e2];exact⟨ae _,h⟩
   ·rw[if_neg e2];obtain⟨a,b⟩:=QP s f (i+1) e;exact⟨by omega,b⟩
  ·rw[dif_neg e];exact⟨ae _,h⟩
def zS9 {n:Nat}(h:rI n=4):48≤n∧n≤57:=by
 unfold rI at h
 by_cases h1:(97≤n∧n≤122)∨(65≤n∧n≤90)
 ·rw[if_pos h1]at h;cases h
 rw[if_neg h1]at h
 by_cases h2:48≤n∧n≤57
 ·exact h2
 rw[if_neg h2]at h;exfalso
 repeat' split at h
 all_goals cases h
structure Tk where
 kind:Int
 text:ByteArray
 num:Int
 pos:Int
 code:Int
def Tk.cs (t:Tk):List AV:=[.int .i64 t.kind,.bs t.text,.int .i64 t.num,.int .i64 t.pos,.int .i64 t.code]
def nZ (c:Int):Bool:=decide (c=3) || (decide (c=4) || decide (c=5))
def oE (c:Int):Bool:=decide (c=4)
def eK (s:ByteArray) (i:Nat):Tk×Nat:=
 if cl s i=3 then
  let j:=fY nZ s s.size i
  (⟨1,s.extract i j,0,(i:Int),if 24<j-i then 2 else 0⟩,j)
 else if cl s i=4 then
  let j:=fY oE s s.size i
  if 7<j-i∨cl s j=3∨cl s j=5 then (⟨2,s.extract i j,0,(i:Int),4⟩,j)
  else (⟨2,s.extract i j,vO (s.extract i j).data.toList 0,(i:Int),0⟩,j)
 else if cl s i=6∨cl s i=7∨cl s i=8 then
  if cl s i≠6∧(∃h:i+1<s.size,(s[i+1]).toNat=61) then (⟨3,s.extract i (i+2),0,(i:Int),0⟩,i+2)
  else (⟨3,s.extract i (i+1),0,(i:Int),if cl s i=8 then 3 else 0⟩,i+1)
 else (⟨0,s.extract i i,0,(i:Int),3⟩,i)
end
end
end Go.Ev
