/- Texts DD. -/
import Derived.RecoverIn
import Derived.Test.YtkdnmldmffkkoaaGreatDoorP28
set_option linter.unusedSimpArgs false
set_option linter.unusedVariables false
set_option maxRecDepth 100000
namespace Go.Ev
noncomputable section
variable {P : Program} {c : Cx} {σ τ υ : Sg} {h g : Tr ABlk} {nx ny sz : Nat} {w x : World} {tm : Tr AV} {a : Act}
def zmc (P:Program)(f:FuncId):Prop:=∀p q r w,CallsDIn Fence.wide 0 P f #[p,q,r] .returning w fun e u' w'=>(∃v,e=.returned v)∧u'=.returning∧w'=w
theorem zNw (hc:CxOk P c){fn:Func}{tmps:Array Value}{RR:Ending→World→Prop}{f:FuncId}{fd:Func}(hft:c.ft.get f=some fd)(hH:zmc P f){F C:List Value}{u1 u2 u3:AV}(hF:za1 σ [] F)(hC:za1 σ [u1,u2,u3] C)(hf:∃v,(results fn tmps).run P w=.ok v w∧RR (.returned v) w):
  LeavesInM Fence.wide 0 P fn tmps RR [{ target:=.fn (.func f) C.toArray,args:=F.toArray }] .returning w:=by
 obtain⟨_,hcall⟩:=hc.ft f fd hft
 simp only[za1]at hF hC
 obtain⟨p,C1,rfl,_,q,C2,rfl,_,r,C3,rfl,_,rfl⟩:=hC
 subst hF
 refine⟨by simp,.inr ⟨fun hh=>by simp[Fence.wide]at hh,_,_,f,#[p,q,r],rfl,hcall _ w,fun _ _=>trivial,?_⟩⟩
 refine CallsDIn.mono (hH p q r w) ?_
 rintro e u' w' ⟨⟨v,rfl⟩,rfl,rfl⟩
 exact hf
def zPg (c:Cx)(rs:List ResultVar)(hm:FuncId→Prop)(R:AV→Tr ABlk→Nat→Prop):AX→AS→Prop
 |.exit _,_=>False
 |_,.mk tm h nx ds=>∃f a b e l,ds=[.fn f [] [a,b,e]]∧hm f∧zco c tm h nx rs=some l∧R (zf3 l) h nx
theorem zPq (hc:CxOk P c){f:FuncId}{fn:Func}(hft:c.ft.get f=some fn){code:Code}(hb:fn.body=some code){args:List AV}(hle:args.length≤fn.ntmps){R:AV→Tr ABlk→Nat→Prop}{hm:FuncId→Prop}(hH:∀f,hm f→zmc P f∧∃fd,c.ft.get f=some fd)
  (hw:AW P c false fn.ntmps code (zPg c fn.results.toList hm R) (.mk (zbh args .nil 0) h nx [])):za7 P c f args h nx R:=by
 intro σ w A hk hA
 obtain⟨hf,hcall⟩:=hc.ft f fn hft
 unfold CR
 rw[hcall]
 simp only
 have hAl:A.length=args.length:=hA.length
 have hst:St σ (zbh args .nil 0) { tmps:=A.toArray++Array.replicate (fn.ntmps-A.toArray.size) undef,defers:=[] } fn.ntmps []:=by
  refine⟨fun t u e=>?_,by simp;omega,rfl⟩
  rw[zf7]at e
  by_cases h1:0≤t∧t<0+args.length
  ·rw[if_pos h1,Nat.sub_zero]at e
   obtain⟨U,e1,e2⟩:=hA.get e
   have ht:t<A.length:=by omega
   rw[List.getElem?_eq_getElem ht]at e1
   cases e1
   simp only[Array.getD_eq_getD_getElem?]
   rw[Array.getElem?_append_left (by simpa using ht)]
   simpa[ht]using e2
  ·rw[if_neg h1]at e
   cases e
 refine callsIn_wide.1 (callsIn_of_wp_marks (F:=Fence.wide) (n:=0) hf hb trivial (wpIn_mono (hw none (fun _=>rfl) σ _ w hk hst) fun e a' w' q=>?_))
 obtain⟨k,tm,g,ny,ds,τ,e1,q1,q2,q3⟩:=q
 have fin:(∃f a b e l,ds=[.fn f [] [a,b,e]]∧hm f∧zco c tm g ny fn.results.toList=some l∧R (zf3 l) g ny)→LeavesInM Fence.wide 0 P fn a'.tmps (fun e x=>match e with |.returned v=>∃τ v' g ny,Rel τ v' v∧Post c.G σ h nx w τ g ny x∧R v' g ny |_=>False) a'.defers .returning w':=by
  rintro⟨f0,b1,b2,b3,l,rfl,h0,hl,hR⟩
  obtain⟨F,C,D',e2,hF,hC,e3⟩:=q2.defers
  have e3':D'=[]:=e3
  subst e3'
  rw[e2]
  obtain⟨h1,fd,h2⟩:=hH f0 h0
  obtain⟨V,r1,r2⟩:=zz4 hc q1.ok q2.tm hl
  exact zNw hc h2 h1 hF hC ⟨V,r1,τ,zf3 l,g,ny,r2,q1,hR⟩
 cases k with
 |norm=>subst e1;exact fin q3
 |ret=>subst e1;exact fin q3
 |exit id=>exact q3.elim
def zr3 (c:Cx)(ca:Ca)(ya:Ya) (sz:Nat)(ops:Array Oper)(tm:Tr AV)(h:Tr ABlk) (nx:Nat)(ds:List DE):ER:=
 match ops.toList with
 |[o1,⟨none,.defer ⟨.value f,args,_⟩,_,_,_,none⟩]=>match args.toList with
  |[]=>match zoi c ca ya sz ops.toList o1 tm h nx OS.ok with
   |.ok tm h nx=>match evO c.G tm f with
    |some (.func fid first cap)=>.norm tm h nx (.fn fid first cap::ds)
    |_=>.fail
   |.fail=>.fail
  |_=>.fail
 |_=>.fail
theorem zSp (hc:CxOk P c){ca:Ca}(hca:zcw P c ca){ya:Ya}(hya:zfc P c ya){ops:Array Oper}{id:Nat}{tm:Tr AV}{h:Tr ABlk}{nx:Nat}{ds:List DE}{r:ER}(he:zr3 c ca ya sz ops tm h nx ds=r)(hr:r≠.fail):
  AW P c false sz (.region id ops false) (QE r) (.mk tm h nx ds):=by
 intro rr hi σ a w ok st
 obtain rfl:=hi rfl
 simp only[AS.tm,AS.h,AS.nx,AS.ds]at ok st
 refine wpIn_region_list ?_
 unfold zr3 at he
 split at he
 ·rename_i o1 f args ty t p af hops
  split at he
  ·rename_i hargs
   cases h1:zoi c ca ya sz ops.toList o1 tm h nx OS.ok with
   |fail=>rw[h1]at he;exact absurd he.symm hr
   |ok tm1 g1 n1=>
    rw[h1]at he
    simp only at he
    cases hv:evO c.G tm1 f with
    |none=>rw[hv]at he;exact absurd he.symm hr
    |some fv=>
     rw[hv]at he
     cases fv <;> try exact absurd he.symm hr
     rename_i fid first cap
     subst he
     rw[hops]
     unfold wpListIn
     refine zB5 hc hca hya (ops:=ops) (k:=OS.ok) h1 (by simp) ok st _ _ fun τ tm2 a1 w1 h2 n2 e1 p1 s1=>?_
     cases e1
     unfold wpListIn
     rw[if_pos (show Region.wanted (⟨none,.defer ⟨.value f,args,ty⟩,t,p,af,none⟩:Oper) (yielded ops a1.tmps)=true from rfl)]
     have hfv:=zde p1.ok s1.tm hv
     simp only[Rel]at hfv
     obtain⟨F,C,e2,r1,r2⟩:=hfv
     refine⟨fun _ _=>trivial,?_⟩
     have ea:args=#[]:=by cases args;simp_all
     subst ea
     have hex:(Oper.semAt (zbb none).round a1.eval ⟨none,.defer ⟨.value f,#[],ty⟩,t,p,af,none⟩).run P w1=.ok (.defer { target:=.fn (.func fid) C.toArray,args:=F.toArray }) w1:=by
      show (Oper.semAt none a1.eval _).run P w1=_
      rw[Oper.semAt_none]
      have e3:execOp a1.eval ⟨none,.defer ⟨.value f,#[],ty⟩,t,p,af,none⟩=(do pure (.defer (← Deferred.ofValue (a1.eval f) (#[].map a1.eval)))):=rfl
      rw[e3,e2]
      simp[Deferred.ofValue]
     rw[hex]
     refine⟨.norm,tm1,g1,n1,.fn fid first cap::ds,τ,rfl,p1,?_,rfl,rfl⟩
     exact⟨s1.tm,s1.size,F,C,a1.defers,rfl,r1,r2,s1.defers⟩
  ·exact absurd he.symm hr
 ·exact absurd he.symm hr
def znh:Code→Option (Array Oper)
 |.region _ ops false=>match ops.toList with
  |[_,o]=>match zfm o.op with
   |true=>some ops
   |false=>none
  |_=>none
 |_=>none
theorem zKc {code:Code}{ops:Array Oper}(h:znh code=some ops):∃id,code=.region id ops false:=by
 unfold znh at h
 split at h
 ·split at h
  ·split at h
   ·cases h;exact⟨_,rfl⟩
   ·cases h
  ·cases h
 ·cases h
def evD (c:Cx)(ca:Ca)(ya:Ya)(ed:Ed) (sz m:Nat) (k:Nat):Code→CE:=
 Nat.rec (motive:=fun _=>Code→CE) (fun code=>evC c ca ya ed false sz m code) (fun _ ih code=>match code with
  |.seq x y=>match znh x with
   |some ops=>fun tm h nx ds=>zj2 (ih y) (zr3 c ca ya sz ops tm h nx ds)
   |none=>fun tm h nx ds=>zj2 (ih y) (evC c ca ya ed false sz m x tm h nx ds)
  |code=>evC c ca ya ed false sz m code) k
theorem zEn (hc:CxOk P c){ca:Ca}(hca:zcw P c ca){ya:Ya}(hya:zfc P c ya){ed:Ed}(hed:zlk P c ed){m:Nat}:∀(k:Nat)(code:Code)(tm:Tr AV)(h:Tr ABlk) (nx:Nat)(ds:List DE)(r:ER),evD c ca ya ed sz m k code tm h nx ds=r→r≠.fail→
  AW P c false sz code (QE r) (.mk tm h nx ds)
 |0,code,tm,h,nx,ds,r,he,hr=>ziz hc hca hya hed m code tm h nx ds r he hr
 |k+1,code,tm,h,nx,ds,r,he,hr=>by
  have ih:=zEn hc hca hya hed (m:=m) k
  have plain:evC c ca ya ed false sz m code tm h nx ds=r→AW P c false sz code (QE r) (.mk tm h nx ds):=fun e=>ziz hc hca hya hed m code tm h nx ds r e hr
  cases code with
  |seq x y=>
   have step:∀r1,zj2 (evD c ca ya ed sz m k y) r1=r→(r1≠.fail→AW P c false sz x (QE r1) (.mk tm h nx ds))→AW P c false sz (.seq x y) (QE r) (.mk tm h nx ds):=by
    intro r1 e hx
    refine zw0 ?_
    cases r1 with
    |fail=>exact absurd e.symm hr
    |norm tm1 g1 n1 d1=>
     refine(hx (by simp)).mono ?_
     rintro k' s ⟨rfl,rfl⟩
     exact ih y tm1 g1 n1 d1 r e hr
    |exit id tm1 g1 n1 d1=>
     change ER.exit id tm1 g1 n1 d1=r at e
     subst e
     refine(hx (by simp)).mono ?_
     rintro k' s ⟨rfl,rfl⟩
     exact⟨rfl,rfl⟩
    |ret tm1 g1 n1 d1=>
     change ER.ret tm1 g1 n1 d1=r at e
     subst e
     refine(hx (by simp)).mono ?_
     rintro k' s ⟨rfl,rfl⟩
     exact⟨rfl,rfl⟩
   change (match znh x with
    |some ops=>fun tm h nx ds=>zj2 (evD c ca ya ed sz m k y) (zr3 c ca ya sz ops tm h nx ds)
    |none=>fun tm h nx ds=>zj2 (evD c ca ya ed sz m k y) (evC c ca ya ed false sz m x tm h nx ds)) tm h nx ds=r at he
   cases hd:znh x with
   |some ops=>
    rw[hd]at he
    obtain⟨id,rfl⟩:=zKc hd
    exact step _ he fun h1=>zSp hc hca hya rfl h1
   |none=>
    rw[hd]at he
    exact step _ he fun h1=>ziz hc hca hya hed m x tm h nx ds _ rfl h1
  |_=>exact plain he
def zot (c:Cx)(ca:Ca)(ya:Ya)(ed:Ca→Ya→Ed) (m k:Nat)(hm:FuncId→Bool)(f:FuncId)(args:List AV)(h:Tr ABlk) (nx:Nat):CO:=
 match c.ft.get f with
 |none=>.fail
 |some fn=>match fn.body with
  |none=>.fail
  |some code=>match Nat.ble args.length fn.ntmps with
   |false=>.fail
   |true=>zft args .nil 0 fun tm=>match evD c ca ya (ed ca ya) fn.ntmps m k code tm h nx [] with
    |.ret tm h nx [.fn f0 [] [_,_,_]]=>match hm f0 with
     |true=>match zco c tm h nx fn.results.toList with
      |some l=>.ok (zf3 l) h nx
      |none=>.fail
     |false=>.fail
    |_=>.fail
theorem zSb (hc:CxOk P c){ca:Ca}(hca:zcw P c ca){ya:Ya}(hya:zfc P c ya){ed:Ca→Ya→Ed}(hed:zlk P c (ed ca ya)) (m k:Nat){hm:FuncId→Bool}(hH:∀f,hm f=true→zmc P f∧∃fd,c.ft.get f=some fd){f:FuncId}{args:List AV}{h:Tr ABlk}{nx:Nat}{v:AV}{g:Tr ABlk}{ny:Nat}(he:zot c ca ya ed m k hm f args h nx=.ok v g ny):za7 P c f args h nx (eqQ v g ny):=by
 unfold zot at he
 cases hft:c.ft.get f with
 |none=>rw[hft]at he;cases he
 |some fn=>
 rw[hft]at he
 simp only at he
 cases hb:fn.body with
 |none=>rw[hb]at he;cases he
 |some code=>
 rw[hb]at he
 simp only at he
 cases hl:Nat.ble args.length fn.ntmps with
 |false=>rw[hl]at he;cases he
 |true=>
 rw[hl]at he
 simp only[zdr]at he
 refine zPq hc hft hb (Nat.le_of_ble_eq_true hl) (hm:=fun f=>hm f=true) hH ?_
 cases hev:evD c ca ya (ed ca ya) fn.ntmps m k code (zbh args .nil 0) h nx [] with
 |fail=>rw[hev]at he;cases he
 |exit id tm1 g1 n1 d1=>rw[hev]at he;cases he
 |norm tm1 g1 n1 d1=>rw[hev]at he;cases he
 |ret tm1 g1 n1 d1=>
  rw[hev]at he
  refine(zEn hc hca hya hed k code _ h nx [] _ hev (by simp)).mono ?_
  rintro k' s ⟨rfl,rfl⟩
  cases d1 with
  |nil=>cases he
  |cons d1 dd=>
   cases d1 with
   |mark i=>cases he
   |fn f0 a b=>
    have hx:∃u1 u2 u3,a=[]∧b=[u1,u2,u3]∧dd=[]:=by
     rcases a with _ |⟨a1,a⟩
     ·rcases b with _ |⟨u1,_ |⟨u2,_ |⟨u3,_ |⟨u4,b⟩⟩⟩⟩
      ·cases he
      ·cases he
      ·cases he
      ·cases dd with
       |nil=>exact⟨u1,u2,u3,rfl,rfl,rfl⟩
       |cons _ _=>cases he
      ·cases he
     ·cases he
    obtain⟨u1,u2,u3,rfl,rfl,rfl⟩:=hx
    simp only at he
    cases h0:hm f0 with
    |false=>rw[h0]at he;cases he
    |true=>
     rw[h0]at he
     simp only at he
     cases hres:zco c tm1 g1 n1 fn.results.toList with
     |none=>rw[hres]at he;cases he
     |some l=>
      rw[hres]at he
      cases he
      exact⟨f0,u1,u2,u3,l,rfl,h0,hres,rfl,rfl,rfl⟩
end
end Go.Ev
