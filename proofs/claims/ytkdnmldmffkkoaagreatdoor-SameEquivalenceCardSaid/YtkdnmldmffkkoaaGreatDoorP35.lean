/- Texts. -/
import Derived.RecoverIn
import Derived.Test.YtkdnmldmffkkoaaGreatDoorP28
set_option linter.unusedSimpArgs false
set_option linter.unusedVariables false
set_option maxRecDepth 100000
namespace Go.Ev
noncomputable section
variable {P : Program} {c : Cx} {σ τ υ : Sg} {h g : Tr ABlk} {nx ny sz : Nat} {w x : World} {tm : Tr AV} {a : Act}
def Dm (P:Program)(f:FuncId):Prop:=∀p q r w,CallsDIn Fence.wide 0 P f #[p,q,r] .returning w fun e u' w'=>(∃v,e=.returned v)∧u'=.returning∧w'=w
theorem zNw (hc:CxOk P c){fn:Func}{tmps:Array Value}{RR:Ending→World→Prop}{f:FuncId}{fd:Func}(cA:c.ft.get f=some fd)(hH:Dm P f){F C:List Value}{u1 u2 u3:AV}(hF:aC σ [] F)(hC:aC σ [u1,u2,u3] C)(hf:∃v,(results fn tmps).run P w=.ok v w∧RR (.returned v) w):
  LeavesInM Fence.wide 0 P fn tmps RR [{ target:=.fn (.func f) C.toArray,args:=F.toArray }] .returning w:=by
 obtain⟨_,bg⟩:=hc.ft f fd cA;simp only[aC]at hF hC;obtain⟨p,C1,rfl,_,q,C2,rfl,_,r,C3,rfl,_,rfl⟩:=hC;subst hF;refine⟨by simp,.inr ⟨fun hh=>by simp[Fence.wide]at hh,_,_,f,#[p,q,r],rfl,bg _ w,fun _ _=>trivial,?_⟩⟩;refine CallsDIn.mono (hH p q r w) ?_
 rintro e u' w' ⟨⟨v,rfl⟩,rfl,rfl⟩
 exact hf
def zPg (c:Cx)(rs:List ResultVar)(hm:FuncId→Prop)(R:AV→Tr ABlk→Nat→Prop):AX→AS→Prop
 |.exit _,_=>False
 |_,.mk tm h nx ds=>∃f a b e l,ds=[.fn f [] [a,b,e]]∧hm f∧iU c tm h nx rs=some l∧R (po l) h nx
theorem zPq (hc:CxOk P c){f:FuncId}{fn:Func}(cA:c.ft.get f=some fn){code:Code}(hb:fn.body=some code){args:List AV}(hle:args.length≤fn.ntmps){R:AV→Tr ABlk→Nat→Prop}{hm:FuncId→Prop}(hH:∀f,hm f→Dm P f∧∃fd,c.ft.get f=some fd)
  (hw:AW P c false fn.ntmps code (zPg c fn.results.toList hm R) (.mk (ef args .nil 0) h nx [])):aN P c f args h nx R:=by
 intro σ w A hk hA;obtain⟨hf,bg⟩:=hc.ft f fn cA;unfold CR;rw[bg];simp only;have Tv:A.length=args.length:=hA.length;have aW:St σ (ef args .nil 0) { tmps:=A.toArray++Array.replicate (fn.ntmps-A.toArray.size) undef,defers:=[] } fn.ntmps []:=by
  refine⟨fun t u e=>?_,by simp;omega,rfl⟩;rw[pz]at e
  by_cases h1:0≤t∧t<0+args.length
  ·rw[if_pos h1,Nat.sub_zero]at e;obtain⟨U,e1,e2⟩:=hA.get e;have ht:t<A.length:=by omega
   rw[aa ht]at e1;cases e1;simp only[Array.getD_eq_getD_getElem?];rw[Array.getElem?_append_left (by simpa using ht)];simpa[ht]using e2
  ·rw[if_neg h1]at e;cases e
 refine callsIn_wide.1 (callsIn_of_wp_marks (F:=Fence.wide) (n:=0) hf hb trivial (wpIn_mono (hw none (fun _=>rfl) σ _ w hk aW) fun e a' w' q=>?_));obtain⟨k,tm,g,ny,ds,τ,e1,q1,q2,q3⟩:=q;have fin:(∃f a b e l,ds=[.fn f [] [a,b,e]]∧hm f∧iU c tm g ny fn.results.toList=some l∧R (po l) g ny)→LeavesInM Fence.wide 0 P fn a'.tmps (fun e x=>match e with |.returned v=>∃τ v' g ny,av τ v' v∧Post c.G σ h nx w τ g ny x∧R v' g ny |_=>False) a'.defers .returning w':=by
  rintro⟨f0,b1,b2,b3,l,rfl,h0,hl,hR⟩
  obtain⟨F,C,D',e2,hF,hC,e3⟩:=q2.defers;have xw:D'=[]:=e3;subst xw;rw[e2];obtain⟨h1,fd,h2⟩:=hH f0 h0;obtain⟨V,r1,r2⟩:=zz4 hc q1.ok q2.tm hl;exact zNw hc h2 h1 hF hC ⟨V,r1,τ,po l,g,ny,r2,q1,hR⟩
 cases k with
 |norm=>subst e1;exact fin q3
 |ret=>subst e1;exact fin q3
 |exit id=>exact q3.elim
def KL (c:Cx)(ca:Ca)(ya:Ya) (sz:Nat)(ops:Array Oper)(tm:Tr AV)(h:Tr ABlk) (nx:Nat)(ds:List DE):ER:=
 match ops.toList with
 |[o1,⟨none,.defer ⟨.value f,args,_⟩,_,_,_,none⟩]=>match args.toList with
  |[]=>match Hq c ca ya sz ops.toList o1 tm h nx OS.ok with
   |.ok tm h nx=>match aM c.G tm f with
    |some (.func fid first cap)=>.norm tm h nx (.fn fid first cap::ds)
    |_=>.fail
   |.fail=>.fail
  |_=>.fail
 |_=>.fail
theorem zSp (hc:CxOk P c){ca:Ca}(df:jn P c ca){ya:Ya}(gF:pD P c ya){ops:Array Oper}{id:Nat}{tm:Tr AV}{h:Tr ABlk}{nx:Nat}{ds:List DE}{r:ER}(he:KL c ca ya sz ops tm h nx ds=r)(hr:r≠.fail):
  AW P c false sz (.region id ops false) (QE r) (.mk tm h nx ds):=by
 intro rr hi σ a w ok st;obtain rfl:=hi rfl;simp only[AS.tm,AS.h,AS.nx,AS.ds]at ok st;refine wpIn_region_list ?_;unfold KL at he;split at he
 ·rename_i o1 f args ty t p af NV;split at he
  ·rename_i ju;cases h1:Hq c ca ya sz ops.toList o1 tm h nx OS.ok with
   |fail=>rw[h1]at he;exact absurd he.symm hr
   |ok ba g1 n1=>
    rw[h1]at he;simp only at he;cases hv:aM c.G ba f with
    |none=>rw[hv]at he;exact absurd he.symm hr
    |some fv=>
     rw[hv]at he;cases fv <;> try exact absurd he.symm hr
     rename_i fid first cap
     subst he;rw[NV];unfold wpListIn;refine Xe hc df gF (ops:=ops) (k:=OS.ok) h1 (by simp) ok st _ _ fun τ wq a1 w1 h2 n2 e1 p1 s1=>?_;cases e1;unfold wpListIn;rw[if_pos (show Region.wanted (⟨none,.defer ⟨.value f,args,ty⟩,t,p,af,none⟩:Oper) (yielded ops a1.tmps)=true from rfl)];have kK:=jT p1.ok s1.tm hv;simp only[av]at kK;obtain⟨F,C,e2,r1,r2⟩:=kK;refine⟨fun _ _=>trivial,?_⟩;have ea:args=#[]:=by cases args;simp_all
     subst ea;have hex:(Oper.semAt (dD none).round a1.eval ⟨none,.defer ⟨.value f,#[],ty⟩,t,p,af,none⟩).run P w1=.ok (.defer { target:=.fn (.func fid) C.toArray,args:=F.toArray }) w1:=by
      show (Oper.semAt none a1.eval _).run P w1=_;rw[Oper.semAt_none];have e3:execOp a1.eval ⟨none,.defer ⟨.value f,#[],ty⟩,t,p,af,none⟩=(do pure (.defer (← Deferred.ofValue (a1.eval f) (#[].map a1.eval)))):=rfl;rw[e3,e2];simp[Deferred.ofValue]
     rw[hex];refine⟨.norm,ba,g1,n1,.fn fid first cap::ds,τ,rfl,p1,?_,rfl,rfl⟩;exact⟨s1.tm,s1.size,F,C,a1.defers,rfl,r1,r2,s1.defers⟩
  ·exact absurd he.symm hr
 ·exact absurd he.symm hr
def GH:Code→Option (Array Oper)
 |.region _ ops false=>match ops.toList with
  |[_,o]=>match qC o.op with
   |true=>some ops
   |false=>none
  |_=>none
 |_=>none
theorem zKc {code:Code}{ops:Array Oper}(h:GH code=some ops):∃id,code=.region id ops false:=by
 unfold GH at h;split at h
 ·split at h
  ·split at h
   ·cases h;exact⟨_,rfl⟩
   ·cases h
  ·cases h
 ·cases h
def BW (c:Cx)(ca:Ca)(ya:Ya)(ed:Ed) (sz m:Nat) (k:Nat):Code→CE:=
 Nat.rec (motive:=fun _=>Code→CE) (fun code=>jt c ca ya ed false sz m code) (fun _ ih code=>match code with
  |.seq x y=>match GH x with
   |some ops=>fun tm h nx ds=>xe (ih y) (KL c ca ya sz ops tm h nx ds)
   |none=>fun tm h nx ds=>xe (ih y) (jt c ca ya ed false sz m x tm h nx ds)
  |code=>jt c ca ya ed false sz m code) k
theorem Za (hc:CxOk P c){ca:Ca}(df:jn P c ca){ya:Ya}(gF:pD P c ya){ed:Ed}(lB:BH P c ed){m:Nat}:∀(k:Nat)(code:Code)(tm:Tr AV)(h:Tr ABlk) (nx:Nat)(ds:List DE)(r:ER),BW c ca ya ed sz m k code tm h nx ds=r→r≠.fail→
  AW P c false sz code (QE r) (.mk tm h nx ds)
 |0,code,tm,h,nx,ds,r,he,hr=>xb hc df gF lB m code tm h nx ds r he hr
 |k+1,code,tm,h,nx,ds,r,he,hr=>by
  have ih:=Za hc df gF lB (m:=m) k;have plain:jt c ca ya ed false sz m code tm h nx ds=r→AW P c false sz code (QE r) (.mk tm h nx ds):=fun e=>xb hc df gF lB m code tm h nx ds r e hr;cases code with
  |seq x y=>
   have step:∀r1,xe (BW c ca ya ed sz m k y) r1=r→(r1≠.fail→AW P c false sz x (QE r1) (.mk tm h nx ds))→AW P c false sz (.seq x y) (QE r) (.mk tm h nx ds):=by
    intro r1 e hx;refine RP ?_;cases r1 with
    |fail=>exact absurd e.symm hr
    |norm ba g1 n1 d1=>
     refine(hx (by simp)).mono ?_
     rintro k' s ⟨rfl,rfl⟩
     exact ih y ba g1 n1 d1 r e hr
    |exit id ba g1 n1 d1=>
     change ER.exit id ba g1 n1 d1=r at e
     subst e;refine(hx (by simp)).mono ?_
     rintro k' s ⟨rfl,rfl⟩
     exact⟨rfl,rfl⟩
    |ret ba g1 n1 d1=>
     change ER.ret ba g1 n1 d1=r at e
     subst e;refine(hx (by simp)).mono ?_
     rintro k' s ⟨rfl,rfl⟩
     exact⟨rfl,rfl⟩
   change (match GH x with
    |some ops=>fun tm h nx ds=>xe (BW c ca ya ed sz m k y) (KL c ca ya sz ops tm h nx ds)
    |none=>fun tm h nx ds=>xe (BW c ca ya ed sz m k y) (jt c ca ya ed false sz m x tm h nx ds)) tm h nx ds=r at he
   cases hd:GH x with
   |some ops=>
    rw[hd]at he;obtain⟨id,rfl⟩:=zKc hd;exact step _ he fun h1=>zSp hc df gF rfl h1
   |none=>
    rw[hd]at he;exact step _ he fun h1=>xb hc df gF lB m x tm h nx ds _ rfl h1
  |_=>exact plain he
def Jm (c:Cx)(ca:Ca)(ya:Ya)(ed:Ca→Ya→Ed) (m k:Nat)(hm:FuncId→Bool)(f:FuncId)(args:List AV)(h:Tr ABlk) (nx:Nat):CO:=
 match c.ft.get f with
 |none=>.fail
 |some fn=>match fn.body with
  |none=>.fail
  |some code=>match Nat.ble args.length fn.ntmps with
   |false=>.fail
   |true=>qV args .nil 0 fun tm=>match BW c ca ya (ed ca ya) fn.ntmps m k code tm h nx [] with
    |.ret tm h nx [.fn f0 [] [_,_,_]]=>match hm f0 with
     |true=>match iU c tm h nx fn.results.toList with
      |some l=>.ok (po l) h nx
      |none=>.fail
     |false=>.fail
    |_=>.fail
theorem zSb (hc:CxOk P c){ca:Ca}(df:jn P c ca){ya:Ya}(gF:pD P c ya){ed:Ca→Ya→Ed}(lB:BH P c (ed ca ya)) (m k:Nat){hm:FuncId→Bool}(hH:∀f,hm f=true→Dm P f∧∃fd,c.ft.get f=some fd){f:FuncId}{args:List AV}{h:Tr ABlk}{nx:Nat}{v:AV}{g:Tr ABlk}{ny:Nat}(he:Jm c ca ya ed m k hm f args h nx=.ok v g ny):aN P c f args h nx (zb v g ny):=by
 unfold Jm at he;cases cA:c.ft.get f with
 |none=>rw[cA]at he;cases he
 |some fn=>
 rw[cA]at he;simp only at he;cases hb:fn.body with
 |none=>rw[hb]at he;cases he
 |some code=>
 rw[hb]at he;simp only at he;cases hl:Nat.ble args.length fn.ntmps with
 |false=>rw[hl]at he;cases he
 |true=>
 rw[hl]at he;simp only[kY]at he;refine zPq hc cA hb (ah hl) (hm:=fun f=>hm f=true) hH ?_;cases iz:BW c ca ya (ed ca ya) fn.ntmps m k code (ef args .nil 0) h nx [] with
 |fail=>rw[iz]at he;cases he
 |exit id ba g1 n1 d1=>rw[iz]at he;cases he
 |norm ba g1 n1 d1=>rw[iz]at he;cases he
 |ret ba g1 n1 d1=>
  rw[iz]at he;refine(Za hc df gF lB k code _ h nx [] _ iz (by simp)).mono ?_
  rintro k' s ⟨rfl,rfl⟩
  cases d1 with
  |nil=>cases he
  |cons d1 dd=>
   cases d1 with
   |mark i=>cases he
   |fn f0 a b=>
    have hx:∃u1 u2 u3,a=[]∧b=[u1,u2,u3]∧dd=[]:=by
     rcases a with _ |⟨a1,a⟩
     ·rcases b with _ |⟨u1,_ |⟨u2,_ |⟨u3,_ |⟨u4,b⟩⟩⟩⟩
      ·cases he
      ·cases he
      ·cases he
      ·cases dd with
       |nil=>exact⟨u1,u2,u3,rfl,rfl,rfl⟩
       |cons _ _=>cases he
      ·cases he
     ·cases he
    obtain⟨u1,u2,u3,rfl,rfl,rfl⟩:=hx;simp only at he;cases h0:hm f0 with
    |false=>rw[h0]at he;cases he
    |true=>
     rw[h0]at he;simp only at he;cases aH:iU c ba g1 n1 fn.results.toList with
     |none=>rw[aH]at he;cases he
     |some l=>
      rw[aH]at he;cases he;exact⟨f0,u1,u2,u3,l,rfl,h0,aH,rfl,rfl,rfl⟩
end
end Go.Ev
