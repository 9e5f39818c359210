/- Texts DC DE X2 N6 T65 X3. -/
import Derived.Test.YtjngkeajenankaaGreatDoorP14
import Derived.Test.YtjngkeajenankaaGreatDoorP29
set_option linter.unusedSimpArgs false
set_option linter.unusedVariables false
set_option maxRecDepth 100000
namespace Go.Ev
noncomputable section
variable {P : Program} {c : Cx} {σ τ υ : Sg} {h g : Tr ABlk} {nx ny sz : Nat} {w x : World} {tm : Tr AV} {a : Act}
def DCall (P:Program)(c:Cx)(f:FuncId)(args:List AV)(h:Tr ABlk) (nx:Nat)(R:Tr ABlk→Nat→Prop):Prop:=
 (∃fd,c.ft.get f=some fd)∧∀(σ:Sg) (w:World) (A:List Value),Ok c.G σ h nx w→RelL σ args A→
  CallsDIn Fence.wide 0 P f A.toArray .returning w fun e u' w'=>(∃v,e=.returned v)∧u'=.returning∧∃τ g ny,Post c.G σ h nx w τ g ny w'∧R g ny
def exitC (c:Cx)(rs:List ResultVar)(R:Tr ABlk→Nat→Prop):AX→AS→Prop
 |.exit _,_=>False
 |_,.mk tm h nx ds=>ds=[]∧(∃l,resL c tm h nx rs=some l)∧R h nx
theorem DCall_mk (hc:CxOk P c){f:FuncId}{fn:Func}(hft:c.ft.get f=some fn){code:Code}{sz:Nat}{rs:List ResultVar}(hb:fn.body=some code)(hs:fn.ntmps=sz)(hr:fn.results.toList=rs){args:List AV}(hle:args.length≤sz){R:Tr ABlk→Nat→Prop}
  (hw:aw P c false sz code (exitC c rs R) (.mk (putN args .nil 0) h nx [])):DCall P c f args h nx R:=by
 subst hs
 subst hr
 refine⟨⟨_,hft⟩,fun σ w A hk hA=>?_⟩
 obtain⟨hf,hcall⟩:=hc.ft f fn hft
 have hAl:A.length=args.length:=hA.length
 have hst:St σ (putN args .nil 0) { tmps:=A.toArray++Array.replicate (fn.ntmps-A.toArray.size) undef,defers:=[] } fn.ntmps []:=by
  refine⟨fun t u e=>?_,by simp;omega,rfl⟩
  rw[get_putN]at e
  by_cases h1:0≤t∧t<0+args.length
  ·rw[if_pos h1,Nat.sub_zero]at e
   obtain⟨U,e1,e2⟩:=hA.get e
   have ht:t<A.length:=by omega
   rw[List.getElem?_eq_getElem ht]at e1
   cases e1
   simp only[Array.getD_eq_getD_getElem?]
   rw[Array.getElem?_append_left (by simpa using ht)]
   simpa[ht]using e2
  ·rw[if_neg h1]at e
   cases e
 refine CallsDIn.mono (callsDIn_of_wp (F:=Fence.wide) (n:=0) (R:=fun e w'=>(∃v,e=.returned v)∧∃τ g ny,Post c.G σ h nx w τ g ny w'∧R g ny) hf hb trivial (wpIn_mono (aw_ok hc _ hw none (fun _=>rfl) σ _ w hk hst) fun e a' w' q=>?_)) fun e u' w' q=>⟨q.2.1,q.1,q.2.2⟩
 obtain⟨k,tm,g,ny,ds,τ,e1,q1,q2,q3⟩:=q
 have fin:(ds=[]∧(∃l,resL c tm g ny fn.results.toList=some l)∧R g ny)→a'.defers=[]∧∃v,(results fn a'.tmps).run P w'=.ok v w'∧((∃v',Ending.returned v=.returned v')∧∃τ g ny,Post c.G σ h nx w τ g ny w'∧R g ny):=by
  rintro⟨rfl,⟨l,hl⟩,hR⟩
  obtain⟨V,r1,r2⟩:=results_ok hc q1.ok q2.tm hl
  exact⟨q2.defers,V,r1,⟨_,rfl⟩,τ,g,ny,q1,hR⟩
 cases k with
 |norm=>subst e1;exact fin q3
 |ret=>subst e1;exact fin q3
 |exit id=>exact q3.elim
theorem DCall.mono {f:FuncId}{args:List AV}{R R':Tr ABlk→Nat→Prop}(hd:DCall P c f args h nx R)(hr:∀g ny,R g ny→R' g ny):DCall P c f args h nx R':=
 ⟨hd.1,fun σ w A hk hA=>CallsDIn.mono (hd.2 σ w A hk hA) fun e u' w' q=>⟨q.1,q.2.1,by obtain⟨_,_,τ,g,ny,p,r⟩:=q;exact⟨τ,g,ny,p,hr g ny r⟩⟩⟩
def endD (P:Program)(c:Cx)(R:Tr ABlk→Nat→Prop):List DE→Tr ABlk→Nat→Prop
 |[],h,nx=>R h nx
 |.fn f F C::ds,h,nx=>DCall P c f (F++C) h nx fun g ny=>endD P c R ds g ny
 |.mark _::_,_,_=>False
theorem RelL.app {σ:Sg}:∀{l:List AV}{A:List Value}{l' A'},RelL σ l A→RelL σ l' A'→RelL σ (l++l') (A++A')
 |[],A,l',A',h1,h2=>by
  simp only[RelL]at h1
  subst h1
  exact h2
 |v::l,A,l',A',h1,h2=>by
  simp only[RelL,List.cons_append]at h1 ⊢
  obtain⟨V,L,rfl,e1,e2⟩:=h1
  exact⟨V,L++A',rfl,e1,e2.app h2⟩
theorem leaves_all (hc:CxOk P c){fn:Func}(hr:fn.results=#[]){tmps:Array Value}{R:AV→Tr ABlk→Nat→Prop}:∀(ds:List DE)(D:List Deferred)(τ:Sg)(g:Tr ABlk) (ny:Nat)(x:World),Post c.G σ h nx w τ g ny x→RelD τ ds D→endD P c (R (.tup [])) ds g ny→
  LeavesInM Fence.wide 0 P fn tmps (fun e x=>match e with |.returned v=>∃τ v' g ny,Rel τ v' v∧Post c.G σ h nx w τ g ny x∧R v' g ny |_=>False) D .returning x
 |[],D,τ,g,ny,x,p,hD,he=>by
  simp only[RelD]at hD
  subst hD
  have h3:(results fn tmps).run P x=.ok (.tuple #[]) x:=by
   simp[results,hr]
  exact⟨_,h3,τ,.tup [],g,ny,by simp only[Rel,RelL];exact⟨[],rfl,rfl⟩,p,he⟩
 |.mark _::_,D,τ,g,ny,x,p,hD,he=>he.elim
 |.fn f F C::ds,D,τ,g,ny,x,p,hD,he=>by
  obtain⟨F',C',D',rfl,h1,h2,h3⟩:=hD
  obtain⟨⟨fd,hft⟩,he⟩:=he
  obtain⟨_,hcall⟩:=hc.ft f fd hft
  refine⟨by simp,.inr ⟨fun hh=>by simp[Fence.wide]at hh,_,_,f,(F'++C').toArray,rfl,?_,fun _ _=>trivial,?_⟩⟩
  ·show (callFunc f (F'.toArray++C'.toArray)).run P x=_
   rw[List.append_toArray]
   exact hcall _ x
  ·refine CallsDIn.mono (he τ x (F'++C') p.ok (h1.app h2)) ?_
   rintro e u' w' ⟨⟨v,rfl⟩,rfl,υ,g',ny',p',r'⟩
   exact leaves_all hc hr ds D' υ g' ny' w' (p.trans p') (h3.mono p'.le) r'
def exitE (P:Program)(c:Cx)(R:Tr ABlk→Nat→Prop):AX→AS→Prop
 |.exit _,_=>False
 |_,.mk _ h nx ds=>endD P c R ds h nx
theorem ACall_of_defers (hc:CxOk P c){f:FuncId}{fn:Func}(hft:c.ft.get f=some fn){code:Code}{sz:Nat}(hb:fn.body=some code)(hs:fn.ntmps=sz)(hr:fn.results=#[]){args:List AV}(hle:args.length≤sz){R:AV→Tr ABlk→Nat→Prop}
  (hw:AW P c false sz code (exitE P c (R (.tup []))) (.mk (putN args .nil 0) h nx [])):ACall P c f args h nx R:=by
 subst hs
 intro σ w A hk hA
 obtain⟨hf,hcall⟩:=hc.ft f fn hft
 unfold CR
 rw[hcall]
 simp only
 have hAl:A.length=args.length:=hA.length
 have hst:St σ (putN args .nil 0) { tmps:=A.toArray++Array.replicate (fn.ntmps-A.toArray.size) undef,defers:=[] } fn.ntmps []:=by
  refine⟨fun t u e=>?_,by simp;omega,rfl⟩
  rw[get_putN]at e
  by_cases h1:0≤t∧t<0+args.length
  ·rw[if_pos h1,Nat.sub_zero]at e
   obtain⟨U,e1,e2⟩:=hA.get e
   have ht:t<A.length:=by omega
   rw[List.getElem?_eq_getElem ht]at e1
   cases e1
   simp only[Array.getD_eq_getD_getElem?]
   rw[Array.getElem?_append_left (by simpa using ht)]
   simpa[ht]using e2
  ·rw[if_neg h1]at e
   cases e
 refine callsIn_wide.1 (callsIn_of_wp_marks (F:=Fence.wide) (n:=0) hf hb trivial (wpIn_mono (hw none (fun _=>rfl) σ _ w hk hst) fun e a' w' q=>?_))
 obtain⟨k,tm,g,ny,ds,τ,e1,q1,q2,q3⟩:=q
 have fin:endD P c (R (.tup [])) ds g ny→LeavesInM Fence.wide 0 P fn a'.tmps (fun e x=>match e with |.returned v=>∃τ v' g ny,Rel τ v' v∧Post c.G σ h nx w τ g ny x∧R v' g ny |_=>False) a'.defers .returning w':=
  fun he=>leaves_all hc hr ds _ τ g ny w' q1 q2.defers he
 cases k with
 |norm=>subst e1;exact fin q3
 |ret=>subst e1;exact fin q3
 |exit id=>exact q3.elim
end
end Go.Ev
namespace Go.Ev
noncomputable section
variable {P : Program} {c : Cx} {σ τ υ : Sg} {h g : Tr ABlk} {nx ny sz : Nat} {w x : World} {tm : Tr AV} {a : Act}
theorem awO_on (hc:CxOk P c){ops:Array Oper}{K:AS→Prop}{r:Option Nat}(Q0:Exit→Act→World→Prop)(rest:List Oper):∀(l:List Oper){s:AS},awO P c sz ops.toList K l s→∀{σ:Sg}{a:Act}{w:World},Ok c.G σ s.h s.nx w→St σ s.tm a sz s.ds→
  (∀s' τ a' w',K s'→Post c.G σ s.h s.nx w τ s'.h s'.nx w'→St τ s'.tm a' sz s'.ds→wpListIn (fence r) 0 P ops Q0 rest a' w')→wpListIn (fence r) 0 P ops Q0 (l++rest) a w
 |[],s,hs,σ,a,w,ok,st,hq=>hq s σ a w hs (.refl ok) st
 |o::l,s,hs,σ,a,w,ok,st,hq=>by
  rw[List.cons_append]
  unfold wpListIn
  refine awS_ok hc (K:=awO P c sz ops.toList K l) hs ok st _ _ fun τ tm1 a1 w1 h1 nx1 k1 p1 s1=>?_
  exact awO_on hc Q0 rest l (s:=.mk tm1 h1 nx1 s.ds) k1 p1.ok s1 fun s' τ a' w' q1 q2 q3=>hq s' τ a' w' q1 (p1.trans q2) q3
def dfrP (c:Cx)(f:Operand)(args:List Operand)(Q:AX→AS→Prop):AS→Prop
 |.mk tm h nx ds=>match evO c.G tm f,evOs c.G tm args with
  |some (.func fid first cap),some l=>Q .norm (.mk tm h nx (.fn fid (first++l) cap::ds))
  |_,_=>False
theorem AW_defer (hc:CxOk P c) (k:Nat){id:Nat}{ops:List Oper}{f:Operand}{args:Array Operand}{ty:Array TypeId}{t:TypeId}{p:String}{af:Array Edge}{Q:AX→AS→Prop}{s:AS}
  (he:ops.drop k=[⟨none,.defer ⟨.value f,args,ty⟩,t,p,af,none⟩]) (hw:awO P c sz ops (dfrP c f args.toList Q) (ops.take k) s):AW P c false sz (.region id ops.toArray false) Q s:=by
 intro rr hi σ a w ok st
 obtain rfl:=hi rfl
 refine wpIn_region_list ?_
 show wpListIn (fence none) 0 P ops.toArray _ ops a w
 have hsp:ops=ops.take k++[⟨none,.defer ⟨.value f,args,ty⟩,t,p,af,none⟩]:=by rw[← he,List.take_append_drop]
 have:=awO_on (P:=P) (c:=c) (ops:=ops.toArray) (K:=dfrP c f args.toList Q) (r:=none) hc (sz:=sz) (fun e a' w'=>AQ c.G σ s.h s.nx w sz Q e a' w') [⟨none,.defer ⟨.value f,args,ty⟩,t,p,af,none⟩] (ops.take k) (s:=s) hw ok st ?_
 ·rw[← hsp]at this
  exact this
 rintro⟨tm1,g1,n1,ds1⟩ τ a1 w1 hK p1 s1
 simp only[AS.tm,AS.h,AS.nx,AS.ds]at p1 s1
 unfold dfrP at hK
 simp only at hK
 cases hv:evO c.G tm1 f with
 |none=>rw[hv]at hK;exact hK.elim
 |some fv=>
  rw[hv]at hK
  cases fv <;> try exact hK.elim
  rename_i fid first cap
  cases hl:evOs c.G tm1 args.toList with
  |none=>rw[hl]at hK;exact hK.elim
  |some l=>
   rw[hl]at hK
   simp only at hK
   unfold wpListIn
   rw[if_pos (show Region.wanted (⟨none,.defer ⟨.value f,args,ty⟩,t,p,af,none⟩:Oper) (yielded ops.toArray a1.tmps)=true from rfl)]
   have hfv:=evO_ok p1.ok s1.tm hv
   have hlr:=evOs_ok p1.ok s1.tm hl
   simp only[Rel]at hfv
   obtain⟨F,C,e2,r1,r2⟩:=hfv
   refine⟨fun _ _=>trivial,?_⟩
   have hex:(Oper.semAt (fence none).round a1.eval ⟨none,.defer ⟨.value f,args,ty⟩,t,p,af,none⟩).run P w1=.ok (.defer { target:=.fn (.func fid) C.toArray,args:=(F++args.toList.map a1.eval).toArray }) w1:=by
    show (Oper.semAt none a1.eval _).run P w1=_
    rw[Oper.semAt_none]
    have e3:execOp a1.eval ⟨none,.defer ⟨.value f,args,ty⟩,t,p,af,none⟩=(do pure (.defer (← Deferred.ofValue (a1.eval f) (args.map a1.eval)))):=rfl
    have e4:args.map a1.eval=(args.toList.map a1.eval).toArray:=by
     apply Array.ext'
     simp
    rw[e3,e2,e4]
    simp[Deferred.ofValue]
   rw[hex]
   refine⟨.norm,tm1,g1,n1,.fn fid (first++l) cap::ds1,τ,rfl,p1,?_,hK⟩
   exact⟨s1.tm,s1.size,_,C,a1.defers,rfl,r1.app hlr,r2,s1.defers⟩
def dfr2 (Q:AX→AS→Prop)(tm:Tr AV)(h:Tr ABlk) (nx:Nat)(ds:List DE):Option AV→Option (List AV)→Prop
 |some (.func fid first cap),some l=>Q .norm (.mk tm h nx (.fn fid (first++l) cap::ds))
 |_,_=>False
@[go_sem] theorem dfrP_eq (f:Operand)(args:List Operand)(Q:AX→AS→Prop)(tm:Tr AV)(h:Tr ABlk) (nx:Nat)(ds:List DE):
  dfrP c f args Q (.mk tm h nx ds)=dfr2 Q tm h nx ds (evO c.G tm f) (evOs c.G tm args):=rfl
@[go_sem] theorem dfr2_some (Q:AX→AS→Prop)(tm:Tr AV)(h:Tr ABlk) (nx:Nat)(ds:List DE)(fid:FuncId)(first cap l:List AV):
  dfr2 Q tm h nx ds (some (.func fid first cap)) (some l)=Q .norm (.mk tm h nx (.fn fid (first++l) cap::ds)):=rfl
end
end Go.Ev
namespace Go.Ev
open Go.Proofs Go.RowKit
noncomputable section
attribute [-go_sem] pPick lookRes evConvS
theorem ft88:cx.ft.get 88=some Tryz.f88:=cxS_ft (by decide) (by kernel_rfl)
theorem ft89:cx.ft.get 89=some Tryz.f89:=cxS_ft (by decide) (by kernel_rfl)
theorem ft127:cx.ft.get 127=some Tryz.f127:=cxS_ft (by decide) (by kernel_rfl)
theorem ft128:cx.ft.get 128=some Tryz.f128:=cxS_ft (by decide) (by kernel_rfl)
theorem ft129:cx.ft.get 129=some Tryz.f129:=cxS_ft (by decide) (by kernel_rfl)
theorem ft170:cx.ft.get 170=some Tryz.f170:=cxS_ft (by decide) (by kernel_rfl)
theorem ft171:cx.ft.get 171=some Tryz.f171:=cxS_ft (by decide) (by kernel_rfl)
theorem ft173:cx.ft.get 173=some Tryz.f173:=cxS_ft (by decide) (by kernel_rfl)
theorem ft48:cx.ft.get 48=some Tryz.f48:=cxS_ft (by decide) (by kernel_rfl)
def rpB (d m:Int)(r o:AV):ABlk:=bx 107 [.int .u32 d,.int .i32 m,.int .u32 0,r,o] false 0
variable {a nx : Nat} {h : Tr ABlk} {d m : Int} {r o : AV} {R : AV → Tr ABlk → Nat → Prop}
theorem ilock_c (hg:h.get a=some (rpB d 0 r o))(hR:R (.tup []) (h.put a (some (rpB d 1 r o))) nx):ACall Tryz.prog cx 170 [.ptr a 1] h nx R:=by
 refine ACall_mk (sz:=13) (rs:=[]) cxok ft170 rfl rfl rfl (by simp) ?_
 unfold rpB at hg
 simp[go_sem]
 refine disable_c ?_
 simp[go_sem,goOn_some]
 refine cas_c hg rfl ?_
 simp[go_sem,goOn_some]
 refine enable_c ?_
 simp[go_sem,goOn_some]
 refine acquire_c ?_
 simp[go_sem,goOn_some]
 exact hR
theorem lock_c (hg:h.get a=some (rpB d 0 r o))(hR:R (.tup []) (h.put a (some (rpB d 1 r o))) nx):ACall Tryz.prog cx 127 [.ptr a 1] h nx R:=by
 refine ACall_mk (sz:=6) (rs:=[]) cxok ft127 rfl rfl rfl (by simp) ?_
 simp[go_sem]
 refine ilock_c hg ?_
 simp[go_sem,goOn_some]
 exact hR
theorem iunlock_c (hg:h.get a=some (rpB d 1 r o))(hR:R (.tup []) (h.put a (some (rpB d 0 r o))) nx):ACall Tryz.prog cx 171 [.ptr a 1] h nx R:=by
 refine ACall_mk (sz:=21) (rs:=[]) cxok ft171 rfl rfl rfl (by simp) ?_
 unfold rpB at hg
 simp[go_sem,hg]
 refine merge_c ?_
 simp[go_sem,goOn_some]
 refine disable_c ?_
 simp[go_sem,goOn_some]
 refine addI_c hg rfl ?_
 simp[go_sem,goOn_some]
 refine enable_c ?_
 simp[go_sem,goOn_some]
 exact hR
theorem unlock_d {R:Tr ABlk→Nat→Prop}(hg:h.get a=some (rpB d 1 r o))(hR:R (h.put a (some (rpB d 0 r o))) nx):DCall Tryz.prog cx 128 [.ptr a 1] h nx R:=by
 refine DCall_mk (sz:=6) (rs:=[]) cxok ft128 rfl rfl rfl (by simp) ?_
 simp[go_sem]
 refine iunlock_c hg ?_
 simp[go_sem,goOn_some]
 exact⟨rfl,⟨[],rfl⟩,hR⟩
theorem doneL_c (hd:d=0∨d=1)(hg:h.get a=some (rpB d m r o))(hR:R (.bool (decide (d=1))) h nx):ACall Tryz.prog cx 88 [.ptr a 0] h nx R:=by
 refine ACall_mk (sz:=8) (rs:=[.tmp 2]) cxok ft88 rfl rfl rfl (by simp) ?_
 unfold rpB at hg
 simp[go_sem]
 refine loadU_c hg rfl ?_
 rcases hd with rfl |rfl
 ·simp[go_sem,goOn_some]
  exact hR
 ·simp[go_sem,goOn_some]
  exact hR
theorem b32_c:Ret Tryz.prog cx 173 [.bool true] (.int .u32 1):=by
 refine Ret.mk fun h nx R hR=>ACall_mk (sz:=4) (rs:=[.tmp 2]) cxok ft173 rfl rfl rfl (by simp) ?_
 simp[go_sem]
 exact hR _ _ _ (Ext.refl _ _) (Fz.eq rfl rfl)
theorem done_d {R:Tr ABlk→Nat→Prop}(hg:h.get a=some (rpB d m r o))(hR:R (h.put a (some (rpB 1 m r o))) nx):DCall Tryz.prog cx 129 [.ptr a 0,.bool true] h nx R:=by
 refine DCall_mk (sz:=10) (rs:=[]) cxok ft129 rfl rfl rfl (by simp) ?_
 unfold rpB at hg
 simp[go_sem]
 refine AW_splitAt mixed cxok G0sym 5 [] [4] [] [] 0 (by kernel_rfl) (by kernel_rfl) ?_
 simp[go_sem]
 refine retP_mk b32_c ?_
 simp[go_sem,putS_some]
 refine storeU_c hg rfl ?_
 simp[go_sem,goOn_some]
 exact⟨rfl,⟨[],rfl⟩,hR⟩
theorem doSlow_c {F:FuncId}(hg:h.get a=some (rpB 0 0 r o)){r' o':AV}(hF:∀(h':Tr ABlk)(S:AV→Tr ABlk→Nat→Prop),h'.get a=some (rpB 0 1 r o)→(∀k,k≠a→h'.get k=h.get k)→(∀g ny,nx≤ny→g.get a=some (rpB 0 1 r' o')→(∀k,k<nx→k≠a→g.get k=h.get k)→S (.tup []) g ny)→ACall Tryz.prog cx F [.ptr a 0] h' nx S)
  (hR:∀g ny,nx≤ny→g.get a=some (rpB 1 0 r' o')→(∀k,k<nx→k≠a→g.get k=h.get k)→R (.tup []) g ny):ACall Tryz.prog cx 89 [.ptr a 0,.func F [.ptr a 0] []] h nx R:=by
 refine ACall_of_defers (sz:=21) cxok ft89 rfl rfl rfl (by simp) ?_
 refine AW_seq (aw_ok cxok _ ?_)
 simp[go_sem]
 refine lock_c hg ?_
 simp[go_sem,goOn_some]
 refine AW_seq (AW_defer cxok 3 rfl ?_)
 simp[go_sem]
 refine AW_seq (aw_ok cxok _ ?_)
 simp[go_sem]
 refine doneL_c (d:=0) (m:=1) (r:=r) (o:=o) (.inl rfl) (by simp[go_sem]) ?_
 simp[go_sem,goOn_some]
 refine AW_cond (t:=true) (by simp[go_sem]) (fun _=>?_) (fun e=>by cases e)
 refine AW_seq (AW_defer cxok 3 rfl ?_)
 simp[go_sem]
 refine aw_ok cxok _ ?_
 simp[go_sem]
 refine hF _ _ (by simp[go_sem]) (fun k hk=>by simp[go_sem,hk]) fun g ny hn g1 g2=>?_
 simp[go_sem,goOn_some]
 show DCall Tryz.prog cx 129 [.ptr a 0,.bool true] g ny (fun g' n'=>DCall Tryz.prog cx 128 [.ptr a 1] g' n' fun g'' n''=>R (.tup []) g'' n'')
 refine done_d g1 (unlock_d (r:=r') (o:=o') (d:=1) (by simp[go_sem]) (hR _ _ hn (by simp[go_sem]) fun k k1 k2=>?_))
 simp[go_sem,k2]
 exact g2 k k1 k2
theorem do_c {F:FuncId}(hg:h.get a=some (rpB 0 0 r o)){r' o':AV}(hF:∀(h':Tr ABlk)(S:AV→Tr ABlk→Nat→Prop),h'.get a=some (rpB 0 1 r o)→(∀k,k≠a→h'.get k=h.get k)→(∀g ny,nx≤ny→g.get a=some (rpB 0 1 r' o')→(∀k,k<nx→k≠a→g.get k=h.get k)→S (.tup []) g ny)→ACall Tryz.prog cx F [.ptr a 0] h' nx S)
  (hR:∀g ny,nx≤ny→g.get a=some (rpB 1 0 r' o')→(∀k,k<nx→k≠a→g.get k=h.get k)→R (.tup []) g ny):ACall Tryz.prog cx 48 [.ptr a 0,.func F [.ptr a 0] []] h nx R:=by
 refine ACall_mk (sz:=12) (rs:=[]) cxok ft48 rfl rfl rfl (by simp) ?_
 simp[go_sem]
 refine doneL_c (d:=0) (m:=0) (r:=r) (o:=o) (.inl rfl) hg ?_
 simp[go_sem,goOn_some]
 refine doSlow_c hg hF fun g ny q1 q2 q3=>?_
 simp[go_sem,goOn_some]
 exact hR g ny q1 q2 q3
theorem do1_c {F:FuncId}(hg:h.get a=some (rpB 1 0 r o))(hR:R (.tup []) h nx):ACall Tryz.prog cx 48 [.ptr a 0,.func F [.ptr a 0] []] h nx R:=by
 refine ACall_mk (sz:=12) (rs:=[]) cxok ft48 rfl rfl rfl (by simp) ?_
 simp[go_sem]
 refine doneL_c (d:=1) (m:=0) (r:=r) (o:=o) (.inr rfl) hg ?_
 simp[go_sem,goOn_some]
 exact hR
end
end Go.Ev
namespace Go.Ev
open Go.Proofs Go.RowKit
noncomputable section
attribute [-go_sem] pPick lookRes evConvS evStrB
theorem ft23:cx.ft.get 23=some Tryz.f23:=cxS_ft (by decide) (by kernel_rfl)
def It.ok (nm:ByteArray→Bool)(y:It):Prop:=(1≤y.kind∧y.kind≤2)∧nm y.id=true∧(y.par=⟨#[]⟩∨nm y.par=true)∧y.num=⟨#[]⟩∧y.gone=false
def Re.ok (nm:ByteArray→Bool)(s:Re):Prop:=(1≤s.kind∧s.kind≤5)∧nm s.id=true∧(if s.kind=2∨s.kind=4 then nm s.oth=true else s.oth=⟨#[]⟩)
instance (nm:ByteArray→Bool) (y:It):Decidable (y.ok nm):=by unfold It.ok;infer_instance
instance (nm:ByteArray→Bool) (s:Re):Decidable (s.ok nm):=by unfold Re.ok;infer_instance
structure Dv.Frm (nm dg:ByteArray→Bool)(d:Dv):Prop where
 root:dg d.root=true
 count:d.count=d.texts.length
 q:nm d.q=true
 day:0≤d.day∧d.day≤1000000
 case:∀n∈d.case,0≤n∧n≤1000000
 texts:∀y∈d.texts,y.ok nm
 steps:∀s∈d.steps,s.ok nm
 state:0≤d.state∧d.state≤2
 value:0≤d.value∧d.value≤1000000
 by_:∀s∈d.by_,nm s=true
 over:∀s∈d.over,nm s=true
open Classical in
def frmB (nm dg:ByteArray→Bool)(d:Dv):Bool:=decide (d.Frm nm dg)
theorem frmB_true {nm dg:ByteArray→Bool}{d:Dv}(h:d.Frm nm dg):frmB nm dg d=true:=by unfold frmB;simp[h]
theorem frmB_false {nm dg:ByteArray→Bool}{d:Dv}(h:¬d.Frm nm dg):frmB nm dg d=false:=by unfold frmB;simp[h]
set_option maxHeartbeats 8000000 in
theorem rformed_c (d:Dv)(hd:d.Ok):Ret Tryz.prog cx 23 [.agg d.cs] (.bool (frmB rnmB isB d)):=by
 refine Ret.mk fun h nx R hR=>ACall_mk (sz:=187) (rs:=[.tmp 2]) cxok ft23 rfl rfl rfl (by simp) ?_
 have hF:∀b g ny,Ext nx h g→b=frmB rnmB isB d→R (.bool b) g ny:=fun z g ny hE e=>hR _ _ _ hE (Fz.eq rfl (by rw[e]))
 have hno:∀g ny,Ext nx h g→¬d.Frm rnmB isB→R (.bool false) g ny:=fun g ny e q=>hF _ _ _ e (frmB_false q).symm
 have hno':=Lib.hid hno
 have hF':=Lib.hid hF
 clear hno hF hR
 have hEn:∀X,Ext nx h (h.put nx X):=fun X=>(ext_put (by omega)).2 (Ext.refl _ _)
 have hq:=rname_c d.q (by have:d.q.size≤1048576:=hd.q;omega)
 have hr:=is_c d.root (by have:d.root.size≤1048576:=hd.root;omega)
 simp[go_sem,Dv.cs,segL]
 refine Ret.use hr ?_
 by_cases c1:isB d.root=true
 rotate_left
 ·simp[go_sem,goOn_some,segL,c1]
  exact hno'.out _ _ (hEn _) (fun q=>c1 q.root)
 by_cases c2:d.count=d.texts.length
 rotate_left
 ·simp[go_sem,goOn_some,segL,c1,c2]
  exact hno'.out _ _ (hEn _) (fun q=>c2 q.count)
 have c2t:(d.count=(d.texts.length:Int))=True:=eq_true c2
 simp[go_sem,goOn_some,segL,c1,c2t]
 refine Ret.use hq ?_
 by_cases c3:rnmB d.q=true
 rotate_left
 ·simp[go_sem,goOn_some,segL,c1,c2t,c3]
  exact hno'.out _ _ (hEn _) (fun q=>c3 q.q)
 by_cases c4:d.day<0
 ·simp[go_sem,goOn_some,segL,c1,c2t,c3,c4]
  exact hno'.out _ _ (hEn _) (fun q=>by have:=q.day;omega)
 by_cases c5:(1000000:Int)<d.day
 ·simp[go_sem,goOn_some,segL,c1,c2t,c3,c4,c5]
  exact hno'.out _ _ (hEn _) (fun q=>by have:=q.day;omega)
 simp[go_sem,goOn_some,segL,c1,c2t,c3,c4,c5]
 change AW _ _ _ _ _ _ (.mk _ (h.put nx (some (bx 30 d.cs false 0))) _ _)
 clear hq hr
 refine AW_rounds (fun mm st=>∃tm k,st=.mk tm (h.put nx (some (bx 30 d.cs false 0))) (nx+1) []∧mm=d.case.length-k∧k≤d.case.length∧tm.get 1=some (.ptr nx 0)∧tm.get 3=some (.int .i64 (k:Int))∧RowKit.Hid (∀i,(h:i<d.case.length)→i<k→0≤d.case[i]∧d.case[i]≤1000000)) ⟨d.case.length,_,0,rfl,rfl,by omega,?_⟩ ?_
 ·simp[go_sem]
  exact Lib.hid trivial
 rintro mm st ⟨tm,k,rfl,rfl,hk,t1,t3,hv⟩ J hJ
 refine aw_ok cxok _ ?_
 have hcl:=hd.case
 by_cases k1:k<d.case.length
 ·have wI:IntKind.i64.wrap ((k:Int)+1)=(k:Int)+1:=i64wrap _ (by omega) (by omega)
  have hno:=hno'.out _ (nx+1) (hEn (some (bx 30 d.cs false 0)))
  by_cases e1:d.case[k]<0
  ·unfold Dv.cs at hno ⊢
   simp[go_sem,t1,t3,k1,e1]
   exact hno (fun q=>by have:=q.case _ (List.getElem_mem k1);omega)
  by_cases e2:(1000000:Int)<d.case[k]
  ·unfold Dv.cs at hno ⊢
   simp[go_sem,t1,t3,k1,e1,e2]
   exact hno (fun q=>by have:=q.case _ (List.getElem_mem k1);omega)
  have hgo:∀tm',tm'.get 1=some (.ptr nx 0)→tm'.get 3=some (.int .i64 ((k:Int)+1))→J (.mk tm' (h.put nx (some (bx 30 d.cs false 0))) (nx+1) []):=fun tm' a1 a3=>
   hJ (d.case.length-(k+1)) _ (by omega) ⟨tm',k+1,rfl,rfl,by omega,a1,by rw[a3];rfl,Lib.hid fun i h1 h2=>by
    by_cases e:i=k
    ·subst e;omega
    ·exact hv.out i h1 (by omega)⟩
  unfold Dv.cs at hgo ⊢
  simp[go_sem,t1,t3,k1,e1,e2,wI]
  exact hgo _ (by simp[go_sem,t1]) (by simp[go_sem,t3,wI])
 have H1:∀n∈d.case,0≤n∧n≤1000000:=fun n hn=>by
  obtain⟨i,h1,rfl⟩:=List.getElem_of_mem hn
  exact hv.out i h1 (by omega)
 clear hv hJ
 unfold Dv.cs
 simp[go_sem,t1,t3,k1]
 change AW _ _ _ _ _ _ (.mk _ (h.put nx (some (bx 30 d.cs false 0))) _ _)
 have htl:=hd.texts
 refine AW_rounds (fun mm st=>∃tm k g ny,st=.mk tm g ny []∧mm=d.texts.length-k∧k≤d.texts.length∧tm.get 1=some (.ptr nx 0)∧tm.get 4=some (.int .i64 (k:Int))∧nx<ny∧g.get nx=some (bx 30 d.cs false 0)∧Ext nx h g∧RowKit.Hid (∀i,(h:i<d.texts.length)→i<k→d.texts[i].ok rnmB)) ⟨d.texts.length,_,0,_,_,rfl,rfl,by omega,?_⟩ ?_
 ·simp[go_sem,t1]
  exact⟨hEn _,Lib.hid trivial⟩
 clear t1 t3 k1 hk tm k
 rintro mm st ⟨tm,k,g,ny,rfl,rfl,hk,t1,t4,hn,hb,hE,hv⟩ J hJ
 refine aw_ok cxok _ ?_
 have n1:¬nx=ny:=by omega
 by_cases k1:k<d.texts.length
 ·have wI:IntKind.i64.wrap ((k:Int)+1)=(k:Int)+1:=i64wrap _ (by omega) (by omega)
  have hEn2:∀X Y,Ext nx h ((g.put ny X).put ny Y):=fun X Y=>(ext_put (by omega)).2 ((ext_put (by omega)).2 hE)
  have hno:∀g' n',Ext nx h g'→¬(d.texts[k]).ok rnmB→R (.bool false) g' n':=fun g' n' e1 e=>hno'.out g' n' e1 (fun q=>e (q.texts _ (List.getElem_mem k1)))
  have hgo:∀tm' g' n',(d.texts[k]).ok rnmB→tm'.get 1=some (.ptr nx 0)→tm'.get 4=some (.int .i64 ((k:Int)+1))→nx<n'→g'.get nx=some (bx 30 d.cs false 0)→Ext nx h g'→J (.mk tm' g' n' []):=fun tm' g' n' e a1 a3 a4 a5 a6=>
   hJ (d.texts.length-(k+1)) _ (by omega) ⟨tm',k+1,g',n',rfl,rfl,by omega,a1,by rw[a3];rfl,a4,a5,a6,Lib.hid fun i h1 h2=>by
    by_cases e2:i=k
    ·subst e2;exact e
    ·exact hv.out i h1 (by omega)⟩
  obtain⟨f1,f2,f3,f4,f5⟩:=hd.ti _ (List.getElem_mem k1)
  have hno2:=Lib.hid hno
  have hgo2:=Lib.hid hgo
  clear hno hgo hJ hF' hno' hv
  unfold Dv.cs at hb hgo2
  generalize hx:d.texts[k]=y at hno2 hgo2 f1 f2 f3 f4 f5
  obtain⟨kind,id,par,num,nor,sou,gone⟩:=y
  simp only[It.ok]at hno2 hgo2
  have hid:=rname_c id (by have:id.size≤1048576:=f1;omega)
  have hpar:=rname_c par (by have:par.size≤1048576:=f2;omega)
  by_cases e1:kind<1
  ·simp[go_sem,t1,t4,k1,hb,hx,It.cs,segL,n1,e1]
   exact hno2.out _ _ (hEn2 _ _) (fun q=>by omega)
  by_cases e2:(2:Int)<kind
  ·simp[go_sem,t1,t4,k1,hb,hx,It.cs,segL,n1,e1,e2]
   exact hno2.out _ _ (hEn2 _ _) (fun q=>by omega)
  simp[go_sem,t1,t4,k1,hb,hx,It.cs,segL,n1,e1,e2]
  refine Ret.use hid ?_
  by_cases e3:rnmB id=true
  rotate_left
  ·simp[go_sem,goOn_some,segL,e3]
   exact hno2.out _ _ (hEn2 _ _) (fun q=>e3 q.2.1)
  by_cases e4:par=⟨#[]⟩
  ·by_cases e6:num=⟨#[]⟩
   rotate_left
   ·simp[go_sem,goOn_some,segL,e3,n1,e4,e6]
    exact hno2.out _ _ (hEn2 _ _) (fun q=>e6 q.2.2.2.1)
   cases gone with
   |true=>
    simp[go_sem,goOn_some,segL,e3,n1,e4,e6]
    exact hno2.out _ _ (hEn2 _ _) (fun q=>by cases q.2.2.2.2)
   |false=>
    simp[go_sem,goOn_some,segL,e3,n1,e4,e6,t4,wI]
    exact hgo2.out _ _ _ ⟨by omega,e3,.inl e4,e6,rfl⟩ (by simp[go_sem,t1]) (by simp[go_sem,t4,wI]) (by omega) (by simp[go_sem,n1,hb]) (hEn2 _ _)
  ·simp[go_sem,goOn_some,segL,e3,n1,e4]
   refine Ret.use hpar ?_
   by_cases e5:rnmB par=true
   rotate_left
   ·simp[go_sem,goOn_some,segL,e3,n1,e4,e5]
    exact hno2.out _ _ (hEn2 _ _) (fun q=>by
     rcases q.2.2.1 with q |q
     ·exact e4 q
     ·exact e5 q)
   by_cases e6:num=⟨#[]⟩
   rotate_left
   ·simp[go_sem,goOn_some,segL,e3,n1,e4,e5,e6]
    exact hno2.out _ _ (hEn2 _ _) (fun q=>e6 q.2.2.2.1)
   cases gone with
   |true=>
    simp[go_sem,goOn_some,segL,e3,n1,e4,e5,e6]
    exact hno2.out _ _ (hEn2 _ _) (fun q=>by cases q.2.2.2.2)
   |false=>
    simp[go_sem,goOn_some,segL,e3,n1,e4,e5,e6,t4,wI]
    exact hgo2.out _ _ _ ⟨by omega,e3,.inr e5,e6,rfl⟩ (by simp[go_sem,t1]) (by simp[go_sem,t4,wI]) (by omega) (by simp[go_sem,n1,hb]) (hEn2 _ _)
 have H2:∀y∈d.texts,y.ok rnmB:=fun n hn=>by
  obtain⟨i,h1,rfl⟩:=List.getElem_of_mem hn
  exact hv.out i h1 (by omega)
 clear hv hJ
 unfold Dv.cs at hb
 simp[go_sem,t1,t4,k1,hb]
 replace hb:g.get nx=some (bx 30 d.cs false 0):=hb
 have hsl:=hd.steps
 have hn0:=hn
 have hE0:=hE
 refine AW_rounds (fun mm st=>∃tm k g ny,st=.mk tm g ny []∧mm=d.steps.length-k∧k≤d.steps.length∧tm.get 1=some (.ptr nx 0)∧tm.get 6=some (.int .i64 (k:Int))∧nx<ny∧g.get nx=some (bx 30 d.cs false 0)∧Ext nx h g∧RowKit.Hid (∀i,(h:i<d.steps.length)→i<k→d.steps[i].ok rnmB)) ⟨d.steps.length,_,0,_,_,rfl,rfl,by omega,?_⟩ ?_
 ·simp[go_sem,t1]
  exact⟨hn0,hb,hE0,Lib.hid trivial⟩
 clear hn0 hE0 t1 t4 k1 hk tm k hn hb hE n1 g ny
 rintro mm st ⟨tm,k,g,ny,rfl,rfl,hk,t1,t6,hn,hb,hE,hv⟩ J hJ
 refine aw_ok cxok _ ?_
 have n1:¬nx=ny:=by omega
 by_cases k1:k<d.steps.length
 ·have wI:IntKind.i64.wrap ((k:Int)+1)=(k:Int)+1:=i64wrap _ (by omega) (by omega)
  have hEn2:∀X Y,Ext nx h ((g.put ny X).put ny Y):=fun X Y=>(ext_put (by omega)).2 ((ext_put (by omega)).2 hE)
  have hno:∀g' n',Ext nx h g'→¬(d.steps[k]).ok rnmB→R (.bool false) g' n':=fun g' n' e1 e=>hno'.out g' n' e1 (fun q=>e (q.steps _ (List.getElem_mem k1)))
  have hgo:∀tm' g' n',(d.steps[k]).ok rnmB→tm'.get 1=some (.ptr nx 0)→tm'.get 6=some (.int .i64 ((k:Int)+1))→nx<n'→g'.get nx=some (bx 30 d.cs false 0)→Ext nx h g'→J (.mk tm' g' n' []):=fun tm' g' n' e a1 a3 a4 a5 a6=>
   hJ (d.steps.length-(k+1)) _ (by omega) ⟨tm',k+1,g',n',rfl,rfl,by omega,a1,by rw[a3];rfl,a4,a5,a6,Lib.hid fun i h1 h2=>by
    by_cases e2:i=k
    ·subst e2;exact e
    ·exact hv.out i h1 (by omega)⟩
  obtain⟨f1,f2⟩:=hd.si _ (List.getElem_mem k1)
  have hno2:=Lib.hid hno
  have hgo2:=Lib.hid hgo
  clear hno hgo hJ hF' hno' hv
  unfold Dv.cs at hb hgo2
  generalize hx:d.steps[k]=y at hno2 hgo2 f1 f2
  obtain⟨kind,id,oth⟩:=y
  simp only[Re.ok]at hno2 hgo2
  have hid:=rname_c id (by have:id.size≤1048576:=f1;omega)
  have hoth:=rname_c oth (by have:oth.size≤1048576:=f2;omega)
  by_cases e1:kind<1
  ·have x2:¬kind=2:=by omega
   have x4:¬kind=4:=by omega
   simp[go_sem,t1,t6,k1,hb,hx,Re.cs,segL,n1,x2,x4,e1]
   exact hno2.out _ _ (hEn2 _ _) (fun q=>by omega)
  by_cases e2:(5:Int)<kind
  ·have x2:¬kind=2:=by omega
   have x4:¬kind=4:=by omega
   simp[go_sem,t1,t6,k1,hb,hx,Re.cs,segL,n1,x2,x4,e1,e2]
   exact hno2.out _ _ (hEn2 _ _) (fun q=>by omega)
  by_cases x2:kind=2
  ·subst x2
   simp[go_sem,t1,t6,k1,hb,hx,Re.cs,segL,n1]
   refine Ret.use hid ?_
   by_cases e3:rnmB id=true
   rotate_left
   ·simp[go_sem,goOn_some,segL,e3]
    exact hno2.out _ _ (hEn2 _ _) (fun q=>e3 q.2.1)
   simp[go_sem,goOn_some,segL,e3,n1]
   refine Ret.use hoth ?_
   by_cases e4:rnmB oth=true
   rotate_left
   ·simp[go_sem,goOn_some,segL,e3,e4]
    exact hno2.out _ _ (hEn2 _ _) (fun q=>by have:=q.2.2;simp at this;exact e4 this)
   simp[go_sem,goOn_some,segL,e3,e4,n1,t6,wI]
   exact hgo2.out _ _ _ ⟨by omega,e3,by simp[e4]⟩ (by simp[go_sem,t1]) (by simp[go_sem,t6,wI]) (by omega) (by simp[go_sem,n1,hb]) (hEn2 _ _)
  by_cases x4:kind=4
  ·subst x4
   simp[go_sem,t1,t6,k1,hb,hx,Re.cs,segL,n1]
   refine Ret.use hid ?_
   by_cases e3:rnmB id=true
   rotate_left
   ·simp[go_sem,goOn_some,segL,e3]
    exact hno2.out _ _ (hEn2 _ _) (fun q=>e3 q.2.1)
   simp[go_sem,goOn_some,segL,e3,n1]
   refine Ret.use hoth ?_
   by_cases e4:rnmB oth=true
   rotate_left
   ·simp[go_sem,goOn_some,segL,e3,e4]
    exact hno2.out _ _ (hEn2 _ _) (fun q=>by have:=q.2.2;simp at this;exact e4 this)
   simp[go_sem,goOn_some,segL,e3,e4,n1,t6,wI]
   exact hgo2.out _ _ _ ⟨by omega,e3,by simp[e4]⟩ (by simp[go_sem,t1]) (by simp[go_sem,t6,wI]) (by omega) (by simp[go_sem,n1,hb]) (hEn2 _ _)
  simp[go_sem,t1,t6,k1,hb,hx,Re.cs,segL,n1,x2,x4,e1,e2]
  refine Ret.use hid ?_
  by_cases e3:rnmB id=true
  rotate_left
  ·simp[go_sem,goOn_some,segL,e3]
   exact hno2.out _ _ (hEn2 _ _) (fun q=>e3 q.2.1)
  by_cases e4:oth=⟨#[]⟩
  rotate_left
  ·simp[go_sem,goOn_some,segL,e3,e4,n1]
   exact hno2.out _ _ (hEn2 _ _) (fun q=>by have:=q.2.2;simp[x2,x4]at this;exact e4 this)
  simp[go_sem,goOn_some,segL,e3,e4,n1,t6,wI]
  exact hgo2.out _ _ _ ⟨by omega,e3,by simp[x2,x4,e4]⟩ (by simp[go_sem,t1]) (by simp[go_sem,t6,wI]) (by omega) (by simp[go_sem,n1,hb]) (hEn2 _ _)
 have H3:∀y∈d.steps,y.ok rnmB:=fun n hn=>by
  obtain⟨i,h1,rfl⟩:=List.getElem_of_mem hn
  exact hv.out i h1 (by omega)
 clear hv hJ
 unfold Dv.cs at hb
 have hby:=named_c false d.by_ (by have:=hd.by_;omega) (fun s hs=>by have:s.size≤1048576:=hd.bi s hs;omega)
 have hov:=named_c false d.over (by have:=hd.over;omega) (fun s hs=>by have:s.size≤1048576:=hd.oi s hs;omega)
 have hE2:∀X Y,Ext nx h ((g.put ny X).put ny Y):=fun X Y=>(ext_put (by omega)).2 ((ext_put (by omega)).2 hE)
 have nmT:∀l:List ByteArray,namesB l=true↔∀s∈l,rnmB s=true:=fun l=>by unfold namesB;exact List.all_eq_true
 by_cases s1:(0:Int)≤d.state
 rotate_left
 ·simp[go_sem,t1,t6,k1,hb,n1,segL,s1]
  exact hno'.out _ _ (hE2 _ _) (fun q=>s1 q.state.1)
 by_cases s2:d.state≤2
 rotate_left
 ·simp[go_sem,t1,t6,k1,hb,n1,segL,s1,s2]
  exact hno'.out _ _ (hE2 _ _) (fun q=>s2 q.state.2)
 by_cases s3:(0:Int)≤d.value
 rotate_left
 ·simp[go_sem,t1,t6,k1,hb,n1,segL,s1,s2,s3]
  exact hno'.out _ _ (hE2 _ _) (fun q=>s3 q.value.1)
 by_cases s4:d.value≤1000000
 rotate_left
 ·simp[go_sem,t1,t6,k1,hb,n1,segL,s1,s2,s3,s4]
  exact hno'.out _ _ (hE2 _ _) (fun q=>s4 q.value.2)
 simp[go_sem,t1,t6,k1,hb,n1,segL,s1,s2,s3,s4]
 refine Ret.use hby ?_
 by_cases s5:namesB d.by_=true
 rotate_left
 ·simp[go_sem,goOn_some,s5]
  exact hno'.out _ _ (hE2 _ _) (fun q=>s5 ((nmT _).2 q.by_))
 simp[go_sem,goOn_some,s5,n1]
 refine Ret.use hov ?_
 by_cases s6:namesB d.over=true
 rotate_left
 ·simp[go_sem,goOn_some,s5,s6]
  exact hno'.out _ _ (hE2 _ _) (fun q=>s6 ((nmT _).2 q.over))
 simp[go_sem,goOn_some,s5,s6]
 refine hF'.out _ _ _ (hE2 _ _) ?_
 symm
 exact frmB_true ⟨c1,c2,c3,⟨by omega,by omega⟩,H1,H2,H3,⟨s1,s2⟩,⟨s3,s4⟩,(nmT _).1 s5,(nmT _).1 s6⟩
end
end Go.Ev
namespace Go.Ev
open Go.Proofs Go.RowKit
noncomputable section
attribute [-go_sem] pPick lookRes evConvS evStrB
theorem ft139:cx.ft.get 139=some Tryz.f139:=cxS_ft (by decide) (by kernel_rfl)
theorem ft182:cx.ft.get 182=some Tryz.f182:=cxS_ft (by decide) (by kernel_rfl)
theorem encY_map (l:List UInt8):encY l=l.map fun z=>.int .u8 (Int.ofNat z.toNat):=by
 induction l with
 |nil=>rfl
 |cons x l ih=>rw[show encY (x::l)=.int .u8 (x.toNat:Int)::encY l from rfl,ih];rfl
@[go_sem] theorem evConvS_toB (e s1 s2 d1 d2 t1 t2:Nat)(s3 d3 t3:Option AV)(s4 d4 t4:List (Nat×Nat×Bool))(b:ByteArray)(h:Tr ABlk) (nx:Nat):
  evConvS (.mk .string s1 s2 s3 s4) (.mk (.slice e) d1 d2 d3 d4) (some (.mk (.int .u8) t1 t2 t3 t4)) e (.bs b) h nx=.val (.sl nx 0 b.size 0 true) (h.put nx (some (bx e (encY b.data.toList) true 1))) (nx+1):=by
 have hl:(encY b.data.toList).length=b.size:=by rw[encY_len,Array.length_toList];rfl
 have hb:Nat.beq e e=true:=Nat.beq_refl e
 simp only[evConvS,hb]
 unfold bx
 rw[hl,encY_map]
def atoiF (l:List UInt8) (a:Int):Int:=l.foldl (fun a z=>a * 10+((z.toNat:Int)-48)) a
def bnd:Nat→Int
 |0=>0
 |n+1=>bnd n * 10+9
theorem bnd_le:∀j,j<8→bnd j≤9999999:=by decide
set_option maxHeartbeats 4000000 in
theorem atoi_c (s:ByteArray)(h1:1≤s.size)(h7:s.size≤7)(hd:∀z∈s.data.toList,48≤z.toNat∧z.toNat≤57):Ret Tryz.prog cx 182 [.bs s] (.tup [.int .i64 (atoiF s.data.toList 0),.nilIface]):=by
 refine Ret.mk fun h nx R hR=>ACall_mk (sz:=77) (rs:=[.tmp 2,.tmp 3]) cxok ft182 rfl rfl rfl (by simp) ?_
 have q1:(0:Int)<(s.size:Int):=by omega
 have q2:(s.size:Int)<10:=by omega
 have q3:(s.size:Int)<19:=by omega
 have q4:0<s.size:=by omega
 have hsz:s.data.toList.length=s.size:=by rw[Array.length_toList];rfl
 have hs0:48≤(s[0]'q4).toNat:=(hd _ (by rw[ByteArray.getElem_eq_getElem_data];simp)).1
 have n45:¬(((s[0]'q4).toNat:Int)=45):=by omega
 have n43:¬(((s[0]'q4).toNat:Int)=43):=by omega
 have m45:¬((s[0]'q4).toNat=45):=by omega
 have m43:¬((s[0]'q4).toNat=43):=by omega
 have hel:=encY_len s.data.toList
 simp[go_sem,q3,q4,n45,n43]
 refine AW_rounds (fun mm st=>∃tm j a,st=.mk tm (h.put nx (some (bx 5 (encY s.data.toList) true 1))) (nx+1) []∧mm=s.size-j∧j≤s.size∧tm.get 5=some (.bs s)∧tm.get 6=some (.int .i64 a)∧tm.get 47=some (.sl nx 0 s.size 0 true)∧tm.get 48=some (.int .i64 (s.size:Int))∧tm.get 49=some (.int .i64 (j:Int))∧0≤a∧a≤bnd j∧RowKit.Hid (atoiF s.data.toList 0=atoiF (s.data.toList.drop j) a)) ⟨s.size,_,0,0,rfl,by simp,by simp,?_⟩ ?_
 ·simp[go_sem]
  exact⟨by simp[bnd],Lib.hid trivial⟩
 ·rintro mm st ⟨tm,j,a,rfl,rfl,hj,t5,t6,t47,t48,t49,a0,ab,hv⟩ J hJ
  refine aw_ok cxok _ ?_
  by_cases hlt:j<s.size
  ·have hjl:j<s.data.toList.length:=by omega
   obtain⟨z,hz⟩:∃z,z=s.data.toList[j]:=⟨_,rfl⟩
   obtain⟨z1,z2⟩:=hd z (by rw[hz];exact List.getElem_mem hjl)
   have hat:∀hh,(encY s.data.toList)[j]'hh=.int .u8 (z.toNat:Int):=fun hh=>by
    simp only[encY_map,List.getElem_map,← hz]
    rfl
   have hv1:=hv.out
   rw[List.drop_eq_getElem_cons hjl,← hz]at hv1
   have hv2:atoiF s.data.toList 0=atoiF (s.data.toList.drop (j+1)) (a * 10+((z.toNat:Int)-48)):=hv1
   have HV:=Lib.hid hv2
   clear hv1 hv2 hv
   have w8:IntKind.u8.wrap ((z.toNat:Int)-48)=(z.toNat:Int)-48:=by
    simp only[IntKind.wrap,IntKind.signed,IntKind.bits,Bool.false_and,Bool.false_eq_true,if_false]
    exact Int.emod_eq_of_lt (by omega) (by show _<(256:Int);omega)
   have hb1:bnd (j+1)=bnd j * 10+9:=rfl
   have hb7:=bnd_le (j+1) (by omega)
   have wa:IntKind.i64.wrap (a * 10)=a * 10:=i64wrap _ (by omega) (by omega)
   have wb:IntKind.i64.wrap ((z.toNat:Int)-48)=(z.toNat:Int)-48:=i64wrap _ (by omega) (by omega)
   have wc:IntKind.i64.wrap (a * 10+((z.toNat:Int)-48))=a * 10+((z.toNat:Int)-48):=i64wrap _ (by omega) (by omega)
   have g9:¬(9:Int)<(z.toNat:Int)-48:=by omega
   simp[go_sem,t6,t47,t48,t49,hlt,hat,hel,hsz,w8,wa,wb,wc,g9]
   refine hJ (s.size-(j+1)) _ (by omega) ⟨_,j+1,a * 10+((z.toNat:Int)-48),rfl,rfl,by omega,?_⟩
   simp(disch:=omega) [go_sem,t5,t47,t48,i64wrap]
   exact⟨by omega,by omega,HV⟩
  ·have hjj:j=s.size:=by omega
   have hv1:=hv.out
   rw[List.drop_of_length_le (by omega)]at hv1
   simp[go_sem,t5,t6,t48,t49,hlt,q4,n45]
   have hv2:atoiF s.data.toList 0=a:=hv1
   refine hR _ _ _ ?_ ?_
   ·simp(disch:=omega)only[ext_put]
    exact Ext.refl _ _
   ·rw[hv2]
    exact Fz.same _ rfl
theorem atoiS_c (s:ByteArray)(h1:1≤s.size)(h7:s.size≤7)(hd:∀z∈s.data.toList,48≤z.toNat∧z.toNat≤57):Ret Tryz.prog cx 139 [.bs s] (.tup [.int .i64 (atoiF s.data.toList 0),.nilIface]):=by
 refine Ret.mk fun h nx R hR=>ACall_mk (sz:=18) (rs:=[.tmp 2,.tmp 3]) cxok ft139 rfl rfl rfl (by simp) ?_
 simp[go_sem]
 refine Ret.use (atoi_c s h1 h7 hd) ?_
 simp[go_sem,goOn_some]
 exact hR _ _ _ (Ext.refl _ _) (Fz.same _ rfl)
end
end Go.Ev
namespace Go.Ev
open Go.Proofs Go.RowKit
noncomputable section
attribute [-go_sem] pPick lookRes evConvS evStrB tt241 tt239 tt237
theorem ft17:cx.ft.get 17=some Tryz.f17:=cxS_ft (by decide) (by kernel_rfl)
theorem ft90:cx.ft.get 90=some Tryz.f90:=cxS_ft (by decide) (by kernel_rfl)
theorem ft49:cx.ft.get 49=some Tryz.f49:=cxS_ft (by decide) (by kernel_rfl)
def rpL (f:Nat→AV)(t:AV):List AV:=(List.range 256).map f++[t]
@[go_sem] theorem rpL_len (f:Nat→AV)(t:AV):(rpL f t).length=257:=by simp[rpL]
@[go_sem] theorem rpL_at (f:Nat→AV)(t:AV) (o:Nat)(h:o<(rpL f t).length)(ho:o<256):(rpL f t)[o]'h=f o:=by
 simp only[rpL]
 rw[List.getElem_append_left (by simpa using ho)]
 simp
@[go_sem] theorem rpL_last (f:Nat→AV)(t:AV)(h:256<(rpL f t).length):(rpL f t)[256]'h=t:=by
 simp[rpL]
def upF (f:Nat→AV) (o:Nat)(v:AV):Nat→AV:=fun k=>if k=o then v else f k
@[go_sem] theorem upF_eq (f:Nat→AV) (o:Nat)(v:AV) (k:Nat):upF f o v k=if k=o then v else f k:=rfl
@[go_sem] theorem rpL_seg (f:Nat→AV)(t v:AV) (o:Nat)(ho:o<256):segL (rpL f t) o [v]=rpL (upF f o v) t:=by
 apply List.ext_getElem
 ·rw[segL_length (by rw[rpL_len];show o+1≤257;omega),rpL_len,rpL_len]
 ·intro j h1 h2
  rw[rpL_len]at h2
  have e:=List.getElem?_eq_getElem h1
  rw[get_segL (by rw[rpL_len];show o+1≤257;omega)]at e
  by_cases q:o≤j∧j<o+1
  ·have:j=o:=by omega
   subst this
   rw[rpL_at _ _ _ _ ho]
   simp at e
   simp[upF,← e]
  ·rw[if_neg (by simpa using q)]at e
   have hj:j<(rpL f t).length:=by rw[rpL_len];exact h2
   rw[List.getElem?_eq_getElem hj]at e
   have e:=Option.some.inj e
   rw[← e]
   by_cases h3:j<256
   ·rw[rpL_at _ _ _ _ h3,rpL_at _ _ _ _ h3,upF,if_neg (by omega)]
   ·have:j=256:=by omega
    subst this
    rw[rpL_last,rpL_last]
@[go_sem] theorem rpL_seg2 (f:Nat→AV)(t v:AV):segL (rpL f t) 256 [v]=rpL f v:=by
 simp[segL,rpL]
theorem tt241':cx.tt.get 241=some (TI.mk (TypeDesc.struct fl241) 257 6168 (some (AV.agg (rpL (fun _=>.sl0) .sl0))) [(0,256,true),(256,1,false)]):=tt241
def rpZ:AV:=.agg (List.replicate 256 .sl0)
theorem tt239':cx.tt.get 239=some (TI.mk (TypeDesc.array 256 53) 256 6144 (some rpZ) [(0,1,false)]):=tt239
attribute [go_sem] tt241' tt239'
@[go_sem] theorem rpL_one (i o l c:Nat)(b:Bool):allOne (rpL (fun _=>.sl0) (.sl i o l c b))=true:=by
 unfold rpL
 rfl
def six:List ByteArray:=[⟨#[92]⟩,⟨#[92,92]⟩,⟨#[34]⟩,⟨#[92,34]⟩,⟨#[10]⟩,⟨#[92,110]⟩]
def unrW (P:Program)(c:Cx)(inr:Bool) (sz:Nat)(x:Code)(Q:AX→AS→Prop):Nat→AS→Prop
 |0,_=>False
 |n+1,s=>aw P c inr sz x (thenA (unrW P c inr sz x Q n) Q) s
theorem AW_unroll {P:Program}{c:Cx}(hc:CxOk P c){inr:Bool}{sz:Nat}{x:Code}{Q:AX→AS→Prop}{s:AS}(n:Nat)(h:unrW P c inr sz x Q n s):AW P c inr sz (.loop x) Q s:=by
 refine AW_rounds (fun m s=>unrW P c inr sz x Q m s) ⟨n,h⟩ fun n s hI J hJ=>?_
 cases n with
 |zero=>exact hI.elim
 |succ n=>
  refine(aw_ok hc x hI).mono fun k s' q=>?_
  cases k with
  |norm=>exact hJ n s' (Nat.lt_succ_self n) q
  |exit id=>exact q
  |ret=>exact q
section
variable (P : Program) (c : Cx) (inr : Bool) (sz : Nat) (x : Code) (Q : AX → AS → Prop) (s : AS)
@[go_sem ↓] theorem unrW4:unrW P c inr sz x Q 4 s=aw P c inr sz x (thenA (unrW P c inr sz x Q 3) Q) s:=rfl
@[go_sem ↓] theorem unrW3:unrW P c inr sz x Q 3 s=aw P c inr sz x (thenA (unrW P c inr sz x Q 2) Q) s:=rfl
@[go_sem ↓] theorem unrW2:unrW P c inr sz x Q 2 s=aw P c inr sz x (thenA (unrW P c inr sz x Q 1) Q) s:=rfl
@[go_sem ↓] theorem unrW1:unrW P c inr sz x Q 1 s=aw P c inr sz x (thenA (unrW P c inr sz x Q 0) Q) s:=rfl
end
section
variable (e : TypeId) (size b : Nat) (z : Option AV) (x : Nat) (s : Nat) (y : Bool) (fs : List (Nat × Nat × Bool)) (full : Bool) (xs : List AV) (k : IntKind) (i o n0 : Nat) (h : Tr ABlk) (nx : Nat)
@[go_sem] theorem ia_fz1 (hn:1<xs.length):evIndexAddr (.mk (.slice e) size b z ((x,s,y)::fs)) (.fz s full xs) (.int k 1) h nx=.val (.ip (xs[1]).cells) h nx:=evIndexAddr_fz e size b z x s y fs full xs k 1 h nx hn
@[go_sem] theorem ia_fz2 (hn:2<xs.length):evIndexAddr (.mk (.slice e) size b z ((x,s,y)::fs)) (.fz s full xs) (.int k 2) h nx=.val (.ip (xs[2]).cells) h nx:=evIndexAddr_fz e size b z x s y fs full xs k 2 h nx hn
@[go_sem] theorem ia_fz3 (hn:3<xs.length):evIndexAddr (.mk (.slice e) size b z ((x,s,y)::fs)) (.fz s full xs) (.int k 3) h nx=.val (.ip (xs[3]).cells) h nx:=evIndexAddr_fz e size b z x s y fs full xs k 3 h nx hn
@[go_sem] theorem ia_fz4 (hn:4<xs.length):evIndexAddr (.mk (.slice e) size b z ((x,s,y)::fs)) (.fz s full xs) (.int k 4) h nx=.val (.ip (xs[4]).cells) h nx:=evIndexAddr_fz e size b z x s y fs full xs k 4 h nx hn
@[go_sem] theorem ia_fz5 (hn:5<xs.length):evIndexAddr (.mk (.slice e) size b z ((x,s,y)::fs)) (.fz s full xs) (.int k 5) h nx=.val (.ip (xs[5]).cells) h nx:=evIndexAddr_fz e size b z x s y fs full xs k 5 h nx hn
@[go_sem] theorem ia_arr10 (hn:10<n0):evIndexAddr (.mk (.array n0 e) size b z ((x,s,y)::fs)) (.ptr i o) (.int k 10) h nx=.val (.ptr i (o+10 * s)) h nx:=evIndexAddr_arr n0 e size b z x s y fs i o k 10 h nx hn
@[go_sem] theorem ia_arr34 (hn:34<n0):evIndexAddr (.mk (.array n0 e) size b z ((x,s,y)::fs)) (.ptr i o) (.int k 34) h nx=.val (.ptr i (o+34 * s)) h nx:=evIndexAddr_arr n0 e size b z x s y fs i o k 34 h nx hn
@[go_sem] theorem ia_arr92 (hn:92<n0):evIndexAddr (.mk (.array n0 e) size b z ((x,s,y)::fs)) (.ptr i o) (.int k 92) h nx=.val (.ptr i (o+92 * s)) h nx:=evIndexAddr_arr n0 e size b z x s y fs i o k 92 h nx hn
end
@[go_sem] theorem at10 (hx:0<(ByteArray.mk #[10]).size):(ByteArray.mk #[10])[0]'hx=10:=rfl
@[go_sem] theorem at34 (hx:0<(ByteArray.mk #[34]).size):(ByteArray.mk #[34])[0]'hx=34:=rfl
@[go_sem] theorem at92 (hx:0<(ByteArray.mk #[92]).size):(ByteArray.mk #[92])[0]'hx=92:=rfl
@[go_sem] theorem bytes10:bytesS [.int .u8 10]=some [10]:=rfl
@[go_sem] theorem bytes34:bytesS [.int .u8 34]=some [34]:=rfl
@[go_sem] theorem bytes92:bytesS [.int .u8 92]=some [92]:=rfl
@[go_sem] theorem neq2 (n:Nat):(n=n+1+1)=False:=by simp only[eq_iff_iff,iff_false];omega
@[go_sem] theorem qen2 (n:Nat):(n+1+1=n)=False:=by simp only[eq_iff_iff,iff_false];omega
@[go_sem] theorem neq3 (n:Nat):(n=n+1+1+1)=False:=by simp only[eq_iff_iff,iff_false];omega
@[go_sem] theorem qen3 (n:Nat):(n+1+1+1=n)=False:=by simp only[eq_iff_iff,iff_false];omega
@[go_sem] theorem neq4 (n:Nat):(n=n+1+1+1+1)=False:=by simp only[eq_iff_iff,iff_false];omega
@[go_sem] theorem qen4 (n:Nat):(n+1+1+1+1=n)=False:=by simp only[eq_iff_iff,iff_false];omega
@[go_sem] theorem neq5 (n:Nat):(n=n+1+1+1+1+1)=False:=by simp only[eq_iff_iff,iff_false];omega
@[go_sem] theorem qen5 (n:Nat):(n+1+1+1+1+1=n)=False:=by simp only[eq_iff_iff,iff_false];omega
@[go_sem] theorem neq6 (n:Nat):(n=n+1+1+1+1+1+1)=False:=by simp only[eq_iff_iff,iff_false];omega
@[go_sem] theorem qen6 (n:Nat):(n+1+1+1+1+1+1=n)=False:=by simp only[eq_iff_iff,iff_false];omega
@[go_sem] theorem neq7 (n:Nat):(n=n+1+1+1+1+1+1+1)=False:=by simp only[eq_iff_iff,iff_false];omega
@[go_sem] theorem qen7 (n:Nat):(n+1+1+1+1+1+1+1=n)=False:=by simp only[eq_iff_iff,iff_false];omega
@[go_sem] theorem neq8 (n:Nat):(n=n+1+1+1+1+1+1+1+1)=False:=by simp only[eq_iff_iff,iff_false];omega
@[go_sem] theorem qen8 (n:Nat):(n+1+1+1+1+1+1+1+1=n)=False:=by simp only[eq_iff_iff,iff_false];omega
@[go_sem] theorem neq9 (n:Nat):(n=n+1+1+1+1+1+1+1+1+1)=False:=by simp only[eq_iff_iff,iff_false];omega
@[go_sem] theorem qen9 (n:Nat):(n+1+1+1+1+1+1+1+1+1=n)=False:=by simp only[eq_iff_iff,iff_false];omega
@[go_sem] theorem neq10 (n:Nat):(n=n+1+1+1+1+1+1+1+1+1+1)=False:=by simp only[eq_iff_iff,iff_false];omega
@[go_sem] theorem qen10 (n:Nat):(n+1+1+1+1+1+1+1+1+1+1=n)=False:=by simp only[eq_iff_iff,iff_false];omega
@[go_sem] theorem neq11 (n:Nat):(n=n+1+1+1+1+1+1+1+1+1+1+1)=False:=by simp only[eq_iff_iff,iff_false];omega
@[go_sem] theorem qen11 (n:Nat):(n+1+1+1+1+1+1+1+1+1+1+1=n)=False:=by simp only[eq_iff_iff,iff_false];omega
@[go_sem] theorem neq12 (n:Nat):(n=n+1+1+1+1+1+1+1+1+1+1+1+1)=False:=by simp only[eq_iff_iff,iff_false];omega
@[go_sem] theorem qen12 (n:Nat):(n+1+1+1+1+1+1+1+1+1+1+1+1=n)=False:=by simp only[eq_iff_iff,iff_false];omega
@[go_sem] theorem neq13 (n:Nat):(n=n+1+1+1+1+1+1+1+1+1+1+1+1+1)=False:=by simp only[eq_iff_iff,iff_false];omega
@[go_sem] theorem qen13 (n:Nat):(n+1+1+1+1+1+1+1+1+1+1+1+1+1=n)=False:=by simp only[eq_iff_iff,iff_false];omega
@[go_sem] theorem neq14 (n:Nat):(n=n+1+1+1+1+1+1+1+1+1+1+1+1+1+1)=False:=by simp only[eq_iff_iff,iff_false];omega
@[go_sem] theorem qen14 (n:Nat):(n+1+1+1+1+1+1+1+1+1+1+1+1+1+1=n)=False:=by simp only[eq_iff_iff,iff_false];omega
@[go_sem] theorem neq15 (n:Nat):(n=n+1+1+1+1+1+1+1+1+1+1+1+1+1+1+1)=False:=by simp only[eq_iff_iff,iff_false];omega
@[go_sem] theorem qen15 (n:Nat):(n+1+1+1+1+1+1+1+1+1+1+1+1+1+1+1=n)=False:=by simp only[eq_iff_iff,iff_false];omega
theorem ACall.fryR {P:Program}{c:Cx}{f:FuncId}{args:List AV}{h:Tr ABlk}{nx:Nat}{R:AV→Tr ABlk→Nat→Prop}(hc:ACall P c f args h nx fun v g ny=>∃(F:Nat→Prop)(v':AV)(g':Tr ABlk),FyH g F g'∧Fy g F v v'∧R v' g' ny):ACall P c f args h nx R:=
 fun σ w A ok hA=>(hc σ w A ok hA).mono fun V x ⟨τ,_,g,ny,h1,h2,F,v',g',h3,h4,h5⟩=>⟨τ.fry x g F,v',g',ny,h4.rel h2.ok V h1,h2.trans (Post.fry h2.ok h3),h5⟩
@[go_sem ↓] theorem awS_iface {P:Program}{c:Cx}{sz:Nat}{ops:List Oper}{dst:Option Tmp}{ty:TypeId}{pos:String}{aft:Array Edge}{K:AS→Prop}{tm:Tr AV}{h:Tr ABlk}{nx:Nat}{ds:List DE}(t:TypeId)(x:Operand):awS P c sz ops ⟨dst,.makeInterface t x,ty,pos,aft,none⟩ K (.mk tm h nx ds)=afterP sz dst tm ds K (pIface c t x tm h nx):=rfl
theorem chunk_one:∀{l:List AV},allOne l=true→Chunk 1 l l
 |[],_=>rfl
 |v::l,h=>by
  change (match v.one with |true=>allOne l |false=>false)=true at h
  cases h1:v.one with
  |false=>rw[h1]at h;cases h
  |true=>
   rw[h1]at h
   refine⟨[v],l,rfl,?_,rfl,.inr h1,chunk_one h⟩
   cases v <;> first |rfl |cases h1
theorem Fy.row1 {g:Tr ABlk}{F:Nat→Prop}{i n cp esz:Nat}{t:TypeId}{op opn:Bool}{L:List AV}(hF:F i)(hg:g.get i=some (bx t L opn esz))(h1:allOne L=true)(hn:L.length=n):Fy g F (.sl i 0 n cp op) (.fz 1 false L):=
 .slz i 0 n cp op t L.length _ opn esz 1 L L L hF hg (by omega) (fun j hj=>by rw[Nat.zero_add,get_putN0]) (FyL.same _) (chunk_one h1) hn
theorem FyL.snoc {g:Tr ABlk}{F:Nat→Prop}{f f':Nat→AV}{t t':AV}(ht:Fy g F t t'):∀l:List Nat,(∀k∈l,Fy g F (f k) (f' k))→FyL g F (l.map f++[t]) (l.map f'++[t'])
 |[],_=>.cons _ _ _ _ ht .nil
 |k::l,h=>.cons _ _ _ _ (h k List.mem_cons_self) (FyL.snoc ht l fun j hj=>h j (List.mem_cons_of_mem _ hj))
def repF (k:Nat):AV:=if k=92 then .fz 1 false (encY [92,92]) else if k=34 then .fz 1 false (encY [92,34]) else if k=10 then .fz 1 false (encY [92,110]) else .sl0
def repT:AV:=.fz 1 false [.bs ⟨#[10]⟩,.bs ⟨#[34]⟩,.bs ⟨#[92]⟩]
def repC:List AV:=rpL repF repT
theorem build_c (a:Nat) (d m:Int)(h:Tr ABlk) (nx:Nat)(hg:h.get a=some (rpB d m .nilIface (.fz 1 false (encB six))))(R:AV→Tr ABlk→Nat→Prop)(hR:∀g ny,nx≤ny→(∀k,k<nx→g.get k=h.get k)→R (.iface 242 (.ip repC)) g ny):ACall Tryz.prog cx 90 [.ptr a 0] h nx R:=by
 refine ACall.fryR (ACall_mk (sz:=132) (rs:=[.tmp 2]) cxok ft90 rfl rfl rfl (by simp) ?_)
 obtain⟨R',hR'⟩:∃R':AV→Tr ABlk→Nat→Prop,R'=fun v g ny=>∃(F:Nat→Prop) (v':AV) (g':Tr ABlk),FyH g F g'∧Fy g F v v'∧R v' g' ny:=⟨_,rfl⟩
 rw[← hR']
 unfold rpB at hg
 have w0:IntKind.i64.wrap 0=0:=rfl
 have w1:IntKind.i64.wrap 1=1:=rfl
 have w2:IntKind.i64.wrap 2=2:=rfl
 have w3:IntKind.i64.wrap 3=3:=rfl
 have w4:IntKind.i64.wrap 4=4:=rfl
 have w5:IntKind.i64.wrap 5=5:=rfl
 have w6:IntKind.i64.wrap 6=6:=rfl
 have i3:idx (.int .i64 3)=some 3:=rfl
 have wm:IntKind.i64.wrap (-2)=-2:=rfl
 simp[go_sem,hg,six,encB]
 refine AW_unroll cxok 4 ?_
 simp[go_sem,w0,w1,w2,w3,w4,w5,w6,wm,i3]
 refine AW_unroll cxok 4 ?_
 simp[go_sem,w0,w1,w2,w3,w4,w5,w6,wm,i3,pIface,evIface]
 generalize hM:Tr.put _ (nx+1) _=M
 have mk:∀k,k<nx→M.get k=h.get k:=fun k hk=>by
  have n1:∀j,¬k=nx+j:=fun j=>by omega
  have n0:¬k=nx:=by omega
  rw[← hM]
  simp only[Nat.add_assoc,Tr.get_put,if_neg (n1 _),if_neg n0]
 have m1:M.get (nx+1)=some (bx 241 (rpL (upF (upF (upF (fun _=>.sl0) 10 (.sl (nx+5) 0 2 0 true)) 34 (.sl (nx+9) 0 2 0 true)) 92 (.sl (nx+13) 0 2 0 true)) (.sl (nx+12) 0 3 0 true)) false 0):=by rw[← hM];simp[go_sem]
 have m5:M.get (nx+5)=some (bx 5 (encY [92,110]) true 1):=by rw[← hM];simp[go_sem]
 have m9:M.get (nx+9)=some (bx 5 (encY [92,34]) true 1):=by rw[← hM];simp[go_sem]
 have m12:M.get (nx+12)=some (bx 9 [.bs ⟨#[10]⟩,.bs ⟨#[34]⟩,.bs ⟨#[92]⟩] true 1):=by rw[← hM];simp[go_sem]
 have m13:M.get (nx+13)=some (bx 5 (encY [92,92]) true 1):=by rw[← hM];simp[go_sem]
 rw[hR']
 have hFy:FyL M (fun i=>i∈[nx+1,nx+5,nx+9,nx+12,nx+13]) (rpL (upF (upF (upF (fun _=>.sl0) 10 (.sl (nx+5) 0 2 0 true)) 34 (.sl (nx+9) 0 2 0 true)) 92 (.sl (nx+13) 0 2 0 true)) (.sl (nx+12) 0 3 0 true)) repC:=by
  refine FyL.snoc (Fy.row1 (by simp) m12 rfl rfl) _ fun k _=>?_
  simp only[upF,repF]
  split
  ·exact Fy.row1 (by simp) m13 rfl rfl
  split
  ·exact Fy.row1 (by simp) m9 rfl rfl
  split
  ·exact Fy.row1 (by simp) m5 rfl rfl
  exact .same _
 refine⟨fun i=>i∈[nx+1,nx+5,nx+9,nx+12,nx+13],.iface 242 (.ip repC),killL M [nx+1,nx+5,nx+9,nx+12,nx+13],FyH.kill _,.iface _ _ _ (.pin (nx+1) 0 241 257 _ false 0 _ _ (by simp) (by rw[m1,bx,rpL_len]) (by rw[rpL_len];omega) (fun j hj=>by rw[Nat.zero_add,get_putN0]) hFy),hR _ _ (by omega) fun k hk=>?_⟩
 rw[get_killL,if_neg (by simp;omega)]
 exact mk k hk
theorem buildOnce_c (a:Nat)(h:Tr ABlk) (nx:Nat)(ha:a<nx)(hg:h.get a=some (rpB 0 1 .nilIface (.fz 1 false (encB six))))(R:AV→Tr ABlk→Nat→Prop)(hR:∀g ny,nx≤ny→g.get a=some (rpB 0 1 (.iface 242 (.ip repC)) .sl0)→(∀k,k<nx→k≠a→g.get k=h.get k)→R (.tup []) g ny):ACall Tryz.prog cx 49 [.ptr a 0] h nx R:=by
 refine ACall_mk (sz:=10) (rs:=[]) cxok ft49 rfl rfl rfl (by simp) ?_
 simp[go_sem]
 refine build_c a 0 1 h nx hg _ fun g ny hn hk=>?_
 have ga:=hk a ha
 rw[hg]at ga
 unfold rpB at ga hR
 simp[go_sem,goOn_some,ga,segL]
 refine hR _ _ hn (by simp[go_sem]) fun k k1 k2=>?_
 simp[go_sem,k2]
 exact hk k k1
end
end Go.Ev
