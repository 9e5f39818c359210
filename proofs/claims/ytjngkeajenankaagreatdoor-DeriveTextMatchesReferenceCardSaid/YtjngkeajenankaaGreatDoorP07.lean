/- Texts DR DS DB DA. -/
import Derived.OrdersIn
import Derived.Test.YtjngkeajenankaaGreatDoorP06
set_option linter.unusedSimpArgs false
set_option linter.unusedVariables false
set_option maxRecDepth 100000
namespace Go.Ev
def dir (ops:Array Oper) (i j:Nat):Bool:=((ops[j]?).map (·.after.any fun e=>Region.binds .any e && e.on == i)).getD false
section
variable {P : Program} {F : Fence} {N : Nat} {ops : Array Oper} {Q : Exit → Act → World → Prop}
theorem ready_iff {l:Array Bool}{i:Nat}:i∈Region.ready .any ops l↔i<ops.size∧l.getD i true=false∧∀k,dir ops k i=true→l.getD k false=true:=by
 unfold Region.ready
 rw[List.mem_filter,List.mem_range]
 constructor
 ·rintro⟨h1,h2⟩
  rw[Bool.and_eq_true]at h2
  refine⟨h1,by simpa using h2.1,fun k hk=>?_⟩
  have ho:ops[i]?=some ops[i]:=Array.getElem?_eq_getElem h1
  have h3:=h2.2
  rw[ho]at h3
  simp only[Option.map_some,Option.getD_some,Array.all_eq_true']at h3
  unfold dir at hk
  rw[ho]at hk
  simp only[Option.map_some,Option.getD_some,Array.any_eq_true']at hk
  obtain⟨e,he,hb⟩:=hk
  rw[Bool.and_eq_true]at hb
  have:=h3 e he
  rw[hb.1]at this
  simp only[Bool.not_true,Bool.false_or]at this
  have hk':e.on=k:=by simpa using hb.2
  rw[← hk']
  exact this
 ·rintro⟨h1,h2,h3⟩
  refine⟨h1,?_⟩
  have ho:ops[i]?=some ops[i]:=Array.getElem?_eq_getElem h1
  rw[Bool.and_eq_true]
  refine⟨by simpa using h2,?_⟩
  rw[ho]
  simp only[Option.map_some,Option.getD_some,Array.all_eq_true']
  intro e he
  by_cases hb:Region.binds .any e=true
  ·rw[hb]
   simp only[Bool.not_true,Bool.false_or]
   refine h3 e.on ?_
   unfold dir
   rw[ho]
   simp only[Option.map_some,Option.getD_some,Array.any_eq_true']
   exact⟨e,he,by simp[hb]⟩
  ·simp[hb]
def Closed (ops:Array Oper)(l:Array Bool):Prop:=∀j,l.getD j false=true→∀k,dir ops k j=true→l.getD k false=true
theorem getD_set {l:Array Bool}{i j:Nat}{d:Bool}(hi:i<l.size):(l.setIfInBounds i true).getD j d=if j=i then true else l.getD j d:=by
 simp only[Array.getD_eq_getD_getElem?,Array.getElem?_setIfInBounds]
 by_cases h:i=j
 ·subst h;simp[hi]
 ·have h':¬j=i:=fun e=>h e.symm
  simp[h,h']
theorem wpAnyIn_inv (I:Array Bool→Act→World→Prop)
  (step:∀l a w i,l.size=ops.size→I l a w→i∈Region.ready .any ops l→wpOpIn F N P ops Q i (I (l.setIfInBounds i true)) a w)
  (done:∀l a w,l.size=ops.size→I l a w→Region.ready .any ops l=[]→Q .normal a w):
  ∀(fuel:Nat) (l:Array Bool) (a:Act) (w:World),l.size=ops.size→(l.toList.count false≤fuel)→I l a w→wpAnyIn F N P .any ops Q fuel l a w:=by
 intro fuel
 induction fuel with
 |zero=>
  intro l a w hs hf hI
  have hr:Region.ready .any ops l=[]:=by
   rw[List.eq_nil_iff_forall_not_mem]
   intro i hi
   obtain⟨h1,h2,_⟩:=ready_iff.1 hi
   have hlt:i<l.size:=by omega
   have hf':l[i]=false:=by simpa[Array.getD,hlt]using h2
   have hm:false∈l.toList:=by rw[← hf'];simp
   have:=List.count_pos_iff.2 hm
   omega
  exact⟨hr,done l a w hs hI hr⟩
 |succ fuel ih=>
  intro l a w hs hf hI
  refine⟨fun hr=>done l a w hs hI hr,fun i hi=>?_⟩
  refine wpOpIn_mono (fun a' w' hI'=>ih _ a' w' (by simpa using hs) ?_ hI') (step l a w i hs hI hi)
  obtain⟨h1,h2,_⟩:=ready_iff.1 hi
  have hlt:i<l.size:=by omega
  have hf':l[i]=false:=by simpa[Array.getD,hlt]using h2
  have:(l.setIfInBounds i true).toList.count false+1=l.toList.count false:=by
   rw[Array.toList_setIfInBounds]
   rw[List.count_set (by simpa using hlt)]
   have e:l.toList[i]'(by simpa using hlt)=false:=by simpa using hf'
   have hpos:0<l.toList.count false:=List.count_pos_iff.2 (by rw[← e];exact List.getElem_mem _)
   rw[e]
   simp only[beq_self_eq_true,if_true]
   have e2:(true == false)=false:=rfl
   rw[e2]
   simp only[Bool.false_eq_true,if_false]
   omega
  omega
theorem all_listed {l:Array Bool}(hb:∀i,i<ops.size→∀k,dir ops k i=true→k<i)(hr:Region.ready .any ops l=[])(hs:l.size=ops.size):∀i,i<ops.size→l.getD i false=true:=by
 intro i
 induction i using Nat.strongRecOn with
 |_ i ih=>
  intro hi
  cases hl:l.getD i false with
  |true=>rfl
  |false=>
   have hlt:i<l.size:=by omega
   have:i∈Region.ready .any ops l:=ready_iff.2 ⟨hi,by simpa[Array.getD,hlt]using hl,fun k hk=>ih k (hb i hi k hk) (by have:=hb i hi k hk;omega)⟩
   rw[hr]at this
   cases this
end
noncomputable section
variable {P : Program} {c : Cx} {σ τ υ : Sg} {h g f : Tr ABlk} {nx ny nz sz : Nat} {ds : List DE} {w x y : World} {tm tm' : Tr AV} {a : Act}
def looks (ops:List Oper)(o:Oper):List Tmp:=
 (o.op.operands.toList.filterMap fun |.tmp t=>some t |_=>none)++(match o.guard with
  |none=>[]
  |some (j,_)=>match ops[j]? with
   |some oj=>oj.dst.toList
   |none=>[])
def rst (l:List Tmp)(tm:Tr AV):Tr AV:=match l with
 |[]=>.nil
 |t::l=>(rst l tm).put t (tm.get t)
theorem rst_get:∀(l:List Tmp)(tm:Tr AV)(t:Tmp),(rst l tm).get t=if t∈l then tm.get t else none
 |[],tm,t=>by simp[rst];rfl
 |u::l,tm,t=>by
  rw[rst,Tr.get_put,rst_get l tm t]
  by_cases h1:t=u
  ·subst h1;simp
  ·simp[h1]
theorem rst_congr:∀{l:List Tmp},(∀t∈l,tm.get t=tm'.get t)→rst l tm=rst l tm'
 |[],_=>rfl
 |u::l,h=>by
  rw[rst,rst,h u (by simp),rst_congr fun t ht=>h t (by simp[ht])]
def OpY (P:Program)(c:Cx)(r:Option Nat)(ops:Array Oper)(o:Oper)(v:AV)(tm:Tr AV)(h:Tr ABlk) (nx:Nat)(g:Tr ABlk) (ny:Nat):Prop:=
 ∀(σ:Sg) (a:Act) (w:World),Ok c.G σ h nx w→TmOk σ tm a→∀(Q:Exit→Act→World→Prop) (K:Act→World→Prop),(∀τ x V,Rel τ v V→Post c.G σ h nx w τ g ny x→K (a.put o.dst V) x)→
  if Region.wanted o (yielded ops a.tmps) then o.wpIn (fence r) 0 P a w K Q else (∀f,o.about P w a.eval=some f→(fence r).fn f)∧K (a.put o.dst undef) w
def TL (ops:Array Oper)(v:Nat→AV)(tm:Tr AV)(l:Nat→Bool):Nat→Tr AV
 |0=>tm
 |i+1=>match l i with
  |false=>TL ops v tm l i
  |true=>match (ops[i]?).bind (·.dst) with
   |none=>TL ops v tm l i
   |some d=>(TL ops v tm l i).put d (some (v i))
theorem TL_get_skip {ops:Array Oper}{v:Nat→AV}{l:Nat→Bool}{i:Nat}{t:Tmp}(h1:l i=true→(ops[i]?).bind (·.dst)≠some t):(TL ops v tm l (i+1)).get t=(TL ops v tm l i).get t:=by
 rw[TL]
 cases hl:l i with
 |false=>rfl
 |true=>
  simp only
  cases hd:(ops[i]?).bind (·.dst) with
  |none=>rfl
  |some d=>
   simp only
   rw[Tr.get_put,if_neg fun e=>h1 hl (by rw[hd,e])]
theorem TL_get_put {ops:Array Oper}{v:Nat→AV}{l:Nat→Bool}{i:Nat}{t:Tmp}(hl:l i=true)(hd:(ops[i]?).bind (·.dst)=some t):(TL ops v tm l (i+1)).get t=some (v i):=by
 rw[TL,hl]
 simp only
 rw[hd]
 simp only
 rw[Tr.get_put,if_pos rfl]
theorem TL_same {ops:Array Oper}{v:Nat→AV}{l k:Nat→Bool}{t:Tmp}:∀(n:Nat),(∀j,j<n→(ops[j]?).bind (·.dst)=some t→l j=k j)→(TL ops v tm l n).get t=(TL ops v tm k n).get t
 |0,_=>rfl
 |n+1,hs=>by
  have ih:=TL_same (v:=v) (l:=l) (k:=k) (t:=t) n fun j hj hd=>hs j (by omega) hd
  by_cases hd:(ops[n]?).bind (·.dst)=some t
  ·have e:=hs n (by omega) hd
   cases hl:l n with
   |true=>
    rw[hl]at e
    rw[TL_get_put hl hd,TL_get_put e.symm hd]
   |false=>
    rw[hl]at e
    rw[TL_get_skip (by rw[hl];intro h;cases h),TL_get_skip (by rw[← e];intro h;cases h),ih]
  ·rw[TL_get_skip fun _=>hd,TL_get_skip fun _=>hd,ih]
theorem TL_stay {ops:Array Oper}{v:Nat→AV}{l:Nat→Bool}{t:Tmp}(m:Nat):∀(n:Nat),(∀j,m≤j→j<m+n→(ops[j]?).bind (·.dst)=some t→l j=false)→(TL ops v tm l (m+n)).get t=(TL ops v tm l m).get t
 |0,_=>rfl
 |n+1,hs=>by
  rw[show m+(n+1)=m+n+1 by omega,TL_get_skip,TL_stay m n fun j h1 h2 h3=>hs j h1 (by omega) h3]
  intro hl hd
  rw[hs (m+n) (by omega) (by omega) hd]at hl
  cases hl
structure Dr (P:Program)(c:Cx)(r:Option Nat) (sz:Nat)(ops:Array Oper)(S:Nat→Tr AV×Tr ABlk×Nat)(v:Nat→AV)(W:Nat→Bool)(bef:Nat→Nat→Bool):Prop where
 back:∀i,i<ops.size→∀k,dir ops k i=true→k<i
 befOk:∀i j,bef i j=true→∀l:Array Bool,Closed ops l→(∀k,dir ops k j=true→l.getD k false=true)→l.getD i false=true
 tmps:∀i j o p d,ops[i]?=some o→ops[j]?=some p→i≠j→p.dst=some d→(d∈looks ops.toList o∨o.dst=some d)→(j<i→bef j i=true)∧(i<j→bef i j=true)
 chain:∀i j,i<j→j<ops.size→W i=true→W j=true→bef i j=true
 step:∀i o,ops[i]?=some o→OpY P c r ops o (v i) (rst (looks ops.toList o) (S i).1) (S i).2.1 (S i).2.2 (S (i+1)).2.1 (S (i+1)).2.2∧(∀d,o.dst=some d→d<sz)∧(S (i+1)).1=(match o.dst with |none=>(S i).1 |some d=>(S i).1.put d (some (v i)))
 keep:∀i,i<ops.size→W i=false→(S (i+1)).2=(S i).2
 dyn:∀i o,ops[i]?=some o→W i=false→∀p,p≤ops.size→(p=0∨W (p-1)=true)→(∀j,j<ops.size→W j=true→(bef j i=true→j<p)∧(bef i j=true→p≤j))→
  OpY P c r ops o (v i) (rst (looks ops.toList o) (S i).1) (S p).2.1 (S p).2.2 (S p).2.1 (S p).2.2
section
variable {r : Option Nat} {ops : Array Oper} {S : Nat → Tr AV × Tr ABlk × Nat} {v : Nat → AV} {W : Nat → Bool} {bef : Nat → Nat → Bool}
theorem Dr.same (R:Dr P c r sz ops S v W bef) (p:Nat):∀(n:Nat),p+n≤ops.size→(∀j,p≤j→j<p+n→W j=false)→(S p).2=(S (p+n)).2
 |0,_,_=>rfl
 |n+1,hn,hw=>by
  rw[show p+(n+1)=p+n+1 by omega,R.keep (p+n) (by omega) (hw _ (by omega) (by omega))]
  exact R.same p n (by omega) fun j h1 h2=>hw j h1 (by omega)
theorem Dr.text (R:Dr P c r sz ops S v W bef):∀(i:Nat),i≤ops.size→∀t,(S i).1.get t=(TL ops v (S 0).1 (fun _=>true) i).get t
 |0,_,t=>rfl
 |i+1,hi,t=>by
  have e2:ops[i]?=some ops[i]:=Array.getElem?_eq_getElem (by omega)
  obtain⟨_,_,e5⟩:=R.step i _ e2
  have ih:=R.text i (by omega) t
  rw[e5]
  by_cases hd:(ops[i]).dst=some t
  ·rw[TL_get_put rfl (by rw[e2];exact hd),hd]
   simp only
   rw[Tr.get_put,if_pos rfl]
  ·rw[TL_get_skip fun _=>by rw[e2];exact hd,← ih]
   cases hd2:(ops[i]).dst with
   |none=>rfl
   |some d=>
    simp only
    rw[Tr.get_put,if_neg fun e=>hd (by rw[hd2,e])]
def lf (l:Array Bool) (i:Nat):Bool:=l.getD i false
structure DInv (c:Cx) (sz:Nat)(ops:Array Oper)(S:Nat→Tr AV×Tr ABlk×Nat)(v:Nat→AV)(W:Nat→Bool)(σ0:Sg)(w0:World)(D0:List Deferred)(l:Array Bool)(a:Act)(w:World):Prop where
 closed:Closed ops l
 inn:∀i,l.getD i false=true→i<ops.size
 pos:∃p σ,p≤ops.size∧(p=0∨W (p-1)=true)∧(∀j,j<ops.size→W j=true→(l.getD j false=true↔j<p))∧
  Post c.G σ0 (S 0).2.1 (S 0).2.2 w0 σ (S p).2.1 (S p).2.2 w∧TmOk σ (TL ops v (S 0).1 (lf l) ops.size) a
 size:a.tmps.size=sz
 defers:a.defers=D0
theorem Dr.stepI (R:Dr P c r sz ops S v W bef){D0:List Deferred}{QQ:Exit→Act→World→Prop}{l:Array Bool}{a1:Act}{w1:World}{i:Nat}(hs:l.size=ops.size)(I:DInv c sz ops S v W σ w D0 l a1 w1)(hin:i<ops.size)(hnl:l.getD i false=false)(hdeps:∀k,dir ops k i=true→l.getD k false=true):
  wpOpIn (fence r) 0 P ops QQ i (DInv c sz ops S v W σ w D0 (l.setIfInBounds i true)) a1 w1:=by
 obtain⟨o,e2⟩:∃o,ops[i]?=some o:=⟨_,Array.getElem?_eq_getElem hin⟩
 obtain⟨e3,e4,e5⟩:=R.step i o e2
 obtain⟨p,τ,hp,hp0,hpos,hpost,htm⟩:=I.pos
 have hbefore:∀j,bef j i=true→l.getD j false=true:=fun j hj=>R.befOk j i hj l I.closed hdeps
 have hbehind:∀j,bef i j=true→l.getD j false=false:=by
  intro j hj
  cases hl:l.getD j false with
  |false=>rfl
  |true=>
   have:=R.befOk i j hj l I.closed fun k hk'=>I.closed j hl k hk'
   rw[hnl]at this
   cases this
 have hdstj:∀(j:Nat) (t:Tmp),(ops[j]?).bind (fun q:Oper=>q.dst)=some t→∃p:Oper,ops[j]?=some p∧p.dst=some t:=by
  intro j t hj
  cases hoj:ops[j]? with
  |none=>rw[hoj]at hj;cases hj
  |some q=>rw[hoj]at hj;exact⟨q,rfl,hj⟩
 have hsee:∀t∈looks ops.toList o,(S i).1.get t=(TL ops v (S 0).1 (lf l) ops.size).get t:=by
  intro t ht
  rw[R.text i (by omega) t]
  have q1:=TL_stay (tm:=(S 0).1) (ops:=ops) (v:=v) (l:=lf l) (t:=t) i (ops.size-i) fun j hj1 hj2 hj3=>by
   obtain⟨q,hq1,hq2⟩:=hdstj j t hj3
   by_cases hji:j=i
   ·subst hji;exact hnl
   ·exact hbehind j ((R.tmps i j o q t e2 hq1 (fun e=>hji e.symm) hq2 (.inl ht)).2 (by omega))
  rw[show i+(ops.size-i)=ops.size by omega]at q1
  rw[q1]
  refine TL_same i fun j hj hj3=>?_
  obtain⟨q,hq1,hq2⟩:=hdstj j t hj3
  exact(hbefore j ((R.tmps i j o q t e2 hq1 (by omega) hq2 (.inl ht)).1 hj)).symm
 have htm0:TmOk τ (rst (looks ops.toList o) (S i).1) a1:=by
  rw[rst_congr hsee]
  intro t u hu
  rw[rst_get]at hu
  split at hu
  ·exact htm t u hu
  ·cases hu
 have hiL:i<l.size:=by omega
 have hset:∀j,(l.setIfInBounds i true).getD j false=if j=i then true else l.getD j false:=fun j=>getD_set hiL
 have hclosed:Closed ops (l.setIfInBounds i true):=by
  intro j hj k hk'
  rw[hset]at hj ⊢
  by_cases hki:k=i
  ·rw[if_pos hki]
  ·rw[if_neg hki]
   by_cases hji:j=i
   ·subst hji;exact hdeps k hk'
   ·rw[if_neg hji]at hj
    exact I.closed j hj k hk'
 have hinn:∀j,(l.setIfInBounds i true).getD j false=true→j<ops.size:=by
  intro j hj
  rw[hset]at hj
  by_cases hji:j=i
  ·omega
  ·rw[if_neg hji]at hj;exact I.inn j hj
 have hput:∀(υ:Sg) (V:Value),τ.Le υ→Rel υ (v i) V→TmOk υ (TL ops v (S 0).1 (lf (l.setIfInBounds i true)) ops.size) (a1.put o.dst V):=by
  intro υ V hle hV t u hu
  have hne:∀t,o.dst≠some t→(TL ops v (S 0).1 (lf (l.setIfInBounds i true)) ops.size).get t=(TL ops v (S 0).1 (lf l) ops.size).get t:=by
   intro t hd
   refine TL_same ops.size fun j hj hj3=>?_
   show (l.setIfInBounds i true).getD j false=l.getD j false
   rw[hset]
   by_cases hji:j=i
   ·subst hji
    rw[e2]at hj3
    exact absurd hj3 hd
   ·rw[if_neg hji]
  cases hd:o.dst with
  |none=>
   rw[hne t (by rw[hd];intro e;cases e)]at hu
   exact(htm t u hu).mono hle
  |some d=>
   have hds:d<a1.tmps.size:=by rw[I.size];exact e4 d hd
   by_cases htd:t=d
   ·subst htd
    have q1:=TL_stay (tm:=(S 0).1) (ops:=ops) (v:=v) (l:=lf (l.setIfInBounds i true)) (t:=t) (i+1) (ops.size-(i+1)) fun j hj1 hj2 hj3=>by
     obtain⟨q,hq1,hq2⟩:=hdstj j t hj3
     show (l.setIfInBounds i true).getD j false=false
     rw[hset,if_neg (by omega)]
     exact hbehind j ((R.tmps i j o q t e2 hq1 (by omega) hq2 (.inr hd)).2 (by omega))
    rw[show i+1+(ops.size-(i+1))=ops.size by omega]at q1
    rw[q1,TL_get_put (show (l.setIfInBounds i true).getD i false=true by rw[hset,if_pos rfl]) (by rw[e2];exact hd)]at hu
    cases hu
    simpa[Act.put,Array.getD_eq_getD_getElem?,hds]using hV
   ·rw[hne t (by rw[hd];intro e;cases e;exact htd rfl)]at hu
    have:=(htm t u hu).mono hle
    simpa[Act.put,Array.getD_eq_getD_getElem?,Array.getElem?_setIfInBounds,Ne.symm htd]using this
 have hsz:∀V:Value,(a1.put o.dst V).tmps.size=sz:=by
  intro V
  cases hd:o.dst with
  |none=>exact I.size
  |some d=>simpa[Act.put]using I.size
 have hdf:∀V:Value,(a1.put o.dst V).defers=D0:=by
  intro V
  cases hd:o.dst with
  |none=>exact I.defers
  |some d=>exact I.defers
 have fin:∀(p':Nat),OpY P c r ops o (v i) (rst (looks ops.toList o) (S i).1) (S p).2.1 (S p).2.2 (S p').2.1 (S p').2.2→
   (p'≤ops.size∧(p'=0∨W (p'-1)=true)∧(∀j,j<ops.size→W j=true→((l.setIfInBounds i true).getD j false=true↔j<p')))→
   wpOpIn (fence r) 0 P ops QQ i (DInv c sz ops S v W σ w D0 (l.setIfInBounds i true)) a1 w1:=by
  intro p' hop hp'
  obtain⟨a1',a2',a3'⟩:=hp'
  unfold wpOpIn
  rw[e2]
  exact hop τ a1 w1 hpost.ok htm0 QQ (DInv c sz ops S v W σ w D0 (l.setIfInBounds i true)) (fun υ x V hV hP=>
   ⟨hclosed,hinn,⟨p',υ,a1',a2',a3',hpost.trans hP,hput υ V hP.le hV⟩,hsz V,hdf V⟩)
 cases hW:W i with
 |false=>
  have hvalid:∀j,j<ops.size→W j=true→(bef j i=true→j<p)∧(bef i j=true→p≤j):=by
   intro j hj hw
   refine⟨fun hb=>(hpos j hj hw).1 (hbefore j hb),fun hb=>?_⟩
   have:=hbehind j hb
   rcases Nat.lt_or_ge j p with h5 |h5
   ·rw[(hpos j hj hw).2 h5]at this;cases this
   ·exact h5
  refine fin p (R.dyn i o e2 hW p hp hp0 hvalid) ⟨hp,hp0,fun j hj hw=>?_⟩
  rw[hset]
  by_cases hji:j=i
  ·subst hji
   rw[hW]at hw
   cases hw
  ·rw[if_neg hji]
   exact hpos j hj hw
 |true=>
  have hni:¬i<p:=fun hh=>by
   have:=(hpos i hin hW).2 hh
   rw[hnl]at this
   cases this
  have hnoW:∀j,p≤j→j<p+(i-p)→W j=false:=by
   intro j h5 h6
   cases hw:W j with
   |false=>rfl
   |true=>
    have:=(hpos j (by omega) hw).1 (hbefore j (R.chain j i (by omega) hin hw hW))
    omega
  have hsame:=R.same p (i-p) (by omega) hnoW
  rw[Nat.add_sub_cancel' (by omega)]at hsame
  have hop:OpY P c r ops o (v i) (rst (looks ops.toList o) (S i).1) (S p).2.1 (S p).2.2 (S (i+1)).2.1 (S (i+1)).2.2:=by
   rw[hsame]
   exact e3
  refine fin (i+1) hop ⟨by omega,.inr hW,fun j hj hw=>?_⟩
  rw[hset]
  by_cases hji:j=i
  ·subst hji;simp
  ·rw[if_neg hji]
   constructor
   ·intro hl
    rcases Nat.lt_or_ge j i with h5 |h5
    ·omega
    ·have:=hbehind j (R.chain i j (by omega) hj hW hw)
     rw[hl]at this
     cases this
   ·intro h5
    exact hbefore j (R.chain j i (by omega) hin hw hW)
theorem drawn_ok (hm:P.follows .mixedOrders=true)(R:Dr P c r sz ops S v W bef)(hk:Ok c.G σ (S 0).2.1 (S 0).2.2 w)(st:St σ (S 0).1 a sz ds) (id:Nat){Q:AX→AS→Prop}(hQ0:Q .norm (.mk (S ops.size).1 (S ops.size).2.1 (S ops.size).2.2 ds)):
  (Code.region id ops true).wpIn (fence r) 0 P (AQ c.G σ (S 0).2.1 (S 0).2.2 w sz Q) a w:=by
 refine wpIn_region_any hm ?_
 have hd0:=Post.drawn hk (w.drawn+1)
 generalize hQ:AQ c.G σ (S 0).2.1 (S 0).2.2 w sz Q=QQ
 have hrep:∀i,(Array.replicate ops.size false).getD i false=false:=by
  intro i
  simp only[Array.getD_eq_getD_getElem?,Array.getElem?_replicate]
  split <;> rfl
 have hwf:∀(l:Array Bool) (i:Nat),l.size=ops.size→i∈Region.ready .any ops l→i<ops.size∧l.getD i false=false∧∀k,dir ops k i=true→l.getD k false=true:=by
  intro l i hs hi
  obtain⟨h1,h2,h3⟩:=ready_iff.1 hi
  have hlt:i<l.size:=by omega
  exact⟨h1,by simpa[Array.getD,hlt]using h2,h3⟩
 refine wpAnyIn_inv (DInv c sz ops S v W σ w a.defers) ?step ?done ops.size _ a _ (by simp) ?count ?init
 case count=>
  simp
 case init=>
  refine⟨(fun j hj=>by rw[hrep]at hj;cases hj),(fun i hi=>by rw[hrep]at hi;cases hi),⟨0,σ,by omega,.inl rfl,(fun j _ _=>⟨(fun e=>by rw[hrep]at e;cases e),(fun e=>by omega)⟩),hd0,?_⟩,st.size,rfl⟩
  intro t u e
  have:(TL ops v (S 0).1 (lf (Array.replicate ops.size false)) ops.size).get t=(S 0).1.get t:=by
   have:=TL_stay (tm:=(S 0).1) (ops:=ops) (v:=v) (l:=lf (Array.replicate ops.size false)) (t:=t) 0 ops.size fun j _ _ _=>hrep j
   rw[Nat.zero_add]at this
   exact this
  rw[this]at e
  exact st.tm t u e
 case done=>
  intro l a1 w1 hs I hr
  have hall:=all_listed R.back hr hs
  obtain⟨p,τ,hp,hp0,hpos,hpost,htm⟩:=I.pos
  have hnoW:∀j,p≤j→j<p+(ops.size-p)→W j=false:=by
   intro j h1 h2
   cases hw:W j with
   |false=>rfl
   |true=>
    have:=(hpos j (by omega) hw).1 (hall j (by omega))
    omega
  have hsame:=R.same p (ops.size-p) (by omega) hnoW
  rw[Nat.add_sub_cancel' hp]at hsame
  rw[← hQ]
  refine⟨.norm,_,_,_,ds,τ,rfl,?_,⟨?_,I.size,?_⟩,hQ0⟩
  ·rw[hsame]at hpost
   exact hpost
  ·intro t u e
   refine htm t u ?_
   rw[R.text ops.size (Nat.le_refl _) t]at e
   rw[← e]
   exact TL_same ops.size fun j hj _=>hall j hj
  ·rw[I.defers];exact st.defers.mono hpost.le
 case step=>
  intro l a1 w1 i hs I hi
  obtain⟨hin,hnl,hdeps⟩:=hwf l i hs hi
  exact R.stepI hs I hin hnl hdeps
end
end
end Go.Ev
namespace Go.Ev
noncomputable section
variable {P : Program} {c : Cx} {tm tm' : Tr AV} {h h' : Tr ABlk} {nx nx' : Nat}
def R.rem (h:Tr ABlk) (nx:Nat):R→R
 |.val v _ _=>.val v h nx
 |.unit _ _=>.fail
 |.fail=>.fail
theorem rem_bR {α:Type}(o:Option α)(k k':α→R)(hk:∀a,k' a=(k a).rem h nx):bR o k'=(bR o k).rem h nx:=by
 cases o with
 |none=>rfl
 |some a=>exact hk a
theorem rem_vBool (b:Bool):vBool b h' nx'=(vBool b h nx).rem h' nx':=by cases b <;> rfl
theorem rem_vInt (n:Nat):vInt n h' nx'=(vInt n h nx).rem h' nx':=by simp only[vInt,fN_eq];rfl
theorem rem_int (op:BinOp)(k:IntKind) (a b:Int):evInt op k a b h' nx'=(evInt op k a b h nx).rem h' nx':=by
 unfold evInt
 simp only[fI_eq]
 cases op <;> first |rfl |(repeat' split) <;> rfl
theorem rem_shift (op:BinOp)(k:IntKind) (a b:Int):evShift op k a b h' nx'=(evShift op k a b h nx).rem h' nx':=by
 unfold evShift
 simp only[fI_eq,fN_eq]
 repeat' split
 all_goals rfl
theorem rem_str (op:BinOp) (l n k m:Nat):evStr op l n k m h' nx'=(evStr op l n k m h nx).rem h' nx':=by
 unfold evStr
 simp only[fN_eq]
 repeat' split
 all_goals rfl
theorem rem_strB (op:BinOp)(a b:ByteArray):evStrB op a b h' nx'=(evStrB op a b h nx).rem h' nx':=by
 unfold evStrB
 repeat' split
 all_goals rfl
theorem rem_eq (ti:TI)(eqs:Option (List (Nat×TypeDesc)))(b:Bool)(op:BinOp)(x y:AV):evEq ti eqs b op x y h' nx'=(evEq ti eqs b op x y h nx).rem h' nx':=by
 unfold evEq
 repeat' split
 all_goals first |exact rem_vBool _ |rfl
theorem rem_bin (ti:TI)(eqs:Option (List (Nat×TypeDesc)))(b:Bool)(op:BinOp)(x y:AV):evBin ti eqs b op x y h' nx'=(evBin ti eqs b op x y h nx).rem h' nx':=by
 unfold evBin
 repeat' split
 all_goals first |exact rem_shift _ _ _ _ |exact rem_int _ _ _ _ |exact rem_str _ _ _ _ _ |exact rem_strB _ _ _ |exact rem_eq _ _ _ _ _ _ |rfl
theorem rem_un (op:UnOp)(x:AV):evUn op x h' nx'=(evUn op x h nx).rem h' nx':=by
 unfold evUn
 simp only[fI_eq]
 repeat' split
 all_goals rfl
theorem rem_iface (ti:TI)(t:TypeId)(x:AV):evIface ti t x h' nx'=(evIface ti t x h nx).rem h' nx':=by
 unfold evIface
 repeat' split
 all_goals rfl
theorem rem_fieldAddr (ti:TI)(a:AV) (k:Nat):evFieldAddr ti a k h' nx'=(evFieldAddr ti a k h nx).rem h' nx':=by
 unfold evFieldAddr
 simp only[fN_eq]
 repeat' split
 all_goals rfl
theorem rem_field (ti:TI)(a:AV) (k:Nat):evField ti a k h' nx'=(evField ti a k h nx).rem h' nx':=by
 unfold evField
 repeat' split
 all_goals rfl
theorem rem_indexAddr (ti:TI)(a b:AV):evIndexAddr ti a b h' nx'=(evIndexAddr ti a b h nx).rem h' nx':=by
 unfold evIndexAddr
 simp only[fN_eq]
 repeat' split
 all_goals rfl
theorem rem_index (ti:TI)(a b:AV):evIndex ti a b h' nx'=(evIndex ti a b h nx).rem h' nx':=by
 unfold evIndex
 simp only[fN_eq]
 repeat' split
 all_goals rfl
theorem rem_extract (a:AV) (k:Nat):evExtract a k h' nx'=(evExtract a k h nx).rem h' nx':=by
 unfold evExtract
 repeat' split
 all_goals rfl
theorem rem_slice (ti:TI)(a:AV)(lo hi mx:Option AV):evSlice ti a lo hi mx h' nx'=(evSlice ti a lo hi mx h nx).rem h' nx':=by
 unfold evSlice
 simp only[fN_eq]
 repeat' split
 all_goals rfl
theorem rem_ta (ti:TI)(t:TypeId)(ok:Bool)(a:AV):evTA ti t ok a h' nx'=(evTA ti t ok a h nx).rem h' nx':=by
 unfold evTA
 repeat' split
 all_goals rfl
theorem rem_lookRes (ok:Bool)(z:AV)(r:Option (Nat×AV)):lookRes ok z r h' nx'=(lookRes ok z r h nx).rem h' nx':=by
 unfold lookRes
 repeat' split
 all_goals rfl
theorem rem_build (ti:TI)(ps:List (Nat×AV)):evBuild ti ps h' nx'=(evBuild ti ps h nx).rem h' nx':=by
 unfold evBuild
 repeat' split
 all_goals rfl
theorem rem_cap (ti:TI)(a:AV):evCap ti a h' nx'=(evCap ti a h nx).rem h' nx':=by
 unfold evCap
 repeat' split
 all_goals first |exact rem_vInt _ |rfl
theorem rem_mm (b:Bool)(l:List AV):evMM b l h' nx'=(evMM b l h nx).rem h' nx':=by
 unfold evMM
 repeat' split
 all_goals rfl
def nameOf:AV→Option Nat
 |.ptr k _=>some k
 |.map k=>some k
 |.sl k _ _ _ _=>some k
 |_=>none
def keepsN (v:Option AV)(h h':Tr ABlk):Prop:=match v with
 |some v=>match nameOf v with
  |some k=>h'.get k=h.get k
  |none=>True
 |none=>True
theorem rem_load (ti:TI)(a:AV)(hk:keepsN (some a) h h'):evLoad ti a h' nx'=(evLoad ti a h nx).rem h' nx':=by
 cases ti with
 |mk d size b z fs=>
 cases a <;> try rfl
 ·rename_i i o
  have e:h'.get i=h.get i:=hk
  unfold evLoad
  simp only[e]
  repeat' split
  all_goals rfl
 ·rename_i cs
  simp only[evLoad]
  cases isA d with
  |true=>simp only;split <;> rfl
  |false=>cases cs <;> rfl
theorem rem_lookup (ti:TI)(tk te:Option TI)(kt et:TypeId)(ok:Bool)(m k:AV)(hk:keepsN (some m) h h'):evLookup ti tk te kt et ok m k h' nx'=(evLookup ti tk te kt et ok m k h nx).rem h' nx':=by
 unfold evLookup
 cases m
 case map i=>
  have e:h'.get i=h.get i:=hk
  simp only[e]
  repeat' split
  all_goals first |exact rem_lookRes _ _ _ |rfl
 all_goals
  simp only
  repeat' split
  all_goals first |exact rem_lookRes _ _ _ |rfl
theorem rem_len (ti:TI)(a:AV)(hk:keepsN (some a) h h'):evLen ti a h' nx'=(evLen ti a h nx).rem h' nx':=by
 cases ti with
 |mk d size b z fs=>
 cases d <;> try rfl
 ·cases a <;> first |rfl |exact rem_vInt _
 ·cases a <;> first |rfl |exact rem_vInt _
 ·exact rem_vInt _
 ·cases a <;> try first |rfl |exact rem_vInt _
  rename_i i
  have e:h'.get i=h.get i:=hk
  unfold evLen
  simp only[e]
  repeat' split
  all_goals first |exact rem_vInt _ |rfl
theorem rem_convS (ts td:TI)(te:Option TI)(et:TypeId)(v:AV)(hs:∀e s b z f,td≠.mk (.slice e) s b z f)(hk:keepsN (some v) h h'):evConvS ts td te et v h' nx'=(evConvS ts td te et v h nx).rem h' nx':=by
 cases ts with
 |mk ds s1 s2 s3 s4=>
 cases td with
 |mk dd d1 d2 d3 d4=>
 cases dd <;> try rfl
 ·cases v <;> rfl
 ·cases v <;> try rfl
  ·unfold evConvS
   simp only
   repeat' split
   all_goals rfl
  ·rename_i i o l cp opn
   have e:h'.get i=h.get i:=hk
   unfold evConvS
   simp only[e]
   repeat' split
   all_goals rfl
 ·exact absurd rfl (hs _ _ _ _ _)
def fpO (op:Op):Option Operand:=match op with
 |.load _ x=>some x
 |.lookup _ m _ _=>some m
 |.convert _ _ x=>some x
 |.call cl=>cl.args.toList.head?
 |_=>none
def isSl:Option TI→Bool
 |some (.mk (.slice _) _ _ _ _)=>true
 |some (.mk .unsafePointer _ _ _ _)=>true
 |_=>false
def isWS (c:Cx)(op:Op):Bool:=
 match op with
 |.move _=>false |.assign _=>false |.pick _ _ _=>false |.build _ _=>false |.load _ _=>false |.nilCheck _=>false |.binOp _ _ _ _ _=>false |.unOp _ _ _=>false
 |.convert s d _=>isSl (c.tt.get d) || isSl (c.tt.get s)
 |.makeInterface _ _=>false |.makeFunc _ _ _=>false |.slice _ _ _ _ _=>false |.fieldAddr _ _ _=>false |.field _ _ _=>false |.indexAddr _ _ _=>false |.index _ _ _=>false
 |.lookup _ _ _ _=>false |.typeAssert _ _ _ _=>false |.extract _ _=>false
 |.call cl=>match cl.callee with
  |.builtin .len=>false
  |.builtin .cap=>false
  |.builtin .max=>false
  |.builtin .min=>false
  |_=>true
 |_=>true
theorem rem_plainS (hG:c.G.sym=true)(op:Op)(hw:isWS c op=false)(hk:keepsN ((fpO op).bind (evO c.G tm)) h h'):evPlainS c op tm h' nx'=(evPlainS c op tm h nx).rem h' nx':=by
 have hk1:∀x a,(fpO op).bind (evO c.G tm)=evO c.G tm x→evO c.G tm x=some a→keepsN (some a) h h':=fun x a e1 e2=>by rw[e1,e2]at hk;exact hk
 have bRe:∀{α:Type} (o:Option α) (k k':α→R),(∀a,o=some a→k' a=(k a).rem h' nx')→bR o k'=(bR o k).rem h' nx':=by
  intro α o k k' hh
  cases o with
  |none=>rfl
  |some a=>exact hh a rfl
 cases op <;> try (cases hw;done)
 ·exact bRe _ _ _ fun _ _=>rfl
 ·exact bRe _ _ _ fun _ _=>rfl
 ·refine bRe _ _ _ fun v _=>?_
  split
  ·exact bRe _ _ _ fun _ _=>rfl
  ·exact bRe _ _ _ fun _ _=>rfl
  ·rfl
 ·exact bRe _ _ _ fun _ _=>bRe _ _ _ fun _ _=>rem_build _ _
 ·exact bRe _ _ _ fun _ _=>bRe _ _ _ fun a ha=>rem_load _ _ (hk1 _ a rfl ha)
 ·refine bRe _ _ _ fun v _=>?_
  split <;> rfl
 ·exact bRe _ _ _ fun _ _=>bRe _ _ _ fun _ _=>bRe _ _ _ fun _ _=>rem_bin _ _ _ _ _ _
 ·exact bRe _ _ _ fun _ _=>rem_un _ _
 ·rename_i s d x
  show pConv c s d x tm h' nx'=(pConv c s d x tm h nx).rem h' nx'
  unfold pConv
  refine bRe _ _ _ fun ts hts=>bRe _ _ _ fun td htd=>?_
  have hw':(isSl (c.tt.get d) || isSl (c.tt.get s))=false:=hw
  rw[hts,htd,Bool.or_eq_false_iff]at hw'
  have hud:isU td=false:=by
   have:=hw'.1
   cases td with
   |mk dd _ _ _ _=>cases dd <;> first |rfl |(cases this;done)
  have hus:isU ts=false:=by
   have:=hw'.2
   cases ts with
   |mk dd _ _ _ _=>cases dd <;> first |rfl |(cases this;done)
  rw[hud,hus]
  simp only
  unfold pConv1
  refine bRe _ _ _ fun ts' hts'=>bRe _ _ _ fun td' htd'=>bRe _ _ _ fun a ha=>?_
  rw[hG]
  simp only
  refine rem_convS _ _ _ _ _ (fun e s b z f et=>?_) (hk1 _ a rfl ha)
  rw[htd]at htd'
  cases htd'
  rw[et]at hw'
  cases hw'.1
 ·exact bRe _ _ _ fun _ _=>bRe _ _ _ fun _ _=>rem_iface _ _ _
 ·rename_i fn a b
  show pFunc c fn a b tm h' nx'=(pFunc c fn a b tm h nx).rem h' nx'
  unfold pFunc
  cases fn <;> first |exact bRe _ _ _ fun _ _=>bRe _ _ _ fun _ _=>rfl |rfl
 ·exact bRe _ _ _ fun _ _=>bRe _ _ _ fun _ _=>bRe _ _ _ fun _ _=>bRe _ _ _ fun _ _=>bRe _ _ _ fun _ _=>rem_slice _ _ _ _ _
 ·exact bRe _ _ _ fun _ _=>bRe _ _ _ fun _ _=>rem_fieldAddr _ _ _
 ·exact bRe _ _ _ fun _ _=>bRe _ _ _ fun _ _=>rem_field _ _ _
 ·exact bRe _ _ _ fun _ _=>bRe _ _ _ fun _ _=>bRe _ _ _ fun _ _=>rem_indexAddr _ _ _
 ·exact bRe _ _ _ fun _ _=>bRe _ _ _ fun _ _=>bRe _ _ _ fun _ _=>rem_index _ _ _
 ·exact bRe _ _ _ fun _ _=>bRe _ _ _ fun a ha=>bRe _ _ _ fun _ _=>rem_lookup _ _ _ _ _ _ _ _ (hk1 _ a rfl ha)
 ·exact bRe _ _ _ fun _ _=>bRe _ _ _ fun _ _=>rem_ta _ _ _ _
 ·exact bRe _ _ _ fun _ _=>rem_extract _ _
 ·rename_i cl
  obtain⟨callee,args,ts⟩:=cl
  cases callee <;> try (cases hw;done)
  rename_i b
  have hl:∀l a m,evOs c.G tm args.toList=some l→l=a::m→keepsN (some a) h h':=by
   intro l a m e1 e2
   have hk':keepsN (args.toList.head?.bind (evO c.G tm)) h h':=hk
   cases hargs:args.toList with
   |nil=>rw[hargs]at e1;cases e1;cases e2
   |cons x xs=>
    rw[hargs]at e1 hk'
    change (match evO c.G tm x with
     |some a=>match evOs c.G tm xs with
      |some l=>some (a::l)
      |none=>none
     |none=>none)=some l at e1
    change keepsN (evO c.G tm x) h h' at hk'
    cases hx:evO c.G tm x with
    |none=>rw[hx]at e1;cases e1
    |some y=>
     rw[hx]at e1 hk'
     cases hxs:evOs c.G tm xs with
     |none=>rw[hxs]at e1;cases e1
     |some ys=>
      rw[hxs]at e1
      cases e1
      cases e2
      exact hk'
  cases b <;> try (cases hw;done)
  ·refine bRe _ _ _ fun l _=>bRe _ _ _ fun _ _=>bRe _ _ _ fun _ _=>?_
   split <;> first |exact rem_cap _ _ |rfl
  ·refine bRe _ _ _ fun l hl0=>bRe _ _ _ fun _ _=>bRe _ _ _ fun _ _=>?_
   split
   ·exact rem_len _ _ (hl _ _ _ hl0 rfl)
   ·rfl
  ·exact bRe _ _ _ fun l _=>rem_mm true l
  ·exact bRe _ _ _ fun l _=>rem_mm false l
end
end Go.Ev
namespace Go.Ev
noncomputable section
variable {P : Program} {c : Cx} {σ τ υ : Sg} {h g f : Tr ABlk} {nx ny nz sz : Nat} {w x y : World} {tm tm' : Tr AV} {a : Act} {G : Gl}
mutual
theorem Rel.fz_self (hk:Ok G σ h nx w):∀(v:AV)(V:Value),Rel σ v V→Fz g nx v v
 |.bool b,V,_=>.bool b
 |.int k n,V,_=>.int k n
 |.str l n,V,_=>.str l n
 |.bs b,V,_=>.bs b
 |.ptr0,V,_=>.ptr0
 |.sl0,V,_=>.sl0
 |.map0,V,_=>.map0
 |.nilFunc,V,_=>.nilFunc
 |.nilIface,V,_=>.nilIface
 |.opq n,V,_=>.opq n
 |.ptr i o,V,h=>by
  simp only[Rel]at h
  obtain⟨b,hb,_⟩:=h
  exact .ptr i o (hk.nlt hb)
 |.sl i o l cp opn,V,h=>by
  simp only[Rel]at h
  obtain⟨b,hb,_⟩:=h
  exact .sl i o l cp opn (hk.nlt hb)
 |.map i,V,h=>by
  simp only[Rel]at h
  obtain⟨b,hb,_⟩:=h
  exact .map i (hk.nlt hb)
 |.yld i,V,h=>by
  simp only[Rel]at h
  obtain⟨b,hb,_⟩:=h
  exact .yld i (hk.nlt hb)
 |.agg l,V,h=>by
  simp only[Rel]at h
  obtain⟨L,_,q⟩:=h
  exact .agg l l (RelL.fz_self hk l L q)
 |.tup l,V,h=>by
  simp only[Rel]at h
  obtain⟨L,_,q⟩:=h
  exact .tup l l (RelL.fz_self hk l L q)
 |.iface t v,V,h=>by
  simp only[Rel]at h
  obtain⟨U,_,q⟩:=h
  exact .iface t v v (Rel.fz_self hk v U q)
 |.func fn l m,V,h=>by
  simp only[Rel]at h
  obtain⟨A,C,_,p1,p2⟩:=h
  exact .func fn l l m m (RelL.fz_self hk l A p1) (RelL.fz_self hk m C p2)
 |.ip l,V,h=>by
  simp only[Rel]at h
  obtain⟨_,_,_,L,_,_,p2,_⟩:=h
  exact .ip l l (RelL.fz_self hk l L p2)
 |.fz es full l,V,h=>by
  simp only[Rel]at h
  obtain⟨_,_,_,_,_,_,p3⟩:=h
  cases l with
  |nil=>exact .fz es full [] [] .nil
  |cons z l=>
   obtain⟨_,_,_,L,_,_,p2,_⟩:=p3 (by simp)
   exact .fz es full _ _ (RelL.fz_self hk (z::l) L p2)
theorem RelL.fz_self (hk:Ok G σ h nx w):∀(l:List AV)(L:List Value),RelL σ l L→FzL g nx l l
 |[],L,_=>.nil
 |v::l,L,h=>by
  simp only[RelL]at h
  obtain⟨V,L',_,p1,p2⟩:=h
  exact .cons v v l l (Rel.fz_self hk v V p1) (RelL.fz_self hk l L' p2)
end
def valsV (s:Nat):Nat→List (Nat×AV)→Option (List AV)
 |_,[]=>some []
 |k,(i,v)::l=>match Nat.beq i k && Nat.beq v.cells.length s && (match v with |.agg _=>true |v=>v.one) with
  |true=>match valsV s (k+1) l with
   |some xs=>some (v::xs)
   |none=>none
  |false=>none
theorem valsV_spec {s:Nat}:∀{k:Nat}{ps:List (Nat×AV)}{xs:List AV}{PS:List (Nat×Value)},valsV s k ps=some xs→RelP σ ps PS→Chunk s xs (xs.flatMap AV.cells)∧(∃XS,RelL σ xs XS)∧∀l l':List AV,(k+xs.length) * s≤l.length→fillL (fun i=>some (Nat.mul i s,s)) ps l=some l'→l'=l.take (k * s)++(xs.flatMap AV.cells++l.drop ((k+xs.length) * s))
 |k,[],xs,PS,e,hr=>by
  cases e
  refine⟨rfl,⟨[],by simp only[RelL]⟩,fun l l' hl hf=>?_⟩
  have:some l=some l':=hf
  cases this
  simp
 |k,(i,v)::ps,xs,PS,e,hr=>by
  simp only[valsV]at e
  split at e
  ·rename_i hb
   simp only[Bool.and_eq_true]at hb
   obtain⟨⟨b1,b2⟩,b3⟩:=hb
   have b1':=Nat.eq_of_beq_eq_true b1
   have b2':=Nat.eq_of_beq_eq_true b2
   subst b1'
   cases hv:valsV s (i+1) ps with
   |none=>rw[hv]at e;cases e
   |some ys=>
    rw[hv]at e
    cases e
    simp only[RelP]at hr
    obtain⟨V,PS',_,r1,r2⟩:=hr
    obtain⟨c1,⟨XS,c2⟩,c3⟩:=valsV_spec hv r2
    refine⟨⟨v.cells,ys.flatMap AV.cells,by simp,rfl,b2',?_,c1⟩,⟨V::XS,by simp only[RelL];exact⟨_,_,rfl,r1,c2⟩⟩,fun l l' hl hf=>?_⟩
    ·cases v <;> first |exact .inl rfl |exact .inr b3
    ·rw[fillL_cons]at hf
     simp only[List.length_cons]at hl
     have hle:i * s+s≤l.length:=by
      have:(i+1) * s≤(i+(ys.length+1)) * s:=Nat.mul_le_mul_right s (by omega)
      rw[Nat.add_mul]at this
      omega
     have hb2:Nat.ble (Nat.add (Nat.mul i s) s) l.length=true:=Nat.ble_eq_true_of_le hle
     simp only[b2,hb2]at hf
     have hseg:(segL l (i * s) v.cells).length=l.length:=segL_length (by rw[b2'];exact hle)
     have:=c3 (segL l (i * s) v.cells) l' (by rw[hseg,show i+1+ys.length=i+(ys.length+1) by omega];exact hl) hf
     rw[this]
     have hm:(i+1) * s=i * s+s:=by rw[Nat.add_mul,Nat.one_mul]
     have hl1:(l.take (i * s)).length=i * s:=by rw[List.length_take,Nat.min_eq_left (by omega)]
     have hdef:segL l (i * s) v.cells=l.take (i * s)++(v.cells++l.drop (i * s+v.cells.length)):=rfl
     have ht:(segL l (i * s) v.cells).take ((i+1) * s)=l.take (i * s)++v.cells:=by
      have hlen:(i+1) * s=(l.take (i * s)++v.cells).length:=by rw[List.length_append,hl1,b2',hm]
      rw[hdef,← List.append_assoc,hlen,List.take_left]
     have hd:(segL l (i * s) v.cells).drop ((i+1+ys.length) * s)=l.drop ((i+(ys.length+1)) * s):=by
      rw[hdef,← List.append_assoc,List.drop_append,List.length_append,hl1,b2',List.drop_of_length_le (by rw[List.length_append,hl1,b2',← hm];exact Nat.mul_le_mul_right s (by omega)),List.nil_append,List.drop_drop]
      congr 1
      rw[show i+(ys.length+1)=i+1+ys.length by omega,← hm]
      have:(i+1) * s≤(i+1+ys.length) * s:=Nat.mul_le_mul_right s (by omega)
      omega
     rw[ht,hd]
     simp
  ·cases e
def evBuildV (ti:TI)(te:Option TI)(et:TypeId) (len:Nat)(ps:List (Nat×AV))(h:Tr ABlk) (nx:Nat):R:=
 match ti,te with
 |.mk (.slice e) _ _ _ _,some (.mk _ s _ (some z) _)=>match Nat.beq e et && Nat.ble (Nat.mul len s) 16777216 && Nat.ble 1 s with
  |true=>match fillL (fun i=>some (Nat.mul i s,s)) ps (repL z.cells len) with
   |some _=>match valsV s 0 ps with
    |some xs=>match Nat.beq xs.length len with
     |true=>.val (.fz s true xs) h nx
     |false=>.fail
    |none=>.fail
   |none=>.fail
  |false=>.fail
 |_,_=>.fail
theorem evBuildV_ok (hk:Ok G σ h nx w)(t:TypeId){ti:TI}(ht:TIok P t ti){te:Option TI}{et:TypeId}(hte:∀ti,te=some ti→TIok P et ti) (len:Nat){ps:List (Nat×AV)}{PS:Array (Nat×Value)}(hp:RelP σ ps PS.toList):
  RV P G σ h nx w (Instr.buildSlice t len PS) (evBuildV ti te et len ps h nx):=by
 have h0:=evBuildSlice_ok (P:=P) (w:=w) hk t ht hte len hp
 unfold evBuildV
 split
 ·rename_i e q1 q2 q3 q4 de s b z fs
  split
  ·rename_i hb0
   simp only[Bool.and_eq_true]at hb0
   obtain⟨⟨b1,b2⟩,b3⟩:=hb0
   have b4:Nat.beq s 0=false:=by
    cases hs:Nat.beq s 0 with
    |false=>rfl
    |true=>
     have:=Nat.eq_of_beq_eq_true hs
     subst this
     cases b3
   split
   ·rename_i l' hl'
    split
    ·rename_i xs hxs
     split
     ·rename_i hb
      have hb':=Nat.eq_of_beq_eq_true hb
      unfold evBuildSlice at h0
      simp only[b1,b2,b4,hl',newK,putNK_eq,fN_eq,Tr.putK_eq]at h0
      obtain⟨V,τ,x,r1,r2,r3⟩:=h0
      obtain⟨c1,⟨XS,c2⟩,c3⟩:=valsV_spec hxs hp
      obtain⟨_,inf,_,hs0,_,hz,_⟩:=hte _ rfl
      obtain⟨Z,_,hZr,hZs⟩:=hz z rfl
      have hzl:z.cells.length=s:=by
       have:=(hZr σ).cells.length
       simp at this
       omega
      have hfl:=c3 _ l' (by rw[repL_length,hzl,Nat.zero_add,hb'];exact Nat.le_refl _) hl'
      rw[Nat.zero_mul,List.take_zero,List.nil_append,Nat.zero_add,List.drop_of_length_le (by rw[repL_length,hzl,hb'];exact Nat.le_refl _),List.append_nil]at hfl
      subst hfl
      have hext:∀i,i<nx→(h.put nx (some (ABlk.cells e (xs.flatMap AV.cells).length (putN (xs.flatMap AV.cells) .nil 0) false 0))).get i=h.get i:=fun i hi=>by rw[Tr.get_put,if_neg (by omega)]
      refine⟨V,_,x,r1,?_,Post.frz hk r3 hext⟩
      have hf:=Fz.rel r3.ok (.slz nx 0 len len false e (xs.flatMap AV.cells).length (putN (xs.flatMap AV.cells) .nil 0) false 0 s (xs.flatMap AV.cells) (xs.flatMap AV.cells) xs (Nat.le_refl _) (by rw[Tr.get_put,if_pos rfl]) (by omega) (fun j hj=>by rw[Nat.zero_add,get_putN0]) (RelL.fz_self hk _ _ c2.flat) c1 hb') V r2
      have hcap:∃a,V=.slice a len len:=by
       simp only[Rel]at r2
       obtain⟨b,_,e0,_⟩:=r2
       exact⟨_,by simpa using e0⟩
      simp only[Rel]at hf ⊢
      obtain⟨a,cap,e1,e2,e3,e4,e5⟩:=hf
      obtain⟨a',e6⟩:=hcap
      refine⟨a,cap,e1,e2,fun _=>?_,e4,e5⟩
      rw[e1]at e6
      cases e6
      rfl
     ·trivial
    ·trivial
   ·trivial
  ·trivial
 ·trivial
end
end Go.Ev
namespace Go.Ev
noncomputable section
variable {P : Program} {c : Cx} {σ τ υ : Sg} {h h' g f : Tr ABlk} {nx nx' ny nz sz : Nat} {w x y : World} {tm tm' : Tr AV} {a : Act} {G : Gl} {r : Option Nat}
def Sees (tm tm':Tr AV)(l:List Operand):Prop:=∀t,Operand.tmp t∈l→tm.get t=tm'.get t
theorem evO_sees {x:Operand}{l:List Operand}(hs:Sees tm tm' l)(hx:x∈l):evO G tm x=evO G tm' x:=by
 cases x <;> try rfl
 exact hs _ hx
theorem evOs_sees:∀{l m:List Operand},Sees tm tm' m→(∀x∈l,x∈m)→evOs G tm l=evOs G tm' l
 |[],m,_,_=>rfl
 |x::l,m,hs,hl=>by
  show (match evO G tm x with
   |some a=>match evOs G tm l with
    |some l=>some (a::l)
    |none=>none
   |none=>none)=(match evO G tm' x with
   |some a=>match evOs G tm' l with
    |some l=>some (a::l)
    |none=>none
   |none=>none)
  rw[evO_sees hs (hl x (by simp)),evOs_sees hs fun y hy=>hl y (by simp[hy])]
theorem evOps2_sees:∀{l:List (Nat×Operand)}{m:List Operand},Sees tm tm' m→(∀p∈l,p.2∈m)→evOps2 G tm l=evOps2 G tm' l
 |[],m,_,_=>rfl
 |(i,x)::l,m,hs,hl=>by
  show (match evO G tm x with
   |some a=>match evOps2 G tm l with
    |some l=>some ((i,a)::l)
    |none=>none
   |none=>none)=(match evO G tm' x with
   |some a=>match evOps2 G tm' l with
    |some l=>some ((i,a)::l)
    |none=>none
   |none=>none)
  rw[evO_sees hs (hl (i,x) (by simp)),evOps2_sees hs fun y hy=>hl y (by simp[hy])]
theorem evOo_sees {x:Option Operand}{l:List Operand}(hs:Sees tm tm' l)(hx:∀y,x=some y→y∈l):evOo G tm x=evOo G tm' x:=by
 cases x with
 |none=>rfl
 |some y=>unfold evOo;simp only;rw[evO_sees hs (hx y rfl)]
theorem evPlain_sees (op:Op)(hs:Sees tm tm' op.operands.toList):evPlain c op tm h nx=evPlain c op tm' h nx:=by
 have e:∀x,x∈op.operands.toList→evO c.G tm x=evO c.G tm' x:=fun x hx=>evO_sees hs hx
 cases op <;> try rfl
 ·show pMove c _ tm h nx=pMove c _ tm' h nx
  unfold pMove;rw[e _ (by simp[Op.operands])]
 ·show pMove c _ tm h nx=pMove c _ tm' h nx
  unfold pMove;rw[e _ (by simp[Op.operands])]
 ·show pPick c _ _ _ tm h nx=pPick c _ _ _ tm' h nx
  unfold pPick pMove;rw[e _ (by simp[Op.operands]),e _ (by simp[Op.operands]),e _ (by simp[Op.operands])]
 ·show pBox c _ _ tm h nx=pBox c _ _ tm' h nx
  unfold pBox;rw[e _ (by simp[Op.operands])]
 ·show pBuild c _ _ tm h nx=pBuild c _ _ tm' h nx
  unfold pBuild;rw[evOps2_sees hs (fun p hp=>by simp only[Op.operands];exact List.mem_map.2 ⟨p,hp,rfl⟩)]
 ·show pBuildSlice c _ _ _ tm h nx=pBuildSlice c _ _ _ tm' h nx
  unfold pBuildSlice;rw[evOps2_sees hs (fun p hp=>by simp only[Op.operands];exact List.mem_map.2 ⟨p,hp,rfl⟩)]
 ·show pMapSet c _ _ _ _ tm h nx=pMapSet c _ _ _ _ tm' h nx
  unfold pMapSet;rw[e _ (by simp[Op.operands]),e _ (by simp[Op.operands]),e _ (by simp[Op.operands])]
 ·show pLoad c _ _ tm h nx=pLoad c _ _ tm' h nx
  unfold pLoad;rw[e _ (by simp[Op.operands])]
 ·show pStore c _ _ _ tm h nx=pStore c _ _ _ tm' h nx
  unfold pStore;rw[e _ (by simp[Op.operands]),e _ (by simp[Op.operands])]
 ·show pNil c _ tm h nx=pNil c _ tm' h nx
  unfold pNil;rw[e _ (by simp[Op.operands])]
 ·show pBin c _ _ _ _ tm h nx=pBin c _ _ _ _ tm' h nx
  unfold pBin;rw[e _ (by simp[Op.operands]),e _ (by simp[Op.operands])]
 ·show pUn c _ _ tm h nx=pUn c _ _ tm' h nx
  unfold pUn;rw[e _ (by simp[Op.operands])]
 ·show pConv c _ _ _ tm h nx=pConv c _ _ _ tm' h nx
  unfold pConv pConv1;rw[e _ (by simp[Op.operands])]
 ·show pIface c _ _ tm h nx=pIface c _ _ tm' h nx
  unfold pIface;rw[e _ (by simp[Op.operands])]
 ·show pFunc c _ _ _ tm h nx=pFunc c _ _ _ tm' h nx
  unfold pFunc;rw[evOs_sees hs (fun x hx=>by simp[Op.operands]at hx ⊢;exact .inl hx),evOs_sees hs (fun x hx=>by simp[Op.operands]at hx ⊢;exact .inr hx)]
 ·show pMakeSlice c _ _ _ tm h nx=pMakeSlice c _ _ _ tm' h nx
  unfold pMakeSlice;rw[e _ (by simp[Op.operands]),e _ (by simp[Op.operands])]
 ·show pSlice c _ _ _ _ _ tm h nx=pSlice c _ _ _ _ _ tm' h nx
  unfold pSlice;rw[e _ (by simp[Op.operands]),evOo_sees hs (fun y hy=>by subst hy;simp[Op.operands]),evOo_sees hs (fun y hy=>by subst hy;simp[Op.operands]),evOo_sees hs (fun y hy=>by subst hy;simp[Op.operands])]
 ·show pFieldAddr c _ _ _ tm h nx=pFieldAddr c _ _ _ tm' h nx
  unfold pFieldAddr;rw[e _ (by simp[Op.operands])]
 ·show pField c _ _ _ tm h nx=pField c _ _ _ tm' h nx
  unfold pField;rw[e _ (by simp[Op.operands])]
 ·show pIndexAddr c _ _ _ tm h nx=pIndexAddr c _ _ _ tm' h nx
  unfold pIndexAddr;rw[e _ (by simp[Op.operands]),e _ (by simp[Op.operands])]
 ·show pIndex c _ _ _ tm h nx=pIndex c _ _ _ tm' h nx
  unfold pIndex;rw[e _ (by simp[Op.operands]),e _ (by simp[Op.operands])]
 ·show pLookup c _ _ _ _ tm h nx=pLookup c _ _ _ _ tm' h nx
  unfold pLookup;rw[e _ (by simp[Op.operands]),e _ (by simp[Op.operands])]
 ·show pMapSet c _ _ _ _ tm h nx=pMapSet c _ _ _ _ tm' h nx
  unfold pMapSet;rw[e _ (by simp[Op.operands]),e _ (by simp[Op.operands]),e _ (by simp[Op.operands])]
 ·show pTA c _ _ _ tm h nx=pTA c _ _ _ tm' h nx
  unfold pTA;rw[e _ (by simp[Op.operands])]
 ·show pExtract c _ _ tm h nx=pExtract c _ _ tm' h nx
  unfold pExtract;rw[e _ (by simp[Op.operands])]
 ·rename_i cl
  obtain⟨callee,args,ts⟩:=cl
  cases callee <;> try rfl
  show pBuiltin c _ _ _ tm h nx=pBuiltin c _ _ _ tm' h nx
  unfold pBuiltin;rw[evOs_sees hs (fun x hx=>by simp[Op.operands,Call.operands]at hx ⊢;exact hx)]
theorem evPlainS_sees (op:Op)(hs:Sees tm tm' op.operands.toList):evPlainS c op tm h nx=evPlainS c op tm' h nx:=by
 have e:∀x,x∈op.operands.toList→evO c.G tm x=evO c.G tm' x:=fun x hx=>evO_sees hs hx
 have h0:=evPlain_sees (c:=c) (h:=h) (nx:=nx) op hs
 cases op <;> try exact h0
 ·show pStoreS c _ _ _ tm h nx=pStoreS c _ _ _ tm' h nx
  unfold pStoreS;rw[e _ (by simp[Op.operands]),e _ (by simp[Op.operands])]
 ·rename_i cl
  obtain⟨callee,args,ts⟩:=cl
  cases callee <;> try exact h0
  rename_i b
  cases b <;> try exact h0
  show pAppendS c _ args.toList tm h nx=pAppendS c _ args.toList tm' h nx
  have hs':∀x∈args.toList,evO c.G tm x=evO c.G tm' x:=fun x hx=>e x (by simp[Op.operands,Call.operands]at hx ⊢;exact hx)
  unfold pAppendS
  generalize args.toList=l at hs'
  split
  ·cases l with
   |nil=>rfl
   |cons x l=>
    cases l with
    |nil=>rfl
    |cons y l=>
     cases l with
     |nil=>simp only[hs' x (by simp),hs' y (by simp)]
     |cons z l=>rfl
  ·rfl
def opD (c:Cx)(op:Op)(tm:Tr AV)(h:Tr ABlk) (nx:Nat):R:=match op with
 |.buildSlice t n ps=>bR (c.tt.get t) fun ti=>bR (evOps2 c.G tm ps.toList) fun l=>evBuildV ti (c.tt.get (elemT ti)) (elemT ti) n l h nx
 |op=>evPlainS c op tm h nx
def isBS:Op→Bool
 |.buildSlice _ _ _=>true
 |_=>false
theorem opD_plain {op:Op}(hb:isBS op=false):opD c op=evPlainS c op:=by cases op <;> first |rfl |cases hb
theorem opD_sees (op:Op)(hs:Sees tm tm' op.operands.toList):opD c op tm h nx=opD c op tm' h nx:=by
 cases op <;> try first |exact evPlainS_sees _ hs |rfl
 show (bR (c.tt.get _) fun ti=>bR (evOps2 c.G tm _) fun l=>evBuildV ti (c.tt.get (elemT ti)) (elemT ti) _ l h nx)=_
 rw[evOps2_sees hs (fun p hp=>by simp only[Op.operands];exact List.mem_map.2 ⟨p,hp,rfl⟩)]
 rfl
theorem opD_ok (hc:CxOk P c)(hk:Ok c.G σ h nx w)(ht:TmOk σ tm a)(o:Oper):RO P c.G σ h nx w (execOp a.eval o) (opD c o.op tm h nx):=by
 have h0:=evPlainS_ok hc hk ht o
 obtain⟨dst,op,type,pos,after,guard⟩:=o
 cases op <;> try exact h0
 refine bR_ok fun ti e=>bR_ok fun l e2=>RO.ofV (evBuildV_ok hk _ (hc.tt _ _ e) (hc.tt _) _ ?_)
 have:=evOps2_ok hk ht e2
 simpa using this
def isWD (c:Cx)(op:Op):Bool:=match op with
 |.buildSlice _ _ _=>false
 |op=>isWS c op
theorem rem_buildV (ti:TI)(te:Option TI)(et:TypeId) (len:Nat)(ps:List (Nat×AV)):evBuildV ti te et len ps h' nx'=(evBuildV ti te et len ps h nx).rem h' nx':=by
 unfold evBuildV
 repeat' split
 all_goals rfl
theorem opD_rem (hG:c.G.sym=true)(op:Op)(hw:isWD c op=false)(hk:keepsN ((fpO op).bind (evO c.G tm)) h h'):opD c op tm h' nx'=(opD c op tm h nx).rem h' nx':=by
 cases hb:isBS op with
 |false=>
  rw[opD_plain hb]
  exact rem_plainS hG op (by cases op <;> first |exact hw |cases hb) hk
 |true=>
  cases op <;> try (cases hb;done)
  exact rem_bR _ _ _ fun _=>rem_bR _ _ _ fun _=>rem_buildV _ _ _ _ _
theorem looks_op {ops:List Oper}{o:Oper}:Sees (rst (looks ops o) tm) tm o.op.operands.toList:=fun t ht=>by
 rw[rst_get,if_pos]
 unfold looks
 rw[List.mem_append]
 exact .inl (List.mem_filterMap.2 ⟨.tmp t,ht,rfl⟩)
theorem looks_want {ops:List Oper}{o:Oper}:wantA ops (rst (looks ops o) tm) o=wantA ops tm o:=by
 unfold wantA
 cases hg:o.guard with
 |none=>rfl
 |some p=>
  obtain⟨j,want⟩:=p
  simp only
  cases hj:ops[j]? with
  |none=>rfl
  |some oj=>
   simp only
   cases hd:oj.dst with
   |none=>rfl
   |some d=>
    simp only
    rw[rst_get,if_pos]
    unfold looks
    rw[List.mem_append,hg]
    simp only
    rw[hj]
    simp[hd]
theorem OpY.skip {ops:Array Oper}{o:Oper}(hw:wantA ops.toList tm o=some false):OpY P c r ops o (.tup []) (rst (looks ops.toList o) tm) h nx h nx:=by
 intro σ a w ok ht Q K hK
 rw[← looks_want (tm:=tm)]at hw
 rw[wantA_ok ht hw]
 simp only[Bool.false_eq_true,if_false]
 exact⟨fun _ _=>trivial,hK σ w undef rel_undef (.refl ok)⟩
theorem OpY.val (hc:CxOk P c){ops:Array Oper}{o:Oper}(hw:wantA ops.toList tm o=some true)(hd:isDefer o.op=false){v:AV}(he:opD c o.op tm h nx=.val v g ny):OpY P c r ops o v (rst (looks ops.toList o) tm) h nx g ny:=by
 intro σ a w ok ht Q K hK
 rw[← looks_want (tm:=tm)]at hw
 rw[wantA_ok ht hw]
 simp only[if_true]
 rw[← opD_sees _ looks_op]at he
 have hp:=opD_ok hc ok ht o
 rw[he]at hp
 obtain⟨V,τ,x,h1,h2,h3⟩:=hp
 refine upon_fence (fun cl e=>by rw[e]at hd;cases hd) ?_
 rw[h1]
 exact hK τ x V h2 h3
theorem OpY.unit (hc:CxOk P c){ops:Array Oper}{o:Oper}(hw:wantA ops.toList tm o=some true)(hd:isDefer o.op=false)(he:opD c o.op tm h nx=.unit g ny):OpY P c r ops o (.tup []) (rst (looks ops.toList o) tm) h nx g ny:=by
 intro σ a w ok ht Q K hK
 rw[← looks_want (tm:=tm)]at hw
 rw[wantA_ok ht hw]
 simp only[if_true]
 rw[← opD_sees _ looks_op]at he
 have hp:=opD_ok hc ok ht o
 rw[he]at hp
 obtain⟨τ,x,h1,h3⟩:=hp
 refine upon_fence (fun cl e=>by rw[e]at hd;cases hd) ?_
 rw[h1]
 exact hK τ x undef rel_undef h3
theorem OpY.call {ops:Array Oper}{o:Oper}(hw:wantA ops.toList tm o=some true){fo:Operand}{args:Array Operand}(hcl:callOf o.op=some (fo,args)){fid:FuncId}{first cap l:List AV}(hf:evO c.G tm fo=some (.func fid first cap))(hl:evOs c.G tm args.toList=some l){u:AV}(hr:ACall P c fid (first++(l++cap)) h nx fun v g ny=>v=u∧g=h∧ny=nx):
  OpY P c r ops o u (rst (looks ops.toList o) tm) h nx h nx:=by
 intro σ a w ok ht Q K hK
 have hsee:=looks_op (tm:=tm) (ops:=ops.toList) (o:=o)
 rw[← looks_want (tm:=tm)]at hw
 rw[wantA_ok ht hw]
 simp only[if_true]
 obtain⟨dst,op,type,pos,after,guard⟩:=o
 cases op <;> try (cases hcl;done)
 rename_i cl
 obtain⟨callee,args',argTypes⟩:=cl
 cases callee <;> try (cases hcl;done)
 cases hcl
 rename Array Operand=>args
 have hf':evO c.G (rst (looks ops.toList ⟨dst,.call ⟨.value fo,args,argTypes⟩,type,pos,after,guard⟩) tm) fo=some (.func fid first cap):=by
  rw[evO_sees hsee (by simp[Op.operands,Call.operands])];exact hf
 have hl':evOs c.G (rst (looks ops.toList ⟨dst,.call ⟨.value fo,args,argTypes⟩,type,pos,after,guard⟩) tm) args.toList=some l:=by
  rw[evOs_sees hsee (fun x hx=>by simp[Op.operands,Call.operands]at hx ⊢;exact .inr hx)];exact hl
 have hfv:=evO_ok ok ht hf'
 have hlr:=evOs_ok ok ht hl'
 simp only[Rel]at hfv
 obtain⟨F,C,e1,r1,r2⟩:=hfv
 have hcr:=hr σ w (F++(args.toList.map a.eval++C)) ok (r1.append (hlr.append r2))
 have hex:(execOp a.eval ⟨dst,.call ⟨.value fo,args,argTypes⟩,type,pos,after,guard⟩).run P w=(callFunc fid (F++(args.toList.map a.eval++C)).toArray).run P w:=by
  have e2:execOp a.eval ⟨dst,.call ⟨.value fo,args,argTypes⟩,type,pos,after,guard⟩=(do let d ← Deferred.ofValue (a.eval fo) (args.map a.eval);invoke d.target d.args):=rfl
  rw[e2,e1]
  show (callFunc fid (F.toArray++args.map a.eval++C.toArray)).run P w=_
  congr 2
  apply Array.ext'
  simp
 refine upon_fence (fun _ e=>by cases e) ?_
 rw[hex]
 unfold CR at hcr
 cases hrun:(callFunc fid (F++(args.toList.map a.eval++C)).toArray).run P w with
 |halt hh w'=>rw[hrun]at hcr;exact hcr.elim
 |ok nxt w'=>
  rw[hrun]at hcr
  cases nxt <;> try exact hcr.elim
  ·rename_i V
   obtain⟨τ,v,g,ny,q1,q2,q3,q4,q5⟩:=hcr
   subst q3
   subst q4
   subst q5
   exact hK τ _ V q1 q2
  ·refine⟨fun hh=>by simp[fence,Fence.wide]at hh,calls_fence (Calls.mono hcr fun e x q=>?_)⟩
   cases e with
   |returned V=>
    obtain⟨τ,v,g,ny,q1,q2,q3,q4,q5⟩:=q
    subst q3
    subst q4
    subst q5
    exact hK τ x V q1 q2
   |panicked ch=>exact q.elim
   |outgrown=>exact q.elim
end
end Go.Ev
