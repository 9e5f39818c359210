/- Texts DK. -/
import Derived.Test.YtjngkeajenankaaGreatDoorP12
set_option linter.unusedSimpArgs false
set_option linter.unusedVariables false
set_option maxRecDepth 100000
namespace Go.Ev
section
variable {P : Program} {G : Gl} {σ τ υ : Sg} {h g f : Tr ABlk} {nx ny nz : Nat} {w x y : World}
theorem Post.adopt2 (p:Post G σ h nx w τ g ny x){b:Nat}(hb:w.heap.size≤b)(hno:∀i B,g.get i=some B→τ.blk i≠some b)(himm:τ.imm b=none) (c:Nat)(B:ABlk)(o:Obj)(ho:x.heap[b]?=some o)(hB:RelB (τ.add ny b c) ny B o):
  Post G σ h nx w (τ.add ny b c) (g.put ny (some B)) (ny+1) x:=by
 have hk:=p.ok
 have hle:τ.Le (τ.add ny b c):=Sg.add_le (hk.fresh ny (Nat.le_refl _))
 have hold:∀k B' b',(g.put ny (some B)).get k=some B'→k≠ny→(τ.add ny b c).blk k=some b'→g.get k=some B'∧τ.blk k=some b':=by
  intro k B' b' hh hne hb2
  rw[Tr.get_put,if_neg hne]at hh
  exact⟨hh,by simpa[Sg.add,hne]using hb2⟩
 have hnew:∀b',(τ.add ny b c).blk ny=some b'→b'=b:=fun b' e=>by simpa[Sg.add]using e.symm
 refine⟨⟨fun a ha=>?_,by have:=hk.le;omega,fun i hi=>?_,fun i j b' B1 B2 h1 h2 h3 h4=>?_,fun i B1 h1=>?_,fun b' C hb'=>?_,fun g' cs hg=>(hk.gl g' cs hg).mono hle⟩,p.le.trans hle,⟨p.fr.os,p.fr.tape,p.fr.output,p.fr.size,p.fr.keep,fun i B1 b' h1 h2=>?_,p.fr.imm⟩,by have:=p.nx;omega⟩
 ·have:a≠ny:=by have:=hk.le;omega
  simp[Sg.add,this,hk.glob a ha]
 ·have:i≠ny:=by omega
  simp[Sg.add,this,hk.fresh i (by omega)]
 ·by_cases e1:i=ny <;> by_cases e2:j=ny
  ·omega
  ·obtain⟨q1,q2⟩:=hold j B2 b' h2 e2 h4
   subst e1
   have:=hnew b' h3
   subst this
   exact absurd q2 (hno j B2 q1)
  ·obtain⟨q1,q2⟩:=hold i B1 b' h1 e1 h3
   subst e2
   have:=hnew b' h4
   subst this
   exact absurd q2 (hno i B1 q1)
  ·obtain⟨a1,a2⟩:=hold i B1 b' h1 e1 h3
   obtain⟨c1,c2⟩:=hold j B2 b' h2 e2 h4
   exact hk.inj i j b' B1 B2 a1 c1 a2 c2
 ·rw[Tr.get_put]at h1
  by_cases e:i=ny
  ·rw[if_pos e]at h1
   cases h1
   subst e
   exact⟨b,o,by simp[Sg.add],ho,hB⟩
  ·rw[if_neg e]at h1
   obtain⟨b',o',hb',ho',hr⟩:=hk.blk i B1 h1
   exact⟨b',o',(hle.blk i b' hb').1,ho',hr.mono hle hb'⟩
 ·obtain⟨h1,h2⟩:=hk.imm b' C hb'
  refine⟨h1,fun i B' hi e=>?_⟩
  by_cases e':i=ny
  ·subst e'
   have:=hnew b' e
   subst this
   have hb2:τ.imm b'=some C:=hb'
   rw[himm]at hb2
   cases hb2
  ·obtain⟨q1,q2⟩:=hold i B' b' hi e' e
   exact h2 i B' q1 q2
 ·by_cases e:i=ny
  ·subst e
   have:=hnew b' h2
   exact .inl (by omega)
  ·obtain⟨q1,q2⟩:=hold i B1 b' h1 e h2
   exact p.fr.own i B1 b' q1 q2
end
inductive Sh where
 |ptr
 |sl (l c:Nat)
def Sh.val:Sh→Nat→AV
 |.ptr,r=>.ptr r 0
 |.sl l c,r=>.sl r 0 l c false
def Sh.conc:Sh→Nat→Value
 |.ptr,b=>.pointer (some ⟨b,0,none⟩)
 |.sl l c,b=>.slice (some ⟨b,0,none⟩) l c
def Sh.ok:Sh→Prop
 |.ptr=>True
 |.sl l c=>l≤c
theorem Sh.rel {σ:Sg}{s:Sh}(hs:s.ok){r b:Nat}(hb:σ.blk r=some b):Rel σ (s.val r) (s.conc b):=by
 cases s with
 |ptr=>simp only[Sh.val,Sh.conc,Rel];exact⟨b,hb,rfl⟩
 |sl l c=>simp only[Sh.val,Sh.conc,Rel,Bool.false_eq_true,if_false];exact⟨b,hb,rfl,hs⟩
noncomputable section
variable {P : Program} {c : Cx} {σ τ υ : Sg} {h g f : Tr ABlk} {nx ny nz sz : Nat} {ds : List DE} {w x y : World} {tm tm' : Tr AV} {a : Act}
def blkM (t:TypeId)(L:List AV):ABlk:=.cells t L.length (putN L .nil 0) false 0
theorem blkM_rel {i:Nat}{t:TypeId}{L:List AV}{L':List Value}(hl:RelL σ L L'):RelB σ i (blkM t L) (.cells L'.toArray t):=by
 have hlen:=hl.length
 simp only[blkM,RelB]
 refine⟨L'.toArray,(0,0),rfl,fun k hk=>?_,fun k _=>by omega,?_⟩
 ·obtain⟨u,hu⟩:∃u,L[k]?=some u:=⟨L[k],by simp[hk]⟩
  obtain⟨V,h1,h2⟩:=hl.get hu
  refine⟨u,V,?_,by simpa using h1,h2⟩
  rw[get_putN,if_pos (by omega)]
  simpa using hu
 ·simp;omega
def OpM (P:Program)(c:Cx)(r:Option Nat)(ops:Array Oper)(o:Oper)(t:TypeId)(L:List AV)(s:Sh)(tm:Tr AV):Prop:=
 ∀(σ:Sg) (h:Tr ABlk) (nx:Nat) (a:Act) (w:World),Ok c.G σ h nx w→TmOk σ tm a→∀(Q:Exit→Act→World→Prop) (K:Act→World→Prop),(∀L',RelL σ L L'→K (a.put o.dst (s.conc w.heap.size)) { w with heap:=w.heap.push (.cells L'.toArray t) })→
  if Region.wanted o (yielded ops a.tmps) then o.wpIn (fence r) 0 P a w K Q else (∀f,o.about P w a.eval=some f→(fence r).fn f)∧K (a.put o.dst undef) w
structure DrM (P:Program)(c:Cx)(r:Option Nat) (sz:Nat)(ops:Array Oper)(S:Nat→Tr AV×Tr ABlk×Nat)(v:Nat→AV)(W M:Nat→Bool)(bef:Nat→Nat→Bool)(bt:Nat→TypeId)(bl:Nat→List AV)(bs:Nat→Sh):Prop where
 back:∀i,i<ops.size→∀k,dir ops k i=true→k<i
 befOk:∀i j,bef i j=true→∀l:Array Bool,Closed ops l→(∀k,dir ops k j=true→l.getD k false=true)→l.getD i false=true
 tmps:∀i j o p d,ops[i]?=some o→ops[j]?=some p→i≠j→p.dst=some d→(d∈looks ops.toList o∨o.dst=some d)→(j<i→bef j i=true)∧(i<j→bef i j=true)
 chain:∀i j,i<j→j<ops.size→W i=true→W j=true→bef i j=true
 mkb:∀k j,k<j→j<ops.size→M k=true→W j=true→bef k j=true
 disj:∀i,M i=true→W i=false
 step:∀i o,ops[i]?=some o→W i=true→OpY P c r ops o (v i) (rst (looks ops.toList o) (S i).1) (S i).2.1 (S i).2.2 (S (i+1)).2.1 (S (i+1)).2.2
 slots:∀i o,ops[i]?=some o→(∀d,o.dst=some d→d<sz)∧(S (i+1)).1=(match o.dst with |none=>(S i).1 |some d=>(S i).1.put d (some (v i)))
 keep:∀i,i<ops.size→W i=false→M i=false→(S (i+1)).2=(S i).2
 mkr:∀i o,ops[i]?=some o→M i=true→(∃d,o.dst=some d)∧(bs i).ok∧v i=(bs i).val (S i).2.2∧(S (i+1)).2=((S i).2.1.put (S i).2.2 (some (blkM (bt i) (bl i))),(S i).2.2+1)∧OpM P c r ops o (bt i) (bl i) (bs i) (rst (looks ops.toList o) (S i).1)
 mlook:∀i k o p d,ops[i]?=some o→ops[k]?=some p→M k=true→p.dst=some d→d∈looks ops.toList o→W i=true∧k<i
 mdst:∀i k o p d,ops[i]?=some o→ops[k]?=some p→M k=true→p.dst=some d→i≠k→o.dst≠some d
 dyn:∀i o,ops[i]?=some o→W i=false→M i=false→∀p,p≤ops.size→(p=0∨W (p-1)=true)→(∀j,j<ops.size→W j=true→(bef j i=true→j<p)∧(bef i j=true→p≤j))→
  OpY P c r ops o (v i) (rst (looks ops.toList o) (S i).1) (S p).2.1 (S p).2.2 (S p).2.1 (S p).2.2
section
variable {r : Option Nat} {ops : Array Oper} {S : Nat → Tr AV × Tr ABlk × Nat} {v : Nat → AV} {W M : Nat → Bool} {bef : Nat → Nat → Bool} {bt : Nat → TypeId} {bl : Nat → List AV} {bs : Nat → Sh}
theorem DrM.text (R:DrM P c r sz ops S v W M bef bt bl bs):∀(i:Nat),i≤ops.size→∀t,(S i).1.get t=(TL ops v (S 0).1 (fun _=>true) i).get t
 |0,_,t=>rfl
 |i+1,hi,t=>by
  have e2:ops[i]?=some ops[i]:=Array.getElem?_eq_getElem (by omega)
  obtain⟨_,e5⟩:=R.slots i _ e2
  have ih:=R.text i (by omega) t
  rw[e5]
  by_cases hd:(ops[i]).dst=some t
  ·rw[TL_get_put rfl (by rw[e2];exact hd),hd]
   simp only
   rw[Tr.get_put,if_pos rfl]
  ·rw[TL_get_skip fun _=>by rw[e2];exact hd,← ih]
   cases hd2:(ops[i]).dst with
   |none=>rfl
   |some d=>
    simp only
    rw[Tr.get_put,if_neg fun e=>hd (by rw[hd2,e])]
def eff (M:Nat→Bool)(l:Nat→Bool) (p i:Nat):Bool:=l i && (!M i || Nat.ble (i+1) p)
theorem eff_l {l:Nat→Bool}{p i:Nat}(hm:M i=false∨i<p):eff M l p i=l i:=by
 unfold eff
 rcases hm with h |h
 ·rw[h];simp
 ·rw[show Nat.ble (i+1) p=true from Nat.ble_eq_true_of_le h];simp
theorem eff_hid {l:Nat→Bool}{p i:Nat}(hm:M i=true)(hp:p≤i):eff M l p i=false:=by
 have:Nat.ble (i+1) p=false:=by
  cases hb:Nat.ble (i+1) p with
  |false=>rfl
  |true=>have:=Nat.le_of_ble_eq_true hb;omega
 simp[eff,hm,this]
theorem eff_no {l:Nat→Bool}{p i:Nat}(hl:l i=false):eff M l p i=false:=by simp[eff,hl]
def Hid (ops:Array Oper)(M:Nat→Bool)(l:Nat→Bool) (p k d:Nat):Prop:=M k=true∧l k=true∧p≤k∧(ops[k]?).bind (·.dst)=some d
structure Core (c:Cx)(ops:Array Oper)(S:Nat→Tr AV×Tr ABlk×Nat)(v:Nat→AV)(M:Nat→Bool)(bt:Nat→TypeId)(bl:Nat→List AV)(bs:Nat→Sh)(σ0:Sg)(w0:World)(l:Nat→Bool) (p:Nat)(σ:Sg)(bk:Nat→Nat)(a:Act)(w:World):Prop where
 post:Post c.G σ0 (S 0).2.1 (S 0).2.2 w0 σ (S p).2.1 (S p).2.2 w
 tmok:∀t u,(∀k,¬Hid ops M l p k t)→(TL ops v (S 0).1 (eff M l p) ops.size).get t=some u→Rel σ u (a.tmps.getD t undef)
 mem:∀k d,Hid ops M l p k d→a.tmps.getD d undef=(bs k).conc (bk k)∧w0.heap.size≤bk k∧(∃L',w.heap[bk k]?=some (.cells L'.toArray (bt k))∧RelL σ (bl k) L')∧(∀i B,(S p).2.1.get i=some B→σ.blk i≠some (bk k))∧σ.imm (bk k)=none
 inj:∀k d k' d',Hid ops M l p k d→Hid ops M l p k' d'→bk k=bk k'→k=k'
theorem dst_of {j:Nat}{t:Tmp}(hj:(ops[j]?).bind (fun q:Oper=>q.dst)=some t):∃p:Oper,ops[j]?=some p∧p.dst=some t:=by
 cases hoj:ops[j]? with
 |none=>rw[hoj]at hj;cases hj
 |some q=>rw[hoj]at hj;exact⟨q,rfl,hj⟩
section
variable {σ0 : Sg} {w0 : World} {l : Nat → Bool} {bk : Nat → Nat}
theorem Core.adv (R:DrM P c r sz ops S v W M bef bt bl bs){p:Nat}(hp:p<ops.size)(hw:W p=false)(hl:M p=true→l p=true)(C:Core c ops S v M bt bl bs σ0 w0 l p σ bk a w):
  ∃τ,σ.Le τ∧Core c ops S v M bt bl bs σ0 w0 l (p+1) τ bk a w:=by
 obtain⟨o,e2⟩:∃o,ops[p]?=some o:=⟨_,Array.getElem?_eq_getElem hp⟩
 cases hm:M p with
 |false=>
  have hk:=R.keep p hp hw hm
  have hhid:∀k d,Hid ops M l (p+1) k d↔Hid ops M l p k d:=by
   intro k d
   unfold Hid
   constructor
   ·rintro⟨h1,h2,h3,h4⟩;exact⟨h1,h2,by omega,h4⟩
   ·rintro⟨h1,h2,h3,h4⟩
    have:k≠p:=fun e=>by rw[e,hm]at h1;cases h1
    exact⟨h1,h2,by omega,h4⟩
  have heff:∀i,eff M l (p+1) i=eff M l p i:=by
   intro i
   cases hmi:M i with
   |false=>rw[eff_l (.inl hmi),eff_l (.inl hmi)]
   |true=>
    have:i≠p:=fun e=>by rw[e,hm]at hmi;cases hmi
    rcases Nat.lt_or_ge i p with h1 |h1
    ·rw[eff_l (.inr h1),eff_l (.inr (by omega))]
    ·rw[eff_hid hmi h1,eff_hid hmi (by omega)]
  refine⟨σ,.refl σ,⟨by rw[hk];exact C.post,fun t u ht hu=>C.tmok t u (fun k hh=>ht k ((hhid k t).2 hh)) ?_,fun k d hh=>by rw[hk];exact C.mem k d ((hhid k d).1 hh),fun k d k' d' h1 h2=>C.inj k d k' d' ((hhid k d).1 h1) ((hhid k' d').1 h2)⟩⟩
  rw[← hu]
  exact TL_same _ fun j _ _=>(heff j).symm
 |true=>
  obtain⟨⟨d,hd⟩,hok,hv,hS,_⟩:=R.mkr p o e2 hm
  have hh0:Hid ops M l p p d:=⟨hm,hl hm,Nat.le_refl _,by rw[e2];exact hd⟩
  obtain⟨m1,m2,⟨L',m3,m4⟩,m5,m6⟩:=C.mem p d hh0
  have hle:σ.Le (σ.add (S p).2.2 (bk p) 0):=Sg.add_le (C.post.ok.fresh _ (Nat.le_refl _))
  have hnext:=Post.adopt2 C.post m2 m5 m6 0 (blkM (bt p) (bl p)) _ m3 (blkM_rel (m4.mono hle))
  have hhid:∀k d',Hid ops M l (p+1) k d'→Hid ops M l p k d'∧k≠p:=fun k d' ⟨h1,h2,h3,h4⟩=>⟨⟨h1,h2,by omega,h4⟩,by omega⟩
  refine⟨_,hle,⟨by rw[hS];exact hnext,fun t u ht hu=>?_,fun k d' hh=>?_,fun k d1 k' d2 h1 h2=>C.inj k d1 k' d2 (hhid k d1 h1).1 (hhid k' d2 h2).1⟩⟩
  ·by_cases htd:t=d
   ·subst htd
    have q1:=TL_stay (tm:=(S 0).1) (ops:=ops) (v:=v) (l:=eff M l (p+1)) (t:=t) (p+1) (ops.size-(p+1)) fun j hj1 hj2 hj3=>by
     obtain⟨q,hq1,hq2⟩:=dst_of hj3
     exact absurd hq2 (R.mdst j p q o t hq1 e2 hm hd (by omega))
    rw[show p+1+(ops.size-(p+1))=ops.size by omega]at q1
    rw[q1,TL_get_put (by rw[eff_l (.inr (by omega))];exact hl hm) (by rw[e2];exact hd)]at hu
    cases hu
    rw[m1,hv]
    exact Sh.rel hok (by simp[Sg.add])
   ·refine(C.tmok t u (fun k hh=>?_) ?_).mono hle
    ·by_cases hkp:k=p
     ·subst hkp
      have:=hh.2.2.2
      rw[e2]at this
      have:o.dst=some t:=this
      rw[hd]at this
      cases this
      exact htd rfl
     ·exact ht k ⟨hh.1,hh.2.1,by have:=hh.2.2.1;omega,hh.2.2.2⟩
    ·rw[← hu]
     refine TL_same _ fun j hj hj3=>?_
     by_cases hjp:j=p
     ·subst hjp
      rw[e2]at hj3
      have:o.dst=some t:=hj3
      rw[hd]at this
      cases this
      exact absurd rfl htd
     ·cases hmi:M j with
      |false=>rw[eff_l (.inl hmi),eff_l (.inl hmi)]
      |true=>
       rcases Nat.lt_or_ge j p with h1 |h1
       ·rw[eff_l (.inr h1),eff_l (.inr (by omega))]
       ·rw[eff_hid hmi h1,eff_hid hmi (by omega)]
  ·obtain⟨hh',hne⟩:=hhid k d' hh
   obtain⟨n1,n2,⟨L2,n3,n4⟩,n5,n6⟩:=C.mem k d' hh'
   refine⟨n1,n2,⟨L2,n3,n4.mono hle⟩,fun i B hi e=>?_,n6⟩
   rw[hS]at hi
   simp only at hi
   rw[Tr.get_put]at hi
   by_cases hi0:i=(S p).2.2
   ·subst hi0
    have:bk k=bk p:=by simpa[Sg.add]using e.symm
    exact hne (C.inj k d' p d hh' hh0 this)
   ·rw[if_neg hi0]at hi
    exact n5 i B hi (by simpa[Sg.add,hi0]using e)
theorem Core.advN (R:DrM P c r sz ops S v W M bef bt bl bs){p:Nat}:∀(n:Nat),p+n≤ops.size→(∀j,p≤j→j<p+n→W j=false)→(∀j,p≤j→j<p+n→M j=true→l j=true)→Core c ops S v M bt bl bs σ0 w0 l p σ bk a w→
  ∃τ,σ.Le τ∧Core c ops S v M bt bl bs σ0 w0 l (p+n) τ bk a w
 |0,_,_,_,C=>⟨σ,.refl σ,C⟩
 |n+1,hn,hw,hm,C=>by
  obtain⟨τ,h1,C1⟩:=Core.advN R n (by omega) (fun j h1 h2=>hw j h1 (by omega)) (fun j h1 h2=>hm j h1 (by omega)) C
  obtain⟨υ,h2,C2⟩:=Core.adv R (p:=p+n) (by omega) (hw _ (by omega) (by omega)) (hm _ (by omega) (by omega)) C1
  exact⟨υ,h1.trans h2,C2⟩
end
theorem put_getD {V:Value}{t:Tmp}(o:Option Tmp)(h:o≠some t):(a.put o V).tmps.getD t undef=a.tmps.getD t undef:=by
 cases o with
 |none=>rfl
 |some d=>
  have:d≠t:=fun e=>h (by rw[e])
  simp[Act.put,Array.getD_eq_getD_getElem?,this]
theorem put_getD_same {d:Tmp}{V:Value}(h:d<a.tmps.size):(a.put (some d) V).tmps.getD d undef=V:=by
 simp[Act.put,Array.getD_eq_getD_getElem?,h]
structure DInvM (c:Cx) (sz:Nat)(ops:Array Oper)(S:Nat→Tr AV×Tr ABlk×Nat)(v:Nat→AV)(W M:Nat→Bool)(bt:Nat→TypeId)(bl:Nat→List AV)(bs:Nat→Sh)(σ0:Sg)(w0:World)(D0:List Deferred)(l:Array Bool)(a:Act)(w:World):Prop where
 closed:Closed ops l
 inn:∀i,l.getD i false=true→i<ops.size
 pos:∃p σ bk,p≤ops.size∧(p=0∨W (p-1)=true)∧(∀j,j<ops.size→W j=true→(l.getD j false=true↔j<p))∧Core c ops S v M bt bl bs σ0 w0 (lf l) p σ bk a w
 size:a.tmps.size=sz
 defers:a.defers=D0
theorem DrM.stepI (R:DrM P c r sz ops S v W M bef bt bl bs){D0:List Deferred}{QQ:Exit→Act→World→Prop}{l:Array Bool}{a1:Act}{w1:World}{i:Nat}(hs:l.size=ops.size)(I:DInvM c sz ops S v W M bt bl bs σ w D0 l a1 w1)(hin:i<ops.size)(hnl:l.getD i false=false)(hdeps:∀k,dir ops k i=true→l.getD k false=true):
  wpOpIn (fence r) 0 P ops QQ i (DInvM c sz ops S v W M bt bl bs σ w D0 (l.setIfInBounds i true)) a1 w1:=by
 obtain⟨o,e2⟩:∃o,ops[i]?=some o:=⟨_,Array.getElem?_eq_getElem hin⟩
 obtain⟨e4,e5⟩:=R.slots i o e2
 obtain⟨p,τ,bk,hp,hp0,hpos,C⟩:=I.pos
 have hbefore:∀j,bef j i=true→l.getD j false=true:=fun j hj=>R.befOk j i hj l I.closed hdeps
 have hbehind:∀j,bef i j=true→l.getD j false=false:=by
  intro j hj
  cases hl:l.getD j false with
  |false=>rfl
  |true=>
   have:=R.befOk i j hj l I.closed fun k hk'=>I.closed j hl k hk'
   rw[hnl]at this
   cases this
 have hiL:i<l.size:=by omega
 have hset:∀j,(l.setIfInBounds i true).getD j false=if j=i then true else l.getD j false:=fun j=>getD_set hiL
 have hclosed:Closed ops (l.setIfInBounds i true):=by
  intro j hj k hk'
  rw[hset]at hj ⊢
  by_cases hki:k=i
  ·rw[if_pos hki]
  ·rw[if_neg hki]
   by_cases hji:j=i
   ·subst hji;exact hdeps k hk'
   ·rw[if_neg hji]at hj
    exact I.closed j hj k hk'
 have hinn:∀j,(l.setIfInBounds i true).getD j false=true→j<ops.size:=by
  intro j hj
  rw[hset]at hj
  by_cases hji:j=i
  ·omega
  ·rw[if_neg hji]at hj;exact I.inn j hj
 have hsz:∀V:Value,(a1.put o.dst V).tmps.size=sz:=by
  intro V
  cases hd:o.dst with
  |none=>exact I.size
  |some d=>simpa[Act.put]using I.size
 have hdf:∀V:Value,(a1.put o.dst V).defers=D0:=by
  intro V
  cases hd:o.dst with
  |none=>exact I.defers
  |some d=>exact I.defers
 have hsee:∀q,(∀k o' d,ops[k]?=some o'→M k=true→o'.dst=some d→d∈looks ops.toList o→k<q)→∀t∈looks ops.toList o,(S i).1.get t=(TL ops v (S 0).1 (eff M (lf l) q) ops.size).get t:=by
  intro q hq t ht
  rw[R.text i (by omega) t]
  have q1:=TL_stay (tm:=(S 0).1) (ops:=ops) (v:=v) (l:=eff M (lf l) q) (t:=t) i (ops.size-i) fun j hj1 hj2 hj3=>by
   obtain⟨q',hq1,hq2⟩:=dst_of hj3
   refine eff_no ?_
   by_cases hji:j=i
   ·subst hji;exact hnl
   ·exact hbehind j ((R.tmps i j o q' t e2 hq1 (fun e=>hji e.symm) hq2 (.inl ht)).2 (by omega))
  rw[show i+(ops.size-i)=ops.size by omega]at q1
  rw[q1]
  refine TL_same i fun j hj hj3=>?_
  obtain⟨q',hq1,hq2⟩:=dst_of hj3
  have h1:lf l j=true:=hbefore j ((R.tmps i j o q' t e2 hq1 (by omega) hq2 (.inl ht)).1 hj)
  rw[eff_l,h1]
  cases hm:M j with
  |false=>exact .inl rfl
  |true=>exact .inr (hq j q' t hq1 hm hq2 ht)
 have htm0:∀q σ',Core c ops S v M bt bl bs σ w (lf l) q σ' bk a1 w1→(∀k o' d,ops[k]?=some o'→M k=true→o'.dst=some d→d∈looks ops.toList o→k<q)→TmOk σ' (rst (looks ops.toList o) (S i).1) a1:=by
  intro q σ' C' hq
  rw[rst_congr (hsee q hq)]
  intro t u hu
  rw[rst_get]at hu
  split at hu
  ·rename_i ht
   refine C'.tmok t u (fun k hh=>?_) hu
   obtain⟨o',ho1,ho2⟩:=dst_of hh.2.2.2
   have:=hq k o' t ho1 hh.1 ho2 ht
   have:=hh.2.2.1
   omega
  ·cases hu
 cases hm:M i with
 |true=>
  obtain⟨⟨d,hd⟩,hok,hv,hS,hop⟩:=R.mkr i o e2 hm
  have hW:W i=false:=R.disj i hm
  have hpi:p≤i:=by
   rcases Nat.lt_or_ge i p with h1 |h1
   ·exfalso
    rcases hp0 with h2 |h2
    ·omega
    ·by_cases h3:i=p-1
     ·rw[← h3,hW]at h2;cases h2
     ·have h4:=(hpos (p-1) (by omega) h2).2 (by omega)
      have:=hbehind (p-1) (R.mkb i (p-1) (by omega) (by omega) hm h2)
      rw[h4]at this
      cases this
   ·exact h1
  have hds:d<a1.tmps.size:=by rw[I.size];exact e4 d hd
  have hnolook:∀k o' d,ops[k]?=some o'→M k=true→o'.dst=some d→d∈looks ops.toList o→k<p:=by
   intro k o' d' h1 h2 h3 h4
   have:=(R.mlook i k o o' d' e2 h1 h2 h3 h4).1
   rw[hW]at this
   cases this
  unfold wpOpIn
  rw[e2]
  refine hop τ _ _ a1 w1 C.post.ok (htm0 p τ C hnolook) QQ _ fun L' hL'=>?_
  have hne:∀t,t≠d→(a1.put o.dst ((bs i).conc w1.heap.size)).tmps.getD t undef=a1.tmps.getD t undef:=fun t ht=>put_getD _ (by rw[hd];intro e;cases e;exact ht rfl)
  have hhid:∀k d',Hid ops M (lf (l.setIfInBounds i true)) p k d'→(k=i∧d'=d)∨(k≠i∧d'≠d∧Hid ops M (lf l) p k d'):=by
   rintro k d' ⟨h1,h2,h3,h4⟩
   by_cases hki:k=i
   ·subst hki
    rw[e2]at h4
    have:o.dst=some d':=h4
    rw[hd]at this
    cases this
    exact .inl ⟨rfl,rfl⟩
   ·refine .inr ⟨hki,fun e=>?_,h1,?_,h3,h4⟩
    ·subst e
     obtain⟨o',ho1,ho2⟩:=dst_of h4
     exact R.mdst k i o' o d' ho1 e2 hm hd hki ho2
    ·have:(l.setIfInBounds i true).getD k false=true:=h2
     rw[hset,if_neg hki]at this
     exact this
  have hpush:∀b,b<w1.heap.size→(w1.heap.push (.cells L'.toArray (bt i)))[b]?=w1.heap[b]?:=by
   intro b hb
   rw[Array.getElem?_push,if_neg (by omega)]
  have hpost:Post c.G τ (S p).2.1 (S p).2.2 w1 τ (S p).2.1 (S p).2.2 { w1 with heap:=w1.heap.push (.cells L'.toArray (bt i)) }:=Post.same C.post.ok rfl rfl rfl (by simp) hpush
  refine⟨hclosed,hinn,⟨p,τ,fun k=>if k=i then w1.heap.size else bk k,hp,hp0,fun j hj hw=>?_,C.post.trans hpost,fun t u ht hu=>?_,fun k d' hh=>?_,fun k d1 k' d2 h1 h2 e=>?_⟩,hsz _,hdf _⟩
  ·rw[hset,if_neg (fun e=>by rw[e,hW]at hw;cases hw)]
   exact hpos j hj hw
  ·have htd:t≠d:=fun e=>ht i ⟨hm,by show (l.setIfInBounds i true).getD i false=true;rw[hset,if_pos rfl],hpi,by rw[e2,e];exact hd⟩
   rw[hne t htd]
   refine C.tmok t u (fun k hh=>ht k ⟨hh.1,?_,hh.2.2.1,hh.2.2.2⟩) ?_
   ·show (l.setIfInBounds i true).getD k false=true
    rw[hset]
    split
    ·rfl
    ·exact hh.2.1
   ·rw[← hu]
    refine TL_same _ fun j hj hj3=>?_
    by_cases hji:j=i
    ·subst hji
     rw[eff_hid hm hpi,eff_hid hm hpi]
    ·unfold eff
     have:lf (l.setIfInBounds i true) j=lf l j:=by
      show (l.setIfInBounds i true).getD j false=_
      rw[hset,if_neg hji]
      rfl
     rw[this]
  ·rcases hhid k d' hh with⟨h1,h2⟩ |⟨h1,h2,h3⟩
   ·subst h1
    subst h2
    simp only[if_true]
    refine⟨by rw[hd];exact put_getD_same hds,C.post.fr.size,⟨L',by simp,hL'⟩,fun j B hj e=>?_,?_⟩
    ·have:=C.post.ok.blt hj e
     omega
    ·cases hi:τ.imm w1.heap.size with
     |none=>rfl
     |some D=>
      obtain⟨⟨t,fr,h3⟩,_⟩:=C.post.ok.imm _ D hi
      have:=lt_of_heap h3
      omega
   ·simp only[if_neg h1]
    obtain⟨n1,n2,⟨L2,n3,n4⟩,n5,n6⟩:=C.mem k d' h3
    exact⟨by rw[hne d' h2];exact n1,n2,⟨L2,by show (w1.heap.push _)[_]?=_;rw[hpush _ (lt_of_heap n3)];exact n3,n4⟩,n5,n6⟩
  ·rcases hhid k d1 h1 with⟨a1',a2'⟩ |⟨a1',a2',a3'⟩ <;> rcases hhid k' d2 h2 with⟨c1,c2⟩ |⟨c1,c2,c3⟩
   ·omega
   ·simp only[a1',if_true,if_neg c1]at e
    obtain⟨n1,n2,⟨L2,n3,n4⟩,n5,n6⟩:=C.mem k' d2 c3
    have:=lt_of_heap n3
    omega
   ·simp only[c1,if_true,if_neg a1']at e
    obtain⟨n1,n2,⟨L2,n3,n4⟩,n5,n6⟩:=C.mem k d1 a3'
    have:=lt_of_heap n3
    omega
   ·simp only[if_neg a1',if_neg c1]at e
    exact C.inj k d1 k' d2 a3' c3 e
 |false=>
  have fin:∀(q q':Nat) (σ':Sg),Core c ops S v M bt bl bs σ w (lf l) q σ' bk a1 w1→(∀k o' d,ops[k]?=some o'→M k=true→o'.dst=some d→d∈looks ops.toList o→k<q)→(∀k,M k=true→(q≤k↔q'≤k))→
    OpY P c r ops o (v i) (rst (looks ops.toList o) (S i).1) (S q).2.1 (S q).2.2 (S q').2.1 (S q').2.2→
    (q'≤ops.size∧(q'=0∨W (q'-1)=true)∧(∀j,j<ops.size→W j=true→((l.setIfInBounds i true).getD j false=true↔j<q')))→
    wpOpIn (fence r) 0 P ops QQ i (DInvM c sz ops S v W M bt bl bs σ w D0 (l.setIfInBounds i true)) a1 w1:=by
   intro q q' σ' C' hq hqq hop hq'
   obtain⟨a1',a2',a3'⟩:=hq'
   have hhid:∀k d',Hid ops M (lf (l.setIfInBounds i true)) q' k d'↔Hid ops M (lf l) q k d':=by
    intro k d'
    have hk:M k=true→lf (l.setIfInBounds i true) k=lf l k:=by
     intro h1
     show (l.setIfInBounds i true).getD k false=_
     rw[hset,if_neg (fun e=>by rw[e,hm]at h1;cases h1)]
     rfl
    constructor
    ·rintro⟨h1,h2,h3,h4⟩;exact⟨h1,by rw[← hk h1];exact h2,(hqq k h1).2 h3,h4⟩
    ·rintro⟨h1,h2,h3,h4⟩;exact⟨h1,by rw[hk h1];exact h2,(hqq k h1).1 h3,h4⟩
   have heff:∀j,j≠i→eff M (lf (l.setIfInBounds i true)) q' j=eff M (lf l) q j:=by
    intro j hji
    have e:lf (l.setIfInBounds i true) j=lf l j:=by
     show (l.setIfInBounds i true).getD j false=_
     rw[hset,if_neg hji]
     rfl
    cases hmj:M j with
    |false=>rw[eff_l (.inl hmj),eff_l (.inl hmj),e]
    |true=>
     rcases Nat.lt_or_ge j q with h1 |h1
     ·have:j<q':=by
       rcases Nat.lt_or_ge j q' with h2 |h2
       ·exact h2
       ·have:=(hqq j hmj).2 h2;omega
      rw[eff_l (.inr h1),eff_l (.inr this),e]
     ·rw[eff_hid hmj h1,eff_hid hmj ((hqq j hmj).1 h1)]
   have hdne:∀k d',Hid ops M (lf l) q k d'→o.dst≠some d':=by
    rintro k d' ⟨h1,h2,h3,h4⟩
    obtain⟨o',ho1,ho2⟩:=dst_of h4
    exact R.mdst i k o o' d' e2 ho1 h1 ho2 fun e=>by rw[← e,hm]at h1;cases h1
   unfold wpOpIn
   rw[e2]
   refine hop σ' a1 w1 C'.post.ok (htm0 q σ' C' hq) QQ (DInvM c sz ops S v W M bt bl bs σ w D0 (l.setIfInBounds i true)) fun υ x V hV hP=>?_
   refine⟨hclosed,hinn,⟨q',υ,bk,a1',a2',a3',C'.post.trans hP,fun t u ht hu=>?_,fun k d' hh=>?_,fun k d1 k' d2 h1 h2=>C'.inj k d1 k' d2 ((hhid k d1).1 h1) ((hhid k' d2).1 h2)⟩,hsz V,hdf V⟩
   ·have hne:∀t,o.dst≠some t→(TL ops v (S 0).1 (eff M (lf (l.setIfInBounds i true)) q') ops.size).get t=(TL ops v (S 0).1 (eff M (lf l) q) ops.size).get t:=by
     intro t hd
     refine TL_same ops.size fun j hj hj3=>heff j fun e=>?_
     subst e
     rw[e2]at hj3
     exact hd hj3
    by_cases htd:o.dst=some t
    ·have hds:t<a1.tmps.size:=by rw[I.size];exact e4 t htd
     have q1:=TL_stay (tm:=(S 0).1) (ops:=ops) (v:=v) (l:=eff M (lf (l.setIfInBounds i true)) q') (t:=t) (i+1) (ops.size-(i+1)) fun j hj1 hj2 hj3=>by
      obtain⟨q2,hq1,hq2⟩:=dst_of hj3
      refine eff_no ?_
      show (l.setIfInBounds i true).getD j false=false
      rw[hset,if_neg (by omega)]
      exact hbehind j ((R.tmps i j o q2 t e2 hq1 (by omega) hq2 (.inr htd)).2 (by omega))
     rw[show i+1+(ops.size-(i+1))=ops.size by omega]at q1
     rw[q1,TL_get_put (by rw[eff_l (.inl hm)];show (l.setIfInBounds i true).getD i false=true;rw[hset,if_pos rfl]) (by rw[e2];exact htd)]at hu
     cases hu
     rw[htd,put_getD_same hds]
     exact hV
    ·rw[hne t htd]at hu
     rw[put_getD _ htd]
     exact(C'.tmok t u (fun k hh=>ht k ((hhid k t).2 hh)) hu).mono hP.le
   ·have hh':=(hhid k d').1 hh
    obtain⟨n1,n2,⟨L2,n3,n4⟩,n5,n6⟩:=C'.mem k d' hh'
    refine⟨by rw[put_getD _ (hdne k d' hh')];exact n1,n2,⟨L2,by rw[hP.fr.keep _ (lt_of_heap n3) n5];exact n3,n4.mono hP.le⟩,fun j B hj e=>?_,?_⟩
    ·rcases hP.fr.own j B _ hj e with h1 |⟨j',B',h1,h2⟩
     ·have:=lt_of_heap n3;omega
     ·exact n5 j' B' h1 h2
    ·cases hi:υ.imm (bk k) with
     |none=>rfl
     |some D=>
      rcases hP.fr.imm _ D hi with h1 |h1 |⟨j',B',h1,h2⟩
      ·rw[n6]at h1;cases h1
      ·have:=lt_of_heap n3;omega
      ·exact absurd h2 (n5 j' B' h1)
  cases hW:W i with
  |false=>
   have hvalid:∀j,j<ops.size→W j=true→(bef j i=true→j<p)∧(bef i j=true→p≤j):=by
    intro j hj hw
    refine⟨fun hb=>(hpos j hj hw).1 (hbefore j hb),fun hb=>?_⟩
    have:=hbehind j hb
    rcases Nat.lt_or_ge j p with h5 |h5
    ·rw[(hpos j hj hw).2 h5]at this;cases this
    ·exact h5
   refine fin p p τ C (fun k o' d h1 h2 h3 h4=>?_) (fun _ _=>Iff.rfl) (R.dyn i o e2 hW hm p hp hp0 hvalid) ⟨hp,hp0,fun j hj hw=>?_⟩
   ·have:=(R.mlook i k o o' d e2 h1 h2 h3 h4).1
    rw[hW]at this
    cases this
   ·rw[hset]
    by_cases hji:j=i
    ·subst hji
     rw[hW]at hw
     cases hw
    ·rw[if_neg hji]
     exact hpos j hj hw
  |true=>
   have hni:¬i<p:=fun hh=>by
    have:=(hpos i hin hW).2 hh
    rw[hnl]at this
    cases this
   have hnoW:∀j,p≤j→j<p+(i-p)→W j=false:=by
    intro j h5 h6
    cases hw:W j with
    |false=>rfl
    |true=>
     have:=(hpos j (by omega) hw).1 (hbefore j (R.chain j i (by omega) hin hw hW))
     omega
   obtain⟨υ,hle,C2⟩:=Core.advN R (i-p) (by omega) hnoW (fun j h5 h6 h7=>hbefore j (R.mkb j i (by omega) hin h7 hW)) C
   rw[Nat.add_sub_cancel' (by omega)]at C2
   refine fin i (i+1) υ C2 (fun k o' d h1 h2 h3 h4=>(R.mlook i k o o' d e2 h1 h2 h3 h4).2) (fun k hk=>?_) (R.step i o e2 hW) ⟨by omega,.inr hW,fun j hj hw=>?_⟩
   ·have:k≠i:=fun e=>by rw[e,hm]at hk;cases hk
    omega
   ·rw[hset]
    by_cases hji:j=i
    ·subst hji;simp
    ·rw[if_neg hji]
     constructor
     ·intro hl
      rcases Nat.lt_or_ge j i with h5 |h5
      ·omega
      ·have:=hbehind j (R.chain i j (by omega) hj hW hw)
       rw[hl]at this
       cases this
     ·intro h5
      exact hbefore j (R.chain j i (by omega) hin hw hW)
theorem drawnM_ok (hm:P.follows .mixedOrders=true)(R:DrM P c r sz ops S v W M bef bt bl bs)(hk:Ok c.G σ (S 0).2.1 (S 0).2.2 w)(st:St σ (S 0).1 a sz ds) (id:Nat){Q:AX→AS→Prop}(hQ0:Q .norm (.mk (S ops.size).1 (S ops.size).2.1 (S ops.size).2.2 ds)):
  (Code.region id ops true).wpIn (fence r) 0 P (AQ c.G σ (S 0).2.1 (S 0).2.2 w sz Q) a w:=by
 refine wpIn_region_any hm ?_
 have hd0:=Post.drawn hk (w.drawn+1)
 generalize hQ:AQ c.G σ (S 0).2.1 (S 0).2.2 w sz Q=QQ
 have hrep:∀i,(Array.replicate ops.size false).getD i false=false:=by
  intro i
  simp only[Array.getD_eq_getD_getElem?,Array.getElem?_replicate]
  split <;> rfl
 have hwf:∀(l:Array Bool) (i:Nat),l.size=ops.size→i∈Region.ready .any ops l→i<ops.size∧l.getD i false=false∧∀k,dir ops k i=true→l.getD k false=true:=by
  intro l i hs hi
  obtain⟨h1,h2,h3⟩:=ready_iff.1 hi
  have hlt:i<l.size:=by omega
  exact⟨h1,by simpa[Array.getD,hlt]using h2,h3⟩
 have hnoh:∀k d,¬Hid ops M (lf (Array.replicate ops.size false)) 0 k d:=fun k d hh=>by
  have:(Array.replicate ops.size false).getD k false=true:=hh.2.1
  rw[hrep]at this
  cases this
 refine wpAnyIn_inv (DInvM c sz ops S v W M bt bl bs σ w a.defers) ?step ?done ops.size _ a _ (by simp) ?count ?init
 case count=>
  simp
 case init=>
  refine⟨(fun j hj=>by rw[hrep]at hj;cases hj),(fun i hi=>by rw[hrep]at hi;cases hi),⟨0,σ,fun _=>0,by omega,.inl rfl,(fun j _ _=>⟨(fun e=>by rw[hrep]at e;cases e),(fun e=>by omega)⟩),hd0,?_,(fun k d hh=>absurd hh (hnoh k d)),fun k d _ _ hh=>absurd hh (hnoh k d)⟩,st.size,rfl⟩
  intro t u _ e
  have:(TL ops v (S 0).1 (eff M (lf (Array.replicate ops.size false)) 0) ops.size).get t=(S 0).1.get t:=by
   have:=TL_stay (tm:=(S 0).1) (ops:=ops) (v:=v) (l:=eff M (lf (Array.replicate ops.size false)) 0) (t:=t) 0 ops.size fun j _ _ _=>eff_no (hrep j)
   rw[Nat.zero_add]at this
   exact this
  rw[this]at e
  exact st.tm t u e
 case done=>
  intro l a1 w1 hs I hr
  have hall:=all_listed R.back hr hs
  obtain⟨p,τ,bk,hp,hp0,hpos,C⟩:=I.pos
  have hnoW:∀j,p≤j→j<p+(ops.size-p)→W j=false:=by
   intro j h1 h2
   cases hw:W j with
   |false=>rfl
   |true=>
    have:=(hpos j (by omega) hw).1 (hall j (by omega))
    omega
  obtain⟨υ,hle,C2⟩:=Core.advN R (ops.size-p) (by omega) hnoW (fun j _ h5 _=>hall j (by omega)) C
  rw[Nat.add_sub_cancel' hp]at C2
  rw[← hQ]
  refine⟨.norm,_,_,_,ds,υ,rfl,C2.post,⟨?_,I.size,?_⟩,hQ0⟩
  ·intro t u e
   refine C2.tmok t u (fun k hh=>?_) ?_
   ·obtain⟨o',ho1,ho2⟩:=dst_of hh.2.2.2
    have:=(Array.getElem?_eq_some_iff.1 ho1).1
    have:=hh.2.2.1
    omega
   ·rw[R.text ops.size (Nat.le_refl _) t]at e
    rw[← e]
    exact TL_same ops.size fun j hj _=>by rw[eff_l (.inr hj)];exact hall j hj
  ·rw[I.defers];exact st.defers.mono C2.post.le
 case step=>
  intro l a1 w1 i hs I hi
  obtain⟨hin,hnl,hdeps⟩:=hwf l i hs hi
  exact R.stepI hs I hin hnl hdeps
end
end
end Go.Ev
