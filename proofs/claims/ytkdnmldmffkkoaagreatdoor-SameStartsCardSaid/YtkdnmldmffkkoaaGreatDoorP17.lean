/- Texts T17 T18 Sim6 T19 T20 T21 T22. -/
import Derived.Test.YtkdnmldmffkkoaaGreatDoorP14
import Derived.Test.YtkdnmldmffkkoaaGreatDoorP15
import Derived.Test.YtkdnmldmffkkoaaGreatDoorP16
set_option linter.unusedSimpArgs false
set_option linter.unusedVariables false
set_option maxRecDepth 100000
namespace Go.Ev
open Go.Proofs
noncomputable section
attribute [-go_sem] zaf zac
def zhr (l:List Pv):List AV:=l.map fun p=>.agg p.cs
@[go_sem] theorem zWd (l:List Pv):(zhr l).length=l.length:=by simp[zhr]
@[go_sem] theorem zVz (l:List Pv) (k:Nat)(hk:k<(zhr l).length):(zhr l)[k]=.agg (l[k]'(by simpa[zhr]using hk)).cs:=by simp[zhr]
@[go_sem] theorem Pv.cs_len (p:Pv):p.cs.length=23:=by simp[Pv.cs,Fm.cs_len,Stt.cs_len]
@[go_sem] theorem Pv.cs_take (p:Pv):p.cs.take 23=p.cs:=List.take_of_length_le (by simp[Pv.cs_len])
theorem ft9:cx.ft.get 9=some Tryz.f9:=za9 (by decide) (by kernel_rfl)
open Classical in
theorem zu2 (u v:Bool)(l:List Fc)(ps:List Pv)(hp:ps.length≤1000000000):Ret Tryz.prog cx 9 [.agg [.fz 4 u (za8 l)],.fz 23 v (zhr ps)] (.bool (decide ((∀i (h:i<ps.length),zd9 ps[i] 40)∧zii l 8))):=by
 refine Ret.mk fun h nx R hR=>zaa (sz:=20) (rs:=[.tmp 4]) za4 ft9 rfl rfl rfl (by simp) ?_
 simp-implicitDefEqProofs[go_sem]
 refine zap (fun mm st=>∃tm k,st=.mk tm (h.put nx (some (bx 35 [.fz 4 u (za8 l)] false 0))) (nx+1) []∧mm=ps.length-k∧k≤ps.length∧tm.get 1=some (.fz 23 v (zhr ps))∧tm.get 2=some (.ptr nx 0)∧tm.get 5=some (.int .i64 (k:Int))∧RowKit.Hid (∀i (h:i<ps.length),i<k→zd9 ps[i] 40)) ⟨ps.length,_,0,rfl,by simp,by simp,?_⟩ ?_
 ·simp-implicitDefEqProofs[go_sem]
  exact Lib.hid trivial
 ·rintro mm st ⟨tm,k,rfl,rfl,hk,t1,t2,t5,hv⟩ J hJ
  refine zag za4 _ ?_
  have he:Ext nx h (h.put nx (some (bx 35 [.fz 4 u (za8 l)] false 0))):=(Ext.refl nx h).put (Nat.le_refl _) _
  by_cases hlt:k<ps.length
  ·simp-implicitDefEqProofs[go_sem,t1,t2,t5,hlt]
   refine Ret.use (zMw ps[k] 40 (by omega)) ?_
   by_cases hq:zd9 ps[k] 40
   ·simp-implicitDefEqProofs[go_sem,za0,t1,t2,t5,hq]
    refine hJ (ps.length-(k+1)) _ (by omega) ⟨_,k+1,rfl,rfl,by omega,?_⟩
    simp(disch:=omega) [go_sem,t1,t2,t5,zab]
    refine Lib.hid (fun i h hi=>?_)
    by_cases e:i=k
    ·subst e;exact hq
    ·exact hv.out i h (by omega)
   ·simp-implicitDefEqProofs[go_sem,za0,t1,t2,t5,hq]
    refine hR _ _ _ he (Fz.eq rfl ?_)
    congr 1
    symm
    exact decide_eq_false (fun q=>hq (q.1 k hlt))
  ·simp-implicitDefEqProofs[go_sem,t1,t2,t5,hlt]
   refine Ret.use (zIv u l 8 (by omega)) ?_
   simp-implicitDefEqProofs[go_sem,za0]
   refine hR _ _ _ he (Fz.eq rfl ?_)
   congr 1
   have hall:∀i (h:i<ps.length),zd9 ps[i] 40:=fun i h=>hv.out i h (by omega)
   by_cases q:zii l 8
   ·rw[decide_eq_true q,decide_eq_true ⟨hall,q⟩]
   ·rw[decide_eq_false q,decide_eq_false (fun x=>q x.2)]
theorem zQt:cx.ft.get 135=some Tryz.f135:=za9 (by decide) (by kernel_rfl)
theorem zI3:cx.ft.get 91=some Tryz.f91:=za9 (by decide) (by kernel_rfl)
open Classical in
def zcj (l:List ByteArray)(x:ByteArray):List ByteArray:=if x∈l then l else l++[x]
def zaz (l:List ByteArray):List ByteArray:=l.foldl zcj []
theorem zKu (l:List ByteArray)(x:ByteArray):zaz (l++[x])=zcj (zaz l) x:=by simp[zaz]
theorem zRh {l:List ByteArray}{x y:ByteArray}:y∈zcj l x↔y∈l∨y=x:=by
 unfold zcj
 split
 ·rename_i h
  exact⟨.inl,fun h1=>by rcases h1 with h1 |h1;exact h1;rw[h1];exact h⟩
 ·simp
theorem zhc (y:ByteArray)(l:List ByteArray):y∈zaz l↔y∈l:=by
 have key:∀(l a:List ByteArray),y∈l.foldl zcj a↔y∈a∨y∈l:=by
  intro l
  induction l with
  |nil=>intro a;simp
  |cons x l ih=>
   intro a
   rw[List.foldl_cons,ih,zRh]
   simp[or_assoc]
 simpa[zaz]using key l []
theorem zKj (l:List ByteArray):(zaz l).length≤l.length:=by
 have key:∀(l a:List ByteArray),(l.foldl zcj a).length≤a.length+l.length:=by
  intro l
  induction l with
  |nil=>intro a;simp
  |cons x l ih=>
   intro a
   rw[List.foldl_cons]
   have:=ih (zcj a x)
   have h2:(zcj a x).length≤a.length+1:=by unfold zcj;split <;> simp
   simp
   omega
 simpa[zaz]using key l []
theorem zti (l:List ByteArray):(zaz l).Nodup:=by
 have key:∀(l a:List ByteArray),a.Nodup→(l.foldl zcj a).Nodup:=by
  intro l
  induction l with
  |nil=>intro a h;exact h
  |cons x l ih=>
   intro a h
   rw[List.foldl_cons]
   refine ih _ ?_
   unfold zcj
   split
   ·exact h
   ·rename_i hx
    rw[List.nodup_append]
    exact⟨h,by simp,fun a ha b hb e=>by simp at hb;subst hb;subst e;exact hx ha⟩
 exact key l [] (by simp)
theorem zv8 (l:List ByteArray):∀(n i:Nat),(zc0 l n)[i]?=(l[i]?).map fun x=>(.bs x,.bool true,n+i):=by
 induction l with
 |nil=>intro n i;simp[zc0]
 |cons y l ih=>
  intro n i
  cases i with
  |zero=>simp[zc0]
  |succ i=>simp[zc0,ih,show n+1+i=n+(i+1) by omega]
theorem zou {x:ByteArray}:∀{l:List ByteArray}(i:Nat),x∈l→∃j,l[j]?=some x∧fnd x l i=some (i+j,.bool true)
 |[],_,h=>by cases h
 |y::l,i,h=>by
  rw[fnd]
  by_cases e:x=y
  ·exact⟨0,by simp[e],by simp[e]⟩
  ·rw[if_neg e]
   have hm:x∈l:=by
    rcases List.mem_cons.1 h with h1 |h1
    ·exact absurd h1 e
    ·exact h1
   obtain⟨j,h1,h2⟩:=zou (i+1) hm
   exact⟨j+1,by simpa using h1,by rw[h2];congr 2;omega⟩
theorem zwp {x:ByteArray}{l:List ByteArray}{j:Nat}(hj:l[j]?=some x):(zc0 l 0).modify j (fun e=>match e with |(_,_,n)=>(.bs x,.bool true,n))=zc0 l 0:=by
 apply List.ext_getElem?
 intro i
 rw[List.getElem?_modify,zv8]
 by_cases e:j=i
 ·subst e
  simp[hj]
 ·simp[e]
def setM (l:List ByteArray):ABlk:=.map (zc0 (zaz l) 0) (zaz l).length
theorem zCh (full:Bool)(l:List ByteArray)(hl:l.length≤1000000000)(h:Tr ABlk) (nx:Nat)(R:AV→Tr ABlk→Nat→Prop)(hR:∀g,Ext nx h g→g.get nx=some (setM l)→R (.map nx) g (nx+1)):za7 Tryz.prog cx 135 [.fz 1 full (zaj l)] h nx R:=by
 refine zaa (sz:=17) (rs:=[.tmp 2]) za4 zQt rfl rfl rfl (by simp) ?_
 simp-implicitDefEqProofs[go_sem]
 refine zap (fun mm st=>∃tm h' k,st=.mk tm h' (nx+1) []∧mm=l.length-k∧k≤l.length∧tm.get 3=some (.map nx)∧tm.get 7=some (.fz 1 full (zaj l))∧tm.get 8=some (.int .i64 (l.length:Int))∧tm.get 9=some (.int .i64 (k:Int))∧Ext nx h h'∧h'.get nx=some (.map (zc0 (zaz (l.take k)) 0) (zaz (l.take k)).length)) ⟨l.length,_,_,0,rfl,by simp,by simp,?_⟩ ?_
 ·simp-implicitDefEqProofs[go_sem,zc0,zaz]
  exact(Ext.refl nx h).put (Nat.le_refl _) _
 ·rintro mm st ⟨tm,h',k,rfl,rfl,hk,t3,t7,t8,t9,he,g0⟩ J hJ
  refine zag za4 _ ?_
  by_cases hlt:k<l.length
  ·have ht:zaz (l.take (k+1))=zcj (zaz (l.take k)) l[k]:=by rw[List.take_succ_eq_append_getElem hlt,zKu]
   by_cases hx:l[k]∈zaz (l.take k)
   ·obtain⟨j,h1,h2⟩:=zou 0 hx
    rw[Nat.zero_add]at h2
    have h3:=zwp h1
    have ht2:zaz (l.take (k+1))=zaz (l.take k):=by rw[ht,zcj,if_pos hx]
    simp-implicitDefEqProofs[go_sem,t3,t7,t8,t9,hlt,g0,h2]
    refine hJ (l.length-(k+1)) _ (by omega) ⟨_,_,k+1,rfl,rfl,by omega,?_⟩
    simp(disch:=omega) [go_sem,t3,t7,t8,t9,zab]
    refine⟨he.put (Nat.le_refl _) _,?_⟩
    rw[ht2]
    simpa using h3
   ·have ht2:zaz (l.take (k+1))=zaz (l.take k)++[l[k]]:=by rw[ht,zcj,if_neg hx]
    simp-implicitDefEqProofs[go_sem,t3,t7,t8,t9,hlt,g0,hx]
    refine hJ (l.length-(k+1)) _ (by omega) ⟨_,_,k+1,rfl,rfl,by omega,?_⟩
    simp(disch:=omega) [go_sem,t3,t7,t8,t9,zab]
    refine⟨he.put (Nat.le_refl _) _,?_⟩
    rw[ht2,← zom]
    simp
  ·simp-implicitDefEqProofs[go_sem,t3,t7,t8,t9,hlt]
   refine hR _ he ?_
   rw[g0,List.take_of_length_le (by omega)]
   rfl
theorem zru {l:List ByteArray}{e:AV×AV×Nat}:e∈zc0 l 0↔∃i,∃h:i<l.length,e=(.bs l[i],.bool true,i):=by
 rw[List.mem_iff_getElem?]
 constructor
 ·rintro⟨i,h⟩
  rw[zv8]at h
  cases hi:l[i]? with
  |none=>rw[hi]at h;cases h
  |some x=>
   rw[hi]at h
   obtain⟨h1,h2⟩:=List.getElem?_eq_some_iff.1 hi
   simp at h
   exact⟨i,h1,by rw[← h,h2]⟩
 ·rintro⟨i,h,e⟩
  refine⟨i,?_⟩
  rw[zv8,List.getElem?_eq_getElem h,e]
  simp
theorem zE6 (l:List ByteArray):∀n,(zc0 l n).map (fun e=>e.2.2)=(List.range l.length).map (n+·):=by
 induction l with
 |nil=>intro n;rfl
 |cons x l ih=>
  intro n
  rw[zc0,List.map_cons,ih,List.length_cons,List.range_succ_eq_map]
  simp[List.map_map]
  intro a _
  omega
theorem zMm (l:List ByteArray):((zc0 l 0).map (fun e=>e.2.2)).Nodup:=by
 rw[zE6]
 simp
 exact List.nodup_range
theorem zo2 {α:Type}:∀{s t:List α},s.Nodup→(∀x∈s,x∈t)→s.length≤t.length
 |[],t,_,_=>by simp
 |x::s,t,hn,h=>by
  obtain⟨l1,l2,rfl⟩:=List.append_of_mem (h x List.mem_cons_self)
  rw[List.nodup_cons]at hn
  have:=zo2 (t:=l1++l2) hn.2 fun y hy=>by
   have h1:=h y (List.mem_cons_of_mem _ hy)
   simp only[List.mem_append,List.mem_cons]at h1 ⊢
   rcases h1 with h1 |h1 |h1
   ·exact .inl h1
   ·exact absurd (h1 ▸ hy) hn.1
   ·exact .inr h1
  simp at this ⊢
  omega
theorem zL5 {n:Nat}{s:List Nat}(h1:s.Nodup)(h2:∀b∈s,b<n):s.length≤n:=by
 have:=zo2 h1 (t:=List.range n) fun b hb=>List.mem_range.2 (h2 b hb)
 simpa using this
theorem zTt {a b:List ByteArray}(h:∀x,x∈a→x∈b):((zaz a).length=(zaz b).length↔∀x,x∈b→x∈a):=by
 have hs:∀x∈zaz a,x∈zaz b:=fun x hx=>(zhc x b).2 (h x ((zhc x a).1 hx))
 have s1:=zo2 (zti a) hs
 constructor
 ·intro e x hx
  rcases Classical.em (x∈a) with h1 |h1
  ·exact h1
  ·have h2:¬x∈zaz a:=fun q=>h1 ((zhc x a).1 q)
   have:=zo2 (s:=x::zaz a) (t:=zaz b) (List.nodup_cons.2 ⟨h2,zti a⟩) fun y hy=>by
    rcases List.mem_cons.1 hy with h3 |h3
    ·rw[h3];exact(zhc x b).2 hx
    ·exact hs y h3
   simp at this
   omega
 ·intro h2
  have s2:=zo2 (zti b) (t:=zaz a) (fun x hx=>(zhc x a).2 (h2 x ((zhc x b).1 hx)))
  omega
def zw3 (o:Option ABlk)(h:Tr ABlk) (nx:Nat):R:=match o with
 |some (.map es _)=>.val (.int .i64 (es.length:Int)) h nx
 |_=>.fail
@[go_sem] theorem ye8 (k e:TypeId) (s b:Nat)(z:Option AV)(f:List (Nat×Nat×Bool)) (i:Nat)(h:Tr ABlk) (nx:Nat):zdu (.mk (.map k e) s b z f) (.map i) h nx=zw3 (h.get i) h nx:=by
 unfold zdu zw3
 simp only
 cases h.get i with
 |none=>rfl
 |some B=>cases B <;> simp[vInt,fN_eq]
@[go_sem] theorem ycr (es:List (AV×AV×Nat)) (cl:Nat)(h:Tr ABlk) (nx:Nat):zw3 (some (.map es cl)) h nx=.val (.int .i64 (es.length:Int)) h nx:=rfl
open Classical in
theorem zG2 (fa fb:Bool)(a b:List ByteArray)(ha:a.length≤1000000000)(hb:b.length≤1000000000):Ret Tryz.prog cx 91 [.fz 1 fa (zaj a),.fz 1 fb (zaj b)] (.bool (decide (∀x,x∈a↔x∈b))):=by
 refine Ret.mk fun h nx R hR=>zaa (sz:=27) (rs:=[.tmp 4]) za4 zI3 rfl rfl rfl (by simp) ?_
 simp-implicitDefEqProofs[go_sem]
 refine zCh fa a ha _ _ _ fun g1 e1 m1=>?_
 simp-implicitDefEqProofs[go_sem,za0]
 refine zCh fb b hb _ _ _ fun g2 e2 m2=>?_
 have m1':g2.get nx=some (setM a):=by rw[e2 nx (by omega)];exact m1
 have E:Ext nx h g2:=fun k hk=>by rw[e2 k (by omega)];exact e1 k hk
 have la:=zKj a
 simp-implicitDefEqProofs[go_sem,za0]
 refine⟨nx,_,_,_,_,_,_,_,_,by simp[go_sem],m1',zIx,?_⟩
 simp-implicitDefEqProofs[go_sem,zas]
 refine zap (fun mm st=>∃tm h' seen cl,st=.mk tm h' (nx+1+1+1) []∧mm=(zaz a).length-seen.length∧tm.get 5=some (.map nx)∧tm.get 6=some (.map (nx+1))∧tm.get 13=some (.ptr (nx+1+1) 0)∧Ext nx h h'∧h'.get nx=some (setM a)∧h'.get (nx+1)=some (setM b)∧h'.get (nx+1+1)=some (.miter nx (zaz a).length seen cl)∧(zaz a).length≤cl∧RowKit.Hid (seen.Nodup∧(∀q∈seen,q<(zaz a).length)∧∀q (hq:q<(zaz a).length),q∈seen→(zaz a)[q]∈b)) ⟨(zaz a).length,_,_,[],(zaz a).length,rfl,by simp,?_⟩ ?_
 ·have k1:¬nx=nx+1+1:=by omega
  have k2:¬nx+1=nx+1+1:=by omega
  simp-implicitDefEqProofs[go_sem,k1,k2,m1',m2]
  exact⟨E.put (by omega) _,Lib.hid trivial⟩
 ·rintro mm st ⟨tm,h',seen,cl,rfl,rfl,t5,t6,t13,hE,g1,g2,g3,hcl,hv⟩ J hJ
  refine zag za4 _ ?_
  have k1:¬nx=nx+1+1:=by omega
  have k2:¬nx+1=nx+1+1:=by omega
  have hv':=hv.out
  simp-implicitDefEqProofs[go_sem,t5,t6,t13]
  refine⟨nx+1+1,nx,(zaz a).length,seen,cl,_,_,by simp[go_sem,t13],g3,g1,fun e he=>?_,hcl,fun hall=>?_,fun e he hns=>?_⟩
  ·obtain⟨i,hi,rfl⟩:=zru.1 he
   exact hi
  ·have hsub:∀x,x∈a→x∈b:=by
    intro x hx
    obtain⟨i,hi,e⟩:=List.getElem_of_mem ((zhc x a).2 hx)
    have:=hv'.2.2 i hi (hall _ (zru.2 ⟨i,hi,rfl⟩))
    rw[e]at this
    exact this
   have heq:=zTt hsub
   simp-implicitDefEqProofs[go_sem,zas,t5,t6,t13,g1,g2,setM]
   refine hR _ _ _ hE (Fz.eq rfl ?_)
   congr 1
   have hlen:∀l:List ByteArray,(zc0 l 0).length=l.length:=fun l=>by
    have:=congrArg List.length (zE6 l 0)
    simpa using this
   by_cases hq:(zaz a).length=(zaz b).length
   ·have:=heq.1 hq
    have h3:∀x,x∈a↔x∈b:=fun x=>⟨hsub x,this x⟩
    simp[hlen,hq,h3]
   ·have h3:¬∀x,x∈a↔x∈b:=fun h3=>hq (heq.2 fun x hx=>(h3 x).2 hx)
    have h4:¬((zaz a).length:Int)=((zaz b).length:Int):=by omega
    simp[hlen,h4,h3]
  ·obtain⟨i,hi,rfl⟩:=zru.1 he
   simp only at hns
   simp-implicitDefEqProofs[go_sem,zas,t5,t6,t13]
   refine⟨nx+1+1,nx,(zaz a).length,seen,zc0 (zaz a) 0,(zaz a).length,(.bs (zaz a)[i],.bool true,i),by simp[go_sem,t13],by simp[go_sem],by simp[go_sem,k1];exact g1,zru.2 ⟨i,hi,rfl⟩,zMm _,?_⟩
   by_cases hb2:(zaz a)[i]∈zaz b
   ·simp-implicitDefEqProofs[go_sem,zas,t5,t6,t13,k1,k2,g1,g2,setM,hb2]
    have hn2:(seen++[i]).Nodup:=by
     rw[List.nodup_append]
     exact⟨hv'.1,by simp,fun x hx y hy e=>by simp at hy;subst hy;subst e;exact hns hx⟩
    have hlt2:∀q∈seen++[i],q<(zaz a).length:=by
     intro q hq
     rcases List.mem_append.1 hq with h1 |h1
     ·exact hv'.2.1 q h1
     ·simp at h1;omega
    have hl2:=zL5 hn2 hlt2
    simp at hl2
    refine hJ ((zaz a).length-(seen++[i]).length) _ (by simp;omega) ⟨_,_,seen++[i],(zaz a).length,rfl,rfl,?_⟩
    simp[go_sem,t5,t6,t13,k1,k2,g1,g2,setM]
    refine⟨hE.put (by omega) _,Lib.hid ⟨hn2,fun q hq=>hlt2 q (by simpa using hq),fun q hq hm=>?_⟩⟩
    rcases hm with h1 |h1
    ·exact hv'.2.2 q hq h1
    ·subst h1
     exact(zhc _ b).1 hb2
   ·simp-implicitDefEqProofs[go_sem,zas,t5,t6,t13,k1,k2,g1,g2,setM,hb2,zac]
    refine hR _ _ _ (hE.put (i:=nx+1+1) (by omega) _) (Fz.eq rfl ?_)
    have h3:¬∀x,x∈a↔x∈b:=fun h3=>hb2 ((zhc _ b).2 ((h3 _).1 ((zhc _ a).1 (List.getElem_mem hi))))
    simp[h3]
end
end Go.Ev
namespace Go.Ev
noncomputable section
variable {P : Program} {c : Cx} {sz : Nat} {tm : Tr AV} {h : Tr ABlk} {nx : Nat} {ds : List DE} {s : AS} {ops : List Oper} {Wl Cl : List Nat} {U : List (Nat × Nat)}
@[go_sem ↓] theorem ye0 (K:(Nat→Tr ABlk)→AS→Prop) (i:Nat)(hs:Nat→Tr ABlk):zh2 P c sz ops Wl Cl U K [] i hs s=K hs s:=rfl
@[go_sem ↓] theorem zV2 (K:(Nat→Tr ABlk)→AS→Prop)(o:Oper)(l:List Oper) (i:Nat)(hs:Nat→Tr ABlk):zh2 P c sz ops Wl Cl U K (o::l) i hs s=zf9 P c sz ops Wl Cl U i hs o (zh2 P c sz ops Wl Cl U K l (i+1)) s:=rfl
@[go_sem ↓] theorem ydp (i:Nat)(o1 o2:Oper)(t:List Oper):zho i (o1::o2::t)=o1::zij i o2::t:=rfl
@[go_sem ↓] theorem ydt (i:Nat)(o1 o2:Oper)(t:List Oper):zhq i (o1::o2::t)=reO i o2::zij i (reO i o1)::t.map (reO i):=rfl
@[go_sem ↓] theorem yb0 (i:Nat)(dst:Option Tmp)(op:Op)(ty:TypeId)(pos:String)(aft:Array Edge)(g:Option (Nat×Bool)):reO i ⟨dst,op,ty,pos,aft,g⟩=⟨dst,op,ty,pos,aft.map (reE i),g⟩:=rfl
@[go_sem ↓] theorem zXc (i:Nat)(dst:Option Tmp)(op:Op)(ty:TypeId)(pos:String)(aft:Array Edge)(g:Option (Nat×Bool)):zij i ⟨dst,op,ty,pos,aft,g⟩=⟨dst,op,ty,pos,aft.push { on:=i,ground:=.data },g⟩:=rfl
@[go_sem ↓] theorem zW9 (l1 l2:List Oper)(fl:List (Nat×Nat×Nat)) (m2:Nat)(Kf:AS→Prop):zpa P c sz l1 l2 fl m2 Kf (.mk tm h nx ds)=((∀p∈fl,∃u,tm.get p.2.2=some u∧tm.get p.2.1=some u∧p.2.2<sz)∧awO P c sz (l1++l2) (fun s'=>awO P c sz (l1++l2) Kf (l2.drop m2) (zg3 fl tm s')) (l2.take m2) (.mk (zg2 fl tm) h nx ds)):=rfl
@[go_sem] theorem ydb:zg2 [] tm=tm:=rfl
@[go_sem] theorem zX3 (p:Nat×Nat×Nat)(l:List (Nat×Nat×Nat)):zg2 (p::l) tm=(zg2 l tm).put p.2.2 none:=rfl
@[go_sem] theorem ybo (fl:List (Nat×Nat×Nat))(tm0:Tr AV):zg3 fl tm0 (.mk tm h nx ds)=.mk (zfy fl tm0 tm) h nx ds:=rfl
@[go_sem] theorem yci (tm0:Tr AV):zfy [] tm0 tm=tm:=rfl
@[go_sem] theorem zV1 (p:Nat×Nat×Nat)(l:List (Nat×Nat×Nat))(tm0:Tr AV):zfy (p::l) tm0 tm=(zfy l tm0 tm).put p.2.2 (tm0.get p.2.2):=rfl
theorem znm (hm:P.follows .mixedOrders=true)(hc:CxOk P c)(hG:c.G.sym=true){inr:Bool}{id:Nat}{l:List Oper}(k:Nat)(Wl Cl:List Nat)(U:List (Nat×Nat))(fl:List (Nat×Nat×Nat)) (m2:Nat)(hstat:zhs c (l.take k) (zak (l.take k) []) Wl Cl U=true)(hsp:zov (zak l []) (l.take k) (l.drop k) Wl fl m2=true){Q:AX→AS→Prop}{s:AS}
  (hw:awD P c sz (l.take k) Wl Cl U (zpa P c sz (l.take k) (l.drop k) fl m2 (Q .norm)) (l.take k) 0 (fun _=>.nil) s):AW P c inr sz (.region id l.toArray true) Q s:=by
 have:=zMl (inr:=inr) (id:=id) hm hc hG (l1:=l.take k) (l2:=l.drop k) Wl Cl U fl m2 hstat (by rw[List.take_append_drop];exact hsp) hw
 rw[List.take_append_drop]at this
 exact this
@[go_sem] theorem ye5 (i:Nat)(hs:Nat→Tr ABlk) (a b:Nat)(U:List (Nat×Nat)):zjd c ops i tm hs h ((a,b)::U)=((a=i→b<i→zbu (fpv c ops i tm) h (hs b))∧zjd c ops i tm hs h U):=rfl
@[go_sem] theorem zVr (j:Nat)(h':Tr ABlk) (a b:Nat)(U:List (Nat×Nat)):zik c ops j tm h h' ((a,b)::U)=((b=j→a<j→zbu (fpv c ops a tm) h h')∧zik c ops j tm h h' U):=rfl
@[go_sem] theorem zW0 (j:Nat):fpv c ops j tm=match ops[j]? with
 |some o=>(fpO o.op).bind (evO c.G tm)
 |none=>none:=rfl
attribute [go_sem] zc3 zcy
@[go_sem] theorem zXs (t:TypeId)(x:Operand):fpO (.load t x)=some x:=rfl
@[go_sem] theorem zYh (cs:List AV)(h':Tr ABlk):zbu (some (.ip cs)) h h'=True:=rfl
@[go_sem] theorem zWo (k o:Nat)(h':Tr ABlk):zbu (some (.ptr k o)) h h'=(h'.get k=h.get k):=rfl
end
end Go.Ev
namespace Go.Ev
open Go.Proofs
noncomputable section
attribute [-go_sem] zaf zac
theorem zGs:cx.ft.get 43=some Tryz.f43:=za9 (by decide) (by kernel_rfl)
def zg8 (a b:Pv):Prop:=a.id=b.id∧a.rank=b.rank∧a.kind=b.kind∧a.name=b.name∧a.value=b.value∧∀x,x∈a.except↔x∈b.except
set_option maxHeartbeats 2000000 in
open Classical in
theorem zIg (a b:Pv)(v:AV)(ha:a.except.length≤1000000000)(hb:b.except.length≤1000000000):Ret Tryz.prog cx 43 [.ip (a.cs++(b.cs++[v]))] (.tup [.bool (!(decide (zg8 a b))),.sl0,.int .i64 0]):=by
 have c1:=zG2 false false a.except b.except ha hb
 unfold zg8
 rcases a with⟨id,rank,kind,name,value,⟨w1,w2,w3,w4,w5⟩,ex,⟨b1,b2,b3,b4⟩,⟨e1,e2,e3,e4⟩,⟨g1,g2,g3,g4⟩⟩
 rcases b with⟨id',rank',kind',name',value',⟨w1',w2',w3',w4',w5'⟩,ex',⟨b1',b2',b3',b4'⟩,⟨e1',e2',e3',e4'⟩,⟨g1',g2',g3',g4'⟩⟩
 dsimp only at c1 ⊢
 generalize hs1:decide (∀x,x∈ex↔x∈ex')=s1 at c1
 refine Ret.mk fun h nx R hR=>zaa (sz:=59) (rs:=[.tmp 2,.tmp 3,.tmp 4]) za4 zGs rfl rfl rfl (by simp) ?_
 simp-implicitDefEqProofs[go_sem]
 refine zD1 mixed za4 zbe 8 [8,9,10,11] [] [(3,8),(3,9),(7,8),(7,9),(7,10)] (by kernel_rfl) (by kernel_rfl) (by kernel_rfl) ?_
 have fin:∀(x:Bool) (g:Tr ABlk) (ny:Nat),Ext nx h g→(x=true↔¬(id=id'∧rank=rank'∧kind=kind'∧name=name'∧value=value'∧∀x,x∈ex↔x∈ex'))→R (.tup [.bool x,.sl0,.int .i64 0]) g ny:=by
  intro x g ny he hx
  refine hR _ _ _ he (Fz.eq rfl ?_)
  congr 2
  cases x
  ·simp at hx;simp[hx]
  ·have:=hx.1 rfl
   simp[this]
 have E:∀(x y z u:Option ABlk),Ext nx h ((((h.put nx x).put (nx+1) y).put nx z).put (nx+1) u):=fun x y z u=>(((((Ext.refl nx h).put (Nat.le_refl _) _).put (by omega) _).put (by omega) _).put (by omega) _)
 have E':∀(x y z u:Option ABlk),Ext nx h ((((h.put nx x).put (nx+1) y).put (nx+1) z).put nx u):=fun x y z u=>(((((Ext.refl nx h).put (Nat.le_refl _) _).put (by omega) _).put (by omega) _).put (by omega) _)
 have d1:s1=true↔∀x,x∈ex↔x∈ex':=by rw[← hs1];simp
 simp-implicitDefEqProofs[go_sem,Pv.cs,Fm.cs,Stt.cs]
 refine⟨?_,?_⟩
 ·simp(maxSteps:=1000000) +contextual -implicitDefEqProofs[go_sem]
  refine zsf (fid:=91) (first:=[]) (cap:=[]) (l:=[.fz 1 false (zaj ex),.fz 1 false (zaj ex')]) (by simp[go_sem]) ?_ c1 ?_
  ·simp +contextual -implicitDefEqProofs[go_sem]
  simp +contextual -implicitDefEqProofs[go_sem,zas]
  refine fin _ _ _ (E _ _ _ _) ?_
  rw[← d1]
  cases s1 <;> simp <;> (by_cases h1:id=id' <;> by_cases h2:rank=rank' <;> by_cases h3:kind=kind' <;> by_cases h4:name=name' <;> by_cases h5:value=value' <;> simp[h1,h2,h3,h4,h5])
 ·simp(maxSteps:=1000000) +contextual -implicitDefEqProofs[go_sem]
  refine zsf (fid:=91) (first:=[]) (cap:=[]) (l:=[.fz 1 false (zaj ex),.fz 1 false (zaj ex')]) (by simp[go_sem]) ?_ c1 ?_
  ·simp +contextual -implicitDefEqProofs[go_sem]
  simp +contextual -implicitDefEqProofs[go_sem,zas]
  refine fin _ _ _ (E' _ _ _ _) ?_
  rw[← d1]
  cases s1 <;> simp <;> (by_cases h1:id=id' <;> by_cases h2:rank=rank' <;> by_cases h3:kind=kind' <;> by_cases h4:name=name' <;> by_cases h5:value=value' <;> simp[h1,h2,h3,h4,h5])
theorem zLk:cx.ft.get 204=some Tryz.f204:=za9 (by decide) (by kernel_rfl)
theorem zKs:cx.ft.get 205=some Tryz.f205:=za9 (by decide) (by kernel_rfl)
theorem zIb:cx.ft.get 214=some Tryz.f214:=za9 (by decide) (by kernel_rfl)
theorem zH1:cx.ft.get 295=some Tryz.f295:=za9 (by decide) (by kernel_rfl)
theorem zO8:cx.ft.get 261=some Tryz.f261:=za9 (by decide) (by kernel_rfl)
theorem zRy:cx.ft.get 210=some Tryz.f210:=za9 (by decide) (by kernel_rfl)
theorem zIq:cx.ft.get 211=some Tryz.f211:=za9 (by decide) (by kernel_rfl)
def zfi (b:Bool):Fm:=.mk (if b then 1 else 2) .empty 0 0 []
theorem zww (b:Bool):Ret Tryz.prog cx 204 [.bool b] (.agg (zfi b).cs):=by
 refine Ret.wk (u:=.agg [.int .i64 (if b then 1 else 2),.bs .empty,.int .i64 0,.int .i64 0,.sl0]) ?_ (WkL.refl _) ?_
 ·refine Ret.mk fun h nx R hR=>zaa (sz:=6) (rs:=[.cell 2 24]) za4 zLk rfl rfl rfl (by simp) ?_
  cases b
  ·simp-implicitDefEqProofs[go_sem,za3]
   exact hR _ _ _ (((Ext.refl nx h).put (Nat.le_refl _) _).put (Nat.le_refl _) _) (Fz.eq rfl rfl)
  ·simp-implicitDefEqProofs[go_sem,za3]
   exact hR _ _ _ (((Ext.refl nx h).put (Nat.le_refl _) _).put (Nat.le_refl _) _) (Fz.eq rfl rfl)
 ·exact .agg _ _ (.cons _ _ _ _ (.same _) (.cons _ _ _ _ (.same _) (.cons _ _ _ _ (.same _) (.cons _ _ _ _ (.same _) (.cons _ _ _ _ (.sl0 5 false) .nil)))))
def zgm (v cmp n:Int):Bool:=if cmp=1 then decide (v=n) else if cmp=2 then decide (¬v=n) else if cmp=3 then decide (v<n) else if cmp=4 then decide (v≤n) else if cmp=5 then decide (n<v) else decide (n≤v)
theorem zSa (v cmp n:Int):Ret Tryz.prog cx 205 [.int .i64 v,.int .i64 cmp,.int .i64 n] (.bool (zgm v cmp n)):=by
 refine Ret.mk fun h nx R hR=>zaa (sz:=36) (rs:=[.tmp 6]) za4 zKs rfl rfl rfl (by simp) ?_
 have fin:∀b,b=zgm v cmp n→R (.bool b) h nx:=fun b hb=>hR _ _ _ (Ext.refl _ _) (Fz.eq rfl (by rw[hb]))
 by_cases e1:cmp=1
 ·simp-implicitDefEqProofs[go_sem,e1]
  exact fin _ (by simp[zgm,e1])
 by_cases e2:cmp=2
 ·simp-implicitDefEqProofs[go_sem,e1,e2]
  exact fin _ (by simp[zgm,e1,e2])
 by_cases e3:cmp=3
 ·simp-implicitDefEqProofs[go_sem,e1,e2,e3]
  exact fin _ (by simp[zgm,e1,e2,e3])
 by_cases e4:cmp=4
 ·simp-implicitDefEqProofs[go_sem,e1,e2,e3,e4]
  exact fin _ (by simp[zgm,e1,e2,e3,e4])
 by_cases e5:cmp=5
 ·simp-implicitDefEqProofs[go_sem,e1,e2,e3,e4,e5]
  exact fin _ (by simp[zgm,e1,e2,e3,e4,e5])
 simp-implicitDefEqProofs[go_sem,e1,e2,e3,e4,e5]
 exact fin _ (by simp[zgm,e1,e2,e3,e4,e5])
theorem zNk (x v:Int):Ret Tryz.prog cx 295 [.int .i64 x,.ip [.int .i64 v]] (.bool (decide (v<x))):=by
 refine Ret.mk fun h nx R hR=>zaa (sz:=7) (rs:=[.tmp 3]) za4 zH1 rfl rfl rfl (by simp) ?_
 simp-implicitDefEqProofs[go_sem]
 exact hR _ _ _ (Ext.refl _ _) (Fz.eq rfl (by simp))
theorem zAu (full:Bool)(l:List Int)(fid:FuncId)(cap:List AV)(p:Int→Bool)(hl:l.length≤1000000000)(hp:∀x∈l,Ret Tryz.prog cx fid ([.int .i64 x]++cap) (.bool (p x))):Ret Tryz.prog cx 214 [.fz 1 full (za5 l),.func fid [] cap] (.int .i64 (zb8 p l)):=by
 refine Ret.mk fun h nx R hR=>zaa (sz:=19) (rs:=[.tmp 4]) za4 zIb rfl rfl rfl (by simp) ?_
 simp[go_sem]
 refine zap (fun mm st=>∃tm k,st=.mk tm h nx []∧mm=l.length-k∧k≤l.length∧tm.get 0=some (.fz 1 full (za5 l))∧tm.get 1=some (.func fid [] cap)∧tm.get 7=some (.int .i64 (l.length:Int))∧tm.get 8=some (.int .i64 (k:Int))∧RowKit.Hid (zb8 p l=zge p l k)) ⟨l.length,_,0,rfl,by simp,by simp,?_⟩ ?_
 ·simp[go_sem]
  exact Lib.hid (zv4 _ l).symm
 ·rintro mm st ⟨tm,k,rfl,rfl,hk,t0,t1,t7,t8,hv⟩ J hJ
  refine zag za4 _ ?_
  by_cases hlt:k<l.length
  ·have hpk:=hp _ (List.getElem_mem hlt)
   by_cases he:p l[k]=true
   ·have:=zuv (p:=p) hlt he
    simp[go_sem,t0,t1,t7,t8,hlt]
    refine Ret.use hpk ?_
    simp[go_sem,za0,t0,t1,t7,t8,hlt,he]
    refine hR _ _ _ (Ext.refl _ _) (Fz.eq rfl ?_)
    rw[hv.out,this]
   ·have:=ztl (p:=p) hlt he
    have HM:=Lib.hid this
    clear this
    simp[go_sem,t0,t1,t7,t8,hlt]
    refine Ret.use hpk ?_
    simp[go_sem,za0,t0,t1,t7,t8,hlt,he]
    refine hJ (l.length-(k+1)) _ (by omega) ⟨_,k+1,rfl,rfl,by omega,?_⟩
    simp(disch:=omega) [go_sem,t0,t1,t7,t8,zab]
    exact Lib.hid (by rw[hv.out,HM.out])
  ·have:=zsg (p:=p) (l:=l) (k:=k) (by omega)
   simp[go_sem,t0,t1,t7,t8,hlt]
   refine hR _ _ _ (Ext.refl _ _) (Fz.eq rfl ?_)
   rw[hv.out,this]
structure Nd where
 fact:Int
 cuts:List Int
 kids:List Int
 leaf:Bool
def Nd.cs (n:Nd):List AV:=[.int .i64 n.fact,.fz 1 false (za5 n.cuts),.fz 1 false (za5 n.kids),.bool n.leaf]
def zal (l:List Nd):List AV:=l.map fun f=>.agg f.cs
@[go_sem] theorem zyp (l:List Nd):(zal l).length=l.length:=by simp[zal]
@[go_sem] theorem zZ4 (l:List Nd) (k:Nat)(hk:k<(zal l).length):(zal l)[k]=.agg (l[k]'(by simpa[zal]using hk)).cs:=by simp[zal]
@[go_sem] theorem Nd.cs_len (f:Nd):f.cs.length=4:=by cases f;rfl
@[go_sem] theorem Nd.cs_one (f:Nd):zba f.cs=true:=by cases f;rfl
@[go_sem] theorem Nd.cs_take (f:Nd):f.cs.take 4=f.cs:=by cases f;rfl
theorem zhw:∀l:List Int,zah (za5 l)=true
 |[]=>rfl
 |f::l=>by
  have:=zhw l
  rw[show za5 (f::l)=.int .i64 f::za5 l from rfl]
  simp[zah,plain,this]
theorem Nd.cs_plain (n:Nd):zah n.cs=true:=by simp[Nd.cs,zah,plain,zhw]
def zlw (n:Nd) (v:Int):Int:=if zb8 (fun c=>decide (v<c)) n.cuts<0 then n.kids.length-1 else zb8 (fun c=>decide (v<c)) n.cuts
theorem zP3 (n:Nd) (v:Int)(h1:n.cuts.length≤1000000000)(h2:n.kids.length≤1000000000):Ret Tryz.prog cx 261 [.agg n.cs,.int .i64 v] (.int .i64 (zlw n v)):=by
 refine Ret.mk fun h nx R hR=>za7.ofLe fun hG=>zaa (sz:=17) (rs:=[.tmp 4]) za4 zO8 rfl rfl rfl (by simp) ?_
 simp-implicitDefEqProofs[go_sem,Nd.cs]
 refine Ret.useB zgh (zAu false n.cuts 295 [.ip [.int .i64 v]] (fun c=>decide (v<c)) h1 fun x _=>zNk x v) rfl (.cons _ _ _ _ (Fz.eq (by simp[plain,zhw]) rfl) (.cons _ _ _ _ (.func 295 _ _ _ _ .nil (.cons _ _ _ _ (zi7 (t:=3) (opn:=false) (esz:=0) (by omega) (by simp[go_sem]) (by simp[plain,zah])) .nil)) .nil)) ?_
 have E:Ext nx h ((h.put nx (some (bx 154 n.cs false 0))).put (nx+1) (some (bx 3 [.int .i64 v] false 0))):=((Ext.refl nx h).put (Nat.le_refl _) _).put (by omega) _
 simp only[Nd.cs]at E
 by_cases hn:zb8 (fun c=>decide (v<c)) n.cuts<0
 ·simp-implicitDefEqProofs[go_sem,za0,hn]
  refine hR _ _ _ E (Fz.eq rfl ?_)
  rw[zlw,if_pos hn,zab _ (by omega) (by omega)]
 ·simp-implicitDefEqProofs[go_sem,za0,hn]
  refine hR _ _ _ E (Fz.eq rfl ?_)
  rw[zlw,if_neg hn]
def zbs (n:Nd)(d:List Fc):Int:=if n.kids=[] then d.length else n.fact
theorem zte (n:Nd)(full:Bool)(d:List Fc):Ret Tryz.prog cx 210 [.agg n.cs,.agg [.fz 4 full (za8 d)]] (.int .i64 (zbs n d)):=by
 refine Ret.mk fun h nx R hR=>zaa (sz:=14) (rs:=[.tmp 4]) za4 zRy rfl rfl rfl (by simp) ?_
 have E:∀x y,Ext nx h ((h.put nx x).put (nx+1) y):=fun x y=>((Ext.refl nx h).put (Nat.le_refl _) _).put (by omega) _
 by_cases hn:n.kids=[]
 ·simp-implicitDefEqProofs[go_sem,Nd.cs,hn]
  refine hR _ _ _ (E _ _) (Fz.eq rfl ?_)
  rw[zbs,if_pos hn]
 ·have hl:¬n.kids.length=0:=fun e=>hn (List.eq_nil_of_length_eq_zero e)
  simp-implicitDefEqProofs[go_sem,Nd.cs,hn,hl]
  refine hR _ _ _ (E _ _) (Fz.eq rfl ?_)
  rw[zbs,if_neg hn]
theorem Ret.mkW {P:Program}{c:Cx}{f:FuncId}{args:List AV}{u:AV}(hr:∀h nx (R:AV→Tr ABlk→Nat→Prop),(∀v g ny u',Ext nx h g→Fz g nx v u'→Wk u' u→R v g ny)→za7 P c f args h nx R):Ret P c f args u:=by
 intro h nx
 have:=za7.frz (R:=fun v=>Wk v u) (hr h nx _ fun v g ny u' h1 h2 h3=>⟨h1,u',h2,h3⟩)
 exact this.wkR fun v g ny ⟨e1,e2,e3⟩=>⟨u,e1,rfl,e2,e3⟩
theorem zz5 {α:Type}(p:α→Bool):∀l:List α,zb8 p l<l.length
 |[]=>by simp[zb8]
 |y::l=>by
  have:=zz5 p l
  unfold zb8
  simp only[List.length_cons]
  repeat' split
  all_goals omega
theorem zyy {n:Nd}{v:Int}(h:n.kids.length=n.cuts.length+1):∃k:Nat,zlw n v=(k:Int)∧k<n.kids.length:=by
 have h1:=zz5 (fun c=>decide (v<c)) n.cuts
 unfold zlw
 split
 ·exact⟨n.cuts.length,by omega,by omega⟩
 ·exact⟨(zb8 (fun c=>decide (v<c)) n.cuts).toNat,by omega,by omega⟩
def zch (n:Nd) (at_:Nat) (i v:Int):Int:=if ¬n.kids=[]∧n.fact=i then n.kids.getD (zlw n v).toNat 0 else at_
theorem zyf (full:Bool)(g:List Nd) (at_:Nat) (i v:Int)(hat:at_<g.length)(hk:¬(g[at_]).kids=[]→(g[at_]).kids.length=(g[at_]).cuts.length+1)(h1:(g[at_]).cuts.length<1000000000):Ret Tryz.prog cx 211 [.agg [.fz 4 full (zal g)],.int .i64 (at_:Int),.int .i64 i,.int .i64 v] (.int .i64 (zch g[at_] at_ i v)):=by
 obtain⟨n,hn⟩:∃n,g[at_]=n:=⟨_,rfl⟩
 rw[hn]at hk h1 ⊢
 refine Ret.mk fun h nx R hR=>zaa (sz:=33) (rs:=[.tmp 8]) za4 zIq rfl rfl rfl (by simp) ?_
 have E:∀x y z,Ext nx h (((h.put nx x).put (nx+1) y).put (nx+1) z):=fun x y z=>(((Ext.refl nx h).put (Nat.le_refl _) _).put (by omega) _).put (by omega) _
 by_cases c1:n.kids=[]
 ·simp-implicitDefEqProofs[go_sem,hat,hn,Nd.cs,c1]
  refine hR _ _ _ (E _ _ _) (Fz.eq rfl ?_)
  rw[zch,if_neg (fun q=>q.1 c1)]
 ·have hl:=hk c1
  have hl0:0<n.kids.length:=by omega
  by_cases c2:n.fact=i
  ·obtain⟨k,k1,k2⟩:=zyy (v:=v) hl
   have cn:=zP3 n v (by omega) (by omega)
   rw[k1]at cn
   simp only[Nd.cs]at cn
   simp-implicitDefEqProofs[go_sem,hat,hn,Nd.cs,hl0,c2]
   refine zbq mixed za4 zbe [] [4] [] (by kernel_rfl) ?_
   simp-implicitDefEqProofs[go_sem,Nd.cs]
   rw[c2]at cn
   refine zbm cn ?_
   simp-implicitDefEqProofs[go_sem,zas,k2]
   refine hR _ _ _ (E _ _ _) (Fz.eq rfl ?_)
   rw[zch,if_pos ⟨c1,c2⟩,k1]
   simp[k2]
  ·simp-implicitDefEqProofs[go_sem,hat,hn,Nd.cs,hl0,c2]
   refine hR _ _ _ (E _ _ _) (Fz.eq rfl ?_)
   rw[zch,if_neg (fun q=>c2 q.2)]
theorem zOc:cx.ft.get 144=some Tryz.f144:=za9 (by decide) (by kernel_rfl)
def Fm.op:Fm→Int |.mk o _ _ _ _=>o
def zd1 (o unit zero:Int):List Fm→List Fm→Fm
 |acc,[]=>match acc with
  |[]=>.mk unit .empty 0 0 []
  |[k]=>k
  |ks=>.mk o .empty 0 0 ks
 |acc,k::l=>if k.op=zero then k else if k.op=unit then zd1 o unit zero acc l else zd1 o unit zero (acc++[k]) l
mutual
def zb6 (nm:ByteArray) (v:Int):Fm→Fm
 |.mk o n c m kids=>if o=3 then (if n=nm then zfi (zgm v c m) else .mk o n c m kids)
  else if o=5 then (match zeo nm v kids with
   |[]=>.mk o n c m kids
   |k::_=>if k.op=1∨k.op=2 then zfi (decide (k.op=2)) else .mk 5 .empty 0 0 [k])
  else if o=6 then zd1 o 1 2 [] (zeo nm v kids)
  else if o=7 then zd1 o 2 1 [] (zeo nm v kids)
  else .mk o n c m kids
def zeo (nm:ByteArray) (v:Int):List Fm→List Fm
 |[]=>[]
 |f::l=>zb6 nm v f::zeo nm v l
end
mutual
def notOk:Fm→Prop
 |.mk o _ _ _ kids=>(o=5→kids≠[])∧zpb kids
def zpb:List Fm→Prop
 |[]=>True
 |f::l=>notOk f∧zpb l
end
theorem zB9:∀{l:List Fm},zpb l→∀f∈l,notOk f
 |[],_,f,h=>by cases h
 |g::l,hl,f,h=>by
  rcases List.mem_cons.1 h with e |e
  ·subst e;exact hl.1
  ·exact zB9 hl.2 f e
theorem zy1:∀l:List Fm,zfr 5 (zat l) (l.flatMap Fm.cs)
 |[]=>rfl
 |x::l=>⟨x.cs,l.flatMap Fm.cs,by simp,rfl,by cases x;rfl,.inl rfl,zy1 l⟩
theorem zAx:∀l:List Fm,zah (l.flatMap Fm.cs)=true
 |[]=>rfl
 |x::l=>by
  have h1:=zAx l
  cases x with
  |mk o n c m k=>
  simp[Fm.cs,zah,plain,zpf k,h1]
theorem zAl (l:List Fm):(l.flatMap Fm.cs).length=l.length * 5:=by
 induction l with
 |nil=>rfl
 |cons x l ih=>
  cases x
  simp[Fm.cs,ih]
  omega
theorem zsq:∀l:List Fm,zba (l.flatMap Fm.cs)=true
 |[]=>rfl
 |x::l=>by
  have h1:=zsq l
  cases x with
  |mk o n c m k=>
  simp[Fm.cs,zba,AV.one]
  exact h1
theorem fzK {g:Tr ABlk}{nx b:Nat}{s:List Fm}{cp esz:Nat}{op opn:Bool}(hb:nx≤b)(hg:g.get b=some (bx 24 (s.flatMap Fm.cs) opn esz)):Fz g nx (.sl b 0 s.length cp op) (.fz 5 false (zat s)):=
 .slz b 0 _ cp op 24 _ _ opn esz 5 (s.flatMap Fm.cs) (s.flatMap Fm.cs) (zat s) hb hg (by simp) (fun j hj=>by rw[Nat.zero_add,zbt]) (FzL.same _ (zAx s)) (zy1 s) (zLj s)
@[go_sem] theorem zYc (e:TypeId) (size b:Nat)(z:Option AV) (x:Nat) (s:Nat)(y:Bool)(fs:List (Nat×Nat×Bool)) (i o l cp:Nat)(opn:Bool)(k:IntKind)(h:Tr ABlk) (nx:Nat)(hn:0<l):
  zd3 (.mk (.slice e) size b z ((x,s,y)::fs)) (.sl i o l cp opn) (.int k 0) h nx=.val (.ptr i o) h nx:=by
 have:=zD6 e size b z x s y fs i o l cp opn k 0 h nx hn
 simpa using this
@[go_sem] theorem yd9 (e:TypeId) (size b:Nat)(z:Option AV) (x:Nat) (s:Nat)(y:Bool)(fs:List (Nat×Nat×Bool))(full:Bool)(v:AV)(xs:List AV)(k:IntKind)(h:Tr ABlk) (nx:Nat):
  zd3 (.mk (.slice e) size b z ((x,s,y)::fs)) (.fz s full (v::xs)) (.int k 0) h nx=.val (.ip v.cells) h nx:=by
 have:=zvf e size b z x s y fs full (v::xs) k 0 h nx (by simp)
 simpa using this
theorem zKn (f:Fm)(l:List Fm):zat (f::l)=.agg f.cs::zat l:=by simp[zmr]
theorem za6 {nx:Nat}{h g:Tr ABlk}{i:Nat}{B:Option ABlk}(hi:nx≤i):Ext nx h (g.put i B)↔Ext nx h g:=by
 constructor
 ·intro e j hj
  have:=e j hj
  rw[Tr.get_put,if_neg (by omega)]at this
  exact this
 ·exact fun e=>e.put hi B
theorem zko (f:Fm):plain (.agg f.cs)=true:=by
 cases f
 simp[plain,Fm.cs,zah,zpf]
theorem zOl {o unit zero:Int}{acc l:List Fm}{k:Fm}(h:k.op=zero):zd1 o unit zero acc (k::l)=k:=by rw[zd1,if_pos h]
theorem zH4 {o unit zero:Int}{acc l:List Fm}{k:Fm}(h1:¬k.op=zero)(h2:k.op=unit):zd1 o unit zero acc (k::l)=zd1 o unit zero acc l:=by rw[zd1,if_neg h1,if_pos h2]
theorem zHl {o unit zero:Int}{acc l:List Fm}{k:Fm}(h1:¬k.op=zero)(h2:¬k.op=unit):zd1 o unit zero acc (k::l)=zd1 o unit zero (acc++[k]) l:=by rw[zd1,if_neg h1,if_neg h2]
set_option maxHeartbeats 4000000 in
theorem zD5 (n:Nat):∀(f:Fm)(nm:ByteArray) (v:Int),f.size≤n→n≤1000000→notOk f→Ret Tryz.prog cx 144 [.agg f.cs,.bs nm,.int .i64 v] (.agg (zb6 nm v f).cs):=by
 induction n with
 |zero=>intro f nm v hf;cases f;simp[Fm.size]at hf
 |succ n ih=>
 rintro⟨o,nn,cm,m,kids⟩ nm v hf hn hok
 simp only[Fm.size]at hf
 obtain⟨hok1,hok2⟩:=hok
 refine Ret.mkW fun h nx R hR=>zaa (sz:=101) (rs:=[.cell 6 24]) za4 zOc rfl rfl rfl (by simp) ?_
 have E2:∀x y z,Ext nx h (((h.put nx x).put (nx+1) y).put (nx+1) z):=fun x y z=>(((Ext.refl nx h).put (Nat.le_refl _) _).put (by omega) _).put (by omega) _
 by_cases e3:o=3
 ·by_cases en:nn=nm
  ·have ck:=zww (zgm v cm m)
   simp-implicitDefEqProofs[go_sem,e3,en,Fm.cs]
   refine Ret.use (zSa v cm m) ?_
   simp-implicitDefEqProofs[go_sem,za0,e3,en]
   refine Ret.use ck ?_
   generalize hk:zfi (zgm v cm m)=kf
   cases kf with
   |mk o' n' c' m' k'=>
   simp-implicitDefEqProofs[go_sem,za0,e3,en,Fm.cs]
   refine hR _ _ _ _ (E2 _ _ _) (Fz.eq (zko (.mk o' n' c' m' k')) rfl) ?_
   rw[zb6,if_pos e3,if_pos en,hk]
   exact .same _
  ·simp-implicitDefEqProofs[go_sem,e3,en,Fm.cs]
   refine hR _ _ _ _ (E2 _ _ _) (Fz.eq (zko (.mk 3 nn cm m kids)) rfl) ?_
   rw[zb6,if_pos e3,if_neg en,e3]
   exact .same _
 ·by_cases e5:o=5
  ·cases kids with
   |nil=>exact absurd rfl (hok1 e5)
   |cons k0 ks=>
   simp only[zae]at hf
   have c0:=ih k0 nm v (by omega) (by omega) hok2.1
   have hg:zb6 nm v (.mk o nn cm m (k0::ks))=if (zb6 nm v k0).op=1∨(zb6 nm v k0).op=2 then zfi (decide ((zb6 nm v k0).op=2)) else .mk 5 .empty 0 0 [zb6 nm v k0]:=by
    rw[zb6,if_neg e3,if_pos e5,zeo]
   generalize zb6 nm v (.mk o nn cm m (k0::ks))=res at hR hg
   generalize zb6 nm v k0=g0 at c0 hg
   cases g0 with
   |mk o' n' c' m' k'=>
   have fin1:∀b g ny,Ext nx h g→res=zfi b→R (.agg (zfi b).cs) g ny:=fun b g ny he hr=>hR _ _ _ _ he (Fz.eq (zko _) rfl) (by rw[hr];exact .same _)
   simp only[Fm.cs]at c0
   have E5:∀x y z u t,Ext nx h (((((h.put nx x).put (nx+1) y).put (nx+1+1) z).put (nx+1+1) u).put (nx+1) t):=fun x y z u t=>(((((Ext.refl nx h).put (Nat.le_refl _) _).put (by omega) _).put (by omega) _).put (by omega) _).put (by omega) _
   simp-implicitDefEqProofs[go_sem,e3,e5,Fm.cs,zKn]
   refine Ret.use c0 ?_
   by_cases o1:o'=1
   ·have hg':res=zfi false:=by rw[hg,if_pos (Or.inl (by exact o1))];simp[Fm.op,o1]
    have ck:=zww false
    have hkc:(zfi false).cs=[.int .i64 2,.bs .empty,.int .i64 0,.int .i64 0,.fz 5 false (zat [])]:=rfl
    rw[hkc]at ck
    simp-implicitDefEqProofs[go_sem,za0,o1]
    refine Ret.use ck ?_
    simp-implicitDefEqProofs[go_sem,za0,o1]
    exact fin1 _ _ _ (E5 _ _ _ _ _) hg'
   ·by_cases o2:o'=2
    ·have hg':res=zfi true:=by rw[hg,if_pos (Or.inr (by exact o2))];simp[Fm.op,o2]
     have ck:=zww true
     have hkc:(zfi true).cs=[.int .i64 1,.bs .empty,.int .i64 0,.int .i64 0,.fz 5 false (zat [])]:=rfl
     rw[hkc]at ck
     simp-implicitDefEqProofs[go_sem,za0,o1,o2]
     refine Ret.use ck ?_
     simp-implicitDefEqProofs[go_sem,za0,o1]
     exact fin1 _ _ _ (E5 _ _ _ _ _) hg'
    ·have hg':res=.mk 5 .empty 0 0 [.mk o' n' c' m' k']:=by rw[hg,if_neg];intro q;rcases q with q |q;exact o1 q;exact o2 q
     simp-implicitDefEqProofs[go_sem,za0,o1,o2,za3]
     refine hR _ _ _ (.agg [.int .i64 5,.bs .empty,.int .i64 0,.int .i64 0,.fz 5 false (zat [.mk o' n' c' m' k'])]) ?_ ?_ (by rw[hg'];exact .same _)
     ·exact((((((Ext.refl nx h).put (Nat.le_refl _) _).put (by omega) _).put (by omega) _).put (by omega) _).put (by omega) _).put (by omega) _
     refine .agg _ _ (.cons _ _ _ _ (.int _ _) (.cons _ _ _ _ (.bs _) (.cons _ _ _ _ (.int _ _) (.cons _ _ _ _ (.int _ _) (.cons _ _ _ _ (fzK (s:=[.mk o' n' c' m' k']) (opn:=false) (esz:=0) (by omega) (by simp[go_sem,Fm.cs,show ¬nx+1+1=nx by omega])) .nil)))))
  ·by_cases e67:o=6∨o=7
   ·obtain⟨unit,hu⟩:∃u:Int,u=if o=7 then 2 else 1:=⟨_,rfl⟩
    obtain⟨zero,hz⟩:∃u:Int,u=if o=7 then 1 else 2:=⟨_,rfl⟩
    have hres:zb6 nm v (.mk o nn cm m kids)=zd1 o unit zero [] (zeo nm v kids):=by
     rw[zb6,if_neg e3,if_neg e5]
     rcases e67 with e |e
     ·rw[if_pos e,hu,hz];simp[e]
     ·rw[if_neg (by omega),if_pos e,hu,hz];simp[e]
    generalize zb6 nm v (.mk o nn cm m kids)=res at hR hres
    have hsl:=zjw kids
    rcases e67 with eo |eo
    all_goals
     rw[eo]at hu hz
     simp at hu hz
     have HR:=Lib.hid hres
     clear hres
     simp-implicitDefEqProofs[go_sem,eo,Fm.cs]
     refine zap (fun mm st=>∃tm h' nx' k acc,st=.mk tm h' nx' []∧mm=kids.length-k∧k≤kids.length∧tm.get 1=some (.bs nm)∧tm.get 2=some (.int .i64 v)∧tm.get 3=some (.ptr nx 0)∧tm.get 6=some (.ptr (nx+1) 0)∧tm.get 8=some (.int .i64 unit)∧tm.get 9=some (.int .i64 zero)∧tm.get 61=some (.fz 5 false (zat kids))∧tm.get 62=some (.int .i64 (kids.length:Int))∧tm.get 63=some (.int .i64 (k:Int))∧
      ((acc=[]∧tm.get 10=some .sl0)∨(acc≠[]∧∃b,nx+1<b∧b<nx'∧tm.get 10=some (.sl b 0 acc.length 0 true)∧h'.get b=some (bx 24 (acc.flatMap Fm.cs) true 5)))∧
      h'.get nx=some (bx 24 [.int .i64 o,.bs nn,.int .i64 cm,.int .i64 m,.fz 5 false (zat kids)] false 0)∧h'.get (nx+1)=some (bx 24 [.int .i64 0,.bs .empty,.int .i64 0,.int .i64 0,.sl0] false 0)∧Ext nx h h'∧nx+2≤nx'∧acc.length≤k∧
      RowKit.Hid (res=zd1 o unit zero acc (zeo nm v (kids.drop k)))) ⟨kids.length,_,_,_,0,[],rfl,by simp,by simp,?_⟩ ?_
     ·simp-implicitDefEqProofs[go_sem,hu,hz,eo]
      exact⟨((Ext.refl nx h).put (Nat.le_refl _) _).put (by omega) _,Lib.hid (by have:=HR.out;simp[hu,hz,eo]at this ⊢;exact this)⟩
     ·rintro mm st ⟨tm,h',nx',k,acc,rfl,rfl,hk,t1,t2,t3,t6,t8,t9,t61,t62,t63,hacc,g0,g1,he,hn',hal,hv⟩ J hJ
      refine zag za4 _ ?_
      have n0:¬nx=nx':=by omega
      have n1:¬nx+1=nx':=by omega
      by_cases hlt:k<kids.length
      ·obtain⟨s1,_,s3⟩:=zfn hlt
       have ck:=ih kids[k] nm v (by omega) (by omega) (zB9 hok2 _ (List.getElem_mem hlt))
       have hv2:=hv.out
       rw[List.drop_eq_getElem_cons hlt,zeo]at hv2
       generalize zb6 nm v kids[k]=gk at ck hv2
       cases gk with
       |mk o' n' c' m' k'=>
       have HV:=Lib.hid hv2
       clear hv2
       simp only[Fm.cs]at ck
       simp-implicitDefEqProofs[go_sem,t1,t2,t3,t6,t8,t9,t61,t62,t63,hlt]
       refine Ret.use ck ?_
       by_cases hzz:o'=zero
       ·have hr:res=.mk o' n' c' m' k':=by rw[HV.out,zOl (by exact hzz)]
        simp-implicitDefEqProofs[go_sem,za0,t1,t2,t3,t6,t8,t9,t61,t62,t63,hlt,hzz,g1,n0,n1]
        refine hR _ _ _ _ ?_ (Fz.eq (zko (.mk zero n' c' m' k')) rfl) ?_
        ·simp(disch:=omega)only[za6]
         exact he
        ·rw[hr,hzz];exact .same _
       ·by_cases huu:o'=unit
        ·have hr:res=zd1 o unit zero acc (zeo nm v (kids.drop (k+1))):=by rw[HV.out,zH4 (by exact hzz) (by exact huu)]
         have huz:¬unit=zero:=fun e=>hzz (huu.trans e)
         have HR2:=Lib.hid hr
         clear hr
         simp-implicitDefEqProofs[go_sem,za0,t1,t2,t3,t6,t8,t9,t61,t62,t63,hlt,huu,huz,g1,n0,n1]
         refine hJ (kids.length-(k+1)) _ (by omega) ⟨_,_,_,k+1,acc,rfl,rfl,by omega,?_⟩
         simp(disch:=omega) [go_sem,t1,t2,t3,t6,t8,t9,t61,t62,t63,zab,n0,n1,g0,g1]
         refine⟨?_,by simp(disch:=omega)only[za6];exact he,by omega,by omega,HR2⟩
         rcases hacc with hacc |⟨h1,b,b1,b2,b3,b4⟩
         ·exact .inl hacc
         ·have nb:¬b=nx':=by omega
          exact .inr ⟨h1,b,b1,by omega,b3,by simp[nb,b4]⟩
        ·have hr:res=zd1 o unit zero (acc++[.mk o' n' c' m' k']) (zeo nm v (kids.drop (k+1))):=by rw[HV.out,zHl (by exact hzz) (by exact huu)]
         have HR2:=Lib.hid hr
         clear hr
         have e3':¬nx=nx'+1:=by omega
         have e4':¬nx+1=nx'+1:=by omega
         have e5':¬nx=nx'+1+1:=by omega
         have e6':¬nx+1=nx'+1+1:=by omega
         rcases hacc with⟨h1,h2⟩ |⟨h1,b,b1,b2,b3,b4⟩
         ·subst h1
          simp-implicitDefEqProofs[go_sem,za0,t1,t2,t3,t6,t8,t9,t61,t62,t63,hlt,hzz,huu,g1,n0,n1,h2]
          refine hJ (kids.length-(k+1)) _ (by omega) ⟨_,_,_,k+1,[.mk o' n' c' m' k'],rfl,rfl,by omega,?_⟩
          simp(disch:=omega) [go_sem,t1,t2,t3,t6,t8,t9,t61,t62,t63,zab,n0,n1,g0,g1,e3',e4',e5',e6',Fm.cs]
          refine⟨⟨nx'+1+1,by omega,by omega,rfl,by simp⟩,?_,by omega,HR2⟩
          simp(disch:=omega)only[za6]
          exact he
         ·have nb:¬b=nx':=by omega
          have nb1:¬b=nx'+1:=by omega
          have nb2:¬nx=b:=by omega
          have nb3:¬nx+1=b:=by omega
          have fl:=zAl acc
          have fo:=zsq acc
          have hle:acc.length+1≤16777216:=by omega
          simp-implicitDefEqProofs[go_sem,za0,t1,t2,t3,t6,t8,t9,t61,t62,t63,hlt,hzz,huu,g1,n0,n1,b3,b4,nb,nb1,nb2,nb3,fl,fo,hle]
          refine hJ (kids.length-(k+1)) _ (by omega) ⟨_,_,_,k+1,acc++[.mk o' n' c' m' k'],rfl,rfl,by omega,?_⟩
          simp(disch:=omega) [go_sem,t1,t2,t3,t6,t8,t9,t61,t62,t63,zab,n0,n1,g0,g1,e3',e4',e5',e6',nb2,nb3,Fm.cs]
          refine⟨⟨nx'+1+1,by omega,by omega,rfl,by simp⟩,?_,by omega,by omega,HR2⟩
          simp(disch:=omega)only[za6]
          exact he
      ·have hr:res=zd1 o unit zero acc []:=by
        have:=hv.out
        rw[List.drop_of_length_le (by omega)]at this
        exact this
       rcases hacc with⟨h1,h2⟩ |⟨h1,b,b1,b2,b3,b4⟩
       ·subst h1
        have hr2:res=.mk unit .empty 0 0 []:=hr
        simp-implicitDefEqProofs[go_sem,t1,t2,t3,t6,t8,t9,t61,t62,t63,hlt,h2,g1,za3]
        refine hR _ _ _ (.agg [.int .i64 unit,.bs .empty,.int .i64 0,.int .i64 0,.sl0]) (he.put (by omega) _) (Fz.eq rfl rfl) ?_
        rw[hr2]
        exact .agg _ _ (.cons _ _ _ _ (.same _) (.cons _ _ _ _ (.same _) (.cons _ _ _ _ (.same _) (.cons _ _ _ _ (.same _) (.cons _ _ _ _ (.sl0 5 false) .nil)))))
       ·have nb2:¬nx=b:=by omega
        have nb3:¬nx+1=b:=by omega
        have nb4:¬b=nx+1:=by omega
        cases acc with
        |nil=>exact absurd rfl h1
        |cons a1 acc=>
        cases acc with
        |nil=>
         have hr2:res=a1:=hr
         cases a1 with
         |mk o' n' c' m' k'=>
         simp-implicitDefEqProofs[go_sem,t1,t2,t3,t6,t8,t9,t61,t62,t63,hlt,b3,b4,g1,Fm.cs]at b4 ⊢
         refine hR _ _ _ _ (he.put (by omega) _) (Fz.eq (zko (.mk o' n' c' m' k')) rfl) ?_
         rw[hr2]
         exact .same _
        |cons a2 acc=>
         have hr2:res=.mk o .empty 0 0 (a1::a2::acc):=hr
         have hl1:¬a1::a2::acc=[]:=by simp
         have hl2:¬(a1::a2::acc).length=1:=by simp
         have hl3:¬((a1::a2::acc).length:Int)=1:=by simp;omega
         generalize a1::a2::acc=L at b3 b4 hr2 hl1 hl2 hl3
         simp-implicitDefEqProofs[go_sem,t1,t2,t3,t6,t8,t9,t61,t62,t63,hlt,b3,g0,g1,hl1,hl2,hl3,za3]
         refine hR _ _ _ (.agg [.int .i64 o,.bs .empty,.int .i64 0,.int .i64 0,.fz 5 false (zat L)]) (he.put (by omega) _) ?_ (by rw[hr2];exact .same _)
         refine .agg _ _ (.cons _ _ _ _ (.int _ _) (.cons _ _ _ _ (.bs _) (.cons _ _ _ _ (.int _ _) (.cons _ _ _ _ (.int _ _) (.cons _ _ _ _ (fzK (s:=L) (opn:=true) (esz:=5) (by omega) ?_) .nil)))))
         simp[go_sem,nb4,b4]
   ·have e6:¬o=6:=fun e=>e67 (.inl e)
    have e7:¬o=7:=fun e=>e67 (.inr e)
    simp-implicitDefEqProofs[go_sem,e3,e5,e6,e7,Fm.cs]
    refine hR _ _ _ _ (E2 _ _ _) (Fz.eq (zko (.mk o nn cm m kids)) rfl) ?_
    rw[zb6,if_neg e3,if_neg e5,if_neg e6,if_neg e7]
    exact .same _
end
end Go.Ev
