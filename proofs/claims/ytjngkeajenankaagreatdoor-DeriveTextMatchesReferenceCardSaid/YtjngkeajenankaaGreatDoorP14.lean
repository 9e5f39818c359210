/- Texts N5 OP. -/
import Derived.ProofKit
import Derived.OpenShut
import Derived.ChangeOld
import Derived.Deep.Slices
import Derived.Deep.MidRow
import Derived.SizedLaws
import Derived.Test.YtjngkeajenankaaGreatDoorP13
set_option linter.unusedSimpArgs false
set_option linter.unusedVariables false
set_option maxRecDepth 100000
namespace Go.Ev
open Go.Proofs Go.RowKit
noncomputable section
attribute [-go_sem] pPick lookRes evConvS evStrB
@[go_sem] theorem fpO_fieldAddr (t:TypeId)(x:Operand) (k:Nat):fpO (.fieldAddr t x k)=none:=rfl
@[go_sem] theorem fpO_indexAddr (t:TypeId)(x y:Operand):fpO (.indexAddr t x y)=none:=rfl
@[go_sem] theorem fpO_move (x:Operand):fpO (.move x)=none:=rfl
@[go_sem] theorem fpO_buildSlice (t:TypeId) (n:Nat)(l:Array (Nat×Operand)):fpO (.buildSlice t n l)=none:=rfl
@[go_sem] theorem keepsN_no (h h':Tr ABlk):keepsN none h h'=True:=rfl
structure It where
 kind:Int
 id:ByteArray
 par:ByteArray
 num:ByteArray
 nor:ByteArray
 sou:ByteArray
 gone:Bool
def It.cs (x:It):List AV:=[.int .i64 x.kind,.bs x.id,.bs x.par,.bs x.num,.bs x.nor,.bs x.sou,.bool x.gone]
def encIt (l:List It):List AV:=l.map fun x=>.agg x.cs
@[go_sem] theorem encIt_len (l:List It):(encIt l).length=l.length:=by simp[encIt]
@[go_sem] theorem encIt_at (l:List It) (k:Nat)(hk:k<(encIt l).length):(encIt l)[k]=.agg (l[k]'(by simpa[encIt]using hk)).cs:=by simp[encIt]
structure Re where
 kind:Int
 id:ByteArray
 oth:ByteArray
def Re.cs (x:Re):List AV:=[.int .i64 x.kind,.bs x.id,.bs x.oth]
def encRe (l:List Re):List AV:=l.map fun x=>.agg x.cs
@[go_sem] theorem encRe_len (l:List Re):(encRe l).length=l.length:=by simp[encRe]
@[go_sem] theorem encRe_at (l:List Re) (k:Nat)(hk:k<(encRe l).length):(encRe l)[k]=.agg (l[k]'(by simpa[encRe]using hk)).cs:=by simp[encRe]
structure Dv where
 root:ByteArray
 count:Int
 q:ByteArray
 case:List Int
 day:Int
 texts:List It
 steps:List Re
 state:Int
 value:Int
 by_:List ByteArray
 over:List ByteArray
def Dv.cs (d:Dv):List AV:=[.bs d.root,.int .i64 d.count,.bs d.q,.fz 1 false (encI d.case),.int .i64 d.day,.fz 7 false (encIt d.texts),.fz 3 false (encRe d.steps),.int .i64 d.state,.int .i64 d.value,.fz 1 false (encB d.by_),.fz 1 false (encB d.over)]
theorem ft12:cx.ft.get 12=some Tryz.f12:=cxS_ft (by decide) (by kernel_rfl)
theorem ft5:cx.ft.get 5=some Tryz.f5:=cxS_ft (by decide) (by kernel_rfl)
def It.small (x:It):Prop:=x.id.size≤500∧x.par.size≤500∧x.num.size≤500∧x.nor.size≤500∧x.sou.size≤500
instance (x:It):Decidable x.small:=by unfold It.small;infer_instance
def fewB (m:Nat)(l:List It):Bool:=decide (l.length≤m∧∀x∈l,x.small)
set_option maxHeartbeats 2000000 in
theorem few_c (full:Bool)(l:List It) (m:Nat)(hm:m≤1000000000):Ret Tryz.prog cx 12 [.agg [.fz 7 full (encIt l)],.int .i64 (m:Int)] (.bool (fewB m l)):=by
 refine Ret.mk fun h nx R hR=>ACall_mk (sz:=57) (rs:=[.tmp 4]) cxok ft12 rfl rfl rfl (by simp) ?_
 have hF:∀b g ny,Ext nx h g→b=fewB m l→R (.bool b) g ny:=fun z g ny hE e=>hR _ _ _ hE (Fz.eq rfl (by rw[e]))
 have hF':=Lib.hid hF
 clear hF hR
 simp[go_sem]
 refine AW_rounds (fun mm st=>∃tm k g ny,st=.mk tm g ny []∧mm=l.length-k∧k≤l.length∧k≤m∧tm.get 1=some (.int .i64 (m:Int))∧tm.get 2=some (.ptr nx 0)∧tm.get 5=some (.int .i64 (k:Int))∧nx<ny∧g.get nx=some (bx 37 [.fz 7 full (encIt l)] false 0)∧Ext nx h g∧RowKit.Hid (∀x∈l.take k,x.small)) ⟨l.length,_,0,_,_,rfl,rfl,by omega,by omega,?_⟩ ?_
 ·simp(disch:=omega)only[ext_put]
  simp[go_sem]
  exact⟨Ext.refl _ _,Lib.hid trivial⟩
 ·rintro mm st ⟨tm,k,g,ny,rfl,rfl,hk,hkm,t1,t2,t5,hn,hb,hE,hv⟩ J hJ
  refine aw_ok cxok _ ?_
  by_cases c1:k<l.length
  ·by_cases c2:k<m
   ·have c2I:(k:Int)<m:=by omega
    have ht:l.take (k+1)=l.take k++[l[k]]:=List.take_succ_eq_append_getElem c1
    have hno:∀g ny,¬(l[k]).small→Ext nx h g→R (.bool false) g ny:=fun g ny e e2=>hF'.out _ _ _ e2 (by
     unfold fewB
     symm
     rw[decide_eq_false_iff_not]
     rintro⟨_,q⟩
     exact e (q _ (List.getElem_mem _)))
    have hgo:∀tm' g' ny',(l[k]).small→tm'.get 1=some (.int .i64 (m:Int))→tm'.get 2=some (.ptr nx 0)→tm'.get 5=some (.int .i64 ((k:Int)+1))→nx<ny'→g'.get nx=some (bx 37 [.fz 7 full (encIt l)] false 0)→Ext nx h g'→J (.mk tm' g' ny' []):=fun tm' g' ny' e a1 a2 a5 a6 a7 a8=>
     hJ (l.length-(k+1)) _ (by omega) ⟨tm',k+1,g',ny',rfl,rfl,by omega,by omega,a1,a2,by rw[a5];rfl,a6,a7,a8,Lib.hid (by
      rw[ht]
      intro x hx
      rcases List.mem_append.1 hx with q |q
      ·exact hv.out x q
      ·simp at q;rw[q];exact e)⟩
    have hno':=Lib.hid hno
    have hgo':=Lib.hid hgo
    clear hno hgo hJ hF' hv
    have wI:IntKind.i64.wrap ((k:Int)+1)=(k:Int)+1:=i64wrap _ (by omega) (by omega)
    generalize hx:l[k]=x at hno' hgo'
    obtain⟨kind,id,par,num,nor,sou,gone⟩:=x
    simp only[It.small]at hno' hgo'
    have n1:¬nx=ny:=by omega
    have hEn:∀X,Ext nx h (g.put ny X):=fun X=>(ext_put (by omega)).2 hE
    have hEn2:∀X Y,Ext nx h ((g.put ny X).put ny Y):=fun X Y=>(ext_put (by omega)).2 (hEn X)
    by_cases d1:(500:Int)<id.size
    ·simp[go_sem,t1,t2,t5,c1,c2I,c2,hb,hx,It.cs,segL,n1,wI,d1]
     exact hno'.out _ _ (by omega) (hEn2 _ _)
    ·by_cases d2:(500:Int)<par.size
     ·simp[go_sem,t1,t2,t5,c1,c2I,c2,hb,hx,It.cs,segL,n1,wI,d1,d2]
      exact hno'.out _ _ (by omega) (hEn2 _ _)
     ·by_cases d3:(500:Int)<num.size
      ·simp[go_sem,t1,t2,t5,c1,c2I,c2,hb,hx,It.cs,segL,n1,wI,d1,d2,d3]
       exact hno'.out _ _ (by omega) (hEn2 _ _)
      ·by_cases d4:(500:Int)<nor.size
       ·simp[go_sem,t1,t2,t5,c1,c2I,c2,hb,hx,It.cs,segL,n1,wI,d1,d2,d3,d4]
        exact hno'.out _ _ (by omega) (hEn2 _ _)
       ·by_cases d5:(500:Int)<sou.size
        ·simp[go_sem,t1,t2,t5,c1,c2I,c2,hb,hx,It.cs,segL,n1,wI,d1,d2,d3,d4,d5]
         exact hno'.out _ _ (by omega) (hEn2 _ _)
        ·simp[go_sem,t1,t2,t5,c1,c2I,c2,hb,hx,It.cs,segL,n1,wI,d1,d2,d3,d4,d5]
         refine hgo'.out _ _ _ (by omega) (by simp[go_sem,t1]) (by simp[go_sem,t2]) (by simp[go_sem,t5,wI]) (by omega) (by simp[go_sem,n1,hb]) (hEn2 _ _)
   ·have c2I:¬(k:Int)<m:=by omega
    have hlm:¬l.length≤m:=by omega
    simp[go_sem,t1,t2,t5,c1,c2,c2I,hb,hlm]
    refine hF'.out _ _ _ hE ?_
    unfold fewB
    symm
    rw[decide_eq_false_iff_not]
    rintro⟨q,_⟩
    omega
  ·have e1:l.take k=l:=List.take_of_length_le (by omega)
   rw[e1]at hv
   simp[go_sem,t1,t2,t5,c1,hb]
   refine hF'.out _ _ _ hE ?_
   unfold fewB
   rw[Bool.eq_iff_iff]
   simp only[decide_eq_true_eq]
   exact⟨fun q=>⟨by omega,hv.out⟩,fun q=>by omega⟩
def fitB (s:ByteArray):Prop:=s.size≤1048576
structure Dv.Ok (d:Dv):Prop where
 root:fitB d.root
 q:fitB d.q
 case:d.case.length≤1048576
 texts:d.texts.length≤1048576
 steps:d.steps.length≤1048576
 by_:d.by_.length≤1048576
 over:d.over.length≤1048576
 ti:∀x∈d.texts,fitB x.id∧fitB x.par∧fitB x.num∧fitB x.nor∧fitB x.sou
 si:∀x∈d.steps,fitB x.id∧fitB x.oth
 bi:∀x∈d.by_,fitB x
 oi:∀x∈d.over,fitB x
def StrsV (lo:Nat)(v:AV)(l:List ByteArray)(g:Tr ABlk) (n:Nat):Prop:=(l=[]∧v=.fz 1 true [])∨∃q,lo≤q∧q<n∧v=.sl q 0 l.length 0 true∧g.get q=some (bx 9 (encB l) true 1)
theorem encB_flat (l:List ByteArray):(encB l).flatMap AV.cells=encB l:=by
 induction l with
 |nil=>rfl
 |cons a l ih=>
  show AV.cells (.bs a)++(encB l).flatMap AV.cells=_
  rw[ih]
  rfl
theorem encB_app (l m:List ByteArray):encB (l++m)=encB l++encB m:=by simp[encB]
theorem encB_one (l:List ByteArray):allOne (encB l)=true:=by
 induction l with
 |nil=>rfl
 |cons a l ih=>exact ih
theorem strs_app {lo n:Nat}{v:AV}{l l2:List ByteArray}{g:Tr ABlk}(hv:StrsV lo v l g n)(hlo:lo≤n)(hl:l.length+l2.length≤16777216):
  ∃v' g' n',app2 true l2.length (encB l2) 9 1 v g n=.val v' g' n'∧StrsV lo v' (l++l2) g' n'∧n≤n'∧∀k,k<lo→g'.get k=g.get k:=by
 rcases hv with⟨rfl,rfl⟩ |⟨q,q1,q2,rfl,q3⟩
 ·cases l2 with
  |nil=>exact⟨.fz 1 true [],g,n,rfl,.inl ⟨rfl,rfl⟩,Nat.le_refl _,fun _ _=>rfl⟩
  |cons a l2=>
   refine⟨_,_,_,app2_fz (a::l2).length 9 1 (encB (a::l2)) [] g n (by simp) (by simpa using hl),.inr ⟨n,hlo,Nat.lt_succ_self _,by simp,?_⟩,Nat.le_succ _,fun k hk=>?_⟩
   ·rw[Tr.get_put,if_pos rfl]
    simp
   ·rw[Tr.get_put,if_neg (by omega)]
 ·refine⟨.sl n 0 (l.length+l2.length) 0 true,(g.put q none).put n (some (bx 9 (encB l++encB l2) true 1)),n+1,?_,.inr ⟨n,hlo,Nat.lt_succ_self _,by simp,?_⟩,Nat.le_succ _,fun k hk=>?_⟩
  ·rw[app2_own,q3,appO_bx]
   ·simp[encB]
   ·exact hl
  ·rw[Tr.get_put,if_pos rfl,encB_app]
  ·rw[Tr.get_put,if_neg (by omega),Tr.get_put,if_neg (by omega)]
def Re.short (x:Re):Prop:=x.id.size+x.oth.size≤300
instance (x:Re):Decidable x.short:=by unfold Re.short;infer_instance
def Dv.short (d:Dv):Prop:=(d.root.size+d.q.size≤300∧d.case.length≤80∧d.steps.length≤60∧d.by_.length≤40∧d.over.length≤40∧fewB 40 d.texts=true)∧(∀x∈d.steps,x.short)∧∀x∈d.by_++d.over,x.size≤300
instance (d:Dv):Decidable d.short:=by unfold Dv.short;infer_instance
set_option maxHeartbeats 4000000 in
def fitW (s:ByteArray):Prop:=s.size≤140737488355328
structure Dv.Fit (d:Dv):Prop where
 root:fitW d.root
 q:fitW d.q
 si:∀x∈d.steps,fitW x.id∧fitW x.oth
theorem Dv.ok_of_short {d:Dv}(h:d.short):d.Ok:=by
 obtain⟨⟨h1,h2,h3,h4,h5,h6⟩,h7,h8⟩:=h
 have h9:d.texts.length≤40∧∀x∈d.texts,x.small:=by unfold fewB at h6;simpa using h6
 refine⟨?_,?_,by omega,by omega,by omega,by omega,by omega,fun x hx=>?_,fun x hx=>?_,fun x hx=>?_,fun x hx=>?_⟩
 ·show d.root.size≤_;omega
 ·show d.q.size≤_;omega
 ·have:=h9.2 x hx
  unfold It.small at this
  unfold fitB
  omega
 ·have:=h7 x hx
  unfold Re.short at this
  unfold fitB
  omega
 ·have:=h8 x (List.mem_append.2 (.inl hx))
  unfold fitB
  omega
 ·have:=h8 x (List.mem_append.2 (.inr hx))
  unfold fitB
  omega
theorem short_c (d:Dv)(hd:d.Fit):Ret Tryz.prog cx 5 [.agg d.cs] (.bool (decide d.short)):=by
 refine Ret.mk fun h nx R hR=>ACall_mk (sz:=91) (rs:=[.tmp 2]) cxok ft5 rfl rfl rfl (by simp) ?_
 have hF:∀b g ny,Ext nx h g→b=decide d.short→R (.bool b) g ny:=fun z g ny hE e=>hR _ _ _ hE (Fz.eq rfl (by rw[e]))
 have hF':=Lib.hid hF
 clear hF hR
 have hno:∀g ny,Ext nx h g→¬d.short→R (.bool false) g ny:=fun g ny e q=>hF'.out _ _ _ e (by symm;rw[decide_eq_false_iff_not];exact q)
 have hno':=Lib.hid hno
 clear hno
 have s0:d.root.size≤140737488355328:=hd.root
 have s1:d.q.size≤140737488355328:=hd.q
 have w1:IntKind.i64.wrap ((d.root.size:Int)+d.q.size)=(d.root.size:Int)+d.q.size:=i64wrap _ (by omega) (by omega)
 have hEn:∀X,Ext nx h (h.put nx X):=fun X=>(ext_put (by omega)).2 (Ext.refl _ _)
 by_cases c1:(300:Int)<(d.root.size:Int)+d.q.size
 ·simp[go_sem,Dv.cs,segL,w1,c1]
  exact hno'.out _ _ (hEn _) (fun q=>by have:=q.1.1;omega)
 by_cases c2:(80:Int)<d.case.length
 ·simp[go_sem,Dv.cs,segL,w1,c1,c2]
  exact hno'.out _ _ (hEn _) (fun q=>by have:=q.1.2.1;omega)
 by_cases c3:(60:Int)<d.steps.length
 ·simp[go_sem,Dv.cs,segL,w1,c1,c2,c3]
  exact hno'.out _ _ (hEn _) (fun q=>by have:=q.1.2.2.1;omega)
 by_cases c4:(40:Int)<d.by_.length
 ·simp[go_sem,Dv.cs,segL,w1,c1,c2,c3,c4]
  exact hno'.out _ _ (hEn _) (fun q=>by have:=q.1.2.2.2.1;omega)
 by_cases c5:(40:Int)<d.over.length
 ·simp[go_sem,Dv.cs,segL,w1,c1,c2,c3,c4,c5]
  exact hno'.out _ _ (hEn _) (fun q=>by have:=q.1.2.2.2.2.1;omega)
 have h6:=few_c false d.texts 40 (by omega)
 have hl3:d.steps.length≤60:=by omega
 have hl4:d.by_.length≤40:=by omega
 have hl5:d.over.length≤40:=by omega
 simp[go_sem,Dv.cs,segL,w1,c1,c2,c3,c4,c5]
 refine Ret.use h6 ?_
 by_cases c6:fewB 40 d.texts=true
 rotate_left
 ·simp[go_sem,goOn_some,c6]
  exact hno'.out _ _ (hEn _) (fun q=>by have:=q.1.2.2.2.2.2;exact c6 this)
 simp[go_sem,goOn_some,c6]
 have H1:d.root.size+d.q.size≤300∧d.case.length≤80∧d.steps.length≤60∧d.by_.length≤40∧d.over.length≤40∧fewB 40 d.texts=true:=⟨by omega,by omega,by omega,by omega,by omega,c6⟩
 clear c1 c2 c3 c4 c5 c6 h6 w1 s0 s1
 change AW _ _ _ _ _ _ (.mk _ (h.put nx (some (bx 30 d.cs false 0))) _ _)
 have hSI:=hd.si
 refine AW_rounds (fun mm st=>∃tm k,st=.mk tm (h.put nx (some (bx 30 d.cs false 0))) (nx+1) []∧mm=d.steps.length-k∧k≤d.steps.length∧tm.get 1=some (.ptr nx 0)∧tm.get 3=some (.int .i64 (k:Int))∧RowKit.Hid (∀x∈d.steps.take k,x.short)) ⟨d.steps.length,_,0,rfl,rfl,by omega,?_⟩ ?_
 ·simp[go_sem]
  exact Lib.hid trivial
 rintro mm st ⟨tm,k,rfl,rfl,hk,t1,t3,hv⟩ J hJ
 refine aw_ok cxok _ ?_
 by_cases k1:k<d.steps.length
 ·have ht:d.steps.take (k+1)=d.steps.take k++[d.steps[k]]:=List.take_succ_eq_append_getElem k1
  have hx1:=hSI _ (List.getElem_mem k1)
  have hnx:¬(d.steps[k]).short→R (.bool false) (h.put nx (some (bx 30 d.cs false 0))) (nx+1):=fun e=>hno'.out _ _ (hEn _) (fun q=>e (q.2.1 _ (List.getElem_mem _)))
  have hgo:∀tm',(d.steps[k]).short→tm'.get 1=some (.ptr nx 0)→tm'.get 3=some (.int .i64 ((k:Int)+1))→J (.mk tm' (h.put nx (some (bx 30 d.cs false 0))) (nx+1) []):=fun tm' e a1 a3=>
   hJ (d.steps.length-(k+1)) _ (by omega) ⟨tm',k+1,rfl,rfl,by omega,a1,by rw[a3];rfl,Lib.hid (by
    rw[ht]
    intro x hx
    rcases List.mem_append.1 hx with q |q
    ·exact hv.out x q
    ·simp at q;rw[q];exact e)⟩
  have hnx':=Lib.hid hnx
  have hgo':=Lib.hid hgo
  clear hnx hgo hJ hF' hno' hv
  have wI:IntKind.i64.wrap ((k:Int)+1)=(k:Int)+1:=i64wrap _ (by omega) (by omega)
  unfold Dv.cs at hnx' hgo' ⊢
  simp[go_sem,t1,t3,k1]
  refine AW_draw mixed cxok G0sym [] [] [] (by kernel_rfl) ?_
  generalize hx:d.steps[k]=x at hnx' hgo' hx1
  obtain⟨kind,id,oth⟩:=x
  unfold fitW at hx1
  obtain⟨x1,x2⟩:id.size≤140737488355328∧oth.size≤140737488355328:=hx1
  simp only[Re.short]at hnx' hgo'
  have w2:IntKind.i64.wrap ((id.size:Int)+oth.size)=(id.size:Int)+oth.size:=i64wrap _ (by omega) (by omega)
  by_cases c:(300:Int)<(id.size:Int)+oth.size
  ·simp[go_sem,t1,t3,k1,hx,Re.cs,w2,c,wI]
   exact hnx'.out (by omega)
  ·simp[go_sem,t1,t3,k1,hx,Re.cs,w2,c,wI]
   exact hgo'.out _ (by omega) (by simp[go_sem,t1]) (by simp[go_sem,t3,wI])
 ·have e1:d.steps.take k=d.steps:=List.take_of_length_le (by omega)
  rw[e1]at hv
  have H2:=hv.out
  clear hv hJ e1
  unfold Dv.cs
  simp[go_sem,t1,t3,k1]
  refine AW_draw mixed cxok G0sym [4,8] [] [(5,4),(6,4),(7,4)] (by kernel_rfl) ?_
  have hs0:StrsV (nx+1) (.fz 1 true []) [] (h.put nx (some (bx 30 d.cs false 0))) (nx+1):=.inl ⟨rfl,rfl⟩
  obtain⟨v1,g1,n1,a1,a2,a3,a4⟩:=strs_app (l2:=d.by_) hs0 (Nat.le_refl _) (by simp;omega)
  obtain⟨v2,g2,n2,b1,b2,b3,b4⟩:=strs_app (l2:=d.over) a2 a3 (by simp;omega)
  have c1:g1.get nx=some (bx 30 d.cs false 0):=by rw[a4 nx (by omega),Tr.get_put,if_pos rfl]
  have c2:g2.get nx=some (bx 30 d.cs false 0):=by rw[b4 nx (by omega)];exact c1
  have hE2:Ext nx h g2:=fun k hk=>by rw[b4 k (by omega),a4 k (by omega),Tr.get_put,if_neg (by omega)]
  rw[List.nil_append]at b2
  have hLL:(d.by_++d.over).length≤80:=by rw[List.length_append];omega
  have hfin:∀b,b=decide (∀x∈d.by_++d.over,x.size≤300)→b=decide d.short:=fun b e=>by
   rw[e,decide_eq_decide]
   exact⟨fun q=>⟨H1,H2,q⟩,fun q=>q.2.2⟩
  generalize hL:d.by_++d.over=L at b2 hLL hfin
  unfold Dv.cs at a1 c1
  simp[go_sem,t1,t3,encB_flat,encB_one,a1,b1,c1,c2]
  have hv2:∀(e size b:Nat) (z:Option AV) (fs:List (Nat×Nat×Bool)) (g:Tr ABlk) (n:Nat),evLen (.mk (.slice e) size b z fs) v2 g n=.val (.int .i64 (L.length:Int)) g n:=by
   intro e' size' b' z fs g n
   rcases b2 with⟨h0,ha⟩ |⟨q,_,_,ha,_⟩
   ·rw[ha,evLen_fz,h0];rfl
   ·rw[ha,evLen_sl]
  refine AW_rounds (fun mm st=>∃tm k,st=.mk tm g2 n2 []∧mm=L.length-k∧k≤L.length∧tm.get 4=some v2∧tm.get 5=some (.int .i64 (k:Int))∧RowKit.Hid (∀i,(h:i<L.length)→i<k→L[i].size≤300)) ⟨L.length,_,0,rfl,rfl,by omega,?_⟩ ?_
  ·simp[go_sem]
   exact Lib.hid trivial
  rintro mm st ⟨tm',k',rfl,rfl,hk',u4,u5,hu⟩ J' hJ'
  refine aw_ok cxok _ ?_
  by_cases k2:k'<L.length
  ·rcases b2 with⟨h0,_⟩ |⟨q,q1,q2,hva,q3⟩
   ·rw[h0]at k2;simp at k2
   ·subst hva
    have wI:IntKind.i64.wrap ((k':Int)+1)=(k':Int)+1:=i64wrap _ (by omega) (by omega)
    by_cases c:(300:Int)<(L[k']).size
    ·simp[go_sem,u4,u5,k2,q3,c]
     refine hF'.out _ _ _ hE2 (hfin _ ?_)
     symm
     rw[decide_eq_false_iff_not]
     intro q
     have:=q _ (List.getElem_mem k2)
     omega
    ·simp[go_sem,u4,u5,k2,q3,c,wI]
     refine hJ' (L.length-(k'+1)) _ (by omega) ⟨_,k'+1,rfl,rfl,by omega,?_⟩
     simp[go_sem,u4,u5,wI]
     refine Lib.hid fun i h1 h2=>?_
     by_cases e:i=k'
     ·subst e;omega
     ·exact hu.out i h1 (by omega)
  ·simp[go_sem,u4,u5,k2,hv2]
   refine hF'.out _ _ _ hE2 (hfin _ ?_)
   symm
   rw[decide_eq_true_eq]
   intro x hx
   obtain⟨i,h1,rfl⟩:=List.getElem_of_mem hx
   exact hu.out i h1 (by omega)
end
end Go.Ev
namespace Go.Ev
open Go.Proofs Go.ChangeShapes Go.WideShapes Go.ChangeAt Go.RowKit
noncomputable section
def sgW (W:World) (m:Int):Sg where
 blk:=fun i=>if i<8 then some i else none
 cap:=fun _=>0
 opq:=fun _=>.int .i64 m
 imm:=fun b=>match W.heap[b]? with
  |some (.cells C _ _)=>some C.toList
  |_=>none
section
variable {H : Type} {enc : TypeId × Value → H} {W : World} {base : Nat} {spare : Nat → Bool} {held : Bool} {m : Int} {B : Nat}
theorem list_of {α:Type}{p:Nat→α→Prop}:∀(n:Nat),(∀i,i<n→∃k,p i k)→∃ks:List α,ks.length=n∧∀i k,ks[i]?=some k→p i k
 |0,_=>⟨[],rfl,fun i k h=>by simp at h⟩
 |n+1,h=>by
  obtain⟨ks,hl,hk⟩:=list_of n (fun i hi=>h i (by omega))
  obtain⟨x,hx⟩:=h n (by omega)
  refine⟨ks++[x],by simp[hl],fun i k hi=>?_⟩
  by_cases c:i<ks.length
  ·rw[List.getElem?_append_left c]at hi
   exact hk i k hi
  ·rw[List.getElem?_append_right (by omega)]at hi
   obtain⟨h1,h2⟩:=List.getElem?_eq_some_iff.1 hi
   simp at h1 h2
   have:i=n:=by omega
   subst this
   rw[← h2]
   exact hx
theorem rows_of {es:Nat}:∀(L D:List Value),(∀i X,L[i]?=some X→X.cells.toList=(D.drop (i * es)).take es∧X.cells.size=es)→Rows es L D
 |[],D,_=>trivial
 |X::L,D,h=>by
  obtain⟨h1,h2⟩:=h 0 X rfl
  refine⟨by simpa using h1,h2,rows_of L _ fun i Y hY=>?_⟩
  have:=h (i+1) Y (by simpa using hY)
  rw[List.drop_drop]
  rw[show es+i * es=(i+1) * es by rw[Nat.succ_mul,Nat.add_comm]]
  exact this
theorem relL_of {σ:Sg}{α:Type}(e1:α→AV):∀(ks:List (α×Value)),(∀(i:Nat)(k:α×Value),ks[i]?=some k→Rel σ (e1 k.1) k.2)→RelL σ ((ks.map (·.1)).map e1) (ks.map (·.2))
 |[],_=>rfl
 |k::ks,h=>⟨k.2,ks.map (·.2),rfl,h 0 k rfl,relL_of e1 ks fun i q hq=>h (i+1) q (by simpa using hq)⟩
def LeW (t:TypeId)(x:DataW H×List MemPlace):Prop:=∀n∈x.1.weights Tryz.prog t,n≤reachBytes
theorem LeW.field {t:TypeId}{fs:Array Field}{xs:List (DataW H×List MemPlace)}{pl:List MemPlace}(ht:Tryz.prog.underlying t=some (.struct fs))(h:LeW t (.agg (xs.map (·.1)),pl)){i:Nat}{f:Field}{y:DataW H×List MemPlace}(hf:fs[i]?=some f)(hx:xs[i]?=some y):LeW f.type y:=fun n hn=>
 h n (by
  simp only[DataW.weights,ht]
  exact DataW.weights_mem_each (j:=i) (by simp[hf]) (by simp[hx]) n hn)
theorem mem_weightsAll {e:TypeId}{n:Nat}:∀{l:List (DataW H)}{d:DataW H},d∈l→n∈d.weights Tryz.prog e→n∈DataW.weightsAll Tryz.prog e l
 |d0::l,d,hd,hn=>by
  simp only[DataW.weightsAll,List.mem_append]
  rcases List.mem_cons.1 hd with rfl |h
  ·exact .inl hn
  ·exact .inr (mem_weightsAll h hn)
theorem LeW.elem {t e:TypeId}{elems rest:List (DataW H×List MemPlace)}{pl:List MemPlace}(ht:Tryz.prog.underlying t=some (.slice e))(h:LeW t (.slice (elems.map (·.1)) (rest.map (·.1)),pl)){i:Nat}{y:DataW H×List MemPlace}(hx:elems[i]?=some y):LeW e y:=fun n hn=>
 h n (by
  simp only[DataW.weights,ht,List.mem_cons,List.mem_append]
  exact .inr (.inl (mem_weightsAll (List.mem_map.2 ⟨y,List.mem_of_getElem? hx,rfl⟩) hn)))
theorem LeW.str {t:TypeId}{s:ByteArray}{pl:List MemPlace}(h:LeW (H:=H) t (.lit (.string s.data.toList),pl)):s.size≤140737488355328:=by
 have h1:=h s.data.toList.length (by simp[DataW.weights])
 have h2:=reachBytes_lt
 have h3:s.data.toList.length=s.size:=by simp
 omega
theorem sl_rel {α:Type}(e1:α→AV)(Q:α→Prop){t e:TypeId}{es fuel:Nat}{cs:List Value}{x:DataW H×List MemPlace}(ht:Tryz.prog.underlying t=some (.slice e))(hc:Tryz.prog.cellsOf e=es)(hes:0<es)(hw:LeW t x)
  (el:∀n cs' y,fuel=n+1→LeW e y→DataW.trod enc Tryz.prog W base spare held n e cs'=some y→∃(z:α) (V:Value),Rel (sgW W m) (e1 z) V∧V.cells.toList=cs'∧Q z)
  (h:DataW.trod enc Tryz.prog W base spare held fuel t cs=some x):∃(l:List α) (V:Value),cs=[V]∧Rel (sgW W m) (.fz es false (l.map e1)) V∧∀z∈l,Q z:=by
 rcases DataW.trod_slice ht h with⟨hcs,_⟩ |⟨a,len,cap,elems,rest,n,hn,hcs,hx,_,hlc,_,hlen,hel,_⟩
 ·refine⟨[],_,hcs,?_,fun z hz=>by cases hz⟩
  simp only[Rel,List.map_nil]
  exact⟨none,0,rfl,Nat.le_refl _,fun h=>by simp at h,fun _=>rfl,fun h=>by simp at h⟩
 ·rw[hc]at hel
  subst hx
  obtain⟨ks,hk1,hk2⟩:=list_of (α:=α×Value) (p:=fun i k=>Rel (sgW W m) (e1 k.1) k.2∧W.cells? base (a.add (i * es)) es=some k.2.cells.toList∧Q k.1) len (fun i hi=>by
   have q:=hel i hi
   rw[List.getElem?_eq_getElem (by omega)]at q
   cases hq:W.cells? base (a.add (i * es)) es with
   |none=>rw[hq]at q;cases q
   |some cs'=>
    rw[hq]at q
    obtain⟨z,V,h1,h2,h3⟩:=el n cs' _ hn (hw.elem ht (List.getElem?_eq_getElem (by omega))) q
    exact⟨(z,V),h1,by rw[h2],h3⟩)
  subst hk1
  refine⟨ks.map (·.1),_,hcs,?_,fun z hz=>?_⟩
  rotate_left
  ·obtain⟨k,hk,rfl⟩:=List.mem_map.1 hz
   obtain⟨i,hi⟩:=List.mem_iff_getElem?.1 hk
   exact(hk2 i k hi).2.2
  simp only[Rel,List.length_map]
  refine⟨some a,cap,rfl,hlc,fun h=>by simp at h,fun h=>by simp at h,fun hpos=>?_⟩
  have hc0:∀i k,ks[i]?=some k→k.2.cells.toList.length=es∧∀j,j<es→W.cell? ((a.add (i * es)).add j)=k.2.cells.toList[j]?:=fun i k hi=>by
   have:=World.cells?_some (hk2 i k hi).2.1
   exact⟨this.2.1,this.2.2⟩
  have hk0:ks[0]?=some ks[0]:=List.getElem?_eq_getElem hpos
  have a0:=(hc0 0 _ hk0).2 0 hes
  have hl0:=(hc0 0 _ hk0).1
  rw[List.getElem?_eq_getElem (by omega)]at a0
  obtain⟨b,o,spot⟩:=a
  have hsp:spot=none:=by
   simp only[Nat.zero_mul,Addr.add,if_true]at a0
   exact World.cell?_spot a0
  subst hsp
  rw[Addr.add_mid,Addr.add_mid]at a0
  have hb:∃C ty fr,W.heap[b]?=some (.cells C ty fr):=by
   unfold World.cell? at a0
   cases hh:W.heap[b]? with
   |none=>simp[hh]at a0
   |some ob=>cases ob <;> simp[hh]at a0;exact⟨_,_,_,rfl⟩
  obtain⟨C,ty,fr,hb⟩:=hb
  refine⟨b,o,C.toList,ks.map (·.2),rfl,by simp[sgW,hb],relL_of e1 ks (fun i k hi=>(hk2 i k hi).1),rows_of _ _ fun i X hX=>?_⟩
  rw[List.getElem?_map]at hX
  cases hki:ks[i]? with
  |none=>rw[hki]at hX;cases hX
  |some k=>
   rw[hki]at hX
   obtain rfl:k.2=X:=by simpa using hX
   obtain⟨q1,q2⟩:=hc0 i k hki
   refine⟨?_,by simpa using q1⟩
   apply List.ext_getElem?
   intro j
   by_cases hj:j<es
   ·rw[← q2 j hj,Addr.add_mid,Addr.add_mid,cell_at hb,List.getElem?_take,if_pos hj,List.getElem?_drop,List.getElem?_drop]
    simp[Nat.add_assoc]
   ·rw[List.getElem?_eq_none (by omega),List.getElem?_eq_none (by rw[List.length_take];omega)]
theorem cells_aggV (l:List Value):(Value.agg l.toArray).cells.toList=l:=by simp[Value.cells]
theorem co3:Tryz.prog.cellsOf 3=1:=by kernel_rfl
theorem co4:Tryz.prog.cellsOf 4=1:=by kernel_rfl
theorem co9:Tryz.prog.cellsOf 9=1:=by kernel_rfl
theorem co23:Tryz.prog.cellsOf 23=1:=by kernel_rfl
theorem co24:Tryz.prog.cellsOf 24=1:=by kernel_rfl
theorem co25:Tryz.prog.cellsOf 25=1:=by kernel_rfl
theorem co26:Tryz.prog.cellsOf 26=1:=by kernel_rfl
theorem co28:Tryz.prog.cellsOf 28=4:=by kernel_rfl
theorem co30:Tryz.prog.cellsOf 30=11:=by kernel_rfl
theorem co46:Tryz.prog.cellsOf 46=3:=by kernel_rfl
theorem co48:Tryz.prog.cellsOf 48=7:=by kernel_rfl
theorem open_it {fuel:Nat}{cs:List Value}{x:DataW H×List MemPlace}(h:DataW.trod enc Tryz.prog W base spare held fuel 48 cs=some x):∃y:It,RelL (sgW W m) y.cs cs:=by
 obtain⟨xs,n,rfl,rfl,hl,hxl,hf⟩:=DataW.trod_struct Tryz.underlying48 h
 rw[co48]at hl
 have hx:xs.length=7:=hxl
 have g0:DataW.trod enc Tryz.prog W base spare held n 3 ((cs.drop 0).take (Tryz.prog.cellsOf 3))=xs[0]?:=hf 0 _ rfl
 have g1:DataW.trod enc Tryz.prog W base spare held n 9 ((cs.drop 1).take (Tryz.prog.cellsOf 9))=xs[1]?:=hf 1 _ rfl
 have g2:DataW.trod enc Tryz.prog W base spare held n 9 ((cs.drop 2).take (Tryz.prog.cellsOf 9))=xs[2]?:=hf 2 _ rfl
 have g3:DataW.trod enc Tryz.prog W base spare held n 9 ((cs.drop 3).take (Tryz.prog.cellsOf 9))=xs[3]?:=hf 3 _ rfl
 have g4:DataW.trod enc Tryz.prog W base spare held n 9 ((cs.drop 4).take (Tryz.prog.cellsOf 9))=xs[4]?:=hf 4 _ rfl
 have g5:DataW.trod enc Tryz.prog W base spare held n 9 ((cs.drop 5).take (Tryz.prog.cellsOf 9))=xs[5]?:=hf 5 _ rfl
 have g6:DataW.trod enc Tryz.prog W base spare held n 4 ((cs.drop 6).take (Tryz.prog.cellsOf 4))=xs[6]?:=hf 6 _ rfl
 simp only[co3,co4,co9]at g0 g1 g2 g3 g4 g5 g6
 match cs,hl with
 |[c0,c1,c2,c3,c4,c5,c6],_=>
  simp only[List.drop_zero,List.drop_succ_cons,List.take_succ_cons,List.take_zero]at g0 g1 g2 g3 g4 g5 g6
  rw[List.getElem?_eq_getElem (by omega)]at g0 g1 g2 g3 g4 g5 g6
  obtain⟨v0,e0,_⟩:=DataW.trod_int Tryz.underlying3 g0
  obtain⟨v1,e1,_⟩:=DataW.trod_string Tryz.underlying9 g1
  obtain⟨v2,e2,_⟩:=DataW.trod_string Tryz.underlying9 g2
  obtain⟨v3,e3,_⟩:=DataW.trod_string Tryz.underlying9 g3
  obtain⟨v4,e4,_⟩:=DataW.trod_string Tryz.underlying9 g4
  obtain⟨v5,e5,_⟩:=DataW.trod_string Tryz.underlying9 g5
  obtain⟨v6,e6,_⟩:=DataW.trod_bool Tryz.underlying4 g6
  simp only[List.cons.injEq,and_true]at e0 e1 e2 e3 e4 e5 e6
  subst e0 e1 e2 e3 e4 e5 e6
  refine⟨⟨v0,v1,v2,v3,v4,v5,v6⟩,?_⟩
  simp only[It.cs,RelL]
  exact⟨_,_,rfl,by simp only[Rel],_,_,rfl,by simp only[Rel],_,_,rfl,by simp only[Rel],_,_,rfl,by simp only[Rel],_,_,rfl,by simp only[Rel],_,_,rfl,by simp only[Rel],_,_,rfl,by simp only[Rel],rfl⟩
theorem open_re {fuel:Nat}{cs:List Value}{x:DataW H×List MemPlace}(hw:LeW 46 x)(h:DataW.trod enc Tryz.prog W base spare held fuel 46 cs=some x):∃y:Re,RelL (sgW W m) y.cs cs∧fitW y.id∧fitW y.oth:=by
 obtain⟨xs,n,rfl,rfl,hl,hxl,hf⟩:=DataW.trod_struct Tryz.underlying46 h
 rw[co46]at hl
 have hx:xs.length=3:=hxl
 have g0:DataW.trod enc Tryz.prog W base spare held n 3 ((cs.drop 0).take (Tryz.prog.cellsOf 3))=xs[0]?:=hf 0 _ rfl
 have g1:DataW.trod enc Tryz.prog W base spare held n 9 ((cs.drop 1).take (Tryz.prog.cellsOf 9))=xs[1]?:=hf 1 _ rfl
 have g2:DataW.trod enc Tryz.prog W base spare held n 9 ((cs.drop 2).take (Tryz.prog.cellsOf 9))=xs[2]?:=hf 2 _ rfl
 simp only[co3,co9]at g0 g1 g2
 match cs,hl with
 |[c0,c1,c2],_=>
  simp only[List.drop_zero,List.drop_succ_cons,List.take_succ_cons,List.take_zero]at g0 g1 g2
  rw[List.getElem?_eq_getElem (by omega)]at g0 g1 g2
  obtain⟨v0,e0,_⟩:=DataW.trod_int Tryz.underlying3 g0
  obtain⟨v1,e1,x1,_⟩:=DataW.trod_string Tryz.underlying9 g1
  obtain⟨v2,e2,x2,_⟩:=DataW.trod_string Tryz.underlying9 g2
  have w1:=hw.field Tryz.underlying46 (i:=1) rfl (List.getElem?_eq_getElem (by omega))
  have w2:=hw.field Tryz.underlying46 (i:=2) rfl (List.getElem?_eq_getElem (by omega))
  rw[x1]at w1
  rw[x2]at w2
  simp only[List.cons.injEq,and_true]at e0 e1 e2
  subst e0 e1 e2
  refine⟨⟨v0,v1,v2⟩,?_,w1.str,w2.str⟩
  simp only[Re.cs,RelL]
  exact⟨_,_,rfl,by simp only[Rel],_,_,rfl,by simp only[Rel],_,_,rfl,by simp only[Rel],rfl⟩
theorem open_strs {fuel:Nat}{cs:List Value}{x:DataW H×List MemPlace}(hw:LeW 26 x)(h:DataW.trod enc Tryz.prog W base spare held fuel 26 cs=some x):∃(l:List ByteArray)(V:Value),cs=[V]∧Rel (sgW W m) (.fz 1 false (encB l)) V:=by
 obtain⟨l,V,h1,h2,_⟩:=sl_rel (m:=m) AV.bs (fun _=>True) Tryz.underlying26 co9 (by decide) hw (fun k cs' y hk _ hy=>by
  obtain⟨s,e,_⟩:=DataW.trod_string Tryz.underlying9 hy
  subst e
  exact⟨s,.string s,by simp only[Rel],rfl,trivial⟩) h
 exact⟨l,V,h1,h2⟩
theorem open_dv {fuel:Nat}{cs:List Value}{x:DataW H×List MemPlace}(hw:LeW 30 x)(h:DataW.trod enc Tryz.prog W base spare held fuel 30 cs=some x):∃d:Dv,d.Fit∧RelL (sgW W m) d.cs cs:=by
 obtain⟨xs,n,rfl,rfl,hl,hxl,hf⟩:=DataW.trod_struct Tryz.underlying30 h
 rw[co30]at hl
 have hx:xs.length=8:=hxl
 have g0:DataW.trod enc Tryz.prog W base spare held n 9 ((cs.drop 0).take (Tryz.prog.cellsOf 9))=xs[0]?:=hf 0 _ rfl
 have g1:DataW.trod enc Tryz.prog W base spare held n 3 ((cs.drop 1).take (Tryz.prog.cellsOf 3))=xs[1]?:=hf 1 _ rfl
 have g2:DataW.trod enc Tryz.prog W base spare held n 9 ((cs.drop 2).take (Tryz.prog.cellsOf 9))=xs[2]?:=hf 2 _ rfl
 have g3:DataW.trod enc Tryz.prog W base spare held n 23 ((cs.drop 3).take (Tryz.prog.cellsOf 23))=xs[3]?:=hf 3 _ rfl
 have g4:DataW.trod enc Tryz.prog W base spare held n 3 ((cs.drop 4).take (Tryz.prog.cellsOf 3))=xs[4]?:=hf 4 _ rfl
 have g5:DataW.trod enc Tryz.prog W base spare held n 24 ((cs.drop 5).take (Tryz.prog.cellsOf 24))=xs[5]?:=hf 5 _ rfl
 have g6:DataW.trod enc Tryz.prog W base spare held n 25 ((cs.drop 6).take (Tryz.prog.cellsOf 25))=xs[6]?:=hf 6 _ rfl
 have g7:DataW.trod enc Tryz.prog W base spare held n 28 ((cs.drop 7).take (Tryz.prog.cellsOf 28))=xs[7]?:=hf 7 _ rfl
 simp only[co3,co9,co23,co24,co25,co28]at g0 g1 g2 g3 g4 g5 g6 g7
 match cs,hl with
 |[c0,c1,c2,c3,c4,c5,c6,c7,c8,c9,c10],_=>
  simp only[List.drop_zero,List.drop_succ_cons,List.take_succ_cons,List.take_zero]at g0 g1 g2 g3 g4 g5 g6 g7
  rw[List.getElem?_eq_getElem (by omega)]at g0 g1 g2 g3 g4 g5 g6 g7
  have w0:=hw.field Tryz.underlying30 (i:=0) rfl (List.getElem?_eq_getElem (by omega))
  have w2:=hw.field Tryz.underlying30 (i:=2) rfl (List.getElem?_eq_getElem (by omega))
  have w3:=hw.field Tryz.underlying30 (i:=3) rfl (List.getElem?_eq_getElem (by omega))
  have w5:=hw.field Tryz.underlying30 (i:=5) rfl (List.getElem?_eq_getElem (by omega))
  have w6:=hw.field Tryz.underlying30 (i:=6) rfl (List.getElem?_eq_getElem (by omega))
  have w7:=hw.field Tryz.underlying30 (i:=7) rfl (List.getElem?_eq_getElem (by omega))
  obtain⟨v0,e0,x0,_⟩:=DataW.trod_string Tryz.underlying9 g0
  obtain⟨v1,e1,_⟩:=DataW.trod_int Tryz.underlying3 g1
  obtain⟨v2,e2,x2,_⟩:=DataW.trod_string Tryz.underlying9 g2
  obtain⟨l3,V3,e3,h3,_⟩:=sl_rel (m:=m) (fun n:Int=>AV.int .i64 n) (fun _=>True) Tryz.underlying23 co3 (by decide) w3 (fun k cs' y hk _ hy=>by
   obtain⟨s,e,_⟩:=DataW.trod_int Tryz.underlying3 hy
   subst e
   exact⟨s,.int .i64 s,by simp only[Rel],rfl,trivial⟩) g3
  obtain⟨v4,e4,_⟩:=DataW.trod_int Tryz.underlying3 g4
  obtain⟨l5,V5,e5,h5,_⟩:=sl_rel (m:=m) (fun y:It=>.agg y.cs) (fun _=>True) Tryz.underlying24 co48 (by decide) w5 (fun k cs' y hk _ hy=>by
   obtain⟨f,hf⟩:=open_it (m:=m) hy
   exact⟨f,.agg cs'.toArray,by simp only[Rel];exact⟨cs',rfl,hf⟩,cells_aggV _,trivial⟩) g5
  obtain⟨l6,V6,e6,h6,q6⟩:=sl_rel (m:=m) (fun y:Re=>.agg y.cs) (fun y=>fitW y.id∧fitW y.oth) Tryz.underlying25 co46 (by decide) w6 (fun k cs' y hk hw hy=>by
   obtain⟨f,hf,hq⟩:=open_re (m:=m) hw hy
   exact⟨f,.agg cs'.toArray,by simp only[Rel];exact⟨cs',rfl,hf⟩,cells_aggV _,hq⟩) g6
  rw[x0]at w0
  rw[x2]at w2
  obtain⟨ys,n',hn',hy7,_,hyl,hfy⟩:=DataW.trod_struct Tryz.underlying28 g7
  have hy:ys.length=4:=hyl
  have k0:DataW.trod enc Tryz.prog W base spare held n' 3 (([c7,c8,c9,c10].drop 0).take (Tryz.prog.cellsOf 3))=ys[0]?:=hfy 0 _ rfl
  have k1:DataW.trod enc Tryz.prog W base spare held n' 3 (([c7,c8,c9,c10].drop 1).take (Tryz.prog.cellsOf 3))=ys[1]?:=hfy 1 _ rfl
  have k2:DataW.trod enc Tryz.prog W base spare held n' 26 (([c7,c8,c9,c10].drop 2).take (Tryz.prog.cellsOf 26))=ys[2]?:=hfy 2 _ rfl
  have k3:DataW.trod enc Tryz.prog W base spare held n' 26 (([c7,c8,c9,c10].drop 3).take (Tryz.prog.cellsOf 26))=ys[3]?:=hfy 3 _ rfl
  simp only[co3,co26]at k0 k1 k2 k3
  simp only[List.drop_zero,List.drop_succ_cons,List.take_succ_cons,List.take_zero]at k0 k1 k2 k3
  rw[List.getElem?_eq_getElem (by omega)]at k0 k1 k2 k3
  rw[hy7]at w7
  have u2:=w7.field Tryz.underlying28 (i:=2) rfl (List.getElem?_eq_getElem (by omega))
  have u3:=w7.field Tryz.underlying28 (i:=3) rfl (List.getElem?_eq_getElem (by omega))
  obtain⟨v7,e7,_⟩:=DataW.trod_int Tryz.underlying3 k0
  obtain⟨v8,e8,_⟩:=DataW.trod_int Tryz.underlying3 k1
  obtain⟨l9,V9,e9,h9⟩:=open_strs (m:=m) u2 k2
  obtain⟨l10,V10,e10,h10⟩:=open_strs (m:=m) u3 k3
  simp only[List.cons.injEq,and_true]at e0 e1 e2 e3 e4 e5 e6 e7 e8 e9 e10
  subst e0 e1 e2 e3 e4 e5 e6 e7 e8 e9 e10
  refine⟨⟨v0,v1,v2,l3,v4,l5,l6,v7,v8,l9,l10⟩,⟨w0.str,w2.str,q6⟩,?_⟩
  simp only[Dv.cs,RelL]
  exact⟨_,_,rfl,by simp only[Rel],_,_,rfl,by simp only[Rel],_,_,rfl,by simp only[Rel],_,_,rfl,h3,_,_,rfl,by simp only[Rel],_,_,rfl,h5,_,_,rfl,h6,_,_,rfl,by simp only[Rel],_,_,rfl,by simp only[Rel],_,_,rfl,h9,_,_,rfl,h10,rfl⟩
end
end
end Go.Ev
