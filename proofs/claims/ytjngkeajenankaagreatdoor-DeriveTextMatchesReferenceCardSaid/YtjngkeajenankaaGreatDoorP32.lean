/- Texts N7 X5 CT HM. -/
import Derived.Laws.Pointers
import Derived.TacticsInMore
import Derived.RegionIn
import Derived.LoopNIn
import Derived.Test.YtjngkeajenankaaGreatDoorLays
import Derived.Test.YtjngkeajenankaaGreatDoorP31
set_option linter.unusedSimpArgs false
set_option linter.unusedVariables false
set_option maxRecDepth 100000
namespace Go.Ev
open Go.Proofs Go.RowKit
noncomputable section
attribute [-go_sem] pPick lookRes evConvS evStrB
def StrV (v:AV)(l:List ByteArray)(h:Tr ABlk):Prop:=(∃full,v=.fz 1 full (encB l))∨∃q cp o o' e,v=.sl q 0 l.length cp o∧h.get q=some (bx 9 (encB l) o' e)
theorem line_g (v:AV)(l:List ByteArray)(h:Tr ABlk) (nx:Nat)(hv:StrV v l h)(hl:l.length≤1000000000)(hs:sizesL l≤1000000000):ACall Tryz.prog cx 24 [v] h nx fun u g ny=>u=.bs (lineB l)∧g=h∧ny=nx:=by
 rcases hv with⟨full,rfl⟩ |⟨q,cp,o,o',e,rfl,gq⟩
 ·exact line_c full l hl hs h nx
 refine ACall_mk (sz:=23) (rs:=[.tmp 2]) cxok ft24 rfl rfl rfl (by simp) ?_
 obtain⟨R,hR⟩:∃R:AV→Tr ABlk→Nat→Prop,R=fun u g ny=>u=.bs (lineB l)∧g=h∧ny=nx:=⟨_,rfl⟩
 rw[← hR]
 have hF:∀b,b=lineB l→R (.bs b) h nx:=fun z e=>by rw[hR,e];exact⟨rfl,rfl,rfl⟩
 have hF':=Lib.hid hF
 clear hF hR
 simp[go_sem]
 refine AW_rounds (fun mm st=>∃tm k s,st=.mk tm h nx []∧mm=l.length-k∧k≤l.length∧tm.get 0=some (.sl q 0 l.length cp o)∧tm.get 3=some (.bs s)∧tm.get 4=some (.int .i64 (k:Int))∧RowKit.Hid (s.data.toList=wordsL (l.take k))) ⟨l.length,_,0,⟨#[]⟩,rfl,rfl,by omega,?_⟩ ?_
 ·simp[go_sem]
  exact Lib.hid rfl
 ·rintro mm st ⟨tm,k,s,rfl,rfl,hk,t0,t3,t4,hv⟩ J hJ
  refine aw_ok cxok _ ?_
  have hsl:s.size≤sizesL (l.take k):=by
   have h1:=wordsL_len (l.take k)
   rw[← hv.out]at h1
   have:s.data.toList.length=s.size:=by simp
   omega
  by_cases c1:k<l.length
  ·have h2:=sizesL_at l k c1
   have e1:l.take (k+1)=l.take k++[l[k]]:=(List.take_append_getElem c1).symm
   by_cases k0:k=0
   ·subst k0
    have hz:s=⟨#[]⟩:=by
     have:=hv.out
     simp[wordsL]at this
     exact ByteArray.ext this
    subst hz
    have s1:(ByteArray.mk #[]).size+l[0].size≤9223372036854775807:=by
     have:(ByteArray.mk #[]).size=0:=rfl
     omega
    have s2:l[0].size≤9223372036854775807:=by omega
    simp[go_sem,t0,t3,t4,c1,s1,s2,gq]
    refine hJ (l.length-1) _ (by omega) ⟨_,1,l[0],rfl,rfl,by omega,?_⟩
    simp(disch:=omega) [go_sem,t0,t3,t4,i64wrap]
    simp at e1
    rw[e1]
    exact⟨ByteArray.ext (by simp),Lib.hid rfl⟩
   ·have k0I:(0:Int)<k:=by omega
    have kp:0<k:=by omega
    have s1:s.size+1≤9223372036854775807:=by omega
    have s2:s.size+1+l[k].size≤9223372036854775807:=by omega
    have z1:(ByteArray.mk #[32]).size=1:=rfl
    have s3:s.size≤9223372036854775806:=by omega
    simp[go_sem,t0,t3,t4,c1,k0I,kp,z1,s1,s2,s3,gq]
    refine hJ (l.length-(k+1)) _ (by omega) ⟨_,k+1,s++⟨#[32]⟩++l[k],rfl,rfl,by omega,?_⟩
    simp(disch:=omega) [go_sem,t0,t3,t4,i64wrap]
    refine Lib.hid ?_
    rw[e1,wordsL_snoc _ _ (by
     intro q
     have:=congrArg List.length q
     rw[List.length_take,List.length_nil]at this
     omega),← hv.out]
  ·have e1:l.take k=l:=List.take_of_length_le (by omega)
   rw[e1]at hv hsl
   have s1:s.size+1≤9223372036854775807:=by omega
   have z1:(ByteArray.mk #[10]).size=1:=rfl
   have s3:s.size≤9223372036854775806:=by omega
   simp[go_sem,t0,t3,t4,c1,z1,s1,s3]
   refine hF'.out _ ?_
   unfold lineB
   rw[← hv.out]
   apply ByteArray.ext
   apply Array.ext'
   simp
def decI (n:Int):ByteArray:=decS n.toNat
theorem decI_c (n:Int)(h0:0≤n)(h1:n≤1000000):Ret Tryz.prog cx 25 [.int .i64 n] (.bs (decI n)):=by
 obtain⟨m,rfl⟩:∃m:Nat,n=(m:Int):=⟨n.toNat,by omega⟩
 exact decimal_c m (by omega)
theorem decI_len (n:Int)(h1:n≤1000000):(decI n).size≤20:=by
 show (Lib.decDigits n.toNat).toArray.size≤20
 rw[List.size_toArray,Lib.decDigits_length]
 rcases Nat.eq_zero_or_pos n.toNat with h |h
 ·rw[h]
  have:=nDigits_le 1 (by omega) (by omega)
  have e:Lib.nDigits 0=Lib.nDigits 1:=by
   have h1:=Lib.decDigits_length 0
   have h2:=Lib.decDigits_length 1
   rw[Lib.decDigits_one (by omega)]at h1 h2
   rw[← h1,← h2]
   rfl
  omega
 ·exact nDigits_le _ h (by omega)
def wDer:ByteArray:=⟨#[100,101,114,105,118,97,116,105,111,110]⟩
def wCase:ByteArray:=⟨#[99,97,115,101]⟩
def wItem:ByteArray:=⟨#[105,116,101,109]⟩
def wStep:ByteArray:=⟨#[115,116,101,112]⟩
def wAns:ByteArray:=⟨#[97,110,115,119,101,114]⟩
def wBy:ByteArray:=⟨#[98,121]⟩
def wOver:ByteArray:=⟨#[111,118,101,114]⟩
def line1 (d:Dv):ByteArray:=lineB [wDer,d.root,decI d.count,d.q,decI d.day]
def line2 (d:Dv):ByteArray:=lineB (wCase::d.case.map decI)
def itemL (y:It):ByteArray:=lineB [wItem,decI y.kind,y.id,orB y.par,quoteB y.nor,quoteB y.sou]
def stepL2 (s:Re):ByteArray:=lineB [wStep,decI s.kind,s.id,orB s.oth]
def line5 (d:Dv):ByteArray:=lineB [wAns,decI d.state,decI d.value]
def linesT (d:Dv):List ByteArray:=[line1 d,line2 d]++d.texts.map itemL++d.steps.map stepL2++[line5 d,lineB (wBy::d.by_),lineB (wOver::d.over)]
def catB (l:List ByteArray):ByteArray:=⟨(l.flatMap (·.data.toList)).toArray⟩
theorem lineB_len (l:List ByteArray):(lineB l).size≤sizesL l+1:=by
 have:=wordsL_len l
 show (wordsL l++[10]).toArray.size≤_
 simp
 exact this
theorem orB_len (s:ByteArray):(orB s).size≤s.size+1:=by
 unfold orB
 split
 ·show 1≤_;omega
 ·omega
theorem quoteB_len (s:ByteArray):(quoteB s).size≤2 * s.size+2:=by
 have:=qL_len s.data.toList
 have e:s.data.toList.length=s.size:=by simp
 show (34::(s.data.toList.flatMap qB++[34])).toArray.size≤_
 simp only[List.size_toArray,List.length_cons,List.length_append,List.length_nil]
 omega
theorem sizesL_le {m:Nat}:∀{l:List ByteArray},(∀x∈l,x.size≤m)→sizesL l≤l.length * (m+1)
 |[],_=>by simp[sizesL]
 |a::l,h=>by
  have h1:=sizesL_le (l:=l) fun x hx=>h x (List.mem_cons_of_mem _ hx)
  have h2:=h a (List.mem_cons_self)
  simp only[sizesL,List.map_cons,List.sum_cons,List.length_cons,Nat.succ_mul]at h1 ⊢
  omega
theorem sizesL_cons (a:ByteArray)(l:List ByteArray):sizesL (a::l)=a.size+1+sizesL l:=by simp[sizesL]
theorem line1_len {d:Dv}{nm dg:ByteArray→Bool}(hF:d.Frm nm dg)(hs:d.short):sizesL [wDer,d.root,decI d.count,d.q,decI d.day]≤1000:=by
 have h1:d.root.size+d.q.size≤300:=hs.1.1
 have hfew:d.texts.length≤40∧∀x∈d.texts,x.small:=by have:=hs.1.2.2.2.2.2;unfold fewB at this;simpa using this
 have h2:=decI_len d.count (by have:=hF.count;omega)
 have h3:=decI_len d.day hF.day.2
 have:wDer.size=10:=rfl
 simp[sizesL]
 omega
theorem line2_len {d:Dv}{nm dg:ByteArray→Bool}(hF:d.Frm nm dg)(hs:d.short):sizesL (wCase::d.case.map decI)≤2000:=by
 have h1:=sizesL_le (m:=20) (l:=d.case.map decI) fun x hx=>by
  obtain⟨n,hn,rfl⟩:=List.mem_map.1 hx
  exact decI_len n (hF.case n hn).2
 rw[sizesL_cons]
 have:wCase.size=4:=rfl
 rw[List.length_map]at h1
 have:=Nat.mul_le_mul_right (20+1) hs.1.2.1
 omega
theorem item_len {y:It}{nm:ByteArray→Bool}(hy:y.ok nm)(hs:y.small):sizesL [wItem,decI y.kind,y.id,orB y.par,quoteB y.nor,quoteB y.sou]≤5000:=by
 obtain⟨m1,m2,m3,m4,m5⟩:=hs
 have a1:wItem.size=4:=rfl
 have a2:=decI_len y.kind (by have:=hy.1;omega)
 have a3:=orB_len y.par
 have a4:=quoteB_len y.nor
 have a5:=quoteB_len y.sou
 simp only[sizesL,List.map_cons,List.map_nil,List.sum_cons,List.sum_nil]
 omega
theorem step_len {y:Re}{nm:ByteArray→Bool}(hy:y.ok nm)(hs:y.short):sizesL [wStep,decI y.kind,y.id,orB y.oth]≤1000:=by
 have hs':y.id.size+y.oth.size≤300:=hs
 have a1:wStep.size=4:=rfl
 have a2:=decI_len y.kind (by have:=hy.1;omega)
 have a3:=orB_len y.oth
 simp only[sizesL,List.map_cons,List.map_nil,List.sum_cons,List.sum_nil]
 omega
theorem line5_len {d:Dv}{nm dg:ByteArray→Bool}(hF:d.Frm nm dg):sizesL [wAns,decI d.state,decI d.value]≤1000:=by
 have h2:=decI_len d.state (by have:=hF.state;omega)
 have h3:=decI_len d.value hF.value.2
 have:wAns.size=6:=rfl
 simp[sizesL]
 omega
theorem names_len {w:ByteArray}{l:List ByteArray}(hw:w.size≤10)(hl:l.length≤40)(hs:∀x∈l,x.size≤300):sizesL (w::l)≤13000:=by
 have h1:=sizesL_le hs
 rw[sizesL_cons]
 have:=Nat.mul_le_mul_right (300+1) hl
 omega
theorem linesT_small {d:Dv}{nm dg:ByteArray→Bool}(hF:d.Frm nm dg)(hs:d.short):(linesT d).length≤110∧∀x∈linesT d,x.size≤20000:=by
 have hfew:d.texts.length≤40∧∀x∈d.texts,x.small:=by have:=hs.1.2.2.2.2.2;unfold fewB at this;simpa using this
 have h3:d.steps.length≤60:=hs.1.2.2.1
 refine⟨by simp[linesT];omega,fun x hx=>?_⟩
 unfold linesT at hx
 simp only[List.mem_append,List.mem_cons,List.mem_map,List.not_mem_nil,or_false]at hx
 rcases hx with ((( rfl |rfl) |⟨y,hy,rfl⟩) |⟨y,hy,rfl⟩) |rfl |rfl |rfl
 ·have:=lineB_len [wDer,d.root,decI d.count,d.q,decI d.day]
  have:=line1_len hF hs
  unfold line1
  omega
 ·have:=lineB_len (wCase::d.case.map decI)
  have:=line2_len hF hs
  unfold line2
  omega
 ·have:=lineB_len [wItem,decI y.kind,y.id,orB y.par,quoteB y.nor,quoteB y.sou]
  have:=item_len (hF.texts y hy) (hfew.2 y hy)
  unfold itemL
  omega
 ·have:=lineB_len [wStep,decI y.kind,y.id,orB y.oth]
  have:=step_len (hF.steps y hy) (hs.2.1 y hy)
  unfold stepL2
  omega
 ·have:=lineB_len [wAns,decI d.state,decI d.value]
  have:=line5_len hF
  unfold line5
  omega
 ·have:=lineB_len (wBy::d.by_)
  have:=names_len (w:=wBy) (by decide) hs.1.2.2.2.1 fun x hx=>hs.2.2 x (List.mem_append.2 (.inl hx))
  omega
 ·have:=lineB_len (wOver::d.over)
  have:=names_len (w:=wOver) (by decide) hs.1.2.2.2.2.1 fun x hx=>hs.2.2 x (List.mem_append.2 (.inr hx))
  omega
theorem lit_app {n:Nat}{l1 l2:List ByteArray}{g:Tr ABlk}(hl:l1.length+l2.length≤16777216):
  ∃v' g' n',app2 true l2.length (encB l2) 9 1 (.fz 1 true (encB l1)) g n=.val v' g' n'∧(v'=.fz 1 true (encB (l1++l2))∨(v'=.sl n 0 (l1++l2).length 0 true∧n<n'∧g'.get n=some (bx 9 (encB (l1++l2)) true 1)))∧n≤n'∧∀k,k<n→g'.get k=g.get k:=by
 cases l2 with
 |nil=>exact⟨.fz 1 true (encB l1),g,n,rfl,.inl (by rw[List.append_nil]),Nat.le_refl _,fun _ _=>rfl⟩
 |cons a l2=>
  refine⟨_,_,_,app2_fz (a::l2).length 9 1 (encB (a::l2)) (encB l1) g n (by simp) (by simpa[encB]using hl),.inr ⟨by simp[encB],Nat.lt_succ_self _,?_⟩,Nat.le_succ _,fun k hk=>?_⟩
  ·rw[Tr.get_put,if_pos rfl,encB_app,encB_flat]
  ·rw[Tr.get_put,if_neg (by omega)]
theorem ft7:cx.ft.get 7=some Tryz.f7:=cxS_ft (by decide) (by kernel_rfl)
set_option maxHeartbeats 8000000 in
theorem rtext_c (d:Dv)(hd:d.Ok)(hsh:d.short):Ret Tryz.prog cx 7 [.agg d.cs] (match frmB rnmB isB d with |true=>.tup [.bs (catB (linesT d)),.int .i64 0] |false=>.tup [.bs ⟨#[]⟩,.int .i64 1]):=by
 refine Ret.mk fun h nx R hR=>ACall_mk (sz:=156) (rs:=[.tmp 2,.tmp 3]) cxok ft7 rfl rfl rfl (by simp) ?_
 have hf:=rformed_c d hd
 cases hb0:frmB rnmB isB d with
 |false=>
  rw[hb0]at hR hf
  unfold Dv.cs at hf ⊢
  simp[go_sem,segL]
  refine Ret.use hf ?_
  simp[go_sem,goOn_some]
  exact hR _ _ _ ((ext_put (by omega)).2 (Ext.refl _ _)) (Fz.eq rfl rfl)
 |true=>
 have hF:d.Frm rnmB isB:=by
  unfold frmB at hb0
  simpa using hb0
 rw[hb0]at hR hf
 simp only at hR
 have hR':∀b g ny,Ext nx h g→b=catB (linesT d)→R (.tup [.bs b,.int .i64 0]) g ny:=fun b g ny e1 e2=>hR _ _ _ e1 (Fz.eq rfl (by rw[e2]))
 have hR2:=Lib.hid hR'
 clear hR hR'
 have hLT:=linesT_small hF hsh
 have hnB:=names_len (w:=wBy) (by decide) hsh.1.2.2.2.1 fun x hx=>hsh.2.2 x (List.mem_append.2 (.inl hx))
 have hnO:=names_len (w:=wOver) (by decide) hsh.1.2.2.2.2.1 fun x hx=>hsh.2.2 x (List.mem_append.2 (.inr hx))
 have hl5:=line5_len hF
 obtain⟨⟨sh1,sh2,sh3,sh4,sh5,sh6⟩,sh7,sh8⟩:=hsh
 have hfew:d.texts.length≤40∧∀x∈d.texts,x.small:=by unfold fewB at sh6;simpa using sh6
 unfold Dv.cs at hf ⊢
 simp[go_sem,segL]
 refine Ret.use hf ?_
 simp[go_sem,goOn_some]
 refine AW_draw mixed cxok G0sym [14] [5,10,12] [] (by kernel_rfl) ?_
 have hroot:d.root.size≤300:=by omega
 have hqs:d.q.size≤300:=by omega
 have hcnt:0≤d.count∧d.count≤1000000:=by have:=hF.count;omega
 have hday:=hF.day
 have hl1:=decI_len d.count hcnt.2
 have hl2:=decI_len d.day hday.2
 have s1:sizesL [wDer,d.root,decI d.count,d.q,decI d.day]≤1000:=by
  have:wDer.size=10:=rfl
  simp[sizesL]
  omega
 simp[go_sem]
 refine retP_mk (decI_c d.count hcnt.1 hcnt.2) ?_
 simp[go_sem,putS_some,segL]
 refine retP_mk (decI_c d.day hday.1 hday.2) ?_
 simp[go_sem,putS_some,segL]
 refine retP_mk (line_c true [wDer,d.root,decI d.count,d.q,decI d.day] (by simp) (by omega)) ?_
 simp[go_sem,putS_some,segL]
 change AW _ _ _ _ _ _ (.mk _ (((h.put nx (some (bx 30 d.cs false 0))).put (nx+1) (some (bx 9 (encB [line1 d]) true 1))).put (nx+2) _) _ _)
 refine AW_rounds (fun mm st=>∃tm k g ny q cp o o' e,st=.mk tm g ny []∧mm=d.case.length-k∧k≤d.case.length∧tm.get 1=some (.ptr nx 0)∧tm.get 4=some (.sl (nx+1) 0 1 0 true)∧tm.get 5=some (.sl q 0 (k+1) cp o)∧tm.get 6=some (.int .i64 (k:Int))∧nx+2≤q∧q<ny∧
  g.get nx=some (bx 30 d.cs false 0)∧g.get (nx+1)=some (bx 9 (encB [line1 d]) true 1)∧g.get q=some (bx 9 (encB (wCase::(d.case.take k).map decI)) o' e)∧((k=0∧cp=1∧o=false∧o'=false∧e=0)∨(k≠0∧cp=0∧o=true∧o'=true∧e=1))∧Ext nx h g) ⟨d.case.length,_,0,_,_,nx+2,1,false,false,0,rfl,rfl,by omega,?_⟩ ?_
 ·simp(disch:=omega)only[ext_put]
  simp[go_sem]
  exact⟨rfl,Ext.refl _ _⟩
 rintro mm st ⟨tm,k,g,ny,q,cp,o,o',e,rfl,rfl,hk,t1,t4,t5,t6,q0,q1,hb,hp,hq,hm,hE⟩ J hJ
 refine aw_ok cxok _ ?_
 have n1:¬nx=ny:=by omega
 have n2:¬nx+1=ny:=by omega
 have n3:¬q=ny:=by omega
 have n4:¬nx=q:=by omega
 have n5:¬nx+1=q:=by omega
 have n6:¬nx=ny+1:=by omega
 have n7:¬nx+1=ny+1:=by omega
 by_cases k1:k<d.case.length
 ·have wI:IntKind.i64.wrap ((k:Int)+1)=(k:Int)+1:=i64wrap _ (by omega) (by omega)
  have hc:=hF.case _ (List.getElem_mem k1)
  have ht:d.case.take (k+1)=d.case.take k++[d.case[k]]:=(List.take_append_getElem k1).symm
  have hgo:∀tm' g' n' q',tm'.get 1=some (.ptr nx 0)→tm'.get 4=some (.sl (nx+1) 0 1 0 true)→tm'.get 5=some (.sl q' 0 (k+1+1) 0 true)→tm'.get 6=some (.int .i64 ((k:Int)+1))→nx+2≤q'→q'<n'→
    g'.get nx=some (bx 30 d.cs false 0)→g'.get (nx+1)=some (bx 9 (encB [line1 d]) true 1)→g'.get q'=some (bx 9 (encB (wCase::(d.case.take k).map decI)++[.bs (decI d.case[k])]) true 1)→Ext nx h g'→J (.mk tm' g' n' []):=fun tm' g' n' q' a1 a4 a5 a6 b1 b2 b3 b4 b5 b6=>
   hJ (d.case.length-(k+1)) _ (by omega) ⟨tm',k+1,g',n',q',0,true,true,1,rfl,rfl,by omega,a1,a4,a5,by rw[a6];rfl,b1,b2,b3,b4,by rw[b5,ht,List.map_append];simp[encB],.inr ⟨by omega,rfl,rfl,rfl,rfl⟩,b6⟩
  have hl:(encB (wCase::(d.case.take k).map decI)).length=k+1:=by simp[encB];omega
  have hl80:k+1+1≤16777216:=by omega
  generalize encB (wCase::(d.case.take k).map decI)=W at hq hgo hl
  unfold Dv.cs at hb hgo
  simp[go_sem,t1,t4,t5,t6,k1,hb]
  refine Ret.use (decI_c _ hc.1 hc.2) ?_
  rcases hm with⟨rfl,rfl,rfl,rfl,rfl⟩ |⟨k0,rfl,rfl,rfl,rfl⟩
  ·have w01:IntKind.i64.wrap 1=1:=i64wrap 1 (by omega) (by omega)
   simp at hl
   simp[go_sem,goOn_some,segL,n1,n2,n3,n4,n5,n6,n7,hq,hl,w01,t6]
   refine hgo _ _ _ (ny+1) (by simp[go_sem,t1]) (by simp[go_sem,t4]) (by simp[go_sem]) (by simp[go_sem,t6,w01]) (by omega) (by omega) (by simp[go_sem,n1,n6,hb]) (by simp[go_sem,n1,n2,n7,hp]) (by simp[go_sem]) ?_
   simp(disch:=omega)only[ext_put]
   exact hE
  ·simp[go_sem,goOn_some,segL,n1,n2,n3,n4,n5,n6,n7,hq,hl,hl80,wI,t6]
   refine hgo _ _ _ (ny+1) (by simp[go_sem,t1]) (by simp[go_sem,t4]) (by simp[go_sem]) (by simp[go_sem,t6,wI]) (by omega) (by omega) (by simp[go_sem,n1,n4,n6,hb]) (by simp[go_sem,n1,n2,n5,n7,hp]) (by simp[go_sem]) ?_
   simp(disch:=omega)only[ext_put]
   exact hE
 have ek:d.case.take k=d.case:=List.take_of_length_le (by omega)
 have ekl:(wCase::d.case.map decI).length=k+1:=by simp;omega
 rw[ek]at hq
 have hs2:sizesL (wCase::d.case.map decI)≤2000:=by
  have h1:=sizesL_le (m:=20) (l:=d.case.map decI) fun x hx=>by
   obtain⟨n,hn,rfl⟩:=List.mem_map.1 hx
   exact decI_len n (hF.case n hn).2
  rw[sizesL_cons]
  have:wCase.size=4:=rfl
  rw[List.length_map]at h1
  have:=Nat.mul_le_mul_right (20+1) sh2
  omega
 have hline2:=line_g (.sl q 0 (k+1) cp o) (wCase::d.case.map decI) g ny (.inr ⟨q,cp,o,o',e,by rw[ekl],hq⟩) (by omega) (by omega)
 clear hm hJ
 unfold Dv.cs at hb
 simp[go_sem,t1,t4,t5,t6,k1,hb]
 refine hline2.mono ?_
 rintro u' g' ny' ⟨rfl,e2,e3⟩
 rw[e2,e3]
 clear e2 e3 hline2
 simp[go_sem,goOn_some,segL,n1,n2,n3,n4,n5,n6,n7,hp]
 refine AW_rounds (fun mm st=>∃tm k g ny q L,st=.mk tm g ny []∧mm=d.texts.length-k∧k≤d.texts.length∧tm.get 1=some (.ptr nx 0)∧tm.get 4=some (.sl q 0 (List.length L) 0 true)∧tm.get 7=some (.int .i64 (k:Int))∧nx<q∧q<ny∧
  g.get nx=some (bx 30 d.cs false 0)∧g.get q=some (bx 9 (encB L) true 1)∧Ext nx h g∧RowKit.Hid (L=[line1 d,line2 d]++(d.texts.take k).map itemL)) ⟨d.texts.length,_,0,_,_,ny+1,[line1 d,line2 d],rfl,rfl,by omega,?_⟩ ?_
 ·simp(disch:=omega)only[ext_put]
  simp[go_sem,t1,n1,n5,n6,show ¬nx=nx+1 by omega,show ¬nx=ny+1 by omega,hb]
  exact⟨by omega,rfl,rfl,hE,Lib.hid trivial⟩
 clear t1 t4 t5 t6 k1 hk tm k hb hE n1 n2 n3 n4 n5 n6 n7 g ny hq hp q0 q1 q cp o o' e ek ekl g' ny' hs2
 rintro mm st ⟨tm,k,g,ny,q,L,rfl,rfl,hk,t1,t4,t7,q0,q1,hb,hq,hE,hv⟩ J hJ
 refine aw_ok cxok _ ?_
 have n1:¬nx=ny:=by omega
 have n3:¬q=ny:=by omega
 have n4:¬nx=q:=by omega
 have n6:¬nx=ny+1:=by omega
 have hLl:L.length=k+2:=by rw[hv.out];simp;omega
 by_cases k1:k<d.texts.length
 ·have wI:IntKind.i64.wrap ((k:Int)+1)=(k:Int)+1:=i64wrap _ (by omega) (by omega)
  have hy:=hF.texts _ (List.getElem_mem k1)
  have hsm:=hfew.2 _ (List.getElem_mem k1)
  have ht:d.texts.take (k+1)=d.texts.take k++[d.texts[k]]:=(List.take_append_getElem k1).symm
  have hgo:∀tm' g' n' q',tm'.get 1=some (.ptr nx 0)→tm'.get 4=some (.sl q' 0 (L.length+1) 0 true)→tm'.get 7=some (.int .i64 ((k:Int)+1))→nx<q'→q'<n'→
    g'.get nx=some (bx 30 d.cs false 0)→g'.get q'=some (bx 9 (encB L++[.bs (itemL d.texts[k])]) true 1)→Ext nx h g'→J (.mk tm' g' n' []):=fun tm' g' n' q' a1 a4 a7 b1 b2 b3 b5 b6=>
   hJ (d.texts.length-(k+1)) _ (by omega) ⟨tm',k+1,g',n',q',L++[itemL d.texts[k]],rfl,rfl,by omega,a1,by rw[a4];simp,by rw[a7];rfl,b1,b2,b3,by rw[b5,encB_app];rfl,b6,Lib.hid (by rw[hv.out,ht,List.map_append,List.append_assoc];rfl)⟩
  have hgo2:=Lib.hid hgo
  have hlW:(encB L).length=L.length:=encB_len L
  have hl80:L.length+1≤16777216:=by omega
  clear hgo hJ hv
  generalize encB L=W at hq hgo2 hlW
  generalize L.length=m at t4 hgo2 hlW hl80 hLl
  unfold Dv.cs at hb hgo2
  generalize hx:d.texts[k]=y at hy hsm hgo2
  obtain⟨kind,id,par,num,nor,sou,gone⟩:=y
  simp only[It.ok,It.small,itemL]at hy hsm hgo2
  obtain⟨⟨y1,y2⟩,_⟩:=hy
  obtain⟨m1,m2,m3,m4,m5⟩:=hsm
  have hk1:=decI_c kind (by omega) (by omega)
  have ho1:=or_c par
  have hn1:=quote_c nor (by omega)
  have hn2:=quote_c sou (by omega)
  have hsz:sizesL [wItem,decI kind,id,orB par,quoteB nor,quoteB sou]≤5000:=by
   have a1:wItem.size=4:=rfl
   have a2:=decI_len kind (by omega)
   have a3:=orB_len par
   have a4:=quoteB_len nor
   have a5:=quoteB_len sou
   simp only[sizesL,List.map_cons,List.map_nil,List.sum_cons,List.sum_nil]
   omega
  have hln:=line_c true [wItem,decI kind,id,orB par,quoteB nor,quoteB sou] (by simp) (by omega)
  simp[go_sem,t1,t4,t7,k1,hb,hx,It.cs,segL,n1]
  refine AW_draw mixed cxok G0sym [18] [3,8,11,14,16] [] (by kernel_rfl) ?_
  simp[go_sem,t4,segL]
  refine retP_mk hk1 ?_
  simp[go_sem,putS_some,segL]
  refine retP_mk ho1 ?_
  simp[go_sem,putS_some,segL]
  refine retP_mk hn1 ?_
  simp[go_sem,putS_some,segL]
  refine retP_mk hn2 ?_
  simp[go_sem,putS_some,segL]
  refine retP_mk hln ?_
  simp[go_sem,putS_some,segL,t4,t7,hq,n1,n3,n4,n6,hlW,hl80,wI]
  refine hgo2.out _ _ _ (ny+1) (by simp[go_sem,t1]) (by simp[go_sem]) (by simp[go_sem,t7,wI]) (by omega) (by omega) (by simp[go_sem,n1,n4,n6,hb]) (by simp[go_sem]) ?_
  simp(disch:=omega)only[ext_put]
  exact hE
 have ek:d.texts.take k=d.texts:=List.take_of_length_le (by omega)
 rw[ek]at hv
 clear hJ
 unfold Dv.cs at hb
 simp[go_sem,t1,t4,t7,k1,hb]
 replace hb:g.get nx=some (bx 30 d.cs false 0):=hb
 refine AW_rounds (fun mm st=>∃tm k g ny q L,st=.mk tm g ny []∧mm=d.steps.length-k∧k≤d.steps.length∧tm.get 1=some (.ptr nx 0)∧tm.get 4=some (.sl q 0 (List.length L) 0 true)∧tm.get 9=some (.int .i64 (k:Int))∧nx<q∧q<ny∧
  g.get nx=some (bx 30 d.cs false 0)∧g.get q=some (bx 9 (encB L) true 1)∧Ext nx h g∧RowKit.Hid (L=[line1 d,line2 d]++d.texts.map itemL++(d.steps.take k).map stepL2)) ⟨d.steps.length,_,0,_,_,q,L,rfl,rfl,by omega,?_⟩ ?_
 ·simp[go_sem,t1,t4]
  exact⟨q0,q1,hb,hq,hE,Lib.hid (by rw[hv.out];simp)⟩
 clear t1 t4 t7 k1 hk tm k hb hE n1 n3 n4 n6 g ny hq q0 q1 q hLl hv L ek
 rintro mm st ⟨tm,k,g,ny,q,L,rfl,rfl,hk,t1,t4,t9,q0,q1,hb,hq,hE,hv⟩ J hJ
 refine aw_ok cxok _ ?_
 have n1:¬nx=ny:=by omega
 have n3:¬q=ny:=by omega
 have n4:¬nx=q:=by omega
 have n6:¬nx=ny+1:=by omega
 have hLl:L.length=d.texts.length+k+2:=by rw[hv.out];simp;omega
 by_cases k1:k<d.steps.length
 ·have wI:IntKind.i64.wrap ((k:Int)+1)=(k:Int)+1:=i64wrap _ (by omega) (by omega)
  have hy:=hF.steps _ (List.getElem_mem k1)
  have hsm:=sh7 _ (List.getElem_mem k1)
  have ht:d.steps.take (k+1)=d.steps.take k++[d.steps[k]]:=(List.take_append_getElem k1).symm
  have hgo:∀tm' g' n' q',tm'.get 1=some (.ptr nx 0)→tm'.get 4=some (.sl q' 0 (L.length+1) 0 true)→tm'.get 9=some (.int .i64 ((k:Int)+1))→nx<q'→q'<n'→
    g'.get nx=some (bx 30 d.cs false 0)→g'.get q'=some (bx 9 (encB L++[.bs (stepL2 d.steps[k])]) true 1)→Ext nx h g'→J (.mk tm' g' n' []):=fun tm' g' n' q' a1 a4 a7 b1 b2 b3 b5 b6=>
   hJ (d.steps.length-(k+1)) _ (by omega) ⟨tm',k+1,g',n',q',L++[stepL2 d.steps[k]],rfl,rfl,by omega,a1,by rw[a4];simp,by rw[a7];rfl,b1,b2,b3,by rw[b5,encB_app];rfl,b6,Lib.hid (by rw[hv.out,ht,List.map_append,← List.append_assoc];rfl)⟩
  have hgo2:=Lib.hid hgo
  have hlW:(encB L).length=L.length:=encB_len L
  have hl80:L.length+1≤16777216:=by omega
  clear hgo hJ hv
  generalize encB L=W at hq hgo2 hlW
  generalize L.length=m at t4 hgo2 hlW hl80 hLl
  unfold Dv.cs at hb hgo2
  have hsz:=step_len hy hsm
  generalize hx:d.steps[k]=y at hy hsm hgo2 hsz
  obtain⟨kind,id,oth⟩:=y
  simp only[Re.ok,Re.short,stepL2]at hy hsm hgo2 hsz
  obtain⟨⟨y1,y2⟩,_⟩:=hy
  have hk1:=decI_c kind (by omega) (by omega)
  have ho1:=or_c oth
  have hln:=line_c true [wStep,decI kind,id,orB oth] (by simp) (by omega)
  simp[go_sem,t1,t4,t9,k1,hb]
  refine AW_draw mixed cxok G0sym [24] [7,20,22] [] (by kernel_rfl) ?_
  simp[go_sem,t1,t4,t9,k1,hb,hx,Re.cs,segL]
  refine retP_mk hk1 ?_
  simp[go_sem,putS_some,segL,t1,t9,k1,hb,hx,Re.cs]
  refine retP_mk ho1 ?_
  simp[go_sem,putS_some,segL]
  refine retP_mk hln ?_
  simp[go_sem,putS_some,segL,t4,t9,hq,n1,n3,n4,n6,hlW,hl80,wI]
  refine hgo2.out _ _ _ ny (by simp[go_sem,t1]) (by simp[go_sem]) (by simp[go_sem,t9,wI]) (by omega) (by omega) (by simp[go_sem,n1,n4,n6,hb]) (by simp[go_sem]) ?_
  simp(disch:=omega)only[ext_put]
  exact hE
 have ek:d.steps.take k=d.steps:=List.take_of_length_le (by omega)
 rw[ek]at hv
 clear hJ
 have hk5:=decI_c d.state hF.state.1 (by have:=hF.state;omega)
 have hk6:=decI_c d.value hF.value.1 hF.value.2
 have hln5:=line_c true [wAns,decI d.state,decI d.value] (by simp) (by omega)
 have hl80:L.length+1≤16777216:=by omega
 unfold Dv.cs at hb
 simp[go_sem,t1,t4,t9,k1,hb]
 refine AW_draw mixed cxok G0sym [12] [4,8,10] [] (by kernel_rfl) ?_
 simp[go_sem,t1,t4,hb]
 refine retP_mk hk5 ?_
 simp[go_sem,putS_some,segL,t1,hb]
 refine retP_mk hk6 ?_
 simp[go_sem,putS_some,segL]
 refine retP_mk hln5 ?_
 simp[go_sem,putS_some,segL,t4,t9,hq,n1,n3,n4,n6,hl80]
 obtain⟨M,hM⟩:∃M,M=(g.put q none).put ny (some (bx 9 (encB L++[AV.bs (lineB [wAns,decI d.state,decI d.value])]) true 1)):=⟨_,rfl⟩
 rw[← hM]
 have Mb:M.get nx=some (bx 30 d.cs false 0):=by rw[hM,Tr.get_put,if_neg n1,Tr.get_put,if_neg n4];exact hb
 have Mq:M.get ny=some (bx 9 (encB (L++[line5 d])) true 1):=by rw[hM,Tr.get_put,if_pos rfl,encB_app];rfl
 have ME:Ext nx h M:=by
  rw[hM]
  simp(disch:=omega)only[ext_put]
  exact hE
 obtain⟨v1,g1,m1,a1,a2,a3,a4⟩:=lit_app (n:=ny+1) (l1:=[wBy]) (l2:=d.by_) (g:=M) (by simp;omega)
 obtain⟨v2,g2,m2,b1,b2,b3,b4⟩:=lit_app (n:=m1) (l1:=[wOver]) (l2:=d.over) (g:=g1) (by simp;omega)
 have c1:g1.get nx=some (bx 30 d.cs false 0):=by rw[a4 nx (by omega)];exact Mb
 have c2:g2.get nx=some (bx 30 d.cs false 0):=by rw[b4 nx (by omega)];exact c1
 have c3:g2.get ny=some (bx 9 (encB (L++[line5 d])) true 1):=by rw[b4 ny (by omega),a4 ny (by omega)];exact Mq
 have c4:Ext nx h g2:=fun j hj=>by rw[b4 j (by omega),a4 j (by omega)];exact ME j hj
 have d1:StrV v1 (wBy::d.by_) g1:=by
  rcases a2 with e |⟨e1,_,e2⟩
  ·exact .inl ⟨true,e⟩
  ·exact .inr ⟨_,_,_,_,_,e1,e2⟩
 have d2:StrV v2 (wOver::d.over) g2:=by
  rcases b2 with e |⟨e1,_,e2⟩
  ·exact .inl ⟨true,e⟩
  ·exact .inr ⟨_,_,_,_,_,e1,e2⟩
 have lg1:=line_g v1 (wBy::d.by_) g1 m1 d1 (by simp;omega) (by omega)
 have lg2:=line_g v2 (wOver::d.over) g2 m2 d2 (by simp;omega) (by omega)
 clear a2 b2 d1 d2 hM hb hq t9
 unfold Dv.cs at Mb c1 c2
 have hlL:(L++[line5 d]).length=L.length+1:=by simp
 have hl82:L.length+1+2≤16777216:=by omega
 have n9:¬ny=m2:=by omega
 refine AW_draw mixed cxok G0sym [5,11,14] [6,12] [(0,5),(7,5),(8,5),(9,5),(10,5),(0,11)] (by kernel_rfl) ?_
 change app2 true d.by_.length (encB d.by_) 9 1 (.fz 1 true [.bs wBy]) M (ny+1)=_ at a1
 change app2 true d.over.length (encB d.over) 9 1 (.fz 1 true [.bs wOver]) g1 m1=_ at b1
 unfold wBy at a1
 unfold wOver at b1
 simp[go_sem,t1,Mb,segL,encB_flat,encB_one,a1]
 refine retH_mk (by kernel_rfl) lg1 ?_
 simp[go_sem,putS_some,segL,t1,c1,Mb,encB_flat,encB_one,b1]
 refine retH_mk (by kernel_rfl) lg2 ?_
 simp[go_sem,putS_some,segL,c1,c2,Mb,c3,encB_len,hl82]
 have hLall:L++[line5 d]++[lineB (wBy::d.by_),lineB (wOver::d.over)]=linesT d:=by rw[hv.out];unfold linesT;simp
 have hEn:encB (L++[line5 d])++[AV.bs (lineB (wBy::d.by_)),AV.bs (lineB (wOver::d.over))]=encB (linesT d):=by rw[← hLall,encB_app (L++[line5 d])];rfl
 have hlen:L.length+1+2=(linesT d).length:=by rw[← hLall];simp
 rw[hEn,hlen]
 obtain⟨hLT1,hLT2⟩:=hLT
 have hsz:=sizesL_le hLT2
 have hsz2:sizesL (linesT d)≤110 * 20001:=Nat.le_trans hsz (Nat.mul_le_mul_right _ hLT1)
 unfold catB at hR2
 generalize linesT d=T at hLT1 hLT2 hsz2 hR2
 have hEf:Ext nx h ((g2.put ny none).put m2 (some (bx 9 (encB T) true 1))):=by
  simp(disch:=omega)only[ext_put]
  exact c4
 have hgf:((g2.put ny none).put m2 (some (bx 9 (encB T) true 1))).get m2=some (bx 9 (encB T) true 1):=by rw[Tr.get_put,if_pos rfl]
 generalize (g2.put ny none).put m2 (some (bx 9 (encB T) true 1))=gf at hEf hgf
 refine AW_rounds (fun mm st=>∃tm k s,st=.mk tm gf (m2+1) []∧mm=T.length-k∧k≤T.length∧tm.get 4=some (.sl m2 0 T.length 0 true)∧tm.get 10=some (.bs s)∧tm.get 11=some (.int .i64 (k:Int))∧RowKit.Hid (s.data.toList=(T.take k).flatMap (·.data.toList))) ⟨T.length,_,0,⟨#[]⟩,rfl,rfl,by omega,?_⟩ ?_
 ·simp[go_sem]
  exact Lib.hid trivial
 clear t1 t4 k1 hk tm k hE n1 n3 n4 n6 q0 q1 hLl ek
 rintro mm st ⟨tm,k,s,rfl,rfl,hk,t4,t10,t11,hu⟩ J hJ
 refine aw_ok cxok _ ?_
 have catL:∀l:List ByteArray,(l.flatMap (·.data.toList)).length≤sizesL l:=fun l=>by
  induction l with
  |nil=>simp[sizesL]
  |cons a l ih=>
   rw[List.flatMap_cons,List.length_append,sizesL_cons]
   have:a.data.toList.length=a.size:=by simp
   omega
 have hss:s.size≤sizesL (T.take k):=by
  have h1:=catL (T.take k)
  rw[← hu.out]at h1
  have:s.data.toList.length=s.size:=by simp
  omega
 by_cases k1:k<T.length
 ·have wI:IntKind.i64.wrap ((k:Int)+1)=(k:Int)+1:=i64wrap _ (by omega) (by omega)
  have ht:T.take (k+1)=T.take k++[T[k]]:=(List.take_append_getElem k1).symm
  have h2:=sizesL_at T k k1
  have hsum:s.size+(T[k]).size≤9223372036854775807:=by omega
  simp[go_sem,t4,t10,t11,k1,hgf,hsum,wI]
  refine hJ (T.length-(k+1)) _ (by omega) ⟨_,k+1,s++T[k],rfl,rfl,by omega,?_⟩
  simp[go_sem,t4,t10,t11,wI]
  refine Lib.hid ?_
  rw[ht,List.flatMap_append,← hu.out]
  simp
 ·have e1:T.take k=T:=List.take_of_length_le (by omega)
  rw[e1]at hu
  simp[go_sem,t4,t10,t11,k1]
  refine hR2.out _ _ _ hEf ?_
  rw[← hu.out]
end
end Go.Ev
namespace Go.Ev
open Go.Proofs Go.RowKit
noncomputable section
attribute [-go_sem] pPick lookRes evConvS evStrB
theorem ft14:cx.ft.get 14=some Tryz.f14:=cxS_ft (by decide) (by kernel_rfl)
theorem ft21:cx.ft.get 21=some Tryz.f21:=cxS_ft (by decide) (by kernel_rfl)
theorem ft51:cx.ft.get 51=some Tryz.f51:=cxS_ft (by decide) (by kernel_rfl)
theorem lineC (full:Bool)(l:List ByteArray)(hl:l.length≤1000000)(hs:sizesL l≤1000000)(h:Tr ABlk) (nx a q:Nat)(L:List UInt8)(hL:L.length≤10000000)(hB:BuSt h nx a q L)(R:AV→Tr ABlk→Nat→Prop)
  (hR:∀v g ny q',nx≤ny→(∀k,k<nx→k≠a→k≠q→g.get k=h.get k)→nx≤q'→BuSt g ny a q' (L++(lineB l).data.toList)→R v g ny):ACall Tryz.prog cx 14 [.fz 1 full (encB l),.ptr a 0] h nx R:=by
 refine ACall_mk (sz:=7) (rs:=[]) cxok ft14 rfl rfl rfl (by simp) ?_
 have hw:=wordsL_len l
 have e1:(ByteArray.mk (wordsL l).toArray)++(ByteArray.mk #[10])=lineB l:=by
  apply ByteArray.ext
  apply Array.ext'
  simp[lineB]
 have s0:(ByteArray.mk (wordsL l).toArray).size=(wordsL l).length:=by simp[ByteArray.size]
 have s1:(ByteArray.mk #[10]).size=1:=rfl
 have s2:(wordsL l).length+1≤9223372036854775807:=by omega
 have s3:(lineB l).size=(wordsL l).length+1:=by rw[← e1,ByteArray.size_append,s0,s1]
 simp[go_sem]
 refine Ret.use (join_c full l (by omega) (by omega)) ?_
 simp[go_sem,goOn_some,s0,s1,s2,e1]
 refine writeString_c h nx a q L (lineB l) (by omega) (by omega) hB _ fun v g ny q' q1 q2 q3 q4=>?_
 simp[go_sem,goOn_some]
 exact hR _ g ny q' q1 q2 q3 q4
@[go_sem] theorem bCap_eq (c:Cx)(t:TypeId)(a:AV)(h:Tr ABlk) (nx:Nat):bCap c (List.toArray [t]) [a] h nx=bR (c.tt.get t) fun ti=>evCap ti a h nx:=rfl
theorem grow_c (n:Nat)(h1:1≤n)(h2:n≤1000000)(h:Tr ABlk) (nx:Nat)(R:AV→Tr ABlk→Nat→Prop)(hR:R (.sl nx 0 0 0 true) (h.put nx (some (bx 9 [] true 1))) (nx+1)):ACall Tryz.prog cx 51 [.sl0,.int .i64 (n:Int)] h nx R:=by
 refine ACall_mk (sz:=27) (rs:=[.tmp 4]) cxok ft51 rfl rfl rfl (by simp) ?_
 have w0:IntKind.i64.wrap 0=0:=rfl
 have wn:IntKind.i64.wrap (n:Int)=n:=i64wrap _ (by omega) (by omega)
 have n0:¬(n:Int)<0:=by omega
 have n1:(0:Int)<n:=by omega
 have n2:n≤16777216:=by omega
 have n3:0<n:=by omega
 simp[go_sem,w0,wn,n0,n1,n2,n3,h1,evCap]
 exact hR
set_option maxHeartbeats 2000000 in
theorem concat_c (full f1 f2:Bool)(l1 l2:List ByteArray)(h1:1≤l1.length)(h2:l1.length+l2.length≤1000000):Ret Tryz.prog cx 21 [.fz 1 full [.fz 1 f1 (encB l1),.fz 1 f2 (encB l2)]] (.fz 1 false (encB (l1++l2))):=by
 refine Ret.mk fun h nx R hR=>ACall_mk (sz:=36) (rs:=[.tmp 2]) cxok ft21 rfl rfl rfl (by simp) ?_
 have w0:IntKind.i64.wrap 0=0:=rfl
 have w1:IntKind.i64.wrap 1=1:=rfl
 have w2:IntKind.i64.wrap 2=2:=rfl
 have wa:IntKind.i64.wrap (l1.length:Int)=l1.length:=i64wrap _ (by omega) (by omega)
 have wb:IntKind.i64.wrap ((l1.length:Int)+l2.length)=(l1.length:Int)+l2.length:=i64wrap _ (by omega) (by omega)
 have n1:¬(l1.length:Int)<0:=by omega
 have n2:¬(l1.length:Int)+l2.length<0:=by omega
 simp[go_sem]
 refine AW_unroll cxok 4 ?_
 simp[go_sem,w0,w1,w2,wa,wb,n1,n2]
 refine grow_c (l1.length+l2.length) (by omega) (by omega) _ _ _ ?_
 simp[go_sem,goOn_some]
 refine AW_unroll cxok 4 ?_
 have m1:l1.length≤16777216:=by omega
 have m2:l1.length+l2.length≤16777216:=by omega
 have o1:=encB_one l1
 have o2:=encB_one l2
 simp[go_sem,w0,w1,w2,m1,m2,o1,o2,encB_flat]
 refine hR _ _ _ ?_ ?_
 ·simp(disch:=omega)only[ext_put]
  exact Ext.refl _ _
 ·have hp:plainL (encB (l1++l2))=true:=by
   have:∀l:List ByteArray,plainL (encB l)=true:=fun l=>by
    induction l with
    |nil=>rfl
    |cons a l ih=>simp[encB,plainL,plain]at ih ⊢;exact ih
   exact this _
  refine .slz (nx+1+1) 0 _ 0 true 9 (encB (l1++l2)).length (putN (encB (l1++l2)) .nil 0) true 1 1 (encB (l1++l2)) (encB (l1++l2)) (encB (l1++l2)) (by omega) ?_ (by simp) (fun j hj=>by rw[Nat.zero_add,get_putN0]) (FzL.same _ hp) (chunk_one (encB_one _)) (by simp[encB])
  rw[Tr.get_put,if_pos rfl,← encB_app]
  rfl
structure TxSt (h:Tr ABlk) (nx a:Nat)(d:Dv)(g:Tr ABlk) (ny:Nat)(L:List UInt8):Prop where
 a0:nx+1<a
 a1:a<ny
 bu:∃q,nx+1<q∧q≠a∧BuSt g ny (nx+1) q L
 d:g.get nx=some (bx 30 d.cs false 0)
 rp:RpSt g a
 ext:Ext nx h g
variable {h g : Tr ABlk} {nx a ny : Nat} {d : Dv} {L : List UInt8} {R : AV → Tr ABlk → Nat → Prop}
theorem BuSt.mono {h g:Tr ABlk}{nx ny b q:Nat}{L:List UInt8}(hB:BuSt h nx b q L)(hn:nx≤ny)(hg:∀k,k<nx→g.get k=h.get k):BuSt g ny b q L:=by
 obtain⟨h0,h1⟩:=hB
 refine⟨by omega,?_⟩
 rcases h1 with⟨e,h2⟩ |⟨e,h2,h3,h4,h5⟩
 ·exact .inl ⟨e,by rw[hg _ h0];exact h2⟩
 ·exact .inr ⟨e,by omega,h3,by rw[hg _ h0];exact h4,by rw[hg _ h2];exact h5⟩
theorem RpSt.mono {h g:Tr ABlk}{a:Nat}(hR:RpSt h a)(hg:g.get a=h.get a):RpSt g a:=by
 unfold RpSt at *
 rw[hg]
 exact hR
theorem TxSt.mono (hT:TxSt h nx a d g ny L){g':Tr ABlk}{ny':Nat}(hn:ny≤ny')(hg:∀k,k<ny→g'.get k=g.get k):TxSt h nx a d g' ny' L:=by
 obtain⟨a0,a1,⟨q,q1,q2,q3⟩,d0,rp,ex⟩:=hT
 exact⟨a0,by omega,⟨q,q1,q2,q3.mono hn hg⟩,by rw[hg _ (by omega)];exact d0,rp.mono (hg _ a1),fun k hk=>by rw[hg _ (by omega)];exact ex k hk⟩
theorem TxSt.put (hT:TxSt h nx a d g ny L){B:Option ABlk}{i ny':Nat}(hn:ny≤ny')(hi:ny≤i):TxSt h nx a d (g.put i B) ny' L:=
 hT.mono hn fun k hk=>by rw[Tr.get_put,if_neg (by omega)]
theorem TxSt.wrote {q:Nat}(hT:TxSt h nx a d g ny L)(q1:nx+1<q)(q2:q≠a){L':List UInt8}{g':Tr ABlk}{ny' q':Nat}(hn:ny≤ny')(hg:∀k,k<ny→k≠nx+1→k≠q→g'.get k=g.get k)(hq:ny≤q')(hB:BuSt g' ny' (nx+1) q' L'):TxSt h nx a d g' ny' L':=by
 obtain⟨a0,a1,_,d0,rp,ex⟩:=hT
 exact⟨a0,by omega,⟨q',by omega,by omega,hB⟩,by rw[hg _ (by omega) (by omega) (by omega)];exact d0,rp.mono (hg _ a1 (by omega) (by omega)),fun k hk=>by rw[hg _ (by omega) (by omega) (by omega)];exact ex k hk⟩
theorem TxSt.line (hT:TxSt h nx a d g ny L)(full:Bool)(l:List ByteArray)(hl:l.length≤1000000)(hs:sizesL l≤1000000)(hL:L.length≤10000000)
  (hR:∀v g' ny',ny≤ny'→TxSt h nx a d g' ny' (L++(lineB l).data.toList)→R v g' ny'):ACall Tryz.prog cx 14 [.fz 1 full (encB l),.ptr (nx+1) 0] g ny R:=by
 obtain⟨q,q1,q2,q3⟩:=hT.bu
 exact lineC full l hl hs g ny (nx+1) q L hL q3 R fun v g' ny' q' e1 e2 e3 e4=>hR v g' ny' e1 (hT.wrote q1 q2 e1 e2 e3 e4)
theorem TxSt.write (hT:TxSt h nx a d g ny L)(s:ByteArray)(h0:s.size≠0)(hs:s.size≤1000000)(hL:L.length≤10000000)
  (hR:∀v g' ny',ny≤ny'→TxSt h nx a d g' ny' (L++s.data.toList)→R v g' ny'):ACall Tryz.prog cx 15 [.ptr (nx+1) 0,.bs s] g ny R:=by
 obtain⟨q,q1,q2,q3⟩:=hT.bu
 exact writeString_c g ny (nx+1) q L s h0 (by omega) q3 R fun v g' ny' q' e1 e2 e3 e4=>hR v g' ny' e1 (hT.wrote q1 q2 e1 e2 e3 e4)
theorem TxSt.rep (hT:TxSt h nx a d g ny L)(s:ByteArray)(hs:s.size≤1000000)(hR:∀g' ny',ny≤ny'→TxSt h nx a d g' ny' L→(∀k,k<ny→k≠a→g'.get k=g.get k)→R (.bs (repS s)) g' ny'):ACall Tryz.prog cx 18 [.ptr a 0,.bs s] g ny R:=by
 obtain⟨a0,a1,⟨q,q1,q2,q3⟩,d0,rp,ex⟩:=id hT
 refine replace_c a s hs g ny a1 rp R fun g' ny' e1 e2 e3=>hR g' ny' e1 ⟨a0,by omega,⟨q,q1,q2,?_⟩,by rw[e3 _ (by omega) (by omega)];exact d0,e2,fun k hk=>by rw[e3 _ (by omega) (by omega)];exact ex k hk⟩ e3
 obtain⟨b0,b1⟩:=q3
 refine⟨by omega,?_⟩
 rcases b1 with⟨e,b2⟩ |⟨e,b2,b3,b4,b5⟩
 ·exact .inl ⟨e,by rw[e3 _ b0 (by omega)];exact b2⟩
 ·exact .inr ⟨e,by omega,b3,by rw[e3 _ b0 (by omega)];exact b4,by rw[e3 _ b2 q2];exact b5⟩
theorem quote_rep (s:ByteArray):(ByteArray.mk #[34])++repS s++(ByteArray.mk #[34])=quoteB s:=by
 apply ByteArray.ext
 apply Array.ext'
 simp[repS,quoteB]
theorem wordsL_cons (w:ByteArray)(l:List ByteArray):wordsL (w::l)=w.data.toList++l.flatMap fun x=>32::x.data.toList:=by
 induction l generalizing w with
 |nil=>simp[wordsL]
 |cons x l ih=>rw[wordsL,ih x];simp
end
end Go.Ev
namespace Go.Ev
open Go.Proofs
noncomputable section
def contN (l2 n2:Nat) (f:Nat):Nat→Bool:=
 Nat.rec (motive:=fun _=>Nat→Bool) (fun _=>false) (fun _ ih n=>match Nat.beq (Nat.mod n (Nat.pow 256 l2)) n2 with
  |true=>true
  |false=>ih (Nat.div n 256)) f
theorem contN_succ (l2 n2 f n:Nat):contN l2 n2 (f+1) n=match Nat.beq (n % 256 ^ l2) n2 with
  |true=>true
  |false=>contN l2 n2 f (n / 256):=rfl
theorem prefN:∀(l2 l n n2:Nat),n2<256 ^ l2→(strL l2 n2).isPrefixOf (strL l n)=(decide (l2≤l) && Nat.beq (n % 256 ^ l2) n2)
 |0,l,n,n2,h=>by
  have:n2=0:=by simpa using h
  subst this
  simp[strL,Nat.mod_one]
 |l2+1,0,n,n2,h=>by
  rw[strL_succ]
  simp[strL]
 |l2+1,l+1,n,n2,h=>by
  have h2:n2 / 256<256 ^ l2:=by
   rw[Nat.pow_succ]at h
   exact Nat.div_lt_of_lt_mul (by rw[Nat.mul_comm];exact h)
  have hm:n % 256 ^ (l2+1)=n % 256+256 * (n / 256 % 256 ^ l2):=by
   rw[Nat.pow_succ,Nat.mul_comm,Nat.mod_mul]
  have a1:n % 256<256:=Nat.mod_lt _ (by decide)
  have a2:n2 % 256<256:=Nat.mod_lt _ (by decide)
  rw[strL_succ,strL_succ,List.isPrefixOf_cons_cons,prefN l2 l (n / 256) (n2 / 256) h2,hm]
  have hb:(UInt8.ofNat (n2 % 256) == UInt8.ofNat (n % 256))=decide (n2 % 256=n % 256):=by
   by_cases e:n2 % 256=n % 256
   ·rw[e];simp
   ·rw[decide_eq_false e,beq_eq_false_iff_ne]
    intro q
    have:=congrArg UInt8.toNat q
    rw[u8 a2,u8 a1]at this
    exact e this
  rw[hb]
  have hk:Nat.beq (n % 256+256 * (n / 256 % 256 ^ l2)) n2=(decide (n2 % 256=n % 256) && Nat.beq (n / 256 % 256 ^ l2) (n2 / 256)):=by
   have e2:=Nat.div_add_mod n2 256
   generalize n / 256 % 256 ^ l2=z
   rw[Bool.eq_iff_iff]
   simp only[Nat.beq_eq,Bool.and_eq_true,decide_eq_true_eq]
   omega
  rw[hk]
  simp only[Nat.add_le_add_iff_right]
  cases decide (n2 % 256=n % 256) <;> cases decide (l2≤l) <;> rfl
theorem contains_cons (b:UInt8)(l sub:List UInt8):Lib.contains (b::l) sub=(sub.isPrefixOf (b::l) || Lib.contains l sub):=by
 unfold Lib.contains
 have h1:=Lib.index_ge l sub
 rw[Lib.index]
 cases hp:sub.isPrefixOf (b::l) with
 |true=>rw[if_pos rfl];rfl
 |false=>
  rw[if_neg (by simp),Bool.false_or]
  by_cases q:Lib.index l sub=-1
  ·rw[if_pos (by rw[q];rfl),q]
  ·rw[if_neg (by rw[beq_iff_eq];exact q)]
   have a:0≤Lib.index l sub:=by omega
   rw[decide_eq_true a,decide_eq_true (by omega)]
theorem contN_ok {l2 n2:Nat}(h2:n2<256 ^ l2):∀(l n:Nat),Lib.contains (strL l n) (strL l2 n2)=contN l2 n2 (Nat.sub (Nat.succ l) l2) n
 |0,n=>by
  cases l2 with
  |zero=>
   have:n2=0:=by simpa using h2
   subst this
   show Lib.contains [] []=contN 0 0 1 n
   rw[show (1:Nat)=0+1 from rfl,contN_succ]
   simp[Nat.mod_one]
   rfl
  |succ k=>
   rw[show Nat.sub (Nat.succ 0) (k+1)=0 from by show 0+1-(k+1)=0;omega]
   rw[strL_succ]
   rfl
 |l+1,n=>by
  have ih:=contN_ok h2 l (n / 256)
  have hp:=prefN l2 (l+1) n n2 h2
  rw[strL_succ]at hp ⊢
  rw[contains_cons,hp,ih]
  rcases Nat.lt_or_ge (l+1) l2 with q |q
  ·rw[show Nat.sub (Nat.succ (l+1)) l2=0 from by show l+1+1-l2=0;omega,show Nat.sub (Nat.succ l) l2=0 from by show l+1-l2=0;omega,decide_eq_false (by omega)]
   rfl
  ·rw[show Nat.sub (Nat.succ (l+1)) l2=Nat.sub (Nat.succ l) l2+1 from by show l+1+1-l2=l+1-l2+1;omega,decide_eq_true q,contN_succ,Bool.true_and]
   cases Nat.beq (n % 256 ^ l2) n2 <;> rfl
def hCont (f0:FuncId)(ca:Ca):Ca:=fun f args h nx=>match Nat.beq f f0 with
 |true=>match args with
  |[.str l n,.str l2 n2]=>match Nat.ble l 100000 with
   |true=>match contN l2 n2 (Nat.sub (Nat.succ l) l2) n with
    |true=>.ok (.bool true) h nx
    |false=>.ok (.bool false) h nx
   |false=>.fail
  |_=>.fail
 |false=>ca f args h nx
variable {c : Cx} {σ : Sg} {h g : Tr ABlk} {nx ny : Nat} {w : World}
theorem strB_dl (l n:Nat):(strB l n).data.toList=strL l n:=rfl
theorem strL_len (l n:Nat):(strL l n).length=l:=by simp[strL]
theorem hCont_ok (hc:CxOk Tryz.prog c){fn:Func}(hft:c.ft.get 310=some fn)(hT:c.G.tab 0=some [.opq 0]){ca:Ca}(hca:CaOk Tryz.prog c ca):CaOk Tryz.prog c (hCont 310 ca):=by
 intro f args h nx v g ny he
 unfold hCont at he
 cases hf:Nat.beq f 310 with
 |false=>rw[hf]at he;exact hca f args h nx v g ny he
 |true=>
  rw[hf]at he
  have e1:=Nat.eq_of_beq_eq_true hf
  subst e1
  simp only at he
  split at he
  ·rename_i l n l2 n2
   cases hb:Nat.ble l 100000 with
   |false=>rw[hb]at he;cases he
   |true=>
   rw[hb]at he
   simp only at he
   intro σ w A ok hA
   simp only[RelL,Rel]at hA
   obtain⟨V1,L1,rfl,⟨b1,rfl⟩,V2,L2,rfl,⟨b2,rfl⟩,rfl⟩:=hA
   obtain⟨b,o,L,q1,q2,q3⟩:=ok.ip (ok.gl 0 _ hT)
   simp only[Value.pointer.injEq,Option.some.injEq,Addr.mk.injEq,and_true]at q1
   obtain⟨rfl,rfl⟩:=q1
   simp only[RelL,Rel]at q2
   obtain⟨V,L',rfl,⟨_,_,q4⟩,rfl⟩:=q2
   obtain⟨m,rfl⟩:=q4 trivial
   have hm:=q3 0 _ rfl
   have hcall:=Any.strings_Contains Tryz.lays144 (strB l n) (strB l2 n2) m w (by
    have:=Nat.le_of_ble_eq_true hb
    show (strB l n).data.size < _
    rw[← Array.length_toList,strB_dl,strL_len]
    omega) hm
   refine CR_calls hc hft (hcall.mono ?_)
   rintro e x ⟨rfl,rfl⟩
   rw[strB_dl,strB_dl,contN_ok b2]
   cases hr:contN l2 n2 (Nat.sub (Nat.succ l) l2) n with
   |true=>
    rw[hr]at he
    cases he
    exact⟨σ,_,_,_,by simp only[Rel],.refl ok,rfl,rfl,rfl⟩
   |false=>
    rw[hr]at he
    cases he
    exact⟨σ,_,_,_,by simp only[Rel],.refl ok,rfl,rfl,rfl⟩
  ·cases he
end
end Go.Ev
namespace Go.Ev
open Go.Proofs
noncomputable section
theorem hnil (w:World):(binOp BinOp.neq 20 .nilIface .nilIface).run Tryz.prog w=.ok (.bool false) w:=by kernel_rfl
theorem harm140:Harm Tryz.prog 140:=by
 intro p q r w
 refine callsDIn_of_wpSIn (fn:=Tryz.f140) (by kernel_rfl) rfl trivial fun c₀ cs hu=>?_
 apply wpSIn_seq
 apply wpSIn_region
 simp[wpOpsSIn,go_sem,recoverD,hu,Exit.thenS]
 apply wpSIn_seq
 apply wpSIn_region
 simp[wpOpsSIn,go_sem,hnil,Exit.thenS]
 refine wpSIn_cond (t:=false) (by simp[Act.eval,Array.replicate]) ?_
 simp only[Bool.false_eq_true,if_false]
 refine wpSIn_of_wpIn rfl (wpIn_skip ?_)
 cases c₀
 simp_all [bodyPostS,results]
theorem harm142:Harm Tryz.prog 142:=by
 intro p q r w
 refine callsDIn_of_wpSIn (fn:=Tryz.f142) (by kernel_rfl) rfl trivial fun c₀ cs hu=>?_
 apply wpSIn_seq
 apply wpSIn_region
 simp[wpOpsSIn,go_sem,recoverD,hu,Exit.thenS]
 apply wpSIn_seq
 apply wpSIn_region
 simp[wpOpsSIn,go_sem,hnil,Exit.thenS]
 refine wpSIn_cond (t:=false) (by simp[Act.eval,Array.replicate]) ?_
 simp only[Bool.false_eq_true,if_false]
 refine wpSIn_of_wpIn rfl (wpIn_skip ?_)
 cases c₀
 simp_all [bodyPostS,results]
end
end Go.Ev
