/- Texts X6. -/
import Derived.Test.YtjngkeajenankaaGreatDoorP40
set_option linter.unusedSimpArgs false
set_option linter.unusedVariables false
set_option maxRecDepth 100000
namespace Go.Ev
open Go.Proofs Go.RowKit
noncomputable section
attribute [-go_sem] pPick lookRes evConvS evStrB
theorem ft6:cx.ft.get 6=some Tryz.f6:=cxS_ft (by decide) (by kernel_rfl)
theorem itoa_dec (n:Int)(h0:0≤n):(ByteArray.mk (Lib.itoa n).toArray)=decI n:=by
 unfold decI decS Lib.itoa
 rw[if_neg (by omega)]
theorem itd_c (n:Int)(h0:0≤n)(h1:n≤1000000):Ret Tryz.prog cx 20 [.int .i64 n] (.bs (decI n)):=by
 have:=itoa_c n (by omega) (by omega)
 rw[itoa_dec n h0]at this
 exact this
theorem flat_len {α:Type}(f:α→List UInt8) (m:Nat):∀l:List α,(∀x∈l,(f x).length≤m)→(l.flatMap f).length≤l.length * m
 |[],_=>by simp
 |x::l,h=>by
  have h1:=h x List.mem_cons_self
  have h2:=flat_len f m l fun y hy=>h y (List.mem_cons_of_mem _ hy)
  simp only[List.flatMap_cons,List.length_append,List.length_cons,Nat.succ_mul]
  omega
theorem repS_len (s:ByteArray):(repS s).size≤2 * s.size:=by
 have:=qL_len s.data.toList
 have e:s.data.toList.length=s.size:=by simp
 show (s.data.toList.flatMap qB).toArray.size≤_
 rw[List.size_toArray]
 omega
set_option maxHeartbeats 8000000 in
theorem text_c (d:Dv)(hd:d.Ok)(hsh:d.short):Ret Tryz.prog cx 6 [.agg d.cs] (match frmB rnmB isB d with |true=>.tup [.bs (catB (linesT d)),.int .i64 0] |false=>.tup [.bs ⟨#[]⟩,.int .i64 1]):=by
 refine Ret.mk fun h nx R hR=>ACall_mk (sz:=129) (rs:=[.tmp 2,.tmp 3]) cxok ft6 rfl rfl rfl (by simp) ?_
 have hf:=formed_c d hd
 cases hb0:frmB rnmB isB d with
 |false=>
  rw[hb0]at hR hf
  unfold Dv.cs at hf ⊢
  simp[go_sem,segL]
  refine Ret.use hf ?_
  simp[go_sem,goOn_some]
  exact hR _ _ _ ((ext_put (by omega)).2 (Ext.refl _ _)) (Fz.eq rfl rfl)
 |true=>
 have hF:d.Frm rnmB isB:=by
  unfold frmB at hb0
  simpa using hb0
 rw[hb0]at hR hf
 simp only at hR
 have hR':∀b g ny,Ext nx h g→b=catB (linesT d)→R (.tup [.bs b,.int .i64 0]) g ny:=fun b g ny e1 e2=>hR _ _ _ e1 (Fz.eq rfl (by rw[e2]))
 have hR2:=Lib.hid hR'
 clear hR hR'
 have hLT:=linesT_small hF hsh
 have hnB:=names_len (w:=wBy) (by decide) hsh.1.2.2.2.1 fun x hx=>hsh.2.2 x (List.mem_append.2 (.inl hx))
 have hnO:=names_len (w:=wOver) (by decide) hsh.1.2.2.2.2.1 fun x hx=>hsh.2.2 x (List.mem_append.2 (.inr hx))
 have hl5:=line5_len hF
 have hl1:=line1_len hF hsh
 have hl2:=line2_len hF hsh
 obtain⟨⟨sh1,sh2,sh3,sh4,sh5,sh6⟩,sh7,sh8⟩:=hsh
 have hfew:d.texts.length≤40∧∀x∈d.texts,x.small:=by unfold fewB at sh6;simpa using sh6
 have hcnt:0≤d.count∧d.count≤1000000:=by have:=hF.count;omega
 have hday:=hF.day
 unfold Dv.cs at hf ⊢
 simp[go_sem,segL]
 refine Ret.use hf ?_
 simp[go_sem,goOn_some,segL]
 refine ACall_fry (fun i=>i∈[nx+1+1]) (FyH.kill _) (args':=[.fz 1 false (encB six)]) ?_ ?_
 ·exact .cons _ _ _ _ (Fy.row1 (t:=9) (opn:=false) (esz:=0) (L:=encB six) (by simp) (by simp[go_sem];rfl) rfl rfl) .nil
 refine newRp_c false _ _ _ fun a g ny e1 e2 e3 e4=>?_
 have hT:TxSt h nx a d g ny []:=by
  refine⟨by omega,e2,⟨nx+2,by omega,by omega,by omega,.inl ⟨rfl,?_⟩⟩,?_,e3,fun k hk=>?_⟩
  ·rw[e4 _ (by omega),get_killL,if_neg (by simp)]
   simp[go_sem]
  ·rw[e4 _ (by omega),get_killL,if_neg (by simp;omega)]
   simp[go_sem]
   rfl
  ·rw[e4 _ (by omega),get_killL,if_neg (by simp;omega)]
   simp only[Tr.get_put,if_neg (show ¬k=nx+1+1 by omega),if_neg (show ¬k=nx+1 by omega),if_neg (show ¬k=nx by omega)]
 clear e1 e2 e3 e4
 have gd:=hT.d
 unfold Dv.cs at gd
 simp[go_sem,goOn_some]
 refine AW_splitAt mixed cxok G0sym 12 [] [5,10] [] [] 0 (by kernel_rfl) (by kernel_rfl) ?_
 simp[go_sem,gd]
 refine retP_mk (itd_c d.count hcnt.1 hcnt.2) ?_
 simp[go_sem,putS_some,gd,segL]
 refine retP_mk (itd_c d.day hday.1 hday.2) ?_
 simp[go_sem,putS_some,gd,segL]
 refine hT.line true [wDer,d.root,decI d.count,d.q,decI d.day] (by simp) (by omega) (by simp) fun v1 g1 n1 hn1 hT1=>?_
 rw[List.nil_append]at hT1
 have b1:(lineB [wDer,d.root,decI d.count,d.q,decI d.day]).data.toList.length≤2000:=by
  have:=lineB_len [wDer,d.root,decI d.count,d.q,decI d.day]
  have e:(lineB [wDer,d.root,decI d.count,d.q,decI d.day]).data.toList.length=(lineB [wDer,d.root,decI d.count,d.q,decI d.day]).size:=by simp
  omega
 clear hT gd hn1 g ny
 simp[go_sem,goOn_some]
 refine hT1.write wCase (by decide) (by decide) (by omega) fun v2 g2 n2 hn2 hT2=>?_
 have gd:=hT2.d
 unfold Dv.cs at gd
 simp[go_sem,goOn_some,gd]
 have hcl:=hd.case
 refine AW_rounds (fun mm st=>∃tm k g ny,st=.mk tm g ny []∧mm=d.case.length-k∧k≤d.case.length∧tm.get 1=some (.ptr nx 0)∧tm.get 4=some (.ptr (nx+1) 0)∧tm.get 5=some (.func 14 [] [.ptr (nx+1) 0])∧tm.get 6=some (.func 18 [.ptr a 0] [])∧tm.get 7=some (.func 19 [] [])∧tm.get 36=some (.fz 1 false (encI d.case))∧tm.get 37=some (.int .i64 (d.case.length:Int))∧tm.get 38=some (.int .i64 (k:Int))∧TxSt h nx a d g ny ((line1 d).data.toList++wCase.data.toList++(d.case.take k).flatMap fun n=>32::(decI n).data.toList)) ⟨d.case.length,_,0,_,_,rfl,rfl,by omega,?_⟩ ?_
 ·simp[go_sem]
  exact hT2
 clear hT1 hT2 gd hn2 g1 g2 n1 n2 v1 v2
 have bk:∀k,((d.case.take k).flatMap fun n=>32::(decI n).data.toList).length≤80 * 25:=fun k=>by
  have:=flat_len (fun n=>32::(decI n).data.toList) 25 (d.case.take k) fun x hx=>by
   have h1:=decI_len x (hF.case x (List.mem_of_mem_take hx)).2
   have h2:(decI x).data.toList.length=(decI x).size:=by simp
   simp only[List.length_cons]
   omega
  have h2:(d.case.take k).length≤80:=by rw[List.length_take];omega
  have h3:=Nat.mul_le_mul_right 25 h2
  omega
 have bw:wCase.data.toList.length=4:=rfl
 have bl1:(line1 d).data.toList.length≤2000:=b1
 rintro mm st ⟨tm,k,g,ny,rfl,rfl,hk,t1,t4,t5,t6,t7,t36,t37,t38,hT⟩ J hJ
 refine aw_ok cxok _ ?_
 have hLk:=bk k
 by_cases k1:k<d.case.length
 ·have wI:IntKind.i64.wrap ((k:Int)+1)=(k:Int)+1:=i64wrap _ (by omega) (by omega)
  have hc:=hF.case _ (List.getElem_mem k1)
  have hdl:=decI_len d.case[k] hc.2
  have z1:(ByteArray.mk #[32]).size=1:=rfl
  have s1:1+(decI d.case[k]).size≤9223372036854775807:=by omega
  have hgo:∀tm' g' ny',tm'.get 1=some (.ptr nx 0)→tm'.get 4=some (.ptr (nx+1) 0)→tm'.get 5=some (.func 14 [] [.ptr (nx+1) 0])→tm'.get 6=some (.func 18 [.ptr a 0] [])→tm'.get 7=some (.func 19 [] [])→tm'.get 36=some (.fz 1 false (encI d.case))→tm'.get 37=some (.int .i64 (d.case.length:Int))→tm'.get 38=some (.int .i64 ((k:Int)+1))→TxSt h nx a d g' ny' ((line1 d).data.toList++wCase.data.toList++(d.case.take (k+1)).flatMap fun n=>32::(decI n).data.toList)→J (.mk tm' g' ny' []):=fun tm' g' ny' a1 a4 a5 a6 a7 a36 a37 a38 b=>
   hJ (d.case.length-(k+1)) _ (by omega) ⟨tm',k+1,g',ny',rfl,rfl,by omega,a1,a4,a5,a6,a7,a36,a37,by rw[a38];rfl,b⟩
  have hgo':=Lib.hid hgo
  clear hgo hJ hR2
  have ht:d.case.take (k+1)=d.case.take k++[d.case[k]]:=(List.take_append_getElem k1).symm
  rw[ht,List.flatMap_append,List.flatMap_cons,List.flatMap_nil,List.append_nil]at hgo'
  simp[go_sem,t36,t37,t38,k1]
  refine Ret.use (itd_c _ hc.1 hc.2) ?_
  simp[go_sem,goOn_some,z1,s1,t4]
  refine hT.write (⟨#[32]⟩++decI d.case[k]) (by rw[ByteArray.size_append,z1];omega) (by rw[ByteArray.size_append,z1];omega) (by simp only[List.length_append];omega) fun v2 g2 n2 hn2 hT2=>?_
  simp[go_sem,goOn_some,t38,wI]
  refine hgo'.out _ _ _ (by simp[go_sem,t1]) (by simp[go_sem,t4]) (by simp[go_sem,t5]) (by simp[go_sem,t6]) (by simp[go_sem,t7]) (by simp[go_sem,t36]) (by simp[go_sem,t37]) (by simp[go_sem]) ?_
  have e:(ByteArray.mk #[32]++decI d.case[k]).data.toList=32::(decI d.case[k]).data.toList:=by simp
  rw[e,List.append_assoc]at hT2
  exact hT2
 have e1:d.case.take k=d.case:=List.take_of_length_le (by omega)
 rw[e1]at hT hLk
 clear hJ bk
 simp[go_sem,t5,t36,t37,t38,k1]
 refine ACall.wk (.cons _ _ _ _ (.sl0 1 true) (.cons _ _ _ _ (.same _) .nil)) ?_
 refine hT.line true [] (by simp) (by simp[sizesL]) (by simp only[List.length_append];omega) fun v3 g3 n3 hn3 hT3=>?_
 have e2:(line1 d).data.toList++wCase.data.toList++(d.case.flatMap fun n=>32::(decI n).data.toList)++(lineB []).data.toList=(line1 d).data.toList++(line2 d).data.toList:=by
  unfold line2 lineB
  rw[wordsL_cons]
  simp[wordsL,List.flatMap_map]
 rw[e2]at hT3
 have bl2:(line2 d).data.toList.length≤3000:=by
  have:=lineB_len (wCase::d.case.map decI)
  have e:(line2 d).data.toList.length=(line2 d).size:=by simp
  have e':(line2 d).size=(lineB (wCase::d.case.map decI)).size:=rfl
  omega
 generalize hP:(line1 d).data.toList++(line2 d).data.toList=P at hT3
 have bP:P.length≤5000:=by rw[← hP,List.length_append];omega
 have gd:=hT3.d
 unfold Dv.cs at gd
 simp[go_sem,goOn_some,t1,gd]
 clear b1 bw bl1 bl2 e1 e2 hLk hT hl1 hl2 gd hn3
 have htl:=hd.texts
 refine AW_rounds (fun mm st=>∃tm k g ny,st=.mk tm g ny []∧mm=d.texts.length-k∧k≤d.texts.length∧tm.get 1=some (.ptr nx 0)∧tm.get 4=some (.ptr (nx+1) 0)∧tm.get 5=some (.func 14 [] [.ptr (nx+1) 0])∧tm.get 6=some (.func 18 [.ptr a 0] [])∧tm.get 7=some (.func 19 [] [])∧tm.get 50=some (.fz 7 false (encIt d.texts))∧tm.get 51=some (.int .i64 (d.texts.length:Int))∧tm.get 52=some (.int .i64 (k:Int))∧TxSt h nx a d g ny (P++(d.texts.take k).flatMap fun y=>(itemL y).data.toList)) ⟨d.texts.length,_,0,_,_,rfl,rfl,by omega,?_⟩ ?_
 ·simp[go_sem,t1,t4,t5,t6,t7]
  exact hT3
 clear t1 t4 t5 t6 t7 t36 t37 t38 k1 hk k J tm g ny hT3 g3 n3 v3
 have bi:∀y∈d.texts,(itemL y).data.toList.length≤6000:=fun y hy=>by
  have h1:=item_len (hF.texts y hy) (hfew.2 y hy)
  have h2:=lineB_len [wItem,decI y.kind,y.id,orB y.par,quoteB y.nor,quoteB y.sou]
  have e:(itemL y).data.toList.length=(itemL y).size:=by simp
  have e':(itemL y).size=(lineB [wItem,decI y.kind,y.id,orB y.par,quoteB y.nor,quoteB y.sou]).size:=rfl
  omega
 have bk:∀k,((d.texts.take k).flatMap fun y=>(itemL y).data.toList).length≤40 * 6000:=fun k=>by
  have:=flat_len (fun y=>(itemL y).data.toList) 6000 (d.texts.take k) fun x hx=>bi x (List.mem_of_mem_take hx)
  have h2:(d.texts.take k).length≤40:=by rw[List.length_take];omega
  have h3:=Nat.mul_le_mul_right 6000 h2
  omega
 rintro mm st ⟨tm,k,g,ny,rfl,rfl,hk,t1,t4,t5,t6,t7,t50,t51,t52,hT⟩ J hJ
 refine aw_ok cxok _ ?_
 have hLk:=bk k
 by_cases k1:k<d.texts.length
 ·have wI:IntKind.i64.wrap ((k:Int)+1)=(k:Int)+1:=i64wrap _ (by omega) (by omega)
  have hgo:∀tm' g' ny',tm'.get 1=some (.ptr nx 0)→tm'.get 4=some (.ptr (nx+1) 0)→tm'.get 5=some (.func 14 [] [.ptr (nx+1) 0])→tm'.get 6=some (.func 18 [.ptr a 0] [])→tm'.get 7=some (.func 19 [] [])→tm'.get 50=some (.fz 7 false (encIt d.texts))→tm'.get 51=some (.int .i64 (d.texts.length:Int))→tm'.get 52=some (.int .i64 ((k:Int)+1))→TxSt h nx a d g' ny' (P++(d.texts.take (k+1)).flatMap fun y=>(itemL y).data.toList)→J (.mk tm' g' ny' []):=fun tm' g' ny' a1 a4 a5 a6 a7 a36 a37 a38 b=>
   hJ (d.texts.length-(k+1)) _ (by omega) ⟨tm',k+1,g',ny',rfl,rfl,by omega,a1,a4,a5,a6,a7,a36,a37,by rw[a38];rfl,b⟩
  have hgo':=Lib.hid hgo
  clear hgo hJ hR2
  have ht:d.texts.take (k+1)=d.texts.take k++[d.texts[k]]:=(List.take_append_getElem k1).symm
  rw[ht,List.flatMap_append,List.flatMap_cons,List.flatMap_nil,List.append_nil,← List.append_assoc]at hgo'
  have hyo:=hF.texts _ (List.getElem_mem k1)
  have hys:=hfew.2 _ (List.getElem_mem k1)
  have hyl:=item_len hyo hys
  generalize hTL:encIt d.texts=TL at t50 hgo'
  have hat:∀hk,TL[k]'hk=.agg d.texts[k].cs:=fun hk=>by subst hTL;exact encIt_at _ _ _
  have hlen:TL.length=d.texts.length:=by rw[← hTL];exact encIt_len _
  have kTL:k<TL.length:=by omega
  generalize hx:d.texts[k]=y at hgo' hat hyo hys hyl
  obtain⟨kind,id,par,num,nor,sou,gone⟩:=y
  simp only[It.cs]at hat
  simp only at hyl
  have hkd:1≤kind∧kind≤2:=hyo.1
  have hs5:nor.size≤500∧sou.size≤500:=⟨hys.2.2.2.1,hys.2.2.2.2⟩
  generalize hLL:P++((d.texts.take k).flatMap fun y=>(itemL y).data.toList)=LL at hT hgo'
  have bLL:LL.length≤300000:=by rw[← hLL,List.length_append];omega
  simp[go_sem,t1,t4,t5,t6,t7,t50,t51,t52,k1,kTL,hat,segL]
  generalize hG:Tr.put _ ny _=G
  have hTG:TxSt h nx a d G (ny+1) LL:=by
   rw[← hG]
   exact(hT.put (ny':=ny) (Nat.le_refl _) (Nat.le_refl _)).put (Nat.le_succ _) (Nat.le_refl _)
  have gy:G.get ny=some (bx 48 [.int .i64 kind,.bs id,.bs par,.bs num,.bs nor,.bs sou,.bool gone] false 0):=by rw[← hG];simp[go_sem]
  clear hG
  refine AW_late mixed cxok (fun k=>if k=0 then .func 14 [] [.ptr (nx+1) 0] else if k=1 then .ptr ny 0 else if k=2 then .int .i64 kind else if k=4 then .ptr ny 1 else if k=5 then .bs id else if k=6 then .func 19 [] [] else if k=7 then .ptr ny 2 else if k=8 then .bs par else if k=10 then .func 18 [.ptr a 0] [] else if k=11 then .ptr ny 4 else if k=12 then .bs nor else if k=13 then .bs (repS nor) else if k=14 then .bs (⟨#[34]⟩++repS nor) else if k=15 then .bs (quoteB nor) else if k=16 then .func 18 [.ptr a 0] [] else if k=17 then .ptr ny 5 else if k=18 then .bs sou else if k=19 then .bs (repS sou) else if k=20 then .bs (⟨#[34]⟩++repS sou) else .bs (quoteB sou))
   [(0,56),(1,57),(2,58),(4,60),(5,61),(6,62),(7,63),(8,64),(10,66),(11,67),(12,68),(14,70),(15,71),(16,72),(17,73),(18,74),(20,76),(21,77)] [(13,69),(19,75)]
   [(3,[(1,57),(2,58)]),(9,[(6,62),(7,63),(8,64)]),(13,[(10,66),(11,67),(12,68)]),(19,[(16,72),(17,73),(18,74)]),(22,[(4,60),(5,61),(14,70),(15,71),(20,76),(21,77)]),(23,[(0,56)])] (by kernel_rfl) (by decide) ?_
  have rn:=repS_len nor
  have rs:=repS_len sou
  have z1:(ByteArray.mk #[34]).size=1:=rfl
  have a1:1+(repS nor).size≤9223372036854775807:=by omega
  have a2:1+(repS nor).size+1≤9223372036854775807:=by omega
  have a3:1+(repS sou).size≤9223372036854775807:=by omega
  have a4:1+(repS sou).size+1≤9223372036854775807:=by omega
  have q1:=quote_rep nor
  have q2:=quote_rep sou
  simp[go_sem,evPlainS,evPlain,t1,t4,t5,t6,t7,gy,z1,a1,a2,a3,a4,q1,q2]
  refine Ret.use (itd_c kind (by omega) (by omega)) ?_
  simp[go_sem,goOn_some,evPlainS,evPlain,t1,t4,t5,t6,t7,gy,z1,a1,a2,a3,a4,q1,q2]
  refine Ret.use (or2_c par) ?_
  simp[go_sem,goOn_some,evPlainS,evPlain,t1,t4,t5,t6,t7,gy,z1,a1,a2,a3,a4,q1,q2]
  have nya:ny≠a:=by have:=hT.a1;omega
  refine hTG.rep nor (by omega) fun g1 n1 hn1 hT1 hk1=>?_
  have gy1:g1.get ny=_:=(hk1 ny (by omega) nya).trans gy
  simp[go_sem,goOn_some,evPlainS,evPlain,t1,t4,t5,t6,t7,gy1,z1,a1,a2,a3,a4,q1,q2]
  refine hT1.rep sou (by omega) fun g2 n2 hn2 hT2 hk2=>?_
  have gy2:g2.get ny=_:=(hk2 ny (by omega) nya).trans gy1
  simp[go_sem,goOn_some,evPlainS,evPlain,t1,t4,t5,t6,t7,gy2,z1,a1,a2,a3,a4,q1,q2,segL]
  refine ACall_fry (fun i=>i∈[n2]) (FyH.kill _) (args':=[.fz 1 false (encB [wItem,decI kind,id,orB par,quoteB nor,quoteB sou]),.ptr (nx+1) 0]) ?_ ?_
  ·exact .cons _ _ _ _ (Fy.row1 (t:=9) (opn:=false) (esz:=0) (L:=encB [wItem,decI kind,id,orB par,quoteB nor,quoteB sou]) (by simp) (by simp[go_sem];rfl) rfl rfl) (.cons _ _ _ _ (.same _) .nil)
  have hT3:TxSt h nx a d (killL (g2.put n2 (some (bx 9 (encB [wItem,decI kind,id,orB par,quoteB nor,quoteB sou]) false 0))) [n2]) (n2+1) LL:=
   hT2.mono (Nat.le_succ _) fun k hk=>by rw[get_killL,if_neg (by simp;omega),Tr.get_put,if_neg (by omega)]
  refine hT3.line false [wItem,decI kind,id,orB par,quoteB nor,quoteB sou] (by simp) (by omega) (by omega) fun v3 g3 n3 hn3 hT4=>?_
  simp[go_sem,goOn_some,t52,wI]
  exact hgo'.out _ _ _ (by simp[go_sem,t1]) (by simp[go_sem,t4]) (by simp[go_sem,t5]) (by simp[go_sem,t6]) (by simp[go_sem,t7]) (by simp[go_sem,t50]) (by simp[go_sem,t51]) (by simp[go_sem]) hT4
 have e1:d.texts.take k=d.texts:=List.take_of_length_le (by omega)
 rw[e1]at hT hLk
 clear hJ bk bi
 generalize hP2:P++(d.texts.flatMap fun y=>(itemL y).data.toList)=P2 at hT
 have bP2:P2.length≤300000:=by rw[← hP2,List.length_append];omega
 have gd:=hT.d
 unfold Dv.cs at gd
 simp[go_sem,t1,t50,t51,t52,k1,gd]
 clear e1 hLk gd
 have hsl:=hd.steps
 refine AW_rounds (fun mm st=>∃tm k g ny,st=.mk tm g ny []∧mm=d.steps.length-k∧k≤d.steps.length∧tm.get 1=some (.ptr nx 0)∧tm.get 4=some (.ptr (nx+1) 0)∧tm.get 5=some (.func 14 [] [.ptr (nx+1) 0])∧tm.get 7=some (.func 19 [] [])∧tm.get 82=some (.fz 3 false (encRe d.steps))∧tm.get 83=some (.int .i64 (d.steps.length:Int))∧tm.get 84=some (.int .i64 (k:Int))∧TxSt h nx a d g ny (P2++(d.steps.take k).flatMap fun y=>(stepL2 y).data.toList)) ⟨d.steps.length,_,0,_,_,rfl,rfl,by omega,?_⟩ ?_
 ·simp[go_sem,t1,t4,t5,t7]
  exact hT
 clear t1 t4 t5 t6 t7 t50 t51 t52 k1 hk k J tm hT g ny
 have bi:∀y∈d.steps,(stepL2 y).data.toList.length≤2000:=fun y hy=>by
  have h1:=step_len (hF.steps y hy) (sh7 y hy)
  have h2:=lineB_len [wStep,decI y.kind,y.id,orB y.oth]
  have e:(stepL2 y).data.toList.length=(stepL2 y).size:=by simp
  have e':(stepL2 y).size=(lineB [wStep,decI y.kind,y.id,orB y.oth]).size:=rfl
  omega
 have bk:∀k,((d.steps.take k).flatMap fun y=>(stepL2 y).data.toList).length≤60 * 2000:=fun k=>by
  have:=flat_len (fun y=>(stepL2 y).data.toList) 2000 (d.steps.take k) fun x hx=>bi x (List.mem_of_mem_take hx)
  have h2:(d.steps.take k).length≤60:=by rw[List.length_take];omega
  have h3:=Nat.mul_le_mul_right 2000 h2
  omega
 rintro mm st ⟨tm,k,g,ny,rfl,rfl,hk,t1,t4,t5,t7,t82,t83,t84,hT⟩ J hJ
 refine aw_ok cxok _ ?_
 have hLk:=bk k
 by_cases k1:k<d.steps.length
 ·have wI:IntKind.i64.wrap ((k:Int)+1)=(k:Int)+1:=i64wrap _ (by omega) (by omega)
  have hgo:∀tm' g' ny',tm'.get 1=some (.ptr nx 0)→tm'.get 4=some (.ptr (nx+1) 0)→tm'.get 5=some (.func 14 [] [.ptr (nx+1) 0])→tm'.get 7=some (.func 19 [] [])→tm'.get 82=some (.fz 3 false (encRe d.steps))→tm'.get 83=some (.int .i64 (d.steps.length:Int))→tm'.get 84=some (.int .i64 ((k:Int)+1))→TxSt h nx a d g' ny' (P2++(d.steps.take (k+1)).flatMap fun y=>(stepL2 y).data.toList)→J (.mk tm' g' ny' []):=fun tm' g' ny' a1 a4 a5 a7 a36 a37 a38 b=>
   hJ (d.steps.length-(k+1)) _ (by omega) ⟨tm',k+1,g',ny',rfl,rfl,by omega,a1,a4,a5,a7,a36,a37,by rw[a38];rfl,b⟩
  have hgo':=Lib.hid hgo
  clear hgo hJ hR2
  have ht:d.steps.take (k+1)=d.steps.take k++[d.steps[k]]:=(List.take_append_getElem k1).symm
  rw[ht,List.flatMap_append,List.flatMap_cons,List.flatMap_nil,List.append_nil,← List.append_assoc]at hgo'
  have hyo:=hF.steps _ (List.getElem_mem k1)
  have hys:=sh7 _ (List.getElem_mem k1)
  have hyl:=step_len hyo hys
  generalize hTL:encRe d.steps=TL at t82 hgo'
  have hat:∀hk,TL[k]'hk=.agg d.steps[k].cs:=fun hk=>by subst hTL;exact encRe_at _ _ _
  have hlen:TL.length=d.steps.length:=by rw[← hTL];exact encRe_len _
  have kTL:k<TL.length:=by omega
  generalize hx:d.steps[k]=y at hgo' hat hyo hys hyl
  obtain⟨kind,id,oth⟩:=y
  simp only[Re.cs]at hat
  simp only at hyl
  have hkd:1≤kind∧kind≤5:=hyo.1
  generalize hLL:P2++((d.steps.take k).flatMap fun y=>(stepL2 y).data.toList)=LL at hT hgo'
  have bLL:LL.length≤500000:=by rw[← hLL,List.length_append];omega
  simp[go_sem,t1,t4,t5,t7,t82,t83,t84,k1,kTL,hat,segL]
  generalize hG:Tr.put _ ny _=G
  have hTG:TxSt h nx a d G (ny+1) LL:=by
   rw[← hG]
   exact(hT.put (ny':=ny) (Nat.le_refl _) (Nat.le_refl _)).put (Nat.le_succ _) (Nat.le_refl _)
  have gy:G.get ny=some (bx 46 [.int .i64 kind,.bs id,.bs oth] false 0):=by rw[← hG];simp[go_sem]
  clear hG
  refine AW_splitAt mixed cxok G0sym 11 [] [3,9] [] [] 0 (by kernel_rfl) (by kernel_rfl) ?_
  simp[go_sem,t1,t4,t5,t7,gy]
  refine retP_mk (itd_c kind (by omega) (by omega)) ?_
  simp[go_sem,putS_some,t1,t4,t5,t7,gy,segL]
  refine retP_mk (or2_c oth) ?_
  simp[go_sem,putS_some,t1,t4,t5,t7,gy,segL]
  refine hTG.line true [wStep,decI kind,id,orB oth] (by simp) (by omega) (by omega) fun v3 g3 n3 hn3 hT4=>?_
  simp[go_sem,goOn_some,t84,wI]
  exact hgo'.out _ _ _ (by simp[go_sem,t1]) (by simp[go_sem,t4]) (by simp[go_sem,t5]) (by simp[go_sem,t7]) (by simp[go_sem,t82]) (by simp[go_sem,t83]) (by simp[go_sem]) hT4
 have e1:d.steps.take k=d.steps:=List.take_of_length_le (by omega)
 rw[e1]at hT hLk
 clear hJ bk bi
 generalize hP3:P2++(d.steps.flatMap fun y=>(stepL2 y).data.toList)=P3 at hT
 have bP3:P3.length≤500000:=by rw[← hP3,List.length_append];omega
 have gd:=hT.d
 unfold Dv.cs at gd
 have hst:0≤d.state∧d.state≤1000000:=by have:=hF.state;omega
 have hva:=hF.value
 simp[go_sem,t82,t83,t84,k1]
 refine AW_splitAt mixed cxok G0sym 10 [] [4,8] [] [] 0 (by kernel_rfl) (by kernel_rfl) ?_
 simp[go_sem,t1,t4,t5,gd]
 refine retP_mk (itd_c d.state hst.1 hst.2) ?_
 simp[go_sem,putS_some,t1,t4,t5,gd,segL]
 refine retP_mk (itd_c d.value hva.1 hva.2) ?_
 simp[go_sem,putS_some,t1,t4,t5,gd,segL]
 refine hT.line true [wAns,decI d.state,decI d.value] (by simp) (by omega) (by omega) fun v4 g4 n4 hn4 hT4=>?_
 have gd:=hT4.d
 unfold Dv.cs at gd
 have z4:¬nx=n4:=by have:=hT4.a0;have:=hT4.a1;omega
 simp[go_sem,goOn_some,t1,t4,t5,gd,segL,z4]
 refine ACall_fry (fun i=>i∈[n4,n4+1]) (FyH.kill _) (args':=[.fz 1 false [.fz 1 false (encB [wBy]),.fz 1 false (encB d.by_)]]) ?_ ?_
 ·exact .cons _ _ _ _ (.slz (n4+1) 0 2 2 false 26 2 _ false 0 1 [.sl n4 0 1 1 false,.fz 1 false (encB d.by_)] [.fz 1 false (encB [wBy]),.fz 1 false (encB d.by_)] _ (by simp) (by simp[go_sem];rfl) (by simp) (fun j hj=>by rw[Nat.zero_add,get_putN0]) (.cons _ _ _ _ (Fy.row1 (t:=9) (opn:=false) (esz:=0) (L:=encB [wBy]) (by simp) (by simp[go_sem];rfl) rfl rfl) (.cons _ _ _ _ (.same _) .nil)) (chunk_one rfl) rfl) .nil
 generalize hG:killL _ _=G5
 have hT5:=hT4.mono (g':=G5) (ny':=n4+1+1) (by omega) fun k hk=>by
  rw[← hG,get_killL,if_neg (by simp;omega)]
  simp only[Tr.get_put,if_neg (show ¬k=n4+1 by omega),if_neg (show ¬k=n4 by omega)]
 clear hG
 refine Ret.use (concat_c false false false [wBy] d.by_ (by simp) (by simp;omega)) ?_
 simp[go_sem,goOn_some]
 have bl5:(lineB [wAns,decI d.state,decI d.value]).data.toList.length≤2000:=by
  have:=lineB_len [wAns,decI d.state,decI d.value]
  have e:(lineB [wAns,decI d.state,decI d.value]).data.toList.length=(lineB [wAns,decI d.state,decI d.value]).size:=by simp
  omega
 have bl6:(lineB (wBy::d.by_)).data.toList.length≤14000:=by
  have:=lineB_len (wBy::d.by_)
  have e:(lineB (wBy::d.by_)).data.toList.length=(lineB (wBy::d.by_)).size:=by simp
  omega
 have bl7:(lineB (wOver::d.over)).data.toList.length≤14000:=by
  have:=lineB_len (wOver::d.over)
  have e:(lineB (wOver::d.over)).data.toList.length=(lineB (wOver::d.over)).size:=by simp
  omega
 refine hT5.line false (wBy::d.by_) (by simp;omega) (by omega) (by rw[List.length_append];omega) fun v6 g6 n6 hn6 hT6=>?_
 have gd:=hT6.d
 unfold Dv.cs at gd
 have z6:¬nx=n6:=by have:=hT6.a0;have:=hT6.a1;omega
 simp[go_sem,goOn_some,t1,t4,t5,gd,segL,z6]
 refine ACall_fry (fun i=>i∈[n6,n6+1]) (FyH.kill _) (args':=[.fz 1 false [.fz 1 false (encB [wOver]),.fz 1 false (encB d.over)]]) ?_ ?_
 ·exact .cons _ _ _ _ (.slz (n6+1) 0 2 2 false 26 2 _ false 0 1 [.sl n6 0 1 1 false,.fz 1 false (encB d.over)] [.fz 1 false (encB [wOver]),.fz 1 false (encB d.over)] _ (by simp) (by simp[go_sem];rfl) (by simp) (fun j hj=>by rw[Nat.zero_add,get_putN0]) (.cons _ _ _ _ (Fy.row1 (t:=9) (opn:=false) (esz:=0) (L:=encB [wOver]) (by simp) (by simp[go_sem];rfl) rfl rfl) (.cons _ _ _ _ (.same _) .nil)) (chunk_one rfl) rfl) .nil
 generalize hG:killL _ _=G7
 have hT7:=hT6.mono (g':=G7) (ny':=n6+1+1) (by omega) fun k hk=>by
  rw[← hG,get_killL,if_neg (by simp;omega)]
  simp only[Tr.get_put,if_neg (show ¬k=n6+1 by omega),if_neg (show ¬k=n6 by omega)]
 clear hG
 refine Ret.use (concat_c false false false [wOver] d.over (by simp) (by simp;omega)) ?_
 simp[go_sem,goOn_some,t5]
 refine hT7.line false (wOver::d.over) (by simp;omega) (by omega) (by simp only[List.length_append];omega) fun v8 g8 n8 hn8 hT8=>?_
 simp[go_sem,goOn_some,t4]
 obtain⟨q,q1,q2,q3⟩:=hT8.bu
 have hne:P3++(lineB [wAns,decI d.state,decI d.value]).data.toList++(lineB (wBy::d.by_)).data.toList++(lineB (wOver::d.over)).data.toList≠[]:=by
  intro q
  have:=congrArg List.length q
  have e:1≤(lineB (wOver::d.over)).data.toList.length:=by unfold lineB;simp
  simp only[List.length_append,List.length_nil]at this
  omega
 refine string_c g8 n8 (nx+1) q _ hne (by simp only[List.length_append];omega) q3 _ ?_
 simp[go_sem,goOn_some]
 refine hR2.out _ _ _ ((ext_put (by omega)).2 hT8.ext) ?_
 unfold catB linesT
 rw[← hP3,← hP2,← hP]
 congr 2
 simp[line5,List.flatMap_map]
end
end Go.Ev
