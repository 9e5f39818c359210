/- Texts X8. -/
import Derived.Test.YtjngkeajenankaaGreatDoorP43
set_option linter.unusedSimpArgs false
set_option linter.unusedVariables false
set_option maxRecDepth 100000
namespace Go.Ev
open Go.Proofs Go.RowKit
noncomputable section
attribute [-go_sem] pPick lookRes evConvS
def e0B:ByteArray:=⟨#[]⟩
def p1B:ByteArray:=⟨#[112,49]⟩
def p2B:ByteArray:=⟨#[112,50]⟩
def taxB:ByteArray:=⟨#[116,97,120]⟩
def rtB:ByteArray:=strB 16 74697482151785018809167186526313013813
def n1B:ByteArray:=strB 24 1133005250850681905824513408309836983308009559820210561889
def s1B:ByteArray:=strB 33 10791025739113343661005965278089766003903512877283247038219938387485675271583089
def n2B:ByteArray:=strB 38 5881407215460022963816903414783755082290809057709481828832409148356627606944891565415621473
def s2B:ByteArray:=strB 58 17341236635483517093360644259124004399962472250429624593819028978547863871738859903119549848769119566012460806458422128913665535291053926519
def d1:Dv where
 root:=rtB
 count:=2
 q:=taxB
 case:=[1]
 day:=7
 texts:=[⟨2,p1B,e0B,e0B,n1B,s1B,false⟩,⟨2,p2B,e0B,e0B,n2B,s2B,false⟩]
 steps:=[⟨3,p1B,e0B⟩,⟨3,p2B,e0B⟩,⟨4,p2B,p1B⟩,⟨5,p2B,e0B⟩]
 state:=1
 value:=3
 by_:=[p2B]
 over:=[p1B]
theorem nm1:rnmB p1B=true:=by kernel_rfl
theorem nm2:rnmB p2B=true:=by kernel_rfl
theorem nmT:rnmB taxB=true:=by kernel_rfl
theorem isRt:isB rtB=true:=by kernel_rfl
theorem rt_len:rtB.size=16:=strB_size _ _
theorem n1_len:n1B.size=24:=strB_size _ _
theorem s1_len:s1B.size=33:=strB_size _ _
theorem n2_len:n2B.size=38:=strB_size _ _
theorem s2_len:s2B.size=58:=strB_size _ _
theorem e0_len:e0B.size=0:=rfl
theorem p1_len:p1B.size=2:=rfl
theorem p2_len:p2B.size=2:=rfl
theorem tax_len:taxB.size=3:=rfl
theorem d1_ok:d1.Ok:=by
 constructor <;> simp[d1,fitB,rt_len,n1_len,s1_len,n2_len,s2_len,e0_len,p1_len,p2_len,tax_len]
theorem d1_short:d1.short:=by
 refine⟨⟨by simp[d1,rt_len,tax_len],by simp[d1],by simp[d1],by simp[d1],by simp[d1],?_⟩,?_,?_⟩
 ·unfold fewB
  simp[d1,It.small,n1_len,s1_len,n2_len,s2_len,e0_len,p1_len,p2_len]
 ·simp[d1,Re.short,e0_len,p1_len,p2_len]
 ·simp[d1,p1_len,p2_len]
theorem d1_frm:frmB rnmB isB d1=true:=by
 refine frmB_true ⟨isRt,rfl,nmT,by simp[d1],by simp[d1],?_,?_,by simp[d1],by simp[d1],?_,?_⟩
 ·simp[d1,It.ok,nm1,nm2,e0B]
 ·simp[d1,Re.ok,nm1,nm2,e0B]
 ·simp[d1,nm2]
 ·simp[d1,nm1]
theorem textA:Ret Tryz.prog cx 6 [.agg d1.cs] (.tup [.bs (catB (linesT d1)),.int .i64 0]):=by
 have:=text_c d1 d1_ok d1_short
 rw[d1_frm]at this
 exact this
theorem item_ge (y:It):y.nor.size+y.sou.size≤(itemL y).data.toList.length:=by
 have h1:=qL_ge y.nor.data.toList
 have h2:=qL_ge y.sou.data.toList
 have e1:y.nor.data.toList.length=y.nor.size:=by simp
 have e2:y.sou.data.toList.length=y.sou.size:=by simp
 unfold itemL lineB quoteB
 simp only[wordsL,List.length_append,List.length_cons]
 omega
theorem bigT:100<(catB (linesT d1)).size:=by
 have h1:=item_ge ⟨2,p1B,e0B,e0B,n1B,s1B,false⟩
 have h2:=item_ge ⟨2,p2B,e0B,e0B,n2B,s2B,false⟩
 simp only[n1_len,s1_len,n2_len,s2_len]at h1 h2
 show 100<((linesT d1).flatMap (·.data.toList)).toArray.size
 have e:d1.texts=[⟨2,p1B,e0B,e0B,n1B,s1B,false⟩,⟨2,p2B,e0B,e0B,n2B,s2B,false⟩]:=rfl
 unfold linesT
 rw[e]
 simp only[List.size_toArray,List.flatMap_append,List.length_append,List.map_cons,List.map_nil,List.flatMap_cons,List.flatMap_nil]
 omega
def vC:AV:=.fz 7 false [.agg [.int .i64 2,.bs p1B,.bs e0B,.bs (strB 1 49),.bs n1B,.bs s1B,.bool false],.agg [.int .i64 2,.bs p2B,.bs e0B,.bs e0B,.bs n2B,.bs s2B,.bool false]]
def vD:AV:=.fz 4 false [.agg [.bs (strB 6 111520694627945),.int .i64 2,.int .i64 0,.int .i64 9]]
def vL:AV:=asB xV
def vT:AV:=.fz 7 false (encIt d1.texts)
theorem n8:Ret Tryz.prog cx 8 [] (.tup [.agg [vC],.agg [vD]]):=by
 have h:=Ret.asB r8 (by kernel_rfl) (by kernel_rfl)
 rw[show asB (.tup [xC,xD])=.tup [.agg [vC],.agg [vD]] by kernel_rfl]at h
 exact h
theorem n9a:Ret Tryz.prog cx 9 [.agg [vC],.agg [vD],.bs taxB,.fz 1 false [.int .i64 1],.int .i64 7] (.tup [.agg d1.cs,.int .i64 0]):=by
 have h:=Ret.asB r9a (by kernel_rfl) (by kernel_rfl)
 rw[show asB (.tup [xM1,iz 0])=.tup [.agg d1.cs,.int .i64 0] by kernel_rfl,show asL [xC,xD,xq,xi 1,iz 7]=[.agg [vC],.agg [vD],.bs taxB,.fz 1 false [.int .i64 1],.int .i64 7] by kernel_rfl]at h
 exact h
theorem n9b:Ret Tryz.prog cx 9 [.agg [vC],.agg [vD],.bs taxB,.fz 1 false [.int .i64 5],.int .i64 7] (.tup [.agg [.bs rtB,.int .i64 2,.bs taxB,.fz 1 false [.int .i64 5],.int .i64 7,vT,.fz 3 false [.agg [.int .i64 3,.bs p1B,.bs e0B],.agg [.int .i64 1,.bs p2B,.bs e0B],.agg [.int .i64 5,.bs p1B,.bs e0B]],.int .i64 1,.int .i64 5,.fz 1 false [.bs p1B],.sl0],.int .i64 0]):=by
 have h:=Ret.asB r9b (by kernel_rfl) (by kernel_rfl)
 rw[show asB (.tup [xM5,iz 0])=.tup [.agg [.bs rtB,.int .i64 2,.bs taxB,.fz 1 false [.int .i64 5],.int .i64 7,vT,.fz 3 false [.agg [.int .i64 3,.bs p1B,.bs e0B],.agg [.int .i64 1,.bs p2B,.bs e0B],.agg [.int .i64 5,.bs p1B,.bs e0B]],.int .i64 1,.int .i64 5,.fz 1 false [.bs p1B],.sl0],.int .i64 0] by kernel_rfl,show asL [xC,xD,xq,xi 5,iz 7]=[.agg [vC],.agg [vD],.bs taxB,.fz 1 false [.int .i64 5],.int .i64 7] by kernel_rfl]at h
 exact h
theorem n9c:Ret Tryz.prog cx 9 [.agg [vC],.agg [vD],.bs taxB,.fz 1 false [.int .i64 10],.int .i64 7] (.tup [.agg [.bs e0B,.int .i64 0,.bs e0B,.sl0,.int .i64 0,.sl0,.sl0,.int .i64 0,.int .i64 0,.sl0,.sl0],.int .i64 1]):=by
 have h:=Ret.asB r9c (by kernel_rfl) (by kernel_rfl)
 rw[show asB xM0=.tup [.agg [.bs e0B,.int .i64 0,.bs e0B,.sl0,.int .i64 0,.sl0,.sl0,.int .i64 0,.int .i64 0,.sl0,.sl0],.int .i64 1] by kernel_rfl,show asL [xC,xD,xq,xi 10,iz 7]=[.agg [vC],.agg [vD],.bs taxB,.fz 1 false [.int .i64 10],.int .i64 7] by kernel_rfl]at h
 exact h
theorem n11:Ret Tryz.prog cx 11 [.agg [vC]] vL:=by
 have h:=Ret.asB r11 (by kernel_rfl) (by kernel_rfl)
 rw[show asL [xC]=[.agg [vC]] by kernel_rfl]at h
 exact h
theorem n10:Ret Tryz.prog cx 10 [vL] (.bs rtB):=by
 have h:=Ret.asB r10 (by kernel_rfl) (by kernel_rfl)
 rw[show asL [xV]=[vL] by kernel_rfl,show asB xRt=.bs rtB by kernel_rfl]at h
 exact h
theorem ft4:cx.ft.get 4=some Tryz.f4:=cxS_ft (by decide) (by kernel_rfl)
@[go_sem high] theorem store11 (L Z:List AV) (i:Nat)(g:Tr ABlk) (n:Nat)(h1:allOne L=true)(h2:L.length=11)(h3:Z.length=11):storeB (some (bx 30 Z false 0)) i 0 11 (.agg L) g n=.unit (g.put i (some (bx 30 L false 0))) n:=by
 have e:(AV.agg L).cells=L:=rfl
 rw[storeB_bx _ _ _ _ _ _ _ _ _ _ (by rw[e];exact h1) (by rw[e];exact h2) (by omega),e,segL_full _ _ (by omega)]
def withEq (c:Cx)(e:Tr (List (Nat×TypeDesc))):Cx:=.mk c.tt e c.ft c.G c.lies
theorem withEq_tt (c:Cx)(e:Tr (List (Nat×TypeDesc))):(withEq c e).tt=c.tt:=rfl
theorem withEq_eq (c:Cx)(e:Tr (List (Nat×TypeDesc))):(withEq c e).eq=e:=rfl
theorem withEq_ft (c:Cx)(e:Tr (List (Nat×TypeDesc))):(withEq c e).ft=c.ft:=rfl
theorem withEq_G (c:Cx)(e:Tr (List (Nat×TypeDesc))):(withEq c e).G=c.G:=rfl
theorem withEq_ok {P:Program}{c:Cx}(h:CxOk P c)(e:Tr (List (Nat×TypeDesc)))(he:∀t,EqOk P t (e.get t)):CxOk P (withEq c e):=⟨h.tt,he,h.lies,h.ft⟩
theorem Ret.withEq {P:Program}{c:Cx}(e:Tr (List (Nat×TypeDesc))){f:FuncId}{args:List AV}{u:AV}(h:Ret P c f args u):Ret P (Go.Ev.withEq c e) f args u:=h.tab rfl fun _ _ q=>q
theorem Ret.unEq {P:Program}{c:Cx}{e:Tr (List (Nat×TypeDesc))}{f:FuncId}{args:List AV}{u:AV}(h:Ret P (Go.Ev.withEq c e) f args u):Ret P c f args u:=h.tab rfl fun _ _ q=>q
def cx3:Cx:=withEq cx (eqTab Tryz.prog [46])
theorem cx3G:cx3.G=cx.G:=by unfold cx3;exact withEq_G _ _
theorem cx3tt:cx3.tt=cx.tt:=by unfold cx3;exact withEq_tt _ _
theorem ft4':cx3.ft.get 4=some Tryz.f4:=by unfold cx3;rw[withEq_ft];exact ft4
theorem cx3ok:CxOk Tryz.prog cx3:=by unfold cx3;exact withEq_ok cxok _ fun t=>eqTab_ok _ t
theorem eq46:cx3.eq.get 46=some [(0,.int .i64),(1,.string),(2,.string)]:=by unfold cx3;rw[withEq_eq];kernel_rfl
attribute [go_sem] cx3G cx3tt eq46 flatEq
set_option maxHeartbeats 8000000 in
theorem head_w (vC vD vL:AV)(rt x1 x2 x3 x4 T:ByteArray)(L1 L2 L3:List AV)
  (h1:L1=[.bs rt,.int .i64 2,.bs ⟨#[116,97,120]⟩,.fz 1 false [.int .i64 1],.int .i64 7,.fz 7 false [.agg [.int .i64 2,.bs ⟨#[112,49]⟩,.bs ⟨#[]⟩,.bs ⟨#[]⟩,.bs x1,.bs x2,.bool false],.agg [.int .i64 2,.bs ⟨#[112,50]⟩,.bs ⟨#[]⟩,.bs ⟨#[]⟩,.bs x3,.bs x4,.bool false]],.fz 3 false [.agg [.int .i64 3,.bs ⟨#[112,49]⟩,.bs ⟨#[]⟩],.agg [.int .i64 3,.bs ⟨#[112,50]⟩,.bs ⟨#[]⟩],.agg [.int .i64 4,.bs ⟨#[112,50]⟩,.bs ⟨#[112,49]⟩],.agg [.int .i64 5,.bs ⟨#[112,50]⟩,.bs ⟨#[]⟩]],.int .i64 1,.int .i64 3,.fz 1 false [.bs ⟨#[112,50]⟩],.fz 1 false [.bs ⟨#[112,49]⟩]])
  (h2:L2=[.bs rt,.int .i64 2,.bs ⟨#[116,97,120]⟩,.fz 1 false [.int .i64 5],.int .i64 7,.fz 7 false [.agg [.int .i64 2,.bs ⟨#[112,49]⟩,.bs ⟨#[]⟩,.bs ⟨#[]⟩,.bs x1,.bs x2,.bool false],.agg [.int .i64 2,.bs ⟨#[112,50]⟩,.bs ⟨#[]⟩,.bs ⟨#[]⟩,.bs x3,.bs x4,.bool false]],.fz 3 false [.agg [.int .i64 3,.bs ⟨#[112,49]⟩,.bs ⟨#[]⟩],.agg [.int .i64 1,.bs ⟨#[112,50]⟩,.bs ⟨#[]⟩],.agg [.int .i64 5,.bs ⟨#[112,49]⟩,.bs ⟨#[]⟩]],.int .i64 1,.int .i64 5,.fz 1 false [.bs ⟨#[112,49]⟩],.sl0])
  (h3:L3=[.bs ⟨#[]⟩,.int .i64 0,.bs ⟨#[]⟩,.sl0,.int .i64 0,.sl0,.sl0,.int .i64 0,.int .i64 0,.sl0,.sl0])
  (o1:allOne [vC]=true) (o2:allOne [vD]=true) (hb:100<T.size)
  (n8:Ret Tryz.prog cx3 8 [] (.tup [.agg [vC],.agg [vD]]))
  (n9a:Ret Tryz.prog cx3 9 [.agg [vC],.agg [vD],.bs ⟨#[116,97,120]⟩,.fz 1 false [.int .i64 1],.int .i64 7] (.tup [.agg L1,.int .i64 0]))
  (n9b:Ret Tryz.prog cx3 9 [.agg [vC],.agg [vD],.bs ⟨#[116,97,120]⟩,.fz 1 false [.int .i64 5],.int .i64 7] (.tup [.agg L2,.int .i64 0]))
  (n9c:Ret Tryz.prog cx3 9 [.agg [vC],.agg [vD],.bs ⟨#[116,97,120]⟩,.fz 1 false [.int .i64 10],.int .i64 7] (.tup [.agg L3,.int .i64 1]))
  (n6:Ret Tryz.prog cx3 6 [.agg L1] (.tup [.bs T,.int .i64 0]))
  (n11:Ret Tryz.prog cx3 11 [.agg [vC]] vL) (n10:Ret Tryz.prog cx3 10 [vL] (.bs rt)):Ret Tryz.prog cx3 4 [] (.bool true):=by
 refine Ret.mk fun h nx R hR=>ACall_mk (sz:=141) (rs:=[.tmp 0]) cx3ok ft4' rfl rfl rfl (by simp) ?_
 have c1:allOne L1=true:=by rw[h1];rfl
 have c2:allOne L2=true:=by rw[h2];rfl
 have c3:allOne L3=true:=by rw[h3];rfl
 have l1:L1.length=11:=by rw[h1];rfl
 have l2:L2.length=11:=by rw[h2];rfl
 have l3:L3.length=11:=by rw[h3];rfl
 have f3:∀(L:List AV) (B:List AV),L.length=11→B.length=11→segL B 0 L=L:=fun L B e1 e2=>segL_full B L (by omega)
 have hR':∀b g ny,Ext nx h g→b=true→R (.bool b) g ny:=fun b g ny e1 e2=>hR _ _ _ e1 (Fz.eq rfl (by rw[e2]))
 simp-implicitDefEqProofs[go_sem]
 refine Ret.use n8 ?_
 simp-implicitDefEqProofs[go_sem,goOn_some,segL,o1,o2]
 refine ACall_fry (fun i=>i∈[nx+1+1]) (FyH.kill _) (args':=[.agg [vC],.agg [vD],.bs ⟨#[116,97,120]⟩,.fz 1 false [.int .i64 1],.int .i64 7]) ?_ (Ret.use n9a ?_)
 ·exact .cons _ _ _ _ (.same _) (.cons _ _ _ _ (.same _) (.cons _ _ _ _ (.same _) (.cons _ _ _ _ (Fy.row1 (t:=3) (opn:=false) (esz:=0) (L:=[.int .i64 1]) (by simp) (by simp[go_sem]) rfl rfl) (.cons _ _ _ _ (.same _) .nil))))
 generalize hM:killL _ _=M
 have m0:M.get nx=some (bx 37 [vC] false 0):=by rw[← hM,get_killL,if_neg (by first |(simp;done) |(simp;omega))];simp[go_sem]
 have m1:M.get (nx+1)=some (bx 40 [vD] false 0):=by rw[← hM,get_killL,if_neg (by simp)];simp[go_sem]
 have mE:Ext nx h M:=fun k hk=>by
  rw[← hM,get_killL,if_neg (by simp;omega)]
  simp only[Tr.get_put,if_neg (show ¬k=nx+1+1 by omega),if_neg (show ¬k=nx+1 by omega),if_neg (show ¬k=nx by omega)]
 clear hM
 simp-implicitDefEqProofs[go_sem,goOn_some,m0,m1,c1,l1]
 refine ACall_fry (fun i=>i∈[nx+1+1+1+1]) (FyH.kill _) (args':=[.agg [vC],.agg [vD],.bs ⟨#[116,97,120]⟩,.fz 1 false [.int .i64 5],.int .i64 7]) ?_ (Ret.use n9b ?_)
 ·exact .cons _ _ _ _ (.same _) (.cons _ _ _ _ (.same _) (.cons _ _ _ _ (.same _) (.cons _ _ _ _ (Fy.row1 (t:=3) (opn:=false) (esz:=0) (L:=[.int .i64 5]) (by simp) (by simp[go_sem]) rfl rfl) (.cons _ _ _ _ (.same _) .nil))))
 generalize hM:killL _ _=N
 have p0:N.get nx=some (bx 37 [vC] false 0):=by rw[← hM,get_killL,if_neg (by first |(simp;done) |(simp;omega))];simp[go_sem,m0]
 have p1:N.get (nx+1)=some (bx 40 [vD] false 0):=by rw[← hM,get_killL,if_neg (by first |(simp;done) |(simp;omega))];simp[go_sem,m1]
 have p3:N.get (nx+1+1+1)=some (bx 30 L1 false 0):=by rw[← hM,get_killL,if_neg (by simp)];simp[go_sem]
 have pE:Ext nx h N:=fun k hk=>by
  rw[← hM,get_killL,if_neg (by simp;omega),← mE k hk]
  simp only[Tr.get_put,if_neg (show ¬k=nx+1+1+1 by omega),if_neg (show ¬k=nx+1+1+1+1 by omega)]
 clear hM m0 m1 mE M
 simp-implicitDefEqProofs[go_sem,goOn_some,p0,p1,c2,l2]
 refine ACall_fry (fun i=>i∈[nx+1+1+1+1+1+1]) (FyH.kill _) (args':=[.agg [vC],.agg [vD],.bs ⟨#[116,97,120]⟩,.fz 1 false [.int .i64 10],.int .i64 7]) ?_ (Ret.use n9c ?_)
 ·exact .cons _ _ _ _ (.same _) (.cons _ _ _ _ (.same _) (.cons _ _ _ _ (.same _) (.cons _ _ _ _ (Fy.row1 (t:=3) (opn:=false) (esz:=0) (L:=[.int .i64 10]) (by simp) (by simp[go_sem]) rfl rfl) (.cons _ _ _ _ (.same _) .nil))))
 generalize hM:killL _ _=K
 have q0:K.get nx=some (bx 37 [vC] false 0):=by rw[← hM,get_killL,if_neg (by first |(simp;done) |(simp;omega))];simp[go_sem,p0]
 have q3:K.get (nx+1+1+1)=some (bx 30 L1 false 0):=by rw[← hM,get_killL,if_neg (by first |(simp;done) |(simp;omega))];simp[go_sem,p3]
 have q5:K.get (nx+1+1+1+1+1)=some (bx 30 L2 false 0):=by rw[← hM,get_killL,if_neg (by simp)];simp[go_sem]
 have qE:Ext nx h K:=fun k hk=>by
  rw[← hM,get_killL,if_neg (by simp;omega),← pE k hk]
  simp only[Tr.get_put,if_neg (show ¬k=nx+1+1+1+1+1 by omega),if_neg (show ¬k=nx+1+1+1+1+1+1 by omega),if_neg (show ¬k=nx+1+1+1+1 by omega)]
 clear hM p0 p1 p3 pE N
 have tk:L1.take 11=L1:=List.take_of_length_le (by omega)
 simp-implicitDefEqProofs[go_sem,goOn_some,q0,q3,q5,c3,l1,l3,tk]
 refine Ret.use n6 ?_
 rw[h1]at q3
 rw[h2]at q5
 have be:ByteArray.empty=⟨#[]⟩:=rfl
 have i4:ieq 4 4=true:=rfl
 have i5:ieq 5 5=true:=rfl
 have i1:ieq 1 1=true:=rfl
 simp-implicitDefEqProofs[go_sem,goOn_some,q0,q3,q5,segL,i4,i5,i1,be]
 have sy:cx3.G.sym=true:=by rw[cx3G];rfl
 have hbI:(100:Int)<T.size:=by omega
 refine AW_draw mixed cx3ok sy [] [21,22] [] (by kernel_rfl) ?_
 simp-implicitDefEqProofs[go_sem,q0,q3,q5,be,hb,hbI]
 refine retP_mk n11 ?_
 simp-implicitDefEqProofs[go_sem,putS_some,q0,q3,q5]
 refine retP_mk n10 ?_
 simp-implicitDefEqProofs[go_sem,putS_some,q0,q3,q5]
 refine hR' _ _ _ ?_ rfl
 simp(disch:=omega)only[ext_put]
 exact qE
theorem head_c:Ret Tryz.prog cx 4 [] (.bool true):=
 Ret.unEq (e:=eqTab Tryz.prog [46]) (head_w vC vD vL rtB n1B s1B n2B s2B (catB (linesT d1)) d1.cs _ _ rfl rfl rfl rfl rfl bigT (n8.withEq _) (n9a.withEq _) (n9b.withEq _) (n9c.withEq _) (textA.withEq _) (n11.withEq _) (n10.withEq _))
end
end Go.Ev
