/- Texts M3 DF DL. -/
import Derived.Test.YtjngkeajenankaaGreatDoorP39
set_option linter.unusedSimpArgs false
set_option linter.unusedVariables false
set_option maxRecDepth 100000
namespace Go.Ev
open Go.Proofs Go.RowKit
noncomputable section
attribute [-go_sem] pPick lookRes evConvS evStrB
set_option maxHeartbeats 8000000 in
theorem formed_c (d:Dv)(hd:d.Ok):Ret Tryz.prog cx 13 [.agg d.cs] (.bool (frmB rnmB isB d)):=by
 refine Ret.mk fun h nx R hR=>ACall_mk (sz:=125) (rs:=[.tmp 2]) cxok ft13 rfl rfl rfl (by simp) ?_
 have hF:∀b g ny,Ext nx h g→b=frmB rnmB isB d→R (.bool b) g ny:=fun z g ny hE e=>hR _ _ _ hE (Fz.eq rfl (by rw[e]))
 have hno:∀g ny,Ext nx h g→¬d.Frm rnmB isB→R (.bool false) g ny:=fun g ny e q=>hF _ _ _ e (frmB_false q).symm
 have hno':=Lib.hid hno
 have hF':=Lib.hid hF
 clear hno hF hR
 have hq:=bad_c d.q
 have hr:=is2_c d.root (by have:d.root.size≤1048576:=hd.root;omega)
 have z1:¬nx=nx+1:=by omega
 have z2:¬nx=nx+1+1:=by omega
 have z3:¬nx+1=nx+1+1:=by omega
 have hEx:∀g:Tr ABlk,(∀k,k<nx→g.get k=h.get k)→Ext nx h g:=fun g e k hk=>e k hk
 simp[go_sem,Dv.cs,segL,z1,z2,z3]
 generalize hM:Tr.put _ (nx+1+1) _=M
 have M0:M.get nx=some (bx 30 d.cs false 0):=by rw[← hM];unfold Dv.cs;simp(disch:=omega) [go_sem,NEx]
 have M1:M.get (nx+1)=some (bx 72 [.func 41 [] []] false 0):=by rw[← hM];simp(disch:=omega) [go_sem,NEx]
 have M2:M.get (nx+1+1)=some (bx 28 [.int .i64 d.state,.int .i64 d.value,.fz 1 false (encB d.by_),.fz 1 false (encB d.over)] false 0):=by rw[← hM];simp(disch:=omega) [go_sem]
 have ME:Ext nx h M:=by
  rw[← hM]
  simp(disch:=omega)only[ext_put]
  exact Ext.refl _ _
 clear hM
 unfold Dv.cs at M0
 have nmT:∀l:List ByteArray,l.all rnmB=true↔∀s∈l,rnmB s=true:=fun l=>List.all_eq_true
 refine Ret.use hr ?_
 by_cases c1:isB d.root=true
 rotate_left
 ·simp[go_sem,goOn_some,c1]
  exact hno'.out _ _ ME (fun q=>c1 q.root)
 by_cases c2:d.count=d.texts.length
 rotate_left
 ·simp[go_sem,goOn_some,c1,c2,M0]
  exact hno'.out _ _ ME (fun q=>c2 q.count)
 have c2t:(d.count=(d.texts.length:Int))=True:=eq_true c2
 simp[go_sem,goOn_some,c1,c2t,M0,M1]
 refine Ret.use hq ?_
 by_cases c3:rnmB d.q=true
 rotate_left
 ·simp[go_sem,goOn_some,c3]
  exact hno'.out _ _ ME (fun q=>c3 q.q)
 simp[go_sem,goOn_some,c3,M0]
 refine Ret.use (number_c d.day) ?_
 by_cases c4:numB d.day=true
 rotate_left
 ·simp[go_sem,goOn_some,c4]
  exact hno'.out _ _ ME (fun q=>c4 (by unfold numB;simpa using q.day))
 simp[go_sem,goOn_some,c4,M2]
 refine Ret.use (number_c d.value) ?_
 by_cases c5:numB d.value=true
 rotate_left
 ·simp[go_sem,goOn_some,c5]
  exact hno'.out _ _ ME (fun q=>c5 (by unfold numB;simpa using q.value))
 by_cases s1:d.state<0
 ·simp[go_sem,goOn_some,c5,M2,s1]
  exact hno'.out _ _ ME (fun q=>by have:=q.state;omega)
 by_cases s2:(2:Int)<d.state
 ·simp[go_sem,goOn_some,c5,M2,s1,s2]
  exact hno'.out _ _ ME (fun q=>by have:=q.state;omega)
 simp[go_sem,goOn_some,c5,M2,s1,s2,M1]
 refine Ret.use (contB_c false d.by_ (by have:=hd.by_;omega)) ?_
 by_cases s5:d.by_.all rnmB=true
 rotate_left
 ·simp[go_sem,goOn_some,s5]
  exact hno'.out _ _ ME (fun q=>s5 ((nmT _).2 q.by_))
 simp[go_sem,goOn_some,s5,M2,M1]
 refine Ret.use (contB_c false d.over (by have:=hd.over;omega)) ?_
 by_cases s6:d.over.all rnmB=true
 rotate_left
 ·simp[go_sem,goOn_some,s6]
  exact hno'.out _ _ ME (fun q=>s6 ((nmT _).2 q.over))
 simp[go_sem,goOn_some,s6,M0]
 have D4:0≤d.day∧d.day≤1000000:=by unfold numB at c4;simpa using c4
 have D5:0≤d.value∧d.value≤1000000:=by unfold numB at c5;simpa using c5
 refine AW_rounds (fun mm st=>∃tm k,st=.mk tm M (nx+1+1+1) []∧mm=d.case.length-k∧k≤d.case.length∧tm.get 1=some (.ptr nx 0)∧tm.get 3=some (.func 40 [] [])∧tm.get 4=some (.ptr (nx+1) 0)∧tm.get 67=some (.fz 1 false (encI d.case))∧tm.get 68=some (.int .i64 (d.case.length:Int))∧tm.get 69=some (.int .i64 (k:Int))∧RowKit.Hid (∀i,(h:i<d.case.length)→i<k→0≤d.case[i]∧d.case[i]≤1000000)) ⟨d.case.length,_,0,rfl,rfl,by omega,?_⟩ ?_
 ·simp[go_sem]
  exact Lib.hid trivial
 rintro mm st ⟨tm,k,rfl,rfl,hk,t1,t3,t4,t67,t68,t69,hv⟩ J hJ
 refine aw_ok cxok _ ?_
 have hcl:=hd.case
 by_cases k1:k<d.case.length
 ·have wI:IntKind.i64.wrap ((k:Int)+1)=(k:Int)+1:=i64wrap _ (by omega) (by omega)
  simp[go_sem,t1,t3,t67,t68,t69,k1]
  refine Ret.use (number_c _) ?_
  by_cases c:numB d.case[k]=true
  rotate_left
  ·simp[go_sem,goOn_some,c]
   exact hno'.out _ _ ME (fun q=>c (by unfold numB;simpa using q.case _ (List.getElem_mem k1)))
  simp[go_sem,goOn_some,c,t69,wI]
  refine hJ (d.case.length-(k+1)) _ (by omega) ⟨_,k+1,rfl,rfl,by omega,?_⟩
  simp[go_sem,t1,t3,t4,t67,t68,t69,wI]
  refine Lib.hid fun i h1 h2=>?_
  by_cases e:i=k
  ·subst e;unfold numB at c;simpa using c
  ·exact hv.out i h1 (by omega)
 have H1:∀n∈d.case,0≤n∧n≤1000000:=fun n hn=>by
  obtain⟨i,h1,rfl⟩:=List.getElem_of_mem hn
  exact hv.out i h1 (by omega)
 clear hv hJ
 simp[go_sem,t1,t3,t67,t68,t69,k1,M0]
 replace M0:M.get nx=some (bx 30 d.cs false 0):=M0
 have htl:=hd.texts
 refine AW_rounds (fun mm st=>∃tm k g ny,st=.mk tm g ny []∧mm=d.texts.length-k∧k≤d.texts.length∧tm.get 1=some (.ptr nx 0)∧tm.get 4=some (.ptr (nx+1) 0)∧tm.get 79=some (.fz 7 false (encIt d.texts))∧tm.get 80=some (.int .i64 (d.texts.length:Int))∧tm.get 81=some (.int .i64 (k:Int))∧nx+1<ny∧g.get nx=some (bx 30 d.cs false 0)∧g.get (nx+1)=some (bx 72 [.func 41 [] []] false 0)∧Ext nx h g∧RowKit.Hid (∀i,(h:i<d.texts.length)→i<k→d.texts[i].ok rnmB)) ⟨d.texts.length,_,0,_,_,rfl,rfl,by omega,?_⟩ ?_
 ·simp[go_sem,t1,t4]
  exact⟨M0,M1,ME,Lib.hid trivial⟩
 clear t1 t3 t4 t67 t68 t69 k1 hk tm k M2 M1 M0 ME M
 rintro mm st ⟨tm,k,g,ny,rfl,rfl,hk,t1,t4,t79,t80,t81,hn,M0,M1,hE,hv⟩ J hJ
 refine aw_ok cxok _ ?_
 have n1:¬nx=ny:=by omega
 have n2:¬nx+1=ny:=by omega
 by_cases k1:k<d.texts.length
 ·have wI:IntKind.i64.wrap ((k:Int)+1)=(k:Int)+1:=i64wrap _ (by omega) (by omega)
  have hEn2:∀X Y,Ext nx h ((g.put ny X).put ny Y):=fun X Y=>(ext_put (by omega)).2 ((ext_put (by omega)).2 hE)
  have hno:∀g' n',Ext nx h g'→¬(d.texts[k]).ok rnmB→R (.bool false) g' n':=fun g' n' e1 e=>hno'.out g' n' e1 (fun q=>e (q.texts _ (List.getElem_mem k1)))
  have hgo:∀tm' g' n',(d.texts[k]).ok rnmB→tm'.get 1=some (.ptr nx 0)→tm'.get 4=some (.ptr (nx+1) 0)→tm'.get 79=some (.fz 7 false (encIt d.texts))→tm'.get 80=some (.int .i64 (d.texts.length:Int))→tm'.get 81=some (.int .i64 ((k:Int)+1))→nx+1<n'→g'.get nx=some (bx 30 d.cs false 0)→g'.get (nx+1)=some (bx 72 [.func 41 [] []] false 0)→Ext nx h g'→J (.mk tm' g' n' []):=fun tm' g' n' e a1 a2 a3 a4 a5 b1 b2 b3 b4=>
   hJ (d.texts.length-(k+1)) _ (by omega) ⟨tm',k+1,g',n',rfl,rfl,by omega,a1,a2,a3,a4,by rw[a5];rfl,b1,b2,b3,b4,Lib.hid fun i h1 h2=>by
    by_cases e2:i=k
    ·subst e2;exact e
    ·exact hv.out i h1 (by omega)⟩
  have hno2:=Lib.hid hno
  have hgo2:=Lib.hid hgo
  clear hno hgo hJ hF' hno' hv
  generalize bx 30 d.cs false 0=B at M0 hgo2
  generalize hTL:encIt d.texts=TL at t79 hgo2
  have hat:∀hk,TL[k]'hk=.agg d.texts[k].cs:=fun hk=>by subst hTL;exact encIt_at _ _ _
  have hlen:TL.length=d.texts.length:=by rw[← hTL];exact encIt_len _
  have kTL:k<TL.length:=by omega
  generalize hx:d.texts[k]=y at hno2 hgo2 hat
  obtain⟨kind,id,par,num,nor,sou,gone⟩:=y
  simp only[It.ok]at hno2 hgo2
  simp only[It.cs]at hat
  by_cases e1:kind=1∨kind=2
  rotate_left
  ·have x1:¬kind=1:=fun q=>e1 (.inl q)
   have x2:¬kind=2:=fun q=>e1 (.inr q)
   simp[go_sem,t1,t4,t79,t80,t81,k1,kTL,hat,segL,n1,n2,x1,x2]
   exact hno2.out _ _ (hEn2 _ _) (fun q=>by omega)
  have hkk:1≤kind∧kind≤2:=by omega
  by_cases x1:kind=1
  ·subst x1
   simp[go_sem,t1,t4,t79,t80,t81,k1,kTL,hat,segL,n1,n2,M1]
   refine Ret.use (bad_c id) ?_
   by_cases e3:rnmB id=true
   rotate_left
   ·simp[go_sem,goOn_some,e3]
    exact hno2.out _ _ (hEn2 _ _) (fun q=>e3 q.2.1)
   by_cases e4:par=⟨#[]⟩
   ·by_cases e6:num=⟨#[]⟩
    rotate_left
    ·simp[go_sem,goOn_some,segL,n1,n2,e3,e4,e6]
     exact hno2.out _ _ (hEn2 _ _) (fun q=>e6 q.2.2.2.1)
    cases gone with
    |true=>
     simp[go_sem,goOn_some,segL,n1,n2,e3,e4,e6]
     exact hno2.out _ _ (hEn2 _ _) (fun q=>by cases q.2.2.2.2)
    |false=>
     simp[go_sem,goOn_some,segL,n1,n2,e3,e4,e6,t81,wI]
     exact hgo2.out _ _ _ ⟨by omega,e3,.inl e4,e6,rfl⟩ (by simp[go_sem,t1]) (by simp[go_sem,t4]) (by simp[go_sem,t79]) (by simp[go_sem,t80]) (by simp[go_sem,t81,wI]) (by omega) (by simp[go_sem,n1,M0]) (by simp[go_sem,n2,M1]) (hEn2 _ _)
   ·simp[go_sem,goOn_some,segL,n1,n2,e3,e4,t4,M1]
    refine Ret.use (bad_c par) ?_
    by_cases e5:rnmB par=true
    rotate_left
    ·simp[go_sem,goOn_some,e5]
     exact hno2.out _ _ (hEn2 _ _) (fun q=>by
      rcases q.2.2.1 with q |q
      ·exact e4 q
      ·exact e5 q)
    by_cases e6:num=⟨#[]⟩
    rotate_left
    ·simp[go_sem,goOn_some,segL,n1,n2,e3,e4,e5,e6]
     exact hno2.out _ _ (hEn2 _ _) (fun q=>e6 q.2.2.2.1)
    cases gone with
    |true=>
     simp[go_sem,goOn_some,segL,n1,n2,e3,e4,e5,e6]
     exact hno2.out _ _ (hEn2 _ _) (fun q=>by cases q.2.2.2.2)
    |false=>
     simp[go_sem,goOn_some,segL,n1,n2,e3,e4,e5,e6,t81,wI]
     exact hgo2.out _ _ _ ⟨by omega,e3,.inr e5,e6,rfl⟩ (by simp[go_sem,t1]) (by simp[go_sem,t4]) (by simp[go_sem,t79]) (by simp[go_sem,t80]) (by simp[go_sem,t81,wI]) (by omega) (by simp[go_sem,n1,M0]) (by simp[go_sem,n2,M1]) (hEn2 _ _)
  ·have x2:kind=2:=by omega
   subst x2
   simp[go_sem,t1,t4,t79,t80,t81,k1,kTL,hat,segL,n1,n2,M1]
   refine Ret.use (bad_c id) ?_
   by_cases e3:rnmB id=true
   rotate_left
   ·simp[go_sem,goOn_some,e3]
    exact hno2.out _ _ (hEn2 _ _) (fun q=>e3 q.2.1)
   by_cases e4:par=⟨#[]⟩
   ·by_cases e6:num=⟨#[]⟩
    rotate_left
    ·simp[go_sem,goOn_some,segL,n1,n2,e3,e4,e6]
     exact hno2.out _ _ (hEn2 _ _) (fun q=>e6 q.2.2.2.1)
    cases gone with
    |true=>
     simp[go_sem,goOn_some,segL,n1,n2,e3,e4,e6]
     exact hno2.out _ _ (hEn2 _ _) (fun q=>by cases q.2.2.2.2)
    |false=>
     simp[go_sem,goOn_some,segL,n1,n2,e3,e4,e6,t81,wI]
     exact hgo2.out _ _ _ ⟨by omega,e3,.inl e4,e6,rfl⟩ (by simp[go_sem,t1]) (by simp[go_sem,t4]) (by simp[go_sem,t79]) (by simp[go_sem,t80]) (by simp[go_sem,t81,wI]) (by omega) (by simp[go_sem,n1,M0]) (by simp[go_sem,n2,M1]) (hEn2 _ _)
   ·simp[go_sem,goOn_some,segL,n1,n2,e3,e4,t4,M1]
    refine Ret.use (bad_c par) ?_
    by_cases e5:rnmB par=true
    rotate_left
    ·simp[go_sem,goOn_some,e5]
     exact hno2.out _ _ (hEn2 _ _) (fun q=>by
      rcases q.2.2.1 with q |q
      ·exact e4 q
      ·exact e5 q)
    by_cases e6:num=⟨#[]⟩
    rotate_left
    ·simp[go_sem,goOn_some,segL,n1,n2,e3,e4,e5,e6]
     exact hno2.out _ _ (hEn2 _ _) (fun q=>e6 q.2.2.2.1)
    cases gone with
    |true=>
     simp[go_sem,goOn_some,segL,n1,n2,e3,e4,e5,e6]
     exact hno2.out _ _ (hEn2 _ _) (fun q=>by cases q.2.2.2.2)
    |false=>
     simp[go_sem,goOn_some,segL,n1,n2,e3,e4,e5,e6,t81,wI]
     exact hgo2.out _ _ _ ⟨by omega,e3,.inr e5,e6,rfl⟩ (by simp[go_sem,t1]) (by simp[go_sem,t4]) (by simp[go_sem,t79]) (by simp[go_sem,t80]) (by simp[go_sem,t81,wI]) (by omega) (by simp[go_sem,n1,M0]) (by simp[go_sem,n2,M1]) (hEn2 _ _)
 have H2:∀y∈d.texts,y.ok rnmB:=fun n hn=>by
  obtain⟨i,h1,rfl⟩:=List.getElem_of_mem hn
  exact hv.out i h1 (by omega)
 clear hv hJ
 unfold Dv.cs at M0
 simp[go_sem,t1,t4,t79,t80,t81,k1,M0]
 have hcr:=contR_c false d.steps (by have:=hd.steps;omega)
 refine ACall_fry (fun a=>a∈[nx+1]) (FyH.kill _) (args':=[.fz 3 false (encRe d.steps),.func 45 [] [badF]]) ?_ ?_
 ·refine .cons _ _ _ _ (.same _) (.cons _ _ _ _ (.func 45 _ _ _ _ .nil (.cons _ _ _ _ ?_ .nil)) .nil)
  exact .pin (nx+1) 0 72 1 _ false 0 [.func 41 [] []] _ (by simp) M1 (by simp) (fun j hj=>by rw[Nat.zero_add,get_putN0]) (FyL.same _)
 ·refine Ret.use hcr ?_
  simp[go_sem,goOn_some]
  refine hF'.out _ _ _ (fun j hj=>?_) ?_
  ·show ((g.put (nx+1) none).get j)=_
   rw[Tr.get_put,if_neg (by omega)]
   exact hE j hj
  ·cases hall:(d.steps.all fun x=>decide (x.ok rnmB)) with
   |true=>
    rw[List.all_eq_true]at hall
    exact(frmB_true ⟨c1,c2,c3,D4,H1,H2,fun s hs=>by simpa using hall s hs,⟨by omega,by omega⟩,D5,(nmT _).1 s5,(nmT _).1 s6⟩).symm
   |false=>
    refine(frmB_false fun q=>?_).symm
    rw[Bool.eq_false_iff]at hall
    exact hall (List.all_eq_true.2 fun s hs=>by simpa using q.steps s hs)
end
end Go.Ev
namespace Go.Ev
noncomputable section
variable {P : Program} {c : Cx} {σ τ υ : Sg} {h h' g f : Tr ABlk} {nx nx' ny nz sz : Nat} {ds : List DE} {w x y : World} {tm tm' : Tr AV} {a : Act} {G : Gl} {r : Option Nat}
def showF (us:Nat→AV):List (Nat×Nat)→Tr AV→Tr AV
 |[],tm=>tm
 |p::fl,tm=>(showF us fl tm).put p.2 (some (us p.1))
def hideF:List (Nat×Nat)→Tr AV→Tr AV
 |[],tm=>tm
 |p::fl,tm=>(hideF fl tm).put p.2 none
def showA (us:Nat→AV)(fl:List (Nat×Nat)):AS→AS
 |.mk tm h nx ds=>.mk (showF us fl tm) h nx ds
def stayP (c:Cx)(l:List Oper)(us:Nat→AV)(tmF:Tr AV)(h:Tr ABlk) (nx:Nat):List (Nat×Nat)→Prop
 |[]=>True
 |p::fl=>(match l[p.1]? with
  |some o=>evPlainS c o.op tmF h nx=.val (us p.1) h nx
  |none=>False)∧stayP c l us tmF h nx fl
def rmF (need pnd:List (Nat×Nat)):List (Nat×Nat):=pnd.filter fun p=>!(need.any fun q=>Nat.beq q.1 p.1)
def chainP (P:Program)(c:Cx) (sz:Nat)(l:List Oper)(us:Nat→AV)(tmF:Tr AV)(K:AS→Prop):List (Nat×List (Nat×Nat))→List (Nat×Nat)→AS→Prop
 |[],pnd,s=>stayP c l us tmF s.h s.nx pnd∧K (showA us pnd s)
 |q::rest,pnd,s=>stayP c l us tmF s.h s.nx pnd∧match l[q.1]? with
  |some o=>awS P c sz l o (fun s'=>chainP P c sz l us tmF K rest (rmF q.2 pnd) s') (showA us q.2 s)
  |none=>False
section
variable (P : Program) (c : Cx) (sz : Nat) (l : List Oper) (us : Nat → AV) (tmF : Tr AV) (K : AS → Prop) (pnd need : List (Nat × Nat)) (rest : List (Nat × List (Nat × Nat))) (i : Nat) (tm : Tr AV) (h : Tr ABlk) (nx : Nat) (ds : List DE)
@[go_sem ↓] theorem chainP_nil:chainP P c sz l us tmF K [] pnd (.mk tm h nx ds)=(stayP c l us tmF h nx pnd∧K (.mk (showF us pnd tm) h nx ds)):=rfl
@[go_sem ↓] theorem chainP_cons:chainP P c sz l us tmF K ((i,need)::rest) pnd (.mk tm h nx ds)=(stayP c l us tmF h nx pnd∧match l[i]? with
  |some o=>awS P c sz l o (fun s'=>chainP P c sz l us tmF K rest (rmF need pnd) s') (.mk (showF us need tm) h nx ds)
  |none=>False):=rfl
attribute [go_sem] stayP showF hideF rmF
end
def inN (k:Nat)(l:List Nat):Bool:=l.any fun j=>Nat.beq j k
def noG (o:Oper):Bool:=match o.guard with |none=>true |some _=>false
theorem inN_spec {k:Nat}{l:List Nat}:inN k l=true↔k∈l:=by
 unfold inN
 rw[List.any_eq_true]
 constructor
 ·rintro⟨j,h1,h2⟩
  rw[← Nat.eq_of_beq_eq_true h2]
  exact h1
 ·intro h
  exact⟨k,h,Nat.beq_refl k⟩
theorem showF_get (us:Nat→AV) (t:Nat):∀(fl:List (Nat×Nat))(tm:Tr AV),(∀p∈fl,p.2≠t)→(showF us fl tm).get t=tm.get t
 |[],tm,_=>rfl
 |p::fl,tm,hh=>by
  rw[showF,Tr.get_put,if_neg (fun e=>hh p List.mem_cons_self e.symm),showF_get us t fl tm fun q hq=>hh q (List.mem_cons_of_mem _ hq)]
theorem showF_in (us:Nat→AV){p:Nat×Nat}:∀(fl:List (Nat×Nat))(tm:Tr AV),(∀q∈fl,q.2=p.2→q.1=p.1)→p∈fl→(showF us fl tm).get p.2=some (us p.1)
 |[],tm,_,hp=>by cases hp
 |q::fl,tm,hh,hp=>by
  rw[showF,Tr.get_put]
  by_cases e:p.2=q.2
  ·rw[if_pos e,hh q List.mem_cons_self e.symm]
  ·rw[if_neg e]
   rcases List.mem_cons.1 hp with h1 |h1
   ·exact absurd (by rw[h1]) e
   ·exact showF_in us fl tm (fun q' hq'=>hh q' (List.mem_cons_of_mem _ hq')) h1
theorem hideF_get (t:Nat):∀(fl:List (Nat×Nat))(tm:Tr AV),(hideF fl tm).get t=if t∈fl.map (·.2) then none else tm.get t
 |[],tm=>by simp[hideF]
 |p::l,tm=>by
  rw[hideF,Tr.get_put,hideF_get t l tm]
  by_cases e:t=p.2
  ·simp[e]
  ·simp only[List.map_cons,List.mem_cons,e,false_or,if_false]
theorem stayP_in {l:List Oper}{us:Nat→AV}{tmF:Tr AV}{p:Nat×Nat}{o:Oper}(ho:l[p.1]?=some o):∀{fl:List (Nat×Nat)},stayP c l us tmF h nx fl→p∈fl→evPlainS c o.op tmF h nx=.val (us p.1) h nx
 |[],_,hp=>by cases hp
 |q::fl,hs,hp=>by
  rcases List.mem_cons.1 hp with h1 |h1
  ·subst h1
   have:=hs.1
   rw[ho]at this
   exact this
  ·exact stayP_in ho hs.2 h1
def useT (tm:Tr AV):List Operand→Tr AV
 |[]=>.nil
 |x::l=>match x with
  |.tmp t=>(useT tm l).put t (tm.get t)
  |_=>useT tm l
theorem useT_get (tm:Tr AV) (t:Nat):∀l:List Operand,(Operand.tmp t∈l→(useT tm l).get t=tm.get t)∧(¬Operand.tmp t∈l→(useT tm l).get t=none)
 |[]=>⟨(fun h=>by cases h),(fun _=>by rw[useT];rfl)⟩
 |x::l=>by
  obtain⟨h1,h2⟩:=useT_get tm t l
  cases x with
  |tmp s=>
   rw[useT,Tr.get_put]
   by_cases e:t=s
   ·subst e
    exact⟨fun _=>by rw[if_pos rfl],fun q=>absurd List.mem_cons_self q⟩
   ·rw[if_neg e]
    refine⟨fun q=>h1 ?_,fun q=>h2 fun q2=>q (List.mem_cons_of_mem _ q2)⟩
    rcases List.mem_cons.1 q with q |q
    ·cases q;exact absurd rfl e
    ·exact q
  |_=>
   refine⟨fun q=>h1 ?_,fun q=>h2 fun q2=>q (List.mem_cons_of_mem _ q2)⟩
   rcases List.mem_cons.1 q with q |q
   ·cases q
   ·exact q
end
end Go.Ev
namespace Go.Ev
noncomputable section
variable {P : Program} {c : Cx} {σ τ υ : Sg} {h h' g f : Tr ABlk} {nx nx' ny nz sz : Nat} {ds : List DE} {w x y : World} {tm tm' : Tr AV} {a : Act} {G : Gl} {r : Option Nat}
def pinP (us:Nat→AV) (i:Nat):List (Nat×Nat)→AS→Prop
 |[],_=>True
 |p::l,.mk tm h nx ds=>(match Nat.beq p.1 i with |true=>tm.get p.2=some (us p.1) |false=>True)∧pinP us i l (.mk tm h nx ds)
theorem pinP_in {us:Nat→AV}{i:Nat}{tm:Tr AV}{h:Tr ABlk}{nx:Nat}{ds:List DE}{p:Nat×Nat}:∀{l:List (Nat×Nat)},pinP us i l (.mk tm h nx ds)→p∈l→p.1=i→tm.get p.2=some (us p.1)
 |[],_,hp,_=>by cases hp
 |q::l,hq,hp,e=>by
  rcases List.mem_cons.1 hp with h1 |h1
  ·subst h1
   have:=hq.1
   rw[e,Nat.beq_refl]at this
   rw[e]
   exact this
  ·exact pinP_in hq.2 h1 e
def chainL (P:Program)(c:Cx) (sz:Nat)(l:List Oper)(us:Nat→AV)(pin:List (Nat×Nat))(tmF:Tr AV)(K:AS→Prop):List (Nat×List (Nat×Nat))→List (Nat×Nat)→AS→Prop
 |[],pnd,s=>stayP c l us tmF s.h s.nx pnd∧K (showA us pnd s)
 |q::rest,pnd,s=>stayP c l us tmF s.h s.nx pnd∧match l[q.1]? with
  |some o=>awS P c sz l o (fun s'=>pinP us q.1 pin s'∧chainL P c sz l us pin tmF K rest (rmF q.2 pnd) s') (showA us q.2 s)
  |none=>False
section
variable (P : Program) (c : Cx) (sz : Nat) (l : List Oper) (us : Nat → AV) (pin : List (Nat × Nat)) (tmF : Tr AV) (K : AS → Prop) (pnd need : List (Nat × Nat)) (rest : List (Nat × List (Nat × Nat))) (i : Nat) (tm : Tr AV) (h : Tr ABlk) (nx : Nat) (ds : List DE)
@[go_sem ↓] theorem chainL_nil:chainL P c sz l us pin tmF K [] pnd (.mk tm h nx ds)=(stayP c l us tmF h nx pnd∧K (.mk (showF us pnd tm) h nx ds)):=rfl
@[go_sem ↓] theorem chainL_cons:chainL P c sz l us pin tmF K ((i,need)::rest) pnd (.mk tm h nx ds)=(stayP c l us tmF h nx pnd∧match l[i]? with
  |some o=>awS P c sz l o (fun s'=>pinP us i pin s'∧chainL P c sz l us pin tmF K rest (rmF need pnd) s') (.mk (showF us need tm) h nx ds)
  |none=>False):=rfl
@[go_sem] theorem pinP_nil (s:AS):pinP us i [] s=True:=rfl
@[go_sem] theorem pinP_cons (p:Nat×Nat):pinP us i (p::pin) (.mk tm h nx ds)=((match Nat.beq p.1 i with |true=>tm.get p.2=some (us p.1) |false=>True)∧pinP us i pin (.mk tm h nx ds)):=rfl
end
def floatL (l:List Oper)(ms:List Nat)(fl pin:List (Nat×Nat))(plan:List (Nat×List (Nat×Nat))):Bool:=
 allL l (fun o=>noG o && !(isDefer o.op)) &&
 allL (upTo l.length) (fun k=>(inN k (fl.map (·.1)) || inN k (plan.map (·.1))) && (match l[k]? with
  |none=>true
  |some o=>allL o.after.toList (fun e=>match Region.binds .any e with |true=>Nat.ble (Nat.succ e.on) k |false=>true))) &&
 allL fl (fun p=>!(inN p.1 (plan.map (·.1))) && (match l[p.1]? with
  |none=>false
  |some o=>(match o.dst with |some d=>Nat.beq d p.2 |none=>false) && allL (upTo l.length) (fun k=>match l[k]? with
   |none=>true
   |some ok=>(Nat.beq k p.1 || notDst ok p.2) && allL o.op.operands.toList (fun x=>match x with
    |.tmp t=>notDst ok t || (inN k ((fl++pin).map (·.1)) && befM ms k p.1)
    |_=>true)))) &&
 allL plan (fun q=>allL q.2 (fun p=>fl.any (fun p'=>Nat.beq p'.1 p.1 && Nat.beq p'.2 p.2) && befM ms p.1 q.1)) &&
 allL (upTo plan.length) (fun m=>match plan[m]?,plan[m+1]? with
  |some q,some q'=>befM ms q.1 q'.1
  |_,_=>true) &&
 allL pin (fun p=>!(inN p.1 (fl.map (·.1))) && (match l[p.1]? with
  |none=>false
  |some o=>(match o.dst with |some d=>Nat.beq d p.2 |none=>false) && allL (upTo l.length) (fun k=>match l[k]? with
   |none=>true
   |some ok=>(Nat.beq k p.1 || notDst ok p.2))))
structure LateOk (l:List Oper)(ms:List Nat)(fl pin:List (Nat×Nat))(plan:List (Nat×List (Nat×Nat))):Prop where
 guard:∀o∈l,o.guard=none∧isDefer o.op=false
 all:∀k,k<l.length→(∃d,(k,d)∈fl)∨∃(m:Nat) (q:Nat×List (Nat×Nat)),plan[m]?=some q∧q.1=k
 back:∀k o,l[k]?=some o→∀e∈o.after.toList,Region.binds .any e=true→e.on<k
 sep:∀p∈fl,∀q∈plan,q.1≠p.1
 dst:∀p∈fl,∃o,l[p.1]?=some o∧o.dst=some p.2∧(∀k ok,l[k]?=some ok→k≠p.1→ok.dst≠some p.2)∧∀t,Operand.tmp t∈o.op.operands.toList→∀k ok,l[k]?=some ok→ok.dst=some t→(∃d,(k,d)∈fl++pin)∧befM ms k p.1=true
 need:∀q∈plan,∀p∈q.2,p∈fl∧befM ms p.1 q.1=true
 ord:∀(m:Nat) (q q':Nat×List (Nat×Nat)),plan[m]?=some q→plan[m+1]?=some q'→befM ms q.1 q'.1=true
 pin:∀p∈pin,(∀q∈fl,q.1≠p.1)∧∃o,l[p.1]?=some o∧o.dst=some p.2∧∀k ok,l[k]?=some ok→k≠p.1→ok.dst≠some p.2
theorem floatL_spec {l:List Oper}{ms:List Nat}{fl pin:List (Nat×Nat)}{plan:List (Nat×List (Nat×Nat))}(hf:floatL l ms fl pin plan=true):LateOk l ms fl pin plan:=by
 unfold floatL at hf
 simp only[Bool.and_eq_true]at hf
 obtain⟨⟨⟨⟨⟨h1,h2⟩,h3⟩,h4⟩,h5⟩,h6p⟩:=hf
 refine⟨fun o ho=>?_,fun k hk=>?_,fun k o ho e he hb=>?_,fun p hp q hq e=>?_,fun p hp=>?_,fun q hq p hp=>?_,fun m q q' e1 e2=>?_,fun p hp=>?_⟩
 ·have:=allL_spec h1 o ho
  rw[Bool.and_eq_true]at this
  refine⟨?_,by simpa using this.2⟩
  have h:=this.1
  unfold noG at h
  cases hg:o.guard with
  |none=>rfl
  |some _=>rw[hg]at h;cases h
 ·have:=allL_spec h2 k (List.mem_range.2 hk)
  rw[Bool.and_eq_true,Bool.or_eq_true]at this
  rcases this.1 with e |e
  ·obtain⟨p,hp,rfl⟩:=List.mem_map.1 (inN_spec.1 e)
   exact .inl ⟨p.2,hp⟩
  ·obtain⟨q,hq,rfl⟩:=List.mem_map.1 (inN_spec.1 e)
   obtain⟨m,hm,e2⟩:=List.getElem_of_mem hq
   exact .inr ⟨m,q,by rw[List.getElem?_eq_getElem hm,e2],rfl⟩
 ·have hk:k<l.length:=(List.getElem?_eq_some_iff.1 ho).1
  have:=allL_spec h2 k (List.mem_range.2 hk)
  rw[Bool.and_eq_true]at this
  have h6:=this.2
  rw[ho]at h6
  have:=allL_spec h6 e he
  rw[hb]at this
  exact Nat.le_of_ble_eq_true this
 ·have:=allL_spec h3 p hp
  rw[Bool.and_eq_true]at this
  have h6:inN p.1 (plan.map (·.1))=false:=by simpa using this.1
  have:inN p.1 (plan.map (·.1))=true:=inN_spec.2 (List.mem_map.2 ⟨q,hq,e⟩)
  rw[h6]at this
  cases this
 ·have:=allL_spec h3 p hp
  rw[Bool.and_eq_true]at this
  have h6:=this.2
  cases ho:l[p.1]? with
  |none=>rw[ho]at h6;cases h6
  |some o=>
   rw[ho]at h6
   simp only[Bool.and_eq_true]at h6
   obtain⟨h7,h8⟩:=h6
   refine⟨o,rfl,?_,fun k ok hk hne=>?_,fun t ht k ok hk hd=>?_⟩
   ·cases hd:o.dst with
    |none=>rw[hd]at h7;cases h7
    |some d=>rw[hd]at h7;rw[Nat.eq_of_beq_eq_true h7]
   ·have hlt:k<l.length:=(List.getElem?_eq_some_iff.1 hk).1
    have:=allL_spec h8 k (List.mem_range.2 hlt)
    rw[hk]at this
    simp only[Bool.and_eq_true,Bool.or_eq_true]at this
    rcases this.1 with e |e
    ·exact absurd (Nat.eq_of_beq_eq_true e) hne
    ·exact notDst_spec e
   ·have hlt:k<l.length:=(List.getElem?_eq_some_iff.1 hk).1
    have:=allL_spec h8 k (List.mem_range.2 hlt)
    rw[hk]at this
    simp only[Bool.and_eq_true]at this
    have:=allL_spec this.2 _ ht
    simp only[Bool.or_eq_true,Bool.and_eq_true]at this
    rcases this with e |⟨e1,e2⟩
    ·exact absurd hd (notDst_spec e)
    ·obtain⟨p',hp',e3⟩:=List.mem_map.1 (inN_spec.1 e1)
     exact⟨⟨p'.2,by rw[← e3];exact hp'⟩,e2⟩
 ·have:=allL_spec (allL_spec h4 q hq) p hp
  rw[Bool.and_eq_true,List.any_eq_true]at this
  obtain⟨⟨p',hp',e⟩,h6⟩:=this
  rw[Bool.and_eq_true]at e
  have:p'=p:=Prod.ext (Nat.eq_of_beq_eq_true e.1) (Nat.eq_of_beq_eq_true e.2)
  exact⟨this ▸ hp',h6⟩
 ·have hm:m<plan.length:=(List.getElem?_eq_some_iff.1 e1).1
  have:=allL_spec h5 m (List.mem_range.2 hm)
  rw[e1,e2]at this
  exact this
 ·have:=allL_spec h6p p hp
  rw[Bool.and_eq_true]at this
  obtain⟨g1,g2⟩:=this
  have g1':inN p.1 (fl.map (·.1))=false:=by simpa using g1
  refine⟨fun q hq e=>?_,?_⟩
  ·have:inN p.1 (fl.map (·.1))=true:=inN_spec.2 (List.mem_map.2 ⟨q,hq,e⟩)
   rw[g1']at this
   cases this
  ·cases ho:l[p.1]? with
   |none=>rw[ho]at g2;cases g2
   |some o=>
    rw[ho]at g2
    simp only[Bool.and_eq_true]at g2
    obtain⟨h7,h8⟩:=g2
    refine⟨o,rfl,?_,fun k ok hk hne=>?_⟩
    ·cases hd:o.dst with
     |none=>rw[hd]at h7;cases h7
     |some d=>rw[hd]at h7;rw[Nat.eq_of_beq_eq_true h7]
    ·have hlt:k<l.length:=(List.getElem?_eq_some_iff.1 hk).1
     have:=allL_spec h8 k (List.mem_range.2 hlt)
     rw[hk]at this
     simp only[Bool.or_eq_true]at this
     rcases this with e |e
     ·exact absurd (Nat.eq_of_beq_eq_true e) hne
     ·exact notDst_spec e
structure FInvL (P:Program)(c:Cx) (sz:Nat)(l:List Oper)(us:Nat→AV)(fl pin:List (Nat×Nat))(plan:List (Nat×List (Nat×Nat)))(tm0 tmF:Tr AV)(K:AS→Prop)(σ0:Sg)(h0:Tr ABlk) (n0:Nat)(w0:World)(ds:List DE)(L:Array Bool)(a:Act)(w:World):Prop where
 ex:∃m pnd τ tm h nx,(∀q p,plan[q]?=some p→(L.getD p.1 false=true↔q<m))∧chainL P c sz l us pin tmF K (plan.drop m) pnd (.mk tm h nx ds)∧Post c.G σ0 h0 n0 w0 τ h nx w∧St τ tm a sz ds∧
  (∀p∈fl,L.getD p.1 false=true→Rel τ (us p.1) (a.tmps.getD p.2 undef))∧(∀p∈pnd,p∈fl∧tm.get p.2=none)∧(∀p∈fl,¬p∈pnd→L.getD p.1 false=true)∧(∀t,(∀o∈l,o.dst≠some t)→tm.get t=tm0.get t)∧∀p∈pin,L.getD p.1 false=true→Rel τ (us p.1) (a.tmps.getD p.2 undef)
theorem AW_late (hm:P.follows .mixedOrders=true)(hc:CxOk P c){inr:Bool}{id:Nat}{l:List Oper}(us:Nat→AV)(fl pin:List (Nat×Nat))(plan:List (Nat×List (Nat×Nat)))(hB:floatL l (mAcc l []) fl pin plan=true){Q:AX→AS→Prop}{tm:Tr AV}{h:Tr ABlk}{nx:Nat}{ds:List DE}
  (hlt:∀p∈fl,p.2<sz) (hw:chainL P c sz l us pin (showF us (fl++pin) tm) (Q .norm) plan fl (.mk (hideF fl tm) h nx ds)):AW P c inr sz (.region id l.toArray true) Q (.mk tm h nx ds):=by
 intro r hi σ a w ok st
 simp only[AS.tm,AS.h,AS.nx,AS.ds]at ok st ⊢
 have X:=floatL_spec hB
 have hmask:MaskOk l.toArray (mAcc l []):=mAcc_ok l [] (fun j m hj=>by simp at hj) fun j=>by simp
 have hml:(mAcc l []).length=l.length:=by
  have key:∀(l:List Oper) (acc:List Nat),(mAcc l acc).length=acc.length+l.length:=by
   intro l
   induction l with
   |nil=>intro acc;rfl
   |cons o l ih=>
    intro acc
    show (mAcc l (acc++[moL acc o.after.toList])).length=_
    rw[ih]
    simp
    omega
  simpa using key l []
 refine wpIn_region_any hm ?_
 have hd0:=Post.drawn ok (w.drawn+1)
 generalize hQ:AQ c.G σ h nx w sz Q=QQ
 have hsz:l.toArray.size=l.length:=by simp
 have hget:∀j,l.toArray[j]?=l[j]?:=fun j=>List.getElem?_toArray
 have hrep:∀n i,(Array.replicate n false).getD i false=false:=by
  intro n i
  simp only[Array.getD_eq_getD_getElem?,Array.getElem?_replicate]
  split <;> rfl
 have hback:∀k,k<l.toArray.size→∀x,dir l.toArray x k=true→x<k:=by
  intro k hk x hd
  rw[hsz]at hk
  unfold dir at hd
  rw[hget,List.getElem?_eq_getElem hk]at hd
  simp only[Option.map_some,Option.getD_some,Array.any_eq_true']at hd
  obtain⟨e,he,hb⟩:=hd
  rw[Bool.and_eq_true]at hb
  have hon:e.on=x:=by simpa using hb.2
  rw[← hon]
  exact X.back k _ (List.getElem?_eq_getElem hk) e (by simpa using he) hb.1
 have huniq:∀p∈fl,∀q∈fl,q.2=p.2→q.1=p.1:=by
  intro p hp q hq e
  obtain⟨o,o1,o2,o3,_⟩:=X.dst p hp
  obtain⟨o',o1',o2',_⟩:=X.dst q hq
  by_cases e2:q.1=p.1
  ·exact e2
  ·exact absurd (by rw[o2',e]) (o3 q.1 o' o1' e2)
 have hpd:∀p∈fl,∃o∈l,o.dst=some p.2:=by
  intro p hp
  obtain⟨o,o1,o2,_⟩:=X.dst p hp
  exact⟨o,List.mem_of_getElem? o1,o2⟩
 have hdA:∀p∈fl++pin,∃o,l[p.1]?=some o∧o.dst=some p.2∧∀k ok,l[k]?=some ok→k≠p.1→ok.dst≠some p.2:=by
  intro p hp
  rcases List.mem_append.1 hp with hp |hp
  ·obtain⟨o,o1,o2,o3,_⟩:=X.dst p hp
   exact⟨o,o1,o2,o3⟩
  ·exact(X.pin p hp).2
 have huniqA:∀p∈fl++pin,∀q∈fl++pin,q.2=p.2→q.1=p.1:=by
  intro p hp q hq e
  obtain⟨o,o1,o2,o3⟩:=hdA p hp
  obtain⟨o',o1',o2',_⟩:=hdA q hq
  by_cases e2:q.1=p.1
  ·exact e2
  ·exact absurd (by rw[o2',e]) (o3 q.1 o' o1' e2)
 have hpdA:∀p∈fl++pin,∃o∈l,o.dst=some p.2:=by
  intro p hp
  obtain⟨o,o1,o2,_⟩:=hdA p hp
  exact⟨o,List.mem_of_getElem? o1,o2⟩
 let I:Array Bool→Act→World→Prop:=fun L a' w'=>Closed l.toArray L∧FInvL P c sz l us fl pin plan tm (showF us (fl++pin) tm) (Q .norm) σ h nx w ds L a' w'
 have hclosed:∀(L:Array Bool) (i:Nat),i<L.size→Closed l.toArray L→(∀k,dir l.toArray k i=true→L.getD k false=true)→Closed l.toArray (L.setIfInBounds i true):=by
  intro L i hiL hcl hdeps j hj k hk'
  rw[getD_set hiL]at hj ⊢
  by_cases hki:k=i
  ·rw[if_pos hki]
  ·rw[if_neg hki]
   by_cases hji:j=i
   ·subst hji;exact hdeps k hk'
   ·rw[if_neg hji]at hj
    exact hcl j hj k hk'
 refine wpAnyIn_inv I ?step ?done l.toArray.size _ a _ (by simp) ?count ?init
 case count=>simp
 case init=>
  refine⟨(fun j hj=>by rw[hrep]at hj;cases hj),⟨0,fl,σ,hideF fl tm,h,nx,fun q p e=>⟨fun e2=>(by rw[hrep]at e2;cases e2),fun e2=>by omega⟩,by simpa using hw,hd0,⟨fun t u e=>?_,st.size,st.defers⟩,fun p hp e=>(by rw[hrep]at e;cases e),fun p hp=>⟨hp,?_⟩,fun p hp e=>absurd hp e,fun t ht=>?_,fun p hp e=>(by rw[hrep]at e;cases e)⟩⟩
  ·rw[hideF_get]at e
   split at e
   ·cases e
   ·exact st.tm t u e
  ·rw[hideF_get,if_pos (List.mem_map.2 ⟨p,hp,rfl⟩)]
  ·rw[hideF_get,if_neg]
   intro hmm
   obtain⟨p,hp,rfl⟩:=List.mem_map.1 hmm
   obtain⟨o,ho,hd⟩:=hpd p hp
   exact ht o ho hd
 case done=>
  intro L a' w' hs hI hr
  have hall:=all_listed hback hr hs
  obtain⟨_,m,pnd,τ,tm',h',nx',i1,i2,i3,i4,i5,i6,i7,i8⟩:=hI
  have hmn:plan.length≤m:=by
   rcases Nat.lt_or_ge m plan.length with hlt' |hge
   ·exfalso
    have e:=List.getElem?_eq_getElem hlt'
    by_cases hk:(plan[m]).1<l.length
    ·have:=(i1 m _ e).1 (hall _ (by rw[hsz];exact hk))
     omega
    ·rw[List.drop_eq_getElem_cons hlt',chainL]at i2
     have:=i2.2
     rw[List.getElem?_eq_none (by omega)]at this
     exact this
   ·exact hge
  rw[List.drop_of_length_le hmn,chainL]at i2
  rw[← hQ]
  refine⟨.norm,_,_,_,ds,τ,rfl,i3,⟨fun t u e=>?_,i4.size,i4.defers⟩,i2.2⟩
  by_cases hp:∃p∈pnd,p.2=t
  ·obtain⟨p,hp,rfl⟩:=hp
   rw[showF_in us pnd tm' (fun q hq e=>huniq p (i6 p hp).1 q (i6 q hq).1 e) hp]at e
   cases e
   obtain⟨o,o1,_⟩:=X.dst p (i6 p hp).1
   exact i5 p (i6 p hp).1 (hall _ (by rw[hsz];exact(List.getElem?_eq_some_iff.1 o1).1))
  ·rw[showF_get us t pnd tm' fun p hp' e2=>hp ⟨p,hp',e2⟩]at e
   exact i4.tm t u e
 case step=>
  intro L a1 w1 i hs hI hi
  obtain⟨hin,hnl0,hdeps⟩:=ready_iff.1 hi
  have hiL:i<L.size:=by omega
  have hnl:L.getD i false=false:=by simpa[Array.getD,hiL]using hnl0
  rw[hsz]at hin
  obtain⟨hcl,m,pnd,τ,tm',h',nx',i1,i2,i3,i4,i5,i6,i7,i8⟩:=hI
  have hset:∀j,(L.setIfInBounds i true).getD j false=if j=i then true else L.getD j false:=fun j=>getD_set hiL
  have hbefore:∀k,befM (mAcc l []) k i=true→L.getD k false=true:=by
   intro k hb
   unfold befM at hb
   rw[tb_eq]at hb
   obtain⟨mm,hmm⟩:∃mm,(mAcc l [])[i]?=some mm:=⟨_,List.getElem?_eq_getElem (by omega)⟩
   have e:(mAcc l []).getD i 0=mm:=by simp[List.getD,hmm]
   rw[e]at hb
   exact hmask i mm hmm k hb L hcl hdeps
  have i5A:∀p∈fl++pin,L.getD p.1 false=true→Rel τ (us p.1) (a1.tmps.getD p.2 undef):=fun p hp e=>by
   rcases List.mem_append.1 hp with hp |hp
   ·exact i5 p hp e
   ·exact i8.2 p hp e
  have hoi:l[i]?=some l[i]:=List.getElem?_eq_getElem hin
  obtain⟨hg0,hdf⟩:=X.guard l[i] (List.getElem_mem hin)
  have hwant:Region.wanted l[i] (yielded l.toArray a1.tmps)=true:=by unfold Region.wanted;rw[hg0]
  have hstay:stayP c l us (showF us (fl++pin) tm) h' nx' pnd:=by
   cases hd:plan.drop m with
   |nil=>rw[hd,chainL]at i2;exact i2.1
   |cons q rest=>rw[hd,chainL]at i2;exact i2.1
  unfold wpOpIn
  rw[hget,hoi]
  simp only
  rw[hwant]
  simp only[if_true]
  rcases X.all i hin with⟨d,hp⟩ |⟨q,pq,e1,e2⟩
  ·
   obtain⟨o,o1,o2,o3,o4⟩:=X.dst (i,d) hp
   have ho:l[i]=o:=by
    have:=hoi
    rw[o1]at this
    exact(Option.some.inj this).symm
   rw[ho]
   rw[ho]at hdf
   have hpn:(i,d)∈pnd:=by
    by_cases hh:(i,d)∈pnd
    ·exact hh
    ·have:=i7 _ hp hh
     rw[hnl]at this
     cases this
   have hev:=stayP_in o1 hstay hpn
   have hsee:Sees (useT (showF us (fl++pin) tm) o.op.operands.toList) (showF us (fl++pin) tm) o.op.operands.toList:=fun t ht=>(useT_get _ t _).1 ht
   have hok:TmOk τ (useT (showF us (fl++pin) tm) o.op.operands.toList) a1:=by
    intro t u e
    by_cases ht:Operand.tmp t∈o.op.operands.toList
    ·rw[(useT_get _ t _).1 ht]at e
     by_cases hwr:∃ok∈l,ok.dst=some t
     ·obtain⟨ok,hk,hd⟩:=hwr
      obtain⟨k,hkl,ek⟩:=List.getElem_of_mem hk
      have hk?:l[k]?=some ok:=by rw[List.getElem?_eq_getElem hkl,ek]
      obtain⟨⟨d',hkf⟩,hbf⟩:=o4 t ht k ok hk? hd
      obtain⟨o',o1',o2',_⟩:=hdA (k,d') hkf
      have hdt:d'=t:=by
       rw[hk?]at o1'
       cases o1'
       rw[hd]at o2'
       exact(Option.some.inj o2').symm
      subst hdt
      have h1:=showF_in us (p:=(k,d')) (fl++pin) tm (fun q hq e=>huniqA _ hkf q hq e) hkf
      simp only at h1
      rw[h1]at e
      cases e
      exact i5A (k,d') hkf (hbefore k hbf)
     ·have hno:∀ok∈l,ok.dst≠some t:=fun ok hk hd=>hwr ⟨ok,hk,hd⟩
      rw[showF_get us t (fl++pin) tm (fun p hp' e2=>by
       obtain⟨ok,hk,hd⟩:=hpdA p hp'
       exact hno ok hk (by rw[hd,e2])),← i8.1 t hno]at e
      exact i4.tm t u e
    ·rw[(useT_get _ t _).2 ht]at e
     cases e
   have hp2:=evPlainS_ok hc i3.ok hok o
   rw[evPlainS_sees o.op hsee,hev]at hp2
   obtain⟨V,τ2,x2,r1,r2,r3⟩:=hp2
   refine upon_fence (fun cl e=>by rw[e]at hdf;cases hdf) ?_
   rw[r1]
   show I (L.setIfInBounds i true) (a1.put o.dst V) x2
   rw[o2]
   have hds:d<a1.tmps.size:=by rw[i4.size];exact hlt _ hp
   refine⟨hclosed L i hiL hcl hdeps,⟨m,pnd,τ2,tm',h',nx',fun q p e=>?_,i2,i3.trans r3,⟨fun t u e=>?_,by simpa[Act.put]using i4.size,i4.defers.mono r3.le⟩,fun p hp' e=>?_,i6,fun p hp' e=>?_,i8.1,fun p hp' e=>?_⟩⟩
   ·rw[hset,if_neg (X.sep _ hp p (List.mem_of_getElem? e))]
    exact i1 q p e
   ·have hne:some d≠some t:=fun e2=>by
     have:=(i6 _ hpn).2
     simp only at this
     rw[← Option.some.inj e2,this]at e
     cases e
    rw[put_getDq hne]
    exact(i4.tm t u e).mono r3.le
   ·by_cases e3:p.2=d
    ·have e4:p.1=i:=huniq (i,d) hp p hp' e3
     rw[e3,e4]
     simpa[Act.put,Array.getD_eq_getD_getElem?,hds]using r2
    ·rw[put_getDq (fun e4=>e3 (Option.some.inj e4).symm)]
     have hpi:p.1≠i:=by
      intro e5
      obtain⟨o',o1',o2',_⟩:=X.dst p hp'
      rw[e5,o1]at o1'
      cases o1'
      rw[o2]at o2'
      exact e3 (Option.some.inj o2').symm
     rw[hset,if_neg hpi]at e
     exact(i5 p hp' e).mono r3.le
   ·rw[hset]
    split
    ·rfl
    ·exact i7 p hp' e
   ·have hpi:p.1≠i:=fun e5=>(X.pin p hp').1 _ hp e5.symm
    have hpd2:p.2≠d:=by
     intro e3
     obtain⟨o',o1',o2',o3'⟩:=(X.pin p hp').2
     exact o3' i o o1 hpi.symm (by rw[o2,e3])
    rw[put_getDq (fun e4=>hpd2 (Option.some.inj e4).symm)]
    rw[hset,if_neg hpi]at e
    exact(i8.2 p hp' e).mono r3.le
  ·
   subst e2
   have hqm:q=m:=by
    have h1:¬q<m:=fun hh=>by rw[(i1 q pq e1).2 hh]at hnl;cases hnl
    rcases Nat.lt_or_ge m q with h2 |h2
    ·exfalso
     obtain⟨q',rfl⟩:∃q',q=q'+1:=⟨q-1,by omega⟩
     have hql:=(List.getElem?_eq_some_iff.1 e1).1
     have e3:plan[q']?=some (plan[q']'(by omega)):=List.getElem?_eq_getElem _
     have:=(i1 q' _ e3).1 (hbefore _ (X.ord q' _ _ e3 e1))
     omega
    ·omega
   subst hqm
   have hql:=(List.getElem?_eq_some_iff.1 e1).1
   have hpq:plan[q]=pq:=(List.getElem?_eq_some_iff.1 e1).2
   rw[List.drop_eq_getElem_cons hql,hpq,chainL]at i2
   obtain⟨_,i2⟩:=i2
   rw[hoi]at i2
   simp only at i2
   have hpm:pq∈plan:=List.mem_of_getElem? e1
   have st2:St τ (showF us pq.2 tm') a1 sz ds:=by
    refine⟨fun t u e=>?_,i4.size,i4.defers⟩
    by_cases hp:∃p∈pq.2,p.2=t
    ·obtain⟨p,hp,rfl⟩:=hp
     obtain⟨n1,n2⟩:=X.need pq hpm p hp
     rw[showF_in us pq.2 tm' (fun q' hq' e=>huniq p n1 q' (X.need pq hpm q' hq').1 e) hp]at e
     cases e
     exact i5 p n1 (hbefore _ n2)
    ·rw[showF_get us t pq.2 tm' fun p hp' e2=>hp ⟨p,hp',e2⟩]at e
     exact i4.tm t u e
   have hw2:awS P c sz l.toArray.toList l[pq.1] (fun s'=>pinP us pq.1 pin s'∧chainL P c sz l us pin (showF us (fl++pin) tm) (Q .norm) (plan.drop (q+1)) (rmF pq.2 pnd) s') (.mk (showF us pq.2 tm') h' nx' ds):=i2
   have hstep:=awS_ok hc (ops:=l.toArray) (awS_keep hw2) (r:=r) (a:=a1) (σ:=τ) (w:=w1) i3.ok st2 QQ (I (L.setIfInBounds pq.1 true)) fun υ tm1 V w2 h2 nx2 k1 p1 s1=>?_
   ·rw[hwant]at hstep
    simpa only[if_true]using hstep
   obtain⟨k1,k2⟩:=k1
   have hdst:∀p∈fl,l[pq.1].dst≠some p.2:=by
    intro p hp
    obtain⟨o,o1,o2,o3,_⟩:=X.dst p hp
    exact o3 pq.1 _ hoi (X.sep p hp pq hpm)
   have hrm:∀p,p∈rmF pq.2 pnd↔p∈pnd∧∀p'∈pq.2,p'.1≠p.1:=by
    intro p
    unfold rmF
    rw[List.mem_filter]
    constructor
    ·rintro⟨h1,h2⟩
     refine⟨h1,fun p' hp' e=>?_⟩
     have:(pq.2.any fun q=>Nat.beq q.1 p.1)=true:=List.any_eq_true.2 ⟨p',hp',by rw[e];exact Nat.beq_refl _⟩
     rw[this]at h2
     cases h2
    ·rintro⟨h1,h2⟩
     refine⟨h1,?_⟩
     cases hh:(pq.2.any fun q=>Nat.beq q.1 p.1) with
     |false=>rfl
     |true=>
      obtain⟨p',hp',e⟩:=List.any_eq_true.1 hh
      exact absurd (Nat.eq_of_beq_eq_true e) (h2 p' hp')
   refine⟨hclosed L _ hiL hcl hdeps,⟨q+1,rmF pq.2 pnd,υ,tm1,h2,nx2,fun q' p' e=>?_,k1.2,i3.trans p1,s1,fun p hp e=>?_,fun p hp=>?_,fun p hp e=>?_,fun t ht=>?_,fun p hp e=>?_⟩⟩
   ·rw[hset]
    by_cases e5:p'.1=pq.1
    ·rw[if_pos e5]
     refine⟨fun _=>?_,fun _=>rfl⟩
     rcases Nat.lt_or_ge q' (q+1) with h6 |h6
     ·exact h6
     ·exfalso
      obtain⟨q'',rfl⟩:∃q'',q'=q''+1:=⟨q'-1,by omega⟩
      have hql':=(List.getElem?_eq_some_iff.1 e).1
      have e3:plan[q'']?=some (plan[q'']'(by omega)):=List.getElem?_eq_getElem _
      have hb:=X.ord q'' _ _ e3 e
      rw[e5]at hb
      have:=(i1 q'' _ e3).1 (hbefore _ hb)
      omega
    ·rw[if_neg e5,i1 q' p' e]
     constructor
     ·intro h6;omega
     ·intro h6
      rcases Nat.lt_or_ge q' q with h7 |h7
      ·exact h7
      ·exfalso
       have:q'=q:=by omega
       subst this
       rw[e1]at e
       cases e
       exact e5 rfl
   ·rw[put_getDq (hdst p hp)]
    rw[hset,if_neg (fun e5=>X.sep p hp pq hpm e5.symm)]at e
    exact(i5 p hp e).mono p1.le
   ·obtain⟨h1,h2'⟩:=(hrm p).1 hp
    refine⟨(i6 p h1).1,?_⟩
    have h9:tm1.get p.2=(showF us pq.2 tm').get p.2:=k2 p.2 (hdst p (i6 p h1).1)
    rw[h9,showF_get us p.2 pq.2 tm' fun p' hp' e5=>h2' p' hp' (huniq p (i6 p h1).1 p' (X.need pq hpm p' hp').1 e5)]
    exact(i6 p h1).2
   ·rw[hset]
    split
    ·rfl
    ·by_cases h1:p∈pnd
     ·have:∃p'∈pq.2,p'.1=p.1:=by
       by_cases hh:∃p'∈pq.2,p'.1=p.1
       ·exact hh
       ·exact absurd ((hrm p).2 ⟨h1,fun p' hp' e5=>hh ⟨p',hp',e5⟩⟩) e
      obtain⟨p',hp',e5⟩:=this
      rw[← e5]
      exact hbefore _ (X.need pq hpm p' hp').2
     ·exact i7 p hp h1
   ·have h1:tm1.get t=(showF us pq.2 tm').get t:=k2 t (ht _ (List.getElem_mem hin))
    rw[h1,showF_get us t pq.2 tm' fun p' hp' e5=>by
     obtain⟨o,ho,hd⟩:=hpd p' (X.need pq hpm p' hp').1
     exact ht o ho (by rw[hd,e5])]
    exact i8.1 t ht
   ·by_cases e5:p.1=pq.1
    ·have hg:=pinP_in k1.1 hp e5
     exact s1.tm p.2 _ hg
    ·have hne:l[pq.1].dst≠some p.2:=by
      obtain⟨o',o1',o2',o3'⟩:=(X.pin p hp).2
      exact o3' pq.1 _ hoi (fun e6=>e5 e6.symm)
     rw[put_getDq hne]
     rw[hset,if_neg e5]at e
     exact(i8.2 p hp e).mono p1.le
end
end Go.Ev
