/- Texts T74 T76 T77 T30 T78. -/
import Derived.Test.YtkdnmldmffkkoaaGreatDoorP18
import Derived.Test.YtkdnmldmffkkoaaGreatDoorP26
import Derived.Test.YtkdnmldmffkkoaaGreatDoorP29
import Derived.Test.YtkdnmldmffkkoaaGreatDoorP30
set_option linter.unusedSimpArgs false
set_option linter.unusedVariables false
set_option maxRecDepth 100000
namespace Go.Ev
open Go.Proofs Go.RowKit
noncomputable section
attribute [-go_sem] zaf zac zay zbj
theorem zRf:cx.ft.get 106=some Tryz.f106:=za9 (by decide) (by kernel_rfl)
def Tk.c4 (t:Tk):List AV:=[.int .i64 t.kind,.bs t.text,.int .i64 t.num,.int .i64 t.pos]
def zgq (l:List Tk):List AV:=l.map fun t=>.agg t.c4
structure LS where
 ts:List Tk
 e:Int
 at_:Int
def zdt (s:LS)(t:Tk):LS×Bool:=if t.code≠0 then (⟨[],t.code,t.pos⟩,false) else if s.ts.length=5000 then (⟨[],2,t.pos⟩,false) else (⟨s.ts++[t],0,0⟩,true)
def zgr (src:ByteArray):LS:=if 20000<src.size then ⟨[],2,-1⟩ else (zdf zdt src (src.size+1) ⟨[],0,0⟩ 0).1
theorem zGi (l:List Tk):(l.flatMap Tk.c4).length=l.length * 4:=by
 induction l with
 |nil=>rfl
 |cons x l ih=>simp[ih,Tk.c4];omega
def KdT (lo:Nat)(h:Tr ABlk) (nx:Nat)(v:AV)(ts:List Tk):Prop:=(ts=[]∧v=.sl0)∨(ts≠[]∧∃q,lo≤q∧q<nx∧v=.sl q 0 ts.length 0 true∧h.get q=some (bx 130 (ts.flatMap Tk.c4) true 4))
def JL (nx:Nat)(rec:ABlk)(s:LS)(O:Nat→Prop)(h:Tr ABlk) (n:Nat):Prop:=
 (nx+6≤n∧s.e=0∧s.at_=0∧s.ts.length≤5000)∧h.get nx=some (bx 105 [.sl0] false 0)∧h.get (nx+1)=some (bx 44 [.int .i64 s.e] false 0)∧h.get (nx+2)=some (bx 3 [.int .i64 s.at_] false 0)∧h.get (nx+4)=some .dfr∧h.get (nx+5)=some rec∧
 ∃v,h.get (nx+3)=some (bx 105 [v] false 0)∧KdT (nx+6) h n v s.ts∧(∀k,O k↔(nx≤k∧k≤nx+5)∨(∃l cp o,v=.sl k 0 l cp o))
theorem JL.ext {nx:Nat}{rec:ABlk}{s:LS}{O:Nat→Prop}{h h':Tr ABlk}{n n':Nat}(j:JL nx rec s O h n)(hk:∀k,O k→h'.get k=h.get k)(hn:n≤n'):JL nx rec s O h' n':=by
 obtain⟨j0,j1,j2,j3,j4,j5,v,j6,j7,j8⟩:=j
 have hO:∀k,nx≤k∧k≤nx+5→O k:=fun k q=>(j8 k).2 (.inl q)
 obtain⟨j0,e0,a0⟩:=j0
 refine⟨⟨by omega,e0,a0⟩,?_,?_,?_,?_,?_,v,?_,?_,j8⟩
 all_goals first |(rw[hk _ (hO _ (by omega))];assumption) |skip
 rcases j7 with j7 |⟨a,q,b,c,d,e⟩
 ·exact .inl j7
 ·exact .inr ⟨a,q,b,by omega,d,by rw[hk q ((j8 q).2 (.inr ⟨_,_,_,d⟩))];exact e⟩
theorem JL.lt {nx:Nat}{rec:ABlk}{s:LS}{O:Nat→Prop}{h:Tr ABlk}{n:Nat}(j:JL nx rec s O h n):∀k,O k→k<n:=by
 obtain⟨j0,j1,j2,j3,j4,j5,v,j6,j7,j8⟩:=j
 intro k hk
 rcases (j8 k).1 hk with q |⟨l,cp,o,q⟩
 ·omega
 ·rcases j7 with⟨_,e⟩ |⟨_,q2,_,c,d,_⟩
  ·rw[e]at q;cases q
  ·rw[d]at q;cases q;exact c
theorem zzw:∀l:List Tk,zah (l.flatMap Tk.c4)=true
 |[]=>rfl
 |x::l=>by
  have h1:=zzw l
  simp[Tk.c4,zah,plain,h1]
theorem zC8:∀l:List Tk,zfr 4 (zgq l) (l.flatMap Tk.c4)
 |[]=>rfl
 |x::l=>⟨x.c4,l.flatMap Tk.c4,by simp,rfl,by cases x;rfl,.inl rfl,zC8 l⟩
theorem zI6 (l:List Tk):(zgq l).length=l.length:=by simp[zgq]
theorem fzT {g:Tr ABlk}{nx b:Nat}{s:List Tk}{cp esz:Nat}{op opn:Bool}(hb:nx≤b)(hg:g.get b=some (bx 130 (s.flatMap Tk.c4) opn esz)):Fz g nx (.sl b 0 s.length cp op) (.fz 4 false (zgq s)):=
 .slz b 0 _ cp op 130 _ _ opn esz 4 (s.flatMap Tk.c4) (s.flatMap Tk.c4) (zgq s) hb hg (by simp) (fun j hj=>by rw[Nat.zero_add,zbt]) (FzL.same _ (zzw s)) (zC8 s) (zI6 s)
def JLE (nx:Nat)(rec:ABlk)(s:LS)(O:Nat→Prop)(h:Tr ABlk) (n:Nat):Prop:=
 s.ts=[]∧h.get nx=some (bx 105 [.sl0] false 0)∧h.get (nx+1)=some (bx 44 [.int .i64 s.e] false 0)∧h.get (nx+2)=some (bx 3 [.int .i64 s.at_] false 0)∧h.get (nx+4)=some .dfr∧h.get (nx+5)=some rec
set_option maxHeartbeats 4000000 in
theorem zL2 (src:ByteArray):Ret Tryz.prog cx 106 [.bs src] (.tup [.fz 4 false (zgq (zgr src).ts),.int .i64 (zgr src).e,.int .i64 (zgr src).at_]):=by
 refine Ret.mkW fun h nx R hR=>zaa (sz:=35) (rs:=[.cell 2 105,.cell 3 44,.cell 4 3]) za4 zRf rfl rfl rfl (by simp) ?_
 obtain⟨r,hr⟩:∃r,r=zgr src:=⟨_,rfl⟩
 rw[← hr]at hR
 unfold zgr at hr
 have hNo:∀(g:Tr ABlk) (ny:Nat) (e a:Int),Ext nx h g→r=⟨[],e,a⟩→R (.tup [.sl0,.int .i64 e,.int .i64 a]) g ny:=fun g ny e a hE hr=>by
  rw[hr]at hR
  exact hR _ _ _ (.tup [.sl0,.int .i64 e,.int .i64 a]) hE (.tup _ _ (.cons _ _ _ _ .sl0 (.cons _ _ _ _ (.int _ _) (.cons _ _ _ _ (.int _ _) .nil)))) (.tup _ _ (.cons _ _ _ _ (.sl0 4 false) (.cons _ _ _ _ (.same _) (.cons _ _ _ _ (.same _) .nil))))
 have z1:¬nx=nx+1:=by omega
 have z2:¬nx=nx+1+1:=by omega
 have z4:¬nx+1=nx+1+1:=by omega
 have y1:¬nx+1+1=nx:=by omega
 have y2:¬nx+1+1+1=nx:=by omega
 have y3:¬nx+1+1+1=nx+1:=by omega
 by_cases h1:20000<src.size
 ·have h1I:(20000:Int)<(src.size:Int):=by omega
  rw[if_pos h1]at hr
  simp-implicitDefEqProofs[go_sem,h1,h1I,z1,z2,z4,y1,za3]
  refine hNo _ _ _ _ ?_ hr
  simp(disch:=omega)only[za6]
  exact Ext.refl _ _
 have h1I:¬(20000:Int)<(src.size:Int):=by omega
 rw[if_neg h1]at hr
 simp-implicitDefEqProofs[go_sem,h1,h1I,z1,z2,z4,y1,za3]
 refine Ret.use (zI2 src) ?_
 simp-implicitDefEqProofs[go_sem,za0]
 obtain⟨fn,_⟩:∃fn:FuncId,fn=fn:=⟨0,rfl⟩
 refine zqj za4 zzc (first:=[]) (cap:=[.ip [.bs src],.ip [znq src]]) (fn0:=fn) (by simp[go_sem]) ?_
 generalize hrec:ABlk.loop LoopState.ready none fn 35 _ _ _ _ _=rec
 obtain⟨recD,hrecD⟩:∃recD,recD=(match rec with |.loop _ _ fn sz tm ps x y db=>ABlk.loop .done (some .ret) fn sz tm ps x y db |b=>b):=⟨_,rfl⟩
 refine(zOm (S:=LS) (step:=zdt) (y:=nx+5) (J:=JL nx rec) (JE:=JLE nx recD) ?_ src (by omega) ⟨[],0,0⟩ (fun k=>nx≤k∧k≤nx+5) _ _ ?_).mono ?_
 ·refine⟨fun s O h n h' n' j hk hn=>j.ext hk hn,fun s O h n j=>j.lt,?_⟩
  intro s O t h1 n1 _ hj
  obtain⟨K,hK⟩:∃K:AV→Tr ABlk→Nat→Prop,K=fun v g ny=>v=.bool (zdt s t).2∧∃O',zbp O h1 n1 O' g ny∧(if (zdt s t).2 then JL nx rec (zdt s t).1 O' g ny else JLE nx recD (zdt s t).1 O' g ny):=⟨_,rfl⟩
  rw[← hK]
  have hlt:=hj.lt
  obtain⟨⟨j0,je,ja,jl⟩,j1,j2,j3,j4,j5,kv,j6,j7,j8⟩:=hj
  have hL:=j5
  rw[← hrec]at hL
  refine zow hL rfl (by simp) (zag za4 _ ?_)
  have nl:¬nx+5=n1:=by omega
  have nl2:¬n1=nx+5:=by omega
  have nl3:¬nx+1=nx+5:=by omega
  have nl4:¬nx+2=nx+5:=by omega
  have nl5:¬nx+3=nx+5:=by omega
  have nl6:¬nx=nx+5:=by omega
  have nl7:¬nx=n1:=by omega
  have nl8:¬nx+1=n1:=by omega
  have nl9:¬nx+2=n1:=by omega
  have nl10:¬nx+3=n1:=by omega
  have y4:¬nx+1+1=n1:=by omega
  have y5:¬nx+1+1=nx+5:=by omega
  have y6:¬n1=nx:=by omega
  have y7:¬n1=nx+1:=by omega
  have y8:¬n1=nx+1+1:=by omega
  have y9:¬nx+1+1+1=n1:=by omega
  have y10:¬nx+1+1+1=nx+5:=by omega
  have j3':h1.get (nx+1+1)=some (bx 3 [.int .i64 s.at_] false 0):=j3
  have j6':h1.get (nx+1+1+1)=some (bx 105 [kv] false 0):=j6
  have hrD:∀st pend fn sz tm ps x y db,ABlk.loop st pend fn sz tm ps x y db=rec→ABlk.loop .done (some .ret) fn sz tm ps x y db=recD:=by
   intro st pend fn sz tm ps x y db e
   rw[hrecD,← e]
  have hO:∀k,nx≤k∧k≤nx+5→O k:=fun k q=>(j8 k).2 (.inl q)
  have hStop:∀(c:Int) (M:Tr ABlk),zdt s t=(⟨[],c,t.pos⟩,false)→(∀k,k<n1→k≠nx+5→M.get k=h1.get k)→K (.bool false) (((((M.put nx (some (bx 105 [.sl0] false 0))).put (nx+1) (some (bx 44 [.int .i64 c] false 0)))).put (nx+2) (some (bx 3 [.int .i64 t.pos] false 0))).put (nx+5) (some recD)) (n1+1):=by
   intro c M hst hM
   rw[hK,hst]
   refine⟨rfl,O,⟨Nat.le_succ _,fun k hk ho=>?_,fun k hk=>.inl hk⟩,?_⟩
   ·have:¬(nx≤k∧k≤nx+5):=fun q=>ho (hO k q)
    rw[Tr.get_put,if_neg (by omega),Tr.get_put,if_neg (by omega),Tr.get_put,if_neg (by omega),Tr.get_put,if_neg (by omega)]
    exact hM k hk (by omega)
   ·rw[if_neg (by simp)]
    refine⟨rfl,?_,?_,?_,?_,?_⟩
    ·simp(disch:=omega) [go_sem,NEx]
    ·simp(disch:=omega) [go_sem,NEx]
    ·simp(disch:=omega) [go_sem,NEx]
    ·rw[Tr.get_put,if_neg (by omega),Tr.get_put,if_neg (by omega),Tr.get_put,if_neg (by omega),Tr.get_put,if_neg (by omega),hM _ (by omega) (by omega)];exact j4
    ·rw[Tr.get_put,if_pos rfl]
  simp-implicitDefEqProofs[go_sem,nl,nl2,putP,Tk.cs,za3]
  refine⟨none,fn,35,_,_,_,_,nx+1+1+1+1,by simp[go_sem,nl];exact hL,zag za4 _ ?_⟩
  generalize hbz:ABlk.loop LoopState.busy none fn 35 _ _ _ _ _=rbz
  have hMg:∀(X Y:Option ABlk) (k:Nat),k<n1→k≠nx+5→(((h1.put n1 X).put n1 Y).put (nx+5) (some rbz)).get k=h1.get k:=fun X Y k k1 k2=>by
   rw[Tr.get_put,if_neg k2,Tr.get_put,if_neg (by omega),Tr.get_put,if_neg (by omega)]
  have hLA:∀(e:TypeId) (size b:Nat) (z:Option AV) (fs:List (Nat×Nat×Bool)) (g:Tr ABlk) (n:Nat),zdu (.mk (.slice e) size b z fs) kv g n=.val (.int .i64 (s.ts.length:Int)) g n:=by
   intro e' size' b' z fs g n
   rcases j7 with⟨h0,ha⟩ |⟨_,q,_,_,ha,_⟩
   ·rw[ha,znk,h0];rfl
   ·rw[ha,zo8]
  by_cases c1:t.code=0
  ·by_cases c2:s.ts.length=5000
   ·have hst:zdt s t=(⟨[],2,t.pos⟩,false):=by unfold zdt;rw[if_neg (by simpa using c1),if_pos c2]
    simp-implicitDefEqProofs[go_sem,nl,nl2,nl3,nl4,nl5,nl6,nl7,nl8,nl9,nl10,putP,Tk.cs,za3,c1,c2,hLA,j6',y9,y10]
    refine zbq mixed za4 zbe [3,4,5] [] [(2,3),(2,4)] (by kernel_rfl) ?_
    simp-implicitDefEqProofs[go_sem,nl,nl2,nl3,nl4,nl5,nl6,nl7,nl8,nl9,nl10,putP,Tk.cs,za3,c1,j1,j2,j3',y1,y4,y5,y6,y7,y8]
    refine zkh hbz (by simp(disch:=omega) [go_sem,NEx,nl]) (hrD _ _ _ _ _ _ _ _ _ hrec) ?_
    exact hStop 2 _ hst (hMg _ _)
   ·have c2I:¬(s.ts.length:Int)=5000:=by omega
    have hst:zdt s t=(⟨s.ts++[t],0,0⟩,true):=by unfold zdt;rw[if_neg (by simpa using c1),if_neg c2]
    have w1:¬n1=n1+1:=by omega
    have w2:¬nx+1+1+1=n1+1:=by omega
    have w3:¬nx+1+1+1=n1+1+1:=by omega
    have w4:¬n1+1+1=nx+5:=by omega
    have w5:¬n1+1=nx+5:=by omega
    have hGo:∀(M:Tr ABlk) (q L:Nat),L=(s.ts++[t]).length→(∀k,k<n1→k≠nx+5→k≠q→M.get k=h1.get k)→(q<n1→O q∧¬(nx≤q∧q≤nx+5))→M.get (n1+2)=some (bx 130 ((s.ts++[t]).flatMap Tk.c4) true 4)→K (.bool true) ((M.put (nx+3) (some (bx 105 [.sl (n1+2) 0 L 0 true] false 0))).put (nx+5) (some rec)) (n1+3):=by
     intro M q L hLe hM hq hMn
     subst hLe
     rw[hK,hst]
     refine⟨rfl,fun k=>(nx≤k∧k≤nx+5)∨k=n1+2,⟨by omega,fun k hk ho=>?_,fun k hk=>?_⟩,?_⟩
     ·have:¬(nx≤k∧k≤nx+5):=fun q=>ho (hO k q)
      rw[Tr.get_put,if_neg (by omega),Tr.get_put,if_neg (by omega)]
      exact hM k hk (by omega) (fun e=>by subst e;exact ho (hq hk).1)
     ·rcases hk with hk |hk
      ·exact .inl (hO k hk)
      ·exact .inr (by omega)
     ·rw[if_pos rfl]
      have hqn:∀k,nx≤k∧k≤nx+5→k≠q:=fun k hk e=>by
       subst e
       exact(hq (by omega)).2 hk
      refine⟨⟨by omega,rfl,rfl,by simp;omega⟩,?_,?_,?_,?_,?_,_,?_,.inr ⟨by simp,n1+2,by omega,by omega,rfl,?_⟩,fun k=>⟨fun hk=>?_,fun hk=>?_⟩⟩
      ·rw[Tr.get_put,if_neg (by omega),Tr.get_put,if_neg (by omega),hM _ (by omega) (by omega) (hqn _ (by omega))];exact j1
      ·rw[Tr.get_put,if_neg (by omega),Tr.get_put,if_neg (by omega),hM _ (by omega) (by omega) (hqn _ (by omega)),j2,je]
      ·rw[Tr.get_put,if_neg (by omega),Tr.get_put,if_neg (by omega),hM _ (by omega) (by omega) (hqn _ (by omega)),j3,ja]
      ·rw[Tr.get_put,if_neg (by omega),Tr.get_put,if_neg (by omega),hM _ (by omega) (by omega) (hqn _ (by omega))];exact j4
      ·rw[Tr.get_put,if_pos rfl]
      ·rw[Tr.get_put,if_neg (by omega),Tr.get_put,if_pos rfl]
      ·rw[Tr.get_put,if_neg (by omega),Tr.get_put,if_neg (by omega)];exact hMn
      ·rcases hk with hk |hk
       ·exact .inl hk
       ·exact .inr ⟨_,_,_,by rw[hk]⟩
      ·rcases hk with hk |⟨l,cp,o,hk⟩
       ·exact .inl hk
       ·right;cases hk;rfl
    rcases j7 with⟨h0,rfl⟩ |⟨h0,q,q1,q2,rfl,q3⟩
    ·simp-implicitDefEqProofs[go_sem,nl,nl2,nl3,nl4,nl5,nl6,nl7,nl8,nl9,nl10,putP,Tk.cs,za3,c1,c2,c2I,hLA,j6',y9,y10,w1,w2,w3,w4,w5,h0]
     refine zie hbz (by simp(disch:=omega) [go_sem,NEx]) hrec ?_
     exact hGo _ n1 1 (by rw[h0];rfl) (fun k k1 k2 _=>by
      rw[Tr.get_put,if_neg (by omega),Tr.get_put,if_neg (by omega)];exact hMg _ _ k k1 k2) (fun hh=>by omega) (by rw[h0];simp[go_sem,Tk.c4])
    ·have x1:¬q=n1+1:=by omega
     have x2:¬q=nx+5:=by omega
     have x3:¬q=n1:=by omega
     have x4:=(zGi s.ts).symm
     have x5:s.ts.length+1≤16777216:=by omega
     have x6:¬nx+1+1+1=q:=by omega
     simp-implicitDefEqProofs[go_sem,nl,nl2,nl3,nl4,nl5,nl6,nl7,nl8,nl9,nl10,putP,Tk.cs,za3,c1,c2,c2I,hLA,j6',y9,y10,w1,w2,w3,w4,w5,x1,x2,x3,x4,x5,x6,q3]
     refine zie hbz (by simp(disch:=omega) [go_sem,NEx,show ¬nx+5=q by omega]) hrec ?_
     exact hGo _ q _ (by simp) (fun k k1 k2 k3=>by
      rw[Tr.get_put,if_neg (by omega),Tr.get_put,if_neg k3,Tr.get_put,if_neg (by omega)];exact hMg _ _ k k1 k2) (fun hh=>⟨(j8 q).2 (.inr ⟨_,_,_,rfl⟩),by omega⟩) (by rw[List.flatMap_append];simp[go_sem,Tk.c4])
  ·have hst:zdt s t=(⟨[],t.code,t.pos⟩,false):=by unfold zdt;rw[if_pos c1]
   simp-implicitDefEqProofs[go_sem,nl,nl2,nl3,nl4,nl5,nl6,nl7,nl8,nl9,nl10,putP,Tk.cs,za3,c1]
   refine zbq mixed za4 zbe [5,6,7] [] [(1,5),(4,5),(4,6)] (by kernel_rfl) ?_
   simp-implicitDefEqProofs[go_sem,nl,nl2,nl3,nl4,nl5,nl6,nl7,nl8,nl9,nl10,putP,Tk.cs,za3,c1,j1,j2,j3',y1,y4,y5,y6,y7,y8]
   refine zkh hbz (by simp(disch:=omega) [go_sem,NEx,nl]) (hrD _ _ _ _ _ _ _ _ _ hrec) ?_
   exact hStop t.code _ hst (hMg _ _)
 ·refine⟨⟨by omega,rfl,rfl,by simp⟩,?_,?_,?_,?_,?_,.sl0,?_,.inl ⟨rfl,rfl⟩,fun k=>⟨.inl,fun q=>by
   rcases q with q |⟨_,_,_,q⟩
   ·exact q
   ·cases q⟩⟩
  all_goals (simp(disch:=omega) [go_sem,NEx])
 ·rintro v g ny ⟨O',hK,hq⟩
  have v01:¬nx=nx+1:=by omega
  have v02:¬nx=nx+1+1:=by omega
  have v03:¬nx=nx+1+1+1:=by omega
  have v04:¬nx=nx+1+1+1+1:=by omega
  have v05:¬nx=nx+1+1+1+1+1:=by omega
  have v12:¬nx+1=nx+1+1:=by omega
  have v13:¬nx+1=nx+1+1+1:=by omega
  have v14:¬nx+1=nx+1+1+1+1:=by omega
  have v15:¬nx+1=nx+1+1+1+1+1:=by omega
  have v20:¬nx+1+1=nx:=by omega
  have v21:¬nx+1+1=nx+1:=by omega
  have v23:¬nx+1+1=nx+1+1+1:=by omega
  have v24:¬nx+1+1=nx+1+1+1+1:=by omega
  have v25:¬nx+1+1=nx+1+1+1+1+1:=by omega
  have v30:¬nx+1+1+1=nx:=by omega
  have v31:¬nx+1+1+1=nx+1:=by omega
  have v32:¬nx+1+1+1=nx+1+1:=by omega
  have v34:¬nx+1+1+1=nx+1+1+1+1:=by omega
  have v35:¬nx+1+1+1=nx+1+1+1+1+1:=by omega
  have v40:¬nx+1+1+1+1=nx:=by omega
  have v41:¬nx+1+1+1+1=nx+1:=by omega
  have v42:¬nx+1+1+1+1=nx+1+1:=by omega
  have v43:¬nx+1+1+1+1=nx+1+1+1:=by omega
  have v45:¬nx+1+1+1+1=nx+1+1+1+1+1:=by omega
  have v50:¬nx+1+1+1+1+1=nx:=by omega
  have v51:¬nx+1+1+1+1+1=nx+1:=by omega
  have v52:¬nx+1+1+1+1+1=nx+1+1:=by omega
  have v53:¬nx+1+1+1+1+1=nx+1+1+1:=by omega
  have v54:¬nx+1+1+1+1+1=nx+1+1+1+1:=by omega
  have E1:Ext nx h g:=by
   intro k hk
   have:=hK.2.1 k (by omega) (by omega)
   rw[this]
   simp(disch:=omega) [go_sem,NEx,show ¬k=nx by omega,show ¬k=nx+1 by omega,show ¬k=nx+2 by omega,show ¬k=nx+3 by omega,show ¬k=nx+4 by omega,show ¬k=nx+5 by omega]
  by_cases hs:(zdf zdt src (src.size+1) ⟨[],0,0⟩ 0).2=true
  ·rw[if_pos hs]at hq
   rw[← hr]at hq
   obtain⟨⟨j0,je,ja,jl⟩,j1,j2,j3,j4,j5,kv,j6,j7,j8⟩:=hq
   refine zu5 hrec j5 ?_
   have j3':g.get (nx+1+1)=some (bx 3 [.int .i64 r.at_] false 0):=j3
   have j6':g.get (nx+1+1+1)=some (bx 105 [kv] false 0):=j6
   have j4':g.get (nx+1+1+1+1)=some .dfr:=j4
   rw[je,ja]at hR
   rcases j7 with⟨h0,rfl⟩ |⟨h0,q,q1,q2,rfl,q3⟩
   ·simp-implicitDefEqProofs[go_sem,j1,j2,j3',j4',j6',v01,v02,v03,v04,v05,v12,v13,v14,v15,v20,v21,v23,v24,v25,v30,v31,v32,v34,v35,v40,v41,v42,v43,v45,v50,v51,v52,v53,v54]
    refine hNo _ _ _ _ ?_ ?_
    ·simp(disch:=omega)only[za6]
     exact E1
    ·obtain⟨a1,a2,a3⟩:=r
     simp only at h0 je ja
     rw[h0,je,ja]
   ·simp-implicitDefEqProofs[go_sem,j1,j2,j3',j4',j6',v01,v02,v03,v04,v05,v12,v13,v14,v15,v20,v21,v23,v24,v25,v30,v31,v32,v34,v35,v40,v41,v42,v43,v45,v50,v51,v52,v53,v54]
    refine hR _ _ _ _ ?_ (.tup _ _ (.cons _ _ _ _ (fzT (opn:=true) (esz:=4) (by omega) ?_) (.cons _ _ _ _ (.int _ _) (.cons _ _ _ _ (.int _ _) .nil)))) (.same _)
    ·simp(disch:=omega)only[za6]
     exact E1
    ·simp-implicitDefEqProofs (disch:=omega) [go_sem,NEx]
     refine⟨by omega,?_⟩
     repeat rw[if_neg (by omega)]
     exact q3
  ·rw[if_neg hs]at hq
   rw[← hr]at hq
   obtain⟨j0,j1,j2,j3,j4,j5⟩:=hq
   refine zxv (by rw[hrecD,← hrec]) j5 ?_
   have j3':g.get (nx+1+1)=some (bx 3 [.int .i64 r.at_] false 0):=j3
   have j4':g.get (nx+1+1+1+1)=some .dfr:=j4
   simp-implicitDefEqProofs[go_sem,j1,j2,j3',j4',v01,v02,v03,v04,v05,v12,v13,v14,v15,v20,v21,v23,v24,v25,v30,v31,v32,v34,v35,v40,v41,v42,v43,v45,v50,v51,v52,v53,v54]
   refine hNo _ _ _ _ ?_ ?_
   ·simp(disch:=omega)only[za6]
    exact E1
   ·obtain⟨a1,a2,a3⟩:=r
    simp only at j0
    rw[j0]
theorem zUz:cx.ft.get 193=some Tryz.f193:=za9 (by decide) (by kernel_rfl)
def zh7 (s:ByteArray):Bool:=decide ((zgr s).e=0) && (match (zgr s).ts with |[t]=>decide (t.kind=1) && decide (t.text=s) |_=>false)
set_option maxHeartbeats 4000000 in
theorem zux (s:ByteArray):Ret Tryz.prog cx 193 [.bs s] (.bool (zh7 s)):=by
 refine Ret.mk fun h nx R hR=>zaa (sz:=34) (rs:=[.tmp 2]) za4 zUz rfl rfl rfl (by simp) ?_
 have hl:=zL2 s
 have hf:∀b g ny,Ext nx h g→b=zh7 s→R (.bool b) g ny:=fun b g ny he hb=>hR _ _ _ he (Fz.eq rfl (by rw[hb]))
 unfold zh7 at hf
 clear hR
 generalize zgr s=r at hl hf
 obtain⟨ts,e,a⟩:=r
 simp only at hl hf
 simp-implicitDefEqProofs[go_sem]
 refine Ret.use hl ?_
 by_cases he:e=0
 ·subst he
  rcases ts with _ |⟨t,_ |⟨t2,l⟩⟩
  ·simp-implicitDefEqProofs[go_sem,za0,zgq]
   exact hf _ _ _ (Ext.refl _ _) (by simp)
  ·by_cases h1:t.kind=1
   ·by_cases h2:t.text=s
    ·simp-implicitDefEqProofs[go_sem,za0,zgq,Tk.c4,h1,h2]
     exact hf _ _ _ (Ext.refl _ _) (by simp[h1,h2])
    ·simp-implicitDefEqProofs[go_sem,za0,zgq,Tk.c4,h1,h2]
     exact hf _ _ _ (Ext.refl _ _) (by simp[h1,h2])
   ·simp-implicitDefEqProofs[go_sem,za0,zgq,Tk.c4,h1]
    exact hf _ _ _ (Ext.refl _ _) (by simp[h1])
  ·have hl2:¬(l.length:Int)+1+1=1:=by omega
   simp-implicitDefEqProofs[go_sem,za0,zgq,hl2]
   refine hf _ _ _ (Ext.refl _ _) ?_
   simp
 ·simp-implicitDefEqProofs[go_sem,za0,he]
  exact hf _ _ _ (Ext.refl _ _) (by simp[he])
theorem zrr {S:Type}{step:S→Tk→S×Bool}(P:S→Prop){src:ByteArray}(hp:∀s i,P s→(step s (zbo src i).1).2=true→P (step s (zbo src i).1).1):∀(f:Nat)(s:S) (i:Nat),P s→(zdf step src f s i).2=true→P (zdf step src f s i).1
 |0,s,i,h,_=>h
 |f+1,s,i,h,hv=>by
  rw[zdf]at hv ⊢
  by_cases h1:src.size≤i
  ·rw[if_pos h1]at hv ⊢;exact h
  ·rw[if_neg h1]at hv ⊢
   by_cases h2:cl src i=1
   ·rw[if_pos h2]at hv ⊢;exact zrr P hp f s _ h hv
   ·rw[if_neg h2]at hv ⊢
    by_cases h3:cl src i=2
    ·rw[if_pos h3]at hv ⊢;exact zrr P hp f s _ h hv
    ·rw[if_neg h3]at hv ⊢
     by_cases h4:(step s (zbo src i).1).2=false
     ·rw[if_pos h4]at hv;cases hv
     ·rw[if_neg h4]at hv ⊢
      have h5:(step s (zbo src i).1).2=true:=by simpa using h4
      by_cases h6:(zbo src i).1.code≠0
      ·rw[if_pos h6]at hv ⊢;exact hp _ _ h h5
      ·rw[if_neg h6]at hv ⊢;exact zrr P hp f _ _ (hp _ _ h h5) hv
theorem zMa (src:ByteArray) (i:Nat)(h1:(zbo src i).1.kind=1)(h0:(zbo src i).1.code=0):(zbo src i).1.text.size≤24:=by
 unfold zbo at h1 h0 ⊢
 by_cases c3:cl src i=3
 ·rw[if_pos c3]at h1 h0 ⊢
  simp only at h0 ⊢
  by_cases c:24<zbw zgx src src.size i-i
  ·rw[if_pos c]at h0;cases h0
  ·rw[ByteArray.size_extract];omega
 ·rw[if_neg c3]at h1
  by_cases c4:cl src i=4
  ·rw[if_pos c4]at h1
   simp only at h1
   split at h1 <;> cases h1
  ·rw[if_neg c4]at h1
   by_cases c6:cl src i=6∨cl src i=7∨cl src i=8
   ·rw[if_pos c6]at h1
    split at h1 <;> cases h1
   ·rw[if_neg c6]at h1;cases h1
theorem zsm {s:ByteArray}(h:zh7 s=true):s.size≤24:=by
 have hv:∀t∈(zgr s).ts,t.kind=1→t.text.size≤24:=by
  unfold zgr
  by_cases hz:20000<s.size
  ·rw[if_pos hz];intro t ht;cases ht
  ·rw[if_neg hz]
   by_cases hf:(zdf zdt s (s.size+1) ⟨[],0,0⟩ 0).2=true
   ·refine zrr (fun S:LS=>∀t∈S.ts,t.kind=1→t.text.size≤24) (fun S i hS hst=>?_) _ _ _ (by intro t ht;cases ht) hf
    unfold zdt at hst ⊢
    by_cases c:(zbo s i).1.code≠0
    ·rw[if_pos c]at hst;cases hst
    ·rw[if_neg c]at hst ⊢
     by_cases c2:S.ts.length=5000
     ·rw[if_pos c2]at hst;cases hst
     ·rw[if_neg c2]
      intro t ht hk
      rcases List.mem_append.1 ht with q |q
      ·exact hS t q hk
      ·simp at q
       subst q
       exact zMa s i hk (by simpa using c)
   ·have key:∀(f:Nat) (S:LS) (i:Nat),(zdf zdt s f S i).2=false→(zdf zdt s f S i).1.ts=[]:=by
     intro f
     induction f with
     |zero=>intro S i hq;cases hq
     |succ f ih=>
      intro S i hq
      rw[zdf]at hq ⊢
      by_cases g1:s.size≤i
      ·rw[if_pos g1]at hq;cases hq
      ·rw[if_neg g1]at hq ⊢
       by_cases g2:cl s i=1
       ·rw[if_pos g2]at hq ⊢;exact ih _ _ hq
       ·rw[if_neg g2]at hq ⊢
        by_cases g3:cl s i=2
        ·rw[if_pos g3]at hq ⊢;exact ih _ _ hq
        ·rw[if_neg g3]at hq ⊢
         by_cases g4:(zdt S (zbo s i).1).2=false
         ·rw[if_pos g4]
          simp only
          unfold zdt at g4 ⊢
          by_cases c:(zbo s i).1.code≠0
          ·rw[if_pos c]
          ·rw[if_neg c]at g4 ⊢
           by_cases c2:S.ts.length=5000
           ·rw[if_pos c2]
           ·rw[if_neg c2]at g4;cases g4
         ·rw[if_neg g4]at hq ⊢
          by_cases g5:(zbo s i).1.code≠0
          ·rw[if_pos g5]at hq;cases hq
          ·rw[if_neg g5]at hq ⊢;exact ih _ _ hq
    rw[key _ _ _ (by simpa using hf)]
    intro t ht;cases ht
 unfold zh7 at h
 generalize zgr s=r at h hv
 obtain⟨ts,e,a⟩:=r
 simp only at h hv
 rcases ts with _ |⟨t,_ |⟨t2,l⟩⟩
 ·simp at h
 ·simp at h
  have:=hv t (by simp) h.2.1
  rw[h.2.2]at this
  exact this
 ·simp at h
theorem zEh {S:GS}(h:GI S){root:Int}(hr:0≤root∧root<(S.L.length:Int))(hl:S.L.length≤1000000):(∀n∈zdh S.L root,NdI n∧∃m∈S.L,n.cuts=m.cuts)∧zdh S.L root≠[]∧(zdh S.L root).length≤S.L.length:=by
 obtain⟨ho,_⟩:=zkr h.wk (S.L.length+1) [] root ⟨List.nodup_nil,by simp⟩ hr
 have hol:(zc8 S.L root).length≤S.L.length:=ho.len
 refine⟨fun n hn=>?_,fun e=>zxu h.wk hr (by simpa[zdh]using e),by simpa[zdh]using hol⟩
 obtain⟨i,hi,rfl⟩:=List.mem_map.1 hn
 have hi2:=ho.2 i hi
 have hil:i.toNat<S.L.length:=by omega
 have hm:S.L.getD i.toNat ⟨0,[],[],false⟩∈S.L:=by
  rw[List.getD_eq_getElem?_getD,List.getElem?_eq_getElem hil]
  exact List.getElem_mem hil
 obtain⟨n1,n2,n3,n4,n5⟩:=h.ni _ hm
 refine⟨⟨n1,n2,fun x hx=>?_,n4,by simpa[zed]using n5⟩,_,hm,rfl⟩
 obtain⟨y,_,rfl⟩:=List.mem_map.1 hx
 unfold zcq
 split
 ·have:=List.findIdx_le_length (p:=fun z=>decide (z=y)) (xs:=zc8 S.L root)
  unfold zs9
  exact⟨by omega,by omega⟩
 ·exact⟨by omega,by omega⟩
theorem zMc {n:Nd}(h:NdI n):NdI (zcc n):=by
 unfold zcc
 split
 ·exact h
 ·exact h
theorem zNf (n:Nd):(zcc n).cuts=n.cuts:=by
 unfold zcc
 split <;> rfl
theorem zvo:∀(st ys:List Int) (x:Int)(c k:List Int),(zax x c k st ys).2.1.length≤c.length+st.length
 |[],ys,x,c,k=>by simp[zax]
 |s::st,[],x,c,k=>by simp[zax]
 |s::st,y::ys,x,c,k=>by
  by_cases e:y=x
  ·rw[zv6 e]
   have:=zvo st ys x c k
   simp
   omega
  ·rw[zwq e]
   have:=zvo st ys y (c++[s]) (k++[y])
   simp at this ⊢
   omega
def zey (B:Nat)(L:List Nd):Prop:=∀n∈L,n.cuts.length≤B
theorem zey.node {B:Nat}{S:GS}{n:Nd}(h:zey B S.L)(hn:n.cuts.length≤B):zey B (zbn n S).2.L:=by
 intro m hm
 simp only[zbn,zeh]at hm
 split at hm
 ·exact h m hm
 ·rcases List.mem_append.1 hm with q |q
  ·exact h m q
  ·simp at q
   rw[q];exact hn
theorem zey.inner {B:Nat}{S:GS}{i:Nat}{st ks:List Int}(h:zey B S.L)(hs:st.length≤B):zey B (zdg i st ks S).2.L:=by
 unfold zdg
 simp only
 split
 ·exact h
 ·refine h.node ?_
  have:=zvo st ks (zd2 ks) [] [zd2 ks]
  simp at this ⊢
  omega
theorem zBh {B:Nat}{g:Int→GS→Int×GS}(hg:∀v S,zey B S.L→zey B (g v S).2.L):∀(l:List Int)(S:GS),zey B S.L→zey B (zc1 g l S).2.L
 |[],S,h=>h
 |v::l,S,h=>zBh hg l _ (hg v S h)
theorem zC6 (d:List Fc):∀(k:Nat)(f:Fm)(S:GS),FmG f→f.size≤1000→zey 3000 S.L→zey 3000 (zb5 d k f S).2.L
 |0,f,S,_,_,h=>by
  rw[zb5]
  split
  ·exact h.node (by simp[zb9])
  ·exact zey.node (S:={ S with full:=zdy S }) h (by simp[zb9])
 |k+1,f,S,hf,hs,h=>by
  rw[zb5]
  split
  ·exact h.node (by simp[zb9])
  ·split
   ·exact zey.node (S:={ S with full:=true }) h (by simp[zb9])
   ·cases ze6 (zla (d.length-(k+1)) f) S.D with
    |some v=>exact h
    |none=>
     simp only
     refine zey.inner ?_ ?_
     ·refine zBh (fun v S hS=>?_) _ _ h
      obtain⟨g1,g2⟩:=zmq (d.getD (d.length-(k+1)) ⟨.empty,0,0,0⟩).name v hf
      exact zC6 d k _ S g1 (by omega) hS
     ·have:=zwy f (d.getD (d.length-(k+1)) ⟨.empty,0,0,0⟩)
      omega
structure DgI (g:List Nd):Prop where
 ni:∀n∈g,NdI n
 cu:∀n∈g,n.cuts.length≤40000
 ne:g≠[]
 ln:g.length≤30000
def ckN (d:List Fc)(f:Fm):Int:=zhi zh7 (fun _=>false) d f
def zbx (d:List Fc)(f:Fm):Int:=
 if zc5 d=false∨ckN d f≠0 then 1 else if 24<(zct [] f).length then 2 else if (zeg d f).2.full=true∨20000<(zc8 (zeg d f).2.L (zeg d f).1).length then 2 else 0
def zd4 (d:List Fc)(f:Fm):List Nd:=if zbx d f=0 then zdh (zeg d f).2.L (zeg d f).1 else []
theorem zFq (d:List Fc)(f:Fm):zme (ckN d f) d f=.tup [.agg [.fz 4 false (zal (zd4 d f))],.int .i64 (zbx d f)]:=by
 unfold zme zd4 zbx zhg
 split
 ·rfl
 ·split
  ·rfl
  ·split <;> rfl
theorem zFk (u:Bool)(d:List Fc)(f:Fm)(hl:d.length≤1000000000)(hs:∀f∈d,f.name.size≤1000000000)(hf:f.size≤1000000):
  Ret Tryz.prog cx 93 [.agg f.cs,.agg [.fz 4 u (za8 d)]] (.tup [.agg [.fz 4 false (zal (zd4 d f))],.int .i64 (zbx d f)]):=by
 rw[← zFq]
 exact zIe zh7 u d f hl hs hf zux (fun s h=>by have:=zsm h;omega)
theorem zq2 {d:List Fc}{f:Fm}(h:zbx d f=0):DgI (zd4 d f):=by
 have h0:=h
 unfold zbx at h
 by_cases h1:zc5 d=false∨ckN d f≠0
 ·rw[if_pos h1]at h;cases h
 ·rw[if_neg h1]at h
  by_cases h2:24<(zct [] f).length
  ·rw[if_pos h2]at h;cases h
  ·rw[if_neg h2]at h
   have hvb:zc5 d=true:=by
    cases hv:zc5 d with
    |false=>exact absurd (.inl hv) h1
    |true=>rfl
   have hc:ckN d f=0:=by
    by_cases hc:ckN d f=0
    ·exact hc
    ·exact absurd (.inr hc) h1
   obtain⟨d1,d2⟩:=zt3 hvb
   obtain⟨fG,fs⟩:=ztm (fun s h=>by have:=zsm h;omega) hc
   obtain⟨gG,gS⟩:=zmq .empty 0 fG
   have GI0:GI ⟨[],[],false⟩:=⟨by simp,by intro n hn;simp at hn,by simp,by simp,by simp⟩
   obtain⟨q1,q2,q3,q4⟩:=zp7 d (by omega) d2 d.length (zb6 .empty 0 f) ⟨[],[],false⟩ (Nat.le_refl _) gG (by omega) GI0 (by simp[inn])
   have hcut:=zC6 d d.length (zb6 .empty 0 f) ⟨[],[],false⟩ gG (by omega) (by intro n hn;cases hn)
   have hGV:zb5 d d.length (zb6 .empty 0 f) ⟨[],[],false⟩=zeg d f:=rfl
   rw[hGV]at q1 q2 q3 q4 hcut
   have hlen:=q1.len
   have hi0:inn ([]:List Nd)=0:=rfl
   rw[hi0]at q4
   obtain⟨a1,a2,a3⟩:=zEh q1 q2 (by omega)
   unfold zd4
   rw[if_pos h0]
   refine⟨fun n hn=>(a1 n hn).1,fun n hn=>?_,a2,by omega⟩
   obtain⟨m,hm,e⟩:=(a1 n hn).2
   rw[e]
   have:=hcut m hm
   omega
def zfp (a b:List Nd)(d:List Fc):Int:=
 if zbk a d=false∨zbk b d=false then 1 else if 20000<(zd5 a b d).2.L.length then 2 else if 20000<(zc8 (zd5 a b d).2.L (zd5 a b d).1).length then 2 else 0
def zgu (a b:List Nd)(d:List Fc):List Nd:=if zfp a b d=0 then zdh (zd5 a b d).2.L (zd5 a b d).1 else []
theorem zTd (a b:List Nd)(d:List Fc):zoe a b d=.tup [.agg [.fz 4 false (zal (zgu a b d))],.int .i64 (zfp a b d)]:=by
 unfold zoe zgu zfp zhg
 split
 ·rfl
 ·split
  ·rfl
  ·split <;> rfl
theorem zGk {a b:List Nd}{d:List Fc}(ha:DgI a)(hb:DgI b)(h:zfp a b d=0):(∀n∈zgu a b d,NdI n)∧(zgu a b d).length≤30000:=by
 have h0:=h
 unfold zfp at h
 by_cases h1:zbk a d=false∨zbk b d=false
 ·rw[if_pos h1]at h;cases h
 ·rw[if_neg h1]at h
  by_cases h2:20000<(zd5 a b d).2.L.length
  ·rw[if_pos h2]at h;cases h
  ·have va:zbk a d=true:=by
    cases hv:zbk a d with
    |false=>exact absurd (.inl hv) h1
    |true=>rfl
   have vb:zbk b d=true:=by
    cases hv:zbk b d with
    |false=>exact absurd (.inr hv) h1
    |true=>rfl
   have pa:=zn6 va
   have pb:=zn6 vb
   obtain⟨d1,d2⟩:=zt3 pa.1
   have da:=zpw pa ha.ni ha.cu
   have db:=zpw pb hb.ni hb.cu
   have hx0:0<a.length:=pa.2.1
   have hy0:0<b.length:=pb.2.1
   have HI0:HI ⟨[],[]⟩:=⟨⟨by simp[HS.gs],by intro n hn;simp[HS.gs]at hn,by simp[HS.gs],by simp[HS.gs],by simp[HS.gs]⟩,by simp⟩
   have hb0:=zly da db (List.getElem_mem hx0) (List.getElem_mem hy0)
   obtain⟨q1,q2,q3,q4⟩:=zq4 a b d (by omega) d2 da db (d.length+1) 0 0 ⟨[],[]⟩ hx0 hy0 (by omega) (Nat.le_refl _) HI0 (by simp[inn])
   have hGV:zcu a b d (d.length+1) 0 0 ⟨[],[]⟩=zd5 a b d:=rfl
   rw[hGV]at q1 q2 q3 q4
   obtain⟨a1,a2,a3⟩:=zEh (S:=(zd5 a b d).2.gs) q1.g q2 (by show (zd5 a b d).2.L.length≤_;omega)
   unfold zgu
   rw[if_pos h0]
   refine⟨fun n hn=>(a1 n hn).1,?_⟩
   have:(zd5 a b d).2.gs.L.length=(zd5 a b d).2.L.length:=rfl
   have a4:(zdh (zd5 a b d).2.L (zd5 a b d).1).length≤(zd5 a b d).2.L.length:=a3
   omega
theorem zMd {g:List Nd}(h:DgI g):DgI (g.map zcc):=by
 refine⟨fun n hn=>?_,fun n hn=>?_,by simpa using h.ne,by simpa using h.ln⟩
 ·obtain⟨m,hm,rfl⟩:=List.mem_map.1 hn
  exact zMc (h.ni m hm)
 ·obtain⟨m,hm,rfl⟩:=List.mem_map.1 hn
  rw[zNf]
  exact h.cu m hm
def zff (g:List Nd)(d:List Fc):List Int×Bool:=
 if zbk g d=true then match g[(ze2 g (d.length+1) 0 (ze1 d)).1]? with
  |some m=>if m.leaf=true then ((ze2 g (d.length+1) 0 (ze1 d)).2,true) else ([],false)
  |none=>([],false)
 else ([],false)
theorem zUq (u v:Bool)(g:List Nd)(d:List Fc)(hg:g.length≤1000000)(hd:d.length≤1000000)(hs:∀f∈d,f.name.size≤1000000000)(hN:∀n∈g,NdI n):
  Ret Tryz.prog cx 150 [.agg [.fz 4 u (zal g)],.agg [.fz 4 v (za8 d)]] (.tup [.fz 1 false (za5 (zff g d).1),.bool (zff g d).2]):=by
 refine Ret.mkW fun h nx R hR=>?_
 have hNo:∀(g':Tr ABlk) (ny:Nat),Ext nx h g'→zff g d=([],false)→R (.tup [.sl0,.bool false]) g' ny:=fun g' ny hE e=>by
  rw[e]at hR
  exact hR _ _ _ (.tup [.sl0,.bool false]) hE (.tup _ _ (.cons _ _ _ _ .sl0 (.cons _ _ _ _ (.bool _) .nil))) (.tup _ _ (.cons _ _ _ _ (.sl0 1 false) (.cons _ _ _ _ (.same _) .nil)))
 cases hv:zbk g d with
 |false=>
  have hVc:=zqm u v g d hg hd hs hN
  rw[hv]at hVc
  refine zaa (sz:=58) (rs:=[.tmp 4,.tmp 5]) za4 zBb rfl rfl rfl (by simp) ?_
  simp-implicitDefEqProofs[go_sem]
  refine Ret.use hVc ?_
  simp-implicitDefEqProofs[go_sem,za0]
  refine hNo _ _ ?_ (by unfold zff;rw[hv];rfl)
  simp(disch:=omega)only[za6]
  exact Ext.refl _ _
 |true=>
  refine zSo u v g d hg hd hs hN (zn6 hv) h nx R (fun c g' ny hE hn hacc hm=>?_) (fun g' ny hE hn hm=>?_)
  ·obtain⟨m,hm1,hm2⟩:=hm
   have hr:zff g d=((ze2 g (d.length+1) 0 (ze1 d)).2,true):=by
    unfold zff
    rw[if_pos hv,hm1]
    simp only[hm2,if_true]
   rw[hr]at hR
   simp only at hR
   rcases hacc with⟨e1,e2⟩ |⟨e1,b,b1,b2,e2,e3⟩
   ·cases e2
    rw[e1]at hR
    exact hR _ _ _ (.tup [.sl0,.bool true]) hE (.tup _ _ (.cons _ _ _ _ .sl0 (.cons _ _ _ _ (.bool _) .nil))) (.tup _ _ (.cons _ _ _ _ (.sl0 1 false) (.cons _ _ _ _ (.same _) .nil)))
   ·cases e2
    exact hR _ _ _ _ hE (.tup _ _ (.cons _ _ _ _ (zyu (opn:=true) (esz:=1) (r:=[]) b1 (by rw[List.append_nil];exact e3)) (.cons _ _ _ _ (.bool _) .nil))) (.same _)
  ·obtain⟨m,hm1,hm2⟩:=hm
   refine hNo _ _ hE ?_
   unfold zff
   rw[if_pos hv,hm1]
   simp only[hm2]
   rfl
end
end Go.Ev
namespace Go.Ev
open Go.Proofs
noncomputable section
attribute [-go_sem] zaf zac
theorem zP5:cx.ft.get 216=some Tryz.f216:=za9 (by decide) (by kernel_rfl)
theorem zLh:cx.ft.get 151=some Tryz.f151:=za9 (by decide) (by kernel_rfl)
theorem zHk:cx.ft.get 96=some Tryz.f96:=za9 (by decide) (by kernel_rfl)
theorem zAy (x:Int):Ret Tryz.prog cx 216 [.int .i64 x] (.bool false):=by
 refine Ret.mk fun h nx R hR=>zaa (sz:=6) (rs:=[.tmp 2]) za4 zP5 rfl rfl rfl (by simp) ?_
 simp-implicitDefEqProofs[go_sem]
 exact hR _ _ _ (Ext.refl _ _) (Fz.eq rfl rfl)
def zku (x y:Int):Int:=if x<y then -1 else if y<x then 1 else 0
theorem zGf (x y:Int):Ret Tryz.prog cx 151 [.int .i64 x,.int .i64 y] (.int .i64 (zku x y)):=by
 refine Ret.mk fun h nx R hR=>zaa (sz:=20) (rs:=[.tmp 4]) za4 zLh rfl rfl rfl (by simp) ?_
 simp-implicitDefEqProofs[go_sem]
 refine Ret.use (zAy x) ?_
 simp-implicitDefEqProofs[go_sem,za0]
 refine Ret.use (zAy y) ?_
 by_cases c1:x<y
 ·simp-implicitDefEqProofs[go_sem,za0,c1]
  exact hR _ _ _ (Ext.refl _ _) (Fz.eq rfl (by simp[zku,c1]))
 ·by_cases c2:y<x
  ·simp-implicitDefEqProofs[go_sem,za0,c1,c2]
   exact hR _ _ _ (Ext.refl _ _) (Fz.eq rfl (by simp[zku,c1,c2]))
  ·simp-implicitDefEqProofs[go_sem,za0,c1,c2]
   exact hR _ _ _ (Ext.refl _ _) (Fz.eq rfl (by simp[zku,c1,c2]))
def zhb:List Int→List Int→Int
 |[],[]=>0
 |[],_::_=>-1
 |_::_,[]=>1
 |x::l,y::m=>if zku x y=0 then zhb l m else zku x y
theorem zNv (u v:Bool)(l m:List Int)(hl:l.length≤1000000000):Ret Tryz.prog cx 96 [.fz 1 u (za5 l),.fz 1 v (za5 m)] (.int .i64 (zhb l m)):=by
 refine Ret.mk fun h nx R hR=>zaa (sz:=36) (rs:=[.tmp 4]) za4 zHk rfl rfl rfl (by simp) ?_
 simp-implicitDefEqProofs[go_sem]
 refine zap (fun mm st=>∃tm k,st=.mk tm h nx []∧mm=l.length-k∧k≤l.length∧k≤m.length∧tm.get 0=some (.fz 1 u (za5 l))∧tm.get 1=some (.fz 1 v (za5 m))∧tm.get 9=some (.fz 1 u (za5 l))∧tm.get 10=some (.int .i64 (l.length:Int))∧tm.get 11=some (.int .i64 (k:Int))∧RowKit.Hid (zhb l m=zhb (l.drop k) (m.drop k))) ⟨l.length,_,0,rfl,by simp,by simp,by simp,?_⟩ ?_
 ·simp-implicitDefEqProofs[go_sem]
  exact Lib.hid trivial
 ·rintro mm st ⟨tm,k,rfl,rfl,hk,hk2,t0,t1,t9,t10,t11,hv⟩ J hJ
  refine zag za4 _ ?_
  by_cases hlt:k<l.length
  ·by_cases hlt':k<m.length
   ·have hv2:=hv.out
    rw[List.drop_eq_getElem_cons hlt,List.drop_eq_getElem_cons hlt',zhb]at hv2
    generalize hx:l[k]=x at hv2
    generalize hy:m[k]=y at hv2
    have HV:=Lib.hid hv2
    clear hv2
    have n1:¬m.length≤k:=by omega
    simp-implicitDefEqProofs[go_sem,t0,t1,t9,t10,t11,hlt,hlt',hx,hy,n1]
    refine Ret.use (zGf x y) ?_
    by_cases hc:zku x y=0
    ·simp-implicitDefEqProofs[go_sem,za0,t0,t1,t9,t10,t11,hc]
     refine hJ (l.length-(k+1)) _ (by omega) ⟨_,k+1,rfl,rfl,by omega,by omega,?_⟩
     simp(disch:=omega) [go_sem,t0,t1,t9,t10,t11,zab]
     exact Lib.hid (by rw[HV.out,if_pos hc])
    ·simp-implicitDefEqProofs[go_sem,za0,t0,t1,t9,t10,t11,hc]
     exact hR _ _ _ (Ext.refl _ _) (Fz.eq rfl (by rw[HV.out,if_neg hc]))
   ·have n1:m.length≤k:=by omega
    have hv2:=hv.out
    rw[List.drop_eq_getElem_cons hlt,List.drop_of_length_le n1,zhb]at hv2
    simp-implicitDefEqProofs[go_sem,t0,t1,t9,t10,t11,hlt,n1]
    exact hR _ _ _ (Ext.refl _ _) (Fz.eq rfl (by rw[hv2]))
  ·by_cases hlt':k<m.length
   ·have hv2:=hv.out
    rw[List.drop_eq_getElem_cons hlt',List.drop_of_length_le (by omega),zhb]at hv2
    have n1:l.length<m.length:=by omega
    simp-implicitDefEqProofs[go_sem,t0,t1,t9,t10,t11,hlt,n1]
    exact hR _ _ _ (Ext.refl _ _) (Fz.eq rfl (by rw[hv2]))
   ·have hv2:=hv.out
    rw[List.drop_of_length_le (by omega),List.drop_of_length_le (by omega),zhb]at hv2
    have n1:¬l.length<m.length:=by omega
    simp-implicitDefEqProofs[go_sem,t0,t1,t9,t10,t11,hlt,n1]
    exact hR _ _ _ (Ext.refl _ _) (Fz.eq rfl (by rw[hv2]))
end
end Go.Ev
namespace Go.Ev
open Go.Proofs Go.RowKit
noncomputable section
attribute [-go_sem] zaf zac zay zbj
theorem zQq:cx.ft.get 95=some Tryz.f95:=za9 (by decide) (by kernel_rfl)
theorem zKt:cx.ft.get 45=some Tryz.f45:=za9 (by decide) (by kernel_rfl)
structure WR where
 c:List Int
 ok:Bool
 e:Int
def WR.v (r:WR):AV:=.tup [.fz 1 false (za5 r.c),.bool r.ok,.int .i64 r.e]
theorem zz3 (a b:Pv)(v:AV):((a.cs++(b.cs++[v])).drop 46).take 1=[v]:=by
 have h1:=a.cs_len
 have h2:=b.cs_len
 rw[← List.append_assoc,List.drop_append_of_le_length (by simp;omega),List.drop_of_length_le (by simp;omega)]
 rfl
theorem zDg (a b:Pv)(v:AV):(a.cs++(b.cs++[v])).length=47:=by simp[a.cs_len,b.cs_len]
def zee (x y:List Nd)(d:List Fc):WR:=
 if zfp x (y.map zcc) d≠0 then ⟨[],false,zfp x (y.map zcc) d⟩ else ⟨(zff (zgu x (y.map zcc) d) d).1,(zff (zgu x (y.map zcc) d) d).2,0⟩
set_option maxHeartbeats 4000000 in
theorem zzl (u u' w:Bool)(a b:Pv)(d:List Fc)(x y:List Nd)(hx:DgI x)(hy:DgI y)(hd:d.length≤1000000)(hs:∀f∈d,f.name.size≤1000000000):
  Ret Tryz.prog cx 95 [.ip (a.cs++(b.cs++[.fz 4 w (za8 d)])),.agg [.fz 4 u (zal x)],.agg [.fz 4 u' (zal y)]] (zee x y d).v:=by
 obtain⟨n0,ns,rfl⟩:∃n0 ns,y=n0::ns:=by
  cases y with
  |nil=>exact absurd rfl hy.ne
  |cons a l=>exact⟨a,l,rfl⟩
 have hnl:=hy.ln
 have hN:=zJs u' n0 ns (by simp at hnl;omega)
 have hI:=zMd hy
 have hyl:=hI.ln
 have hxl:=hx.ln
 have hA:=zIh u false w x ((n0::ns).map zcc) d (by omega) (by omega) hd hs hx.ni hI.ni (fun _=>hx.cu) (fun _=>hI.cu)
 rw[zTd]at hA
 have hAI:=fun h0=>zGk hx hI (d:=d) h0
 unfold zee
 have hP1:=zDg a b (.fz 4 w (za8 d))
 have hP2:=zz3 a b (.fz 4 w (za8 d))
 generalize a.cs++(b.cs++[.fz 4 w (za8 d)])=PV at hP1 hP2
 generalize (n0::ns).map zcc=z at *
 refine Ret.mkW fun h nx R hR=>zaa (sz:=38) (rs:=[.tmp 6,.tmp 7,.tmp 8]) za4 zQq rfl rfl rfl (by simp) ?_
 simp-implicitDefEqProofs[go_sem]
 refine zbq mixed za4 zbe [11,12] [2,7] [(0,11),(1,11),(6,11)] (by kernel_rfl) ?_
 simp-implicitDefEqProofs[go_sem]
 refine zbm hN ?_
 simp-implicitDefEqProofs[go_sem,zas,hP1,hP2]
 refine zbm hA ?_
 have E0:∀X Y Z W,Ext nx h ((((h.put nx X).put (nx+1) Y).put (nx+1+1) Z).put (nx+1+1) W):=fun X Y Z W=>by
  simp(disch:=omega)only[za6]
  exact Ext.refl _ _
 have z1:¬nx=nx+1+1:=by omega
 have z2:¬nx+1=nx+1+1:=by omega
 by_cases he:zfp x z d=0
 ·rw[if_neg (by simpa using he)]at hR
  obtain⟨i1,i2⟩:=hAI he
  have hL:=zUq false w (zgu x z d) d (by omega) hd hs i1
  simp-implicitDefEqProofs[go_sem,zas,hP1,hP2,he,z1,z2]
  refine zbq mixed za4 zbe [] [5] [] (by kernel_rfl) ?_
  simp-implicitDefEqProofs[go_sem,zas,hP1,hP2,he,z1,z2]
  refine zbm hL ?_
  simp-implicitDefEqProofs[go_sem,zas,hP1,hP2,he,z1,z2]
  exact hR _ _ _ _ (E0 _ _ _ _) (.tup _ _ (.cons _ _ _ _ (Fz.same _ (by simp[plain,zhw])) (.cons _ _ _ _ (.bool _) (.cons _ _ _ _ (.int _ _) .nil)))) (.same _)
 ·rw[if_pos he]at hR
  simp-implicitDefEqProofs[go_sem,zas,hP1,hP2,he,z1,z2]
  exact hR _ _ _ (.tup [.sl0,.bool false,.int .i64 (zfp x z d)]) (E0 _ _ _ _) (.tup _ _ (.cons _ _ _ _ .sl0 (.cons _ _ _ _ (.bool _) (.cons _ _ _ _ (.int _ _) .nil)))) (.tup _ _ (.cons _ _ _ _ (.sl0 1 false) (.cons _ _ _ _ (.same _) (.cons _ _ _ _ (.same _) .nil))))
theorem zUi (g:List Nd)(d:List Fc):(zff g d).1.length≤d.length:=by
 unfold zff
 have h1:(ze1 d).length≤d.length:=by unfold ze1;split <;> simp
 have h2:∀(f at_:Nat) (cs:List Int),(ze2 g f at_ cs).2.length=cs.length:=by
  intro f
  induction f with
  |zero=>intro at_ cs;rfl
  |succ f ih=>
   intro at_ cs
   rw[ze2]
   split
   ·rfl
   ·split
    ·rfl
    ·rw[ih];split <;> simp
 split
 ·split
  ·split
   ·rw[h2];exact h1
   ·simp
  ·simp
 ·simp
theorem zz1 (x y:List Nd)(d:List Fc):(zee x y d).c.length≤d.length:=by
 unfold zee
 split
 ·simp
 ·exact zUi _ _
mutual
theorem zx5:∀f:Fm,(zan f).size≤f.size
 |.mk o n c m kids=>by
  rw[zan]
  split
  ·simp[Fm.size,zae]
  ·have:=zCo kids
   simp only[Fm.size]
   omega
theorem zCo:∀l:List Fm,zae (zl4 l)≤zae l
 |[]=>by rw[zl4];exact Nat.le_refl _
 |f::l=>by
  have h1:=zx5 f
  have h2:=zCo l
  simp only[zl4,zae]
  omega
end
structure CA where
 f:Bool
 c:List Int
 e:Int
def CA.v (r:CA):AV:=.tup [.bool r.f,.fz 1 false (za5 r.c),.int .i64 r.e]
def zuc (x y:WR):CA:=
 if x.e≠0 then ⟨false,[],x.e⟩
 else if y.e≠0 then ⟨false,[],y.e⟩
 else ⟨x.ok || y.ok,if x.ok=false∨(y.ok=true∧zhb y.c x.c<0) then y.c else x.c,0⟩
def zfj (a b:Fm)(d:List Fc):CA:=
 if zbx d (zan a)≠0 then ⟨false,[],zbx d (zan a)⟩
 else if zbx d (zan b)≠0 then ⟨false,[],zbx d (zan b)⟩
 else zuc (zee (zd4 d (zan a)) (zd4 d (zan b)) d) (zee (zd4 d (zan b)) (zd4 d (zan a)) d)
theorem zRn (a b:Pv)(v:AV):((a.cs++(b.cs++[v])).drop 5).take 5=a.when_.cs:=by
 rcases a with⟨id,rank,kind,name,value,⟨w1,w2,w3,w4,w5⟩,ex,⟨b1,b2,b3,b4⟩,⟨e1,e2,e3,e4⟩,⟨g1,g2,g3,g4⟩⟩
 rfl
theorem zSm (a b:Pv)(v:AV):((a.cs++(b.cs++[v])).drop 28).take 5=b.when_.cs:=by
 rcases a with⟨id,rank,kind,name,value,⟨w1,w2,w3,w4,w5⟩,ex,⟨b1,b2,b3,b4⟩,⟨e1,e2,e3,e4⟩,⟨g1,g2,g3,g4⟩⟩
 rcases b with⟨id',rank',kind',name',value',⟨w1',w2',w3',w4',w5'⟩,ex',⟨b1',b2',b3',b4'⟩,⟨e1',e2',e3',e4'⟩,⟨g1',g2',g3',g4'⟩⟩
 rfl
set_option maxHeartbeats 4000000 in
theorem zPc (w:Bool)(a b:Pv)(d:List Fc)(ha:a.when_.size≤1000000)(hb:b.when_.size≤1000000)(hd:d.length≤1000000)(hs:∀f∈d,f.name.size≤1000000000):
  Ret Tryz.prog cx 45 [.ip (a.cs++(b.cs++[.fz 4 w (za8 d)]))] (zfj a.when_ b.when_ d).v:=by
 have hfa:=zFh a.when_ ha
 have hfb:=zFh b.when_ hb
 have hsa:(zan a.when_).size≤1000000:=Nat.le_trans (zx5 _) ha
 have hsb:(zan b.when_).size≤1000000:=Nat.le_trans (zx5 _) hb
 have hBa:=zFk w d (zan a.when_) (by omega) hs hsa
 have hBb:=zFk w d (zan b.when_) (by omega) hs hsb
 have hW1:=fun (q1:zbx d (zan a.when_)=0) (q2:zbx d (zan b.when_)=0)=>zzl false false w a b d _ _ (zq2 q1) (zq2 q2) hd hs
 have hW2:=fun (q1:zbx d (zan a.when_)=0) (q2:zbx d (zan b.when_)=0)=>zzl false false w a b d _ _ (zq2 q2) (zq2 q1) hd hs
 have hP1:=zDg a b (.fz 4 w (za8 d))
 have hP2:=zz3 a b (.fz 4 w (za8 d))
 have hP3:=zRn a b (.fz 4 w (za8 d))
 have hP4:=zSm a b (.fz 4 w (za8 d))
 generalize a.cs++(b.cs++[.fz 4 w (za8 d)])=PV at hP1 hP2 hP3 hP4 hW1 hW2 ⊢
 unfold zfj
 generalize zan a.when_=fa at *
 generalize zan b.when_=fb at *
 obtain⟨X,hX⟩:∃X,X=zd4 d fa:=⟨_,rfl⟩
 obtain⟨Y,hY⟩:∃Y,Y=zd4 d fb:=⟨_,rfl⟩
 rw[← hX]at hBa hW1 hW2 ⊢
 rw[← hY]at hBb hW1 hW2 ⊢
 clear hX hY
 refine Ret.mkW fun h nx R hR=>zaa (sz:=85) (rs:=[.tmp 2,.tmp 3,.tmp 4]) za4 zKt rfl rfl rfl (by simp) ?_
 have hNo:∀(e:Int) (g:Tr ABlk) (ny:Nat),Ext nx h g→(∀v g ny u',Ext nx h g→Fz g nx v u'→Wk u' (CA.v ⟨false,[],e⟩)→R v g ny)→R (.tup [.bool false,.sl0,.int .i64 e]) g ny:=fun e g ny hE hq=>by
  exact hq _ _ _ (.tup [.bool false,.sl0,.int .i64 e]) hE (.tup _ _ (.cons _ _ _ _ (.bool _) (.cons _ _ _ _ .sl0 (.cons _ _ _ _ (.int _ _) .nil)))) (.tup _ _ (.cons _ _ _ _ (.same _) (.cons _ _ _ _ (.sl0 1 false) (.cons _ _ _ _ (.same _) .nil))))
 have z1:¬nx=nx+1:=by omega
 have z2:¬nx=nx+1+1:=by omega
 have z3:¬nx+1=nx+1+1:=by omega
 simp-implicitDefEqProofs[go_sem,hP1,hP2,hP3]
 refine zbq mixed za4 zbe [14,15] [5,10] [(4,14),(9,14)] (by kernel_rfl) ?_
 simp-implicitDefEqProofs[go_sem,hP1,hP2,hP3]
 refine zbm hfa ?_
 simp-implicitDefEqProofs[go_sem,zas,hP1,hP2,hP3]
 refine zbm hBa ?_
 by_cases ea:zbx d fa=0
 ·rw[if_neg (by simpa using ea)]at hR
  simp-implicitDefEqProofs[go_sem,zas,hP1,hP2,hP4,ea]
  refine zbq mixed za4 zbe [14,15] [5,10] [(4,14),(9,14)] (by kernel_rfl) ?_
  simp-implicitDefEqProofs[go_sem,zas,hP1,hP2,hP4]
  refine zbm hfb ?_
  refine zbm hBb ?_
  by_cases eb:zbx d fb=0
  ·rw[if_neg (by simpa using eb)]at hR
   have hW1:=hW1 ea eb
   have hW2:=hW2 ea eb
   simp-implicitDefEqProofs[go_sem,zas,eb,z1]
   refine Ret.use hW1 ?_
   have l1:=zz1 X Y d
   have l2:=zz1 Y X d
   generalize zee X Y d=W1 at *
   generalize zee Y X d=W2 at *
   obtain⟨c,one,e1⟩:=W1
   obtain⟨k,two,e2⟩:=W2
   simp only[WR.v,zuc]at hW2 hR l1 l2 ⊢
   generalize hM:Tr.put _ (nx+1) (some (bx 92 [.fz 4 false (zal Y)] false 0))=M
   have hE:Ext nx h M:=by
    rw[← hM]
    simp(disch:=omega)only[za6]
    exact Ext.refl _ _
   have m0:M.get nx=some (bx 92 [.fz 4 false (zal X)] false 0):=by rw[← hM];simp[go_sem]
   have m1:M.get (nx+1)=some (bx 92 [.fz 4 false (zal Y)] false 0):=by rw[← hM];simp[go_sem]
   clear hM
   by_cases q1:e1=0
   ·subst q1
    rw[if_neg (by simp)]at hR
    simp-implicitDefEqProofs[go_sem,za0,m0,m1]
    refine Ret.use hW2 ?_
    by_cases q2:e2=0
    ·subst q2
     rw[if_neg (by simp)]at hR
     have fin:∀(f:Bool) (l:List Int),(∀v g ny u',Ext nx h g→Fz g nx v u'→Wk u' (CA.v ⟨f,l,0⟩)→R v g ny)→R (.tup [.bool f,.fz 1 false (za5 l),.int .i64 0]) M (nx+1+1):=fun f l hq=>hq _ _ _ _ hE (Fz.same _ (by simp[plain,zah,zhw])) (.same _)
     cases one with
     |false=>
      have hR':=fin two k (by simpa using hR)
      cases two with
      |false=>
       simp-implicitDefEqProofs[go_sem,za0,m0,m1]
       exact hR'
      |true=>
       simp-implicitDefEqProofs[go_sem,za0,m0,m1]
       exact hR'
     |true=>
      cases two with
      |false=>
       have hR':=fin true c (by simpa using hR)
       simp-implicitDefEqProofs[go_sem,za0,m0,m1]
       exact hR'
      |true=>
       have hcp:=zNv false false k c (by omega)
       by_cases q3:zhb k c<0
       ·have hR':=fin true k (by simpa[q3]using hR)
        simp-implicitDefEqProofs[go_sem,za0,m0,m1]
        refine Ret.use hcp ?_
        simp-implicitDefEqProofs[go_sem,za0,m0,m1,q3]
        exact hR'
       ·have hR':=fin true c (by simpa[q3]using hR)
        simp-implicitDefEqProofs[go_sem,za0,m0,m1]
        refine Ret.use hcp ?_
        simp-implicitDefEqProofs[go_sem,za0,m0,m1,q3]
        exact hR'
    ·rw[if_pos q2]at hR
     simp-implicitDefEqProofs[go_sem,za0,m0,m1,q2]
     exact hNo _ _ _ hE hR
   ·rw[if_pos q1]at hR
    simp-implicitDefEqProofs[go_sem,za0,m0,m1,q1]
    exact hNo _ _ _ hE hR
  ·rw[if_pos eb]at hR
   simp-implicitDefEqProofs[go_sem,zas,eb]
   refine hNo _ _ _ ?_ hR
   simp(disch:=omega)only[za6]
   exact Ext.refl _ _
 ·rw[if_pos ea]at hR
  simp-implicitDefEqProofs[go_sem,zas,hP1,hP2,ea]
  refine hNo _ _ _ ?_ hR
  simp(disch:=omega)only[za6]
  exact Ext.refl _ _
end
end Go.Ev
