/- Texts T74 T76 Z1 M1 M2. -/
import Derived.Test.YtjngkeajenankaaGreatDoorP38
set_option linter.unusedSimpArgs false
set_option linter.unusedVariables false
set_option maxRecDepth 100000
namespace Go.Ev
open Go.Proofs Go.RowKit
noncomputable section
attribute [-go_sem] pPick lookRes evConvS evStrB
theorem ft57:cx.ft.get 57=some Tryz.f57:=cxS_ft (by decide) (by kernel_rfl)
def Tk.c4 (t:Tk):List AV:=[.int .i64 t.kind,.bs t.text,.int .i64 t.num,.int .i64 t.pos]
def encT (l:List Tk):List AV:=l.map fun t=>.agg t.c4
structure LS where
 ts:List Tk
 e:Int
 at_:Int
def stepL (s:LS)(t:Tk):LS×Bool:=if t.code≠0 then (⟨[],t.code,t.pos⟩,false) else if s.ts.length=5000 then (⟨[],2,t.pos⟩,false) else (⟨s.ts++[t],0,0⟩,true)
def lexV (src:ByteArray):LS:=if 20000<src.size then ⟨[],2,-1⟩ else (visT stepL src (src.size+1) ⟨[],0,0⟩ 0).1
theorem tkF_len (l:List Tk):(l.flatMap Tk.c4).length=l.length * 4:=by
 induction l with
 |nil=>rfl
 |cons x l ih=>simp[ih,Tk.c4];omega
def KdT (lo:Nat)(h:Tr ABlk) (nx:Nat)(v:AV)(ts:List Tk):Prop:=(ts=[]∧v=.sl0)∨(ts≠[]∧∃q,lo≤q∧q<nx∧v=.sl q 0 ts.length 0 true∧h.get q=some (bx 119 (ts.flatMap Tk.c4) true 4))
def JL (nx:Nat)(rec:ABlk)(s:LS)(O:Nat→Prop)(h:Tr ABlk) (n:Nat):Prop:=
 (nx+6≤n∧s.e=0∧s.at_=0∧s.ts.length≤5000)∧h.get nx=some (bx 115 [.sl0] false 0)∧h.get (nx+1)=some (bx 33 [.int .i64 s.e] false 0)∧h.get (nx+2)=some (bx 3 [.int .i64 s.at_] false 0)∧h.get (nx+4)=some .dfr∧h.get (nx+5)=some rec∧
 ∃v,h.get (nx+3)=some (bx 115 [v] false 0)∧KdT (nx+6) h n v s.ts∧(∀k,O k↔(nx≤k∧k≤nx+5)∨(∃l cp o,v=.sl k 0 l cp o))
theorem JL.ext {nx:Nat}{rec:ABlk}{s:LS}{O:Nat→Prop}{h h':Tr ABlk}{n n':Nat}(j:JL nx rec s O h n)(hk:∀k,O k→h'.get k=h.get k)(hn:n≤n'):JL nx rec s O h' n':=by
 obtain⟨j0,j1,j2,j3,j4,j5,v,j6,j7,j8⟩:=j
 have hO:∀k,nx≤k∧k≤nx+5→O k:=fun k q=>(j8 k).2 (.inl q)
 obtain⟨j0,e0,a0⟩:=j0
 refine⟨⟨by omega,e0,a0⟩,?_,?_,?_,?_,?_,v,?_,?_,j8⟩
 all_goals first |(rw[hk _ (hO _ (by omega))];assumption) |skip
 rcases j7 with j7 |⟨a,q,b,c,d,e⟩
 ·exact .inl j7
 ·exact .inr ⟨a,q,b,by omega,d,by rw[hk q ((j8 q).2 (.inr ⟨_,_,_,d⟩))];exact e⟩
theorem JL.lt {nx:Nat}{rec:ABlk}{s:LS}{O:Nat→Prop}{h:Tr ABlk}{n:Nat}(j:JL nx rec s O h n):∀k,O k→k<n:=by
 obtain⟨j0,j1,j2,j3,j4,j5,v,j6,j7,j8⟩:=j
 intro k hk
 rcases (j8 k).1 hk with q |⟨l,cp,o,q⟩
 ·omega
 ·rcases j7 with⟨_,e⟩ |⟨_,q2,_,c,d,_⟩
  ·rw[e]at q;cases q
  ·rw[d]at q;cases q;exact c
theorem tkF_plain:∀l:List Tk,plainL (l.flatMap Tk.c4)=true
 |[]=>rfl
 |x::l=>by
  have h1:=tkF_plain l
  simp[Tk.c4,plainL,plain,h1]
theorem chunkT:∀l:List Tk,Chunk 4 (encT l) (l.flatMap Tk.c4)
 |[]=>rfl
 |x::l=>⟨x.c4,l.flatMap Tk.c4,by simp,rfl,by cases x;rfl,.inl rfl,chunkT l⟩
theorem encT_len (l:List Tk):(encT l).length=l.length:=by simp[encT]
theorem fzT {g:Tr ABlk}{nx b:Nat}{s:List Tk}{cp esz:Nat}{op opn:Bool}(hb:nx≤b)(hg:g.get b=some (bx 119 (s.flatMap Tk.c4) opn esz)):Fz g nx (.sl b 0 s.length cp op) (.fz 4 false (encT s)):=
 .slz b 0 _ cp op 119 _ _ opn esz 4 (s.flatMap Tk.c4) (s.flatMap Tk.c4) (encT s) hb hg (by simp) (fun j hj=>by rw[Nat.zero_add,get_putN0]) (FzL.same _ (tkF_plain s)) (chunkT s) (encT_len s)
def JLE (nx:Nat)(rec:ABlk)(s:LS)(O:Nat→Prop)(h:Tr ABlk) (n:Nat):Prop:=
 s.ts=[]∧h.get nx=some (bx 115 [.sl0] false 0)∧h.get (nx+1)=some (bx 33 [.int .i64 s.e] false 0)∧h.get (nx+2)=some (bx 3 [.int .i64 s.at_] false 0)∧h.get (nx+4)=some .dfr∧h.get (nx+5)=some rec
set_option maxHeartbeats 4000000 in
theorem lex_c (src:ByteArray):Ret Tryz.prog cx 57 [.bs src] (.tup [.fz 4 false (encT (lexV src).ts),.int .i64 (lexV src).e,.int .i64 (lexV src).at_]):=by
 refine Ret.mkW fun h nx R hR=>ACall_mk (sz:=35) (rs:=[.cell 2 115,.cell 3 33,.cell 4 3]) cxok ft57 rfl rfl rfl (by simp) ?_
 obtain⟨r,hr⟩:∃r,r=lexV src:=⟨_,rfl⟩
 rw[← hr]at hR
 unfold lexV at hr
 have hNo:∀(g:Tr ABlk) (ny:Nat) (e a:Int),Ext nx h g→r=⟨[],e,a⟩→R (.tup [.sl0,.int .i64 e,.int .i64 a]) g ny:=fun g ny e a hE hr=>by
  rw[hr]at hR
  exact hR _ _ _ (.tup [.sl0,.int .i64 e,.int .i64 a]) hE (.tup _ _ (.cons _ _ _ _ .sl0 (.cons _ _ _ _ (.int _ _) (.cons _ _ _ _ (.int _ _) .nil)))) (.tup _ _ (.cons _ _ _ _ (.sl0 4 false) (.cons _ _ _ _ (.same _) (.cons _ _ _ _ (.same _) .nil))))
 have z1:¬nx=nx+1:=by omega
 have z2:¬nx=nx+1+1:=by omega
 have z4:¬nx+1=nx+1+1:=by omega
 have y1:¬nx+1+1=nx:=by omega
 have y2:¬nx+1+1+1=nx:=by omega
 have y3:¬nx+1+1+1=nx+1:=by omega
 by_cases h1:20000<src.size
 ·have h1I:(20000:Int)<(src.size:Int):=by omega
  rw[if_pos h1]at hr
  simp[go_sem,h1I,z2,y1,segL]
  refine hNo _ _ _ _ ?_ hr
  simp(disch:=omega)only[ext_put]
  exact Ext.refl _ _
 have h1I:¬(20000:Int)<(src.size:Int):=by omega
 rw[if_neg h1]at hr
 simp[go_sem,h1I]
 refine Ret.use (tokens_c src) ?_
 simp[go_sem,goOn_some]
 obtain⟨fn,_⟩:∃fn:FuncId,fn=fn:=⟨0,rfl⟩
 refine AW_range cxok ft138 (first:=[]) (cap:=[.ip [.bs src],.ip [clsV src]]) (fn0:=fn) (by simp[go_sem]) ?_
 generalize hrec:ABlk.loop LoopState.ready none fn 35 _ _ _ _ _=rec
 obtain⟨recD,hrecD⟩:∃recD,recD=(match rec with |.loop _ _ fn sz tm ps x y db=>ABlk.loop .done (some .ret) fn sz tm ps x y db |b=>b):=⟨_,rfl⟩
 refine(tokens2_c (S:=LS) (step:=stepL) (y:=nx+5) (J:=JL nx rec) (JE:=JLE nx recD) ?_ src (by omega) ⟨[],0,0⟩ (fun k=>nx≤k∧k≤nx+5) _ _ ?_).mono ?_
 ·refine⟨fun s O h n h' n' j hk hn=>j.ext hk hn,fun s O h n j=>j.lt,?_⟩
  intro s O t h1 n1 _ hj
  obtain⟨K,hK⟩:∃K:AV→Tr ABlk→Nat→Prop,K=fun v g ny=>v=.bool (stepL s t).2∧∃O',Kept O h1 n1 O' g ny∧(if (stepL s t).2 then JL nx rec (stepL s t).1 O' g ny else JLE nx recD (stepL s t).1 O' g ny):=⟨_,rfl⟩
  rw[← hK]
  have hlt:=hj.lt
  obtain⟨⟨j0,je,ja,jl⟩,j1,j2,j3,j4,j5,kv,j6,j7,j8⟩:=hj
  have hL:=j5
  rw[← hrec]at hL
  refine AYld_of hL rfl (by simp) (aw_ok cxok _ ?_)
  have nl:¬nx+5=n1:=by omega
  have nl2:¬n1=nx+5:=by omega
  have nl3:¬nx+1=nx+5:=by omega
  have nl4:¬nx+2=nx+5:=by omega
  have nl5:¬nx+3=nx+5:=by omega
  have nl6:¬nx=nx+5:=by omega
  have nl7:¬nx=n1:=by omega
  have nl8:¬nx+1=n1:=by omega
  have nl9:¬nx+2=n1:=by omega
  have nl10:¬nx+3=n1:=by omega
  have y4:¬nx+1+1=n1:=by omega
  have y5:¬nx+1+1=nx+5:=by omega
  have y6:¬n1=nx:=by omega
  have y7:¬n1=nx+1:=by omega
  have y8:¬n1=nx+1+1:=by omega
  have y9:¬nx+1+1+1=n1:=by omega
  have y10:¬nx+1+1+1=nx+5:=by omega
  have j3':h1.get (nx+1+1)=some (bx 3 [.int .i64 s.at_] false 0):=j3
  have j6':h1.get (nx+1+1+1)=some (bx 115 [kv] false 0):=j6
  have hrD:∀st pend fn sz tm ps x y db,ABlk.loop st pend fn sz tm ps x y db=rec→ABlk.loop .done (some .ret) fn sz tm ps x y db=recD:=by
   intro st pend fn sz tm ps x y db e
   rw[hrecD,← e]
  have hO:∀k,nx≤k∧k≤nx+5→O k:=fun k q=>(j8 k).2 (.inl q)
  have hStop:∀(c:Int) (M:Tr ABlk),stepL s t=(⟨[],c,t.pos⟩,false)→(∀k,k<n1→k≠nx+5→M.get k=h1.get k)→K (.bool false) (((((M.put nx (some (bx 115 [.sl0] false 0))).put (nx+1) (some (bx 33 [.int .i64 c] false 0)))).put (nx+2) (some (bx 3 [.int .i64 t.pos] false 0))).put (nx+5) (some recD)) (n1+1):=by
   intro c M hst hM
   rw[hK,hst]
   refine⟨rfl,O,⟨Nat.le_succ _,fun k hk ho=>?_,fun k hk=>.inl hk⟩,?_⟩
   ·have:¬(nx≤k∧k≤nx+5):=fun q=>ho (hO k q)
    rw[Tr.get_put,if_neg (by omega),Tr.get_put,if_neg (by omega),Tr.get_put,if_neg (by omega),Tr.get_put,if_neg (by omega)]
    exact hM k hk (by omega)
   ·rw[if_neg (by simp)]
    refine⟨rfl,?_,?_,?_,?_,?_⟩
    ·simp(disch:=omega) [go_sem]
    ·simp(disch:=omega) [go_sem,NEx]
    ·simp(disch:=omega) [go_sem,NEx]
    ·rw[Tr.get_put,if_neg (by omega),Tr.get_put,if_neg (by omega),Tr.get_put,if_neg (by omega),Tr.get_put,if_neg (by omega),hM _ (by omega) (by omega)];exact j4
    ·rw[Tr.get_put,if_pos rfl]
  simp[go_sem,putP,Tk.cs,segL]
  refine⟨none,fn,35,_,_,_,_,nx+1+1+1+1,by simp[go_sem,nl];exact hL,aw_ok cxok _ ?_⟩
  generalize hbz:ABlk.loop LoopState.busy none fn 35 _ _ _ _ _=rbz
  have hMg:∀(X Y:Option ABlk) (k:Nat),k<n1→k≠nx+5→(((h1.put n1 X).put n1 Y).put (nx+5) (some rbz)).get k=h1.get k:=fun X Y k k1 k2=>by
   rw[Tr.get_put,if_neg k2,Tr.get_put,if_neg (by omega),Tr.get_put,if_neg (by omega)]
  have hLA:∀(e:TypeId) (size b:Nat) (z:Option AV) (fs:List (Nat×Nat×Bool)) (g:Tr ABlk) (n:Nat),evLen (.mk (.slice e) size b z fs) kv g n=.val (.int .i64 (s.ts.length:Int)) g n:=by
   intro e' size' b' z fs g n
   rcases j7 with⟨h0,ha⟩ |⟨_,q,_,_,ha,_⟩
   ·rw[ha,evLen_sl0,h0];rfl
   ·rw[ha,evLen_sl]
  by_cases c1:t.code=0
  ·by_cases c2:s.ts.length=5000
   ·have hst:stepL s t=(⟨[],2,t.pos⟩,false):=by unfold stepL;rw[if_neg (by simpa using c1),if_pos c2]
    simp[go_sem,nl2,nl10,c1,c2,hLA,j6']
    refine AW_draw mixed cxok G0sym [3,4,5] [] [(2,3),(2,4)] (by kernel_rfl) ?_
    simp[go_sem,nl2,nl7,nl8,nl9,segL,j1,j2,j3',y1,y6,y7,y8]
    refine roundQ_ret hbz (by simp(disch:=omega) [go_sem]) (hrD _ _ _ _ _ _ _ _ _ hrec) ?_
    exact hStop 2 _ hst (hMg _ _)
   ·have c2I:¬(s.ts.length:Int)=5000:=by omega
    have hst:stepL s t=(⟨s.ts++[t],0,0⟩,true):=by unfold stepL;rw[if_neg (by simpa using c1),if_neg c2]
    have w1:¬n1=n1+1:=by omega
    have w2:¬nx+1+1+1=n1+1:=by omega
    have w3:¬nx+1+1+1=n1+1+1:=by omega
    have w4:¬n1+1+1=nx+5:=by omega
    have w5:¬n1+1=nx+5:=by omega
    have hGo:∀(M:Tr ABlk) (q L:Nat),L=(s.ts++[t]).length→(∀k,k<n1→k≠nx+5→k≠q→M.get k=h1.get k)→(q<n1→O q∧¬(nx≤q∧q≤nx+5))→M.get (n1+2)=some (bx 119 ((s.ts++[t]).flatMap Tk.c4) true 4)→K (.bool true) ((M.put (nx+3) (some (bx 115 [.sl (n1+2) 0 L 0 true] false 0))).put (nx+5) (some rec)) (n1+3):=by
     intro M q L hLe hM hq hMn
     subst hLe
     rw[hK,hst]
     refine⟨rfl,fun k=>(nx≤k∧k≤nx+5)∨k=n1+2,⟨by omega,fun k hk ho=>?_,fun k hk=>?_⟩,?_⟩
     ·have:¬(nx≤k∧k≤nx+5):=fun q=>ho (hO k q)
      rw[Tr.get_put,if_neg (by omega),Tr.get_put,if_neg (by omega)]
      exact hM k hk (by omega) (fun e=>by subst e;exact ho (hq hk).1)
     ·rcases hk with hk |hk
      ·exact .inl (hO k hk)
      ·exact .inr (by omega)
     ·rw[if_pos rfl]
      have hqn:∀k,nx≤k∧k≤nx+5→k≠q:=fun k hk e=>by
       subst e
       exact(hq (by omega)).2 hk
      refine⟨⟨by omega,rfl,rfl,by simp;omega⟩,?_,?_,?_,?_,?_,_,?_,.inr ⟨by simp,n1+2,by omega,by omega,rfl,?_⟩,fun k=>⟨fun hk=>?_,fun hk=>?_⟩⟩
      ·rw[Tr.get_put,if_neg (by omega),Tr.get_put,if_neg (by omega),hM _ (by omega) (by omega) (hqn _ (by omega))];exact j1
      ·rw[Tr.get_put,if_neg (by omega),Tr.get_put,if_neg (by omega),hM _ (by omega) (by omega) (hqn _ (by omega)),j2,je]
      ·rw[Tr.get_put,if_neg (by omega),Tr.get_put,if_neg (by omega),hM _ (by omega) (by omega) (hqn _ (by omega)),j3,ja]
      ·rw[Tr.get_put,if_neg (by omega),Tr.get_put,if_neg (by omega),hM _ (by omega) (by omega) (hqn _ (by omega))];exact j4
      ·rw[Tr.get_put,if_pos rfl]
      ·rw[Tr.get_put,if_neg (by omega),Tr.get_put,if_pos rfl]
      ·rw[Tr.get_put,if_neg (by omega),Tr.get_put,if_neg (by omega)];exact hMn
      ·rcases hk with hk |hk
       ·exact .inl hk
       ·exact .inr ⟨_,_,_,by rw[hk]⟩
      ·rcases hk with hk |⟨l,cp,o,hk⟩
       ·exact .inl hk
       ·right;cases hk;rfl
    rcases j7 with⟨h0,rfl⟩ |⟨h0,q,q1,q2,rfl,q3⟩
    ·simp[go_sem,nl2,nl8,nl9,nl10,segL,c1,hLA,j6',h0]
     refine roundQ_norm hbz (by simp(disch:=omega) [go_sem,NEx]) hrec ?_
     exact hGo _ n1 1 (by rw[h0];rfl) (fun k k1 k2 _=>by
      rw[Tr.get_put,if_neg (by omega),Tr.get_put,if_neg (by omega)];exact hMg _ _ k k1 k2) (fun hh=>by omega) (by rw[h0];simp[go_sem,Tk.c4])
    ·have x1:¬q=n1+1:=by omega
     have x2:¬q=nx+5:=by omega
     have x3:¬q=n1:=by omega
     have x4:=(tkF_len s.ts).symm
     have x5:s.ts.length+1≤16777216:=by omega
     have x6:¬nx+1+1+1=q:=by omega
     simp[go_sem,nl2,nl8,nl9,nl10,segL,c1,c2I,hLA,j6',x1,x2,x3,x4,x5,x6,q3]
     refine roundQ_norm hbz (by simp(disch:=omega) [go_sem,NEx,show ¬nx+5=q by omega]) hrec ?_
     exact hGo _ q _ (by simp) (fun k k1 k2 k3=>by
      rw[Tr.get_put,if_neg (by omega),Tr.get_put,if_neg k3,Tr.get_put,if_neg (by omega)];exact hMg _ _ k k1 k2) (fun hh=>⟨(j8 q).2 (.inr ⟨_,_,_,rfl⟩),by omega⟩) (by rw[List.flatMap_append];simp[go_sem,Tk.c4])
  ·have hst:stepL s t=(⟨[],t.code,t.pos⟩,false):=by unfold stepL;rw[if_pos c1]
   simp[go_sem,nl2,c1]
   refine AW_draw mixed cxok G0sym [5,6,7] [] [(1,5),(4,5),(4,6)] (by kernel_rfl) ?_
   simp[go_sem,nl2,nl7,nl8,nl9,segL,j1,j2,j3',y1,y6,y7,y8]
   refine roundQ_ret hbz (by simp(disch:=omega) [go_sem]) (hrD _ _ _ _ _ _ _ _ _ hrec) ?_
   exact hStop t.code _ hst (hMg _ _)
 ·refine⟨⟨by omega,rfl,rfl,by simp⟩,?_,?_,?_,?_,?_,.sl0,?_,.inl ⟨rfl,rfl⟩,fun k=>⟨.inl,fun q=>by
   rcases q with q |⟨_,_,_,q⟩
   ·exact q
   ·cases q⟩⟩
  all_goals (simp(disch:=omega) [go_sem,NEx])
 ·rintro v g ny ⟨O',hK,hq⟩
  have v01:¬nx=nx+1:=by omega
  have v02:¬nx=nx+1+1:=by omega
  have v03:¬nx=nx+1+1+1:=by omega
  have v04:¬nx=nx+1+1+1+1:=by omega
  have v05:¬nx=nx+1+1+1+1+1:=by omega
  have v12:¬nx+1=nx+1+1:=by omega
  have v13:¬nx+1=nx+1+1+1:=by omega
  have v14:¬nx+1=nx+1+1+1+1:=by omega
  have v15:¬nx+1=nx+1+1+1+1+1:=by omega
  have v20:¬nx+1+1=nx:=by omega
  have v21:¬nx+1+1=nx+1:=by omega
  have v23:¬nx+1+1=nx+1+1+1:=by omega
  have v24:¬nx+1+1=nx+1+1+1+1:=by omega
  have v25:¬nx+1+1=nx+1+1+1+1+1:=by omega
  have v30:¬nx+1+1+1=nx:=by omega
  have v31:¬nx+1+1+1=nx+1:=by omega
  have v32:¬nx+1+1+1=nx+1+1:=by omega
  have v34:¬nx+1+1+1=nx+1+1+1+1:=by omega
  have v35:¬nx+1+1+1=nx+1+1+1+1+1:=by omega
  have v40:¬nx+1+1+1+1=nx:=by omega
  have v41:¬nx+1+1+1+1=nx+1:=by omega
  have v42:¬nx+1+1+1+1=nx+1+1:=by omega
  have v43:¬nx+1+1+1+1=nx+1+1+1:=by omega
  have v45:¬nx+1+1+1+1=nx+1+1+1+1+1:=by omega
  have v50:¬nx+1+1+1+1+1=nx:=by omega
  have v51:¬nx+1+1+1+1+1=nx+1:=by omega
  have v52:¬nx+1+1+1+1+1=nx+1+1:=by omega
  have v53:¬nx+1+1+1+1+1=nx+1+1+1:=by omega
  have v54:¬nx+1+1+1+1+1=nx+1+1+1+1:=by omega
  have E1:Ext nx h g:=by
   intro k hk
   have:=hK.2.1 k (by omega) (by omega)
   rw[this]
   simp(disch:=omega) [go_sem,show ¬k=nx by omega,show ¬k=nx+1 by omega,show ¬k=nx+2 by omega,show ¬k=nx+3 by omega,show ¬k=nx+4 by omega,show ¬k=nx+5 by omega]
  by_cases hs:(visT stepL src (src.size+1) ⟨[],0,0⟩ 0).2=true
  ·rw[if_pos hs]at hq
   rw[← hr]at hq
   obtain⟨⟨j0,je,ja,jl⟩,j1,j2,j3,j4,j5,kv,j6,j7,j8⟩:=hq
   refine rangeQ_none hrec j5 ?_
   have j3':g.get (nx+1+1)=some (bx 3 [.int .i64 r.at_] false 0):=j3
   have j6':g.get (nx+1+1+1)=some (bx 115 [kv] false 0):=j6
   have j4':g.get (nx+1+1+1+1)=some .dfr:=j4
   rw[je,ja]at hR
   rcases j7 with⟨h0,rfl⟩ |⟨h0,q,q1,q2,rfl,q3⟩
   ·simp[go_sem,j1,j2,j3',j4',j6',v02,v04,v05,v20,v30,v40]
    refine hNo _ _ _ _ ?_ ?_
    ·simp(disch:=omega)only[ext_put]
     exact E1
    ·obtain⟨a1,a2,a3⟩:=r
     simp only at h0 je ja
     rw[h0,je,ja]
   ·simp[go_sem,j1,j2,j3',j4',j6',v02,v04,v05,v20,v30,v40]
    refine hR _ _ _ _ ?_ (.tup _ _ (.cons _ _ _ _ (fzT (opn:=true) (esz:=4) (by omega) ?_) (.cons _ _ _ _ (.int _ _) (.cons _ _ _ _ (.int _ _) .nil)))) (.same _)
    ·simp(disch:=omega)only[ext_put]
     exact E1
    ·simp(disch:=omega) [go_sem]
     refine⟨by omega,?_⟩
     repeat rw[if_neg (by omega)]
     exact q3
  ·rw[if_neg hs]at hq
   rw[← hr]at hq
   obtain⟨j0,j1,j2,j3,j4,j5⟩:=hq
   refine rangeQ_ret (by rw[hrecD,← hrec]) j5 ?_
   have j3':g.get (nx+1+1)=some (bx 3 [.int .i64 r.at_] false 0):=j3
   have j4':g.get (nx+1+1+1+1)=some .dfr:=j4
   simp[go_sem,j1,j2,j3',j4',v04,v05]
   refine hNo _ _ _ _ ?_ ?_
   ·simp(disch:=omega)only[ext_put]
    exact E1
   ·obtain⟨a1,a2,a3⟩:=r
    simp only at j0
    rw[j0]
end
end Go.Ev
namespace Go.Ev
open Go.Proofs Go.RowKit
noncomputable section
attribute [-go_sem] pPick lookRes evConvS evStrB
theorem ft29:cx.ft.get 29=some Tryz.f29:=cxS_ft (by decide) (by kernel_rfl)
def nameL (s:ByteArray):Bool:=decide ((lexV s).e=0) && (match (lexV s).ts with |[t]=>decide (t.kind=1) && decide (t.text=s) |_=>false)
set_option maxHeartbeats 4000000 in
theorem name_c (s:ByteArray):Ret Tryz.prog cx 29 [.bs s] (.bool (nameL s)):=by
 refine Ret.mk fun h nx R hR=>ACall_mk (sz:=34) (rs:=[.tmp 2]) cxok ft29 rfl rfl rfl (by simp) ?_
 have hl:=lex_c s
 have hf:∀b g ny,Ext nx h g→b=nameL s→R (.bool b) g ny:=fun b g ny he hb=>hR _ _ _ he (Fz.eq rfl (by rw[hb]))
 unfold nameL at hf
 clear hR
 generalize lexV s=r at hl hf
 obtain⟨ts,e,a⟩:=r
 simp only at hl hf
 simp[go_sem]
 refine Ret.use hl ?_
 by_cases he:e=0
 ·subst he
  rcases ts with _ |⟨t,_ |⟨t2,l⟩⟩
  ·simp[go_sem,goOn_some,encT]
   exact hf _ _ _ (Ext.refl _ _) (by simp)
  ·by_cases h1:t.kind=1
   ·by_cases h2:t.text=s
    ·simp[go_sem,goOn_some,encT,Tk.c4,h1,h2]
     exact hf _ _ _ (Ext.refl _ _) (by simp[h1,h2])
    ·simp[go_sem,goOn_some,encT,Tk.c4,h1,h2]
     exact hf _ _ _ (Ext.refl _ _) (by simp[h1,h2])
   ·simp[go_sem,goOn_some,encT,Tk.c4,h1]
    exact hf _ _ _ (Ext.refl _ _) (by simp[h1])
  ·have hl2:¬(l.length:Int)+1+1=1:=by omega
   simp[go_sem,goOn_some,encT,hl2]
   refine hf _ _ _ (Ext.refl _ _) ?_
   simp
 ·simp[go_sem,goOn_some,he]
  exact hf _ _ _ (Ext.refl _ _) (by simp[he])
theorem visT_inv {S:Type}{step:S→Tk→S×Bool}(P:S→Prop){src:ByteArray}(hp:∀s i,P s→(step s (tokAt src i).1).2=true→P (step s (tokAt src i).1).1):∀(f:Nat)(s:S) (i:Nat),P s→(visT step src f s i).2=true→P (visT step src f s i).1
 |0,s,i,h,_=>h
 |f+1,s,i,h,hv=>by
  rw[visT]at hv ⊢
  by_cases h1:src.size≤i
  ·rw[if_pos h1]at hv ⊢;exact h
  ·rw[if_neg h1]at hv ⊢
   by_cases h2:cl src i=1
   ·rw[if_pos h2]at hv ⊢;exact visT_inv P hp f s _ h hv
   ·rw[if_neg h2]at hv ⊢
    by_cases h3:cl src i=2
    ·rw[if_pos h3]at hv ⊢;exact visT_inv P hp f s _ h hv
    ·rw[if_neg h3]at hv ⊢
     by_cases h4:(step s (tokAt src i).1).2=false
     ·rw[if_pos h4]at hv;cases hv
     ·rw[if_neg h4]at hv ⊢
      have h5:(step s (tokAt src i).1).2=true:=by simpa using h4
      by_cases h6:(tokAt src i).1.code≠0
      ·rw[if_pos h6]at hv ⊢;exact hp _ _ h h5
      ·rw[if_neg h6]at hv ⊢;exact visT_inv P hp f _ _ (hp _ _ h h5) hv
theorem lexV_all {P:Tk→Prop}{s:ByteArray}(hP:∀i,(tokAt s i).1.code=0→P (tokAt s i).1):∀t∈(lexV s).ts,P t:=by
 unfold lexV
 by_cases hz:20000<s.size
 ·rw[if_pos hz];intro t ht;cases ht
 ·rw[if_neg hz]
  by_cases hf:(visT stepL s (s.size+1) ⟨[],0,0⟩ 0).2=true
  ·refine visT_inv (fun S:LS=>∀t∈S.ts,P t) (fun S i hS hst=>?_) _ _ _ (by intro t ht;cases ht) hf
   unfold stepL at hst ⊢
   by_cases c:(tokAt s i).1.code≠0
   ·rw[if_pos c]at hst;cases hst
   ·rw[if_neg c]at hst ⊢
    by_cases c2:S.ts.length=5000
    ·rw[if_pos c2]at hst;cases hst
    ·rw[if_neg c2]
     intro t ht
     rcases List.mem_append.1 ht with q |q
     ·exact hS t q
     ·simp at q
      subst q
      exact hP i (by simpa using c)
  ·have key:∀(f:Nat) (S:LS) (i:Nat),(visT stepL s f S i).2=false→(visT stepL s f S i).1.ts=[]:=by
    intro f
    induction f with
    |zero=>intro S i hq;cases hq
    |succ f ih=>
     intro S i hq
     rw[visT]at hq ⊢
     by_cases g1:s.size≤i
     ·rw[if_pos g1]at hq;cases hq
     ·rw[if_neg g1]at hq ⊢
      by_cases g2:cl s i=1
      ·rw[if_pos g2]at hq ⊢;exact ih _ _ hq
      ·rw[if_neg g2]at hq ⊢
       by_cases g3:cl s i=2
       ·rw[if_pos g3]at hq ⊢;exact ih _ _ hq
       ·rw[if_neg g3]at hq ⊢
        by_cases g4:(stepL S (tokAt s i).1).2=false
        ·rw[if_pos g4]
         simp only
         unfold stepL at g4 ⊢
         by_cases c:(tokAt s i).1.code≠0
         ·rw[if_pos c]
         ·rw[if_neg c]at g4 ⊢
          by_cases c2:S.ts.length=5000
          ·rw[if_pos c2]
          ·rw[if_neg c2]at g4;cases g4
        ·rw[if_neg g4]at hq ⊢
         by_cases g5:(tokAt s i).1.code≠0
         ·rw[if_pos g5]at hq;cases hq
         ·rw[if_neg g5]at hq ⊢;exact ih _ _ hq
   rw[key _ _ _ (by simpa using hf)]
   intro t ht;cases ht
end
end Go.Ev
namespace Go.Ev
open Go.Proofs Go.RowKit
noncomputable section
theorem cls_let {n:Nat}:clsN n=3↔letN n=true:=by
 unfold clsN letN
 rw[decide_eq_true_eq]
 by_cases h:(97≤n∧n≤122)∨(65≤n∧n≤90)
 ·rw[if_pos h];exact⟨fun _=>h,fun _=>rfl⟩
 ·rw[if_neg h]
  refine⟨fun e=>?_,fun e=>absurd e h⟩
  exfalso
  repeat' split at e
  all_goals cases e
theorem cls_wrd {n:Nat}:(clsN n=3∨clsN n=4∨clsN n=5)↔(letN n=true∨n=95∨(48≤n∧n≤57)):=by
 rw[cls_let]
 constructor
 ·rintro (h |h |h)
  ·exact .inl h
  ·exact .inr (.inr (cls_digit h))
  ·unfold clsN at h
   by_cases h1:(97≤n∧n≤122)∨(65≤n∧n≤90)
   ·rw[if_pos h1]at h;cases h
   rw[if_neg h1]at h
   by_cases h2:48≤n∧n≤57
   ·rw[if_pos h2]at h;cases h
   rw[if_neg h2]at h
   by_cases h3:n=95
   ·exact .inr (.inl h3)
   exfalso
   repeat' split at h
   all_goals first |(cases h;done) |(simp_all;done)
 ·rintro (h |h |h)
  ·exact .inl h
  ·subst h;exact .inr (.inr (by decide))
  ·refine .inr (.inl ?_)
   unfold clsN
   rw[if_neg (by omega),if_pos h]
theorem word_iff {s:ByteArray}{i:Nat}(h:i<s.size):isWord (cl s i)=true↔(letN (s[i]).toNat=true∨(s[i]).toNat=95∨(48≤(s[i]).toNat∧(s[i]).toNat≤57)):=by
 rw[← cls_wrd,cl_at h]
 unfold isWord
 simp only[Bool.or_eq_true,decide_eq_true_eq]
 omega
theorem spanC_full {s:ByteArray}(ha:∀i,i<s.size→isWord (cl s i)=true):∀(f i:Nat),i≤s.size→s.size-i≤f→spanC isWord s f i=s.size
 |0,i,h1,h2=>by rw[spanC];omega
 |f+1,i,h1,h2=>by
  rw[spanC]
  by_cases e:i<s.size
  ·rw[if_pos (ha i e)]
   exact spanC_full ha f (i+1) (by omega) (by omega)
  ·have:i=s.size:=by omega
   subst this
   rw[cl_end (Nat.le_refl _),if_neg (by decide)]
theorem name_eq (s:ByteArray):nameL s=rnmB s:=by
 rw[Bool.eq_iff_iff]
 constructor
 ·intro h
  have hv:=lexV_all (P:=fun t=>t.kind=1→t.text=s→rnmB s=true) (s:=s) fun i h0 h1 h2=>by
   unfold tokAt at h0 h1 h2
   by_cases c3:cl s i=3
   ·rw[if_pos c3]at h0 h2
    simp only at h0 h2
    have hi:i<s.size:=by
     rcases Nat.lt_or_ge i s.size with q |q
     ·exact q
     ·rw[cl_end q]at c3;cases c3
    obtain⟨b1,b2⟩:=spanC_le isWord (by decide) s s.size i (by omega)
    have hsz:=congrArg ByteArray.size h2
    rw[ByteArray.size_extract]at hsz
    have hi0:i=0:=by omega
    subst hi0
    have hj:spanC isWord s s.size 0=s.size:=by omega
    rw[hj]at h0
    have h24:s.size≤24:=by
     by_cases c:24<s.size-0
     ·rw[if_pos c]at h0;cases h0
     ·omega
    unfold rnmB
    rw[decide_eq_true_eq]
    refine⟨⟨hi,h24⟩,fun k hk=>?_⟩
    have hw:=(word_iff hk).1 (spanC_all isWord s s.size 0 k (by omega) (by omega))
    unfold wrdN
    by_cases k0:k=0
    ·subst k0
     rw[cl_at hi]at c3
     have:letN (s[0]).toNat=true:=cls_let.1 (by omega)
     rw[this];rfl
    ·rcases hw with hw |hw
     ·rw[hw];rfl
     ·simp[k0,hw]
   ·rw[if_neg c3]at h1
    by_cases c4:cl s i=4
    ·rw[if_pos c4]at h1
     simp only at h1
     split at h1 <;> cases h1
    ·rw[if_neg c4]at h1
     by_cases c6:cl s i=6∨cl s i=7∨cl s i=8
     ·rw[if_pos c6]at h1
      split at h1 <;> cases h1
     ·rw[if_neg c6]at h1;cases h1
  unfold nameL at h
  generalize lexV s=r at h hv
  obtain⟨ts,e,a⟩:=r
  simp only at h hv
  rcases ts with _ |⟨t,_ |⟨t2,l⟩⟩
  ·simp at h
  ·simp at h
   exact hv t (by simp) h.2.1 h.2.2
  ·simp at h
 ·intro h
  unfold rnmB at h
  rw[decide_eq_true_eq]at h
  obtain⟨⟨h0,h24⟩,ha⟩:=h
  have hw:∀i,i<s.size→isWord (cl s i)=true:=fun i hi=>by
   rw[word_iff hi]
   have:=ha i hi
   unfold wrdN at this
   simp only[Bool.or_eq_true,Bool.and_eq_true,decide_eq_true_eq]at this
   rcases this with q |⟨_,q⟩
   ·exact .inl q
   ·exact .inr q
  have c3:cl s 0=3:=by
   have:=ha 0 h0
   unfold wrdN at this
   simp at this
   rw[cl_at h0]
   have:=cls_let.2 this
   omega
  have hj:=spanC_full hw s.size 0 (by omega) (by omega)
  have ht:tokAt s 0=(⟨1,s,0,0,0⟩,s.size):=by
   unfold tokAt
   rw[if_pos c3]
   simp only[hj]
   rw[if_neg (by omega),ByteArray.extract_zero_size]
   rfl
  have hl:lexV s=⟨[⟨1,s,0,0,0⟩],0,0⟩:=by
   unfold lexV
   rw[if_neg (by omega)]
   obtain⟨m,hm⟩:∃m,s.size=m+1:=⟨s.size-1,by omega⟩
   have hst:stepL ⟨[],0,0⟩ (⟨1,s,0,0,0⟩:Tk)=(⟨[⟨1,s,0,0,0⟩],0,0⟩,true):=by
    unfold stepL
    simp
   rw[visT,if_neg (by omega),if_neg (by rw[c3];decide),if_neg (by rw[c3];decide),ht]
   simp only[hst]
   rw[if_neg (by simp),if_neg (by simp),hm,visT,if_pos (by omega)]
  unfold nameL
  rw[hl]
  simp
end
end Go.Ev
namespace Go.Ev
open Go.Proofs Go.RowKit
noncomputable section
attribute [-go_sem] pPick lookRes evConvS evStrB
def hexT:ByteArray:=⟨#[48,49,50,51,52,53,54,55,56,57,97,98,99,100,101,102]⟩
def setQ:List AV:=(List.range 256).map fun n=>AV.bool (hexN n)
theorem to_cx' {f:FuncId}{args:List AV}{u:AV}(h:Ret Tryz.prog cx2 f args u):Ret Tryz.prog cx f args u:=h.tab (by rw[cx2G,cxG];rfl) (fun g cs h=>by rw[cx2G]at h;rw[cxG];exact h)
theorem Ret.str_bs {P:Program}{c:Cx}{f:FuncId}{l n:Nat}{u:AV}(hn:n<256 ^ l)(h:Ret P c f [.str l n] u):Ret P c f [.bs (strB l n)] u:=by
 intro h1 nx σ w A hk hA
 refine h h1 nx σ w A hk ?_
 simp only[RelL,Rel]at hA ⊢
 obtain⟨V,L,e1,e2,e3⟩:=hA
 exact⟨V,L,e1,⟨hn,e2⟩,e3⟩
theorem hexT_eq:strB 16 136107713667768957684761770045455085872=hexT:=by
 unfold hexT strB
 congr 1
theorem r120:Ret Tryz.prog cx2 120 [.str 16 136107713667768957684761770045455085872] (.tup [.agg setQ,.bool true]):=ret_P ok0 (by kernel_rfl) (by kernel_rfl) (by kernel_rfl)
theorem set_c:Ret Tryz.prog cx 120 [.bs hexT] (.tup [.agg setQ,.bool true]):=by
 have:=Ret.str_bs (by decide) (to_cx' r120)
 rw[hexT_eq]at this
 exact this
theorem setQ_at (b:Nat)(hb:b<256):setQ[b]?=some (.bool (hexN b)):=by simp[setQ,hb]
theorem setQ_len:setQ.length=256:=by simp[setQ]
theorem setQ_one:allOne setQ=true:=by
 have:∀l:List Nat,allOne (l.map fun n=>AV.bool (hexN n))=true:=fun l=>by
  induction l with
  |nil=>rfl
  |cons a l ih=>exact ih
 exact this _
theorem ft166:cx.ft.get 166=some Tryz.f166:=cxS_ft (by decide) (by kernel_rfl)
theorem ft121:cx.ft.get 121=some Tryz.f121:=cxS_ft (by decide) (by kernel_rfl)
theorem ft122:cx.ft.get 122=some Tryz.f122:=cxS_ft (by decide) (by kernel_rfl)
theorem ft83:cx.ft.get 83=some Tryz.f83:=cxS_ft (by decide) (by kernel_rfl)
theorem ft42:cx.ft.get 42=some Tryz.f42:=cxS_ft (by decide) (by kernel_rfl)
theorem contains_s (i b:Nat)(h:Tr ABlk) (nx:Nat)(hg:h.get i=some (bx 222 setQ false 0))(hb:b<256)(R:AV→Tr ABlk→Nat→Prop)(hR:R (.bool (hexN b)) h nx):ACall Tryz.prog cx 166 [.ptr i 0,.int .u8 (b:Int)] h nx R:=by
 refine ACall_mk (sz:=10) (rs:=[.tmp 4]) cxok ft166 rfl rfl rfl (by simp) ?_
 have hs:=setQ_at b hb
 have hl:=setQ_len
 generalize setQ=Q at hg hs hl
 have hb2:b<Q.length:=by omega
 have hQ:Q[b]=.bool (hexN b):=by rw[List.getElem?_eq_getElem hb2]at hs;exact Option.some.inj hs
 simp[go_sem,hg,hb,hb2,hQ]
 exact hR
def rkN (s:ByteArray):Nat→Nat
 |0=>0
 |k+1=>if h:k<s.size then (if hexN (s[k]).toNat=true then rkN s k else k+1) else rkN s k
theorem rkN_le (s:ByteArray):∀k,rkN s k≤k
 |0=>Nat.le_refl _
 |k+1=>by
  have:=rkN_le s k
  rw[rkN]
  repeat' split
  all_goals omega
theorem extract_get (s:ByteArray) (i j k:Nat)(h:k<(s.extract i j).size)(h2:i+k<s.size):(s.extract i j)[k]=s[i+k]:=by
 rw[ByteArray.getElem_extract]
theorem trimR_c (s:ByteArray)(hs:s.size≤1000000000) (i:Nat)(h:Tr ABlk) (nx:Nat)(hg:h.get i=some (bx 222 setQ false 0))(R:AV→Tr ABlk→Nat→Prop)(hR:R (.bs (s.extract 0 (rkN s s.size))) h nx):ACall Tryz.prog cx 122 [.bs s,.ptr i 0] h nx R:=by
 refine ACall_mk (sz:=22) (rs:=[.tmp 4]) cxok ft122 rfl rfl rfl (by simp) ?_
 have hR':=Lib.hid hR
 clear hR
 simp[go_sem]
 refine AW_rounds (fun mm st=>∃tm,st=.mk tm h nx []∧mm≤s.size∧tm.get 0=some (.bs (s.extract 0 mm))∧tm.get 1=some (.ptr i 0)∧RowKit.Hid (rkN s mm=rkN s s.size)) ⟨s.size,_,rfl,by omega,?_⟩ ?_
 ·simp[go_sem]
  exact Lib.hid trivial
 rintro k st ⟨tm,rfl,hk,t0,t1,hv⟩ J hJ
 refine aw_ok cxok _ ?_
 have hsz:(s.extract 0 k).size=k:=by simp;omega
 cases k with
 |zero=>
  simp[go_sem,t0,t1]
  have:=hR'.out
  rw[← hv.out]at this
  simpa[rkN]using this
 |succ k=>
  have hk':k<s.size:=by omega
  have hb:=(s[k]).toNat_lt
  have wI:IntKind.i64.wrap (((k+1:Nat):Int)-1)=(k:Int):=by rw[i64wrap _ (by omega) (by omega)];omega
  have wJ:IntKind.i64.wrap ((k:Int)+1-1)=(k:Int):=by rw[i64wrap _ (by omega) (by omega)];omega
  have wK:IntKind.i64.wrap (k:Int)=(k:Int):=i64wrap _ (by omega) (by omega)
  obtain⟨S,hS⟩:∃S,S=s.extract 0 (k+1):=⟨_,rfl⟩
  have hx:∀h:k<S.size,S[k]=s[k]:=fun h=>by subst hS;rw[extract_get s 0 (k+1) k h (by omega)];simp
  have he:S.extract 0 k=s.extract 0 k:=by
   rw[hS]
   apply ByteArray.ext
   simp
  rw[← hS]at t0 hsz
  have hkS:k<S.size:=by omega
  have hv1:rkN s (k+1)=if hexN (s[k]).toNat=true then rkN s k else k+1:=by rw[rkN,dif_pos hk']
  simp[go_sem,t0,t1,hsz,wI,wJ,wK,hkS,hx]
  refine contains_s i _ h nx hg hb _ ?_
  by_cases c:hexN (s[k]).toNat=true
  ·rw[if_pos c]at hv1
   simp[go_sem,goOn_some,t0,t1,hsz,wI,wJ,wK,c]
   refine hJ k _ (by omega) ⟨_,rfl,by omega,?_⟩
   simp[go_sem,t1,he]
   exact Lib.hid (by rw[← hv1];exact hv.out)
  ·rw[if_neg c]at hv1
   simp[go_sem,goOn_some,t0,t1,hsz,wI,wJ,wK,c]
   have:=hR'.out
   rw[← hv.out,hv1,← hS]at this
   exact this
def lkN (s:ByteArray):Nat→Nat→Nat
 |0,i=>i
 |f+1,i=>if h:i<s.size then (if hexN (s[i]).toNat=true then lkN s f (i+1) else i) else i
theorem trimL_c (s:ByteArray)(hs:s.size≤1000000000) (i:Nat)(h:Tr ABlk) (nx:Nat)(hg:h.get i=some (bx 222 setQ false 0))(R:AV→Tr ABlk→Nat→Prop)(hR:R (.bs (s.extract (lkN s s.size 0) s.size)) h nx):ACall Tryz.prog cx 121 [.bs s,.ptr i 0] h nx R:=by
 refine ACall_mk (sz:=16) (rs:=[.tmp 4]) cxok ft121 rfl rfl rfl (by simp) ?_
 have hR':=Lib.hid hR
 clear hR
 simp[go_sem]
 refine AW_rounds (fun mm st=>∃tm k,st=.mk tm h nx []∧mm=s.size-k∧k≤s.size∧tm.get 0=some (.bs (s.extract k s.size))∧tm.get 1=some (.ptr i 0)∧RowKit.Hid (lkN s (s.size-k) k=lkN s s.size 0)) ⟨s.size,_,0,rfl,by omega,by omega,?_⟩ ?_
 ·simp[go_sem]
  exact Lib.hid trivial
 rintro mm st ⟨tm,k,rfl,rfl,hk,t0,t1,hv⟩ J hJ
 refine aw_ok cxok _ ?_
 have hsz:(s.extract k s.size).size=s.size-k:=by simp
 by_cases k1:k<s.size
 ·have hb:=(s[k]).toNat_lt
  obtain⟨S,hS⟩:∃S,S=s.extract k s.size:=⟨_,rfl⟩
  have hx:∀h:0<S.size,S[0]=s[k]:=fun h=>by subst hS;rw[extract_get s k s.size 0 h (by omega)];simp
  have he:S.extract 1 S.size=s.extract (k+1) s.size:=by
   rw[hS]
   apply ByteArray.ext
   simp
   rw[show min (k+(s.size-k)) s.size=s.size by omega]
  rw[← hS]at t0 hsz
  have hS0:0<S.size:=by omega
  have hS1:1≤S.size:=by omega
  have hv1:lkN s (s.size-k) k=if hexN (s[k]).toNat=true then lkN s (s.size-(k+1)) (k+1) else k:=by
   rw[show s.size-k=(s.size-(k+1))+1 by omega,lkN,dif_pos k1]
  simp[go_sem,t0,t1,hS0,hx]
  refine contains_s i _ h nx hg hb _ ?_
  by_cases c:hexN (s[k]).toNat=true
  ·rw[if_pos c]at hv1
   simp[go_sem,goOn_some,t0,t1,c,hS0,hS1,he]
   refine hJ (s.size-(k+1)) _ (by omega) ⟨_,k+1,rfl,rfl,by omega,?_⟩
   simp[go_sem,t1,he]
   exact Lib.hid (by rw[← hv1];exact hv.out)
  ·rw[if_neg c]at hv1
   simp[go_sem,goOn_some,t0,t1,c]
   have:=hR'.out
   rw[← hv.out,hv1,← hS]at this
   exact this
 ·have e:k=s.size:=by omega
  subst e
  have hz:¬0<(s.extract s.size s.size).size:=by omega
  have hR:=hR'.out
  rw[← hv.out]at hR
  rw[show s.size-s.size=0 by omega,lkN]at hR
  generalize s.extract s.size s.size=S at t0 hz hR
  simp[go_sem,t0,t1,hz]
  exact hR
theorem trim_c (s:ByteArray)(hs:s.size≤1000000000)(h0:s≠⟨#[]⟩):Ret Tryz.prog cx 83 [.bs s,.bs hexT] (.bs ((s.extract 0 (rkN s s.size)).extract (lkN (s.extract 0 (rkN s s.size)) (s.extract 0 (rkN s s.size)).size 0) (s.extract 0 (rkN s s.size)).size)):=by
 refine Ret.mk fun h nx R hR=>ACall_mk (sz:=43) (rs:=[.tmp 4]) cxok ft83 rfl rfl rfl (by simp) ?_
 have h1:¬hexT=⟨#[]⟩:=by decide
 have h2:¬(hexT.size:Int)=1:=by decide
 have hsc:=set_c
 have hl:=setQ_len
 have ho:=setQ_one
 have htk:setQ.take 256=setQ:=List.take_of_length_le (by omega)
 have hRs:=fun i h nx hg R hR=>trimR_c s hs i h nx hg R hR
 have hle:=rkN_le s s.size
 obtain⟨r,hr⟩:∃r,r=s.extract 0 (rkN s s.size):=⟨_,rfl⟩
 have hLs:=fun i h nx hg R hR=>trimL_c r (by rw[hr];simp;omega) i h nx hg R hR
 rw[← hr]at hR hRs
 have hx:(⟨#[48,49,50,51,52,53,54,55,56,57,97,98,99,100,101,102]⟩:ByteArray)=hexT:=rfl
 generalize hexT=X at h1 h2 hsc
 generalize setQ=Q at hl ho htk hsc hRs hLs
 simp[go_sem,h0,h1,h2]
 refine Ret.use hsc ?_
 simp[go_sem,goOn_some,hl,ho,segL,htk]
 refine hRs nx _ _ (by rw[Tr.get_put,if_pos rfl]) _ ?_
 simp[go_sem,goOn_some]
 refine hLs nx _ _ (by rw[Tr.get_put,if_pos rfl]) _ ?_
 simp[go_sem,goOn_some]
 refine hR _ _ _ ?_ (Fz.eq rfl (by rw[hr]))
 simp(disch:=omega)only[ext_put]
 exact Ext.refl _ _
theorem rkN_spec (s:ByteArray):∀k,k≤s.size→(rkN s k=0↔∀i,(h:i<s.size)→i<k→hexN (s[i]).toNat=true)∧(rkN s k≠0→∃h:rkN s k-1<s.size,hexN (s[rkN s k-1]).toNat=false)
 |0,_=>⟨⟨fun _ i _ h=>by omega,fun _=>rfl⟩,fun h=>absurd rfl h⟩
 |k+1,hk=>by
  have hk':k<s.size:=by omega
  obtain⟨i1,i2⟩:=rkN_spec s k (by omega)
  rw[rkN,dif_pos hk']
  by_cases c:hexN (s[k]).toNat=true
  ·rw[if_pos c]
   refine⟨⟨fun e i h1 h2=>?_,fun e=>i1.2 fun i h1 h2=>e i h1 (by omega)⟩,i2⟩
   by_cases e2:i=k
   ·subst e2;exact c
   ·exact i1.1 e i h1 (by omega)
  ·rw[if_neg c]
   refine⟨⟨fun e=>by omega,fun e=>absurd (e k hk' (by omega)) c⟩,fun _=>⟨by omega,?_⟩⟩
   have:s[k+1-1]'(by omega)=s[k]:=rfl
   rw[this]
   simpa using c
theorem lkN_lt (s:ByteArray) (j:Nat)(hj:j<s.size)(hx:hexN (s[j]).toNat=false):∀f i,i≤j→lkN s f i≤j
 |0,i,h=>h
 |f+1,i,h=>by
  rw[lkN]
  split
  ·split
   ·rename_i h1 h2
    by_cases e:i=j
    ·subst e;rw[hx]at h2;cases h2
    ·exact lkN_lt s j hj hx f (i+1) (by omega)
   ·exact h
  ·exact h
theorem trim_all (s:ByteArray):((s.extract 0 (rkN s s.size)).extract (lkN (s.extract 0 (rkN s s.size)) (s.extract 0 (rkN s s.size)).size 0) (s.extract 0 (rkN s s.size)).size=⟨#[]⟩)↔∀i,(h:i<s.size)→hexN (s[i]).toNat=true:=by
 obtain⟨i1,i2⟩:=rkN_spec s s.size (Nat.le_refl _)
 have hle:=rkN_le s s.size
 by_cases c:rkN s s.size=0
 ·rw[c]
  refine⟨fun _ i h=>i1.1 c i h h,fun _=>?_⟩
  apply ByteArray.ext
  simp
 ·obtain⟨h1,h2⟩:=i2 c
  refine⟨fun e=>?_,fun e=>absurd (i1.2 fun i h _=>e i h) c⟩
  exfalso
  obtain⟨r,hr⟩:∃r,r=s.extract 0 (rkN s s.size):=⟨_,rfl⟩
  rw[← hr]at e
  have hsz:r.size=rkN s s.size:=by rw[hr];simp;omega
  have hj:rkN s s.size-1<r.size:=by omega
  have hx:hexN (r[rkN s s.size-1]).toNat=false:=by
   have:r[rkN s s.size-1]=s[rkN s s.size-1]:=by
    subst hr
    rw[extract_get s 0 _ _ hj (by omega)]
    simp
   rw[this]
   exact h2
  have:=lkN_lt r _ hj hx r.size 0 (by omega)
  have h3:=congrArg ByteArray.size e
  rw[ByteArray.size_extract]at h3
  have h4:(ByteArray.mk #[]).size=0:=rfl
  omega
set_option maxHeartbeats 1000000 in
theorem is2_c (s:ByteArray)(hs:s.size≤1000000000):Ret Tryz.prog cx 42 [.bs s] (.bool (isB s)):=by
 refine Ret.mk fun h nx R hR=>ACall_mk (sz:=11) (rs:=[.tmp 2]) cxok ft42 rfl rfl rfl (by simp) ?_
 have hF:∀b,b=isB s→R (.bool b) h nx:=fun z e=>hR _ _ _ (Ext.refl _ _) (Fz.eq rfl (by rw[e]))
 clear hR
 by_cases c:s.size=16
 ·have cI:(s.size:Int)=16:=by omega
  have h0:s≠⟨#[]⟩:=fun e=>by rw[e]at c;cases c
  have ht:=trim_c s hs h0
  have ha:=trim_all s
  unfold hexT at ht
  generalize (s.extract 0 (rkN s s.size)).extract (lkN (s.extract 0 (rkN s s.size)) (s.extract 0 (rkN s s.size)).size 0) (s.extract 0 (rkN s s.size)).size=r at ht ha
  simp[go_sem,c,cI]
  refine Ret.use ht ?_
  simp[go_sem,goOn_some]
  refine hF _ ?_
  unfold isB
  rw[decide_eq_decide,ha]
  exact⟨fun q=>⟨c,q⟩,fun q=>q.2⟩
 ·have cI:¬(s.size:Int)=16:=by omega
  simp[go_sem,c,cI]
  refine hF _ ?_
  unfold isB
  symm
  rw[decide_eq_false_iff_not]
  exact fun q=>c q.1
end
end Go.Ev
namespace Go.Ev
open Go.Proofs Go.RowKit
noncomputable section
attribute [-go_sem] pPick lookRes evConvS evStrB
theorem ft40:cx.ft.get 40=some Tryz.f40:=cxS_ft (by decide) (by kernel_rfl)
theorem ft41:cx.ft.get 41=some Tryz.f41:=cxS_ft (by decide) (by kernel_rfl)
theorem ft43:cx.ft.get 43=some Tryz.f43:=cxS_ft (by decide) (by kernel_rfl)
theorem ft84:cx.ft.get 84=some Tryz.f84:=cxS_ft (by decide) (by kernel_rfl)
theorem ft44:cx.ft.get 44=some Tryz.f44:=cxS_ft (by decide) (by kernel_rfl)
theorem ft85:cx.ft.get 85=some Tryz.f85:=cxS_ft (by decide) (by kernel_rfl)
theorem ft45:cx.ft.get 45=some Tryz.f45:=cxS_ft (by decide) (by kernel_rfl)
theorem ft13:cx.ft.get 13=some Tryz.f13:=cxS_ft (by decide) (by kernel_rfl)
theorem name2_c (s:ByteArray):Ret Tryz.prog cx 29 [.bs s] (.bool (rnmB s)):=by
 rw[← name_eq]
 exact name_c s
theorem bad_c (s:ByteArray):Ret Tryz.prog cx 41 [.bs s] (.bool (!rnmB s)):=by
 refine Ret.mk fun h nx R hR=>ACall_mk (sz:=6) (rs:=[.tmp 2]) cxok ft41 rfl rfl rfl (by simp) ?_
 simp[go_sem]
 refine Ret.use (name2_c s) ?_
 simp[go_sem,goOn_some]
 exact hR _ _ _ (Ext.refl _ _) (Fz.eq rfl rfl)
def numB (n:Int):Bool:=decide (0≤n∧n≤1000000)
theorem number_c (n:Int):Ret Tryz.prog cx 40 [.int .i64 n] (.bool (numB n)):=by
 refine Ret.mk fun h nx R hR=>ACall_mk (sz:=9) (rs:=[.tmp 2]) cxok ft40 rfl rfl rfl (by simp) ?_
 have hF:∀b,b=numB n→R (.bool b) h nx:=fun z e=>hR _ _ _ (Ext.refl _ _) (Fz.eq rfl (by rw[e]))
 unfold numB at hF
 by_cases c1:0≤n
 ·simp[go_sem,c1]
  exact hF _ (by simp[c1])
 ·simp[go_sem,c1]
  exact hF _ (by simp[c1])
def badI {α:Type}(p:α→Bool):List α→Int→Int
 |[],_=>-1
 |a::l,i=>if p a=true then badI p l (i+1) else i
theorem badI_all {α:Type}(p:α→Bool):∀(l:List α) (i:Int),0≤i→(badI p l i<0↔∀a∈l,p a=true)
 |[],i,_=>⟨fun _ a h=>(by cases h),fun _=>(by show (-1:Int)<0;decide)⟩
 |a::l,i,h=>by
  rw[badI]
  by_cases c:p a=true
  ·rw[if_pos c,badI_all p l (i+1) (by omega)]
   exact⟨fun q x hx=>by rcases List.mem_cons.1 hx with rfl |h1;exact c;exact q x h1,fun q x hx=>q x (List.mem_cons_of_mem _ hx)⟩
  ·rw[if_neg c]
   exact⟨fun q=>by omega,fun q=>absurd (q a (List.mem_cons_self)) c⟩
theorem badI_at {α:Type}(p:α→Bool)(l:List α) (k:Nat)(hk:k<l.length):badI p (l.drop k) k=if p l[k]=true then badI p (l.drop (k+1)) ((k+1:Nat):Int) else k:=by
 rw[List.drop_eq_getElem_cons hk,badI]
 rfl
theorem idxB_c (full:Bool)(l:List ByteArray)(hl:l.length≤1000000000):Ret Tryz.prog cx 84 [.fz 1 full (encB l),.func 41 [] []] (.int .i64 (badI rnmB l 0)):=by
 refine Ret.mk fun h nx R hR=>ACall_mk (sz:=19) (rs:=[.tmp 4]) cxok ft84 rfl rfl rfl (by simp) ?_
 have hF':=Lib.hid (show ∀z,z=badI rnmB l 0→R (.int .i64 z) h nx from fun z e=>hR _ _ _ (Ext.refl _ _) (Fz.eq rfl (by rw[e])))
 clear hR
 simp[go_sem]
 refine AW_rounds (fun mm st=>∃tm k,st=.mk tm h nx []∧mm=l.length-k∧k≤l.length∧tm.get 0=some (.fz 1 full (encB l))∧tm.get 1=some (.func 41 [] [])∧tm.get 7=some (.int .i64 (l.length:Int))∧tm.get 8=some (.int .i64 (k:Int))∧RowKit.Hid (badI rnmB (l.drop k) k=badI rnmB l 0)) ⟨l.length,_,0,rfl,rfl,by omega,?_⟩ ?_
 ·simp[go_sem]
  exact Lib.hid trivial
 rintro mm st ⟨tm,k,rfl,rfl,hk,t0,t1,t7,t8,hv⟩ J hJ
 refine aw_ok cxok _ ?_
 by_cases k1:k<l.length
 ·have hv1:=badI_at rnmB l k k1
  have wI:IntKind.i64.wrap ((k:Int)+1)=(k:Int)+1:=i64wrap _ (by omega) (by omega)
  simp[go_sem,t0,t1,t7,t8,k1]
  refine Ret.use (bad_c _) ?_
  by_cases c:rnmB l[k]=true
  ·rw[if_pos c]at hv1
   simp[go_sem,goOn_some,t0,t1,t7,t8,c,wI]
   refine hJ (l.length-(k+1)) _ (by omega) ⟨_,k+1,rfl,rfl,by omega,?_⟩
   simp[go_sem,t0,t1,t7,t8,wI]
   exact Lib.hid (by have:=hv.out;rw[hv1]at this;simpa using this)
  ·rw[if_neg c]at hv1
   simp[go_sem,goOn_some,t0,t1,t7,t8,c]
   exact hF'.out _ (by rw[← hv.out,hv1])
 ·have e:l.drop k=[]:=List.drop_of_length_le (by omega)
  simp[go_sem,t0,t1,t7,t8,k1]
  exact hF'.out _ (by rw[← hv.out,e];rfl)
theorem contB_c (full:Bool)(l:List ByteArray)(hl:l.length≤1000000000):Ret Tryz.prog cx 43 [.fz 1 full (encB l),.func 41 [] []] (.bool (!l.all rnmB)):=by
 refine Ret.mk fun h nx R hR=>ACall_mk (sz:=9) (rs:=[.tmp 4]) cxok ft43 rfl rfl rfl (by simp) ?_
 simp[go_sem]
 refine Ret.use (idxB_c full l hl) ?_
 simp[go_sem,goOn_some]
 refine hR _ _ _ (Ext.refl _ _) (Fz.eq rfl ?_)
 have:=badI_all rnmB l 0 (by omega)
 congr 1
 rw[Bool.eq_iff_iff]
 simp only[decide_eq_true_eq,Bool.not_eq_true',Bool.eq_false_iff,ne_eq,List.all_eq_true]
 rw[← this]
 omega
def badF:AV:=.ip [.func 41 [] []]
set_option maxHeartbeats 2000000 in
theorem re_c (x:Re):Ret Tryz.prog cx 45 [.agg x.cs,badF] (.bool (!decide (x.ok rnmB))):=by
 refine Ret.mk fun h nx R hR=>ACall_mk (sz:=45) (rs:=[.tmp 3]) cxok ft45 rfl rfl rfl (by simp) ?_
 have hF:∀b g ny,Ext nx h g→b=(!decide (x.ok rnmB))→R (.bool b) g ny:=fun z g ny hE e=>hR _ _ _ hE (Fz.eq rfl (by rw[e]))
 have hT:∀g ny,Ext nx h g→¬x.ok rnmB→R (.bool true) g ny:=fun g ny e q=>hF _ _ _ e (by rw[decide_eq_false q];rfl)
 have hY:∀g ny,Ext nx h g→x.ok rnmB→R (.bool false) g ny:=fun g ny e q=>hF _ _ _ e (by rw[decide_eq_true q];rfl)
 have hT':=Lib.hid hT
 have hY':=Lib.hid hY
 clear hF hR hT hY
 obtain⟨kind,id,oth⟩:=x
 simp only[Re.ok]at hT' hY'
 have hEn:∀X,Ext nx h (h.put nx X):=fun X=>(ext_put (by omega)).2 (Ext.refl _ _)
 have hid:=bad_c id
 have hoth:=bad_c oth
 unfold badF
 by_cases e1:kind<1
 ·have x2:¬kind=2:=by omega
  have x4:¬kind=4:=by omega
  simp[go_sem,Re.cs,segL,x2,x4,e1]
  exact hT'.out _ _ (hEn _) (fun q=>by omega)
 by_cases e2:(5:Int)<kind
 ·have x2:¬kind=2:=by omega
  have x4:¬kind=4:=by omega
  simp[go_sem,Re.cs,segL,x2,x4,e1,e2]
  exact hT'.out _ _ (hEn _) (fun q=>by omega)
 by_cases x2:kind=2∨kind=4
 ·have hsel:∀(T:Prop),(kind=2→T)→(¬kind=2→kind=4→T)→T:=fun T a b=>by
   by_cases c:kind=2
   ·exact a c
   ·exact b c (by omega)
  refine hsel _ (fun c=>?_) (fun c c'=>?_)
  ·subst c
   simp[go_sem,Re.cs,segL]
   refine Ret.use hid ?_
   by_cases e3:rnmB id=true
   rotate_left
   ·simp[go_sem,goOn_some,e3]
    exact hT'.out _ _ (hEn _) (fun q=>e3 q.2.1)
   simp[go_sem,goOn_some,segL,e3]
   refine Ret.use hoth ?_
   by_cases e4:rnmB oth=true
   rotate_left
   ·simp[go_sem,goOn_some,e3,e4]
    exact hT'.out _ _ (hEn _) (fun q=>by have:=q.2.2;simp at this;exact e4 this)
   simp[go_sem,goOn_some,segL,e3,e4]
   exact hY'.out _ _ (hEn _) ⟨by omega,e3,by simp[e4]⟩
  ·subst c'
   simp[go_sem,Re.cs,segL]
   refine Ret.use hid ?_
   by_cases e3:rnmB id=true
   rotate_left
   ·simp[go_sem,goOn_some,e3]
    exact hT'.out _ _ (hEn _) (fun q=>e3 q.2.1)
   simp[go_sem,goOn_some,segL,e3]
   refine Ret.use hoth ?_
   by_cases e4:rnmB oth=true
   rotate_left
   ·simp[go_sem,goOn_some,e3,e4]
    exact hT'.out _ _ (hEn _) (fun q=>by have:=q.2.2;simp at this;exact e4 this)
   simp[go_sem,goOn_some,segL,e3,e4]
   exact hY'.out _ _ (hEn _) ⟨by omega,e3,by simp[e4]⟩
 have x3:¬kind=2:=fun q=>x2 (.inl q)
 have x4:¬kind=4:=fun q=>x2 (.inr q)
 simp[go_sem,Re.cs,segL,x3,x4,e1,e2]
 refine Ret.use hid ?_
 by_cases e3:rnmB id=true
 rotate_left
 ·simp[go_sem,goOn_some,e3]
  exact hT'.out _ _ (hEn _) (fun q=>e3 q.2.1)
 by_cases e4:oth=⟨#[]⟩
 rotate_left
 ·simp[go_sem,goOn_some,segL,e3,e4]
  exact hT'.out _ _ (hEn _) (fun q=>by have:=q.2.2;simp[x3,x4]at this;exact e4 this)
 simp[go_sem,goOn_some,segL,e3,e4]
 exact hY'.out _ _ (hEn _) ⟨by omega,e3,by simp[x3,x4,e4]⟩
theorem idxR_c (full:Bool)(l:List Re)(hl:l.length≤1000000000):Ret Tryz.prog cx 85 [.fz 3 full (encRe l),.func 45 [] [badF]] (.int .i64 (badI (fun x:Re=>decide (x.ok rnmB)) l 0)):=by
 refine Ret.mk fun h nx R hR=>ACall_mk (sz:=19) (rs:=[.tmp 4]) cxok ft85 rfl rfl rfl (by simp) ?_
 have hF':=Lib.hid (show ∀z g n,Ext nx h g→z=badI (fun x:Re=>decide (x.ok rnmB)) l 0→R (.int .i64 z) g n from fun z g n hE e=>hR _ _ _ hE (Fz.eq rfl (by rw[e])))
 clear hR
 obtain⟨p,hp⟩:∃p:Re→Bool,p=fun x=>decide (x.ok rnmB):=⟨_,rfl⟩
 have hre:=re_c
 have hpx:∀x:Re,decide (x.ok rnmB)=p x:=fun x=>by rw[hp]
 simp only[hpx]at hre
 rw[← hp]at hF'
 clear hp hpx
 generalize badF=F at hre
 simp[go_sem]
 refine AW_rounds (fun mm st=>∃tm k,st=.mk tm h nx []∧mm=l.length-k∧k≤l.length∧tm.get 0=some (.fz 3 full (encRe l))∧tm.get 1=some (.func 45 [] [F])∧tm.get 7=some (.int .i64 (l.length:Int))∧tm.get 8=some (.int .i64 (k:Int))∧RowKit.Hid (badI p (l.drop k) k=badI p l 0)) ⟨l.length,_,0,rfl,rfl,by omega,?_⟩ ?_
 ·simp[go_sem]
  exact Lib.hid trivial
 rintro mm st ⟨tm,k,rfl,rfl,hk,t0,t1,t7,t8,hv⟩ J hJ
 refine aw_ok cxok _ ?_
 by_cases k1:k<l.length
 ·have hv1:=badI_at p l k k1
  have wI:IntKind.i64.wrap ((k:Int)+1)=(k:Int)+1:=i64wrap _ (by omega) (by omega)
  have hrk:=hre l[k]
  generalize hx:l[k]=x at hrk hv1
  obtain⟨kind,id,oth⟩:=x
  simp[go_sem,t0,t1,t7,t8,k1,hx,Re.cs]
  unfold Re.cs at hrk
  refine Ret.use hrk ?_
  by_cases c:p ⟨kind,id,oth⟩=true
  ·rw[if_pos c]at hv1
   simp[go_sem,goOn_some,t0,t1,t7,t8,c,wI]
   refine hJ (l.length-(k+1)) _ (by omega) ⟨_,k+1,rfl,rfl,by omega,?_⟩
   simp[go_sem,t0,t1,t7,t8,wI]
   exact Lib.hid (by have:=hv.out;rw[hv1]at this;simpa using this)
  ·rw[if_neg c]at hv1
   simp[go_sem,goOn_some,t0,t1,t7,t8,c]
   exact hF'.out _ _ _ (Ext.refl _ _) (by rw[← hv.out,hv1])
 ·have e:l.drop k=[]:=List.drop_of_length_le (by omega)
  simp[go_sem,t0,t1,t7,t8,k1]
  exact hF'.out _ _ _ (Ext.refl _ _) (by rw[← hv.out,e];rfl)
theorem contR_c (full:Bool)(l:List Re)(hl:l.length≤1000000000):Ret Tryz.prog cx 44 [.fz 3 full (encRe l),.func 45 [] [badF]] (.bool (!l.all fun x=>decide (x.ok rnmB))):=by
 refine Ret.mk fun h nx R hR=>ACall_mk (sz:=9) (rs:=[.tmp 4]) cxok ft44 rfl rfl rfl (by simp) ?_
 have hi:=idxR_c full l hl
 generalize badF=F at hi
 simp[go_sem]
 refine Ret.use hi ?_
 simp[go_sem,goOn_some]
 refine hR _ _ _ (Ext.refl _ _) (Fz.eq rfl ?_)
 have:=badI_all (fun x:Re=>decide (x.ok rnmB)) l 0 (by omega)
 congr 1
 rw[Bool.eq_iff_iff]
 simp only[decide_eq_true_eq,Bool.not_eq_true',Bool.eq_false_iff,ne_eq,List.all_eq_true]at this ⊢
 rw[← this]
 omega
end
end Go.Ev
