/- Texts. -/
import Derived.Test.YtkdnmldmffkkoaaGreatDoorP30
set_option linter.unusedSimpArgs false
set_option linter.unusedVariables false
set_option maxRecDepth 100000
set_option maxHeartbeats 8000000
namespace Go.Ev
open Go.Proofs Go.RowKit
noncomputable section
attribute [-go_sem] dw bP ep gH
theorem zRf:cx.ft.get 106=some Tryz.f106:=aT (by decide) (by kernel_rfl)
def Tk.c4 (t:Tk):List AV:=[.int .i64 t.kind,.bs t.text,.int .i64 t.num,.int .i64 t.pos]
def tn (l:List Tk):List AV:=l.map fun t=>.agg t.c4
structure LS where
 ts:List Tk
 e:Int
 at_:Int
def pn (s:LS)(t:Tk):LS×Bool:=if t.code≠0 then (⟨[],t.code,t.pos⟩,false) else if s.ts.length=5000 then (⟨[],2,t.pos⟩,false) else (⟨s.ts++[t],0,0⟩,true)
def wC (src:ByteArray):LS:=if 20000<src.size then ⟨[],2,-1⟩ else (pj pn src (src.size+1) ⟨[],0,0⟩ 0).1
theorem zGi (l:List Tk):(l.flatMap Tk.c4).length=l.length * 4:=by
 induction l with
 |nil=>rfl
 |cons x l ih=>simp[ih,Tk.c4];omega
def KdT (lo:Nat)(h:Tr ABlk) (nx:Nat)(v:AV)(ts:List Tk):Prop:=(ts=[]∧v=.sl0)∨(ts≠[]∧∃q,lo≤q∧q<nx∧v=.sl q 0 ts.length 0 true∧h.get q=some (bx 130 (ts.flatMap Tk.c4) true 4))
def JL (nx:Nat)(rec:ABlk)(s:LS)(O:Nat→Prop)(h:Tr ABlk) (n:Nat):Prop:=
 (nx+6≤n∧s.e=0∧s.at_=0∧s.ts.length≤5000)∧h.get nx=some (bx 105 [.sl0] false 0)∧h.get (nx+1)=some (bx 44 [.int .i64 s.e] false 0)∧h.get (nx+2)=some (bx 3 [.int .i64 s.at_] false 0)∧h.get (nx+4)=some .dfr∧h.get (nx+5)=some rec∧
 ∃v,h.get (nx+3)=some (bx 105 [v] false 0)∧KdT (nx+6) h n v s.ts∧(∀k,O k↔(nx≤k∧k≤nx+5)∨(∃l cp o,v=.sl k 0 l cp o))
theorem JL.ext {nx:Nat}{rec:ABlk}{s:LS}{O:Nat→Prop}{h h':Tr ABlk}{n n':Nat}(j:JL nx rec s O h n)(hk:∀k,O k→h'.get k=h.get k)(hn:n≤n'):JL nx rec s O h' n':=by
 obtain⟨j0,j1,j2,j3,j4,j5,v,j6,j7,j8⟩:=j;have hO:∀k,nx≤k∧k≤nx+5→O k:=fun k q=>(j8 k).2 (.inl q);obtain⟨j0,e0,a0⟩:=j0;refine⟨⟨by omega,e0,a0⟩,?_,?_,?_,?_,?_,v,?_,?_,j8⟩
 all_goals first |(rw[hk _ (hO _ (by omega))];assumption) |skip
 rcases j7 with j7 |⟨a,q,b,c,d,e⟩
 ·exact .inl j7
 ·exact .inr ⟨a,q,b,by omega,d,by rw[hk q ((j8 q).2 (.inr ⟨_,_,_,d⟩))];exact e⟩
theorem JL.lt {nx:Nat}{rec:ABlk}{s:LS}{O:Nat→Prop}{h:Tr ABlk}{n:Nat}(j:JL nx rec s O h n):∀k,O k→k<n:=by
 obtain⟨j0,j1,j2,j3,j4,j5,v,j6,j7,j8⟩:=j;intro k hk
 rcases (j8 k).1 hk with q |⟨l,cp,o,q⟩
 ·omega
 ·rcases j7 with⟨_,e⟩ |⟨_,q2,_,c,d,_⟩
  ·rw[e]at q;cases q
  ·rw[d]at q;cases q;exact c
theorem zzw:∀l:List Tk,bC (l.flatMap Tk.c4)=true
 |[]=>rfl
 |x::l=>by
  have h1:=zzw l;simp[Tk.c4,bC,plain,h1]
theorem XP:∀l:List Tk,qG 4 (tn l) (l.flatMap Tk.c4)
 |[]=>rfl
 |x::l=>⟨x.c4,l.flatMap Tk.c4,by simp,rfl,by cases x;rfl,.inl rfl,XP l⟩
theorem zI6 (l:List Tk):(tn l).length=l.length:=by simp[tn]
theorem fzT {g:Tr ABlk}{nx b:Nat}{s:List Tk}{cp esz:Nat}{op opn:Bool}(hb:nx≤b)(hg:g.get b=some (bx 130 (s.flatMap Tk.c4) opn esz)):Fz g nx (.sl b 0 s.length cp op) (.fz 4 false (tn s)):=
 .slz b 0 _ cp op 130 _ _ opn esz 4 (s.flatMap Tk.c4) (s.flatMap Tk.c4) (tn s) hb hg (by simp) (fun j hj=>by rw[Nat.zero_add,fx]) (ct.same _ (zzw s)) (XP s) (zI6 s)
def SJ (nx:Nat)(rec:ABlk)(s:LS)(O:Nat→Prop)(h:Tr ABlk) (n:Nat):Prop:=
 s.ts=[]∧h.get nx=some (bx 105 [.sl0] false 0)∧h.get (nx+1)=some (bx 44 [.int .i64 s.e] false 0)∧h.get (nx+2)=some (bx 3 [.int .i64 s.at_] false 0)∧h.get (nx+4)=some .dfr∧h.get (nx+5)=some rec
theorem zL2 (src:ByteArray):ay Tryz.prog cx 106 [.bs src] (.tup [.fz 4 false (tn (wC src).ts),.int .i64 (wC src).e,.int .i64 (wC src).at_]):=by
 refine ay.mkW fun h nx R hR=>aV (sz:=35) (rs:=[.cell 2 105,.cell 3 44,.cell 4 3]) aE zRf rfl rfl rfl (by simp) ?_;obtain⟨r,hr⟩:∃r,r=wC src:=⟨_,rfl⟩;rw[← hr]at hR;unfold wC at hr;have fT:∀(g:Tr ABlk) (ny:Nat) (e a:Int),aA nx h g→r=⟨[],e,a⟩→R (.tup [.sl0,.int .i64 e,.int .i64 a]) g ny:=fun g ny e a hE hr=>by
  rw[hr]at hR;exact hR _ _ _ (.tup [.sl0,.int .i64 e,.int .i64 a]) hE (.tup _ _ (.cons _ _ _ _ .sl0 (.cons _ _ _ _ (.int _ _) (.cons _ _ _ _ (.int _ _) .nil)))) (.tup _ _ (.cons _ _ _ _ (.sl0 4 false) (.cons _ _ _ _ (.same _) (.cons _ _ _ _ (.same _) .nil))))
 have z1:¬nx=nx+1:=by omega
 have z2:¬nx=nx+1+1:=by omega
 have z4:¬nx+1=nx+1+1:=by omega
 have y1:¬nx+1+1=nx:=by omega
 have y2:¬nx+1+1+1=nx:=by omega
 have y3:¬nx+1+1+1=nx+1:=by omega
 by_cases h1:20000<src.size
 ·have xD:(20000:Int)<(src.size:Int):=by omega
  rw[if_pos h1]at hr;simp-implicitDefEqProofs[go_sem,xD,z2,y1,aG];refine fT _ _ _ _ ?_ hr;simp(disch:=omega)only[aL];exact aA.refl _ _
 have xD:¬(20000:Int)<(src.size:Int):=by omega
 rw[if_neg h1]at hr;simp-implicitDefEqProofs[go_sem,xD];refine ay.use (zI2 src) ?_;simp-implicitDefEqProofs[go_sem,aB];obtain⟨fn,_⟩:∃fn:FuncId,fn=fn:=⟨0,rfl⟩;refine Kn aE zzc (first:=[]) (cap:=[.ip [.bs src],.ip [GR src]]) (fn0:=fn) (by simp[go_sem]) ?_;generalize cE:ABlk.loop LoopState.ready none fn 35 _ _ _ _ _=rec;obtain⟨ij,mN⟩:∃ij,ij=(match rec with |.loop _ _ fn sz tm ps x y db=>ABlk.loop .done (some .ret) fn sz tm ps x y db |b=>b):=⟨_,rfl⟩;refine(zOm (S:=LS) (step:=pn) (y:=nx+5) (J:=JL nx rec) (JE:=SJ nx ij) ?_ src (by omega) ⟨[],0,0⟩ (fun k=>nx≤k∧k≤nx+5) _ _ ?_).mono ?_
 ·refine⟨fun s O h n h' n' j hk hn=>j.ext hk hn,fun s O h n j=>j.lt,?_⟩;intro s O t h1 n1 _ hj;obtain⟨K,hK⟩:∃K:AV→Tr ABlk→Nat→Prop,K=fun v g ny=>v=.bool (pn s t).2∧∃O',fh O h1 n1 O' g ny∧(if (pn s t).2 then JL nx rec (pn s t).1 O' g ny else SJ nx ij (pn s t).1 O' g ny):=⟨_,rfl⟩;rw[← hK];have az:=hj.lt;obtain⟨⟨j0,je,ja,jl⟩,j1,j2,j3,j4,j5,kv,j6,j7,j8⟩:=hj;have hL:=j5;rw[← cE]at hL;refine Jp hL rfl (by simp) (bt aE _ ?_);have nl:¬nx+5=n1:=by omega
  have o8:¬n1=nx+5:=by omega
  have nl3:¬nx+1=nx+5:=by omega
  have CC:¬nx+2=nx+5:=by omega
  have nl5:¬nx+3=nx+5:=by omega
  have IV:¬nx=nx+5:=by omega
  have Ox:¬nx=n1:=by omega
  have yh:¬nx+1=n1:=by omega
  have IW:¬nx+2=n1:=by omega
  have AE:¬nx+3=n1:=by omega
  have y4:¬nx+1+1=n1:=by omega
  have y5:¬nx+1+1=nx+5:=by omega
  have y6:¬n1=nx:=by omega
  have y7:¬n1=nx+1:=by omega
  have y8:¬n1=nx+1+1:=by omega
  have y9:¬nx+1+1+1=n1:=by omega
  have y10:¬nx+1+1+1=nx+5:=by omega
  have Az:h1.get (nx+1+1)=some (bx 3 [.int .i64 s.at_] false 0):=j3;have Cy:h1.get (nx+1+1+1)=some (bx 105 [kv] false 0):=j6;have yd:∀st bh fn sz tm ps x y db,ABlk.loop st bh fn sz tm ps x y db=rec→ABlk.loop .done (some .ret) fn sz tm ps x y db=ij:=by
   intro st bh fn sz tm ps x y db e;rw[mN,← e]
  have hO:∀k,nx≤k∧k≤nx+5→O k:=fun k q=>(j8 k).2 (.inl q);have eI:∀(c:Int) (M:Tr ABlk),pn s t=(⟨[],c,t.pos⟩,false)→(∀k,k<n1→k≠nx+5→M.get k=h1.get k)→K (.bool false) (((((M.put nx (some (bx 105 [.sl0] false 0))).put (nx+1) (some (bx 44 [.int .i64 c] false 0)))).put (nx+2) (some (bx 3 [.int .i64 t.pos] false 0))).put (nx+5) (some ij)) (n1+1):=by
   intro c M aW hM;rw[hK,aW];refine⟨rfl,O,⟨Nat.le_succ _,fun k hk ho=>?_,fun k hk=>.inl hk⟩,?_⟩
   ·have:¬(nx≤k∧k≤nx+5):=fun q=>ho (hO k q);rw[Tr.get_put,if_neg (by omega),Tr.get_put,if_neg (by omega),Tr.get_put,if_neg (by omega),Tr.get_put,if_neg (by omega)];exact hM k hk (by omega)
   ·rw[if_neg (by simp)];refine⟨rfl,?_,?_,?_,?_,?_⟩
    ·simp(disch:=omega) [go_sem]
    ·simp(disch:=omega) [go_sem,lh]
    ·simp(disch:=omega) [go_sem,lh]
    ·rw[Tr.get_put,if_neg (by omega),Tr.get_put,if_neg (by omega),Tr.get_put,if_neg (by omega),Tr.get_put,if_neg (by omega),hM _ (by omega) (by omega)];exact j4
    ·rw[Tr.get_put,if_pos rfl]
  simp-implicitDefEqProofs[go_sem,putP,Tk.cs,aG];refine⟨none,fn,35,_,_,_,_,nx+1+1+1+1,by simp[go_sem,nl];exact hL,bt aE _ ?_⟩;generalize lZ:ABlk.loop LoopState.busy none fn 35 _ _ _ _ _=I4;have pP:∀(X Y:Option ABlk) (k:Nat),k<n1→k≠nx+5→(((h1.put n1 X).put n1 Y).put (nx+5) (some I4)).get k=h1.get k:=fun X Y k k1 k2=>by
   rw[Tr.get_put,if_neg k2,Tr.get_put,if_neg (by omega),Tr.get_put,if_neg (by omega)]
  have pO:∀(e:TypeId) (size b:Nat) (z:Option AV) (fs:List (Nat×Nat×Bool)) (g:Tr ABlk) (n:Nat),lP (.mk (.slice e) size b z fs) kv g n=.val (.int .i64 (s.ts.length:Int)) g n:=by
   intro e' Vc b' z fs g n
   rcases j7 with⟨h0,ha⟩ |⟨_,q,_,_,ha,_⟩
   ·rw[ha,GL,h0];rfl
   ·rw[ha,Hg]
  by_cases c1:t.code=0
  ·by_cases c2:s.ts.length=5000
   ·have aW:pn s t=(⟨[],2,t.pos⟩,false):=by unfold pn;rw[if_neg (by simpa using c1),if_pos c2]
    simp-implicitDefEqProofs[go_sem,o8,AE,c1,c2,pO,Cy];refine ik mixed aE eO [3,4,5] [] [(2,3),(2,4)] (by kernel_rfl) ?_;simp-implicitDefEqProofs[go_sem,o8,Ox,yh,IW,aG,j1,j2,Az,y1,y6,y7,y8];refine A7 lZ (by simp(disch:=omega) [go_sem]) (yd _ _ _ _ _ _ _ _ _ cE) ?_;exact eI 2 _ aW (pP _ _)
   ·have c2I:¬(s.ts.length:Int)=5000:=by omega
    have aW:pn s t=(⟨s.ts++[t],0,0⟩,true):=by unfold pn;rw[if_neg (by simpa using c1),if_neg c2]
    have w1:¬n1=n1+1:=by omega
    have w2:¬nx+1+1+1=n1+1:=by omega
    have w3:¬nx+1+1+1=n1+1+1:=by omega
    have w4:¬n1+1+1=nx+5:=by omega
    have w5:¬n1+1=nx+5:=by omega
    have xF:∀(M:Tr ABlk) (q L:Nat),L=(s.ts++[t]).length→(∀k,k<n1→k≠nx+5→k≠q→M.get k=h1.get k)→(q<n1→O q∧¬(nx≤q∧q≤nx+5))→M.get (n1+2)=some (bx 130 ((s.ts++[t]).flatMap Tk.c4) true 4)→K (.bool true) ((M.put (nx+3) (some (bx 105 [.sl (n1+2) 0 L 0 true] false 0))).put (nx+5) (some rec)) (n1+3):=by
     intro M q L Ie hM hq hMn;subst Ie;rw[hK,aW];refine⟨rfl,fun k=>(nx≤k∧k≤nx+5)∨k=n1+2,⟨by omega,fun k hk ho=>?_,fun k hk=>?_⟩,?_⟩
     ·have:¬(nx≤k∧k≤nx+5):=fun q=>ho (hO k q);rw[Tr.get_put,if_neg (by omega),Tr.get_put,if_neg (by omega)];exact hM k hk (by omega) (fun e=>by subst e;exact ho (hq hk).1)
     ·rcases hk with hk |hk
      ·exact .inl (hO k hk)
      ·exact .inr (by omega)
     ·rw[if_pos rfl];have vT:∀k,nx≤k∧k≤nx+5→k≠q:=fun k hk e=>by
       subst e;exact(hq (by omega)).2 hk
      refine⟨⟨by omega,rfl,rfl,by simp;omega⟩,?_,?_,?_,?_,?_,_,?_,.inr ⟨by simp,n1+2,by omega,by omega,rfl,?_⟩,fun k=>⟨fun hk=>?_,fun hk=>?_⟩⟩
      ·rw[Tr.get_put,if_neg (by omega),Tr.get_put,if_neg (by omega),hM _ (by omega) (by omega) (vT _ (by omega))];exact j1
      ·rw[Tr.get_put,if_neg (by omega),Tr.get_put,if_neg (by omega),hM _ (by omega) (by omega) (vT _ (by omega)),j2,je]
      ·rw[Tr.get_put,if_neg (by omega),Tr.get_put,if_neg (by omega),hM _ (by omega) (by omega) (vT _ (by omega)),j3,ja]
      ·rw[Tr.get_put,if_neg (by omega),Tr.get_put,if_neg (by omega),hM _ (by omega) (by omega) (vT _ (by omega))];exact j4
      ·rw[Tr.get_put,if_pos rfl]
      ·rw[Tr.get_put,if_neg (by omega),Tr.get_put,if_pos rfl]
      ·rw[Tr.get_put,if_neg (by omega),Tr.get_put,if_neg (by omega)];exact hMn
      ·rcases hk with hk |hk
       ·exact .inl hk
       ·exact .inr ⟨_,_,_,by rw[hk]⟩
      ·rcases hk with hk |⟨l,cp,o,hk⟩
       ·exact .inl hk
       ·right;cases hk;rfl
    rcases j7 with⟨h0,rfl⟩ |⟨h0,q,q1,q2,rfl,q3⟩
    ·simp-implicitDefEqProofs[go_sem,o8,yh,IW,AE,aG,c1,pO,Cy,h0];refine wL lZ (by simp(disch:=omega) [go_sem,lh]) cE ?_;exact xF _ n1 1 (by rw[h0];rfl) (fun k k1 k2 _=>by
      rw[Tr.get_put,if_neg (by omega),Tr.get_put,if_neg (by omega)];exact pP _ _ k k1 k2) (fun hh=>by omega) (by rw[h0];simp[go_sem,Tk.c4])
    ·have x1:¬q=n1+1:=by omega
     have x2:¬q=nx+5:=by omega
     have x3:¬q=n1:=by omega
     have x4:=(zGi s.ts).symm;have x5:s.ts.length+1≤16777216:=by omega
     have x6:¬nx+1+1+1=q:=by omega
     simp-implicitDefEqProofs[go_sem,o8,yh,IW,AE,aG,c1,c2I,pO,Cy,x1,x2,x3,x4,x5,x6,q3];refine wL lZ (by simp(disch:=omega) [go_sem,lh,show ¬nx+5=q by omega]) cE ?_;exact xF _ q _ (by simp) (fun k k1 k2 k3=>by
      rw[Tr.get_put,if_neg (by omega),Tr.get_put,if_neg k3,Tr.get_put,if_neg (by omega)];exact pP _ _ k k1 k2) (fun hh=>⟨(j8 q).2 (.inr ⟨_,_,_,rfl⟩),by omega⟩) (by rw[List.flatMap_append];simp[go_sem,Tk.c4])
  ·have aW:pn s t=(⟨[],t.code,t.pos⟩,false):=by unfold pn;rw[if_pos c1]
   simp-implicitDefEqProofs[go_sem,o8,c1];refine ik mixed aE eO [5,6,7] [] [(1,5),(4,5),(4,6)] (by kernel_rfl) ?_;simp-implicitDefEqProofs[go_sem,o8,Ox,yh,IW,aG,j1,j2,Az,y1,y6,y7,y8];refine A7 lZ (by simp(disch:=omega) [go_sem]) (yd _ _ _ _ _ _ _ _ _ cE) ?_;exact eI t.code _ aW (pP _ _)
 ·refine⟨⟨by omega,rfl,rfl,by simp⟩,?_,?_,?_,?_,?_,.sl0,?_,.inl ⟨rfl,rfl⟩,fun k=>⟨.inl,fun q=>by
   rcases q with q |⟨_,_,_,q⟩
   ·exact q
   ·cases q⟩⟩
  all_goals (simp(disch:=omega) [go_sem,lh])
 ·rintro v g ny ⟨O',hK,hq⟩
  have v01:¬nx=nx+1:=by omega
  have Gj:¬nx=nx+1+1:=by omega
  have Vd:¬nx=nx+1+1+1:=by omega
  have CH:¬nx=nx+1+1+1+1:=by omega
  have OO:¬nx=nx+1+1+1+1+1:=by omega
  have OP:¬nx+1=nx+1+1:=by omega
  have v13:¬nx+1=nx+1+1+1:=by omega
  have v14:¬nx+1=nx+1+1+1+1:=by omega
  have v15:¬nx+1=nx+1+1+1+1+1:=by omega
  have v20:¬nx+1+1=nx:=by omega
  have v21:¬nx+1+1=nx+1:=by omega
  have v23:¬nx+1+1=nx+1+1+1:=by omega
  have v24:¬nx+1+1=nx+1+1+1+1:=by omega
  have v25:¬nx+1+1=nx+1+1+1+1+1:=by omega
  have v30:¬nx+1+1+1=nx:=by omega
  have v31:¬nx+1+1+1=nx+1:=by omega
  have v32:¬nx+1+1+1=nx+1+1:=by omega
  have v34:¬nx+1+1+1=nx+1+1+1+1:=by omega
  have v35:¬nx+1+1+1=nx+1+1+1+1+1:=by omega
  have v40:¬nx+1+1+1+1=nx:=by omega
  have v41:¬nx+1+1+1+1=nx+1:=by omega
  have v42:¬nx+1+1+1+1=nx+1+1:=by omega
  have v43:¬nx+1+1+1+1=nx+1+1+1:=by omega
  have v45:¬nx+1+1+1+1=nx+1+1+1+1+1:=by omega
  have v50:¬nx+1+1+1+1+1=nx:=by omega
  have v51:¬nx+1+1+1+1+1=nx+1:=by omega
  have v52:¬nx+1+1+1+1+1=nx+1+1:=by omega
  have v53:¬nx+1+1+1+1+1=nx+1+1+1:=by omega
  have v54:¬nx+1+1+1+1+1=nx+1+1+1+1:=by omega
  have E1:aA nx h g:=by
   intro k hk;have:=hK.2.1 k (by omega) (by omega);rw[this];simp(disch:=omega) [go_sem,show ¬k=nx by omega,show ¬k=nx+1 by omega,show ¬k=nx+2 by omega,show ¬k=nx+3 by omega,show ¬k=nx+4 by omega,show ¬k=nx+5 by omega]
  by_cases hs:(pj pn src (src.size+1) ⟨[],0,0⟩ 0).2=true
  ·rw[if_pos hs]at hq;rw[← hr]at hq;obtain⟨⟨j0,je,ja,jl⟩,j1,j2,j3,j4,j5,kv,j6,j7,j8⟩:=hq;refine QJ cE j5 ?_;have Az:g.get (nx+1+1)=some (bx 3 [.int .i64 r.at_] false 0):=j3;have Cy:g.get (nx+1+1+1)=some (bx 105 [kv] false 0):=j6;have IT:g.get (nx+1+1+1+1)=some .dfr:=j4;rw[je,ja]at hR
   rcases j7 with⟨h0,rfl⟩ |⟨h0,q,q1,q2,rfl,q3⟩
   ·simp-implicitDefEqProofs[go_sem,j1,j2,Az,IT,Cy,Gj,CH,OO,v20,v30,v40];refine fT _ _ _ _ ?_ ?_
    ·simp(disch:=omega)only[aL];exact E1
    ·obtain⟨a1,a2,a3⟩:=r;simp only at h0 je ja;rw[h0,je,ja]
   ·simp-implicitDefEqProofs[go_sem,j1,j2,Az,IT,Cy,Gj,CH,OO,v20,v30,v40];refine hR _ _ _ _ ?_ (.tup _ _ (.cons _ _ _ _ (fzT (opn:=true) (esz:=4) (by omega) ?_) (.cons _ _ _ _ (.int _ _) (.cons _ _ _ _ (.int _ _) .nil)))) (.same _)
    ·simp(disch:=omega)only[aL];exact E1
    ·simp-implicitDefEqProofs (disch:=omega) [go_sem];refine⟨by omega,?_⟩
     repeat rw[if_neg (by omega)]
     exact q3
  ·rw[if_neg hs]at hq;rw[← hr]at hq;obtain⟨j0,j1,j2,j3,j4,j5⟩:=hq;refine zxv (by rw[mN,← cE]) j5 ?_;have Az:g.get (nx+1+1)=some (bx 3 [.int .i64 r.at_] false 0):=j3;have IT:g.get (nx+1+1+1+1)=some .dfr:=j4;simp-implicitDefEqProofs[go_sem,j1,j2,Az,IT,CH,OO];refine fT _ _ _ _ ?_ ?_
   ·simp(disch:=omega)only[aL];exact E1
   ·obtain⟨a1,a2,a3⟩:=r;simp only at j0;rw[j0]
theorem zUz:cx.ft.get 193=some Tryz.f193:=aT (by decide) (by kernel_rfl)
def uB (s:ByteArray):Bool:=decide ((wC s).e=0) && (match (wC s).ts with |[t]=>decide (t.kind=1) && decide (t.text=s) |_=>false)
theorem Q8 (s:ByteArray):ay Tryz.prog cx 193 [.bs s] (.bool (uB s)):=by
 refine ay.mk fun h nx R hR=>aV (sz:=34) (rs:=[.tmp 2]) aE zUz rfl rfl rfl (by simp) ?_;have hl:=zL2 s;have hf:∀b g ny,aA nx h g→b=uB s→R (.bool b) g ny:=fun b g ny he hb=>hR _ _ _ he (Fz.eq rfl (by rw[hb]));unfold uB at hf;clear hR;generalize wC s=r at hl hf;obtain⟨ts,e,a⟩:=r;simp only at hl hf;simp-implicitDefEqProofs[go_sem];refine ay.use hl ?_
 by_cases he:e=0
 ·subst he
  rcases ts with _ |⟨t,_ |⟨t2,l⟩⟩
  ·simp-implicitDefEqProofs[go_sem,aB,tn];exact hf _ _ _ (aA.refl _ _) (by simp)
  ·by_cases h1:t.kind=1
   ·by_cases h2:t.text=s
    ·simp-implicitDefEqProofs[go_sem,aB,tn,Tk.c4,h1,h2];exact hf _ _ _ (aA.refl _ _) (by simp[h1,h2])
    ·simp-implicitDefEqProofs[go_sem,aB,tn,Tk.c4,h1,h2];exact hf _ _ _ (aA.refl _ _) (by simp[h1,h2])
   ·simp-implicitDefEqProofs[go_sem,aB,tn,Tk.c4,h1];exact hf _ _ _ (aA.refl _ _) (by simp[h1])
  ·have jd:¬(l.length:Int)+1+1=1:=by omega
   simp-implicitDefEqProofs[go_sem,aB,tn,jd];refine hf _ _ _ (aA.refl _ _) ?_;simp
 ·simp-implicitDefEqProofs[go_sem,aB,he];exact hf _ _ _ (aA.refl _ _) (by simp[he])
theorem zrr {S:Type}{step:S→Tk→S×Bool}(P:S→Prop){src:ByteArray}(hp:∀s i,P s→(step s (ji src i).1).2=true→P (step s (ji src i).1).1):∀(f:Nat)(s:S) (i:Nat),P s→(pj step src f s i).2=true→P (pj step src f s i).1
 |0,s,i,h,_=>h
 |f+1,s,i,h,hv=>by
  rw[pj]at hv ⊢
  by_cases h1:src.size≤i
  ·rw[if_pos h1]at hv ⊢;exact h
  ·rw[if_neg h1]at hv ⊢
   by_cases h2:cl src i=1
   ·rw[if_pos h2]at hv ⊢;exact zrr P hp f s _ h hv
   ·rw[if_neg h2]at hv ⊢
    by_cases h3:cl src i=2
    ·rw[if_pos h3]at hv ⊢;exact zrr P hp f s _ h hv
    ·rw[if_neg h3]at hv ⊢
     by_cases h4:(step s (ji src i).1).2=false
     ·rw[if_pos h4]at hv;cases hv
     ·rw[if_neg h4]at hv ⊢;have h5:(step s (ji src i).1).2=true:=by simpa using h4
      by_cases h6:(ji src i).1.code≠0
      ·rw[if_pos h6]at hv ⊢;exact hp _ _ h h5
      ·rw[if_neg h6]at hv ⊢;exact zrr P hp f _ _ (hp _ _ h h5) hv
theorem zMa (src:ByteArray) (i:Nat)(h1:(ji src i).1.kind=1)(h0:(ji src i).1.code=0):(ji src i).1.text.size≤24:=by
 unfold ji at h1 h0 ⊢
 by_cases c3:cl src i=3
 ·rw[if_pos c3]at h1 h0 ⊢;simp only at h0 ⊢
  by_cases c:24<fP tx src src.size i-i
  ·rw[if_pos c]at h0;cases h0
  ·rw[ByteArray.size_extract];omega
 ·rw[if_neg c3]at h1
  by_cases c4:cl src i=4
  ·rw[if_pos c4]at h1;simp only at h1;split at h1 <;> cases h1
  ·rw[if_neg c4]at h1
   by_cases c6:cl src i=6∨cl src i=7∨cl src i=8
   ·rw[if_pos c6]at h1;split at h1 <;> cases h1
   ·rw[if_neg c6]at h1;cases h1
theorem yjx {P:Tk→Prop}{s:ByteArray}(hP:∀i,(ji s i).1.code=0→P (ji s i).1):∀t∈(wC s).ts,P t:=by
 unfold wC
 by_cases hz:20000<s.size
 ·rw[if_pos hz];intro t ht;cases ht
 ·rw[if_neg hz]
  by_cases hf:(pj pn s (s.size+1) ⟨[],0,0⟩ 0).2=true
  ·refine zrr (fun S:LS=>∀t∈S.ts,P t) (fun S i hS aW=>?_) _ _ _ (by intro t ht;cases ht) hf;unfold pn at aW ⊢
   by_cases c:(ji s i).1.code≠0
   ·rw[if_pos c]at aW;cases aW
   ·rw[if_neg c]at aW ⊢
    by_cases c2:S.ts.length=5000
    ·rw[if_pos c2]at aW;cases aW
    ·rw[if_neg c2];intro t ht
     rcases List.mem_append.1 ht with q |q
     ·exact hS t q
     ·simp at q;subst q;exact hP i (by simpa using c)
  ·have key:∀(f:Nat) (S:LS) (i:Nat),(pj pn s f S i).2=false→(pj pn s f S i).1.ts=[]:=by
    intro f
    induction f with
    |zero=>intro S i hq;cases hq
    |succ f ih=>
     intro S i hq;rw[pj]at hq ⊢
     by_cases g1:s.size≤i
     ·rw[if_pos g1]at hq;cases hq
     ·rw[if_neg g1]at hq ⊢
      by_cases g2:cl s i=1
      ·rw[if_pos g2]at hq ⊢;exact ih _ _ hq
      ·rw[if_neg g2]at hq ⊢
       by_cases g3:cl s i=2
       ·rw[if_pos g3]at hq ⊢;exact ih _ _ hq
       ·rw[if_neg g3]at hq ⊢
        by_cases g4:(pn S (ji s i).1).2=false
        ·rw[if_pos g4];simp only;unfold pn at g4 ⊢
         by_cases c:(ji s i).1.code≠0
         ·rw[if_pos c]
         ·rw[if_neg c]at g4 ⊢
          by_cases c2:S.ts.length=5000
          ·rw[if_pos c2]
          ·rw[if_neg c2]at g4;cases g4
        ·rw[if_neg g4]at hq ⊢
         by_cases g5:(ji s i).1.code≠0
         ·rw[if_pos g5]at hq;cases hq
         ·rw[if_neg g5]at hq ⊢;exact ih _ _ hq
   rw[key _ _ _ (by simpa using hf)];intro t ht;cases ht
theorem Ln {s:ByteArray}(h:uB s=true):s.size≤24:=by
 have hv:=yjx (P:=fun t=>t.kind=1→t.text.size≤24) (s:=s) fun i h0 h1=>zMa s i h1 h0;unfold uB at h;generalize wC s=r at h hv;obtain⟨ts,e,a⟩:=r;simp only at h hv
 rcases ts with _ |⟨t,_ |⟨t2,l⟩⟩
 ·simp at h
 ·simp at h;have:=hv t (by simp) h.2.1;rw[h.2.2]at this;exact this
 ·simp at h
theorem Y5 {S:GS}(h:GI S){root:Int}(hr:0≤root∧root<(S.L.length:Int))(hl:S.L.length≤1000000):(∀n∈cL S.L root,jH n∧∃m∈S.L,n.cuts=m.cuts)∧cL S.L root≠[]∧(cL S.L root).length≤S.L.length:=by
 obtain⟨ho,_⟩:=vj h.wk (S.L.length+1) [] root ⟨List.nodup_nil,by simp⟩ hr;have Cn:(bl S.L root).length≤S.L.length:=ho.len;refine⟨fun n hn=>?_,fun e=>zxu h.wk hr (by simpa[cL]using e),by simpa[cL]using Cn⟩;obtain⟨i,hi,rfl⟩:=List.mem_map.1 hn;have zL:=ho.2 i hi;have lF:i.toNat<S.L.length:=by omega
 have hm:S.L.getD i.toNat ⟨0,[],[],false⟩∈S.L:=by
  rw[an,aa lF];exact ai lF
 obtain⟨n1,n2,n3,n4,n5⟩:=h.ni _ hm;refine⟨⟨n1,n2,fun x hx=>?_,n4,by simpa[dN]using n5⟩,_,hm,rfl⟩;obtain⟨y,_,rfl⟩:=List.mem_map.1 hx;unfold cK;split
 ·have:=List.findIdx_le_length (p:=fun z=>decide (z=y)) (xs:=bl S.L root);unfold my;exact⟨by omega,by omega⟩
 ·exact⟨by omega,by omega⟩
theorem zMc {n:Nd}(h:jH n):jH (eB n):=by
 unfold eB;split
 ·exact h
 ·exact h
theorem zNf (n:Nd):(eB n).cuts=n.cuts:=by
 unfold eB;split <;> rfl
theorem Ry:∀(st ys:List Int) (x:Int)(c k:List Int),(bG x c k st ys).2.1.length≤c.length+st.length
 |[],ys,x,c,k=>by simp[bG]
 |s::st,[],x,c,k=>by simp[bG]
 |s::st,y::ys,x,c,k=>by
  by_cases e:y=x
  ·rw[BO e];have:=Ry st ys x c k;simp;omega
  ·rw[DU e];have:=Ry st ys y (c++[s]) (k++[y]);simp at this ⊢;omega
def oG (B:Nat)(L:List Nd):Prop:=∀n∈L,n.cuts.length≤B
theorem oG.node {B:Nat}{S:GS}{n:Nd}(h:oG B S.L)(hn:n.cuts.length≤B):oG B (cR n S).2.L:=by
 intro m hm;simp only[cR,iW]at hm;split at hm
 ·exact h m hm
 ·rcases List.mem_append.1 hm with q |q
  ·exact h m q
  ·simp at q;rw[q];exact hn
theorem oG.inner {B:Nat}{S:GS}{i:Nat}{st ks:List Int}(h:oG B S.L)(hs:st.length≤B):oG B (eu i st ks S).2.L:=by
 unfold eu;simp only;split
 ·exact h
 ·refine h.node ?_;have:=Ry st ks (iO ks) [] [iO ks];simp at this ⊢;omega
theorem Xp {B:Nat}{g:Int→GS→Int×GS}(hg:∀v S,oG B S.L→oG B (g v S).2.L):∀(l:List Int)(S:GS),oG B S.L→oG B (dQ g l S).2.L
 |[],S,h=>h
 |v::l,S,h=>Xp hg l _ (hg v S h)
theorem XN (d:List Fc):∀(k:Nat)(f:Fm)(S:GS),iw f→f.size≤1000→oG 3000 S.L→oG 3000 (bZ d k f S).2.L
 |0,f,S,_,_,h=>by
  rw[bZ];split
  ·exact h.node (by simp[cj])
  ·exact oG.node (S:={ S with full:=jU S }) h (by simp[cj])
 |k+1,f,S,hf,hs,h=>by
  rw[bZ];split
  ·exact h.node (by simp[cj])
  ·split
   ·exact oG.node (S:={ S with full:=true }) h (by simp[cj])
   ·cases kC (rH (d.length-(k+1)) f) S.D with
    |some v=>exact h
    |none=>
     simp only;refine oG.inner ?_ ?_
     ·refine Xp (fun v S hS=>?_) _ _ h;obtain⟨g1,g2⟩:=BJ (d.getD (d.length-(k+1)) ⟨.empty,0,0,0⟩).name v hf;exact XN d k _ S g1 (by omega) hS
     ·have:=Sx f (d.getD (d.length-(k+1)) ⟨.empty,0,0,0⟩);omega
structure vn (g:List Nd):Prop where
 ni:∀n∈g,jH n
 cu:∀n∈g,n.cuts.length≤40000
 ne:g≠[]
 ln:g.length≤30000
def tM (d:List Fc)(f:Fm):Int:=rF uB (fun _=>false) d f
def eA (d:List Fc)(f:Fm):Int:=
 if eQ d=false∨tM d f≠0 then 1 else if 24<(iV [] f).length then 2 else if (jq d f).2.full=true∨20000<(bl (jq d f).2.L (jq d f).1).length then 2 else 0
def cM (d:List Fc)(f:Fm):List Nd:=if eA d f=0 then cL (jq d f).2.L (jq d f).1 else []
theorem zFq (d:List Fc)(f:Fm):Dp (tM d f) d f=.tup [.agg [.fz 4 false (bK (cM d f))],.int .i64 (eA d f)]:=by
 unfold Dp cM eA uK;split
 ·rfl
 ·split
  ·rfl
  ·split <;> rfl
theorem ZG (u:Bool)(d:List Fc)(f:Fm)(hl:d.length≤1000000000)(hs:∀f∈d,f.name.size≤1000000000)(hf:f.size≤1000000):
  ay Tryz.prog cx 93 [.agg f.cs,.agg [.fz 4 u (aP d)]] (.tup [.agg [.fz 4 false (bK (cM d f))],.int .i64 (eA d f)]):=by
 rw[← zFq];exact zIe uB u d f hl hs hf Q8 (fun s h=>by have:=Ln h;omega)
theorem DQ {d:List Fc}{f:Fm}(h:eA d f=0):vn (cM d f):=by
 have h0:=h;unfold eA at h
 by_cases h1:eQ d=false∨tM d f≠0
 ·rw[if_pos h1]at h;cases h
 ·rw[if_neg h1]at h
  by_cases h2:24<(iV [] f).length
  ·rw[if_pos h2]at h;cases h
  ·rw[if_neg h2]at h;have kj:eQ d=true:=by
    cases hv:eQ d with
    |false=>exact absurd (.inl hv) h1
    |true=>rfl
   have hc:tM d f=0:=by
    by_cases hc:tM d f=0
    ·exact hc
    ·exact absurd (.inr hc) h1
   obtain⟨d1,d2⟩:=DT kj;obtain⟨fG,fs⟩:=Lp (fun s h=>by have:=Ln h;omega) hc;obtain⟨gG,gS⟩:=BJ .empty 0 fG;have BP:GI ⟨[],[],false⟩:=⟨by simp,by intro n hn;simp at hn,by simp,by simp,by simp⟩;obtain⟨q1,q2,q3,q4⟩:=Hw d (by omega) d2 d.length (bQ .empty 0 f) ⟨[],[],false⟩ (ae _) gG (by omega) BP (by simp[inn]);have pU:=XN d d.length (bQ .empty 0 f) ⟨[],[],false⟩ gG (by omega) (by intro n hn;cases hn);have zm:bZ d d.length (bQ .empty 0 f) ⟨[],[],false⟩=jq d f:=rfl;rw[zm]at q1 q2 q3 q4 pU;have hlen:=q1.len;have xT:inn ([]:List Nd)=0:=rfl;rw[xT]at q4;obtain⟨a1,a2,a3⟩:=Y5 q1 q2 (by omega);unfold cM;rw[if_pos h0];refine⟨fun n hn=>(a1 n hn).1,fun n hn=>?_,a2,by omega⟩;obtain⟨m,hm,e⟩:=(a1 n hn).2;rw[e];have:=pU m hm;omega
def nj (a b:List Nd)(d:List Fc):Int:=
 if dE a d=false∨dE b d=false then 1 else if 20000<(fR a b d).2.L.length then 2 else if 20000<(bl (fR a b d).2.L (fR a b d).1).length then 2 else 0
def nu (a b:List Nd)(d:List Fc):List Nd:=if nj a b d=0 then cL (fR a b d).2.L (fR a b d).1 else []
theorem zTd (a b:List Nd)(d:List Fc):Hm a b d=.tup [.agg [.fz 4 false (bK (nu a b d))],.int .i64 (nj a b d)]:=by
 unfold Hm nu nj uK;split
 ·rfl
 ·split
  ·rfl
  ·split <;> rfl
theorem ZK {a b:List Nd}{d:List Fc}(ha:vn a)(hb:vn b)(h:nj a b d=0):(∀n∈nu a b d,jH n)∧(nu a b d).length≤30000:=by
 have h0:=h;unfold nj at h
 by_cases h1:dE a d=false∨dE b d=false
 ·rw[if_pos h1]at h;cases h
 ·rw[if_neg h1]at h
  by_cases h2:20000<(fR a b d).2.L.length
  ·rw[if_pos h2]at h;cases h
  ·have va:dE a d=true:=by
    cases hv:dE a d with
    |false=>exact absurd (.inl hv) h1
    |true=>rfl
   have vb:dE b d=true:=by
    cases hv:dE b d with
    |false=>exact absurd (.inr hv) h1
    |true=>rfl
   have pa:=BK va;have pb:=BK vb;obtain⟨d1,d2⟩:=DT pa.1;have da:=DP pa ha.ni ha.cu;have db:=DP pb hb.ni hb.cu;have ur:0<a.length:=pa.2.1;have uu:0<b.length:=pb.2.1;have BQ:HI ⟨[],[]⟩:=⟨⟨by simp[HS.gs],by intro n hn;simp[HS.gs]at hn,by simp[HS.gs],by simp[HS.gs],by simp[HS.gs]⟩,by simp⟩;have fC:=xr da db (ai ur) (ai uu);obtain⟨q1,q2,q3,q4⟩:=Hx a b d (by omega) d2 da db (d.length+1) 0 0 ⟨[],[]⟩ ur uu (by omega) (ae _) BQ (by simp[inn]);have zm:eW a b d (d.length+1) 0 0 ⟨[],[]⟩=fR a b d:=rfl;rw[zm]at q1 q2 q3 q4;obtain⟨a1,a2,a3⟩:=Y5 (S:=(fR a b d).2.gs) q1.g q2 (by show (fR a b d).2.L.length≤_;omega);unfold nu;rw[if_pos h0];refine⟨fun n hn=>(a1 n hn).1,?_⟩;have:(fR a b d).2.gs.L.length=(fR a b d).2.L.length:=rfl;have a4:(cL (fR a b d).2.L (fR a b d).1).length≤(fR a b d).2.L.length:=a3;omega
theorem ZO {g:List Nd}(h:vn g):vn (g.map eB):=by
 refine⟨fun n hn=>?_,fun n hn=>?_,by simpa using h.ne,by simpa using h.ln⟩
 ·obtain⟨m,hm,rfl⟩:=List.mem_map.1 hn;exact zMc (h.ni m hm)
 ·obtain⟨m,hm,rfl⟩:=List.mem_map.1 hn;rw[zNf];exact h.cu m hm
def jG (g:List Nd)(d:List Fc):List Int×Bool:=
 if dE g d=true then match g[(gW g (d.length+1) 0 (gV d)).1]? with
  |some m=>if m.leaf=true then ((gW g (d.length+1) 0 (gV d)).2,true) else ([],false)
  |none=>([],false)
 else ([],false)
theorem zUq (u v:Bool)(g:List Nd)(d:List Fc)(hg:g.length≤1000000)(hd:d.length≤1000000)(hs:∀f∈d,f.name.size≤1000000000)(hN:∀n∈g,jH n):
  ay Tryz.prog cx 150 [.agg [.fz 4 u (bK g)],.agg [.fz 4 v (aP d)]] (.tup [.fz 1 false (aI (jG g d).1),.bool (jG g d).2]):=by
 refine ay.mkW fun h nx R hR=>?_;have fT:∀(g':Tr ABlk) (ny:Nat),aA nx h g'→jG g d=([],false)→R (.tup [.sl0,.bool false]) g' ny:=fun g' ny hE e=>by
  rw[e]at hR;exact hR _ _ _ (.tup [.sl0,.bool false]) hE (.tup _ _ (.cons _ _ _ _ .sl0 (.cons _ _ _ _ (.bool _) .nil))) (.tup _ _ (.cons _ _ _ _ (.sl0 1 false) (.cons _ _ _ _ (.same _) .nil)))
 cases hv:dE g d with
 |false=>
  have EG:=Kr u v g d hg hd hs hN;rw[hv]at EG;refine aV (sz:=58) (rs:=[.tmp 4,.tmp 5]) aE Xk rfl rfl rfl (by simp) ?_;simp-implicitDefEqProofs[go_sem];refine ay.use EG ?_;simp-implicitDefEqProofs[go_sem,aB];refine fT _ _ ?_ (by unfold jG;rw[hv];rfl);simp(disch:=omega)only[aL];exact aA.refl _ _
 |true=>
  refine zSo u v g d hg hd hs hN (BK hv) h nx R (fun c g' ny hE hn eY hm=>?_) (fun g' ny hE hn hm=>?_)
  ·obtain⟨m,vO,qg⟩:=hm;have hr:jG g d=((gW g (d.length+1) 0 (gV d)).2,true):=by
    unfold jG;rw[if_pos hv,vO];simp only[qg,if_true]
   rw[hr]at hR;simp only at hR
   rcases eY with⟨e1,e2⟩ |⟨e1,b,b1,b2,e2,e3⟩
   ·cases e2;rw[e1]at hR;exact hR _ _ _ (.tup [.sl0,.bool true]) hE (.tup _ _ (.cons _ _ _ _ .sl0 (.cons _ _ _ _ (.bool _) .nil))) (.tup _ _ (.cons _ _ _ _ (.sl0 1 false) (.cons _ _ _ _ (.same _) .nil)))
   ·cases e2;exact hR _ _ _ _ hE (.tup _ _ (.cons _ _ _ _ (zyu (opn:=true) (esz:=1) (r:=[]) b1 (by rw[List.append_nil];exact e3)) (.cons _ _ _ _ (.bool _) .nil))) (.same _)
  ·obtain⟨m,vO,qg⟩:=hm;refine fT _ _ hE ?_;unfold jG;rw[if_pos hv,vO];simp only[qg];rfl
end
end Go.Ev
namespace Go.Ev
open Go.Proofs
noncomputable section
attribute [-go_sem] dw bP
theorem zP5:cx.ft.get 216=some Tryz.f216:=aT (by decide) (by kernel_rfl)
theorem zLh:cx.ft.get 151=some Tryz.f151:=aT (by decide) (by kernel_rfl)
theorem zHk:cx.ft.get 96=some Tryz.f96:=aT (by decide) (by kernel_rfl)
theorem W7 (x:Int):ay Tryz.prog cx 216 [.int .i64 x] (.bool false):=by
 refine ay.mk fun h nx R hR=>aV (sz:=6) (rs:=[.tmp 2]) aE zP5 rfl rfl rfl (by simp) ?_;simp-implicitDefEqProofs[go_sem];exact hR _ _ _ (aA.refl _ _) (Fz.eq rfl rfl)
def Bj (x y:Int):Int:=if x<y then -1 else if y<x then 1 else 0
theorem zGf (x y:Int):ay Tryz.prog cx 151 [.int .i64 x,.int .i64 y] (.int .i64 (Bj x y)):=by
 refine ay.mk fun h nx R hR=>aV (sz:=20) (rs:=[.tmp 4]) aE zLh rfl rfl rfl (by simp) ?_;simp-implicitDefEqProofs[go_sem];refine ay.use (W7 x) ?_;simp-implicitDefEqProofs[go_sem,aB];refine ay.use (W7 y) ?_
 by_cases c1:x<y
 ·simp-implicitDefEqProofs[go_sem,aB,c1];exact hR _ _ _ (aA.refl _ _) (Fz.eq rfl (by simp[Bj,c1]))
 ·by_cases c2:y<x
  ·simp-implicitDefEqProofs[go_sem,aB,c1,c2];exact hR _ _ _ (aA.refl _ _) (Fz.eq rfl (by simp[Bj,c1,c2]))
  ·simp-implicitDefEqProofs[go_sem,aB,c1,c2];exact hR _ _ _ (aA.refl _ _) (Fz.eq rfl (by simp[Bj,c1,c2]))
def uF:List Int→List Int→Int
 |[],[]=>0
 |[],_::_=>-1
 |_::_,[]=>1
 |x::l,y::m=>if Bj x y=0 then uF l m else Bj x y
theorem zNv (u v:Bool)(l m:List Int)(hl:l.length≤1000000000):ay Tryz.prog cx 96 [.fz 1 u (aI l),.fz 1 v (aI m)] (.int .i64 (uF l m)):=by
 refine ay.mk fun h nx R hR=>aV (sz:=36) (rs:=[.tmp 4]) aE zHk rfl rfl rfl (by simp) ?_;simp-implicitDefEqProofs[go_sem];refine bT (fun mm st=>∃tm k,st=.mk tm h nx []∧mm=l.length-k∧k≤l.length∧k≤m.length∧tm.get 0=some (.fz 1 u (aI l))∧tm.get 1=some (.fz 1 v (aI m))∧tm.get 9=some (.fz 1 u (aI l))∧tm.get 10=some (.int .i64 (l.length:Int))∧tm.get 11=some (.int .i64 (k:Int))∧RowKit.Hid (uF l m=uF (l.drop k) (m.drop k))) ⟨l.length,_,0,rfl,by simp,by simp,by simp,?_⟩ ?_
 ·simp-implicitDefEqProofs[go_sem];exact Lib.hid trivial
 ·rintro mm st ⟨tm,k,rfl,rfl,hk,ei,t0,t1,t9,t10,t11,hv⟩ J hJ
  refine bt aE _ ?_
  by_cases az:k<l.length
  ·by_cases dj:k<m.length
   ·have bD:=hv.out;rw[aj az,aj dj,uF]at bD;generalize hx:l[k]=x at bD;generalize hy:m[k]=y at bD;have HV:=Lib.hid bD;clear bD;have n1:¬m.length≤k:=by omega
    simp-implicitDefEqProofs[go_sem,t1,t9,t10,t11,az,dj,hx,hy,n1];refine ay.use (zGf x y) ?_
    by_cases hc:Bj x y=0
    ·simp-implicitDefEqProofs[go_sem,aB,t11,hc];refine hJ (l.length-(k+1)) _ (by omega) ⟨_,k+1,rfl,rfl,by omega,by omega,?_⟩;simp(disch:=omega) [go_sem,t0,t1,t9,t10,aY];exact Lib.hid (by rw[HV.out,if_pos hc])
    ·simp-implicitDefEqProofs[go_sem,aB,hc];exact hR _ _ _ (aA.refl _ _) (Fz.eq rfl (by rw[HV.out,if_neg hc]))
   ·have n1:m.length≤k:=by omega
    have bD:=hv.out;rw[aj az,aq n1,uF]at bD;simp-implicitDefEqProofs[go_sem,t1,t9,t10,t11,az,n1];exact hR _ _ _ (aA.refl _ _) (Fz.eq rfl (by rw[bD]))
  ·by_cases dj:k<m.length
   ·have bD:=hv.out;rw[aj dj,aq (by omega),uF]at bD;have n1:l.length<m.length:=by omega
    simp-implicitDefEqProofs[go_sem,t0,t1,t10,t11,az,n1];exact hR _ _ _ (aA.refl _ _) (Fz.eq rfl (by rw[bD]))
   ·have bD:=hv.out;rw[aq (by omega),aq (by omega),uF]at bD;have n1:¬l.length<m.length:=by omega
    simp-implicitDefEqProofs[go_sem,t0,t1,t10,t11,az,n1];exact hR _ _ _ (aA.refl _ _) (Fz.eq rfl (by rw[bD]))
end
end Go.Ev
namespace Go.Ev
open Go.Proofs Go.RowKit
noncomputable section
attribute [-go_sem] dw bP ep gH
theorem zQq:cx.ft.get 95=some Tryz.f95:=aT (by decide) (by kernel_rfl)
theorem zKt:cx.ft.get 45=some Tryz.f45:=aT (by decide) (by kernel_rfl)
structure WR where
 c:List Int
 ok:Bool
 e:Int
def WR.v (r:WR):AV:=.tup [.fz 1 false (aI r.c),.bool r.ok,.int .i64 r.e]
theorem zz3 (a b:Pv)(v:AV):((a.cs++(b.cs++[v])).drop 46).take 1=[v]:=by
 have h1:=a.cs_len;have h2:=b.cs_len;rw[← List.append_assoc,List.drop_append_of_le_length (by simp;omega),aq (by simp;omega)];rfl
theorem Yv (a b:Pv)(v:AV):(a.cs++(b.cs++[v])).length=47:=by simp[a.cs_len,b.cs_len]
def iP (x y:List Nd)(d:List Fc):WR:=
 if nj x (y.map eB) d≠0 then ⟨[],false,nj x (y.map eB) d⟩ else ⟨(jG (nu x (y.map eB) d) d).1,(jG (nu x (y.map eB) d) d).2,0⟩
theorem zzl (u u' w:Bool)(a b:Pv)(d:List Fc)(x y:List Nd)(hx:vn x)(hy:vn y)(hd:d.length≤1000000)(hs:∀f∈d,f.name.size≤1000000000):
  ay Tryz.prog cx 95 [.ip (a.cs++(b.cs++[.fz 4 w (aP d)])),.agg [.fz 4 u (bK x)],.agg [.fz 4 u' (bK y)]] (iP x y d).v:=by
 obtain⟨n0,ns,rfl⟩:∃n0 ns,y=n0::ns:=by
  cases y with
  |nil=>exact absurd rfl hy.ne
  |cons a l=>exact⟨a,l,rfl⟩
 have cI:=hy.ln;have hN:=zJs u' n0 ns (by simp at cI;omega);have hI:=ZO hy;have Oj:=hI.ln;have nJ:=hx.ln;have hA:=zIh u false w x ((n0::ns).map eB) d (by omega) (by omega) hd hs hx.ni hI.ni (fun _=>hx.cu) (fun _=>hI.cu);rw[zTd]at hA;have hAI:=fun h0=>ZK hx hI (d:=d) h0;unfold iP;have tY:=Yv a b (.fz 4 w (aP d));have tZ:=zz3 a b (.fz 4 w (aP d));generalize a.cs++(b.cs++[.fz 4 w (aP d)])=PV at tY tZ;generalize (n0::ns).map eB=z at *;refine ay.mkW fun h nx R hR=>aV (sz:=38) (rs:=[.tmp 6,.tmp 7,.tmp 8]) aE zQq rfl rfl rfl (by simp) ?_;simp-implicitDefEqProofs[go_sem];refine ik mixed aE eO [11,12] [2,7] [(0,11),(1,11),(6,11)] (by kernel_rfl) ?_;simp-implicitDefEqProofs[go_sem];refine gR hN ?_;simp-implicitDefEqProofs[go_sem,fg,tY,tZ];refine gR hA ?_;have E0:∀X Y Z W,aA nx h ((((h.put nx X).put (nx+1) Y).put (nx+1+1) Z).put (nx+1+1) W):=fun X Y Z W=>by
  simp(disch:=omega)only[aL];exact aA.refl _ _
 have z1:¬nx=nx+1+1:=by omega
 have z2:¬nx+1=nx+1+1:=by omega
 by_cases he:nj x z d=0
 ·rw[if_neg (by simpa using he)]at hR;obtain⟨i1,i2⟩:=hAI he;have hL:=zUq false w (nu x z d) d (by omega) hd hs i1;simp-implicitDefEqProofs[go_sem,he,z1];refine ik mixed aE eO [] [5] [] (by kernel_rfl) ?_;simp-implicitDefEqProofs[go_sem,fg,tY,tZ];refine gR hL ?_;simp-implicitDefEqProofs[go_sem];exact hR _ _ _ _ (E0 _ _ _ _) (.tup _ _ (.cons _ _ _ _ (Fz.same _ (by simp[plain,uX])) (.cons _ _ _ _ (.bool _) (.cons _ _ _ _ (.int _ _) .nil)))) (.same _)
 ·rw[if_pos he]at hR;simp-implicitDefEqProofs[go_sem,he,z1];exact hR _ _ _ (.tup [.sl0,.bool false,.int .i64 (nj x z d)]) (E0 _ _ _ _) (.tup _ _ (.cons _ _ _ _ .sl0 (.cons _ _ _ _ (.bool _) (.cons _ _ _ _ (.int _ _) .nil)))) (.tup _ _ (.cons _ _ _ _ (.sl0 1 false) (.cons _ _ _ _ (.same _) (.cons _ _ _ _ (.same _) .nil))))
theorem zUi (g:List Nd)(d:List Fc):(jG g d).1.length≤d.length:=by
 unfold jG;have h1:(gV d).length≤d.length:=by unfold gV;split <;> simp
 have h2:∀(f at_:Nat) (cs:List Int),(gW g f at_ cs).2.length=cs.length:=by
  intro f
  induction f with
  |zero=>intro at_ cs;rfl
  |succ f ih=>
   intro at_ cs;rw[gW];split
   ·rfl
   ·split
    ·rfl
    ·rw[ih];split <;> simp
 split
 ·split
  ·split
   ·rw[h2];exact h1
   ·simp
  ·simp
 ·simp
theorem Lr (x y:List Nd)(d:List Fc):(iP x y d).c.length≤d.length:=by
 unfold iP;split
 ·simp
 ·exact zUi _ _
mutual
theorem SD:∀f:Fm,(bz f).size≤f.size
 |.mk o n c m kids=>by
  rw[bz];split
  ·simp[Fm.size,bn]
  ·have:=X5 kids;simp only[Fm.size];omega
theorem X5:∀l:List Fm,bn (tH l)≤bn l
 |[]=>by rw[tH];exact ae _
 |f::l=>by
  have h1:=SD f;have h2:=X5 l;simp only[tH,bn];omega
end
structure CA where
 f:Bool
 c:List Int
 e:Int
def CA.v (r:CA):AV:=.tup [.bool r.f,.fz 1 false (aI r.c),.int .i64 r.e]
def HA (x y:WR):CA:=
 if x.e≠0 then ⟨false,[],x.e⟩
 else if y.e≠0 then ⟨false,[],y.e⟩
 else ⟨x.ok || y.ok,if x.ok=false∨(y.ok=true∧uF y.c x.c<0) then y.c else x.c,0⟩
def kE (a b:Fm)(d:List Fc):CA:=
 if eA d (bz a)≠0 then ⟨false,[],eA d (bz a)⟩
 else if eA d (bz b)≠0 then ⟨false,[],eA d (bz b)⟩
 else HA (iP (cM d (bz a)) (cM d (bz b)) d) (iP (cM d (bz b)) (cM d (bz a)) d)
theorem zRn (a b:Pv)(v:AV):((a.cs++(b.cs++[v])).drop 5).take 5=a.when_.cs:=by
 rcases a with⟨id,rank,kind,name,value,⟨w1,w2,w3,w4,w5⟩,ex,⟨b1,b2,b3,b4⟩,⟨e1,e2,e3,e4⟩,⟨g1,g2,g3,g4⟩⟩
 rfl
theorem zSm (a b:Pv)(v:AV):((a.cs++(b.cs++[v])).drop 28).take 5=b.when_.cs:=by
 rcases a with⟨id,rank,kind,name,value,⟨w1,w2,w3,w4,w5⟩,ex,⟨b1,b2,b3,b4⟩,⟨e1,e2,e3,e4⟩,⟨g1,g2,g3,g4⟩⟩
 rcases b with⟨iS,mU,mR,mS,jB,⟨s5,Vh,Vk,Vl,Vm⟩,tO,⟨D6,vp,Lu,D7⟩,⟨jY,rM,xw,tN⟩,⟨LH,xz,LI,LJ⟩⟩
 rfl
theorem zPc (w:Bool)(a b:Pv)(d:List Fc)(ha:a.when_.size≤1000000)(hb:b.when_.size≤1000000)(hd:d.length≤1000000)(hs:∀f∈d,f.name.size≤1000000000):
  ay Tryz.prog cx 45 [.ip (a.cs++(b.cs++[.fz 4 w (aP d)]))] (kE a.when_ b.when_ d).v:=by
 have Cf:=ZD a.when_ ha;have hfb:=ZD b.when_ hb;have N3:(bz a.when_).size≤1000000:=Nat.le_trans (SD _) ha;have fe:(bz b.when_).size≤1000000:=Nat.le_trans (SD _) hb;have Tx:=ZG w d (bz a.when_) (by omega) hs N3;have Ty:=ZG w d (bz b.when_) (by omega) hs fe;have Cb:=fun (q1:eA d (bz a.when_)=0) (q2:eA d (bz b.when_)=0)=>zzl false false w a b d _ _ (DQ q1) (DQ q2) hd hs;have zr:=fun (q1:eA d (bz a.when_)=0) (q2:eA d (bz b.when_)=0)=>zzl false false w a b d _ _ (DQ q2) (DQ q1) hd hs;have tY:=Yv a b (.fz 4 w (aP d));have tZ:=zz3 a b (.fz 4 w (aP d));have Ih:=zRn a b (.fz 4 w (aP d));have EA:=zSm a b (.fz 4 w (aP d));generalize a.cs++(b.cs++[.fz 4 w (aP d)])=PV at tY tZ Ih EA Cb zr ⊢;unfold kE;generalize bz a.when_=fa at *;generalize bz b.when_=fb at *;obtain⟨X,hX⟩:∃X,X=cM d fa:=⟨_,rfl⟩;obtain⟨Y,hY⟩:∃Y,Y=cM d fb:=⟨_,rfl⟩;rw[← hX]at Tx Cb zr ⊢;rw[← hY]at Ty Cb zr ⊢;clear hX hY
 refine ay.mkW fun h nx R hR=>aV (sz:=85) (rs:=[.tmp 2,.tmp 3,.tmp 4]) aE zKt rfl rfl rfl (by simp) ?_;have fT:∀(e:Int) (g:Tr ABlk) (ny:Nat),aA nx h g→(∀v g ny u',aA nx h g→Fz g nx v u'→Wk u' (CA.v ⟨false,[],e⟩)→R v g ny)→R (.tup [.bool false,.sl0,.int .i64 e]) g ny:=fun e g ny hE hq=>by
  exact hq _ _ _ (.tup [.bool false,.sl0,.int .i64 e]) hE (.tup _ _ (.cons _ _ _ _ (.bool _) (.cons _ _ _ _ .sl0 (.cons _ _ _ _ (.int _ _) .nil)))) (.tup _ _ (.cons _ _ _ _ (.same _) (.cons _ _ _ _ (.sl0 1 false) (.cons _ _ _ _ (.same _) .nil))))
 have z1:¬nx=nx+1:=by omega
 have z2:¬nx=nx+1+1:=by omega
 have z3:¬nx+1=nx+1+1:=by omega
 simp-implicitDefEqProofs[go_sem];refine ik mixed aE eO [14,15] [5,10] [(4,14),(9,14)] (by kernel_rfl) ?_;simp-implicitDefEqProofs[go_sem,tY,Ih];refine gR Cf ?_;simp-implicitDefEqProofs[go_sem,fg,tY,tZ];refine gR Tx ?_
 by_cases ea:eA d fa=0
 ·rw[if_neg (by simpa using ea)]at hR;simp-implicitDefEqProofs[go_sem,ea];refine ik mixed aE eO [14,15] [5,10] [(4,14),(9,14)] (by kernel_rfl) ?_;simp-implicitDefEqProofs[go_sem,fg,tY,tZ,EA];refine gR hfb ?_;refine gR Ty ?_
  by_cases eb:eA d fb=0
  ·rw[if_neg (by simpa using eb)]at hR;have Cb:=Cb ea eb;have zr:=zr ea eb;simp-implicitDefEqProofs[go_sem,eb];refine ay.use Cb ?_;have l1:=Lr X Y d;have l2:=Lr Y X d;generalize iP X Y d=W1 at *;generalize iP Y X d=W2 at *;obtain⟨c,one,e1⟩:=W1;obtain⟨k,two,e2⟩:=W2;simp only[WR.v,HA]at zr hR l1 l2 ⊢;generalize hM:Tr.put _ (nx+1) (some (bx 92 [.fz 4 false (bK Y)] false 0))=M;have hE:aA nx h M:=by
    rw[← hM];simp(disch:=omega)only[aL];exact aA.refl _ _
   have m0:M.get nx=some (bx 92 [.fz 4 false (bK X)] false 0):=by rw[← hM];simp[go_sem]
   have m1:M.get (nx+1)=some (bx 92 [.fz 4 false (bK Y)] false 0):=by rw[← hM];simp[go_sem]
   clear hM
   by_cases q1:e1=0
   ·subst q1;rw[if_neg (by simp)]at hR;simp-implicitDefEqProofs[go_sem,aB,m0,m1];refine ay.use zr ?_
    by_cases q2:e2=0
    ·subst q2;rw[if_neg (by simp)]at hR;have fin:∀(f:Bool) (l:List Int),(∀v g ny u',aA nx h g→Fz g nx v u'→Wk u' (CA.v ⟨f,l,0⟩)→R v g ny)→R (.tup [.bool f,.fz 1 false (aI l),.int .i64 0]) M (nx+1+1):=fun f l hq=>hq _ _ _ _ hE (Fz.same _ (by simp[plain,bC,uX])) (.same _);cases one with
     |false=>
      have xK:=fin two k (by simpa using hR);cases two with
      |false=>
       simp-implicitDefEqProofs[go_sem,aB];exact xK
      |true=>
       simp-implicitDefEqProofs[go_sem,aB];exact xK
     |true=>
      cases two with
      |false=>
       have xK:=fin true c (by simpa using hR);simp-implicitDefEqProofs[go_sem,aB];exact xK
      |true=>
       have xM:=zNv false false k c (by omega)
       by_cases q3:uF k c<0
       ·have xK:=fin true k (by simpa[q3]using hR);simp-implicitDefEqProofs[go_sem,aB];refine ay.use xM ?_;simp-implicitDefEqProofs[go_sem,aB,q3];exact xK
       ·have xK:=fin true c (by simpa[q3]using hR);simp-implicitDefEqProofs[go_sem,aB];refine ay.use xM ?_;simp-implicitDefEqProofs[go_sem,aB,q3];exact xK
    ·rw[if_pos q2]at hR;simp-implicitDefEqProofs[go_sem,aB,q2];exact fT _ _ _ hE hR
   ·rw[if_pos q1]at hR;simp-implicitDefEqProofs[go_sem,aB,q1];exact fT _ _ _ hE hR
  ·rw[if_pos eb]at hR;simp-implicitDefEqProofs[go_sem,eb];refine fT _ _ _ ?_ hR;simp(disch:=omega)only[aL];exact aA.refl _ _
 ·rw[if_pos ea]at hR;simp-implicitDefEqProofs[go_sem,ea];refine fT _ _ _ ?_ hR;simp(disch:=omega)only[aL];exact aA.refl _ _
end
end Go.Ev
