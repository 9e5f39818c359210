/- Texts. -/
import Derived.Test.YtkdnmldmffkkoaaGreatDoorP14
import Derived.Test.YtkdnmldmffkkoaaGreatDoorP16
set_option linter.unusedSimpArgs false
set_option linter.unusedVariables false
set_option maxRecDepth 100000
set_option maxHeartbeats 8000000
namespace Go.Ev
open Go.Proofs
noncomputable section
attribute [-go_sem] dw bP
def aI (l:List Int):List AV:=l.map (.int .i64)
@[go_sem] theorem Jt (l:List Int):(aI l).length=l.length:=by simp[aI]
@[go_sem] theorem zYa (l:List Int) (k:Nat)(hk:k<(aI l).length):(aI l)[k]=.int .i64 (l[k]'(by simpa[aI]using hk)):=by simp[aI]
theorem zIs:cx.ft.get 20=some Tryz.f20:=aT (by decide) (by kernel_rfl)
theorem Pw (u v:Bool)(l m:List Int)(hl:l.length≤1000000000):ay Tryz.prog cx 20 [.fz 1 u (aI l),.fz 1 v (aI m)] (.bool (decide (l=m))):=by
 refine ay.mk fun h nx R hR=>aV (sz:=26) (rs:=[.tmp 4]) aE zIs rfl rfl rfl (by simp) ?_
 by_cases hlen:l.length=m.length
 ·simp-implicitDefEqProofs[go_sem,hlen];refine bT (fun mm st=>∃tm k,st=.mk tm h nx []∧mm=l.length-k∧k≤l.length∧tm.get 0=some (.fz 1 u (aI l))∧tm.get 1=some (.fz 1 v (aI m))∧tm.get 5=some (.int .i64 (k:Int))∧RowKit.Hid (l.take k=m.take k)) ⟨l.length,_,0,rfl,by simp,by simp,?_⟩ ?_
  ·simp-implicitDefEqProofs[go_sem];exact Lib.hid trivial
  ·rintro mm st ⟨tm,k,rfl,rfl,hk,t0,t1,t5,hv⟩ J hJ
   refine bt aE _ ?_
   by_cases az:k<l.length
   ·have dj:k<m.length:=by omega
    simp-implicitDefEqProofs[go_sem,t0,t1,t5,az,dj];refine ik mixed aE eO [] [] [] (by kernel_rfl) ?_;simp-implicitDefEqProofs[go_sem,t0,t1,t5,az,dj];refine BI (fun hb=>?_) (fun hb=>?_)
    ·simp at hb;simp-implicitDefEqProofs[go_sem];refine hR _ _ _ (aA.refl _ _) (Fz.eq rfl ?_);have:¬l=m:=fun e=>hb (by subst e;rfl);simp[this]
    ·simp at hb;simp-implicitDefEqProofs[go_sem,t0,t1,t5];refine hJ (l.length-(k+1)) _ (by omega) ⟨_,k+1,rfl,rfl,by omega,?_⟩;simp(disch:=omega) [go_sem,t0,t1,t5,aY];refine Lib.hid ?_;rw[List.take_succ_eq_append_getElem az,List.take_succ_eq_append_getElem dj,hv.out,hb]
   ·have:=hv.out;rw[ar (by omega),ar (by omega)]at this;simp-implicitDefEqProofs[go_sem,t0,t1,t5,az];refine hR _ _ _ (aA.refl _ _) (Fz.eq rfl ?_);simp[this]
 ·have hi:¬(l.length:Int)=(m.length:Int):=by omega
  simp-implicitDefEqProofs[go_sem,hlen,hi];refine hR _ _ _ (aA.refl _ _) (Fz.eq rfl ?_);have:¬l=m:=fun e=>hlen (by rw[e]);simp[this]
theorem zMg:cx.ft.get 114=some Tryz.f114:=aT (by decide) (by kernel_rfl)
theorem zR8 (b:Nat):∀(f:Fm) (m:Nat),f.size≤b→m≤1000000000→ay Tryz.prog cx 114 [.agg f.cs,.int .i64 (m:Int)] (.int .i64 ((min f.size (m+1):Nat):Int)):=by
 induction b with
 |zero=>intro f m hf;cases f;simp[Fm.size]at hf
 |succ b ih=>
 rintro⟨o,nm,cm,n,kids⟩ m hf hm
 simp only[Fm.size]at hf ⊢;refine ay.mk fun h nx R hR=>aV (sz:=31) (rs:=[.tmp 4]) aE zMg rfl rfl rfl (by simp) ?_;simp-implicitDefEqProofs[go_sem,Fm.cs];refine bT (fun mm st=>∃tm h' ax k z,st=.mk tm h' ax []∧mm=kids.length-k∧k≤kids.length∧k≤z∧tm.get 1=some (.int .i64 (m:Int))∧tm.get 2=some (.ptr nx 0)∧tm.get 5=some (.int .i64 (z:Int))∧tm.get 6=some (.int .i64 (k:Int))∧RowKit.Hid (z=min (1+bn (kids.take k)) (m+1))∧h'.get nx=some (bx 24 [.int .i64 o,.bs nm,.int .i64 cm,.int .i64 n,.fz 5 false (cy kids)] false 0)∧aA nx h h'∧nx<ax) ⟨kids.length,_,_,_,0,1,rfl,by simp,by simp,by simp,?_⟩ ?_
 ·simp-implicitDefEqProofs[go_sem,bn];exact⟨Lib.hid (by first |trivial |omega |(simp[Nat.min_def])),(aA.refl nx h).put (ae _) _⟩
 ·rintro mm st ⟨tm,h',ax,k,z,rfl,rfl,hk,hz,t1,t2,t5,t6,hv,g0,he,hn⟩ J hJ
  refine bt aE _ ?_;have eN:=hv.out
  by_cases az:k<kids.length
  ·by_cases Ax:z≤m
   ·obtain⟨s1,s2,s3⟩:=qD az;have e1:IntKind.i64.wrap ((m:Int)-(z:Int))=((m-z:Nat):Int):=by rw[aY _ (by omega) (by omega)];omega
    simp-implicitDefEqProofs[go_sem,t1,t2,t5,t6,g0,az,Ax,e1];refine ay.use (ih _ (m-z) (by omega) (by omega)) ?_;simp-implicitDefEqProofs[go_sem,aB,t1,t2,t5,t6,g0,az,Ax];have cD:=size_pos kids[k];refine hJ (kids.length-(k+1)) _ (by omega) ⟨_,_,_,k+1,z+min kids[k].size (m-z+1),rfl,rfl,by omega,by omega,?_⟩;simp(disch:=omega) [go_sem,t1,t2,t5,t6,aY];exact⟨Lib.hid (by omega),g0,he,hn⟩
   ·simp-implicitDefEqProofs[go_sem,t1,t2,t5,t6,g0,az,Ax];refine hR _ _ _ he (Fz.eq rfl ?_);have h2:bn kids=bn (kids.take k)+bn (kids.drop k):=by rw[← La,List.take_append_drop]
    congr 1
    omega
  ·simp-implicitDefEqProofs[go_sem,t1,t2,t5,t6,g0,az];refine hR _ _ _ he (Fz.eq rfl ?_);rw[ar (by omega)]at eN
   congr 1
   omega
theorem K6 (l m:List br):gJ (l++m)=gJ l+gJ m:=by
 induction l with
 |nil=>simp[gJ]
 |cons f l ih=>simp[gJ,ih];omega
theorem zK8 {l:List br}{k:Nat}(hk:k<l.length):gJ (l.take (k+1))=gJ (l.take k)+(l[k]).size∧gJ (l.take k)+(l[k]).size≤gJ l:=by
 have h1:l.take (k+1)=l.take k++[l[k]]:=List.take_succ_eq_append_getElem hk;have h2:gJ l=gJ (l.take (k+1))+gJ (l.drop (k+1)):=by rw[← K6,List.take_append_drop]
 rw[h1,K6]at h2;rw[h1,K6];simp only[gJ,Nat.add_zero]at h2 ⊢;exact⟨trivial,by omega⟩
theorem zLq:cx.ft.get 58=some Tryz.f58:=aT (by decide) (by kernel_rfl)
theorem zHi:cx.ft.get 57=some Tryz.f57:=aT (by decide) (by kernel_rfl)
theorem Qv (b:Nat):∀(f:br) (m:Nat),f.size≤b→m≤1000000000→ay Tryz.prog cx 58 [.agg f.cs,.int .i64 (m:Int)] (.int .i64 ((min f.size (m+1):Nat):Int)):=by
 induction b with
 |zero=>intro f m hf;cases f;simp[br.size]at hf
 |succ b ih=>
 rintro⟨o,nm,cm,kids⟩ m hf hm
 simp only[br.size]at hf ⊢;refine ay.mk fun h nx R hR=>aV (sz:=31) (rs:=[.tmp 4]) aE zLq rfl rfl rfl (by simp) ?_;simp-implicitDefEqProofs[go_sem,br.cs];refine bT (fun mm st=>∃tm h' ax k z,st=.mk tm h' ax []∧mm=kids.length-k∧k≤kids.length∧k≤z∧tm.get 1=some (.int .i64 (m:Int))∧tm.get 2=some (.ptr nx 0)∧tm.get 5=some (.int .i64 (z:Int))∧tm.get 6=some (.int .i64 (k:Int))∧RowKit.Hid (z=min (1+gJ (kids.take k)) (m+1))∧h'.get nx=some (bx 28 [.int .i64 o,.bs nm,.int .i64 cm,.fz 4 false (mf kids)] false 0)∧aA nx h h'∧nx<ax) ⟨kids.length,_,_,_,0,1,rfl,by simp,by simp,by simp,?_⟩ ?_
 ·simp-implicitDefEqProofs[go_sem,gJ];exact⟨Lib.hid (by first |trivial |omega |(simp[Nat.min_def])),(aA.refl nx h).put (ae _) _⟩
 ·rintro mm st ⟨tm,h',ax,k,z,rfl,rfl,hk,hz,t1,t2,t5,t6,hv,g0,he,hn⟩ J hJ
  refine bt aE _ ?_;have eN:=hv.out
  by_cases az:k<kids.length
  ·by_cases Ax:z≤m
   ·obtain⟨s1,s3⟩:=zK8 az;have e1:IntKind.i64.wrap ((m:Int)-(z:Int))=((m-z:Nat):Int):=by rw[aY _ (by omega) (by omega)];omega
    simp-implicitDefEqProofs[go_sem,t1,t2,t5,t6,g0,az,Ax,e1];refine ay.use (ih _ (m-z) (by omega) (by omega)) ?_;simp-implicitDefEqProofs[go_sem,aB,t1,t2,t5,t6,g0,az,Ax];have cD:=br.size_pos kids[k];refine hJ (kids.length-(k+1)) _ (by omega) ⟨_,_,_,k+1,z+min kids[k].size (m-z+1),rfl,rfl,by omega,by omega,?_⟩;simp(disch:=omega) [go_sem,t1,t2,t5,t6,aY];exact⟨Lib.hid (by omega),g0,he,hn⟩
   ·simp-implicitDefEqProofs[go_sem,t1,t2,t5,t6,g0,az,Ax];refine hR _ _ _ he (Fz.eq rfl ?_);have h2:gJ kids=gJ (kids.take k)+gJ (kids.drop k):=by rw[← K6,List.take_append_drop]
    congr 1
    omega
  ·simp-implicitDefEqProofs[go_sem,t1,t2,t5,t6,g0,az];refine hR _ _ _ he (Fz.eq rfl ?_);rw[ar (by omega)]at eN
   congr 1
   omega
theorem zJz (f:Fm) (m:Nat)(hm:m≤1000000000):ay Tryz.prog cx 57 [.agg f.cs,.int .i64 (m:Int)] (.bool (decide (f.size≤m))):=by
 refine ay.mk fun h nx R hR=>aV (sz:=10) (rs:=[.tmp 4]) aE zHi rfl rfl rfl (by simp) ?_;simp-implicitDefEqProofs[go_sem];refine ay.use (zR8 f.size f m (ae _) hm) ?_;simp-implicitDefEqProofs[go_sem,aB];refine hR _ _ _ ((aA.refl nx h).put (ae _) _) (Fz.eq rfl ?_)
 congr 1
 by_cases e:f.size≤m
 ·simp[e];omega
 ·simp[e];omega
theorem zL6:cx.ft.get 29=some Tryz.f29:=aT (by decide) (by kernel_rfl)
def vi (l:List Fc) (m:Nat):Prop:=l.length≤m∧∀i (h:i<l.length),(l[i]).name.size≤100
open Classical in
theorem zIv (full:Bool)(l:List Fc) (m:Nat)(hm:m≤1000000000):ay Tryz.prog cx 29 [.agg [.fz 4 full (aP l)],.int .i64 (m:Int)] (.bool (decide (vi l m))):=by
 refine ay.mk fun h nx R hR=>aV (sz:=31) (rs:=[.tmp 4]) aE zL6 rfl rfl rfl (by simp) ?_;simp-implicitDefEqProofs[go_sem];obtain⟨H,hH⟩:∃H,H=h.put nx (some (bx 35 [.fz 4 full (aP l)] false 0)):=⟨_,rfl⟩;have g0:H.get nx=some (bx 35 [.fz 4 full (aP l)] false 0):=by rw[hH];simp[go_sem]
 have he:aA nx h H:=by rw[hH];exact(aA.refl nx h).put (ae _) _
 rw[← hH];clear hH;refine bT (fun mm st=>∃tm k,st=.mk tm H (nx+1) []∧mm=m-k∧k≤l.length∧k≤m∧tm.get 1=some (.int .i64 (m:Int))∧tm.get 2=some (.ptr nx 0)∧tm.get 5=some (.int .i64 (k:Int))∧RowKit.Hid (∀i (h:i<l.length),i<k→(l[i]).name.size≤100)) ⟨m,_,0,rfl,by simp,by simp,by simp,?_⟩ ?_
 ·simp-implicitDefEqProofs[go_sem];exact Lib.hid trivial
 ·rintro mm st ⟨tm,k,rfl,rfl,hk,ui,t1,t2,t5,hv⟩ J hJ
  refine bt aE _ ?_
  by_cases az:k<l.length
  ·by_cases sD:k<m
   ·obtain⟨f,hf⟩:∃f,l[k]=f:=⟨_,rfl⟩;simp-implicitDefEqProofs[go_sem,t1,t2,t5,g0,az,sD,hf,Fc.cs];refine BI (fun hb=>?_) (fun hb=>?_)
    ·simp at hb;simp-implicitDefEqProofs[go_sem];refine hR _ _ _ he (Fz.eq rfl ?_);have:¬vi l m:=fun q=>by have:=q.2 k az;rw[hf]at this;omega
     simp[this]
    ·simp at hb;simp-implicitDefEqProofs[go_sem,t1,t2,t5,g0];refine hJ (m-(k+1)) _ (by omega) ⟨_,k+1,rfl,rfl,by omega,by omega,?_⟩;simp(disch:=omega) [go_sem,t1,t2,t5,aY];refine Lib.hid (fun i h hi=>?_)
     by_cases e:i=k
     ·subst e;rw[hf];omega
     ·exact hv.out i h (by omega)
   ·simp-implicitDefEqProofs[go_sem,t1,t2,t5,g0,az,sD];refine hR _ _ _ he (Fz.eq rfl ?_);have:¬vi l m:=fun q=>by have:=q.1;omega
    have h2:¬(l.length:Int)≤(m:Int):=by omega
    simp[this,h2]
    try omega
  ·simp-implicitDefEqProofs[go_sem,t1,t2,t5,g0,az];refine hR _ _ _ he (Fz.eq rfl ?_);have:vi l m:=⟨by omega,fun i h=>hv.out i h (by omega)⟩;simp[this]
   try omega
theorem zHs:cx.ft.get 28=some Tryz.f28:=aT (by decide) (by kernel_rfl)
def lO (p:Pv) (m:Nat):Prop:=(p.except.length≤30∧∀i (h:i<p.except.length),(p.except[i]).size≤60)∧p.when_.size≤m∧p.begin_.size≤m∧p.end_.size≤m∧p.again.size≤m
open Classical in
theorem zMw (p:Pv) (m:Nat)(hm:m≤1000000000):ay Tryz.prog cx 28 [.agg p.cs,.int .i64 (m:Int)] (.bool (decide (lO p m))):=by
 have cw:=zJz p.when_ m hm;have c1:=Qv _ p.begin_ m (ae _) hm;have c2:=Qv _ p.end_ m (ae _) hm;have c3:=Qv _ p.again m (ae _) hm;obtain⟨Q,hQ⟩:∃Q,Q=lO p m:=⟨_,rfl⟩;rw[← hQ];unfold lO at hQ
 rcases p with⟨id,rank,kind,name,value,⟨w1,w2,w3,w4,w5⟩,ex,⟨b1,b2,b3,b4⟩,⟨e1,e2,e3,e4⟩,⟨g1,g2,g3,g4⟩⟩
 dsimp only at cw c1 c2 c3 hQ ⊢
 generalize (Fm.mk w1 w2 w3 w4 w5).size=sw at cw hQ;generalize (br.mk b1 b2 b3 b4).size=s1 at c1 hQ;generalize (br.mk e1 e2 e3 e4).size=s2 at c2 hQ;generalize (br.mk g1 g2 g3 g4).size=s3 at c3 hQ;simp only[br.cs,Fm.cs]at cw c1 c2 c3;refine ay.mk fun h nx R hR=>aV (sz:=58) (rs:=[.tmp 4]) aE zHs rfl rfl rfl (by simp) ?_;simp-implicitDefEqProofs[go_sem,Pv.cs,Fm.cs,br.cs];generalize hB:bx 30 _ false 0=B;have fin:∀(H:Tr ABlk) (ny:Nat) (x:Bool),aA nx h H→(x=true↔Q)→R (.bool x) H ny:=fun H ny x he hx=>hR _ _ _ he (Fz.eq rfl (by congr 1;by_cases q:Q <;> simp[q]at hx ⊢ <;> exact hx));refine bT (fun mm st=>∃tm k,st=.mk tm (h.put nx (some B)) (nx+1) []∧mm=30-k∧k≤ex.length∧k≤30∧tm.get 1=some (.int .i64 (m:Int))∧tm.get 2=some (.ptr nx 0)∧tm.get 5=some (.int .i64 (k:Int))∧RowKit.Hid (∀i (h:i<ex.length),i<k→(ex[i]).size≤60)) ⟨30,_,0,rfl,by simp,by simp,by simp,?_⟩ ?_
 ·simp-implicitDefEqProofs[go_sem];exact Lib.hid trivial
 ·rintro mm st ⟨tm,k,rfl,rfl,hk,ui,t1,t2,t5,hv⟩ J hJ
  refine bt aE _ ?_;have he:aA nx h (h.put nx (some B)):=(aA.refl nx h).put (ae _) _;subst hB
  by_cases az:k<ex.length
  ·by_cases sD:k<30
   ·have zZ:(k:Int)<30:=by omega
    simp-implicitDefEqProofs[go_sem,t1,t2,t5,az,zZ];refine BI (fun hb=>?_) (fun hb=>?_)
    ·simp at hb;simp-implicitDefEqProofs[go_sem];refine fin _ _ _ he ?_;rw[hQ];simp;intro q1 q2;have:=q2 k az;omega
    ·simp at hb;simp-implicitDefEqProofs[go_sem,t1,t2,t5];refine hJ (30-(k+1)) _ (by omega) ⟨_,k+1,rfl,rfl,by omega,by omega,?_⟩;simp(disch:=omega) [go_sem,t1,t2,t5,aY];refine Lib.hid (fun i h hi=>?_)
     by_cases e:i=k
     ·subst e;omega
     ·exact hv.out i h (by omega)
   ·have LY:¬(ex.length:Int)≤30:=by omega
    have zZ:¬(k:Int)<30:=by omega
    simp-implicitDefEqProofs[go_sem,t1,t2,t5,az,zZ,LY];refine fin _ _ _ he ?_;rw[hQ];simp;intro q1;omega
  ·have LY:(ex.length:Int)≤30:=by omega
   have aR:ex.length≤30∧∀i (h:i<ex.length),(ex[i]).size≤60:=⟨by omega,fun i h=>hv.out i h (by omega)⟩;have EB:Q↔sw≤m∧s1≤m∧s2≤m∧s3≤m:=by rw[hQ];exact⟨fun q=>q.2,fun q=>⟨aR,q⟩⟩
   have HQ:=Lib.hid EB;clear EB hQ aR;simp-implicitDefEqProofs[go_sem,t1,t2,t5,az,LY];refine ay.use cw ?_
   by_cases d0:sw≤m
   ·simp-implicitDefEqProofs[go_sem,aB,t1,t2,t5,d0];refine ay.use c1 ?_
    by_cases d1:min s1 (m+1)≤m
    ·simp-implicitDefEqProofs[go_sem,aB,t1,t2,t5,d0,d1];refine ay.use c2 ?_
     by_cases d2:min s2 (m+1)≤m
     ·simp-implicitDefEqProofs[go_sem,aB,t1,t2,t5,d0,d1,d2];refine ay.use c3 ?_
      by_cases d3:min s3 (m+1)≤m
      ·simp-implicitDefEqProofs[go_sem,aB,t1,t2,t5,d0,d1,d2,d3];refine fin _ _ _ he ?_;rw[HQ.out];simp only[true_iff];omega
      ·simp-implicitDefEqProofs[go_sem,aB,t1,t2,t5,d0,d1,d2,d3];refine fin _ _ _ he ?_;rw[HQ.out];simp only[Bool.false_eq_true,false_iff];omega
     ·simp-implicitDefEqProofs[go_sem,aB,t1,t2,t5,d0,d1,d2];refine fin _ _ _ he ?_;rw[HQ.out];simp only[Bool.false_eq_true,false_iff];omega
    ·simp-implicitDefEqProofs[go_sem,aB,t1,t2,t5,d0,d1];refine fin _ _ _ he ?_;rw[HQ.out];simp only[Bool.false_eq_true,false_iff];omega
   ·simp-implicitDefEqProofs[go_sem,aB,t1,t2,t5,d0];refine fin _ _ _ he ?_;rw[HQ.out];simp[d0]
def rG (l:List Pv):List AV:=l.map fun p=>.agg p.cs
@[go_sem] theorem zWd (l:List Pv):(rG l).length=l.length:=by simp[rG]
@[go_sem] theorem zVz (l:List Pv) (k:Nat)(hk:k<(rG l).length):(rG l)[k]=.agg (l[k]'(by simpa[rG]using hk)).cs:=by simp[rG]
@[go_sem] theorem Pv.cs_len (p:Pv):p.cs.length=23:=by simp[Pv.cs,Fm.cs_len,br.cs_len]
@[go_sem] theorem Pv.cs_take (p:Pv):p.cs.take 23=p.cs:=ar (by simp[Pv.cs_len])
theorem ft9:cx.ft.get 9=some Tryz.f9:=aT (by decide) (by kernel_rfl)
open Classical in
theorem ZX (u v:Bool)(l:List Fc)(ps:List Pv)(hp:ps.length≤1000000000):ay Tryz.prog cx 9 [.agg [.fz 4 u (aP l)],.fz 23 v (rG ps)] (.bool (decide ((∀i (h:i<ps.length),lO ps[i] 40)∧vi l 8))):=by
 refine ay.mk fun h nx R hR=>aV (sz:=20) (rs:=[.tmp 4]) aE ft9 rfl rfl rfl (by simp) ?_;simp-implicitDefEqProofs[go_sem];refine bT (fun mm st=>∃tm k,st=.mk tm (h.put nx (some (bx 35 [.fz 4 u (aP l)] false 0))) (nx+1) []∧mm=ps.length-k∧k≤ps.length∧tm.get 1=some (.fz 23 v (rG ps))∧tm.get 2=some (.ptr nx 0)∧tm.get 5=some (.int .i64 (k:Int))∧RowKit.Hid (∀i (h:i<ps.length),i<k→lO ps[i] 40)) ⟨ps.length,_,0,rfl,by simp,by simp,?_⟩ ?_
 ·simp-implicitDefEqProofs[go_sem];exact Lib.hid trivial
 ·rintro mm st ⟨tm,k,rfl,rfl,hk,t1,t2,t5,hv⟩ J hJ
  refine bt aE _ ?_;have he:aA nx h (h.put nx (some (bx 35 [.fz 4 u (aP l)] false 0))):=(aA.refl nx h).put (ae _) _
  by_cases az:k<ps.length
  ·simp-implicitDefEqProofs[go_sem,t1,t2,t5,az];refine ay.use (zMw ps[k] 40 (by omega)) ?_
   by_cases hq:lO ps[k] 40
   ·simp-implicitDefEqProofs[go_sem,aB,t1,t2,t5,hq];refine hJ (ps.length-(k+1)) _ (by omega) ⟨_,k+1,rfl,rfl,by omega,?_⟩;simp(disch:=omega) [go_sem,t1,t2,t5,aY];refine Lib.hid (fun i h hi=>?_)
    by_cases e:i=k
    ·subst e;exact hq
    ·exact hv.out i h (by omega)
   ·simp-implicitDefEqProofs[go_sem,aB,t1,t2,t5,hq];refine hR _ _ _ he (Fz.eq rfl ?_)
    congr 1
    symm
    exact decide_eq_false (fun q=>hq (q.1 k az))
  ·simp-implicitDefEqProofs[go_sem,t1,t2,t5,az];refine ay.use (zIv u l 8 (by omega)) ?_;simp-implicitDefEqProofs[go_sem,aB];refine hR _ _ _ he (Fz.eq rfl ?_)
   congr 1
   have aR:∀i (h:i<ps.length),lO ps[i] 40:=fun i h=>hv.out i h (by omega)
   by_cases q:vi l 8
   ·rw[decide_eq_true q,decide_eq_true ⟨aR,q⟩]
   ·rw[decide_eq_false q,decide_eq_false (fun x=>q x.2)]
theorem zQt:cx.ft.get 135=some Tryz.f135:=aT (by decide) (by kernel_rfl)
theorem zI3:cx.ft.get 91=some Tryz.f91:=aT (by decide) (by kernel_rfl)
open Classical in
def iJ (l:List ByteArray)(x:ByteArray):List ByteArray:=if x∈l then l else l++[x]
def cQ (l:List ByteArray):List ByteArray:=l.foldl iJ []
theorem zKu (l:List ByteArray)(x:ByteArray):cQ (l++[x])=iJ (cQ l) x:=by simp[cQ]
theorem zRh {l:List ByteArray}{x y:ByteArray}:y∈iJ l x↔y∈l∨y=x:=by
 unfold iJ;split
 ·rename_i h;exact⟨.inl,fun h1=>by rcases h1 with h1 |h1;exact h1;rw[h1];exact h⟩
 ·simp
theorem uG (y:ByteArray)(l:List ByteArray):y∈cQ l↔y∈l:=by
 have key:∀(l a:List ByteArray),y∈l.foldl iJ a↔y∈a∨y∈l:=by
  intro l
  induction l with
  |nil=>intro a;simp
  |cons x l ih=>
   intro a;rw[List.foldl_cons,ih,zRh];simp[or_assoc]
 simpa[cQ]using key l []
theorem zKj (l:List ByteArray):(cQ l).length≤l.length:=by
 have key:∀(l a:List ByteArray),(l.foldl iJ a).length≤a.length+l.length:=by
  intro l
  induction l with
  |nil=>intro a;simp
  |cons x l ih=>
   intro a;rw[List.foldl_cons];have:=ih (iJ a x);have h2:(iJ a x).length≤a.length+1:=by unfold iJ;split <;> simp
   simp;omega
 simpa[cQ]using key l []
theorem Qm (l:List ByteArray):(cQ l).Nodup:=by
 have key:∀(l a:List ByteArray),a.Nodup→(l.foldl iJ a).Nodup:=by
  intro l
  induction l with
  |nil=>intro a h;exact h
  |cons x l ih=>
   intro a h;rw[List.foldl_cons];refine ih _ ?_;unfold iJ;split
   ·exact h
   ·rename_i hx;rw[List.nodup_append];exact⟨h,by simp,fun a ha b hb e=>by simp at hb;subst hb;subst e;exact hx ha⟩
 exact key l [] (by simp)
theorem Ri (l:List ByteArray):∀(n i:Nat),(fZ l n)[i]?=(l[i]?).map fun x=>(.bs x,.bool true,n+i):=by
 induction l with
 |nil=>intro n i;simp[fZ]
 |cons y l ih=>
  intro n i;cases i with
  |zero=>simp[fZ]
  |succ i=>simp[fZ,ih,show n+1+i=n+(i+1) by omega]
theorem Jn {x:ByteArray}:∀{l:List ByteArray}(i:Nat),x∈l→∃j,l[j]?=some x∧rN x l i=some (i+j,.bool true)
 |[],_,h=>by cases h
 |y::l,i,h=>by
  rw[rN]
  by_cases e:x=y
  ·exact⟨0,by simp[e],by simp[e]⟩
  ·rw[if_neg e];have hm:x∈l:=by
    rcases List.mem_cons.1 h with h1 |h1
    ·exact absurd h1 e
    ·exact h1
   obtain⟨j,h1,h2⟩:=Jn (i+1) hm;exact⟨j+1,by simpa using h1,by rw[h2];congr 2;omega⟩
theorem Sp {x:ByteArray}{l:List ByteArray}{j:Nat}(hj:l[j]?=some x):(fZ l 0).modify j (fun e=>match e with |(_,_,n)=>(.bs x,.bool true,n))=fZ l 0:=by
 apply List.ext_getElem?;intro i;rw[List.getElem?_modify,Ri]
 by_cases e:j=i
 ·subst e;simp[hj]
 ·simp[e]
def setM (l:List ByteArray):ABlk:=.map (fZ (cQ l) 0) (cQ l).length
theorem XY (full:Bool)(l:List ByteArray)(hl:l.length≤1000000000)(h:Tr ABlk) (nx:Nat)(R:AV→Tr ABlk→Nat→Prop)(hR:∀g,aA nx h g→g.get nx=some (setM l)→R (.map nx) g (nx+1)):aN Tryz.prog cx 135 [.fz 1 full (bf l)] h nx R:=by
 refine aV (sz:=17) (rs:=[.tmp 2]) aE zQt rfl rfl rfl (by simp) ?_;simp-implicitDefEqProofs[go_sem];refine bT (fun mm st=>∃tm h' k,st=.mk tm h' (nx+1) []∧mm=l.length-k∧k≤l.length∧tm.get 3=some (.map nx)∧tm.get 7=some (.fz 1 full (bf l))∧tm.get 8=some (.int .i64 (l.length:Int))∧tm.get 9=some (.int .i64 (k:Int))∧aA nx h h'∧h'.get nx=some (.map (fZ (cQ (l.take k)) 0) (cQ (l.take k)).length)) ⟨l.length,_,_,0,rfl,by simp,by simp,?_⟩ ?_
 ·simp-implicitDefEqProofs[go_sem,fZ,cQ];exact(aA.refl nx h).put (ae _) _
 ·rintro mm st ⟨tm,h',k,rfl,rfl,hk,t3,t7,t8,t9,he,g0⟩ J hJ
  refine bt aE _ ?_
  by_cases az:k<l.length
  ·have ht:cQ (l.take (k+1))=iJ (cQ (l.take k)) l[k]:=by rw[List.take_succ_eq_append_getElem az,zKu]
   by_cases hx:l[k]∈cQ (l.take k)
   ·obtain⟨j,h1,h2⟩:=Jn 0 hx;rw[Nat.zero_add]at h2;have h3:=Sp h1;have Oa:cQ (l.take (k+1))=cQ (l.take k):=by rw[ht,iJ,if_pos hx]
    simp-implicitDefEqProofs[go_sem,t3,t7,t8,t9,az,g0,h2];refine hJ (l.length-(k+1)) _ (by omega) ⟨_,_,k+1,rfl,rfl,by omega,?_⟩;simp(disch:=omega) [go_sem,t3,t7,t8,t9,aY];refine⟨he.put (ae _) _,?_⟩;rw[Oa];simpa using h3
   ·have Oa:cQ (l.take (k+1))=cQ (l.take k)++[l[k]]:=by rw[ht,iJ,if_neg hx]
    simp-implicitDefEqProofs[go_sem,t3,t7,t8,t9,az,g0,hx];refine hJ (l.length-(k+1)) _ (by omega) ⟨_,_,k+1,rfl,rfl,by omega,?_⟩;simp(disch:=omega) [go_sem,t3,t7,t8,t9,aY];refine⟨he.put (ae _) _,?_⟩;rw[Oa,← Hu];simp
  ·simp-implicitDefEqProofs[go_sem,t3,t7,t8,t9,az];refine hR _ he ?_;rw[g0,ar (by omega)];rfl
theorem Lc {l:List ByteArray}{e:AV×AV×Nat}:e∈fZ l 0↔∃i,∃h:i<l.length,e=(.bs l[i],.bool true,i):=by
 rw[List.mem_iff_getElem?];constructor
 ·rintro⟨i,h⟩
  rw[Ri]at h;cases hi:l[i]? with
  |none=>rw[hi]at h;cases h
  |some x=>
   rw[hi]at h;obtain⟨h1,h2⟩:=List.getElem?_eq_some_iff.1 hi;simp at h;exact⟨i,h1,by rw[← h,h2]⟩
 ·rintro⟨i,h,e⟩
  refine⟨i,?_⟩;rw[Ri,aa h,e];simp
theorem YV (l:List ByteArray):∀n,(fZ l n).map (fun e=>e.2.2)=(List.range l.length).map (n+·):=by
 induction l with
 |nil=>intro n;rfl
 |cons x l ih=>
  intro n;rw[fZ,List.map_cons,ih,List.length_cons,List.range_succ_eq_map];simp[List.map_map];intro a _;omega
theorem zMm (l:List ByteArray):((fZ l 0).map (fun e=>e.2.2)).Nodup:=by
 rw[YV];simp;exact List.nodup_range
theorem Ha {α:Type}:∀{s t:List α},s.Nodup→(∀x∈s,x∈t)→s.length≤t.length
 |[],t,_,_=>by simp
 |x::s,t,hn,h=>by
  obtain⟨l1,l2,rfl⟩:=List.append_of_mem (h x ao);rw[List.nodup_cons]at hn;have:=Ha (t:=l1++l2) hn.2 fun y hy=>by
   have h1:=h y (ak _ hy);simp only[List.mem_append,List.mem_cons]at h1 ⊢
   rcases h1 with h1 |h1 |h1
   ·exact .inl h1
   ·exact absurd (h1 ▸ hy) hn.1
   ·exact .inr h1
  simp at this ⊢;omega
theorem zL5 {n:Nat}{s:List Nat}(h1:s.Nodup)(h2:∀b∈s,b<n):s.length≤n:=by
 have:=Ha h1 (t:=List.range n) fun b hb=>List.mem_range.2 (h2 b hb);simpa using this
theorem zTt {a b:List ByteArray}(h:∀x,x∈a→x∈b):((cQ a).length=(cQ b).length↔∀x,x∈b→x∈a):=by
 have hs:∀x∈cQ a,x∈cQ b:=fun x hx=>(uG x b).2 (h x ((uG x a).1 hx));have s1:=Ha (Qm a) hs;constructor
 ·intro e x hx
  rcases Classical.em (x∈a) with h1 |h1
  ·exact h1
  ·have h2:¬x∈cQ a:=fun q=>h1 ((uG x a).1 q);have:=Ha (s:=x::cQ a) (t:=cQ b) (List.nodup_cons.2 ⟨h2,Qm a⟩) fun y hy=>by
    rcases List.mem_cons.1 hy with h3 |h3
    ·rw[h3];exact(uG x b).2 hx
    ·exact hs y h3
   simp at this;omega
 ·intro h2;have s2:=Ha (Qm b) (t:=cQ a) (fun x hx=>(uG x a).2 (h2 x ((uG x b).1 hx)));omega
def RT (o:Option ABlk)(h:Tr ABlk) (nx:Nat):R:=match o with
 |some (.map es _)=>.val (.int .i64 (es.length:Int)) h nx
 |_=>.fail
@[go_sem] theorem ye8 (k e:TypeId) (s b:Nat)(z:Option AV)(f:List (Nat×Nat×Bool)) (i:Nat)(h:Tr ABlk) (nx:Nat):lP (.mk (.map k e) s b z f) (.map i) h nx=RT (h.get i) h nx:=by
 unfold lP RT;simp only;cases h.get i with
 |none=>rfl
 |some B=>cases B <;> simp[vInt,fN_eq]
@[go_sem] theorem ycr (es:List (AV×AV×Nat)) (cl:Nat)(h:Tr ABlk) (nx:Nat):RT (some (.map es cl)) h nx=.val (.int .i64 (es.length:Int)) h nx:=rfl
open Classical in
theorem zG2 (fa fb:Bool)(a b:List ByteArray)(ha:a.length≤1000000000)(hb:b.length≤1000000000):ay Tryz.prog cx 91 [.fz 1 fa (bf a),.fz 1 fb (bf b)] (.bool (decide (∀x,x∈a↔x∈b))):=by
 refine ay.mk fun h nx R hR=>aV (sz:=27) (rs:=[.tmp 4]) aE zI3 rfl rfl rfl (by simp) ?_;simp-implicitDefEqProofs[go_sem];refine XY fa a ha _ _ _ fun g1 e1 m1=>?_;simp-implicitDefEqProofs[go_sem,aB];refine XY fb b hb _ _ _ fun g2 e2 m2=>?_;have UQ:g2.get nx=some (setM a):=by rw[e2 nx (by omega)];exact m1
 have E:aA nx h g2:=fun k hk=>by rw[e2 k (by omega)];exact e1 k hk
 have la:=zKj a;simp-implicitDefEqProofs[go_sem,aB];refine⟨nx,_,_,_,_,_,_,_,_,by simp[go_sem],UQ,zIx,?_⟩;simp-implicitDefEqProofs[go_sem,fg];refine bT (fun mm st=>∃tm h' seen cl,st=.mk tm h' (nx+1+1+1) []∧mm=(cQ a).length-seen.length∧tm.get 5=some (.map nx)∧tm.get 6=some (.map (nx+1))∧tm.get 13=some (.ptr (nx+1+1) 0)∧aA nx h h'∧h'.get nx=some (setM a)∧h'.get (nx+1)=some (setM b)∧h'.get (nx+1+1)=some (.miter nx (cQ a).length seen cl)∧(cQ a).length≤cl∧RowKit.Hid (seen.Nodup∧(∀q∈seen,q<(cQ a).length)∧∀q (hq:q<(cQ a).length),q∈seen→(cQ a)[q]∈b)) ⟨(cQ a).length,_,_,[],(cQ a).length,rfl,by simp,?_⟩ ?_
 ·have k1:¬nx=nx+1+1:=by omega
  have k2:¬nx+1=nx+1+1:=by omega
  simp-implicitDefEqProofs[go_sem,k1,k2,UQ,m2];exact⟨E.put (by omega) _,Lib.hid trivial⟩
 ·rintro mm st ⟨tm,h',seen,cl,rfl,rfl,t5,t6,t13,hE,g1,g2,g3,aX,hv⟩ J hJ
  refine bt aE _ ?_;have k1:¬nx=nx+1+1:=by omega
  have k2:¬nx+1=nx+1+1:=by omega
  have bF:=hv.out;simp-implicitDefEqProofs[go_sem,t5,t6,t13];refine⟨nx+1+1,nx,(cQ a).length,seen,cl,_,_,by simp[go_sem,t13],g3,g1,fun e he=>?_,aX,fun aR=>?_,fun e he ot=>?_⟩
  ·obtain⟨i,hi,rfl⟩:=Lc.1 he;exact hi
  ·have sQ:∀x,x∈a→x∈b:=by
    intro x hx;obtain⟨i,hi,e⟩:=List.getElem_of_mem ((uG x a).2 hx);have:=bF.2.2 i hi (aR _ (Lc.2 ⟨i,hi,rfl⟩));rw[e]at this;exact this
   have heq:=zTt sQ;simp-implicitDefEqProofs[go_sem,fg,t5,t6,t13,g1,g2,setM];refine hR _ _ _ hE (Fz.eq rfl ?_)
   congr 1
   have hlen:∀l:List ByteArray,(fZ l 0).length=l.length:=fun l=>by
    have:=congrArg List.length (YV l 0);simpa using this
   by_cases hq:(cQ a).length=(cQ b).length
   ·have:=heq.1 hq;have h3:∀x,x∈a↔x∈b:=fun x=>⟨sQ x,this x⟩;simp[hlen,hq,h3]
   ·have h3:¬∀x,x∈a↔x∈b:=fun h3=>hq (heq.2 fun x hx=>(h3 x).2 hx);have h4:¬((cQ a).length:Int)=((cQ b).length:Int):=by omega
    simp[hlen,h4,h3]
  ·obtain⟨i,hi,rfl⟩:=Lc.1 he;simp only at ot;simp-implicitDefEqProofs[go_sem,fg,t5,t6,t13];refine⟨nx+1+1,nx,(cQ a).length,seen,fZ (cQ a) 0,(cQ a).length,(.bs (cQ a)[i],.bool true,i),by simp[go_sem,t13],by simp[go_sem],by simp[go_sem,k1];exact g1,Lc.2 ⟨i,hi,rfl⟩,zMm _,?_⟩
   by_cases gZ:(cQ a)[i]∈cQ b
   ·simp-implicitDefEqProofs[go_sem,fg,t5,t6,t13,k1,k2,g1,g2,setM,gZ];have oU:(seen++[i]).Nodup:=by
     rw[List.nodup_append];exact⟨bF.1,by simp,fun x hx y hy e=>by simp at hy;subst hy;subst e;exact ot hx⟩
    have cg:∀q∈seen++[i],q<(cQ a).length:=by
     intro q hq
     rcases List.mem_append.1 hq with h1 |h1
     ·exact bF.2.1 q h1
     ·simp at h1;omega
    have jd:=zL5 oU cg;simp at jd;refine hJ ((cQ a).length-(seen++[i]).length) _ (by simp;omega) ⟨_,_,seen++[i],(cQ a).length,rfl,rfl,?_⟩;simp[go_sem,t5,t6,t13,k1,k2,g1,g2,setM];refine⟨hE.put (by omega) _,Lib.hid ⟨oU,fun q hq=>cg q (by simpa using hq),fun q hq hm=>?_⟩⟩
    rcases hm with h1 |h1
    ·exact bF.2.2 q hq h1
    ·subst h1;exact(uG _ b).1 gZ
   ·simp-implicitDefEqProofs[go_sem,fg,t5,t6,t13,k1,k2,g1,g2,setM,gZ,bP];refine hR _ _ _ (hE.put (i:=nx+1+1) (by omega) _) (Fz.eq rfl ?_);have h3:¬∀x,x∈a↔x∈b:=fun h3=>gZ ((uG _ b).2 ((h3 _).1 ((uG _ a).1 (ai hi))));simp[h3]
end
end Go.Ev
namespace Go.Ev
noncomputable section
variable {P : Program} {c : Cx} {sz : Nat} {tm : Tr AV} {h : Tr ABlk} {nx : Nat} {ds : List DE} {s : AS} {ops : List Oper} {Wl Cl : List Nat} {U : List (Nat × Nat)}
@[go_sem ↓] theorem ye0 (K:(Nat→Tr ABlk)→AS→Prop) (i:Nat)(hs:Nat→Tr ABlk):tC P c sz ops Wl Cl U K [] i hs s=K hs s:=rfl
@[go_sem ↓] theorem zV2 (K:(Nat→Tr ABlk)→AS→Prop)(o:Oper)(l:List Oper) (i:Nat)(hs:Nat→Tr ABlk):tC P c sz ops Wl Cl U K (o::l) i hs s=pB P c sz ops Wl Cl U i hs o (tC P c sz ops Wl Cl U K l (i+1)) s:=rfl
@[go_sem ↓] theorem ydp (i:Nat)(o1 o2:Oper)(t:List Oper):uQ i (o1::o2::t)=o1::wO i o2::t:=rfl
@[go_sem ↓] theorem ydt (i:Nat)(o1 o2:Oper)(t:List Oper):uS i (o1::o2::t)=sY i o2::wO i (sY i o1)::t.map (sY i):=rfl
@[go_sem ↓] theorem yb0 (i:Nat)(dst:Option Tmp)(op:Op)(ty:TypeId)(pos:String)(aZ:Array Edge)(g:Option (Nat×Bool)):sY i ⟨dst,op,ty,pos,aZ,g⟩=⟨dst,op,ty,pos,aZ.map (Vb i),g⟩:=rfl
@[go_sem ↓] theorem zXc (i:Nat)(dst:Option Tmp)(op:Op)(ty:TypeId)(pos:String)(aZ:Array Edge)(g:Option (Nat×Bool)):wO i ⟨dst,op,ty,pos,aZ,g⟩=⟨dst,op,ty,pos,aZ.push { on:=i,ground:=.data },g⟩:=rfl
@[go_sem ↓] theorem zW9 (l1 l2:List Oper)(fl:List (Nat×Nat×Nat)) (m2:Nat)(Kf:AS→Prop):JD P c sz l1 l2 fl m2 Kf (.mk tm h nx ds)=((∀p∈fl,∃u,tm.get p.2.2=some u∧tm.get p.2.1=some u∧p.2.2<sz)∧gw P c sz (l1++l2) (fun s'=>gw P c sz (l1++l2) Kf (l2.drop m2) (ri fl tm s')) (l2.take m2) (.mk (rh fl tm) h nx ds)):=rfl
@[go_sem] theorem ydb:rh [] tm=tm:=rfl
@[go_sem] theorem zX3 (p:Nat×Nat×Nat)(l:List (Nat×Nat×Nat)):rh (p::l) tm=(rh l tm).put p.2.2 none:=rfl
@[go_sem] theorem ybo (fl:List (Nat×Nat×Nat))(dZ:Tr AV):ri fl dZ (.mk tm h nx ds)=.mk (qZ fl dZ tm) h nx ds:=rfl
@[go_sem] theorem yci (dZ:Tr AV):qZ [] dZ tm=tm:=rfl
@[go_sem] theorem zV1 (p:Nat×Nat×Nat)(l:List (Nat×Nat×Nat))(dZ:Tr AV):qZ (p::l) dZ tm=(qZ l dZ tm).put p.2.2 (dZ.get p.2.2):=rfl
theorem GN (hm:P.follows .mixedOrders=true)(hc:CxOk P c)(hG:c.G.sym=true){inr:Bool}{id:Nat}{l:List Oper}(k:Nat)(Wl Cl:List Nat)(U:List (Nat×Nat))(fl:List (Nat×Nat×Nat)) (m2:Nat)(cP:uT c (l.take k) (bJ (l.take k) []) Wl Cl U=true)(ox:Jo (bJ l []) (l.take k) (l.drop k) Wl fl m2=true){Q:AX→AS→Prop}{s:AS}
  (hw:pK P c sz (l.take k) Wl Cl U (JD P c sz (l.take k) (l.drop k) fl m2 (Q .norm)) (l.take k) 0 (fun _=>.nil) s):AW P c inr sz (.region id l.toArray true) Q s:=by
 have:=zMl (inr:=inr) (id:=id) hm hc hG (l1:=l.take k) (l2:=l.drop k) Wl Cl U fl m2 cP (by rw[List.take_append_drop];exact ox) hw;rw[List.take_append_drop]at this;exact this
@[go_sem] theorem ye5 (i:Nat)(hs:Nat→Tr ABlk) (a b:Nat)(U:List (Nat×Nat)):yu c ops i tm hs h ((a,b)::U)=((a=i→b<i→fM (iZ c ops i tm) h (hs b))∧yu c ops i tm hs h U):=rfl
@[go_sem] theorem zVr (j:Nat)(h':Tr ABlk) (a b:Nat)(U:List (Nat×Nat)):wP c ops j tm h h' ((a,b)::U)=((b=j→a<j→fM (iZ c ops a tm) h h')∧wP c ops j tm h h' U):=rfl
@[go_sem] theorem zW0 (j:Nat):iZ c ops j tm=match ops[j]? with
 |some o=>(oN o.op).bind (aM c.G tm)
 |none=>none:=rfl
attribute [go_sem] gL jD
@[go_sem] theorem zXs (t:TypeId)(x:Operand):oN (.load t x)=some x:=rfl
@[go_sem] theorem zYh (cs:List AV)(h':Tr ABlk):fM (some (.ip cs)) h h'=True:=rfl
@[go_sem] theorem zWo (k o:Nat)(h':Tr ABlk):fM (some (.ptr k o)) h h'=(h'.get k=h.get k):=rfl
end
end Go.Ev
namespace Go.Ev
open Go.Proofs
noncomputable section
attribute [-go_sem] dw bP
theorem zGs:cx.ft.get 43=some Tryz.f43:=aT (by decide) (by kernel_rfl)
def ew (a b:Pv):Prop:=a.id=b.id∧a.rank=b.rank∧a.kind=b.kind∧a.name=b.name∧a.value=b.value∧∀x,x∈a.except↔x∈b.except
open Classical in
theorem zIg (a b:Pv)(v:AV)(ha:a.except.length≤1000000000)(hb:b.except.length≤1000000000):ay Tryz.prog cx 43 [.ip (a.cs++(b.cs++[v]))] (.tup [.bool (!(decide (ew a b))),.sl0,.int .i64 0]):=by
 have c1:=zG2 false false a.except b.except ha hb;unfold ew
 rcases a with⟨id,rank,kind,name,value,⟨w1,w2,w3,w4,w5⟩,ex,⟨b1,b2,b3,b4⟩,⟨e1,e2,e3,e4⟩,⟨g1,g2,g3,g4⟩⟩
 rcases b with⟨iS,mU,mR,mS,jB,⟨s5,Vh,Vk,Vl,Vm⟩,tO,⟨D6,vp,Lu,D7⟩,⟨jY,rM,xw,tN⟩,⟨LH,xz,LI,LJ⟩⟩
 dsimp only at c1 ⊢
 generalize Aq:decide (∀x,x∈ex↔x∈tO)=s1 at c1;refine ay.mk fun h nx R hR=>aV (sz:=59) (rs:=[.tmp 2,.tmp 3,.tmp 4]) aE zGs rfl rfl rfl (by simp) ?_;simp-implicitDefEqProofs[go_sem];refine Yh mixed aE eO 8 [8,9,10,11] [] [(3,8),(3,9),(7,8),(7,9),(7,10)] (by kernel_rfl) (by kernel_rfl) (by kernel_rfl) ?_;have fin:∀(x:Bool) (g:Tr ABlk) (ny:Nat),aA nx h g→(x=true↔¬(id=iS∧rank=mU∧kind=mR∧name=mS∧value=jB∧∀x,x∈ex↔x∈tO))→R (.tup [.bool x,.sl0,.int .i64 0]) g ny:=by
  intro x g ny he hx;refine hR _ _ _ he (Fz.eq rfl ?_)
  congr 2
  cases x
  ·simp at hx;simp[hx]
  ·have:=hx.1 rfl;simp[this]
 have E:∀(x y z u:Option ABlk),aA nx h ((((h.put nx x).put (nx+1) y).put nx z).put (nx+1) u):=fun x y z u=>(((((aA.refl nx h).put (ae _) _).put (by omega) _).put (by omega) _).put (by omega) _);have E':∀(x y z u:Option ABlk),aA nx h ((((h.put nx x).put (nx+1) y).put (nx+1) z).put nx u):=fun x y z u=>(((((aA.refl nx h).put (ae _) _).put (by omega) _).put (by omega) _).put (by omega) _);have d1:s1=true↔∀x,x∈ex↔x∈tO:=by rw[← Aq];simp
 simp-implicitDefEqProofs[go_sem,Pv.cs,Fm.cs,br.cs];refine⟨?_,?_⟩
 ·simp(maxSteps:=1000000) +contextual -implicitDefEqProofs[go_sem];refine PI (fid:=91) (first:=[]) (cap:=[]) (l:=[.fz 1 false (bf ex),.fz 1 false (bf tO)]) (by simp[go_sem]) ?_ c1 ?_
  ·simp +contextual -implicitDefEqProofs[go_sem]
  simp +contextual -implicitDefEqProofs[go_sem,fg];refine fin _ _ _ (E _ _ _ _) ?_;rw[← d1];cases s1 <;> simp <;> (by_cases h1:id=iS <;> by_cases h2:rank=mU <;> by_cases h3:kind=mR <;> by_cases h4:name=mS <;> by_cases h5:value=jB <;> simp[h1,h2,h3,h4,h5])
 ·simp(maxSteps:=1000000) +contextual -implicitDefEqProofs[go_sem];refine PI (fid:=91) (first:=[]) (cap:=[]) (l:=[.fz 1 false (bf ex),.fz 1 false (bf tO)]) (by simp[go_sem]) ?_ c1 ?_
  ·simp +contextual -implicitDefEqProofs[go_sem]
  simp +contextual -implicitDefEqProofs[go_sem,fg];refine fin _ _ _ (E' _ _ _ _) ?_;rw[← d1];cases s1 <;> simp <;> (by_cases h1:id=iS <;> by_cases h2:rank=mU <;> by_cases h3:kind=mR <;> by_cases h4:name=mS <;> by_cases h5:value=jB <;> simp[h1,h2,h3,h4,h5])
theorem zLk:cx.ft.get 204=some Tryz.f204:=aT (by decide) (by kernel_rfl)
theorem zKs:cx.ft.get 205=some Tryz.f205:=aT (by decide) (by kernel_rfl)
theorem zIb:cx.ft.get 214=some Tryz.f214:=aT (by decide) (by kernel_rfl)
theorem zH1:cx.ft.get 295=some Tryz.f295:=aT (by decide) (by kernel_rfl)
theorem zO8:cx.ft.get 261=some Tryz.f261:=aT (by decide) (by kernel_rfl)
theorem zRy:cx.ft.get 210=some Tryz.f210:=aT (by decide) (by kernel_rfl)
theorem zIq:cx.ft.get 211=some Tryz.f211:=aT (by decide) (by kernel_rfl)
def jV (b:Bool):Fm:=.mk (if b then 1 else 2) .empty 0 0 []
theorem Sv (b:Bool):ay Tryz.prog cx 204 [.bool b] (.agg (jV b).cs):=by
 refine ay.wk (u:=.agg [.int .i64 (if b then 1 else 2),.bs .empty,.int .i64 0,.int .i64 0,.sl0]) ?_ (fp.refl _) ?_
 ·refine ay.mk fun h nx R hR=>aV (sz:=6) (rs:=[.cell 2 24]) aE zLk rfl rfl rfl (by simp) ?_;cases b
  ·simp-implicitDefEqProofs[go_sem,aG];exact hR _ _ _ (((aA.refl nx h).put (ae _) _).put (ae _) _) (Fz.eq rfl rfl)
  ·simp-implicitDefEqProofs[go_sem,aG];exact hR _ _ _ (((aA.refl nx h).put (ae _) _).put (ae _) _) (Fz.eq rfl rfl)
 ·exact .agg _ _ (.cons _ _ _ _ (.same _) (.cons _ _ _ _ (.same _) (.cons _ _ _ _ (.same _) (.cons _ _ _ _ (.same _) (.cons _ _ _ _ (.sl0 5 false) .nil)))))
def nr (v cmp n:Int):Bool:=if cmp=1 then decide (v=n) else if cmp=2 then decide (¬v=n) else if cmp=3 then decide (v<n) else if cmp=4 then decide (v≤n) else if cmp=5 then decide (n<v) else decide (n≤v)
theorem zSa (v cmp n:Int):ay Tryz.prog cx 205 [.int .i64 v,.int .i64 cmp,.int .i64 n] (.bool (nr v cmp n)):=by
 refine ay.mk fun h nx R hR=>aV (sz:=36) (rs:=[.tmp 6]) aE zKs rfl rfl rfl (by simp) ?_;have fin:∀b,b=nr v cmp n→R (.bool b) h nx:=fun b hb=>hR _ _ _ (aA.refl _ _) (Fz.eq rfl (by rw[hb]))
 by_cases e1:cmp=1
 ·simp-implicitDefEqProofs[go_sem,e1];exact fin _ (by simp[nr,e1])
 by_cases e2:cmp=2
 ·simp-implicitDefEqProofs[go_sem,e1,e2];exact fin _ (by simp[nr,e1,e2])
 by_cases e3:cmp=3
 ·simp-implicitDefEqProofs[go_sem,e1,e2,e3];exact fin _ (by simp[nr,e1,e2,e3])
 by_cases e4:cmp=4
 ·simp-implicitDefEqProofs[go_sem,e1,e2,e3,e4];exact fin _ (by simp[nr,e1,e2,e3,e4])
 by_cases e5:cmp=5
 ·simp-implicitDefEqProofs[go_sem,e1,e2,e3,e4,e5];exact fin _ (by simp[nr,e1,e2,e3,e4,e5])
 simp-implicitDefEqProofs[go_sem,e1,e2,e3,e4,e5];exact fin _ (by simp[nr,e1,e2,e3,e4,e5])
theorem zNk (x v:Int):ay Tryz.prog cx 295 [.int .i64 x,.ip [.int .i64 v]] (.bool (decide (v<x))):=by
 refine ay.mk fun h nx R hR=>aV (sz:=7) (rs:=[.tmp 3]) aE zH1 rfl rfl rfl (by simp) ?_;simp-implicitDefEqProofs[go_sem];exact hR _ _ _ (aA.refl _ _) (Fz.eq rfl (by simp))
theorem WZ (full:Bool)(l:List Int)(fid:FuncId)(cap:List AV)(p:Int→Bool)(hl:l.length≤1000000000)(hp:∀x∈l,ay Tryz.prog cx fid ([.int .i64 x]++cap) (.bool (p x))):ay Tryz.prog cx 214 [.fz 1 full (aI l),.func fid [] cap] (.int .i64 (bS p l)):=by
 refine ay.mk fun h nx R hR=>aV (sz:=19) (rs:=[.tmp 4]) aE zIb rfl rfl rfl (by simp) ?_;simp[go_sem];refine bT (fun mm st=>∃tm k,st=.mk tm h nx []∧mm=l.length-k∧k≤l.length∧tm.get 0=some (.fz 1 full (aI l))∧tm.get 1=some (.func fid [] cap)∧tm.get 7=some (.int .i64 (l.length:Int))∧tm.get 8=some (.int .i64 (k:Int))∧RowKit.Hid (bS p l=rB p l k)) ⟨l.length,_,0,rfl,by simp,by simp,?_⟩ ?_
 ·simp[go_sem];exact Lib.hid (Rf _ l).symm
 ·rintro mm st ⟨tm,k,rfl,rfl,hk,t0,t1,t7,t8,hv⟩ J hJ
  refine bt aE _ ?_
  by_cases az:k<l.length
  ·have Ak:=hp _ (ai az)
   by_cases he:p l[k]=true
   ·have:=Q6 (p:=p) az he;simp[go_sem,t0,t1,t7,t8,az];refine ay.use Ak ?_;simp[go_sem,aB,t0,t1,t7,t8,az,he];refine hR _ _ _ (aA.refl _ _) (Fz.eq rfl ?_);rw[hv.out,this]
   ·have:=Qp (p:=p) az he;have HM:=Lib.hid this;clear this;simp[go_sem,t0,t1,t7,t8,az];refine ay.use Ak ?_;simp[go_sem,aB,t0,t1,t7,t8,az,he];refine hJ (l.length-(k+1)) _ (by omega) ⟨_,k+1,rfl,rfl,by omega,?_⟩;simp(disch:=omega) [go_sem,t0,t1,t7,t8,aY];exact Lib.hid (by rw[hv.out,HM.out])
  ·have:=PJ (p:=p) (l:=l) (k:=k) (by omega);simp[go_sem,t0,t1,t7,t8,az];refine hR _ _ _ (aA.refl _ _) (Fz.eq rfl ?_);rw[hv.out,this]
structure Nd where
 fact:Int
 cuts:List Int
 kids:List Int
 leaf:Bool
def Nd.cs (n:Nd):List AV:=[.int .i64 n.fact,.fz 1 false (aI n.cuts),.fz 1 false (aI n.kids),.bool n.leaf]
def bK (l:List Nd):List AV:=l.map fun f=>.agg f.cs
@[go_sem] theorem zyp (l:List Nd):(bK l).length=l.length:=by simp[bK]
@[go_sem] theorem zZ4 (l:List Nd) (k:Nat)(hk:k<(bK l).length):(bK l)[k]=.agg (l[k]'(by simpa[bK]using hk)).cs:=by simp[bK]
@[go_sem] theorem Nd.cs_len (f:Nd):f.cs.length=4:=by cases f;rfl
@[go_sem] theorem Nd.cs_one (f:Nd):dB f.cs=true:=by cases f;rfl
@[go_sem] theorem Nd.cs_take (f:Nd):f.cs.take 4=f.cs:=by cases f;rfl
theorem uX:∀l:List Int,bC (aI l)=true
 |[]=>rfl
 |f::l=>by
  have:=uX l;rw[show aI (f::l)=.int .i64 f::aI l from rfl];simp[bC,plain,this]
theorem Nd.cs_plain (n:Nd):bC n.cs=true:=by simp[Nd.cs,bC,plain,uX]
def k9 (n:Nd) (v:Int):Int:=if bS (fun c=>decide (v<c)) n.cuts<0 then n.kids.length-1 else bS (fun c=>decide (v<c)) n.cuts
theorem zP3 (n:Nd) (v:Int)(h1:n.cuts.length≤1000000000)(h2:n.kids.length≤1000000000):ay Tryz.prog cx 261 [.agg n.cs,.int .i64 v] (.int .i64 (k9 n v)):=by
 refine ay.mk fun h nx R hR=>aN.ofLe fun hG=>aV (sz:=17) (rs:=[.tmp 4]) aE zO8 rfl rfl rfl (by simp) ?_;simp-implicitDefEqProofs[go_sem,Nd.cs];refine ay.useB tg (WZ false n.cuts 295 [.ip [.int .i64 v]] (fun c=>decide (v<c)) h1 fun x _=>zNk x v) rfl (.cons _ _ _ _ (Fz.eq (by simp[plain,uX]) rfl) (.cons _ _ _ _ (.func 295 _ _ _ _ .nil (.cons _ _ _ _ (wF (t:=3) (opn:=false) (esz:=0) (by omega) (by simp[go_sem]) (by simp[plain,bC])) .nil)) .nil)) ?_;have E:aA nx h ((h.put nx (some (bx 154 n.cs false 0))).put (nx+1) (some (bx 3 [.int .i64 v] false 0))):=((aA.refl nx h).put (ae _) _).put (by omega) _;simp only[Nd.cs]at E
 by_cases hn:bS (fun c=>decide (v<c)) n.cuts<0
 ·simp-implicitDefEqProofs[go_sem,aB,hn];refine hR _ _ _ E (Fz.eq rfl ?_);rw[k9,if_pos hn,aY _ (by omega) (by omega)]
 ·simp-implicitDefEqProofs[go_sem,aB,hn];refine hR _ _ _ E (Fz.eq rfl ?_);rw[k9,if_neg hn]
def bH (n:Nd)(d:List Fc):Int:=if n.kids=[] then d.length else n.fact
theorem Qi (n:Nd)(full:Bool)(d:List Fc):ay Tryz.prog cx 210 [.agg n.cs,.agg [.fz 4 full (aP d)]] (.int .i64 (bH n d)):=by
 refine ay.mk fun h nx R hR=>aV (sz:=14) (rs:=[.tmp 4]) aE zRy rfl rfl rfl (by simp) ?_;have E:∀x y,aA nx h ((h.put nx x).put (nx+1) y):=fun x y=>((aA.refl nx h).put (ae _) _).put (by omega) _
 by_cases hn:n.kids=[]
 ·simp-implicitDefEqProofs[go_sem,Nd.cs,hn];refine hR _ _ _ (E _ _) (Fz.eq rfl ?_);rw[bH,if_pos hn]
 ·have hl:¬n.kids.length=0:=fun e=>hn (au e);simp-implicitDefEqProofs[go_sem,Nd.cs,hn,hl];refine hR _ _ _ (E _ _) (Fz.eq rfl ?_);rw[bH,if_neg hn]
end
end Go.Ev
