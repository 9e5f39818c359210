/- Texts. -/
import Derived.Test.YtkdnmldmffkkoaaGreatDoorP26
import Derived.Test.YtkdnmldmffkkoaaGreatDoorP28
set_option linter.unusedSimpArgs false
set_option linter.unusedVariables false
set_option maxRecDepth 100000
set_option maxHeartbeats 8000000
namespace Go.Ev
open Go.Proofs Go.RowKit
noncomputable section
attribute [-go_sem] dw bP ep gH
theorem zT8:cx.ft.get 85=some Tryz.f85:=aT (by decide) (by kernel_rfl)
def pG (nm kn:ByteArray→Bool)(d:List Fc)(f:Fm):Int:=
 if xp nm f=false then 1 else
 match f with
 |.mk o n _ m _=>if o=3∧(m<0∨1000000<m) then 10 else if (o=3∧bS (fun x:Fc=>decide (x.name=n)) d<0)∨(o=4∧kn n=false) then 7 else 0
def fA (nm kn:ByteArray→Bool)(d:List Fc) (s:Int)(f:Fm):Int×Bool:=if pG nm kn d f=0 then (s,true) else (pG nm kn d f,false)
def rF (nm kn:ByteArray→Bool)(d:List Fc)(f:Fm):Int:=
 if 200<f.size∨20<f.deep then 2 else (dt (fA nm kn d) 0 f).1
theorem A7 {i:Nat}{K:AV→Tr ABlk→Nat→Prop}{tm ff:Tr AV}{h:Tr ABlk}{nx sz db:Nat}{ds:List DE}{fn:FuncId}{st:LoopState}{bh:Option Code}{ps:Array Tmp}{x y:Code}{rb rec:ABlk}(hb:ABlk.loop st bh fn sz ff ps x y db=rb)(hi:h.get i=some rb)(hr:ABlk.loop .done (some .ret) fn sz ff ps x y db=rec)(hk:K (.bool false) (h.put i (some rec)) nx):QT i K .ret (.mk tm h nx ds):=by
 subst hb;subst hr;exact⟨_,_,_,_,_,_,_,_,_,hi,hk⟩
theorem zxv {Q:AX→AS→Prop}{v:AV}{tm ff:Tr AV}{g:Tr ABlk}{nx ny sz db:Nat}{ds:List DE}{fn:FuncId}{ps:Array Tmp}{x y:Code}{rec:ABlk}(hr:ABlk.loop .done (some .ret) fn sz ff ps x y db=rec)(hi:g.get (nx+1)=some rec)(hk:Q .ret (.mk tm (g.put (nx+1) none) ny (.mark nx::ds))):SC tm ds nx Q v g ny:=by
 subst hr;exact⟨_,_,_,_,_,_,_,_,_,hi,by simp,hk⟩
mutual
theorem Lo {S:Type}{step:S→Fm→S×Bool}(h:∀s x,(step s x).2=true→(step s x).1=s):∀s f,(dt step s f).2=true→(dt step s f).1=s
 |s,.mk o n c m kids,hv=>by
  rw[dt]at hv ⊢
  by_cases h1:(step s (.mk o n c m kids)).2=true
  ·rw[if_pos h1]at hv ⊢;rw[h _ _ h1]at hv ⊢;exact Zh h s kids hv
  ·rw[if_neg h1]at hv;cases hv
theorem Zh {S:Type}{step:S→Fm→S×Bool}(h:∀s x,(step s x).2=true→(step s x).1=s):∀s l,(ir step s l).2=true→(ir step s l).1=s
 |s,[],_=>by rw[ir]
 |s,f::l,hv=>by
  rw[ir]at hv ⊢
  by_cases h1:(dt step s f).2=true
  ·rw[if_pos h1]at hv ⊢;rw[Lo h s f h1]at hv ⊢;exact Zh h s l hv
  ·rw[if_neg h1]at hv;cases hv
end
theorem Pn (nm kn:ByteArray→Bool)(d:List Fc) (s:Int)(x:Fm)(h:(fA nm kn d s x).2=true):(fA nm kn d s x).1=s:=by
 unfold fA at h ⊢
 by_cases h1:pG nm kn d x=0
 ·rw[if_pos h1]
 ·rw[if_neg h1]at h;cases h
def JC (nx:Nat)(rec dv fv:ABlk) (s:Int)(O:Nat→Prop)(h:Tr ABlk) (n:Nat):Prop:=
 h.get (nx+1)=some dv∧h.get (nx+2)=some fv∧h.get (nx+3)=some (bx 44 [.int .i64 s] false 0)∧h.get (nx+4)=some .dfr∧h.get (nx+5)=some rec∧(∀k,O k↔nx≤k∧k≤nx+5)∧nx+6≤n
theorem Wu (nm kn:ByteArray→Bool)(u:Bool)(d:List Fc)(kf:FuncId)(cap:List AV)(f:Fm)(hf:f.size≤1000000)(hd:d.length≤1000000000)(iE:∀s,ay Tryz.prog cx 193 [.bs s] (.bool (nm s)))(Iv:∀s,ay Tryz.prog cx kf ([.bs s]++cap) (.bool (kn s))):
  ay Tryz.prog cx 85 [.agg f.cs,.agg [.fz 4 u (aP d)],.func kf [] cap] (.int .i64 (rF nm kn d f)):=by
 refine ay.mk fun h nx R hR=>aV (sz:=63) (rs:=[.cell 6 44]) aE zT8 rfl rfl rfl (by simp) ?_;obtain⟨r,hr⟩:∃r,r=rF nm kn d f:=⟨_,rfl⟩;rw[← hr]at hR;unfold rF at hr;have eX:∀b g ny,b=r→aA nx h g→R (.int .i64 b) g ny:=fun b g ny hb hE=>hR _ _ _ hE (Fz.eq rfl (by rw[hb]));clear hR;obtain⟨ez,bU⟩:∃l,l=f.cs:=⟨_,rfl⟩;have nD:ez.length=5:=by rw[bU];cases f;rfl
 have cA:ez.take 5=ez:=ar (by omega);have bI:=zMv f.size f (ae _) (by omega);have fH:=Z6 f;rw[← bU]at bI fH ⊢;have z1:¬nx=nx+1:=by omega
 have z2:¬nx=nx+1+1:=by omega
 have z3:¬nx=nx+2+1:=by omega
 have z4:¬nx=nx+1+1+1:=by omega
 simp-implicitDefEqProofs[go_sem,nD,cA,z2,z3];refine ay.use bI ?_;have vE:(f.size:Int)≤200↔f.size≤200:=by omega
 by_cases h1:200<f.size
 ·have xD:(200:Int)<(f.size:Int):=by omega
  rw[if_pos (.inl h1)]at hr;simp-implicitDefEqProofs[go_sem,aB,aG,xD];refine eX _ _ _ hr.symm ?_;simp(disch:=omega)only[aL];exact aA.refl _ _
 have xD:¬(200:Int)<(f.size:Int):=by omega
 by_cases h2:20<f.deep
 ·have zh:(20:Int)<(f.deep:Int):=by omega
  rw[if_pos (.inr h2)]at hr;simp-implicitDefEqProofs[go_sem,aB,aG,xD,zh];refine eX _ _ _ hr.symm ?_;simp(disch:=omega)only[aL];exact aA.refl _ _
 have zh:¬(20:Int)<(f.deep:Int):=by omega
 rw[if_neg (by omega)]at hr;simp-implicitDefEqProofs[go_sem,aB,nD,cA,z2,z3,xD,zh];refine ay.use fH ?_;simp-implicitDefEqProofs[go_sem,aB];obtain⟨fn,_⟩:∃fn:FuncId,fn=fn:=⟨0,rfl⟩;refine Kn aE PE (first:=[]) (cap:=[.ip ez]) (fn0:=fn) (by simp[go_sem]) ?_;generalize cE:ABlk.loop LoopState.ready none fn 63 _ _ _ _ _=rec;obtain⟨ij,mN⟩:∃ij,ij=(match rec with |.loop _ _ fn sz tm ps x y db=>ABlk.loop .done (some .ret) fn sz tm ps x y db |b=>b):=⟨_,rfl⟩;rw[bU];refine(Zl (S:=Int) (step:=fA nm kn d) (Pre:=fun _ _=>True) (i:=nx+5)
  (J:=JC nx rec (bx 35 [.fz 4 u (aP d)] false 0) (bx 48 [.func kf [] cap] false 0)) (JE:=JC nx ij (bx 35 [.fz 4 u (aP d)] false 0) (bx 48 [.func kf [] cap] false 0)) ?_ f 0 (fun k=>nx≤k∧k≤nx+5) _ _ (by omega) (QX (mu:=fun _=>0) (N:=16777216) (fun _ _=>Nat.zero_le _) (fun _ _ _=>trivial) 0 f (by show 0+f.size≤_;omega)) ?_).mono ?_
 ·refine⟨?_,fun s O h' n hj k hk=>by obtain⟨_,_,_,_,_,j1,j2⟩:=hj;have:=(j1 k).1 hk;omega,?_⟩
  ·rintro s O h1 n1 h2 n2 ⟨j1,j2,j3,j4,j5,j6,j7⟩ hk hle
   refine⟨?_,?_,?_,?_,?_,j6,by omega⟩
   all_goals (rw[hk _ ((j6 _).2 (by omega))];assumption)
  ·intro s O x h1 n1 _ hj;obtain⟨K,hK⟩:∃K:AV→Tr ABlk→Nat→Prop,K=fun v g ny=>v=.bool (fA nm kn d s x).2∧∃O',fh O h1 n1 O' g ny∧(if (fA nm kn d s x).2 then JC nx rec (bx 35 [.fz 4 u (aP d)] false 0) (bx 48 [.func kf [] cap] false 0) (fA nm kn d s x).1 O' g ny else JC nx ij (bx 35 [.fz 4 u (aP d)] false 0) (bx 48 [.func kf [] cap] false 0) (fA nm kn d s x).1 O' g ny):=⟨_,rfl⟩;rw[← hK];obtain⟨j1,j2,j3,j4,j5,j6,j7⟩:=hj;have hL:=j5;rw[← cE]at hL;refine Jp hL rfl (by simp) (bt aE _ ?_);have hxf:=zMk nm x (iE _);have nl:¬nx+5=n1:=by omega
   have o8:¬n1=nx+5:=by omega
   have nl3:¬nx+3=nx+5:=by omega
   have CC:¬nx+3=n1:=by omega
   have nl5:¬nx+1=nx+5:=by omega
   have IV:¬nx+1=n1:=by omega
   have Ox:¬nx+2=nx+5:=by omega
   have yh:¬nx+2=n1:=by omega
   have yd:∀st bh fn sz tm ps x y db,ABlk.loop st bh fn sz tm ps x y db=rec→ABlk.loop .done (some .ret) fn sz tm ps x y db=ij:=by
    intro st bh fn sz tm ps x y db e;rw[mN,← e]
   have xI:∀g:Tr ABlk,(∀k,k<n1→k≠nx+5→k≠nx+3→g.get k=h1.get k)→fh O h1 n1 O g (n1+1):=fun g hg=>⟨Nat.le_succ _,fun k hk ho=>hg k hk (fun e=>ho ((j6 k).2 (by omega))) (fun e=>ho ((j6 k).2 (by omega))),fun k hk=>.inl hk⟩;have eI:∀(c:Int) (M:Tr ABlk),c≠0→pG nm kn d x=c→(∀k,k<n1→k≠nx+5→M.get k=h1.get k)→K (.bool false) ((M.put (nx+3) (some (bx 44 [.int .i64 c] false 0))).put (nx+5) (some ij)) (n1+1):=by
    intro c M jJ hc hM;have aW:fA nm kn d s x=(c,false):=by unfold fA;rw[hc,if_neg jJ]
    rw[hK,aW];refine⟨rfl,O,xI _ (fun k k1 k2 k3=>by rw[Tr.get_put,if_neg k2,Tr.get_put,if_neg k3];exact hM k k1 k2),?_⟩;rw[if_neg (by simp)];refine⟨?_,?_,?_,?_,?_,j6,by omega⟩
    ·rw[Tr.get_put,if_neg (by omega),Tr.get_put,if_neg (by omega),hM _ (by omega) (by omega)];exact j1
    ·rw[Tr.get_put,if_neg (by omega),Tr.get_put,if_neg (by omega),hM _ (by omega) (by omega)];exact j2
    ·rw[Tr.get_put,if_neg (by omega),Tr.get_put,if_pos rfl]
    ·rw[Tr.get_put,if_neg (by omega),Tr.get_put,if_neg (by omega),hM _ (by omega) (by omega)];exact j4
    ·rw[Tr.get_put,if_pos rfl]
   have xF:∀(M:Tr ABlk),pG nm kn d x=0→(∀k,k<n1→k≠nx+5→M.get k=h1.get k)→K (.bool true) (M.put (nx+5) (some rec)) (n1+1):=by
    intro M hc hM;have aW:fA nm kn d s x=(s,true):=by unfold fA;rw[hc,if_pos rfl]
    rw[hK,aW];refine⟨rfl,O,xI _ (fun k k1 k2 k3=>by rw[Tr.get_put,if_neg k2];exact hM k k1 k2),?_⟩;rw[if_pos rfl];refine⟨?_,?_,?_,?_,?_,j6,by omega⟩
    ·rw[Tr.get_put,if_neg (by omega),hM _ (by omega) (by omega)];exact j1
    ·rw[Tr.get_put,if_neg (by omega),hM _ (by omega) (by omega)];exact j2
    ·rw[Tr.get_put,if_neg (by omega),hM _ (by omega) (by omega)];exact j3
    ·rw[Tr.get_put,if_neg (by omega),hM _ (by omega) (by omega)];exact j4
    ·rw[Tr.get_put,if_pos rfl]
   cases x with
   |mk o nn cm m kids=>
   simp only[pG]at eI xF;simp-implicitDefEqProofs[go_sem,putP,Fm.cs,aG];refine⟨none,fn,63,_,_,_,_,nx+1+1+1+1,by simp[go_sem,nl];exact hL,bt aE _ ?_⟩;generalize lZ:ABlk.loop LoopState.busy none fn 63 _ _ _ _ _=I4;have pP:∀(X Y:Option ABlk) (k:Nat),k<n1→k≠nx+5→(((h1.put n1 X).put n1 Y).put (nx+5) (some I4)).get k=h1.get k:=fun X Y k k1 k2=>by
    rw[Tr.get_put,if_neg k2,Tr.get_put,if_neg (by omega),Tr.get_put,if_neg (by omega)]
   simp-implicitDefEqProofs[go_sem,o8];refine ay.use hxf ?_;cases xQ:xp nm (.mk o nn cm m kids) with
   |false=>
    rw[xQ]at eI;simp-implicitDefEqProofs[go_sem,aB,CC,j3];refine A7 lZ (by simp[go_sem]) (yd _ _ _ _ _ _ _ _ _ cE) ?_;exact eI 1 _ (by decide) rfl (pP _ _)
   |true=>
    rw[xQ]at eI xF
    by_cases o3:o=3
    ·subst o3
     by_cases m0:m<0
     ·simp-implicitDefEqProofs[go_sem,aB,o8,CC,j3,m0];refine A7 lZ (by simp[go_sem]) (yd _ _ _ _ _ _ _ _ _ cE) ?_;exact eI 10 _ (by decide) (by simp[m0]) (pP _ _)
     by_cases m1:1000000<m
     ·simp-implicitDefEqProofs[go_sem,aB,o8,CC,j3,m0,m1];refine A7 lZ (by simp[go_sem]) (yd _ _ _ _ _ _ _ _ _ cE) ?_;exact eI 10 _ (by decide) (by simp[m0,m1]) (pP _ _)
     simp-implicitDefEqProofs[go_sem,aB,o8,IV,j1,m0,m1];refine ay.use (zxo u d nn hd) ?_
     by_cases jw:bS (fun x:Fc=>decide (x.name=nn)) d<0
     ·simp-implicitDefEqProofs[go_sem,aB,CC,j3,jw];refine A7 lZ (by simp[go_sem]) (yd _ _ _ _ _ _ _ _ _ cE) ?_;exact eI 7 _ (by decide) (by simp[m0,m1,jw]) (pP _ _)
     ·simp-implicitDefEqProofs[go_sem,aB,o8,yh,j2,jw];refine wL lZ (by simp[go_sem]) cE ?_;exact xF _ (by simp[m0,m1,jw]) (pP _ _)
    by_cases o4:o=4
    ·subst o4;have cO:=Iv nn;simp-implicitDefEqProofs[go_sem,aB,o8,IV,yh,j1,j2];refine ay.use cO ?_;cases fq:kn nn with
     |false=>
      simp-implicitDefEqProofs[go_sem,aB,CC,j3];refine A7 lZ (by simp[go_sem]) (yd _ _ _ _ _ _ _ _ _ cE) ?_;exact eI 7 _ (by decide) (by simp[fq]) (pP _ _)
     |true=>
      simp-implicitDefEqProofs[go_sem,aB];refine wL lZ (by simp[go_sem]) cE ?_;exact xF _ (by simp[fq]) (pP _ _)
    simp-implicitDefEqProofs[go_sem,aB,o8,IV,yh,j1,j2,o3,o4];refine wL lZ (by simp[go_sem]) cE ?_;exact xF _ (by simp[o3,o4]) (pP _ _)
 ·refine⟨?_,?_,?_,?_,?_,fun k=>Iff.rfl,by omega⟩
  all_goals (simp(disch:=omega) [go_sem])
 ·rintro v g ny ⟨O',hK,hq⟩
  have E1:aA nx h g:=by
   intro k hk;have:=hK.2.1 k (by omega) (by omega);rw[this];simp(disch:=omega) [go_sem,show ¬k=nx by omega,show ¬k=nx+1 by omega,show ¬k=nx+2 by omega,show ¬k=nx+3 by omega,show ¬k=nx+4 by omega,show ¬k=nx+5 by omega]
  by_cases hs:(dt (fA nm kn d) 0 f).2=true
  ·rw[if_pos hs]at hq;obtain⟨j1,j2,j3,j4,j5,j6,j7⟩:=hq;refine QJ cE j5 ?_;simp-implicitDefEqProofs[go_sem,j3,j4];refine eX _ _ _ ?_ ?_
   ·rw[hr,Lo (Pn nm kn d) 0 f hs]
   ·simp(disch:=omega)only[aL];exact E1
  ·rw[if_neg hs]at hq;obtain⟨j1,j2,j3,j4,j5,j6,j7⟩:=hq;refine zxv (by rw[mN,← cE]) j5 ?_;simp-implicitDefEqProofs[go_sem,j3,j4];refine eX _ _ _ hr.symm ?_;simp(disch:=omega)only[aL];exact E1
theorem X3:cx.ft.get 38=some Tryz.f38:=aT (by decide) (by kernel_rfl)
theorem zGt (s:ByteArray):ay Tryz.prog cx 86 ([.bs s]++[.ip [.sl0]]) (.bool false):=by
 refine ay.mk fun h nx R hR=>aV (sz:=7) (rs:=[.tmp 3]) aE Ys rfl rfl rfl (by simp) ?_;simp-implicitDefEqProofs[go_sem];refine ay.use (zzi s) ?_;simp-implicitDefEqProofs[go_sem,aB];exact hR _ _ _ (aA.refl _ _) (Fz.eq rfl rfl)
theorem zH8 (v:Bool)(l:List ByteArray)(s:ByteArray)(hl:l.length≤1000000000):ay Tryz.prog cx 86 ([.bs s]++[.ip [.fz 1 v (bf l)]]) (.bool (decide (0≤fQ s l))):=by
 refine ay.mk fun h nx R hR=>aV (sz:=7) (rs:=[.tmp 3]) aE Ys rfl rfl rfl (by simp) ?_;simp-implicitDefEqProofs[go_sem];refine ay.use (zyt v l s hl) ?_;simp-implicitDefEqProofs[go_sem,aB];exact hR _ _ _ (aA.refl _ _) (Fz.eq rfl rfl)
theorem WO (nm:ByteArray→Bool)(u:Bool)(d:List Fc)(f:Fm)(hf:f.size≤1000000)(hd:d.length≤1000000000)(iE:∀s,ay Tryz.prog cx 193 [.bs s] (.bool (nm s))):
  ay Tryz.prog cx 38 [.agg f.cs,.agg [.fz 4 u (aP d)],.sl0] (.int .i64 (rF nm (fun _=>false) d f)):=by
 refine ay.mk fun h nx R hR=>aN.ofLe fun hG=>aV (sz:=11) (rs:=[.tmp 6]) aE X3 rfl rfl rfl (by simp) ?_;have hc:=Wu nm (fun _=>false) u d 86 [.ip [.sl0]] f hf hd iE zGt;obtain⟨ez,bU⟩:∃l,l=f.cs:=⟨_,rfl⟩;have nD:ez.length=5:=by rw[bU];cases f;rfl
 have cA:ez.take 5=ez:=ar (by omega);have qi:bC ez=true:=by rw[bU];exact f.cs_plain
 rw[← bU]at hc ⊢;have z1:¬nx=nx+1:=by omega
 have z2:¬nx=nx+1+1:=by omega
 have z3:¬nx=nx+2:=by omega
 simp-implicitDefEqProofs[go_sem,nD,cA,z2];refine ay.useB tg hc rfl (.cons _ _ _ _ (Fz.same _ (by simp[plain,qi])) (.cons _ _ _ _ (Fz.same _ (by simp[plain,bC,AZ])) (.cons _ _ _ _ (.func 86 _ _ _ _ .nil (.cons _ _ _ _ (wF (t:=25) (opn:=false) (esz:=0) (by omega) (by simp[go_sem]) (by simp[plain,bC])) .nil)) .nil))) ?_;simp-implicitDefEqProofs[go_sem,aB];refine hR _ _ _ ?_ (Fz.eq rfl rfl);simp(disch:=omega)only[aL];exact aA.refl _ _
theorem zJv (nm:ByteArray→Bool)(u v:Bool)(d:List Fc)(l:List ByteArray)(f:Fm)(hf:f.size≤1000000)(hd:d.length≤1000000000)(hl:l.length≤1000000000)(iE:∀s,ay Tryz.prog cx 193 [.bs s] (.bool (nm s))):
  ay Tryz.prog cx 38 [.agg f.cs,.agg [.fz 4 u (aP d)],.fz 1 v (bf l)] (.int .i64 (rF nm (fun s=>decide (0≤fQ s l)) d f)):=by
 refine ay.mk fun h nx R hR=>aN.ofLe fun hG=>aV (sz:=11) (rs:=[.tmp 6]) aE X3 rfl rfl rfl (by simp) ?_;have hc:=Wu nm (fun s=>decide (0≤fQ s l)) u d 86 [.ip [.fz 1 v (bf l)]] f hf hd iE (fun s=>zH8 v l s hl);obtain⟨ez,bU⟩:∃l,l=f.cs:=⟨_,rfl⟩;have nD:ez.length=5:=by rw[bU];cases f;rfl
 have cA:ez.take 5=ez:=ar (by omega);have qi:bC ez=true:=by rw[bU];exact f.cs_plain
 have hpB:bC (bf l)=true:=by
  clear hl hc hR
  induction l with
  |nil=>rfl
  |cons x l ih=>simp[bf,bC,plain]at ih ⊢;exact ih
 rw[← bU]at hc ⊢;have z1:¬nx=nx+1:=by omega
 have z2:¬nx=nx+1+1:=by omega
 have z3:¬nx=nx+2:=by omega
 simp-implicitDefEqProofs[go_sem,nD,cA,z2];refine ay.useB tg hc rfl (.cons _ _ _ _ (Fz.same _ (by simp[plain,qi])) (.cons _ _ _ _ (Fz.same _ (by simp[plain,bC,AZ])) (.cons _ _ _ _ (.func 86 _ _ _ _ .nil (.cons _ _ _ _ (wF (t:=25) (opn:=false) (esz:=0) (by omega) (by simp[go_sem]) (by simp[plain,bC,hpB])) .nil)) .nil))) ?_;simp-implicitDefEqProofs[go_sem,aB];refine hR _ _ _ ?_ (Fz.eq rfl rfl);simp(disch:=omega)only[aL];exact aA.refl _ _
end
end Go.Ev
namespace Go.Ev
open Go.Proofs Go.RowKit
noncomputable section
theorem zMq {nm kn:ByteArray→Bool}{d:List Fc}(iE:∀s,nm s=true→s.size≤1000){o c m:Int}{n:ByteArray}{kids:List Fm}(h:pG nm kn d (.mk o n c m kids)=0):cS o∧cS c∧cS m∧n.size≤1000∧(o=5→kids≠[]):=by
 simp only[pG]at h;cases hf:xp nm (.mk o n c m kids) with
 |false=>rw[hf]at h;simp at h
 |true=>
  rw[hf,if_neg (by simp)]at h;simp only[xp]at hf
  by_cases h1:o≠3∧(c≠0∨m≠0)
  ·rw[if_pos h1]at hf;cases hf
  rw[if_neg h1]at hf
  by_cases h2:o≠3∧o≠4∧n≠⟨#[]⟩
  ·rw[if_pos h2]at hf;cases hf
  rw[if_neg h2]at hf;have hz:∀k:Int,0≤k→k≤1000000→cS k:=fun k a b=>⟨by omega,by omega⟩
  by_cases o3:o=3
  ·subst o3;rw[if_neg (by omega),if_pos rfl]at hf;simp only[al,decide_eq_true_eq]at hf;obtain⟨⟨_,hn⟩,c1,c6⟩:=hf
   by_cases hm:(3:Int)=3∧(m<0∨1000000<m)
   ·rw[if_pos hm]at h;simp at h
   ·exact⟨hz _ (by omega) (by omega),hz _ (by omega) (by omega),hz _ (by omega) (by omega),iE _ hn,fun e=>absurd e (by omega)⟩
  ·have hc:c=0:=by
    rcases Int.lt_trichotomy c 0 with q |q |q
    ·exact absurd ⟨o3,.inl (by omega)⟩ h1
    ·exact q
    ·exact absurd ⟨o3,.inl (by omega)⟩ h1
   have hm:m=0:=by
    rcases Int.lt_trichotomy m 0 with q |q |q
    ·exact absurd ⟨o3,.inr (by omega)⟩ h1
    ·exact q
    ·exact absurd ⟨o3,.inr (by omega)⟩ h1
   subst hc;subst hm
   by_cases Gc:o=1∨o=2
   ·refine⟨hz _ (by omega) (by omega),hz _ (by omega) (by omega),hz _ (by omega) (by omega),?_,fun e=>absurd e (by omega)⟩
    by_cases hn:n=⟨#[]⟩
    ·rw[hn];decide
    ·exact absurd ⟨o3,by omega,hn⟩ h2
   rw[if_neg Gc,if_neg o3]at hf
   by_cases o4:o=4
   ·subst o4;rw[if_pos rfl]at hf;simp only[al,decide_eq_true_eq]at hf;exact⟨hz _ (by omega) (by omega),hz _ (by omega) (by omega),hz _ (by omega) (by omega),iE _ hf.2,fun e=>absurd e (by omega)⟩
   have hn:n=⟨#[]⟩:=by
    by_cases hn:n=⟨#[]⟩
    ·exact hn
    ·exact absurd ⟨o3,o4,hn⟩ h2
   have FD:n.size≤1000:=by rw[hn];decide
   rw[if_neg o4]at hf
   by_cases o5:o=5
   ·subst o5;rw[if_pos rfl]at hf;simp only[decide_eq_true_eq]at hf;exact⟨hz _ (by omega) (by omega),hz _ (by omega) (by omega),hz _ (by omega) (by omega),FD,fun _ e=>by rw[e]at hf;simp at hf⟩
   rw[if_neg o5]at hf
   by_cases Gd:o=6∨o=7
   ·exact⟨hz _ (by omega) (by omega),hz _ (by omega) (by omega),hz _ (by omega) (by omega),FD,fun e=>absurd e o5⟩
   ·rw[if_neg Gd]at hf;cases hf
mutual
theorem SA {nm kn:ByteArray→Bool}{d:List Fc}(iE:∀s,nm s=true→s.size≤1000):∀f,(dt (fA nm kn d) 0 f).1=0→(dt (fA nm kn d) 0 f).2=true∧iw f
 |.mk o n c m kids,h=>by
  rw[dt]at h ⊢
  by_cases hc:pG nm kn d (.mk o n c m kids)=0
  ·have hs:fA nm kn d 0 (.mk o n c m kids)=(0,true):=by unfold fA;rw[if_pos hc]
   rw[hs]at h ⊢;simp only[if_true]at h ⊢;obtain⟨a1,a2⟩:=zxt iE kids h;obtain⟨b1,b2,b3,b4,b5⟩:=zMq iE hc;exact⟨a1,b1,b2,b3,b4,b5,a2⟩
  ·have hs:fA nm kn d 0 (.mk o n c m kids)=(pG nm kn d (.mk o n c m kids),false):=by unfold fA;rw[if_neg hc]
   rw[hs]at h;simp at h;exact absurd h hc
theorem zxt {nm kn:ByteArray→Bool}{d:List Fc}(iE:∀s,nm s=true→s.size≤1000):∀l,(ir (fA nm kn d) 0 l).1=0→(ir (fA nm kn d) 0 l).2=true∧jR l
 |[],_=>⟨by rw[ir],trivial⟩
 |f::l,h=>by
  rw[ir]at h ⊢
  by_cases h1:(dt (fA nm kn d) 0 f).2=true
  ·rw[if_pos h1]at h ⊢;have h0:=Lo (Pn nm kn d) 0 f h1;rw[h0]at h ⊢;obtain⟨a1,a2⟩:=SA iE f h0;obtain⟨b1,b2⟩:=zxt iE l h;exact⟨b1,a2,b2⟩
  ·rw[if_neg h1]at h;exact absurd (SA iE f h).1 h1
end
theorem Lp {nm kn:ByteArray→Bool}{d:List Fc}{f:Fm}(iE:∀s,nm s=true→s.size≤1000)(h:rF nm kn d f=0):iw f∧f.size≤200:=by
 unfold rF at h
 by_cases h1:200<f.size∨20<f.deep
 ·rw[if_pos h1]at h;simp at h
 ·rw[if_neg h1]at h;exact⟨(SA iE f h).2,by omega⟩
theorem zN0 {l:List Fc}(h:eQ l=true):BF l:=by
 by_cases hp:BF l
 ·exact hp
 ·rw[KX hp]at h;cases h
theorem zIe (nm:ByteArray→Bool)(u:Bool)(d:List Fc)(f:Fm)(hl:d.length≤1000000000)(hs:∀f∈d,f.name.size≤1000000000)(hf:f.size≤1000000)(iE:∀s,ay Tryz.prog cx 193 [.bs s] (.bool (nm s)))(oU:∀s,nm s=true→s.size≤1000):
  ay Tryz.prog cx 93 [.agg f.cs,.agg [.fz 4 u (aP d)]] (Dp (rF nm (fun _=>false) d f) d f):=by
 refine zQc u d f _ hl hs hf (WO nm u d f hf hl iE) fun h1 h2=>?_;obtain⟨a1,a2⟩:=Lp oU h2;obtain⟨⟨b1,_⟩,b2⟩:=zN0 h1;refine⟨a1,by omega,by omega,fun x hx=>?_⟩
 rcases (b1 x hx).1 with⟨_,e1,e2⟩ |⟨_,e1,e2,e3⟩
 ·exact⟨by omega,⟨by omega,by omega⟩,⟨by omega,by omega⟩⟩
 ·exact⟨by omega,⟨by omega,by omega⟩,⟨by omega,by omega⟩⟩
end
end Go.Ev
namespace Go.Ev
open Go.Proofs Go.RowKit
noncomputable section
attribute [-go_sem] dw bP ep gH
theorem zMb:cx.ft.get 223=some Tryz.f223:=aT (by decide) (by kernel_rfl)
theorem zMi:cx.ft.get 264=some Tryz.f264:=aT (by decide) (by kernel_rfl)
theorem Zi (l:List UInt8):bM l=l.map fun z=>.int .u8 (Int.ofNat z.toNat):=by
 induction l with
 |nil=>rfl
 |cons x l ih=>rw[show bM (x::l)=.int .u8 (x.toNat:Int)::bM l from rfl,ih];rfl
@[go_sem] theorem zX6 (e s1 s2 d1 d2 t1 t2:Nat)(s3 d3 t3:Option AV)(s4 d4 t4:List (Nat×Nat×Bool))(b:ByteArray)(h:Tr ABlk) (nx:Nat):
  ep (.mk .string s1 s2 s3 s4) (.mk (.slice e) d1 d2 d3 d4) (some (.mk (.int .u8) t1 t2 t3 t4)) e (.bs b) h nx=.val (.sl nx 0 b.size 0 true) (h.put nx (some (bx e (bM b.data.toList) true 1))) (nx+1):=by
 have hl:(bM b.data.toList).length=b.size:=by rw[tD,Array.length_toList];rfl
 have hb:Nat.beq e e=true:=Nat.beq_refl e;simp only[ep,hb];unfold bx;rw[hl,Zi]
def uW (l:List UInt8) (a:Int):Int:=l.foldl (fun a z=>a * 10+((z.toNat:Int)-48)) a
def BS:Nat→Int
 |0=>0
 |n+1=>BS n * 10+9
theorem zO5:∀j,j<8→BS j≤9999999:=by decide
theorem zNb (s:ByteArray)(h1:1≤s.size)(h7:s.size≤7)(hd:∀z∈s.data.toList,48≤z.toNat∧z.toNat≤57):ay Tryz.prog cx 264 [.bs s] (.tup [.int .i64 (uW s.data.toList 0),.nilIface]):=by
 refine ay.mk fun h nx R hR=>aV (sz:=77) (rs:=[.tmp 2,.tmp 3]) aE zMi rfl rfl rfl (by simp) ?_;have q1:(0:Int)<(s.size:Int):=by omega
 have q2:(s.size:Int)<10:=by omega
 have q3:(s.size:Int)<19:=by omega
 have q4:0<s.size:=by omega
 have bI:s.data.toList.length=s.size:=by rw[Array.length_toList];rfl
 have oX:48≤(s[0]'q4).toNat:=(hd _ (by rw[ByteArray.getElem_eq_getElem_data];simp)).1;have n45:¬(((s[0]'q4).toNat:Int)=45):=by omega
 have n43:¬(((s[0]'q4).toNat:Int)=43):=by omega
 have m45:¬((s[0]'q4).toNat=45):=by omega
 have m43:¬((s[0]'q4).toNat=43):=by omega
 have mG:=tD s.data.toList;simp-implicitDefEqProofs[go_sem,q3,q4,n45,n43];refine bT (fun mm st=>∃tm j a,st=.mk tm (h.put nx (some (bx 5 (bM s.data.toList) true 1))) (nx+1) []∧mm=s.size-j∧j≤s.size∧tm.get 5=some (.bs s)∧tm.get 6=some (.int .i64 a)∧tm.get 47=some (.sl nx 0 s.size 0 true)∧tm.get 48=some (.int .i64 (s.size:Int))∧tm.get 49=some (.int .i64 (j:Int))∧0≤a∧a≤BS j∧RowKit.Hid (uW s.data.toList 0=uW (s.data.toList.drop j) a)) ⟨s.size,_,0,0,rfl,by simp,by simp,?_⟩ ?_
 ·simp-implicitDefEqProofs[go_sem];exact⟨by simp[BS],Lib.hid trivial⟩
 ·rintro mm st ⟨tm,j,a,rfl,rfl,hj,t5,t6,t47,t48,t49,a0,ab,hv⟩ J hJ
  refine bt aE _ ?_
  by_cases az:j<s.size
  ·have jK:j<s.data.toList.length:=by omega
   obtain⟨z,hz⟩:∃z,z=s.data.toList[j]:=⟨_,rfl⟩;obtain⟨z1,z2⟩:=hd z (by rw[hz];exact ai jK);have gD:∀hh,(bM s.data.toList)[j]'hh=.int .u8 (z.toNat:Int):=fun hh=>by
    simp only[Zi,List.getElem_map,← hz];rfl
   have aJ:=hv.out;rw[aj jK,← hz]at aJ;have bD:uW s.data.toList 0=uW (s.data.toList.drop (j+1)) (a * 10+((z.toNat:Int)-48)):=aJ;have HV:=Lib.hid bD;clear aJ bD hv;have w8:IntKind.u8.wrap ((z.toNat:Int)-48)=(z.toNat:Int)-48:=by
    simp only[IntKind.wrap,IntKind.signed,IntKind.bits,Bool.false_and,Bool.false_eq_true,if_false];exact Int.emod_eq_of_lt (by omega) (by show _<(256:Int);omega)
   have xL:BS (j+1)=BS j * 10+9:=rfl;have hb7:=zO5 (j+1) (by omega);have wa:IntKind.i64.wrap (a * 10)=a * 10:=aY _ (by omega) (by omega);have wb:IntKind.i64.wrap ((z.toNat:Int)-48)=(z.toNat:Int)-48:=aY _ (by omega) (by omega);have wc:IntKind.i64.wrap (a * 10+((z.toNat:Int)-48))=a * 10+((z.toNat:Int)-48):=aY _ (by omega) (by omega);have g9:¬(9:Int)<(z.toNat:Int)-48:=by omega
   simp-implicitDefEqProofs[go_sem,t6,t47,t48,t49,az,gD,mG,bI,w8,wa,wb,wc,g9];refine hJ (s.size-(j+1)) _ (by omega) ⟨_,j+1,a * 10+((z.toNat:Int)-48),rfl,rfl,by omega,?_⟩;simp-implicitDefEqProofs (disch:=omega) [go_sem,t5,t47,t48,aY];exact⟨by omega,by omega,HV⟩
  ·have zO:j=s.size:=by omega
   have aJ:=hv.out;rw[aq (by omega)]at aJ;simp-implicitDefEqProofs[go_sem,t5,t6,t48,t49,az,q4,n45];have bD:uW s.data.toList 0=a:=aJ;refine hR _ _ _ ?_ ?_
   ·simp(disch:=omega)only[aL];exact aA.refl _ _
   ·rw[bD];exact Fz.same _ rfl
theorem zQx (s:ByteArray)(h1:1≤s.size)(h7:s.size≤7)(hd:∀z∈s.data.toList,48≤z.toNat∧z.toNat≤57):ay Tryz.prog cx 223 [.bs s] (.tup [.int .i64 (uW s.data.toList 0),.nilIface]):=by
 refine ay.mk fun h nx R hR=>aV (sz:=18) (rs:=[.tmp 2,.tmp 3]) aE zMb rfl rfl rfl (by simp) ?_;simp-implicitDefEqProofs[go_sem];refine ay.use (zNb s h1 h7 hd) ?_;simp-implicitDefEqProofs[go_sem,aB];exact hR _ _ _ (aA.refl _ _) (Fz.same _ rfl)
end
end Go.Ev
namespace Go.Ev
open Go.Proofs Go.RowKit
noncomputable section
def G1:Gl:=⟨6,false,fun _=>none⟩
def HX (b:Bool)(P:Program)(G:Gl) (nt nf:Nat):Cx:=.mk (tab (yJ b P) nt) .nil (tab (rj P) nf) G (Bv P)
set_option linter.unusedVariables false in
theorem Zn (b:Bool)(P:Program)(G:Gl) (nt nf:Nat):CxOk P (HX b P G nt nf):=
 ⟨fun t ti h=>Yz (Ht _ _ _ _ h),fun t=>trivial,fun e k o u h=>h,fun f fn h=>zxy (Ht _ _ _ _ h)⟩
def BU:Cx:=HX false Tryz.prog G1 400 357
theorem YG:CxOk Tryz.prog BU:=Zn _ _ _ _ _
def S9 (c:Cx):CY:=ev c (fun ca=>KR 275 (Ku 315 ca)) (fun ca ya=>BV c ca ya) 100000 60
def JU (f:Nat)(args:List AV):CO:=
 qY (yJ false Tryz.prog) 400 fun tt=>qY (rj Tryz.prog) 357 fun ft=>(S9 (.mk tt .nil ft G1 (Bv Tryz.prog))).ca f args .nil 6
theorem zJx (f:Nat)(args:List AV):JU f args=(S9 BU).ca f args .nil 6:=by
 unfold JU;rw[yF];show qY (rj Tryz.prog) 357 _=_;rw[yF];rfl
theorem WQ:DY Tryz.prog 275 Extern.AbiNoEscape.same:=YE (fn:=Tryz.f275) (by kernel_rfl) (by kernel_rfl) (by kernel_rfl) (by kernel_rfl) (by kernel_rfl)
theorem W8:DY Tryz.prog 315 Extern.BytealgIndexByte.indexByte:=YE (fn:=Tryz.f315) (by kernel_rfl) (by kernel_rfl) (by kernel_rfl) (by kernel_rfl) (by kernel_rfl)
theorem zK3 {f:Nat}{args:List AV}{v:AV}{g:Tr ABlk}{ny:Nat}(h:JU f args=.ok v g ny):aN Tryz.prog BU f args .nil 6 (zb v g ny):=by
 rw[zJx]at h;exact(Qu YG (fun ca df=>XT WQ (ZE W8 df)) (fun ca ya h1 h2=>R8 mixed YG h1 h2) 100000 60).1 _ _ _ _ _ _ _ h
def yS (n:Nat):Nat:=
 if (97≤n∧n≤122)∨(65≤n∧n≤90) then 3 else if 48≤n∧n≤57 then 4 else if n=32∨n=9∨n=10 then 1 else if n∈[59,44,46,58,40,41,91,93,123,125,61] then 6 else if n=60∨n=62 then 7 else if n=35 then 2 else if n=95 then 5 else if n=33 then 8 else 0
def lQ:List Nat:=(List.range 256).map yS
def il (l:List Nat):List AV:=l.map fun (n:Nat)=>AV.int .u8 (n:Int)
def HU:List AV→List Nat→Bool
 |[],[]=>true
 |.int .u8 (.ofNat n)::l,m::ms=>Nat.beq n m && HU l ms
 |_,_=>false
theorem XW:∀{l:List AV}{ms:List Nat},HU l ms=true→l=il ms
 |[],[],_=>rfl
 |.int .u8 (.ofNat n)::l,m::ms,h=>by
  simp only[HU,al]at h;rw[XW h.2,ad h.1];rfl
def Ly:CO→Bool
 |.ok (.agg l) g _=>HU l lQ && ((g.get 0).isNone && ((g.get 1).isNone && ((g.get 2).isNone && ((g.get 3).isNone && ((g.get 4).isNone && (g.get 5).isNone)))))
 |_=>false
theorem zJ4:Ly (JU 220 [])=true:=by kernel_rfl
theorem zzm:∀l:List Nat,kT (il l)=true
 |[]=>rfl
 |n::l=>by
  have:=zzm l;rw[show il (n::l)=.int .u8 (n:Int)::il l from rfl];simp only[kT,jy,this]
theorem QK:∀l:List Nat,bC (il l)=true
 |[]=>rfl
 |n::l=>by
  have:=QK l;rw[show il (n::l)=.int .u8 (n:Int)::il l from rfl];simp only[bC,plain,this,Bool.and_self]
theorem Ss:BU.G=G1:=rfl
theorem Xx (g:Nat)(cs:List AV)(h:BU.G.tab g=some cs):False:=by
 rw[Ss]at h;cases h
theorem zGn {r:CO}(h:Ly r=true):∃g ny,r=.ok (.agg (il lQ)) g ny∧∀k,k<6→g.get k=none:=by
 unfold Ly at h;split at h
 ·rename_i l g ny;simp only[al,Option.isNone_iff_eq_none]at h;obtain⟨a1,a2,a3,a4,a5,a6,a7⟩:=h;refine⟨g,ny,by rw[XW a1],fun k hk=>?_⟩
  match k,hk with
  |0,_=>exact a2
  |1,_=>exact a3
  |2,_=>exact a4
  |3,_=>exact a5
  |4,_=>exact a6
  |5,_=>exact a7
 ·cases h
theorem zyh:ay Tryz.prog cx 220 [] (.agg (il lQ)):=by
 obtain⟨g,ny,hr,hg⟩:=zGn zJ4;have hc:=zK3 hr;have h1:ay Tryz.prog BU 220 [] (.agg (il lQ)):=by
  refine ay.of_nil (fun g cs h=>(Xx g cs h).elim) rfl (by simp only[jy];exact zzm _) ?_;rw[Ss];refine aN.mono hc ?_
  rintro v' g' oy ⟨rfl,rfl,rfl⟩
  exact⟨fun k hk=>hg k hk,Fz.same _ (by simp only[plain];exact QK _)⟩
 exact h1.tab (by rw[Ss,Ec];rfl) (fun g cs h=>(Xx g cs h).elim)
end
end Go.Ev
namespace Go.Ev
open Go.Proofs Go.RowKit
noncomputable section
attribute [-go_sem] dw bP ep gH
theorem zGy:cx.ft.get 162=some Tryz.f162:=aT (by decide) (by kernel_rfl)
def GR (s:ByteArray):AV:=.func 221 [] [.ip [.bs s],.ip (il lQ)]
theorem zLa:lQ.length=256:=by unfold lQ;rw[List.length_map,List.length_range]
theorem zR5 (l:List Nat):(il l).length=l.length:=by unfold il;rw[List.length_map]
theorem zy2:∀l:List Nat,dB (il l)=true
 |[]=>rfl
 |n::l=>by
  have:=zy2 l;rw[show il (n::l)=.int .u8 (n:Int)::il l from rfl];exact this
theorem zI2 (s:ByteArray):ay Tryz.prog cx 162 [.bs s] (.func 222 [] [.ip [.bs s],.ip [GR s]]):=by
 refine ay.mk fun h nx R hR=>aV (sz:=8) (rs:=[.tmp 2]) aE zGy rfl rfl rfl (by simp) ?_;simp-implicitDefEqProofs[go_sem];refine ay.use zyh ?_;have hl:(il lQ).length=256:=by rw[zR5,zLa]
 have ho:=zy2 lQ;generalize hT:il lQ=T at hl ho;have dM:T.take 256=T:=ar (by omega);simp-implicitDefEqProofs[go_sem,aB,hl,ho,aG];have hp:bC T=true:=by rw[← hT];exact QK _
 generalize hg:Tr.put _ (nx+1+1) (some (bx 246 [.func 221 [] _] false 0))=g;have g0:g.get nx=some (bx 9 [.bs s] false 0):=by rw[← hg];simp(disch:=omega) [go_sem,lh]
 have g1:g.get (nx+1)=some (bx 244 T false 0):=by rw[← hg];simp(disch:=omega) [go_sem]
 have g2:g.get (nx+2)=some (bx 246 [.func 221 [] [.ptr nx 0,.ptr (nx+1) 0]] false 0):=by rw[← hg];simp(disch:=omega) [go_sem]
 have E:aA nx h g:=by
  rw[← hg];simp(disch:=omega)only[aL];exact aA.refl _ _
 clear hg;have f0:=wF (nx:=nx) (ae _) g0 rfl;have f1:=wF (nx:=nx) (by omega) g1 hp;refine hR _ _ _ E (.func 222 _ _ _ _ .nil (.cons _ _ _ _ f0 (.cons _ _ _ _ ?_ .nil)));unfold GR;rw[hT];exact .pin (nx+2) 0 246 1 _ false 0 [.func 221 [] [.ptr nx 0,.ptr (nx+1) 0]] _ (by omega) g2 (by simp) (fun j hj=>by rw[Nat.zero_add,fx]) (.cons _ _ _ _ (.func 221 _ _ _ _ .nil (.cons _ _ _ _ f0 (.cons _ _ _ _ f1 .nil))) .nil)
end
end Go.Ev
namespace Go.Proofs
open Go.Shelf Go.RowKit Go.Lib
variable {P : Program} {ρ : Ren}
set_option maxRecDepth 100000 in
theorem zMe (L:SlLaysE0.n41 P ρ)(i0:TypeInfo)(z:Value) (size bytes:Nat)(hi:P.info? (ρ.t 23)=some i0)(IP:i0.zero=some z)(hz1:i0.size=size)(Cw:i0.bytes=bytes)(oZ:z.cells.size=size)(bI:0<size)(z23:∀w,(Go.sizeOf (ρ.t 23)).run P w=.ok size w)(a:Addr) (c:Nat)(w:World):
  Calls P (ρ.f 41) #[.slice (some a) 0 c] w fun e w'=>∃v',e=.returned v'∧w'.ownsRow w.heap.size (ρ.t 23) size v' 0 []∧v'≠.slice none 0 0∧Below w.heap.size w w':=by
 have mixed:=L.mixed;have t4:=L.t4;have a4:=L.a4;have z4:=L.z4;have v4:=L.v4;have t22:=L.t22;have a22:=L.a22;have z22:=L.z22;have v22:=L.v22;have q22:∀(w:World) (a:Option Addr) (n c n' c':Nat),(binOp .eql (ρ.t 22) (.slice a n c) (.slice none n' c')).run P w=.ok (.bool a.isNone) w:=fun w a n c n' c'=>Lib.run_eql_slice_nil w _ _ a n c n' c' L.t22;have u22:∀w,Sem.run P (underlying (ρ.t 22)) w=.ok (TypeDesc.slice (ρ.t 23)) w:=run_underlying t22;obtain⟨_,_,FG⟩:=L.f41
 go_enter FG,SlBodyN.n41_ntmps ρ
 go_wp2_with (at_builtin;refine wpList_append_own _ rfl _ _ (ρ.t 22) rfl w.heap.size (ρ.t 23) i0 z size bytes t22 hi IP hz1 Cw oZ bI _ _ _ rfl (World.ownsRow_made w #[] 0 (Nat.le_refl _) (Nat.zero_le _) (by simp)) a 0 c [] rfl ?qc1 ?qc2 ?qc3 ?qc4 ?qc5 ?qc6 ?_)
 case qc1=>simp
 case qc2=>intro j u hj;simp at hj
 case qc3=>intro u hu;cases hu
 case qc4=>unfold maxLen;omega
 case qc5=>simp
 case qc6=>simp
 intro v' w1 Ai Fj tq
 go_wp2
 go_ret
 refine⟨v',rfl,by simpa using Ai,?_,?_⟩
 ·first |exact tq |(intro e;exact absurd (tq.1 e).1 (by simp))
 ·exact((Below.refl _ w).alloc (Nat.le_refl _) _).grown Fj (by simp) (by intro k hk;simp[Value.ownBlock]at hk;omega)
end Go.Proofs
namespace Go.Ev
open Go.Proofs Go.RowKit
noncomputable section
theorem zRz (w:World):(Go.sizeOf 65).run Tryz.prog w=.ok 4 w:=by kernel_rfl
noncomputable def YN:Bool:=match Tryz.prog.info? 65 with
 |some i=>Nat.beq i.size 4 && (match i.zero with |some z=>Nat.beq z.cells.size 4 |none=>false)
 |none=>false
theorem zPy:YN=true:=by kernel_rfl
theorem zRg:∃i0 z,Tryz.prog.info? 65=some i0∧i0.zero=some z∧i0.size=4∧z.cells.size=4:=by
 have h:=zPy;unfold YN at h;split at h
 ·rename_i i hi;rw[al]at h;obtain⟨h1,h2⟩:=h;split at h2
  ·rename_i z hz;exact⟨i,z,hi,hz,ad h1,ad h2⟩
  ·cases h2
 ·cases h
theorem zUl (a:Addr) (cp:Nat)(w:World):Calls Tryz.prog 40 #[.slice (some a) 0 cp] w fun q w'=>∃v',q=.returned v'∧w'.ownsRow w.heap.size 65 4 v' 0 []∧v'≠.slice none 0 0∧Below w.heap.size w w':=by
 obtain⟨i0,z,h1,h2,h3,h4⟩:=zRg;exact zMe Tryz.clone40 i0 z 4 i0.bytes h1 h2 h3 rfl h4 (by decide) zRz a cp w
theorem zLr (n cp:Nat)(w:World):Calls Tryz.prog 40 #[.slice none n cp] w fun e w'=>e=.returned (.slice none 0 0)∧w'=w:=AnyE.slices_Clone_nil Tryz.clone40 n cp w
end
end Go.Ev
namespace Go.Ev
open Go.Proofs Go.RowKit
noncomputable section
attribute [-go_sem] dw bP ep gH
theorem zK5:il lQ=yB fun n=>(yS n:Int):=by
 unfold il lQ yB;rw[List.map_map];rfl
def cl (s:ByteArray) (i:Nat):Int:=yO (fun n=>(yS n:Int)) s i
theorem R6 (s:ByteArray) (i:Nat):ay Tryz.prog cx 221 [.int .i64 (i:Int),.ip [.bs s],.ip (il lQ)] (.int .u8 (cl s i)):=by
 rw[zK5];exact zNy _ s i
theorem PT {s:ByteArray}{i:Nat}(h:s.size≤i):cl s i=0:=by
 unfold cl yO;rw[dif_neg (by omega)]
def fP (p:Int→Bool)(s:ByteArray):Nat→Nat→Nat
 |0,i=>i
 |f+1,i=>if p (cl s i) then fP p s f (i+1) else i
def rA (s:ByteArray):Nat→Nat→Nat
 |0,i=>i
 |f+1,i=>if h:i<s.size then (if (s[i]).toNat=10 then i else rA s f (i+1)) else i
theorem KO (p:Int→Bool)(hp:p 0=false)(s:ByteArray):∀(f i:Nat),i≤s.size→i≤fP p s f i∧fP p s f i≤s.size
 |0,i,h=>⟨ae _,h⟩
 |f+1,i,h=>by
  rw[fP]
  by_cases e:p (cl s i)=true
  ·rw[if_pos e];have hi:i<s.size:=by
    rcases Nat.lt_or_ge i s.size with q |q
    ·exact q
    ·rw[PT q,hp]at e;cases e
   obtain⟨a,b⟩:=KO p hp s f (i+1) hi;exact⟨by omega,b⟩
  ·rw[if_neg e];exact⟨ae _,h⟩
theorem YW (p:Int→Bool)(s:ByteArray):∀(f i j:Nat),i≤j→j<fP p s f i→p (cl s j)=true
 |0,i,j,h1,h2=>by rw[fP]at h2;omega
 |f+1,i,j,h1,h2=>by
  rw[fP]at h2
  by_cases e:p (cl s i)=true
  ·rw[if_pos e]at h2
   rcases Nat.eq_or_lt_of_le h1 with q |q
   ·rw[← q];exact e
   ·exact YW p s f (i+1) j q h2
  ·rw[if_neg e]at h2;omega
theorem PN (s:ByteArray):∀(f i:Nat),i≤s.size→i≤rA s f i∧rA s f i≤s.size
 |0,i,h=>⟨ae _,h⟩
 |f+1,i,h=>by
  rw[rA]
  by_cases e:i<s.size
  ·rw[dif_pos e]
   by_cases e2:(s[i]).toNat=10
   ·rw[if_pos e2];exact⟨ae _,h⟩
   ·rw[if_neg e2];obtain⟨a,b⟩:=PN s f (i+1) e;exact⟨by omega,b⟩
  ·rw[dif_neg e];exact⟨ae _,h⟩
theorem zS9 {n:Nat}(h:yS n=4):48≤n∧n≤57:=by
 unfold yS at h
 by_cases h1:(97≤n∧n≤122)∨(65≤n∧n≤90)
 ·rw[if_pos h1]at h;cases h
 rw[if_neg h1]at h
 by_cases h2:48≤n∧n≤57
 ·exact h2
 rw[if_neg h2]at h;exfalso
 repeat' split at h
 all_goals cases h
structure Tk where
 kind:Int
 text:ByteArray
 num:Int
 pos:Int
 code:Int
def Tk.cs (t:Tk):List AV:=[.int .i64 t.kind,.bs t.text,.int .i64 t.num,.int .i64 t.pos,.int .i64 t.code]
def tx (c:Int):Bool:=decide (c=3) || (decide (c=4) || decide (c=5))
def nR (c:Int):Bool:=decide (c=4)
def ji (s:ByteArray) (i:Nat):Tk×Nat:=
 if cl s i=3 then
  let j:=fP tx s s.size i
  (⟨1,s.extract i j,0,(i:Int),if 24<j-i then 2 else 0⟩,j)
 else if cl s i=4 then
  let j:=fP nR s s.size i
  if 7<j-i∨cl s j=3∨cl s j=5 then (⟨2,s.extract i j,0,(i:Int),4⟩,j)
  else (⟨2,s.extract i j,uW (s.extract i j).data.toList 0,(i:Int),0⟩,j)
 else if cl s i=6∨cl s i=7∨cl s i=8 then
  if cl s i≠6∧(∃h:i+1<s.size,(s[i+1]).toNat=61) then (⟨3,s.extract i (i+2),0,(i:Int),0⟩,i+2)
  else (⟨3,s.extract i (i+1),0,(i:Int),if cl s i=8 then 3 else 0⟩,i+1)
 else (⟨0,s.extract i i,0,(i:Int),3⟩,i)
end
end Go.Ev
