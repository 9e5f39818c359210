/- Texts T61 T62 T63 T64 T65 T66 T67 T68 T69. -/
import Derived.Test.YtkdnmldmffkkoaaGreatDoorP16
import Derived.Test.YtkdnmldmffkkoaaGreatDoorP26
import Derived.Test.YtkdnmldmffkkoaaGreatDoorP28
set_option linter.unusedSimpArgs false
set_option linter.unusedVariables false
set_option maxRecDepth 100000
namespace Go.Ev
open Go.Proofs Go.RowKit
noncomputable section
attribute [-go_sem] zaf zac zay zbj
theorem zT8:cx.ft.get 85=some Tryz.f85:=za9 (by decide) (by kernel_rfl)
def zhx (nm kn:ByteArray→Bool)(d:List Fc)(f:Fm):Int:=
 if zkb nm f=false then 1 else
 match f with
 |.mk o n _ m _=>if o=3∧(m<0∨1000000<m) then 10 else if (o=3∧zb8 (fun x:Fc=>decide (x.name=n)) d<0)∨(o=4∧kn n=false) then 7 else 0
def zd0 (nm kn:ByteArray→Bool)(d:List Fc) (s:Int)(f:Fm):Int×Bool:=if zhx nm kn d f=0 then (s,true) else (zhx nm kn d f,false)
def zhi (nm kn:ByteArray→Bool)(d:List Fc)(f:Fm):Int:=
 if 200<f.size∨20<f.deep then 2 else (zbd (zd0 nm kn d) 0 f).1
theorem zkh {i:Nat}{K:AV→Tr ABlk→Nat→Prop}{tm tmR:Tr AV}{h:Tr ABlk}{nx sz db:Nat}{ds:List DE}{fn:FuncId}{st:LoopState}{pend:Option Code}{ps:Array Tmp}{x y:Code}{rb rec:ABlk}(hb:ABlk.loop st pend fn sz tmR ps x y db=rb)(hi:h.get i=some rb)(hr:ABlk.loop .done (some .ret) fn sz tmR ps x y db=rec)(hk:K (.bool false) (h.put i (some rec)) nx):zui i K .ret (.mk tm h nx ds):=by
 subst hb
 subst hr
 exact⟨_,_,_,_,_,_,_,_,_,hi,hk⟩
theorem zxv {Q:AX→AS→Prop}{v:AV}{tm tmR:Tr AV}{g:Tr ABlk}{nx ny sz db:Nat}{ds:List DE}{fn:FuncId}{ps:Array Tmp}{x y:Code}{rec:ABlk}(hr:ABlk.loop .done (some .ret) fn sz tmR ps x y db=rec)(hi:g.get (nx+1)=some rec)(hk:Q .ret (.mk tm (g.put (nx+1) none) ny (.mark nx::ds))):zx4 tm ds nx Q v g ny:=by
 subst hr
 exact⟨_,_,_,_,_,_,_,_,_,hi,by simp,hk⟩
mutual
theorem zt2 {S:Type}{step:S→Fm→S×Bool}(h:∀s x,(step s x).2=true→(step s x).1=s):∀s f,(zbd step s f).2=true→(zbd step s f).1=s
 |s,.mk o n c m kids,hv=>by
  rw[zbd]at hv ⊢
  by_cases h1:(step s (.mk o n c m kids)).2=true
  ·rw[if_pos h1]at hv ⊢
   rw[h _ _ h1]at hv ⊢
   exact zEu h s kids hv
  ·rw[if_neg h1]at hv;cases hv
theorem zEu {S:Type}{step:S→Fm→S×Bool}(h:∀s x,(step s x).2=true→(step s x).1=s):∀s l,(zcz step s l).2=true→(zcz step s l).1=s
 |s,[],_=>by rw[zcz]
 |s,f::l,hv=>by
  rw[zcz]at hv ⊢
  by_cases h1:(zbd step s f).2=true
  ·rw[if_pos h1]at hv ⊢
   rw[zt2 h s f h1]at hv ⊢
   exact zEu h s l hv
  ·rw[if_neg h1]at hv;cases hv
end
theorem zAn (nm kn:ByteArray→Bool)(d:List Fc) (s:Int)(x:Fm)(h:(zd0 nm kn d s x).2=true):(zd0 nm kn d s x).1=s:=by
 unfold zd0 at h ⊢
 by_cases h1:zhx nm kn d x=0
 ·rw[if_pos h1]
 ·rw[if_neg h1]at h;cases h
def JC (nx:Nat)(rec dv fv:ABlk) (s:Int)(O:Nat→Prop)(h:Tr ABlk) (n:Nat):Prop:=
 h.get (nx+1)=some dv∧h.get (nx+2)=some fv∧h.get (nx+3)=some (bx 44 [.int .i64 s] false 0)∧h.get (nx+4)=some .dfr∧h.get (nx+5)=some rec∧(∀k,O k↔nx≤k∧k≤nx+5)∧nx+6≤n
set_option maxHeartbeats 4000000 in
theorem zA1 (nm kn:ByteArray→Bool)(u:Bool)(d:List Fc)(kf:FuncId)(cap:List AV)(f:Fm)(hf:f.size≤1000000)(hd:d.length≤1000000000)(hnm:∀s,Ret Tryz.prog cx 193 [.bs s] (.bool (nm s)))(hkn:∀s,Ret Tryz.prog cx kf ([.bs s]++cap) (.bool (kn s))):
  Ret Tryz.prog cx 85 [.agg f.cs,.agg [.fz 4 u (za8 d)],.func kf [] cap] (.int .i64 (zhi nm kn d f)):=by
 refine Ret.mk fun h nx R hR=>zaa (sz:=63) (rs:=[.cell 6 44]) za4 zT8 rfl rfl rfl (by simp) ?_
 obtain⟨r,hr⟩:∃r,r=zhi nm kn d f:=⟨_,rfl⟩
 rw[← hr]at hR
 unfold zhi at hr
 have hR2:∀b g ny,b=r→Ext nx h g→R (.int .i64 b) g ny:=fun b g ny hb hE=>hR _ _ _ hE (Fz.eq rfl (by rw[hb]))
 clear hR
 obtain⟨fcs,hfcs⟩:∃l,l=f.cs:=⟨_,rfl⟩
 have hf5:fcs.length=5:=by rw[hfcs];cases f;rfl
 have hft:fcs.take 5=fcs:=List.take_of_length_le (by omega)
 have hsz:=zMv f.size f (Nat.le_refl _) (by omega)
 have hnd:=zxf f
 rw[← hfcs]at hsz hnd ⊢
 have z1:¬nx=nx+1:=by omega
 have z2:¬nx=nx+1+1:=by omega
 have z3:¬nx=nx+2+1:=by omega
 have z4:¬nx=nx+1+1+1:=by omega
 simp-implicitDefEqProofs[go_sem,hf5,hft,za3,z1,z2,z3,z4]
 refine Ret.use hsz ?_
 have hi1:(f.size:Int)≤200↔f.size≤200:=by omega
 by_cases h1:200<f.size
 ·have h1I:(200:Int)<(f.size:Int):=by omega
  rw[if_pos (.inl h1)]at hr
  simp-implicitDefEqProofs[go_sem,za0,hf5,hft,za3,z1,z2,z3,z4,h1,h1I]
  refine hR2 _ _ _ hr.symm ?_
  simp(disch:=omega)only[za6]
  exact Ext.refl _ _
 have h1I:¬(200:Int)<(f.size:Int):=by omega
 by_cases h2:20<f.deep
 ·have h2I:(20:Int)<(f.deep:Int):=by omega
  rw[if_pos (.inr h2)]at hr
  simp-implicitDefEqProofs[go_sem,za0,hf5,hft,za3,z1,z2,z3,z4,h1,h1I,h2,h2I]
  refine hR2 _ _ _ hr.symm ?_
  simp(disch:=omega)only[za6]
  exact Ext.refl _ _
 have h2I:¬(20:Int)<(f.deep:Int):=by omega
 rw[if_neg (by omega)]at hr
 simp-implicitDefEqProofs[go_sem,za0,hf5,hft,za3,z1,z2,z3,z4,h1,h1I,h2,h2I]
 refine Ret.use hnd ?_
 simp-implicitDefEqProofs[go_sem,za0]
 obtain⟨fn,_⟩:∃fn:FuncId,fn=fn:=⟨0,rfl⟩
 refine zqj za4 zsb (first:=[]) (cap:=[.ip fcs]) (fn0:=fn) (by simp[go_sem]) ?_
 generalize hrec:ABlk.loop LoopState.ready none fn 63 _ _ _ _ _=rec
 obtain⟨recD,hrecD⟩:∃recD,recD=(match rec with |.loop _ _ fn sz tm ps x y db=>ABlk.loop .done (some .ret) fn sz tm ps x y db |b=>b):=⟨_,rfl⟩
 rw[hfcs]
 refine(zEy (S:=Int) (step:=zd0 nm kn d) (Pre:=fun _ _=>True) (i:=nx+5)
  (J:=JC nx rec (bx 35 [.fz 4 u (za8 d)] false 0) (bx 48 [.func kf [] cap] false 0)) (JE:=JC nx recD (bx 35 [.fz 4 u (za8 d)] false 0) (bx 48 [.func kf [] cap] false 0)) ?_ f 0 (fun k=>nx≤k∧k≤nx+5) _ _ (by omega) (zun (mu:=fun _=>0) (N:=16777216) (fun _ _=>Nat.zero_le _) (fun _ _ _=>trivial) 0 f (by show 0+f.size≤_;omega)) ?_).mono ?_
 ·refine⟨?_,fun s O h' n hj k hk=>by obtain⟨_,_,_,_,_,j1,j2⟩:=hj;have:=(j1 k).1 hk;omega,?_⟩
  ·rintro s O h1 n1 h2 n2 ⟨j1,j2,j3,j4,j5,j6,j7⟩ hk hle
   refine⟨?_,?_,?_,?_,?_,j6,by omega⟩
   all_goals (rw[hk _ ((j6 _).2 (by omega))];assumption)
  ·intro s O x h1 n1 _ hj
   obtain⟨K,hK⟩:∃K:AV→Tr ABlk→Nat→Prop,K=fun v g ny=>v=.bool (zd0 nm kn d s x).2∧∃O',zbp O h1 n1 O' g ny∧(if (zd0 nm kn d s x).2 then JC nx rec (bx 35 [.fz 4 u (za8 d)] false 0) (bx 48 [.func kf [] cap] false 0) (zd0 nm kn d s x).1 O' g ny else JC nx recD (bx 35 [.fz 4 u (za8 d)] false 0) (bx 48 [.func kf [] cap] false 0) (zd0 nm kn d s x).1 O' g ny):=⟨_,rfl⟩
   rw[← hK]
   obtain⟨j1,j2,j3,j4,j5,j6,j7⟩:=hj
   have hL:=j5
   rw[← hrec]at hL
   refine zow hL rfl (by simp) (zag za4 _ ?_)
   have hxf:=zMk nm x (hnm _)
   have nl:¬nx+5=n1:=by omega
   have nl2:¬n1=nx+5:=by omega
   have nl3:¬nx+3=nx+5:=by omega
   have nl4:¬nx+3=n1:=by omega
   have nl5:¬nx+1=nx+5:=by omega
   have nl6:¬nx+1=n1:=by omega
   have nl7:¬nx+2=nx+5:=by omega
   have nl8:¬nx+2=n1:=by omega
   have hrD:∀st pend fn sz tm ps x y db,ABlk.loop st pend fn sz tm ps x y db=rec→ABlk.loop .done (some .ret) fn sz tm ps x y db=recD:=by
    intro st pend fn sz tm ps x y db e
    rw[hrecD,← e]
   have hKept:∀g:Tr ABlk,(∀k,k<n1→k≠nx+5→k≠nx+3→g.get k=h1.get k)→zbp O h1 n1 O g (n1+1):=fun g hg=>⟨Nat.le_succ _,fun k hk ho=>hg k hk (fun e=>ho ((j6 k).2 (by omega))) (fun e=>ho ((j6 k).2 (by omega))),fun k hk=>.inl hk⟩
   have hStop:∀(c:Int) (M:Tr ABlk),c≠0→zhx nm kn d x=c→(∀k,k<n1→k≠nx+5→M.get k=h1.get k)→K (.bool false) ((M.put (nx+3) (some (bx 44 [.int .i64 c] false 0))).put (nx+5) (some recD)) (n1+1):=by
    intro c M hc0 hc hM
    have hst:zd0 nm kn d s x=(c,false):=by unfold zd0;rw[hc,if_neg hc0]
    rw[hK,hst]
    refine⟨rfl,O,hKept _ (fun k k1 k2 k3=>by rw[Tr.get_put,if_neg k2,Tr.get_put,if_neg k3];exact hM k k1 k2),?_⟩
    rw[if_neg (by simp)]
    refine⟨?_,?_,?_,?_,?_,j6,by omega⟩
    ·rw[Tr.get_put,if_neg (by omega),Tr.get_put,if_neg (by omega),hM _ (by omega) (by omega)];exact j1
    ·rw[Tr.get_put,if_neg (by omega),Tr.get_put,if_neg (by omega),hM _ (by omega) (by omega)];exact j2
    ·rw[Tr.get_put,if_neg (by omega),Tr.get_put,if_pos rfl]
    ·rw[Tr.get_put,if_neg (by omega),Tr.get_put,if_neg (by omega),hM _ (by omega) (by omega)];exact j4
    ·rw[Tr.get_put,if_pos rfl]
   have hGo:∀(M:Tr ABlk),zhx nm kn d x=0→(∀k,k<n1→k≠nx+5→M.get k=h1.get k)→K (.bool true) (M.put (nx+5) (some rec)) (n1+1):=by
    intro M hc hM
    have hst:zd0 nm kn d s x=(s,true):=by unfold zd0;rw[hc,if_pos rfl]
    rw[hK,hst]
    refine⟨rfl,O,hKept _ (fun k k1 k2 k3=>by rw[Tr.get_put,if_neg k2];exact hM k k1 k2),?_⟩
    rw[if_pos rfl]
    refine⟨?_,?_,?_,?_,?_,j6,by omega⟩
    ·rw[Tr.get_put,if_neg (by omega),hM _ (by omega) (by omega)];exact j1
    ·rw[Tr.get_put,if_neg (by omega),hM _ (by omega) (by omega)];exact j2
    ·rw[Tr.get_put,if_neg (by omega),hM _ (by omega) (by omega)];exact j3
    ·rw[Tr.get_put,if_neg (by omega),hM _ (by omega) (by omega)];exact j4
    ·rw[Tr.get_put,if_pos rfl]
   cases x with
   |mk o nn cm m kids=>
   simp only[zhx]at hStop hGo
   simp-implicitDefEqProofs[go_sem,nl,nl2,putP,Fm.cs,za3]
   refine⟨none,fn,63,_,_,_,_,nx+1+1+1+1,by simp[go_sem,nl];exact hL,zag za4 _ ?_⟩
   generalize hbz:ABlk.loop LoopState.busy none fn 63 _ _ _ _ _=rbz
   have hMg:∀(X Y:Option ABlk) (k:Nat),k<n1→k≠nx+5→(((h1.put n1 X).put n1 Y).put (nx+5) (some rbz)).get k=h1.get k:=fun X Y k k1 k2=>by
    rw[Tr.get_put,if_neg k2,Tr.get_put,if_neg (by omega),Tr.get_put,if_neg (by omega)]
   simp-implicitDefEqProofs[go_sem,nl,nl2,putP,Fm.cs,za3]
   refine Ret.use hxf ?_
   cases hfo:zkb nm (.mk o nn cm m kids) with
   |false=>
    rw[hfo]at hStop
    simp-implicitDefEqProofs[go_sem,za0,nl,nl2,nl3,nl4,nl5,nl6,nl7,nl8,j1,j2,j3]
    refine zkh hbz (by simp[go_sem,nl]) (hrD _ _ _ _ _ _ _ _ _ hrec) ?_
    exact hStop 1 _ (by decide) rfl (hMg _ _)
   |true=>
    rw[hfo]at hStop hGo
    by_cases o3:o=3
    ·subst o3
     by_cases m0:m<0
     ·simp-implicitDefEqProofs[go_sem,za0,nl,nl2,nl3,nl4,nl5,nl6,nl7,nl8,j1,j2,j3,m0]
      refine zkh hbz (by simp[go_sem,nl]) (hrD _ _ _ _ _ _ _ _ _ hrec) ?_
      exact hStop 10 _ (by decide) (by simp[m0]) (hMg _ _)
     by_cases m1:1000000<m
     ·simp-implicitDefEqProofs[go_sem,za0,nl,nl2,nl3,nl4,nl5,nl6,nl7,nl8,j1,j2,j3,m0,m1]
      refine zkh hbz (by simp[go_sem,nl]) (hrD _ _ _ _ _ _ _ _ _ hrec) ?_
      exact hStop 10 _ (by decide) (by simp[m0,m1]) (hMg _ _)
     simp-implicitDefEqProofs[go_sem,za0,nl,nl2,nl3,nl4,nl5,nl6,nl7,nl8,j1,j2,j3,m0,m1]
     refine Ret.use (zxo u d nn hd) ?_
     by_cases hix:zb8 (fun x:Fc=>decide (x.name=nn)) d<0
     ·simp-implicitDefEqProofs[go_sem,za0,nl,nl2,nl3,nl4,nl5,nl6,nl7,nl8,j1,j2,j3,m0,m1,hix]
      refine zkh hbz (by simp[go_sem,nl]) (hrD _ _ _ _ _ _ _ _ _ hrec) ?_
      exact hStop 7 _ (by decide) (by simp[m0,m1,hix]) (hMg _ _)
     ·simp-implicitDefEqProofs[go_sem,za0,nl,nl2,nl3,nl4,nl5,nl6,nl7,nl8,j1,j2,j3,m0,m1,hix]
      refine zie hbz (by simp[go_sem,nl]) hrec ?_
      exact hGo _ (by simp[m0,m1,hix]) (hMg _ _)
    by_cases o4:o=4
    ·subst o4
     have hk1:=hkn nn
     simp-implicitDefEqProofs[go_sem,za0,nl,nl2,nl3,nl4,nl5,nl6,nl7,nl8,j1,j2,j3]
     refine Ret.use hk1 ?_
     cases hkk:kn nn with
     |false=>
      simp-implicitDefEqProofs[go_sem,za0,nl,nl2,nl3,nl4,nl5,nl6,nl7,nl8,j1,j2,j3]
      refine zkh hbz (by simp[go_sem,nl]) (hrD _ _ _ _ _ _ _ _ _ hrec) ?_
      exact hStop 7 _ (by decide) (by simp[hkk]) (hMg _ _)
     |true=>
      simp-implicitDefEqProofs[go_sem,za0,nl,nl2,nl3,nl4,nl5,nl6,nl7,nl8,j1,j2,j3]
      refine zie hbz (by simp[go_sem,nl]) hrec ?_
      exact hGo _ (by simp[hkk]) (hMg _ _)
    simp-implicitDefEqProofs[go_sem,za0,nl,nl2,nl3,nl4,nl5,nl6,nl7,nl8,j1,j2,j3,o3,o4]
    refine zie hbz (by simp[go_sem,nl]) hrec ?_
    exact hGo _ (by simp[o3,o4]) (hMg _ _)
 ·refine⟨?_,?_,?_,?_,?_,fun k=>Iff.rfl,by omega⟩
  all_goals (simp(disch:=omega) [go_sem,NEx])
 ·rintro v g ny ⟨O',hK,hq⟩
  have E1:Ext nx h g:=by
   intro k hk
   have:=hK.2.1 k (by omega) (by omega)
   rw[this]
   simp(disch:=omega) [go_sem,NEx,show ¬k=nx by omega,show ¬k=nx+1 by omega,show ¬k=nx+2 by omega,show ¬k=nx+3 by omega,show ¬k=nx+4 by omega,show ¬k=nx+5 by omega]
  by_cases hs:(zbd (zd0 nm kn d) 0 f).2=true
  ·rw[if_pos hs]at hq
   obtain⟨j1,j2,j3,j4,j5,j6,j7⟩:=hq
   refine zu5 hrec j5 ?_
   simp-implicitDefEqProofs[go_sem,j3,j4]
   refine hR2 _ _ _ ?_ ?_
   ·rw[hr,zt2 (zAn nm kn d) 0 f hs]
   ·simp(disch:=omega)only[za6]
    exact E1
  ·rw[if_neg hs]at hq
   obtain⟨j1,j2,j3,j4,j5,j6,j7⟩:=hq
   refine zxv (by rw[hrecD,← hrec]) j5 ?_
   simp-implicitDefEqProofs[go_sem,j3,j4]
   refine hR2 _ _ _ hr.symm ?_
   simp(disch:=omega)only[za6]
   exact E1
theorem zCm:cx.ft.get 38=some Tryz.f38:=za9 (by decide) (by kernel_rfl)
theorem zGt (s:ByteArray):Ret Tryz.prog cx 86 ([.bs s]++[.ip [.sl0]]) (.bool false):=by
 refine Ret.mk fun h nx R hR=>zaa (sz:=7) (rs:=[.tmp 3]) za4 zDc rfl rfl rfl (by simp) ?_
 simp-implicitDefEqProofs[go_sem]
 refine Ret.use (zzi s) ?_
 simp-implicitDefEqProofs[go_sem,za0]
 exact hR _ _ _ (Ext.refl _ _) (Fz.eq rfl rfl)
theorem zH8 (v:Bool)(l:List ByteArray)(s:ByteArray)(hl:l.length≤1000000000):Ret Tryz.prog cx 86 ([.bs s]++[.ip [.fz 1 v (zaj l)]]) (.bool (decide (0≤zca s l))):=by
 refine Ret.mk fun h nx R hR=>zaa (sz:=7) (rs:=[.tmp 3]) za4 zDc rfl rfl rfl (by simp) ?_
 simp-implicitDefEqProofs[go_sem]
 refine Ret.use (zyt v l s hl) ?_
 simp-implicitDefEqProofs[go_sem,za0]
 exact hR _ _ _ (Ext.refl _ _) (Fz.eq rfl rfl)
theorem zAj (nm:ByteArray→Bool)(u:Bool)(d:List Fc)(f:Fm)(hf:f.size≤1000000)(hd:d.length≤1000000000)(hnm:∀s,Ret Tryz.prog cx 193 [.bs s] (.bool (nm s))):
  Ret Tryz.prog cx 38 [.agg f.cs,.agg [.fz 4 u (za8 d)],.sl0] (.int .i64 (zhi nm (fun _=>false) d f)):=by
 refine Ret.mk fun h nx R hR=>za7.ofLe fun hG=>zaa (sz:=11) (rs:=[.tmp 6]) za4 zCm rfl rfl rfl (by simp) ?_
 have hc:=zA1 nm (fun _=>false) u d 86 [.ip [.sl0]] f hf hd hnm zGt
 obtain⟨fcs,hfcs⟩:∃l,l=f.cs:=⟨_,rfl⟩
 have hf5:fcs.length=5:=by rw[hfcs];cases f;rfl
 have hft:fcs.take 5=fcs:=List.take_of_length_le (by omega)
 have hpl:zah fcs=true:=by rw[hfcs];exact f.cs_plain
 rw[← hfcs]at hc ⊢
 have z1:¬nx=nx+1:=by omega
 have z2:¬nx=nx+1+1:=by omega
 have z3:¬nx=nx+2:=by omega
 simp-implicitDefEqProofs[go_sem,hf5,hft,za3,z1,z2,z3]
 refine Ret.useB zgh hc rfl (.cons _ _ _ _ (Fz.same _ (by simp[plain,hpl])) (.cons _ _ _ _ (Fz.same _ (by simp[plain,zah,zji])) (.cons _ _ _ _ (.func 86 _ _ _ _ .nil (.cons _ _ _ _ (zi7 (t:=25) (opn:=false) (esz:=0) (by omega) (by simp[go_sem]) (by simp[plain,zah])) .nil)) .nil))) ?_
 simp-implicitDefEqProofs[go_sem,za0]
 refine hR _ _ _ ?_ (Fz.eq rfl rfl)
 simp(disch:=omega)only[za6]
 exact Ext.refl _ _
theorem zJv (nm:ByteArray→Bool)(u v:Bool)(d:List Fc)(l:List ByteArray)(f:Fm)(hf:f.size≤1000000)(hd:d.length≤1000000000)(hl:l.length≤1000000000)(hnm:∀s,Ret Tryz.prog cx 193 [.bs s] (.bool (nm s))):
  Ret Tryz.prog cx 38 [.agg f.cs,.agg [.fz 4 u (za8 d)],.fz 1 v (zaj l)] (.int .i64 (zhi nm (fun s=>decide (0≤zca s l)) d f)):=by
 refine Ret.mk fun h nx R hR=>za7.ofLe fun hG=>zaa (sz:=11) (rs:=[.tmp 6]) za4 zCm rfl rfl rfl (by simp) ?_
 have hc:=zA1 nm (fun s=>decide (0≤zca s l)) u d 86 [.ip [.fz 1 v (zaj l)]] f hf hd hnm (fun s=>zH8 v l s hl)
 obtain⟨fcs,hfcs⟩:∃l,l=f.cs:=⟨_,rfl⟩
 have hf5:fcs.length=5:=by rw[hfcs];cases f;rfl
 have hft:fcs.take 5=fcs:=List.take_of_length_le (by omega)
 have hpl:zah fcs=true:=by rw[hfcs];exact f.cs_plain
 have hpB:zah (zaj l)=true:=by
  clear hl hc hR
  induction l with
  |nil=>rfl
  |cons x l ih=>simp[zaj,zah,plain]at ih ⊢;exact ih
 rw[← hfcs]at hc ⊢
 have z1:¬nx=nx+1:=by omega
 have z2:¬nx=nx+1+1:=by omega
 have z3:¬nx=nx+2:=by omega
 simp-implicitDefEqProofs[go_sem,hf5,hft,za3,z1,z2,z3]
 refine Ret.useB zgh hc rfl (.cons _ _ _ _ (Fz.same _ (by simp[plain,hpl])) (.cons _ _ _ _ (Fz.same _ (by simp[plain,zah,zji])) (.cons _ _ _ _ (.func 86 _ _ _ _ .nil (.cons _ _ _ _ (zi7 (t:=25) (opn:=false) (esz:=0) (by omega) (by simp[go_sem]) (by simp[plain,zah,hpB])) .nil)) .nil))) ?_
 simp-implicitDefEqProofs[go_sem,za0]
 refine hR _ _ _ ?_ (Fz.eq rfl rfl)
 simp(disch:=omega)only[za6]
 exact Ext.refl _ _
end
end Go.Ev
namespace Go.Ev
open Go.Proofs Go.RowKit
noncomputable section
theorem zMq {nm kn:ByteArray→Bool}{d:List Fc}(hnm:∀s,nm s=true→s.size≤1000){o c m:Int}{n:ByteArray}{kids:List Fm}(h:zhx nm kn d (.mk o n c m kids)=0):I64 o∧I64 c∧I64 m∧n.size≤1000∧(o=5→kids≠[]):=by
 simp only[zhx]at h
 cases hf:zkb nm (.mk o n c m kids) with
 |false=>rw[hf]at h;simp at h
 |true=>
  rw[hf,if_neg (by simp)]at h
  simp only[zkb]at hf
  by_cases h1:o≠3∧(c≠0∨m≠0)
  ·rw[if_pos h1]at hf;cases hf
  rw[if_neg h1]at hf
  by_cases h2:o≠3∧o≠4∧n≠⟨#[]⟩
  ·rw[if_pos h2]at hf;cases hf
  rw[if_neg h2]at hf
  have hz:∀k:Int,0≤k→k≤1000000→I64 k:=fun k a b=>⟨by omega,by omega⟩
  by_cases o3:o=3
  ·subst o3
   rw[if_neg (by omega),if_pos rfl]at hf
   simp only[Bool.and_eq_true,decide_eq_true_eq]at hf
   obtain⟨⟨_,hn⟩,c1,c6⟩:=hf
   by_cases hm:(3:Int)=3∧(m<0∨1000000<m)
   ·rw[if_pos hm]at h;simp at h
   ·exact⟨hz _ (by omega) (by omega),hz _ (by omega) (by omega),hz _ (by omega) (by omega),hnm _ hn,fun e=>absurd e (by omega)⟩
  ·have hc:c=0:=by
    rcases Int.lt_trichotomy c 0 with q |q |q
    ·exact absurd ⟨o3,.inl (by omega)⟩ h1
    ·exact q
    ·exact absurd ⟨o3,.inl (by omega)⟩ h1
   have hm:m=0:=by
    rcases Int.lt_trichotomy m 0 with q |q |q
    ·exact absurd ⟨o3,.inr (by omega)⟩ h1
    ·exact q
    ·exact absurd ⟨o3,.inr (by omega)⟩ h1
   subst hc;subst hm
   by_cases o12:o=1∨o=2
   ·refine⟨hz _ (by omega) (by omega),hz _ (by omega) (by omega),hz _ (by omega) (by omega),?_,fun e=>absurd e (by omega)⟩
    by_cases hn:n=⟨#[]⟩
    ·rw[hn];decide
    ·exact absurd ⟨o3,by omega,hn⟩ h2
   rw[if_neg o12,if_neg o3]at hf
   by_cases o4:o=4
   ·subst o4
    rw[if_pos rfl]at hf
    simp only[Bool.and_eq_true,decide_eq_true_eq]at hf
    exact⟨hz _ (by omega) (by omega),hz _ (by omega) (by omega),hz _ (by omega) (by omega),hnm _ hf.2,fun e=>absurd e (by omega)⟩
   have hn:n=⟨#[]⟩:=by
    by_cases hn:n=⟨#[]⟩
    ·exact hn
    ·exact absurd ⟨o3,o4,hn⟩ h2
   have hn0:n.size≤1000:=by rw[hn];decide
   rw[if_neg o4]at hf
   by_cases o5:o=5
   ·subst o5
    rw[if_pos rfl]at hf
    simp only[decide_eq_true_eq]at hf
    exact⟨hz _ (by omega) (by omega),hz _ (by omega) (by omega),hz _ (by omega) (by omega),hn0,fun _ e=>by rw[e]at hf;simp at hf⟩
   rw[if_neg o5]at hf
   by_cases o67:o=6∨o=7
   ·exact⟨hz _ (by omega) (by omega),hz _ (by omega) (by omega),hz _ (by omega) (by omega),hn0,fun e=>absurd e o5⟩
   ·rw[if_neg o67]at hf;cases hf
mutual
theorem zx2 {nm kn:ByteArray→Bool}{d:List Fc}(hnm:∀s,nm s=true→s.size≤1000):∀f,(zbd (zd0 nm kn d) 0 f).1=0→(zbd (zd0 nm kn d) 0 f).2=true∧FmG f
 |.mk o n c m kids,h=>by
  rw[zbd]at h ⊢
  by_cases hc:zhx nm kn d (.mk o n c m kids)=0
  ·have hs:zd0 nm kn d 0 (.mk o n c m kids)=(0,true):=by unfold zd0;rw[if_pos hc]
   rw[hs]at h ⊢
   simp only[if_true]at h ⊢
   obtain⟨a1,a2⟩:=zxt hnm kids h
   obtain⟨b1,b2,b3,b4,b5⟩:=zMq hnm hc
   exact⟨a1,b1,b2,b3,b4,b5,a2⟩
  ·have hs:zd0 nm kn d 0 (.mk o n c m kids)=(zhx nm kn d (.mk o n c m kids),false):=by unfold zd0;rw[if_neg hc]
   rw[hs]at h
   simp at h
   exact absurd h hc
theorem zxt {nm kn:ByteArray→Bool}{d:List Fc}(hnm:∀s,nm s=true→s.size≤1000):∀l,(zcz (zd0 nm kn d) 0 l).1=0→(zcz (zd0 nm kn d) 0 l).2=true∧zdb l
 |[],_=>⟨by rw[zcz],trivial⟩
 |f::l,h=>by
  rw[zcz]at h ⊢
  by_cases h1:(zbd (zd0 nm kn d) 0 f).2=true
  ·rw[if_pos h1]at h ⊢
   have h0:=zt2 (zAn nm kn d) 0 f h1
   rw[h0]at h ⊢
   obtain⟨a1,a2⟩:=zx2 hnm f h0
   obtain⟨b1,b2⟩:=zxt hnm l h
   exact⟨b1,a2,b2⟩
  ·rw[if_neg h1]at h
   exact absurd (zx2 hnm f h).1 h1
end
theorem ztm {nm kn:ByteArray→Bool}{d:List Fc}{f:Fm}(hnm:∀s,nm s=true→s.size≤1000)(h:zhi nm kn d f=0):FmG f∧f.size≤200:=by
 unfold zhi at h
 by_cases h1:200<f.size∨20<f.deep
 ·rw[if_pos h1]at h;simp at h
 ·rw[if_neg h1]at h
  exact⟨(zx2 hnm f h).2,by omega⟩
theorem zN0 {l:List Fc}(h:zc5 l=true):zli l:=by
 by_cases hp:zli l
 ·exact hp
 ·rw[zrf hp]at h;cases h
theorem zIe (nm:ByteArray→Bool)(u:Bool)(d:List Fc)(f:Fm)(hl:d.length≤1000000000)(hs:∀f∈d,f.name.size≤1000000000)(hf:f.size≤1000000)(hnm:∀s,Ret Tryz.prog cx 193 [.bs s] (.bool (nm s)))(hn2:∀s,nm s=true→s.size≤1000):
  Ret Tryz.prog cx 93 [.agg f.cs,.agg [.fz 4 u (za8 d)]] (zme (zhi nm (fun _=>false) d f) d f):=by
 refine zQc u d f _ hl hs hf (zAj nm u d f hf hl hnm) fun h1 h2=>?_
 obtain⟨a1,a2⟩:=ztm hn2 h2
 obtain⟨⟨b1,_⟩,b2⟩:=zN0 h1
 refine⟨a1,by omega,by omega,fun x hx=>?_⟩
 rcases (b1 x hx).1 with⟨_,e1,e2⟩ |⟨_,e1,e2,e3⟩
 ·exact⟨by omega,⟨by omega,by omega⟩,⟨by omega,by omega⟩⟩
 ·exact⟨by omega,⟨by omega,by omega⟩,⟨by omega,by omega⟩⟩
end
end Go.Ev
namespace Go.Ev
open Go.Proofs Go.RowKit
noncomputable section
attribute [-go_sem] zaf zac zay zbj
theorem zMb:cx.ft.get 223=some Tryz.f223:=za9 (by decide) (by kernel_rfl)
theorem zMi:cx.ft.get 264=some Tryz.f264:=za9 (by decide) (by kernel_rfl)
theorem zEv (l:List UInt8):zam l=l.map fun z=>.int .u8 (Int.ofNat z.toNat):=by
 induction l with
 |nil=>rfl
 |cons x l ih=>rw[show zam (x::l)=.int .u8 (x.toNat:Int)::zam l from rfl,ih];rfl
@[go_sem] theorem zX6 (e s1 s2 d1 d2 t1 t2:Nat)(s3 d3 t3:Option AV)(s4 d4 t4:List (Nat×Nat×Bool))(b:ByteArray)(h:Tr ABlk) (nx:Nat):
  zay (.mk .string s1 s2 s3 s4) (.mk (.slice e) d1 d2 d3 d4) (some (.mk (.int .u8) t1 t2 t3 t4)) e (.bs b) h nx=.val (.sl nx 0 b.size 0 true) (h.put nx (some (bx e (zam b.data.toList) true 1))) (nx+1):=by
 have hl:(zam b.data.toList).length=b.size:=by rw[zh3,Array.length_toList];rfl
 have hb:Nat.beq e e=true:=Nat.beq_refl e
 simp only[zay,hb]
 unfold bx
 rw[hl,zEv]
def zhv (l:List UInt8) (a:Int):Int:=l.foldl (fun a z=>a * 10+((z.toNat:Int)-48)) a
def bnd:Nat→Int
 |0=>0
 |n+1=>bnd n * 10+9
theorem zO5:∀j,j<8→bnd j≤9999999:=by decide
set_option maxHeartbeats 4000000 in
theorem zNb (s:ByteArray)(h1:1≤s.size)(h7:s.size≤7)(hd:∀z∈s.data.toList,48≤z.toNat∧z.toNat≤57):Ret Tryz.prog cx 264 [.bs s] (.tup [.int .i64 (zhv s.data.toList 0),.nilIface]):=by
 refine Ret.mk fun h nx R hR=>zaa (sz:=77) (rs:=[.tmp 2,.tmp 3]) za4 zMi rfl rfl rfl (by simp) ?_
 have q1:(0:Int)<(s.size:Int):=by omega
 have q2:(s.size:Int)<10:=by omega
 have q3:(s.size:Int)<19:=by omega
 have q4:0<s.size:=by omega
 have hsz:s.data.toList.length=s.size:=by rw[Array.length_toList];rfl
 have hs0:48≤(s[0]'q4).toNat:=(hd _ (by rw[ByteArray.getElem_eq_getElem_data];simp)).1
 have n45:¬(((s[0]'q4).toNat:Int)=45):=by omega
 have n43:¬(((s[0]'q4).toNat:Int)=43):=by omega
 have m45:¬((s[0]'q4).toNat=45):=by omega
 have m43:¬((s[0]'q4).toNat=43):=by omega
 have hel:=zh3 s.data.toList
 simp-implicitDefEqProofs[go_sem,q1,q2,q3,q4,h1,n45,n43,m45,m43]
 refine zap (fun mm st=>∃tm j a,st=.mk tm (h.put nx (some (bx 5 (zam s.data.toList) true 1))) (nx+1) []∧mm=s.size-j∧j≤s.size∧tm.get 5=some (.bs s)∧tm.get 6=some (.int .i64 a)∧tm.get 47=some (.sl nx 0 s.size 0 true)∧tm.get 48=some (.int .i64 (s.size:Int))∧tm.get 49=some (.int .i64 (j:Int))∧0≤a∧a≤bnd j∧RowKit.Hid (zhv s.data.toList 0=zhv (s.data.toList.drop j) a)) ⟨s.size,_,0,0,rfl,by simp,by simp,?_⟩ ?_
 ·simp-implicitDefEqProofs[go_sem]
  exact⟨by simp[bnd],Lib.hid trivial⟩
 ·rintro mm st ⟨tm,j,a,rfl,rfl,hj,t5,t6,t47,t48,t49,a0,ab,hv⟩ J hJ
  refine zag za4 _ ?_
  by_cases hlt:j<s.size
  ·have hjl:j<s.data.toList.length:=by omega
   obtain⟨z,hz⟩:∃z,z=s.data.toList[j]:=⟨_,rfl⟩
   obtain⟨z1,z2⟩:=hd z (by rw[hz];exact List.getElem_mem hjl)
   have hat:∀hh,(zam s.data.toList)[j]'hh=.int .u8 (z.toNat:Int):=fun hh=>by
    simp only[zEv,List.getElem_map,← hz]
    rfl
   have hv1:=hv.out
   rw[List.drop_eq_getElem_cons hjl,← hz]at hv1
   have hv2:zhv s.data.toList 0=zhv (s.data.toList.drop (j+1)) (a * 10+((z.toNat:Int)-48)):=hv1
   have HV:=Lib.hid hv2
   clear hv1 hv2 hv
   have w8:IntKind.u8.wrap ((z.toNat:Int)-48)=(z.toNat:Int)-48:=by
    simp only[IntKind.wrap,IntKind.signed,IntKind.bits,Bool.false_and,Bool.false_eq_true,if_false]
    exact Int.emod_eq_of_lt (by omega) (by show _<(256:Int);omega)
   have hb1:bnd (j+1)=bnd j * 10+9:=rfl
   have hb7:=zO5 (j+1) (by omega)
   have wa:IntKind.i64.wrap (a * 10)=a * 10:=zab _ (by omega) (by omega)
   have wb:IntKind.i64.wrap ((z.toNat:Int)-48)=(z.toNat:Int)-48:=zab _ (by omega) (by omega)
   have wc:IntKind.i64.wrap (a * 10+((z.toNat:Int)-48))=a * 10+((z.toNat:Int)-48):=zab _ (by omega) (by omega)
   have g9:¬(9:Int)<(z.toNat:Int)-48:=by omega
   simp-implicitDefEqProofs[go_sem,t5,t6,t47,t48,t49,hlt,hat,hel,hsz,w8,wa,wb,wc,g9]
   refine hJ (s.size-(j+1)) _ (by omega) ⟨_,j+1,a * 10+((z.toNat:Int)-48),rfl,rfl,by omega,?_⟩
   simp-implicitDefEqProofs (disch:=omega) [go_sem,t5,t6,t47,t48,t49,zab]
   exact⟨by omega,by omega,HV⟩
  ·have hjj:j=s.size:=by omega
   have hv1:=hv.out
   rw[List.drop_of_length_le (by omega)]at hv1
   simp-implicitDefEqProofs[go_sem,t5,t6,t47,t48,t49,hlt,q4,n45,m45]
   have hv2:zhv s.data.toList 0=a:=hv1
   refine hR _ _ _ ?_ ?_
   ·simp(disch:=omega)only[za6]
    exact Ext.refl _ _
   ·rw[hv2]
    exact Fz.same _ rfl
theorem zQx (s:ByteArray)(h1:1≤s.size)(h7:s.size≤7)(hd:∀z∈s.data.toList,48≤z.toNat∧z.toNat≤57):Ret Tryz.prog cx 223 [.bs s] (.tup [.int .i64 (zhv s.data.toList 0),.nilIface]):=by
 refine Ret.mk fun h nx R hR=>zaa (sz:=18) (rs:=[.tmp 2,.tmp 3]) za4 zMb rfl rfl rfl (by simp) ?_
 simp-implicitDefEqProofs[go_sem]
 refine Ret.use (zNb s h1 h7 hd) ?_
 simp-implicitDefEqProofs[go_sem,za0]
 exact hR _ _ _ (Ext.refl _ _) (Fz.same _ rfl)
end
end Go.Ev
namespace Go.Ev
open Go.Proofs Go.RowKit
noncomputable section
def G1:Gl:=⟨6,false,fun _=>none⟩
def cxQ (b:Bool)(P:Program)(G:Gl) (nt nf:Nat):Cx:=.mk (tab (zju b P) nt) .nil (tab (zg4 P) nf) G (zl8 P)
set_option linter.unusedVariables false in
theorem zF1 (b:Bool)(P:Program)(G:Gl) (nt nf:Nat):CxOk P (cxQ b P G nt nf):=
 ⟨fun t ti h=>zDl (zol _ _ _ _ h),fun t=>trivial,fun e k o u h=>h,fun f fn h=>zxy (zol _ _ _ _ h)⟩
def cx1:Cx:=cxQ false Tryz.prog G1 400 357
theorem zDs:CxOk Tryz.prog cx1:=zF1 _ _ _ _ _
def evR (c:Cx):CY:=ev c (fun ca=>zr9 275 (zqp 315 ca)) (fun ca ya=>edW c ca ya) 100000 60
def zpn (f:Nat)(args:List AV):CO:=
 zfx (zju false Tryz.prog) 400 fun tt=>zfx (zg4 Tryz.prog) 357 fun ft=>(evR (.mk tt .nil ft G1 (zl8 Tryz.prog))).ca f args .nil 6
theorem zJx (f:Nat)(args:List AV):zpn f args=(evR cx1).ca f args .nil 6:=by
 unfold zpn
 rw[zjq]
 show zfx (zg4 Tryz.prog) 357 _=_
 rw[zjq]
 rfl
theorem zAk:XOk Tryz.prog 275 Extern.AbiNoEscape.same:=zDq (fn:=Tryz.f275) (by kernel_rfl) (by kernel_rfl) (by kernel_rfl) (by kernel_rfl) (by kernel_rfl)
theorem zAz:XOk Tryz.prog 315 Extern.BytealgIndexByte.indexByte:=zDq (fn:=Tryz.f315) (by kernel_rfl) (by kernel_rfl) (by kernel_rfl) (by kernel_rfl) (by kernel_rfl)
theorem zK3 {f:Nat}{args:List AV}{v:AV}{g:Tr ABlk}{ny:Nat}(h:zpn f args=.ok v g ny):za7 Tryz.prog cx1 f args .nil 6 (eqQ v g ny):=by
 rw[zJx]at h
 exact(ztr zDs (fun ca hca=>zCc zAk (zFi zAz hca)) (fun ca ya h1 h2=>zwa mixed zDs h1 h2) 100000 60).1 _ _ _ _ _ _ _ h
def zk3 (n:Nat):Nat:=
 if (97≤n∧n≤122)∨(65≤n∧n≤90) then 3 else if 48≤n∧n≤57 then 4 else if n=32∨n=9∨n=10 then 1 else if n∈[59,44,46,58,40,41,91,93,123,125,61] then 6 else if n=60∨n=62 then 7 else if n=35 then 2 else if n=95 then 5 else if n=33 then 8 else 0
def zdv:List Nat:=(List.range 256).map zk3
def zcd (l:List Nat):List AV:=l.map fun (n:Nat)=>AV.int .u8 (n:Int)
def ckU:List AV→List Nat→Bool
 |[],[]=>true
 |.int .u8 (.ofNat n)::l,m::ms=>Nat.beq n m && ckU l ms
 |_,_=>false
theorem zCf:∀{l:List AV}{ms:List Nat},ckU l ms=true→l=zcd ms
 |[],[],_=>rfl
 |.int .u8 (.ofNat n)::l,m::ms,h=>by
  simp only[ckU,Bool.and_eq_true]at h
  rw[zCf h.2,Nat.eq_of_beq_eq_true h.1]
  rfl
def ckC:CO→Bool
 |.ok (.agg l) g _=>ckU l zdv && ((g.get 0).isNone && ((g.get 1).isNone && ((g.get 2).isNone && ((g.get 3).isNone && ((g.get 4).isNone && (g.get 5).isNone)))))
 |_=>false
theorem zJ4:ckC (zpn 220 [])=true:=by kernel_rfl
theorem zzm:∀l:List Nat,nfL (zcd l)=true
 |[]=>rfl
 |n::l=>by
  have:=zzm l
  rw[show zcd (n::l)=.int .u8 (n:Int)::zcd l from rfl]
  simp only[nfL,nfV,this,Bool.and_self]
theorem zu6:∀l:List Nat,zah (zcd l)=true
 |[]=>rfl
 |n::l=>by
  have:=zu6 l
  rw[show zcd (n::l)=.int .u8 (n:Int)::zcd l from rfl]
  simp only[zah,plain,this,Bool.and_self]
theorem zwu:cx1.G=G1:=rfl
theorem zBp (g:Nat)(cs:List AV)(h:cx1.G.tab g=some cs):False:=by
 rw[zwu]at h
 cases h
theorem zGn {r:CO}(h:ckC r=true):∃g ny,r=.ok (.agg (zcd zdv)) g ny∧∀k,k<6→g.get k=none:=by
 unfold ckC at h
 split at h
 ·rename_i l g ny
  simp only[Bool.and_eq_true,Option.isNone_iff_eq_none]at h
  obtain⟨a1,a2,a3,a4,a5,a6,a7⟩:=h
  refine⟨g,ny,by rw[zCf a1],fun k hk=>?_⟩
  match k,hk with
  |0,_=>exact a2
  |1,_=>exact a3
  |2,_=>exact a4
  |3,_=>exact a5
  |4,_=>exact a6
  |5,_=>exact a7
 ·cases h
theorem zyh:Ret Tryz.prog cx 220 [] (.agg (zcd zdv)):=by
 obtain⟨g,ny,hr,hg⟩:=zGn zJ4
 have hc:=zK3 hr
 have h1:Ret Tryz.prog cx1 220 [] (.agg (zcd zdv)):=by
  refine Ret.of_nil (fun g cs h=>(zBp g cs h).elim) rfl (by simp only[nfV];exact zzm _) ?_
  rw[zwu]
  refine za7.mono hc ?_
  rintro v' g' ny' ⟨rfl,rfl,rfl⟩
  exact⟨fun k hk=>hg k hk,Fz.same _ (by simp only[plain];exact zu6 _)⟩
 exact h1.tab (by rw[zwu,cxG];rfl) (fun g cs h=>(zBp g cs h).elim)
end
end Go.Ev
namespace Go.Ev
open Go.Proofs Go.RowKit
noncomputable section
attribute [-go_sem] zaf zac zay zbj
theorem zGy:cx.ft.get 162=some Tryz.f162:=za9 (by decide) (by kernel_rfl)
def znq (s:ByteArray):AV:=.func 221 [] [.ip [.bs s],.ip (zcd zdv)]
theorem zLa:zdv.length=256:=by unfold zdv;rw[List.length_map,List.length_range]
theorem zR5 (l:List Nat):(zcd l).length=l.length:=by unfold zcd;rw[List.length_map]
theorem zy2:∀l:List Nat,zba (zcd l)=true
 |[]=>rfl
 |n::l=>by
  have:=zy2 l
  rw[show zcd (n::l)=.int .u8 (n:Int)::zcd l from rfl]
  exact this
theorem zI2 (s:ByteArray):Ret Tryz.prog cx 162 [.bs s] (.func 222 [] [.ip [.bs s],.ip [znq s]]):=by
 refine Ret.mk fun h nx R hR=>zaa (sz:=8) (rs:=[.tmp 2]) za4 zGy rfl rfl rfl (by simp) ?_
 simp-implicitDefEqProofs[go_sem]
 refine Ret.use zyh ?_
 have hl:(zcd zdv).length=256:=by rw[zR5,zLa]
 have ho:=zy2 zdv
 generalize hT:zcd zdv=T at hl ho
 have htk:T.take 256=T:=List.take_of_length_le (by omega)
 simp-implicitDefEqProofs[go_sem,za0,hl,ho,htk,za3]
 have hp:zah T=true:=by rw[← hT];exact zu6 _
 generalize hg:Tr.put _ (nx+1+1) (some (bx 246 [.func 221 [] _] false 0))=g
 have g0:g.get nx=some (bx 9 [.bs s] false 0):=by rw[← hg];simp(disch:=omega) [go_sem,NEx]
 have g1:g.get (nx+1)=some (bx 244 T false 0):=by rw[← hg];simp(disch:=omega) [go_sem,NEx]
 have g2:g.get (nx+2)=some (bx 246 [.func 221 [] [.ptr nx 0,.ptr (nx+1) 0]] false 0):=by rw[← hg];simp(disch:=omega) [go_sem,NEx]
 have E:Ext nx h g:=by
  rw[← hg]
  simp(disch:=omega)only[za6]
  exact Ext.refl _ _
 clear hg
 have f0:=zi7 (nx:=nx) (Nat.le_refl _) g0 rfl
 have f1:=zi7 (nx:=nx) (by omega) g1 hp
 refine hR _ _ _ E (.func 222 _ _ _ _ .nil (.cons _ _ _ _ f0 (.cons _ _ _ _ ?_ .nil)))
 unfold znq
 rw[hT]
 exact .pin (nx+2) 0 246 1 _ false 0 [.func 221 [] [.ptr nx 0,.ptr (nx+1) 0]] _ (by omega) g2 (by simp) (fun j hj=>by rw[Nat.zero_add,zbt]) (.cons _ _ _ _ (.func 221 _ _ _ _ .nil (.cons _ _ _ _ f0 (.cons _ _ _ _ f1 .nil))) .nil)
end
end Go.Ev
namespace Go.Proofs
open Go.Shelf Go.RowKit Go.Lib
variable {P : Program} {ρ : Ren}
set_option maxHeartbeats 2000000 in
set_option maxRecDepth 100000 in
theorem zMe (L:SlLaysE0.n41 P ρ)(i0:TypeInfo)(z:Value) (size bytes:Nat)(hi:P.info? (ρ.t 23)=some i0)(hz0:i0.zero=some z)(hz1:i0.size=size)(hz2:i0.bytes=bytes)(hzs:z.cells.size=size)(hsz:0<size)(z23:∀w,(Go.sizeOf (ρ.t 23)).run P w=.ok size w)(a:Addr) (c:Nat)(w:World):
  Calls P (ρ.f 41) #[.slice (some a) 0 c] w fun e w'=>∃v',e=.returned v'∧w'.ownsRow w.heap.size (ρ.t 23) size v' 0 []∧v'≠.slice none 0 0∧Below w.heap.size w w':=by
 have mixed:=L.mixed;have t4:=L.t4;have a4:=L.a4;have z4:=L.z4;have v4:=L.v4;have t22:=L.t22;have a22:=L.a22;have z22:=L.z22;have v22:=L.v22
 have q22:∀(w:World) (a:Option Addr) (n c n' c':Nat),(binOp .eql (ρ.t 22) (.slice a n c) (.slice none n' c')).run P w=.ok (.bool a.isNone) w:=fun w a n c n' c'=>Lib.run_eql_slice_nil w _ _ a n c n' c' L.t22
 have u22:∀w,Sem.run P (underlying (ρ.t 22)) w=.ok (TypeDesc.slice (ρ.t 23)) w:=run_underlying t22
 obtain⟨_,_,FG⟩:=L.f41
 go_enter FG,SlBodyN.n41_ntmps ρ
 go_wp2_with (at_builtin;refine wpList_append_own _ rfl _ _ (ρ.t 22) rfl w.heap.size (ρ.t 23) i0 z size bytes t22 hi hz0 hz1 hz2 hzs hsz _ _ _ rfl (World.ownsRow_made w #[] 0 (Nat.le_refl _) (Nat.zero_le _) (by simp)) a 0 c [] rfl ?qc1 ?qc2 ?qc3 ?qc4 ?qc5 ?qc6 ?_)
 case qc1=>simp
 case qc2=>intro j u hj;simp at hj
 case qc3=>intro u hu;cases hu
 case qc4=>unfold maxLen;omega
 case qc5=>simp
 case qc6=>simp
 intro v' w1 hown hgrow zgs
 go_wp2
 go_ret
 refine⟨v',rfl,by simpa using hown,?_,?_⟩
 ·first |exact zgs |(intro e;exact absurd (zgs.1 e).1 (by simp))
 ·exact((Below.refl _ w).alloc (Nat.le_refl _) _).grown hgrow (by simp) (by intro k hk;simp[Value.ownBlock]at hk;omega)
end Go.Proofs
namespace Go.Ev
open Go.Proofs Go.RowKit
noncomputable section
theorem zRz (w:World):(Go.sizeOf 65).run Tryz.prog w=.ok 4 w:=by kernel_rfl
noncomputable def zDz:Bool:=match Tryz.prog.info? 65 with
 |some i=>Nat.beq i.size 4 && (match i.zero with |some z=>Nat.beq z.cells.size 4 |none=>false)
 |none=>false
theorem zPy:zDz=true:=by kernel_rfl
theorem zRg:∃i0 z,Tryz.prog.info? 65=some i0∧i0.zero=some z∧i0.size=4∧z.cells.size=4:=by
 have h:=zPy
 unfold zDz at h
 split at h
 ·rename_i i hi
  rw[Bool.and_eq_true]at h
  obtain⟨h1,h2⟩:=h
  split at h2
  ·rename_i z hz
   exact⟨i,z,hi,hz,Nat.eq_of_beq_eq_true h1,Nat.eq_of_beq_eq_true h2⟩
  ·cases h2
 ·cases h
theorem zUl (a:Addr) (cp:Nat)(w:World):Calls Tryz.prog 40 #[.slice (some a) 0 cp] w fun q w'=>∃v',q=.returned v'∧w'.ownsRow w.heap.size 65 4 v' 0 []∧v'≠.slice none 0 0∧Below w.heap.size w w':=by
 obtain⟨i0,z,h1,h2,h3,h4⟩:=zRg
 exact zMe Tryz.clone40 i0 z 4 i0.bytes h1 h2 h3 rfl h4 (by decide) zRz a cp w
theorem zLr (n cp:Nat)(w:World):Calls Tryz.prog 40 #[.slice none n cp] w fun e w'=>e=.returned (.slice none 0 0)∧w'=w:=AnyE.slices_Clone_nil Tryz.clone40 n cp w
end
end Go.Ev
namespace Go.Ev
open Go.Proofs Go.RowKit
noncomputable section
attribute [-go_sem] zaf zac zay zbj
theorem zK5:zcd zdv=zjl fun n=>(zk3 n:Int):=by
 unfold zcd zdv zjl
 rw[List.map_map]
 rfl
def cl (s:ByteArray) (i:Nat):Int:=zjz (fun n=>(zk3 n:Int)) s i
theorem zw8 (s:ByteArray) (i:Nat):Ret Tryz.prog cx 221 [.int .i64 (i:Int),.ip [.bs s],.ip (zcd zdv)] (.int .u8 (cl s i)):=by
 rw[zK5]
 exact zNy _ s i
theorem zso {s:ByteArray}{i:Nat}(h:s.size≤i):cl s i=0:=by
 unfold cl zjz
 rw[dif_neg (by omega)]
def zbw (p:Int→Bool)(s:ByteArray):Nat→Nat→Nat
 |0,i=>i
 |f+1,i=>if p (cl s i) then zbw p s f (i+1) else i
def zgd (s:ByteArray):Nat→Nat→Nat
 |0,i=>i
 |f+1,i=>if h:i<s.size then (if (s[i]).toNat=10 then i else zgd s f (i+1)) else i
theorem zr6 (p:Int→Bool)(hp:p 0=false)(s:ByteArray):∀(f i:Nat),i≤s.size→i≤zbw p s f i∧zbw p s f i≤s.size
 |0,i,h=>⟨Nat.le_refl _,h⟩
 |f+1,i,h=>by
  rw[zbw]
  by_cases e:p (cl s i)=true
  ·rw[if_pos e]
   have hi:i<s.size:=by
    rcases Nat.lt_or_ge i s.size with q |q
    ·exact q
    ·rw[zso q,hp]at e;cases e
   obtain⟨a,b⟩:=zr6 p hp s f (i+1) hi
   exact⟨by omega,b⟩
  ·rw[if_neg e];exact⟨Nat.le_refl _,h⟩
theorem zE8 (p:Int→Bool)(s:ByteArray):∀(f i j:Nat),i≤j→j<zbw p s f i→p (cl s j)=true
 |0,i,j,h1,h2=>by rw[zbw]at h2;omega
 |f+1,i,j,h1,h2=>by
  rw[zbw]at h2
  by_cases e:p (cl s i)=true
  ·rw[if_pos e]at h2
   rcases Nat.eq_or_lt_of_le h1 with q |q
   ·rw[← q];exact e
   ·exact zE8 p s f (i+1) j q h2
  ·rw[if_neg e]at h2;omega
theorem zsk (s:ByteArray):∀(f i:Nat),i≤s.size→i≤zgd s f i∧zgd s f i≤s.size
 |0,i,h=>⟨Nat.le_refl _,h⟩
 |f+1,i,h=>by
  rw[zgd]
  by_cases e:i<s.size
  ·rw[dif_pos e]
   by_cases e2:(s[i]).toNat=10
   ·rw[if_pos e2];exact⟨Nat.le_refl _,h⟩
   ·rw[if_neg e2]
    obtain⟨a,b⟩:=zsk s f (i+1) e
    exact⟨by omega,b⟩
  ·rw[dif_neg e];exact⟨Nat.le_refl _,h⟩
theorem zS9 {n:Nat}(h:zk3 n=4):48≤n∧n≤57:=by
 unfold zk3 at h
 by_cases h1:(97≤n∧n≤122)∨(65≤n∧n≤90)
 ·rw[if_pos h1]at h;cases h
 rw[if_neg h1]at h
 by_cases h2:48≤n∧n≤57
 ·exact h2
 rw[if_neg h2]at h
 exfalso
 repeat' split at h
 all_goals cases h
structure Tk where
 kind:Int
 text:ByteArray
 num:Int
 pos:Int
 code:Int
def Tk.cs (t:Tk):List AV:=[.int .i64 t.kind,.bs t.text,.int .i64 t.num,.int .i64 t.pos,.int .i64 t.code]
def zgx (c:Int):Bool:=decide (c=3) || (decide (c=4) || decide (c=5))
def zet (c:Int):Bool:=decide (c=4)
def zbo (s:ByteArray) (i:Nat):Tk×Nat:=
 if cl s i=3 then
  let j:=zbw zgx s s.size i
  (⟨1,s.extract i j,0,(i:Int),if 24<j-i then 2 else 0⟩,j)
 else if cl s i=4 then
  let j:=zbw zet s s.size i
  if 7<j-i∨cl s j=3∨cl s j=5 then (⟨2,s.extract i j,0,(i:Int),4⟩,j)
  else (⟨2,s.extract i j,zhv (s.extract i j).data.toList 0,(i:Int),0⟩,j)
 else if cl s i=6∨cl s i=7∨cl s i=8 then
  if cl s i≠6∧(∃h:i+1<s.size,(s[i+1]).toNat=61) then (⟨3,s.extract i (i+2),0,(i:Int),0⟩,i+2)
  else (⟨3,s.extract i (i+1),0,(i:Int),if cl s i=8 then 3 else 0⟩,i+1)
 else (⟨0,s.extract i i,0,(i:Int),3⟩,i)
end
end Go.Ev
