/- Texts. -/
import Derived.Test.YtkdnmldmffkkoaaGreatDoorP29
set_option linter.unusedSimpArgs false
set_option linter.unusedVariables false
set_option maxRecDepth 100000
set_option maxHeartbeats 8000000
namespace Go.Ev
open Go.Proofs Go.RowKit
noncomputable section
attribute [-go_sem] dw bP ep gH
theorem zKb {s:ByteArray}{i:Nat}(h:i<s.size):cl s i=(yS (s[i]).toNat:Int):=by
 unfold cl yO;rw[dif_pos h]
theorem zN4 {s:ByteArray}{i:Nat}(h:i<s.size)(hc:cl s i=2):i<rA s s.size i:=by
 obtain⟨m,hm⟩:∃m,s.size=m+1:=⟨s.size-1,by omega⟩;have xC:¬(s[i]).toNat=10:=by
  intro e;rw[zKb h,e]at hc;exact absurd hc (by decide)
 rw[hm,rA,dif_pos h,if_neg xC];have:=(PN s m (i+1) h).1;omega
theorem zze {s:ByteArray}{f j:Nat}(h:¬j<s.size∨∃q:j<s.size,(s[j]).toNat=10):rA s f j=j:=by
 cases f with
 |zero=>rfl
 |succ f=>
  rw[rA]
  rcases h with h |⟨q,h⟩
  ·rw[dif_neg h]
  ·rw[dif_pos q,if_pos h]
theorem Xl {p:Int→Bool}(hp:p 0=false){s:ByteArray}{i:Nat}(h:i<s.size)(hc:p (cl s i)=true):i<fP p s s.size i:=by
 obtain⟨m,hm⟩:∃m,s.size=m+1:=⟨s.size-1,by omega⟩;rw[hm,fP,if_pos hc];have:=(KO p hp s m (i+1) h).1;omega
theorem zKh {s:ByteArray}{i j:Nat}(hj:j≤s.size)(h:∀k,i≤k→k<j→cl s k=4):∀z∈(s.extract i j).data.toList,48≤z.toNat∧z.toNat≤57:=by
 intro z hz;rw[ByteArray.data_extract]at hz;obtain⟨k,hk,e⟩:=List.getElem_of_mem hz;rw[Array.getElem_toList,Array.getElem_extract]at e;simp only[Array.length_toList,Array.size_extract]at hk;have bI:s.data.size=s.size:=rfl;have ei:i+k<s.size:=by omega
 have h4:=h (i+k) (by omega) (by omega);have:cl s (i+k)=(yS (s[i+k]).toNat:Int):=by unfold cl yO;rw[dif_pos ei]
 rw[this]at h4;have h5:yS (s[i+k]).toNat=4:=by omega
 have h6:=zS9 h5;have e2:s[i+k]=z:=by rw[← e];rfl
 rw[e2]at h6;exact h6
theorem extract_size {s:ByteArray}{i j:Nat}(h1:i≤j)(hj:j≤s.size):(s.extract i j).size=j-i:=by
 rw[ByteArray.size_extract];omega
theorem zzc:cx.ft.get 222=some Tryz.f222:=aT (by decide) (by kernel_rfl)
def pj {S:Type}(step:S→Tk→S×Bool)(src:ByteArray):Nat→S→Nat→S×Bool
 |0,s,_=>(s,true)
 |f+1,s,i=>if src.size≤i then (s,true) else if cl src i=1 then pj step src f s (i+1) else if cl src i=2 then pj step src f s (rA src src.size i) else
  if (step s (ji src i).1).2=false then ((step s (ji src i).1).1,false) else if (ji src i).1.code≠0 then ((step s (ji src i).1).1,true) else pj step src f (step s (ji src i).1).1 (ji src i).2
structure VisT (P:Program)(c:Cx)(S:Type)(step:S→Tk→S×Bool)(Pre:S→Tk→Prop) (y:Nat)(J JE:S→(Nat→Prop)→Tr ABlk→Nat→Prop):Prop where
 ext:∀s O h nx h' ax,J s O h nx→(∀k,O k→h'.get k=h.get k)→nx≤ax→J s O h' ax
 lt:∀s O h nx,J s O h nx→∀k,O k→k<nx
 yld:∀s O t h nx,Pre s t→J s O h nx→tl P c y [.agg t.cs] h nx fun v g ny=>v=.bool (step s t).2∧∃O',fh O h nx O' g ny∧(if (step s t).2 then J (step s t).1 O' g ny else JE (step s t).1 O' g ny)
theorem zOm {S:Type}{step:S→Tk→S×Bool}{y:Nat}{J JE:S→(Nat→Prop)→Tr ABlk→Nat→Prop}(V:VisT Tryz.prog cx S step (fun _ _=>True) y J JE)(src:ByteArray)(hs:src.size≤20000)(s:S)(O:Nat→Prop)(h:Tr ABlk) (nx:Nat)(hJ:J s O h nx):
  aN Tryz.prog cx 222 [.yld y,.ip [.bs src],.ip [GR src]] h nx fun _ g ny=>∃O',fh O h nx O' g ny∧(if (pj step src (src.size+1) s 0).2 then J (pj step src (src.size+1) s 0).1 O' g ny else JE (pj step src (src.size+1) s 0).1 O' g ny):=by
 obtain⟨R,hR⟩:∃R:AV→Tr ABlk→Nat→Prop,R=fun _ g ny=>∃O',fh O h nx O' g ny∧(if (pj step src (src.size+1) s 0).2 then J (pj step src (src.size+1) s 0).1 O' g ny else JE (pj step src (src.size+1) s 0).1 O' g ny):=⟨_,rfl⟩;rw[← hR];obtain⟨VT,T5⟩:∃VT,VT=pj step src (src.size+1) s 0:=⟨_,rfl⟩;rw[← T5]at hR;refine aV (sz:=148) (rs:=[]) aE zzc rfl rfl rfl (by simp) ?_;unfold GR;simp-implicitDefEqProofs[go_sem];refine bT (fun mm st=>∃tm h' ax i s' O' f,st=.mk tm h' ax []∧mm=src.size-i∧i≤src.size∧src.size-i<f∧tm.get 0=some (.yld y)∧tm.get 1=some (.ip [.bs src])∧tm.get 2=some (.ip [.func 221 [] [.ip [.bs src],.ip (il lQ)]])∧tm.get 4=some (.int .i64 (i:Int))∧fh O h nx O' h' ax∧J s' O' h' ax∧RowKit.Hid (VT=pj step src f s' i)) ⟨src.size,_,_,_,0,s,O,src.size+1,rfl,by simp,by simp,by omega,?_⟩ ?_
 ·simp-implicitDefEqProofs[go_sem];exact⟨⟨ae _,fun _ _ _=>rfl,fun _ q=>.inl q⟩,hJ,Lib.hid T5⟩
 ·rintro mm st ⟨tm,h',ax,i,s',O',f,rfl,rfl,hi,hf,t0,t1,t2,t4,hK,lu,hv⟩ L hL
  refine bt aE _ ?_;have aX:=R6 src i;obtain⟨f,rfl⟩:∃f',f=f'+1:=⟨f-1,by omega⟩;have aJ:=hv.out;rw[pj]at aJ
  by_cases az:i<src.size
  ·rw[if_neg (by omega)]at aJ;have w1:IntKind.i64.wrap ((i:Int)+1)=((i+1:Nat):Int):=by rw[aY] <;> omega
   have mA:∀g ny,aA ax h' g→ax≤ny→J s' O' g ny:=fun g ny e hn=>V.ext s' O' h' ax g ny lu (fun k hk=>e k (V.lt s' O' h' ax lu k hk)) hn;have mB:∀g ny,aA ax h' g→ax≤ny→fh O h nx O' g ny:=fun g ny e hn=>hK.trans (fh.ext e hn);have oO:∀x y,aA ax h' ((h'.put ax x).put ax y):=fun x y=>by
    simp(disch:=omega)only[aL];exact aA.refl _ _
   by_cases c1:cl src i=1
   ·rw[c1]at aX;rw[if_pos c1]at aJ;simp-implicitDefEqProofs[go_sem,t1,t2,t4,az,aG];refine ay.use aX ?_;simp-implicitDefEqProofs[go_sem,aB,t4,w1];refine hL (src.size-(i+1)) _ (by omega) ⟨_,_,_,i+1,s',O',f,rfl,rfl,by omega,by omega,?_⟩;simp-implicitDefEqProofs[go_sem,t0,t1,t2];exact⟨mB _ _ (oO _ _) (Nat.le_succ _),mA _ _ (oO _ _) (Nat.le_succ _),Lib.hid aJ⟩
   rw[if_neg c1]at aJ
   by_cases c2:cl src i=2
   ·rw[c2]at aX;rw[if_pos c2]at aJ;have ug:=zN4 az c2;have hle:=PN src src.size i (by omega);generalize nY:rA src src.size i=J2 at aJ ug hle;simp-implicitDefEqProofs[go_sem,t1,t2,t4,az,aG];refine ay.use aX ?_;simp-implicitDefEqProofs[go_sem,aB];generalize dC:Tr.put (Tr.put h' ax _) ax _=g2;have hX:aA ax h' g2:=by rw[← dC];exact oO _ _
    clear dC;refine bT (fun mm st=>∃tm j f2,st=.mk tm g2 (ax+1) []∧mm=src.size-j∧i≤j∧j≤src.size∧src.size-j≤f2∧tm.get 0=some (.yld y)∧tm.get 1=some (.ip [.bs src])∧tm.get 2=some (.ip [.func 221 [] [.ip [.bs src],.ip (il lQ)]])∧tm.get 4=some (.int .i64 (j:Int))∧RowKit.Hid (J2=rA src f2 j)) ⟨src.size-i,_,i,src.size,rfl,rfl,by omega,by omega,by omega,?_⟩ ?_
    ·simp-implicitDefEqProofs[go_sem,t0,t1,t2,t4];exact Lib.hid nY.symm
    ·rintro mm st ⟨tm,j,f2,rfl,rfl,nE,nG,xO,u0,u1,u2,u4,hw⟩ L2 rY
     refine bt aE _ ?_
     by_cases jK:j<src.size
     ·have w2:IntKind.i64.wrap ((j:Int)+1)=((j+1:Nat):Int):=by rw[aY] <;> omega
      by_cases xC:(src[j]).toNat=10
      ·have aW:=zze (s:=src) (f:=f2) (j:=j) (.inr ⟨jK,xC⟩);have xG:J2=j:=by rw[hw.out,aW]
       have Eo:((src[j]).toNat:Int)=10:=by omega
       simp-implicitDefEqProofs[go_sem,u1,u4,jK,xC];rw[xG]at aJ;have zM:i<j:=by omega
       refine hL (src.size-j) _ (by omega) ⟨_,_,_,j,s',O',f,rfl,rfl,by omega,by omega,?_⟩;simp-implicitDefEqProofs[go_sem,u0,u1,u2,u4];exact⟨mB _ _ hX (Nat.le_succ _),mA _ _ hX (Nat.le_succ _),Lib.hid aJ⟩
      ·have Eo:¬((src[j]).toNat:Int)=10:=by omega
       obtain⟨f3,rfl⟩:∃f3,f2=f3+1:=⟨f2-1,by omega⟩;have lL:=hw.out;rw[rA,dif_pos jK,if_neg xC]at lL;simp-implicitDefEqProofs[go_sem,u1,u4,jK,Eo,w2];refine rY (src.size-(j+1)) _ (by omega) ⟨_,j+1,f3,rfl,rfl,by omega,by omega,by omega,?_⟩;simp-implicitDefEqProofs[go_sem,u0,u1,u2];exact Lib.hid lL
     ·have aW:=zze (s:=src) (f:=f2) (j:=j) (.inl jK);have xG:J2=j:=by rw[hw.out,aW]
      simp-implicitDefEqProofs[go_sem,u1,u4,jK];rw[xG]at aJ;have zM:i<j:=by omega
      refine hL (src.size-j) _ (by omega) ⟨_,_,_,j,s',O',f,rfl,rfl,by omega,by omega,?_⟩;simp-implicitDefEqProofs[go_sem,u0,u1,u2,u4];exact⟨mB _ _ hX (Nat.le_succ _),mA _ _ hX (Nat.le_succ _),Lib.hid aJ⟩
   rw[if_neg c2]at aJ
   by_cases c3:cl src i=3
   ·rw[c3]at aX;have dM:ji src i=(⟨1,src.extract i (fP tx src src.size i),0,(i:Int),if 24<fP tx src src.size i-i then 2 else 0⟩,fP tx src src.size i):=by
     unfold ji;rw[if_pos c3]
    have hle:=KO tx rfl src src.size i (by omega);have ug:=Xl (p:=tx) rfl az (by rw[c3];rfl);generalize nY:fP tx src src.size i=J2 at dM hle ug;rw[dM]at aJ;simp-implicitDefEqProofs[go_sem,t1,t2,t4,az,aG];refine ay.use aX ?_;simp-implicitDefEqProofs[go_sem,aB,t2,t4];refine ay.use aX ?_;simp-implicitDefEqProofs[go_sem,aB];generalize dC:Tr.put (Tr.put h' ax _) ax _=g2;have hX:aA ax h' g2:=by rw[← dC];exact oO _ _
    have xB:g2.get ax=some (bx 210 [.int .i64 0,.bs .empty,.int .i64 0,.int .i64 (i:Int),.int .i64 0] false 0):=by rw[← dC];simp[go_sem]
    clear dC;refine bT (fun mm st=>∃tm j f2,st=.mk tm g2 (ax+1) []∧mm=src.size-j∧i≤j∧j≤src.size∧src.size-j≤f2∧tm.get 0=some (.yld y)∧tm.get 1=some (.ip [.bs src])∧tm.get 2=some (.ip [.func 221 [] [.ip [.bs src],.ip (il lQ)]])∧tm.get 4=some (.int .i64 (j:Int))∧tm.get 5=some (.int .i64 (i:Int))∧tm.get 6=some (.ptr ax 0)∧tm.get 7=some (.int .u8 (cl src j))∧RowKit.Hid (J2=fP tx src f2 j)) ⟨src.size-i,_,i,src.size,rfl,rfl,by omega,by omega,by omega,?_⟩ ?_
    ·simp-implicitDefEqProofs[go_sem,t0,t1,t2,t4,c3];exact Lib.hid nY.symm
    ·rintro mm st ⟨tm,j,f2,rfl,rfl,nE,nG,xO,u0,u1,u2,u4,u5,u6,u7,hw⟩ L2 rY
     refine bt aE _ ?_;have w2:IntKind.i64.wrap ((j:Int)+1)=(j:Int)+1:=by rw[aY] <;> omega
     have qK:ay Tryz.prog cx 221 [.int .i64 ((j:Int)+1),.ip [.bs src],.ip (il lQ)] (.int .u8 (cl src (j+1))):=by simpa using R6 src (j+1)
     by_cases nI:tx (cl src j)=true
     ·have jK:j<src.size:=by
       rcases Nat.lt_or_ge j src.size with q |q
       ·exact q
       ·rw[PT q]at nI;cases nI
      obtain⟨f3,rfl⟩:∃f3,f2=f3+1:=⟨f2-1,by omega⟩;have lL:=hw.out;rw[fP,if_pos nI]at lL;have LZ:cl src j=3∨cl src j=4∨cl src j=5:=by
       unfold tx at nI;simpa using nI
      rcases LZ with w3 |w4 |w5
      ·simp-implicitDefEqProofs[go_sem,u2,u4,u7,w3,w2];refine ay.use qK ?_;simp-implicitDefEqProofs[go_sem,aB];refine rY (src.size-(j+1)) _ (by omega) ⟨_,j+1,f3,rfl,rfl,by omega,by omega,by omega,?_⟩;simp-implicitDefEqProofs[go_sem,u0,u1,u2,u5,u6];exact Lib.hid lL
      ·simp-implicitDefEqProofs[go_sem,u2,u4,u7,w4,w2];refine ay.use qK ?_;simp-implicitDefEqProofs[go_sem,aB];refine rY (src.size-(j+1)) _ (by omega) ⟨_,j+1,f3,rfl,rfl,by omega,by omega,by omega,?_⟩;simp-implicitDefEqProofs[go_sem,u0,u1,u2,u5,u6];exact Lib.hid lL
      ·simp-implicitDefEqProofs[go_sem,u2,u4,u7,w5,w2];refine ay.use qK ?_;simp-implicitDefEqProofs[go_sem,aB];refine rY (src.size-(j+1)) _ (by omega) ⟨_,j+1,f3,rfl,rfl,by omega,by omega,by omega,?_⟩;simp-implicitDefEqProofs[go_sem,u0,u1,u2,u5,u6];exact Lib.hid lL
     ·have xG:J2=j:=by
       have lL:=hw.out;cases f2 with
       |zero=>rw[lL];rfl
       |succ f2=>rw[lL,fP,if_neg nI]
      have n3:¬cl src j=3:=fun q=>nI (by rw[q];rfl);have n4:¬cl src j=4:=fun q=>nI (by rw[q];rfl);have n5:¬cl src j=5:=fun q=>nI (by rw[q];rfl);have w3:IntKind.i64.wrap ((j:Int)-(i:Int))=(j:Int)-(i:Int):=by rw[aY] <;> omega
      by_cases dH:24<j-i
      ·have MJ:(24:Int)<(j:Int)-(i:Int):=by omega
       simp-implicitDefEqProofs[go_sem,u0,u1,u4,u5,u6,u7,n3,n4,n5,w3,MJ,xB,aG,nE,nG,iL];generalize bp:Tr.put _ ax (some (bx 210 [.int .i64 1,.bs (src.extract i j),.int .i64 0,.int .i64 (i:Int),.int .i64 2] false 0))=g3;have dF:aA ax h' g3:=by
        rw[← bp];simp(disch:=omega)only[aL];exact hX
       have gY:g3.get ax=some (bx 210 [.int .i64 1,.bs (src.extract i j),.int .i64 0,.int .i64 (i:Int),.int .i64 2] false 0):=by rw[← bp];simp[go_sem]
       clear bp;rw[xG]at aJ;simp only[if_pos dH]at aJ;refine(V.yld s' O' ⟨1,src.extract i j,0,(i:Int),2⟩ g3 (ax+1) trivial (mA _ _ dF (Nat.le_succ _))).mono ?_
       rintro v g ny ⟨rfl,O2,K2,hq⟩
       have dS:g.get ax=some (bx 210 [.int .i64 1,.bs (src.extract i j),.int .i64 0,.int .i64 (i:Int),.int .i64 2] false 0):=by
        rw[K2.2.1 ax (by omega) (fun q=>by have:=V.lt s' O' h' ax lu ax q;omega)];exact gY
       have KK:=(mB _ _ dF (Nat.le_succ _)).trans K2;cases aW:(step s' ⟨1,src.extract i j,0,(i:Int),2⟩).2 with
       |false=>
        rw[aW]at hq aJ;simp-implicitDefEqProofs[go_sem,aB,u6];rw[hR];simp only[if_true]at aJ;rw[aJ];exact⟨O2,KK,by simpa using hq⟩
       |true=>
        rw[aW]at hq aJ;simp-implicitDefEqProofs[go_sem,aB,u6,dS];rw[hR];simp at aJ;rw[aJ];exact⟨O2,KK,by simpa using hq⟩
      ·have MJ:¬(24:Int)<(j:Int)-(i:Int):=by omega
       simp-implicitDefEqProofs[go_sem,u0,u1,u4,u5,u6,u7,n3,n4,n5,w3,MJ,xB,aG,nE,nG,iL];generalize bp:Tr.put _ ax (some (bx 210 [.int .i64 1,.bs (src.extract i j),.int .i64 0,.int .i64 (i:Int),.int .i64 0] false 0))=g3;have dF:aA ax h' g3:=by
        rw[← bp];simp(disch:=omega)only[aL];exact hX
       have gY:g3.get ax=some (bx 210 [.int .i64 1,.bs (src.extract i j),.int .i64 0,.int .i64 (i:Int),.int .i64 0] false 0):=by rw[← bp];simp[go_sem]
       clear bp;rw[xG]at aJ;simp only[if_neg dH]at aJ;refine(V.yld s' O' ⟨1,src.extract i j,0,(i:Int),0⟩ g3 (ax+1) trivial (mA _ _ dF (Nat.le_succ _))).mono ?_
       rintro v g ny ⟨rfl,O2,K2,hq⟩
       have dS:g.get ax=some (bx 210 [.int .i64 1,.bs (src.extract i j),.int .i64 0,.int .i64 (i:Int),.int .i64 0] false 0):=by
        rw[K2.2.1 ax (by omega) (fun q=>by have:=V.lt s' O' h' ax lu ax q;omega)];exact gY
       have KK:=(mB _ _ dF (Nat.le_succ _)).trans K2;cases aW:(step s' ⟨1,src.extract i j,0,(i:Int),0⟩).2 with
       |false=>
        rw[aW]at hq aJ;simp-implicitDefEqProofs[go_sem,aB,u6];rw[hR];simp only[if_true]at aJ;rw[aJ];exact⟨O2,KK,by simpa using hq⟩
       |true=>
        rw[aW]at hq aJ;simp-implicitDefEqProofs[go_sem,aB,u6,dS];have zM:i<j:=by omega
        refine hL (src.size-j) _ (by omega) ⟨_,_,_,j,(step s' ⟨1,src.extract i j,0,(i:Int),0⟩).1,O2,f,rfl,rfl,by omega,by omega,?_⟩;simp-implicitDefEqProofs[go_sem,u0,u1,u2,u4];exact⟨KK,by simpa using hq,Lib.hid (by simpa using aJ)⟩
   by_cases c4:cl src i=4
   ·rw[c4]at aX;have hle:=KO nR rfl src src.size i (by omega);have ug:=Xl (p:=nR) rfl az (by rw[c4];rfl);have aR:=YW nR src src.size i;have dM:ji src i=if 7<fP nR src src.size i-i∨cl src (fP nR src src.size i)=3∨cl src (fP nR src src.size i)=5 then (⟨2,src.extract i (fP nR src src.size i),0,(i:Int),4⟩,fP nR src src.size i) else (⟨2,src.extract i (fP nR src src.size i),uW (src.extract i (fP nR src src.size i)).data.toList 0,(i:Int),0⟩,fP nR src src.size i):=by
     unfold ji;rw[if_neg c3,if_pos c4]
    generalize nY:fP nR src src.size i=J2 at dM hle ug aR;rw[dM]at aJ;simp-implicitDefEqProofs[go_sem,t1,t2,t4,az,aG];refine ay.use aX ?_;simp-implicitDefEqProofs[go_sem,aB];generalize dC:Tr.put (Tr.put h' ax _) ax _=g2;have hX:aA ax h' g2:=by rw[← dC];exact oO _ _
    have xB:g2.get ax=some (bx 210 [.int .i64 0,.bs .empty,.int .i64 0,.int .i64 (i:Int),.int .i64 0] false 0):=by rw[← dC];simp[go_sem]
    clear dC;refine bT (fun mm st=>∃tm j f2,st=.mk tm g2 (ax+1) []∧mm=src.size-j∧i≤j∧j≤src.size∧src.size-j≤f2∧tm.get 0=some (.yld y)∧tm.get 1=some (.ip [.bs src])∧tm.get 2=some (.ip [.func 221 [] [.ip [.bs src],.ip (il lQ)]])∧tm.get 4=some (.int .i64 (j:Int))∧tm.get 5=some (.int .i64 (i:Int))∧tm.get 6=some (.ptr ax 0)∧RowKit.Hid (J2=fP nR src f2 j)) ⟨src.size-i,_,i,src.size,rfl,rfl,by omega,by omega,by omega,?_⟩ ?_
    ·simp-implicitDefEqProofs[go_sem,t0,t1,t2,t4];exact Lib.hid nY.symm
    ·rintro mm st ⟨tm,j,f2,rfl,rfl,nE,nG,xO,u0,u1,u2,u4,u5,u6,hw⟩ L2 rY
     refine bt aE _ ?_;have w2:IntKind.i64.wrap ((j:Int)+1)=(j:Int)+1:=by rw[aY] <;> omega
     have qK:=R6 src j
     by_cases nI:cl src j=4
     ·have jK:j<src.size:=by
       rcases Nat.lt_or_ge j src.size with q |q
       ·exact q
       ·rw[PT q]at nI;cases nI
      obtain⟨f3,rfl⟩:∃f3,f2=f3+1:=⟨f2-1,by omega⟩;have lL:=hw.out;rw[fP,if_pos (by rw[nI];rfl)]at lL;rw[nI]at qK;simp-implicitDefEqProofs[go_sem,u2,u4];refine ay.use qK ?_;simp-implicitDefEqProofs[go_sem,aB,u4,w2];refine rY (src.size-(j+1)) _ (by omega) ⟨_,j+1,f3,rfl,rfl,by omega,by omega,by omega,?_⟩;simp-implicitDefEqProofs[go_sem,u0,u1,u2,u5,u6];exact Lib.hid lL
     ·have xG:J2=j:=by
       have lL:=hw.out;cases f2 with
       |zero=>rw[lL];rfl
       |succ f2=>rw[lL,fP,if_neg (by unfold nR;simpa using nI)]
      have w3:IntKind.i64.wrap ((j:Int)-(i:Int))=(j:Int)-(i:Int):=by rw[aY] <;> omega
      simp-implicitDefEqProofs[go_sem,u2,u4];refine ay.use qK ?_;simp-implicitDefEqProofs[go_sem,aB,u2,u4,u6,nI,xB,aG];refine ay.use qK ?_;rw[xG]at aJ
      by_cases b7:7<j-i
      ·have D8:(7:Int)<(j:Int)-(i:Int):=by omega
       rw[if_pos (show 7<j-i∨cl src j=3∨cl src j=5 from .inl b7)]at aJ;simp only at aJ;simp-implicitDefEqProofs[go_sem,aB,u0,u1,u4,u5,u6,w3,aG,nE,nG,iL,D8];generalize bp:Tr.put _ ax (some (bx 210 [.int .i64 2,.bs (src.extract i j),.int .i64 0,.int .i64 (i:Int),.int .i64 4] false 0))=g3;have dF:aA ax h' g3:=by
        rw[← bp];simp(disch:=omega)only[aL];exact hX
       have gY:g3.get ax=some (bx 210 [.int .i64 2,.bs (src.extract i j),.int .i64 0,.int .i64 (i:Int),.int .i64 4] false 0):=by rw[← bp];simp[go_sem]
       clear bp;refine(V.yld s' O' ⟨2,src.extract i j,0,(i:Int),4⟩ g3 (ax+1) trivial (mA _ _ dF (Nat.le_succ _))).mono ?_
       rintro v g ny ⟨rfl,O2,K2,hq⟩
       have dS:g.get ax=some (bx 210 [.int .i64 2,.bs (src.extract i j),.int .i64 0,.int .i64 (i:Int),.int .i64 4] false 0):=by
        rw[K2.2.1 ax (by omega) (fun q=>by have:=V.lt s' O' h' ax lu ax q;omega)];exact gY
       have KK:=(mB _ _ dF (Nat.le_succ _)).trans K2;cases aW:(step s' ⟨2,src.extract i j,0,(i:Int),4⟩).2 with
       |false=>
        rw[aW]at hq aJ;simp-implicitDefEqProofs[go_sem,aB,u6];rw[hR];simp only[if_true]at aJ;rw[aJ];exact⟨O2,KK,by simpa using hq⟩
       |true=>
        rw[aW]at hq aJ;simp-implicitDefEqProofs[go_sem,aB,u6,dS];rw[hR];simp at aJ;rw[aJ];exact⟨O2,KK,by simpa using hq⟩
      have D8:¬(7:Int)<(j:Int)-(i:Int):=by omega
      by_cases b3:cl src j=3
      ·rw[if_pos (show 7<j-i∨cl src j=3∨cl src j=5 from .inr (.inl b3))]at aJ;simp only at aJ;simp-implicitDefEqProofs[go_sem,aB,u0,u1,u4,u5,u6,w3,aG,nE,nG,iL,D8,b3];generalize bp:Tr.put _ ax (some (bx 210 [.int .i64 2,.bs (src.extract i j),.int .i64 0,.int .i64 (i:Int),.int .i64 4] false 0))=g3;have dF:aA ax h' g3:=by
        rw[← bp];simp(disch:=omega)only[aL];exact hX
       have gY:g3.get ax=some (bx 210 [.int .i64 2,.bs (src.extract i j),.int .i64 0,.int .i64 (i:Int),.int .i64 4] false 0):=by rw[← bp];simp[go_sem]
       clear bp;refine(V.yld s' O' ⟨2,src.extract i j,0,(i:Int),4⟩ g3 (ax+1) trivial (mA _ _ dF (Nat.le_succ _))).mono ?_
       rintro v g ny ⟨rfl,O2,K2,hq⟩
       have dS:g.get ax=some (bx 210 [.int .i64 2,.bs (src.extract i j),.int .i64 0,.int .i64 (i:Int),.int .i64 4] false 0):=by
        rw[K2.2.1 ax (by omega) (fun q=>by have:=V.lt s' O' h' ax lu ax q;omega)];exact gY
       have KK:=(mB _ _ dF (Nat.le_succ _)).trans K2;cases aW:(step s' ⟨2,src.extract i j,0,(i:Int),4⟩).2 with
       |false=>
        rw[aW]at hq aJ;simp-implicitDefEqProofs[go_sem,aB,u6];rw[hR];simp only[if_true]at aJ;rw[aJ];exact⟨O2,KK,by simpa using hq⟩
       |true=>
        rw[aW]at hq aJ;simp-implicitDefEqProofs[go_sem,aB,u6,dS];rw[hR];simp at aJ;rw[aJ];exact⟨O2,KK,by simpa using hq⟩
      by_cases b5:cl src j=5
      ·rw[if_pos (show 7<j-i∨cl src j=3∨cl src j=5 from .inr (.inr b5))]at aJ;simp only at aJ;simp-implicitDefEqProofs[go_sem,aB,u0,u1,u4,u5,u6,w3,aG,nE,nG,iL,D8,b5];generalize bp:Tr.put _ ax (some (bx 210 [.int .i64 2,.bs (src.extract i j),.int .i64 0,.int .i64 (i:Int),.int .i64 4] false 0))=g3;have dF:aA ax h' g3:=by
        rw[← bp];simp(disch:=omega)only[aL];exact hX
       have gY:g3.get ax=some (bx 210 [.int .i64 2,.bs (src.extract i j),.int .i64 0,.int .i64 (i:Int),.int .i64 4] false 0):=by rw[← bp];simp[go_sem]
       clear bp;refine(V.yld s' O' ⟨2,src.extract i j,0,(i:Int),4⟩ g3 (ax+1) trivial (mA _ _ dF (Nat.le_succ _))).mono ?_
       rintro v g ny ⟨rfl,O2,K2,hq⟩
       have dS:g.get ax=some (bx 210 [.int .i64 2,.bs (src.extract i j),.int .i64 0,.int .i64 (i:Int),.int .i64 4] false 0):=by
        rw[K2.2.1 ax (by omega) (fun q=>by have:=V.lt s' O' h' ax lu ax q;omega)];exact gY
       have KK:=(mB _ _ dF (Nat.le_succ _)).trans K2;cases aW:(step s' ⟨2,src.extract i j,0,(i:Int),4⟩).2 with
       |false=>
        rw[aW]at hq aJ;simp-implicitDefEqProofs[go_sem,aB,u6];rw[hR];simp only[if_true]at aJ;rw[aJ];exact⟨O2,KK,by simpa using hq⟩
       |true=>
        rw[aW]at hq aJ;simp-implicitDefEqProofs[go_sem,aB,u6,dS];rw[hR];simp at aJ;rw[aJ];exact⟨O2,KK,by simpa using hq⟩
      rw[if_neg (show ¬(7<j-i∨cl src j=3∨cl src j=5) from by omega)]at aJ;simp only at aJ;simp-implicitDefEqProofs[go_sem,aB,u1,u4,u5,w3,nE,nG,iL,D8,b3,b5];have qag:i<j:=by omega
      have gD:=zQx (src.extract i j) (by rw[extract_size nE nG];omega) (by rw[extract_size nE nG];omega) (zKh nG fun k k1 k2=>by
       have:=aR k k1 (by omega);unfold nR at this;simpa using this)
      generalize qam:uW (src.extract i j).data.toList 0=num at gD aJ;refine ay.use gD ?_;simp-implicitDefEqProofs[go_sem,aB,u0,u1,u4,u5,u6,aG,nE,nG,iL];generalize bp:Tr.put _ ax (some (bx 210 [.int .i64 2,.bs (src.extract i j),.int .i64 num,.int .i64 (i:Int),.int .i64 0] false 0))=g3;have dF:aA ax h' g3:=by
       rw[← bp];simp(disch:=omega)only[aL];exact hX
      have gY:g3.get ax=some (bx 210 [.int .i64 2,.bs (src.extract i j),.int .i64 num,.int .i64 (i:Int),.int .i64 0] false 0):=by rw[← bp];simp[go_sem]
      clear bp;refine(V.yld s' O' ⟨2,src.extract i j,num,(i:Int),0⟩ g3 (ax+1) trivial (mA _ _ dF (Nat.le_succ _))).mono ?_
      rintro v g ny ⟨rfl,O2,K2,hq⟩
      have dS:g.get ax=some (bx 210 [.int .i64 2,.bs (src.extract i j),.int .i64 num,.int .i64 (i:Int),.int .i64 0] false 0):=by
       rw[K2.2.1 ax (by omega) (fun q=>by have:=V.lt s' O' h' ax lu ax q;omega)];exact gY
      have KK:=(mB _ _ dF (Nat.le_succ _)).trans K2;cases aW:(step s' ⟨2,src.extract i j,num,(i:Int),0⟩).2 with
      |false=>
       rw[aW]at hq aJ;simp-implicitDefEqProofs[go_sem,aB,u6];rw[hR];simp only[if_true]at aJ;rw[aJ];exact⟨O2,KK,by simpa using hq⟩
      |true=>
       rw[aW]at hq aJ;simp-implicitDefEqProofs[go_sem,aB,u6,dS];have zM:i<j:=by omega
       refine hL (src.size-j) _ (by omega) ⟨_,_,_,j,(step s' ⟨2,src.extract i j,num,(i:Int),0⟩).1,O2,f,rfl,rfl,by omega,by omega,?_⟩;simp-implicitDefEqProofs[go_sem,u0,u1,u2,u4];exact⟨KK,by simpa using hq,Lib.hid (by simpa using aJ)⟩
   obtain⟨j,Ch⟩:∃j,j=i+1:=⟨_,rfl⟩;obtain⟨j2,Nn⟩:∃j,j=i+2:=⟨_,rfl⟩;have s5:IntKind.i64.wrap ((i:Int)+1)=((j:Nat):Int):=by rw[aY] <;> omega
   have w2:IntKind.i64.wrap ((j:Int)+1)=((j2:Nat):Int):=by rw[aY] <;> omega
   have lG:i≤j:=by omega
   have eK:j≤src.size:=by omega
   by_cases c6:cl src i=6
   ·rw[c6]at aX;have dM:ji src i=(⟨3,src.extract i j,0,(i:Int),0⟩,j):=by
     unfold ji;rw[if_neg c3,if_neg c4,if_pos (.inl c6),if_neg (fun q=>q.1 c6),c6,Ch];rfl
    rw[dM]at aJ;simp only at aJ;simp-implicitDefEqProofs[go_sem,t1,t2,t4,az,aG];refine ay.use aX ?_;simp-implicitDefEqProofs[go_sem,aB,t2,t4,aG,s5];refine ay.use aX ?_;simp-implicitDefEqProofs[go_sem,aB,t0,t1,aG,iL,lG,eK];generalize bp:Tr.put _ ax (some (bx 210 [.int .i64 3,.bs (src.extract i (j)),.int .i64 0,.int .i64 (i:Int),.int .i64 0] false 0))=g3;have dF:aA ax h' g3:=by
     rw[← bp];simp(disch:=omega)only[aL];exact aA.refl _ _
    have gY:g3.get ax=some (bx 210 [.int .i64 3,.bs (src.extract i (j)),.int .i64 0,.int .i64 (i:Int),.int .i64 0] false 0):=by rw[← bp];simp[go_sem]
    clear bp;refine(V.yld s' O' ⟨3,src.extract i (j),0,(i:Int),0⟩ g3 (ax+1) trivial (mA _ _ dF (Nat.le_succ _))).mono ?_
    rintro v g ny ⟨rfl,O2,K2,hq⟩
    have dS:g.get ax=some (bx 210 [.int .i64 3,.bs (src.extract i (j)),.int .i64 0,.int .i64 (i:Int),.int .i64 0] false 0):=by
     rw[K2.2.1 ax (by omega) (fun q=>by have:=V.lt s' O' h' ax lu ax q;omega)];exact gY
    have KK:=(mB _ _ dF (Nat.le_succ _)).trans K2;cases aW:(step s' ⟨3,src.extract i (j),0,(i:Int),0⟩).2 with
    |false=>
     rw[aW]at hq aJ;simp-implicitDefEqProofs[go_sem,aB];rw[hR];simp only[if_true]at aJ;rw[aJ];exact⟨O2,KK,by simpa using hq⟩
    |true=>
     rw[aW]at hq aJ;simp-implicitDefEqProofs[go_sem,aB,dS];refine hL (src.size-(j)) _ (by omega) ⟨_,_,_,j,(step s' ⟨3,src.extract i (j),0,(i:Int),0⟩).1,O2,f,rfl,rfl,by omega,by omega,?_⟩;simp-implicitDefEqProofs[go_sem,t0,t1,t2];exact⟨KK,by simpa using hq,Lib.hid (by simpa using aJ)⟩
   by_cases Ea:cl src i=7∨cl src i=8
   ·by_cases Ep:∃q:i+1<src.size,(src[i+1]).toNat=61
    ·obtain⟨q0,e0⟩:=Ep;have q:j<src.size:=by omega
     have H2:(src[j]).toNat=61:=by subst Ch;exact e0
     have sj:i≤j2:=by omega
     have It:j2≤src.size:=by omega
     have vr:((src[j]).toNat:Int)=61:=by omega
     have dM:ji src i=(⟨3,src.extract i j2,0,(i:Int),0⟩,j2):=by
      unfold ji;rw[if_neg c3,if_neg c4,if_pos (.inr Ea),if_pos ⟨c6,q0,e0⟩,Nn]
     rw[dM]at aJ;simp only at aJ
     rcases Ea with c7 |c7
     ·rw[c7]at aX;simp-implicitDefEqProofs[go_sem,t1,t2,t4,az,aG];refine ay.use aX ?_;simp-implicitDefEqProofs[go_sem,aB,t2,t4,aG,s5];refine ay.use aX ?_;simp-implicitDefEqProofs[go_sem,aB,t0,t1,aG,iL,q,H2,w2,sj,It];generalize bp:Tr.put _ ax (some (bx 210 [.int .i64 3,.bs (src.extract i (j2)),.int .i64 0,.int .i64 (i:Int),.int .i64 0] false 0))=g3;have dF:aA ax h' g3:=by
       rw[← bp];simp(disch:=omega)only[aL];exact aA.refl _ _
      have gY:g3.get ax=some (bx 210 [.int .i64 3,.bs (src.extract i (j2)),.int .i64 0,.int .i64 (i:Int),.int .i64 0] false 0):=by rw[← bp];simp[go_sem]
      clear bp;refine(V.yld s' O' ⟨3,src.extract i (j2),0,(i:Int),0⟩ g3 (ax+1) trivial (mA _ _ dF (Nat.le_succ _))).mono ?_
      rintro v g ny ⟨rfl,O2,K2,hq⟩
      have dS:g.get ax=some (bx 210 [.int .i64 3,.bs (src.extract i (j2)),.int .i64 0,.int .i64 (i:Int),.int .i64 0] false 0):=by
       rw[K2.2.1 ax (by omega) (fun q=>by have:=V.lt s' O' h' ax lu ax q;omega)];exact gY
      have KK:=(mB _ _ dF (Nat.le_succ _)).trans K2;cases aW:(step s' ⟨3,src.extract i (j2),0,(i:Int),0⟩).2 with
      |false=>
       rw[aW]at hq aJ;simp-implicitDefEqProofs[go_sem,aB];rw[hR];simp only[if_true]at aJ;rw[aJ];exact⟨O2,KK,by simpa using hq⟩
      |true=>
       rw[aW]at hq aJ;simp-implicitDefEqProofs[go_sem,aB,dS];refine hL (src.size-(j2)) _ (by omega) ⟨_,_,_,j2,(step s' ⟨3,src.extract i (j2),0,(i:Int),0⟩).1,O2,f,rfl,rfl,by omega,by omega,?_⟩;simp-implicitDefEqProofs[go_sem,t0,t1,t2];exact⟨KK,by simpa using hq,Lib.hid (by simpa using aJ)⟩
     ·rw[c7]at aX;simp-implicitDefEqProofs[go_sem,t1,t2,t4,az,aG];refine ay.use aX ?_;simp-implicitDefEqProofs[go_sem,aB,t2,t4,aG,s5];refine ay.use aX ?_;simp-implicitDefEqProofs[go_sem,aB,t0,t1,aG,iL,q,H2,w2,sj,It];generalize bp:Tr.put _ ax (some (bx 210 [.int .i64 3,.bs (src.extract i (j2)),.int .i64 0,.int .i64 (i:Int),.int .i64 0] false 0))=g3;have dF:aA ax h' g3:=by
       rw[← bp];simp(disch:=omega)only[aL];exact aA.refl _ _
      have gY:g3.get ax=some (bx 210 [.int .i64 3,.bs (src.extract i (j2)),.int .i64 0,.int .i64 (i:Int),.int .i64 0] false 0):=by rw[← bp];simp[go_sem]
      clear bp;refine(V.yld s' O' ⟨3,src.extract i (j2),0,(i:Int),0⟩ g3 (ax+1) trivial (mA _ _ dF (Nat.le_succ _))).mono ?_
      rintro v g ny ⟨rfl,O2,K2,hq⟩
      have dS:g.get ax=some (bx 210 [.int .i64 3,.bs (src.extract i (j2)),.int .i64 0,.int .i64 (i:Int),.int .i64 0] false 0):=by
       rw[K2.2.1 ax (by omega) (fun q=>by have:=V.lt s' O' h' ax lu ax q;omega)];exact gY
      have KK:=(mB _ _ dF (Nat.le_succ _)).trans K2;cases aW:(step s' ⟨3,src.extract i (j2),0,(i:Int),0⟩).2 with
      |false=>
       rw[aW]at hq aJ;simp-implicitDefEqProofs[go_sem,aB];rw[hR];simp only[if_true]at aJ;rw[aJ];exact⟨O2,KK,by simpa using hq⟩
      |true=>
       rw[aW]at hq aJ;simp-implicitDefEqProofs[go_sem,aB,dS];refine hL (src.size-(j2)) _ (by omega) ⟨_,_,_,j2,(step s' ⟨3,src.extract i (j2),0,(i:Int),0⟩).1,O2,f,rfl,rfl,by omega,by omega,?_⟩;simp-implicitDefEqProofs[go_sem,t0,t1,t2];exact⟨KK,by simpa using hq,Lib.hid (by simpa using aJ)⟩
    ·rcases Ea with c7 |c7
     ·rw[c7]at aX;have dM:ji src i=(⟨3,src.extract i j,0,(i:Int),0⟩,j):=by
       unfold ji;rw[if_neg c3,if_neg c4,if_pos (.inr (.inl c7)),if_neg (fun q=>Ep q.2),c7,Ch];rfl
      rw[dM]at aJ;simp only at aJ
      by_cases q:j<src.size
      ·have H2:¬(src[j]).toNat=61:=fun e=>Ep (by subst Ch;exact⟨q,e⟩);have vr:¬((src[j]).toNat:Int)=61:=by omega
       simp-implicitDefEqProofs[go_sem,t1,t2,t4,az,aG];refine ay.use aX ?_;simp-implicitDefEqProofs[go_sem,aB,t2,t4,aG,s5];refine ay.use aX ?_;simp-implicitDefEqProofs[go_sem,aB,t0,t1,aG,iL,q,vr,lG,eK];generalize bp:Tr.put _ ax (some (bx 210 [.int .i64 3,.bs (src.extract i (j)),.int .i64 0,.int .i64 (i:Int),.int .i64 0] false 0))=g3;have dF:aA ax h' g3:=by
        rw[← bp];simp(disch:=omega)only[aL];exact aA.refl _ _
       have gY:g3.get ax=some (bx 210 [.int .i64 3,.bs (src.extract i (j)),.int .i64 0,.int .i64 (i:Int),.int .i64 0] false 0):=by rw[← bp];simp[go_sem]
       clear bp;refine(V.yld s' O' ⟨3,src.extract i (j),0,(i:Int),0⟩ g3 (ax+1) trivial (mA _ _ dF (Nat.le_succ _))).mono ?_
       rintro v g ny ⟨rfl,O2,K2,hq⟩
       have dS:g.get ax=some (bx 210 [.int .i64 3,.bs (src.extract i (j)),.int .i64 0,.int .i64 (i:Int),.int .i64 0] false 0):=by
        rw[K2.2.1 ax (by omega) (fun q=>by have:=V.lt s' O' h' ax lu ax q;omega)];exact gY
       have KK:=(mB _ _ dF (Nat.le_succ _)).trans K2;cases aW:(step s' ⟨3,src.extract i (j),0,(i:Int),0⟩).2 with
       |false=>
        rw[aW]at hq aJ;simp-implicitDefEqProofs[go_sem,aB];rw[hR];simp only[if_true]at aJ;rw[aJ];exact⟨O2,KK,by simpa using hq⟩
       |true=>
        rw[aW]at hq aJ;simp-implicitDefEqProofs[go_sem,aB,dS];refine hL (src.size-(j)) _ (by omega) ⟨_,_,_,j,(step s' ⟨3,src.extract i (j),0,(i:Int),0⟩).1,O2,f,rfl,rfl,by omega,by omega,?_⟩;simp-implicitDefEqProofs[go_sem,t0,t1,t2];exact⟨KK,by simpa using hq,Lib.hid (by simpa using aJ)⟩
      ·skip
       simp-implicitDefEqProofs[go_sem,t1,t2,t4,az,aG];refine ay.use aX ?_;simp-implicitDefEqProofs[go_sem,aB,t2,t4,aG,s5];refine ay.use aX ?_;simp-implicitDefEqProofs[go_sem,aB,t0,t1,aG,iL,q,lG,eK];generalize bp:Tr.put _ ax (some (bx 210 [.int .i64 3,.bs (src.extract i (j)),.int .i64 0,.int .i64 (i:Int),.int .i64 0] false 0))=g3;have dF:aA ax h' g3:=by
        rw[← bp];simp(disch:=omega)only[aL];exact aA.refl _ _
       have gY:g3.get ax=some (bx 210 [.int .i64 3,.bs (src.extract i (j)),.int .i64 0,.int .i64 (i:Int),.int .i64 0] false 0):=by rw[← bp];simp[go_sem]
       clear bp;refine(V.yld s' O' ⟨3,src.extract i (j),0,(i:Int),0⟩ g3 (ax+1) trivial (mA _ _ dF (Nat.le_succ _))).mono ?_
       rintro v g ny ⟨rfl,O2,K2,hq⟩
       have dS:g.get ax=some (bx 210 [.int .i64 3,.bs (src.extract i (j)),.int .i64 0,.int .i64 (i:Int),.int .i64 0] false 0):=by
        rw[K2.2.1 ax (by omega) (fun q=>by have:=V.lt s' O' h' ax lu ax q;omega)];exact gY
       have KK:=(mB _ _ dF (Nat.le_succ _)).trans K2;cases aW:(step s' ⟨3,src.extract i (j),0,(i:Int),0⟩).2 with
       |false=>
        rw[aW]at hq aJ;simp-implicitDefEqProofs[go_sem,aB];rw[hR];simp only[if_true]at aJ;rw[aJ];exact⟨O2,KK,by simpa using hq⟩
       |true=>
        rw[aW]at hq aJ;simp-implicitDefEqProofs[go_sem,aB,dS];refine hL (src.size-(j)) _ (by omega) ⟨_,_,_,j,(step s' ⟨3,src.extract i (j),0,(i:Int),0⟩).1,O2,f,rfl,rfl,by omega,by omega,?_⟩;simp-implicitDefEqProofs[go_sem,t0,t1,t2];exact⟨KK,by simpa using hq,Lib.hid (by simpa using aJ)⟩
     ·rw[c7]at aX;have dM:ji src i=(⟨3,src.extract i j,0,(i:Int),3⟩,j):=by
       unfold ji;rw[if_neg c3,if_neg c4,if_pos (.inr (.inr c7)),if_neg (fun q=>Ep q.2),c7,Ch];rfl
      rw[dM]at aJ;simp only at aJ
      by_cases q:j<src.size
      ·have H2:¬(src[j]).toNat=61:=fun e=>Ep (by subst Ch;exact⟨q,e⟩);have vr:¬((src[j]).toNat:Int)=61:=by omega
       simp-implicitDefEqProofs[go_sem,t1,t2,t4,az,aG];refine ay.use aX ?_;simp-implicitDefEqProofs[go_sem,aB,t2,t4,aG,s5];refine ay.use aX ?_;simp-implicitDefEqProofs[go_sem,aB,t0,t1,aG,iL,q,vr,lG,eK];generalize bp:Tr.put _ ax (some (bx 210 [.int .i64 3,.bs (src.extract i (j)),.int .i64 0,.int .i64 (i:Int),.int .i64 3] false 0))=g3;have dF:aA ax h' g3:=by
        rw[← bp];simp(disch:=omega)only[aL];exact aA.refl _ _
       have gY:g3.get ax=some (bx 210 [.int .i64 3,.bs (src.extract i (j)),.int .i64 0,.int .i64 (i:Int),.int .i64 3] false 0):=by rw[← bp];simp[go_sem]
       clear bp;refine(V.yld s' O' ⟨3,src.extract i (j),0,(i:Int),3⟩ g3 (ax+1) trivial (mA _ _ dF (Nat.le_succ _))).mono ?_
       rintro v g ny ⟨rfl,O2,K2,hq⟩
       have dS:g.get ax=some (bx 210 [.int .i64 3,.bs (src.extract i (j)),.int .i64 0,.int .i64 (i:Int),.int .i64 3] false 0):=by
        rw[K2.2.1 ax (by omega) (fun q=>by have:=V.lt s' O' h' ax lu ax q;omega)];exact gY
       have KK:=(mB _ _ dF (Nat.le_succ _)).trans K2;cases aW:(step s' ⟨3,src.extract i (j),0,(i:Int),3⟩).2 with
       |false=>
        rw[aW]at hq aJ;simp-implicitDefEqProofs[go_sem,aB];rw[hR];simp only[if_true]at aJ;rw[aJ];exact⟨O2,KK,by simpa using hq⟩
       |true=>
        rw[aW]at hq aJ;simp-implicitDefEqProofs[go_sem,aB,dS];rw[hR];simp at aJ;rw[aJ];exact⟨O2,KK,by simpa using hq⟩
      ·skip
       simp-implicitDefEqProofs[go_sem,t1,t2,t4,az,aG];refine ay.use aX ?_;simp-implicitDefEqProofs[go_sem,aB,t2,t4,aG,s5];refine ay.use aX ?_;simp-implicitDefEqProofs[go_sem,aB,t0,t1,aG,iL,q,lG,eK];generalize bp:Tr.put _ ax (some (bx 210 [.int .i64 3,.bs (src.extract i (j)),.int .i64 0,.int .i64 (i:Int),.int .i64 3] false 0))=g3;have dF:aA ax h' g3:=by
        rw[← bp];simp(disch:=omega)only[aL];exact aA.refl _ _
       have gY:g3.get ax=some (bx 210 [.int .i64 3,.bs (src.extract i (j)),.int .i64 0,.int .i64 (i:Int),.int .i64 3] false 0):=by rw[← bp];simp[go_sem]
       clear bp;refine(V.yld s' O' ⟨3,src.extract i (j),0,(i:Int),3⟩ g3 (ax+1) trivial (mA _ _ dF (Nat.le_succ _))).mono ?_
       rintro v g ny ⟨rfl,O2,K2,hq⟩
       have dS:g.get ax=some (bx 210 [.int .i64 3,.bs (src.extract i (j)),.int .i64 0,.int .i64 (i:Int),.int .i64 3] false 0):=by
        rw[K2.2.1 ax (by omega) (fun q=>by have:=V.lt s' O' h' ax lu ax q;omega)];exact gY
       have KK:=(mB _ _ dF (Nat.le_succ _)).trans K2;cases aW:(step s' ⟨3,src.extract i (j),0,(i:Int),3⟩).2 with
       |false=>
        rw[aW]at hq aJ;simp-implicitDefEqProofs[go_sem,aB];rw[hR];simp only[if_true]at aJ;rw[aJ];exact⟨O2,KK,by simpa using hq⟩
       |true=>
        rw[aW]at hq aJ;simp-implicitDefEqProofs[go_sem,aB,dS];rw[hR];simp at aJ;rw[aJ];exact⟨O2,KK,by simpa using hq⟩
   have n6:¬cl src i=6:=c6;have n7:¬cl src i=7:=fun q=>Ea (.inl q);have n8:¬cl src i=8:=fun q=>Ea (.inr q);have Lx:¬(cl src i=6∨cl src i=7∨cl src i=8):=by omega
   have dM:ji src i=(⟨0,.empty,0,(i:Int),3⟩,i):=by
    unfold ji;rw[if_neg c3,if_neg c4,if_neg Lx,show src.extract i i=ByteArray.empty from by simp]
   rw[dM]at aJ;simp only at aJ;have Ng:i≤i:=ae _;simp-implicitDefEqProofs[go_sem,t1,t2,t4,az,aG];refine ay.use aX ?_;simp-implicitDefEqProofs[go_sem,aB,t0,t1,t4,aG,c1,c2,c3,c4,n6,n7,n8,hi,iL];generalize bp:Tr.put _ ax (some (bx 210 [.int .i64 0,.bs (.empty),.int .i64 0,.int .i64 (i:Int),.int .i64 3] false 0))=g3;have dF:aA ax h' g3:=by
    rw[← bp];simp(disch:=omega)only[aL];exact aA.refl _ _
   have gY:g3.get ax=some (bx 210 [.int .i64 0,.bs (.empty),.int .i64 0,.int .i64 (i:Int),.int .i64 3] false 0):=by rw[← bp];simp[go_sem]
   clear bp;refine(V.yld s' O' ⟨0,.empty,0,(i:Int),3⟩ g3 (ax+1) trivial (mA _ _ dF (Nat.le_succ _))).mono ?_
   rintro v g ny ⟨rfl,O2,K2,hq⟩
   have dS:g.get ax=some (bx 210 [.int .i64 0,.bs (.empty),.int .i64 0,.int .i64 (i:Int),.int .i64 3] false 0):=by
    rw[K2.2.1 ax (by omega) (fun q=>by have:=V.lt s' O' h' ax lu ax q;omega)];exact gY
   have KK:=(mB _ _ dF (Nat.le_succ _)).trans K2;cases aW:(step s' ⟨0,.empty,0,(i:Int),3⟩).2 with
   |false=>
    rw[aW]at hq aJ;simp-implicitDefEqProofs[go_sem,aB];rw[hR];simp only[if_true]at aJ;rw[aJ];exact⟨O2,KK,by simpa using hq⟩
   |true=>
    rw[aW]at hq aJ;simp-implicitDefEqProofs[go_sem,aB,dS];rw[hR];simp at aJ;rw[aJ];exact⟨O2,KK,by simpa using hq⟩
  ·rw[if_pos (by omega)]at aJ;simp-implicitDefEqProofs[go_sem,t1,t4,az];rw[hR,aJ];exact⟨O',hK,by rw[if_pos rfl];exact lu⟩
end
end Go.Ev
