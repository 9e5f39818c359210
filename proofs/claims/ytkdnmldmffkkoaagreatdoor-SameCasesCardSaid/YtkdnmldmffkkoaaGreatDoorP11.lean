/- Texts. -/
import Derived.Test.YtkdnmldmffkkoaaGreatDoorP10
set_option linter.all false
set_option maxRecDepth 100000
set_option maxHeartbeats 8000000
namespace Go.Ev
noncomputable section
section
open Go.Proofs Go.RowKit
attribute [-go_sem] dN bX fC jg
def Qw {s:ByteArray}{i:Nat}(h:i<s.size):cl s i=(rI (s[i]).toNat:Int):=by
 unfold cl zv;rw[dif_pos h]
def zN4 {s:ByteArray}{i:Nat}(h:i<s.size)(hc:cl s i=2):i<sD s s.size i:=by
 obtain⟨m,hm⟩:∃m,s.size=m+1:=⟨s.size-1,by omega⟩;have Fb:¬(s[i]).toNat=10:=by
  intro e;rw[Qw h,e]at hc;exact absurd hc (by decide)
 rw[hm,sD,dif_pos h,if_neg Fb];have:=(QP s m (i+1) h).1;omega
def zze {s:ByteArray}{f j:Nat}(h:¬j<s.size∨∃q:j<s.size,(s[j]).toNat=10):sD s f j=j:=by
 cases f with
 |zero=>rfl
 |succ f=>
  rw[sD]
  rcases h with h |⟨q,h⟩
  ·rw[dif_neg h]
  ·rw[dif_pos q,if_pos h]
def Qk {p:Int→Bool}(hp:p 0=false){s:ByteArray}{i:Nat}(h:i<s.size)(hc:p (cl s i)=true):i<fY p s s.size i:=by
 obtain⟨m,hm⟩:∃m,s.size=m+1:=⟨s.size-1,by omega⟩;rw[hm,fY,if_pos hc];have:=(Iv p hp s m (i+1) h).1;omega
def zKh {s:ByteArray}{i j:Nat}(hj:j≤s.size)(h:∀k,i≤k→k<j→cl s k=4):∀z∈(s.extract i j).data.toList,48≤z.toNat∧z.toNat≤57:=by
 intro z hz;rw[ByteArray.data_extract]at hz;obtain⟨k,hk,e⟩:=List.getElem_of_mem hz;rw[Array.getElem_toList,Array.getElem_extract]at e;simp only[Array.length_toList,Array.size_extract]at hk;have bC:s.data.size=s.size:=rfl;have dK:i+k<s.size:=by omega
 have h4:=h (i+k) (by omega) (by omega);have:cl s (i+k)=(rI (s[i+k]).toNat:Int):=by unfold cl zv;rw[dif_pos dK]
 rw[this]at h4;have h5:rI (s[i+k]).toNat=4:=by omega
 have h6:=zS9 h5;have e2:s[i+k]=z:=by rw[← e];rfl
 rw[e2]at h6;exact h6
def extract_size {s:ByteArray}{i j:Nat}(h1:i≤j)(hj:j≤s.size):(s.extract i j).size=j-i:=by
 rw[ByteArray.size_extract];omega
def zzc:cx.ft.get 222=some Tryz.f222:=aO
def kT {S:Type}(step:S→Tk→S×Bool)(src:ByteArray):Nat→S→Nat→S×Bool
 |0,s,_=>(s,true)
 |f+1,s,i=>if src.size≤i then (s,true) else if cl src i=1 then kT step src f s (i+1) else if cl src i=2 then kT step src f s (sD src src.size i) else
  if (step s (eK src i).1).2=false then ((step s (eK src i).1).1,false) else if (eK src i).1.code≠0 then ((step s (eK src i).1).1,true) else kT step src f (step s (eK src i).1).1 (eK src i).2
structure VisT (P:Program)(c:Cx)(S:Type)(step:S→Tk→S×Bool)(Pre:S→Tk→Prop) (y:Nat)(J JE:S→(Nat→Prop)→Tr ABlk→Nat→Prop):Prop where
 ext:∀s O h nx h' ax,J s O h nx→(∀k,O k→h'.get k=h.get k)→nx≤ax→J s O h' ax
 lt:∀s O h nx,J s O h nx→∀k,O k→k<nx
 yld:∀s O t h nx,Pre s t→J s O h nx→ui P c y [.agg t.cs] h nx fun v g ny=>v=.bool (step s t).2∧∃O',ew O h nx O' g ny∧(if (step s t).2 then J (step s t).1 O' g ny else JE (step s t).1 O' g ny)
def zOm {S:Type}{step:S→Tk→S×Bool}{y:Nat}{J JE:S→(Nat→Prop)→Tr ABlk→Nat→Prop}(V:VisT Tryz.prog cx S step (fun _ _=>True) y J JE)(src:ByteArray)(hs:src.size≤20000)(s:S)(O:Nat→Prop)(h:Tr ABlk) (nx:Nat)(hJ:J s O h nx):
  di 222 [.yld y,.ip [.bs src],.ip [HJ src]] h nx fun _ g ny=>∃O',ew O h nx O' g ny∧(if (kT step src (src.size+1) s 0).2 then J (kT step src (src.size+1) s 0).1 O' g ny else JE (kT step src (src.size+1) s 0).1 O' g ny):=by
 obtain⟨R,hR⟩:∃R:AV→Tr ABlk→Nat→Prop,R=fun _ g ny=>∃O',ew O h nx O' g ny∧(if (kT step src (src.size+1) s 0).2 then J (kT step src (src.size+1) s 0).1 O' g ny else JE (kT step src (src.size+1) s 0).1 O' g ny):=⟨_,rfl⟩;rw[← hR];obtain⟨VT,US⟩:∃VT,VT=kT step src (src.size+1) s 0:=⟨_,rfl⟩;rw[← US]at hR;refine aP zzc (sz:=148) (rs:=[]) ?_;unfold HJ;simp[go_sem];refine bF (fun mm st=>∃tm h' ax i s' O' f,st=.mk tm h' ax []∧mm=src.size-i∧i≤src.size∧src.size-i<f∧tm.get 0=some (.yld y)∧tm.get 1=some (.ip [.bs src])∧tm.get 2=some (.ip [.func 221 [] [.ip [.bs src],.ip (iS mB)]])∧tm.get 4=some (.int .i64 (i:Int))∧ew O h nx O' h' ax∧J s' O' h' ax∧RowKit.Hid (VT=kT step src f s' i)) ⟨src.size,_,_,_,0,s,O,src.size+1,rfl,by simp,by simp,by omega,?_⟩ ?_
 ·simp[go_sem];exact⟨⟨ae _,fun _ _ _=>rfl,fun _ q=>.inl q⟩,hJ,Lib.hid US⟩
 ·rintro mm st ⟨tm,h',ax,i,s',O',f,rfl,rfl,hi,hf,t0,t1,t2,t4,hK,lZ,hv⟩ L hL
  refine bl ?_;have aX:=S5 src i;obtain⟨f,rfl⟩:∃f',f=f'+1:=⟨f-1,by omega⟩;have aF:=hv.out;rw[kT]at aF
  by_cases ay:i<src.size
  ·rw[if_neg (by omega)]at aF;have w1:IntKind.i64.wrap ((i:Int)+1)=((i+1:Nat):Int):=by rw[aS] <;> omega
   have nj:∀g ny,az ax h' g→ax≤ny→J s' O' g ny:=fun g ny e hn=>V.ext s' O' h' ax g ny lZ (fun k hk=>e k (V.lt s' O' h' ax lZ k hk)) hn;have np:∀g ny,az ax h' g→ax≤ny→ew O h nx O' g ny:=fun g ny e hn=>hK.trans (ew.ext e hn);have pJ:∀x y,az ax h' ((h'.put ax x).put ax y):=fun x y=>by
    simp(disch:=omega)only[aK,az.refl]
   by_cases c1:cl src i=1
   ·rw[c1]at aX;rw[if_pos c1]at aF;simp[go_sem,t1,t2,t4,ay,aI];refine aB.use aX ?_;simp[go_sem,aA,t4,w1];refine hL (src.size-(i+1)) _ (by omega) ⟨_,_,_,i+1,s',O',f,rfl,rfl,by omega,by omega,?_⟩;simp[go_sem,t0,t1,t2];exact⟨np _ _ (pJ _ _) (Nat.le_succ _),nj _ _ (pJ _ _) (Nat.le_succ _),Lib.hid aF⟩
   rw[if_neg c1]at aF
   by_cases c2:cl src i=2
   ·rw[c2]at aX;rw[if_pos c2]at aF;have rP:=zN4 ay c2;have hle:=QP src src.size i (by omega);generalize oQ:sD src src.size i=J2 at aF rP hle;simp[go_sem,t1,t2,t4,ay,aI];refine aB.use aX ?_;simp[go_sem,aA];generalize dO:Tr.put (Tr.put h' ax _) ax _=g2;have hX:az ax h' g2:=by rw[← dO];exact pJ _ _
    clear dO;refine bF (fun mm st=>∃tm j f2,st=.mk tm g2 (ax+1) []∧mm=src.size-j∧i≤j∧j≤src.size∧src.size-j≤f2∧tm.get 0=some (.yld y)∧tm.get 1=some (.ip [.bs src])∧tm.get 2=some (.ip [.func 221 [] [.ip [.bs src],.ip (iS mB)]])∧tm.get 4=some (.int .i64 (j:Int))∧RowKit.Hid (J2=sD src f2 j)) ⟨src.size-i,_,i,src.size,rfl,rfl,by omega,by omega,by omega,?_⟩ ?_
    ·simp[go_sem,t0,t1,t2,t4];exact Lib.hid oQ.symm
    ·rintro mm st ⟨tm,j,f2,rfl,rfl,nD,oh,tj,u0,u1,u2,u4,hw⟩ L2 sY
     refine bl ?_
     by_cases kr:j<src.size
     ·have w2:IntKind.i64.wrap ((j:Int)+1)=((j+1:Nat):Int):=by rw[aS] <;> omega
      by_cases Fb:(src[j]).toNat=10
      ·have aU:=zze (s:=src) (f:=f2) (j:=j) (.inr ⟨kr,Fb⟩);have yp:J2=j:=by rw[hw.out,aU]
       have Fe:((src[j]).toNat:Int)=10:=(by omega);simp[go_sem,u1,u4,kr,Fb];rw[yp]at aF;have Ay:i<j:=(by omega);refine hL (src.size-j) _ (by omega) ⟨_,_,_,j,s',O',f,rfl,rfl,by omega,by omega,?_⟩;simp[go_sem,u0,u1,u2,u4];exact⟨np _ _ hX (Nat.le_succ _),nj _ _ hX (Nat.le_succ _),Lib.hid aF⟩
      ·have Fe:¬((src[j]).toNat:Int)=10:=(by omega);obtain⟨f3,rfl⟩:∃f3,f2=f3+1:=⟨f2-1,by omega⟩;have mr:=hw.out;rw[sD,dif_pos kr,if_neg Fb]at mr;simp[go_sem,u1,u4,kr,Fe,w2];refine sY (src.size-(j+1)) _ (by omega) ⟨_,j+1,f3,rfl,rfl,by omega,by omega,by omega,?_⟩;simp[go_sem,u0,u1,u2];exact Lib.hid mr
     ·have aU:=zze (s:=src) (f:=f2) (j:=j) (.inl kr);have yp:J2=j:=by rw[hw.out,aU]
      simp[go_sem,u1,u4,kr];rw[yp]at aF;have Ay:i<j:=by omega
      refine hL (src.size-j) _ (by omega) ⟨_,_,_,j,s',O',f,rfl,rfl,by omega,by omega,?_⟩;simp[go_sem,u0,u1,u2,u4];exact⟨np _ _ hX (Nat.le_succ _),nj _ _ hX (Nat.le_succ _),Lib.hid aF⟩
   rw[if_neg c2]at aF
   by_cases c3:cl src i=3
   ·rw[c3]at aX;have dR:eK src i=(⟨1,src.extract i (fY nZ src src.size i),0,(i:Int),if 24<fY nZ src src.size i-i then 2 else 0⟩,fY nZ src src.size i):=by
     unfold eK;rw[if_pos c3]
    have hle:=Iv nZ rfl src src.size i (by omega);have rP:=Qk (p:=nZ) rfl ay (by rw[c3];rfl);generalize oQ:fY nZ src src.size i=J2 at dR hle rP;rw[dR]at aF;simp[go_sem,t1,t2,t4,ay,aI];refine aB.use aX ?_;simp[go_sem,aA,t2,t4];refine aB.use aX ?_;simp[go_sem,aA];generalize dO:Tr.put (Tr.put h' ax _) ax _=g2;have hX:az ax h' g2:=by rw[← dO];exact pJ _ _
    have yi:g2.get ax=some (bx 210 [.int .i64 0,.bs .empty,.int .i64 0,.int .i64 (i:Int),.int .i64 0] false 0):=by rw[← dO];simp[go_sem]
    clear dO;refine bF (fun mm st=>∃tm j f2,st=.mk tm g2 (ax+1) []∧mm=src.size-j∧i≤j∧j≤src.size∧src.size-j≤f2∧tm.get 0=some (.yld y)∧tm.get 1=some (.ip [.bs src])∧tm.get 2=some (.ip [.func 221 [] [.ip [.bs src],.ip (iS mB)]])∧tm.get 4=some (.int .i64 (j:Int))∧tm.get 5=some (.int .i64 (i:Int))∧tm.get 6=some (.ptr ax 0)∧tm.get 7=some (.int .u8 (cl src j))∧RowKit.Hid (J2=fY nZ src f2 j)) ⟨src.size-i,_,i,src.size,rfl,rfl,by omega,by omega,by omega,?_⟩ ?_
    ·simp[go_sem,t0,t1,t2,t4,c3];exact Lib.hid oQ.symm
    ·rintro mm st ⟨tm,j,f2,rfl,rfl,nD,oh,tj,u0,u1,u2,u4,u5,u6,u7,hw⟩ L2 sY
     refine bl ?_;have w2:IntKind.i64.wrap ((j:Int)+1)=(j:Int)+1:=by rw[aS] <;> omega
     have rN:aM 221 [.int .i64 ((j:Int)+1),.ip [.bs src],.ip (iS mB)] (.int .u8 (cl src (j+1))):=by simpa using S5 src (j+1)
     by_cases ov:nZ (cl src j)=true
     ·have kr:j<src.size:=by
       rcases Nat.lt_or_ge j src.size with q |q
       ·exact q
       ·rw[Mm q]at ov;cases ov
      obtain⟨f3,rfl⟩:∃f3,f2=f3+1:=⟨f2-1,by omega⟩;have mr:=hw.out;rw[fY,if_pos ov]at mr;have MU:cl src j=3∨cl src j=4∨cl src j=5:=by
       unfold nZ at ov;simpa using ov
      rcases MU with w3 |w4 |w5
      ·simp[go_sem,u2,u4,u7,w3,w2];refine aB.use rN ?_;simp[go_sem,aA];refine sY (src.size-(j+1)) _ (by omega) ⟨_,j+1,f3,rfl,rfl,by omega,by omega,by omega,?_⟩;simp[go_sem,u0,u1,u2,u5,u6];exact Lib.hid mr
      ·simp[go_sem,u2,u4,u7,w4,w2];refine aB.use rN ?_;simp[go_sem,aA];refine sY (src.size-(j+1)) _ (by omega) ⟨_,j+1,f3,rfl,rfl,by omega,by omega,by omega,?_⟩;simp[go_sem,u0,u1,u2,u5,u6];exact Lib.hid mr
      ·simp[go_sem,u2,u4,u7,w5,w2];refine aB.use rN ?_;simp[go_sem,aA];refine sY (src.size-(j+1)) _ (by omega) ⟨_,j+1,f3,rfl,rfl,by omega,by omega,by omega,?_⟩;simp[go_sem,u0,u1,u2,u5,u6];exact Lib.hid mr
     ·have yp:J2=j:=by
       have mr:=hw.out;cases f2 with
       |zero=>rw[mr];rfl
       |succ f2=>rw[mr,fY,if_neg ov]
      have n3:¬cl src j=3:=fun q=>ov (by rw[q];rfl);have n4:¬cl src j=4:=fun q=>ov (by rw[q];rfl);have n5:¬cl src j=5:=fun q=>ov (by rw[q];rfl);have w3:IntKind.i64.wrap ((j:Int)-(i:Int))=(j:Int)-(i:Int):=by rw[aS] <;> omega
      by_cases dY:24<j-i
      ·have NG:(24:Int)<(j:Int)-(i:Int):=(by omega);simp[go_sem,u0,u1,u4,u5,u6,u7,n3,n4,n5,w3,NG,yi,aI,nD,oh,jn];generalize bz:Tr.put _ ax (some (bx 210 [.int .i64 1,.bs (src.extract i j),.int .i64 0,.int .i64 (i:Int),.int .i64 2] false 0))=g3;have dW:az ax h' g3:=by
        rw[← bz];simp(disch:=omega)only[aK,hX]
       have iI:g3.get ax=some (bx 210 [.int .i64 1,.bs (src.extract i j),.int .i64 0,.int .i64 (i:Int),.int .i64 2] false 0):=by rw[← bz];simp[go_sem]
       clear bz;rw[yp]at aF;simp only[if_pos dY]at aF;refine(V.yld s' O' ⟨1,src.extract i j,0,(i:Int),2⟩ g3 (ax+1) trivial (nj _ _ dW (Nat.le_succ _))).mono ?_
       rintro v g ny ⟨rfl,O2,K2,hq⟩
       have eA:g.get ax=some (bx 210 [.int .i64 1,.bs (src.extract i j),.int .i64 0,.int .i64 (i:Int),.int .i64 2] false 0):=by
        rw[K2.2.1 ax (by omega) (fun q=>by have:=V.lt s' O' h' ax lZ ax q;omega)];exact iI
       have KK:=(np _ _ dW (Nat.le_succ _)).trans K2;cases aU:(step s' ⟨1,src.extract i j,0,(i:Int),2⟩).2 with
       |false=>
        rw[aU]at hq aF;simp[go_sem,aA,u6];rw[hR];simp only[if_true]at aF;rw[aF];exact⟨O2,KK,by simpa using hq⟩
       |true=>
        rw[aU]at hq aF;simp[go_sem,aA,u6,eA];rw[hR];simp at aF;rw[aF];exact⟨O2,KK,by simpa using hq⟩
      ·have NG:¬(24:Int)<(j:Int)-(i:Int):=(by omega);simp[go_sem,u0,u1,u4,u5,u6,u7,n3,n4,n5,w3,NG,yi,aI,nD,oh,jn];generalize bz:Tr.put _ ax (some (bx 210 [.int .i64 1,.bs (src.extract i j),.int .i64 0,.int .i64 (i:Int),.int .i64 0] false 0))=g3;have dW:az ax h' g3:=by
        rw[← bz];simp(disch:=omega)only[aK,hX]
       have iI:g3.get ax=some (bx 210 [.int .i64 1,.bs (src.extract i j),.int .i64 0,.int .i64 (i:Int),.int .i64 0] false 0):=by rw[← bz];simp[go_sem]
       clear bz;rw[yp]at aF;simp only[if_neg dY]at aF;refine(V.yld s' O' ⟨1,src.extract i j,0,(i:Int),0⟩ g3 (ax+1) trivial (nj _ _ dW (Nat.le_succ _))).mono ?_
       rintro v g ny ⟨rfl,O2,K2,hq⟩
       have eA:g.get ax=some (bx 210 [.int .i64 1,.bs (src.extract i j),.int .i64 0,.int .i64 (i:Int),.int .i64 0] false 0):=by
        rw[K2.2.1 ax (by omega) (fun q=>by have:=V.lt s' O' h' ax lZ ax q;omega)];exact iI
       have KK:=(np _ _ dW (Nat.le_succ _)).trans K2;cases aU:(step s' ⟨1,src.extract i j,0,(i:Int),0⟩).2 with
       |false=>
        rw[aU]at hq aF;simp[go_sem,aA,u6];rw[hR];simp only[if_true]at aF;rw[aF];exact⟨O2,KK,by simpa using hq⟩
       |true=>
        rw[aU]at hq aF;simp[go_sem,aA,u6,eA];have Ay:i<j:=by omega
        refine hL (src.size-j) _ (by omega) ⟨_,_,_,j,(step s' ⟨1,src.extract i j,0,(i:Int),0⟩).1,O2,f,rfl,rfl,by omega,by omega,?_⟩;simp[go_sem,u0,u1,u2,u4];exact⟨KK,by simpa using hq,Lib.hid (by simpa using aF)⟩
   by_cases c4:cl src i=4
   ·rw[c4]at aX;have hle:=Iv oE rfl src src.size i (by omega);have rP:=Qk (p:=oE) rfl ay (by rw[c4];rfl);have aQ:=Qs oE src src.size i;have dR:eK src i=if 7<fY oE src src.size i-i∨cl src (fY oE src src.size i)=3∨cl src (fY oE src src.size i)=5 then (⟨2,src.extract i (fY oE src src.size i),0,(i:Int),4⟩,fY oE src src.size i) else (⟨2,src.extract i (fY oE src src.size i),vO (src.extract i (fY oE src src.size i)).data.toList 0,(i:Int),0⟩,fY oE src src.size i):=by
     unfold eK;rw[if_neg c3,if_pos c4]
    generalize oQ:fY oE src src.size i=J2 at dR hle rP aQ;rw[dR]at aF;simp[go_sem,t1,t2,t4,ay,aI];refine aB.use aX ?_;simp[go_sem,aA];generalize dO:Tr.put (Tr.put h' ax _) ax _=g2;have hX:az ax h' g2:=by rw[← dO];exact pJ _ _
    have yi:g2.get ax=some (bx 210 [.int .i64 0,.bs .empty,.int .i64 0,.int .i64 (i:Int),.int .i64 0] false 0):=by rw[← dO];simp[go_sem]
    clear dO;refine bF (fun mm st=>∃tm j f2,st=.mk tm g2 (ax+1) []∧mm=src.size-j∧i≤j∧j≤src.size∧src.size-j≤f2∧tm.get 0=some (.yld y)∧tm.get 1=some (.ip [.bs src])∧tm.get 2=some (.ip [.func 221 [] [.ip [.bs src],.ip (iS mB)]])∧tm.get 4=some (.int .i64 (j:Int))∧tm.get 5=some (.int .i64 (i:Int))∧tm.get 6=some (.ptr ax 0)∧RowKit.Hid (J2=fY oE src f2 j)) ⟨src.size-i,_,i,src.size,rfl,rfl,by omega,by omega,by omega,?_⟩ ?_
    ·simp[go_sem,t0,t1,t2,t4];exact Lib.hid oQ.symm
    ·rintro mm st ⟨tm,j,f2,rfl,rfl,nD,oh,tj,u0,u1,u2,u4,u5,u6,hw⟩ L2 sY
     refine bl ?_;have w2:IntKind.i64.wrap ((j:Int)+1)=(j:Int)+1:=by rw[aS] <;> omega
     have rN:=S5 src j
     by_cases ov:cl src j=4
     ·have kr:j<src.size:=by
       rcases Nat.lt_or_ge j src.size with q |q
       ·exact q
       ·rw[Mm q]at ov;cases ov
      obtain⟨f3,rfl⟩:∃f3,f2=f3+1:=⟨f2-1,by omega⟩;have mr:=hw.out;rw[fY,if_pos (by rw[ov];rfl)]at mr;rw[ov]at rN;simp[go_sem,u2,u4];refine aB.use rN ?_;simp[go_sem,aA,u4,w2];refine sY (src.size-(j+1)) _ (by omega) ⟨_,j+1,f3,rfl,rfl,by omega,by omega,by omega,?_⟩;simp[go_sem,u0,u1,u2,u5,u6];exact Lib.hid mr
     ·have yp:J2=j:=by
       have mr:=hw.out;cases f2 with
       |zero=>rw[mr];rfl
       |succ f2=>rw[mr,fY,if_neg (by unfold oE;simpa using ov)]
      have w3:IntKind.i64.wrap ((j:Int)-(i:Int))=(j:Int)-(i:Int):=by rw[aS] <;> omega
      simp[go_sem,u2,u4];refine aB.use rN ?_;simp[go_sem,aA,u2,u4,u6,ov,yi,aI];refine aB.use rN ?_;rw[yp]at aF
      by_cases b7:7<j-i
      ·have EL:(7:Int)<(j:Int)-(i:Int):=(by omega);rw[if_pos (show 7<j-i∨cl src j=3∨cl src j=5 from .inl b7)]at aF;simp only at aF;simp[go_sem,aA,u0,u1,u4,u5,u6,w3,aI,nD,oh,jn,EL];generalize bz:Tr.put _ ax (some (bx 210 [.int .i64 2,.bs (src.extract i j),.int .i64 0,.int .i64 (i:Int),.int .i64 4] false 0))=g3;have dW:az ax h' g3:=by
        rw[← bz];simp(disch:=omega)only[aK,hX]
       have iI:g3.get ax=some (bx 210 [.int .i64 2,.bs (src.extract i j),.int .i64 0,.int .i64 (i:Int),.int .i64 4] false 0):=by rw[← bz];simp[go_sem]
       clear bz;refine(V.yld s' O' ⟨2,src.extract i j,0,(i:Int),4⟩ g3 (ax+1) trivial (nj _ _ dW (Nat.le_succ _))).mono ?_
       rintro v g ny ⟨rfl,O2,K2,hq⟩
       have eA:g.get ax=some (bx 210 [.int .i64 2,.bs (src.extract i j),.int .i64 0,.int .i64 (i:Int),.int .i64 4] false 0):=by
        rw[K2.2.1 ax (by omega) (fun q=>by have:=V.lt s' O' h' ax lZ ax q;omega)];exact iI
       have KK:=(np _ _ dW (Nat.le_succ _)).trans K2;cases aU:(step s' ⟨2,src.extract i j,0,(i:Int),4⟩).2 with
       |false=>
        rw[aU]at hq aF;simp[go_sem,aA,u6];rw[hR];simp only[if_true]at aF;rw[aF];exact⟨O2,KK,by simpa using hq⟩
       |true=>
        rw[aU]at hq aF;simp[go_sem,aA,u6,eA];rw[hR];simp at aF;rw[aF];exact⟨O2,KK,by simpa using hq⟩
      have EL:¬(7:Int)<(j:Int)-(i:Int):=by omega
      by_cases b3:cl src j=3
      ·rw[if_pos (show 7<j-i∨cl src j=3∨cl src j=5 from .inr (.inl b3))]at aF;simp only at aF;simp[go_sem,aA,u0,u1,u4,u5,u6,w3,aI,nD,oh,jn,EL,b3];generalize bz:Tr.put _ ax (some (bx 210 [.int .i64 2,.bs (src.extract i j),.int .i64 0,.int .i64 (i:Int),.int .i64 4] false 0))=g3;have dW:az ax h' g3:=by
        rw[← bz];simp(disch:=omega)only[aK,hX]
       have iI:g3.get ax=some (bx 210 [.int .i64 2,.bs (src.extract i j),.int .i64 0,.int .i64 (i:Int),.int .i64 4] false 0):=by rw[← bz];simp[go_sem]
       clear bz;refine(V.yld s' O' ⟨2,src.extract i j,0,(i:Int),4⟩ g3 (ax+1) trivial (nj _ _ dW (Nat.le_succ _))).mono ?_
       rintro v g ny ⟨rfl,O2,K2,hq⟩
       have eA:g.get ax=some (bx 210 [.int .i64 2,.bs (src.extract i j),.int .i64 0,.int .i64 (i:Int),.int .i64 4] false 0):=by
        rw[K2.2.1 ax (by omega) (fun q=>by have:=V.lt s' O' h' ax lZ ax q;omega)];exact iI
       have KK:=(np _ _ dW (Nat.le_succ _)).trans K2;cases aU:(step s' ⟨2,src.extract i j,0,(i:Int),4⟩).2 with
       |false=>
        rw[aU]at hq aF;simp[go_sem,aA,u6];rw[hR];simp only[if_true]at aF;rw[aF];exact⟨O2,KK,by simpa using hq⟩
       |true=>
        rw[aU]at hq aF;simp[go_sem,aA,u6,eA];rw[hR];simp at aF;rw[aF];exact⟨O2,KK,by simpa using hq⟩
      by_cases b5:cl src j=5
      ·rw[if_pos (show 7<j-i∨cl src j=3∨cl src j=5 from .inr (.inr b5))]at aF;simp only at aF;simp[go_sem,aA,u0,u1,u4,u5,u6,w3,aI,nD,oh,jn,EL,b5];generalize bz:Tr.put _ ax (some (bx 210 [.int .i64 2,.bs (src.extract i j),.int .i64 0,.int .i64 (i:Int),.int .i64 4] false 0))=g3;have dW:az ax h' g3:=by
        rw[← bz];simp(disch:=omega)only[aK,hX]
       have iI:g3.get ax=some (bx 210 [.int .i64 2,.bs (src.extract i j),.int .i64 0,.int .i64 (i:Int),.int .i64 4] false 0):=by rw[← bz];simp[go_sem]
       clear bz;refine(V.yld s' O' ⟨2,src.extract i j,0,(i:Int),4⟩ g3 (ax+1) trivial (nj _ _ dW (Nat.le_succ _))).mono ?_
       rintro v g ny ⟨rfl,O2,K2,hq⟩
       have eA:g.get ax=some (bx 210 [.int .i64 2,.bs (src.extract i j),.int .i64 0,.int .i64 (i:Int),.int .i64 4] false 0):=by
        rw[K2.2.1 ax (by omega) (fun q=>by have:=V.lt s' O' h' ax lZ ax q;omega)];exact iI
       have KK:=(np _ _ dW (Nat.le_succ _)).trans K2;cases aU:(step s' ⟨2,src.extract i j,0,(i:Int),4⟩).2 with
       |false=>
        rw[aU]at hq aF;simp[go_sem,aA,u6];rw[hR];simp only[if_true]at aF;rw[aF];exact⟨O2,KK,by simpa using hq⟩
       |true=>
        rw[aU]at hq aF;simp[go_sem,aA,u6,eA];rw[hR];simp at aF;rw[aF];exact⟨O2,KK,by simpa using hq⟩
      rw[if_neg (show ¬(7<j-i∨cl src j=3∨cl src j=5) from by omega)]at aF;simp only at aF;simp[go_sem,aA,u1,u4,u5,w3,nD,oh,jn,EL,b3,b5];have qag:i<j:=by omega
      have ig:=zQx (src.extract i j) (by rw[extract_size nD oh];omega) (by rw[extract_size nD oh];omega) (zKh oh fun k k1 k2=>by
       have:=aQ k k1 (by omega);unfold oE at this;simpa using this)
      generalize qal:vO (src.extract i j).data.toList 0=num at ig aF;refine aB.use ig ?_;simp[go_sem,aA,u0,u1,u4,u5,u6,aI,nD,oh,jn];generalize bz:Tr.put _ ax (some (bx 210 [.int .i64 2,.bs (src.extract i j),.int .i64 num,.int .i64 (i:Int),.int .i64 0] false 0))=g3;have dW:az ax h' g3:=by
       rw[← bz];simp(disch:=omega)only[aK,hX]
      have iI:g3.get ax=some (bx 210 [.int .i64 2,.bs (src.extract i j),.int .i64 num,.int .i64 (i:Int),.int .i64 0] false 0):=by rw[← bz];simp[go_sem]
      clear bz;refine(V.yld s' O' ⟨2,src.extract i j,num,(i:Int),0⟩ g3 (ax+1) trivial (nj _ _ dW (Nat.le_succ _))).mono ?_
      rintro v g ny ⟨rfl,O2,K2,hq⟩
      have eA:g.get ax=some (bx 210 [.int .i64 2,.bs (src.extract i j),.int .i64 num,.int .i64 (i:Int),.int .i64 0] false 0):=by
       rw[K2.2.1 ax (by omega) (fun q=>by have:=V.lt s' O' h' ax lZ ax q;omega)];exact iI
      have KK:=(np _ _ dW (Nat.le_succ _)).trans K2;cases aU:(step s' ⟨2,src.extract i j,num,(i:Int),0⟩).2 with
      |false=>
       rw[aU]at hq aF;simp[go_sem,aA,u6];rw[hR];simp only[if_true]at aF;rw[aF];exact⟨O2,KK,by simpa using hq⟩
      |true=>
       rw[aU]at hq aF;simp[go_sem,aA,u6,eA];have Ay:i<j:=by omega
       refine hL (src.size-j) _ (by omega) ⟨_,_,_,j,(step s' ⟨2,src.extract i j,num,(i:Int),0⟩).1,O2,f,rfl,rfl,by omega,by omega,?_⟩;simp[go_sem,u0,u1,u2,u4];exact⟨KK,by simpa using hq,Lib.hid (by simpa using aF)⟩
   obtain⟨j,C6⟩:∃j,j=i+1:=⟨_,rfl⟩;obtain⟨j2,Ol⟩:∃j,j=i+2:=⟨_,rfl⟩;have qh:IntKind.i64.wrap ((i:Int)+1)=((j:Nat):Int):=by rw[aS] <;> omega
   have w2:IntKind.i64.wrap ((j:Int)+1)=((j2:Nat):Int):=by rw[aS] <;> omega
   have mh:i≤j:=(by omega);have fm:j≤src.size:=by omega
   by_cases c6:cl src i=6
   ·rw[c6]at aX;have dR:eK src i=(⟨3,src.extract i j,0,(i:Int),0⟩,j):=by
     unfold eK;rw[if_neg c3,if_neg c4,if_pos (.inl c6),if_neg (fun q=>q.1 c6),c6,C6];rfl
    rw[dR]at aF;simp only at aF;simp[go_sem,t1,t2,t4,ay,aI];refine aB.use aX ?_;simp[go_sem,aA,t2,t4,aI,qh];refine aB.use aX ?_;simp[go_sem,aA,t0,t1,aI,jn,mh,fm];generalize bz:Tr.put _ ax (some (bx 210 [.int .i64 3,.bs (src.extract i (j)),.int .i64 0,.int .i64 (i:Int),.int .i64 0] false 0))=g3;have dW:az ax h' g3:=by
     rw[← bz];simp(disch:=omega)only[aK,az.refl]
    have iI:g3.get ax=some (bx 210 [.int .i64 3,.bs (src.extract i (j)),.int .i64 0,.int .i64 (i:Int),.int .i64 0] false 0):=by rw[← bz];simp[go_sem]
    clear bz;refine(V.yld s' O' ⟨3,src.extract i (j),0,(i:Int),0⟩ g3 (ax+1) trivial (nj _ _ dW (Nat.le_succ _))).mono ?_
    rintro v g ny ⟨rfl,O2,K2,hq⟩
    have eA:g.get ax=some (bx 210 [.int .i64 3,.bs (src.extract i (j)),.int .i64 0,.int .i64 (i:Int),.int .i64 0] false 0):=by
     rw[K2.2.1 ax (by omega) (fun q=>by have:=V.lt s' O' h' ax lZ ax q;omega)];exact iI
    have KK:=(np _ _ dW (Nat.le_succ _)).trans K2;cases aU:(step s' ⟨3,src.extract i (j),0,(i:Int),0⟩).2 with
    |false=>
     rw[aU]at hq aF;simp[go_sem,aA];rw[hR];simp only[if_true]at aF;rw[aF];exact⟨O2,KK,by simpa using hq⟩
    |true=>
     rw[aU]at hq aF;simp[go_sem,aA,eA];refine hL (src.size-(j)) _ (by omega) ⟨_,_,_,j,(step s' ⟨3,src.extract i (j),0,(i:Int),0⟩).1,O2,f,rfl,rfl,by omega,by omega,?_⟩;simp[go_sem,t0,t1,t2];exact⟨KK,by simpa using hq,Lib.hid (by simpa using aF)⟩
   by_cases EO:cl src i=7∨cl src i=8
   ·by_cases Ff:∃q:i+1<src.size,(src[i+1]).toNat=61
    ·obtain⟨q0,e0⟩:=Ff;have q:j<src.size:=by omega
     have IL:(src[j]).toNat=61:=by subst C6;exact e0
     have tv:i≤j2:=(by omega);have Jd:j2≤src.size:=(by omega);have wh:((src[j]).toNat:Int)=61:=(by omega);have dR:eK src i=(⟨3,src.extract i j2,0,(i:Int),0⟩,j2):=by
      unfold eK;rw[if_neg c3,if_neg c4,if_pos (.inr EO),if_pos ⟨c6,q0,e0⟩,Ol]
     rw[dR]at aF;simp only at aF
     rcases EO with c7 |c7
     ·rw[c7]at aX;simp[go_sem,t1,t2,t4,ay,aI];refine aB.use aX ?_;simp[go_sem,aA,t2,t4,aI,qh];refine aB.use aX ?_;simp[go_sem,aA,t0,t1,aI,jn,q,IL,w2,tv,Jd];generalize bz:Tr.put _ ax (some (bx 210 [.int .i64 3,.bs (src.extract i (j2)),.int .i64 0,.int .i64 (i:Int),.int .i64 0] false 0))=g3;have dW:az ax h' g3:=by
       rw[← bz];simp(disch:=omega)only[aK,az.refl]
      have iI:g3.get ax=some (bx 210 [.int .i64 3,.bs (src.extract i (j2)),.int .i64 0,.int .i64 (i:Int),.int .i64 0] false 0):=by rw[← bz];simp[go_sem]
      clear bz;refine(V.yld s' O' ⟨3,src.extract i (j2),0,(i:Int),0⟩ g3 (ax+1) trivial (nj _ _ dW (Nat.le_succ _))).mono ?_
      rintro v g ny ⟨rfl,O2,K2,hq⟩
      have eA:g.get ax=some (bx 210 [.int .i64 3,.bs (src.extract i (j2)),.int .i64 0,.int .i64 (i:Int),.int .i64 0] false 0):=by
       rw[K2.2.1 ax (by omega) (fun q=>by have:=V.lt s' O' h' ax lZ ax q;omega)];exact iI
      have KK:=(np _ _ dW (Nat.le_succ _)).trans K2;cases aU:(step s' ⟨3,src.extract i (j2),0,(i:Int),0⟩).2 with
      |false=>
       rw[aU]at hq aF;simp[go_sem,aA];rw[hR];simp only[if_true]at aF;rw[aF];exact⟨O2,KK,by simpa using hq⟩
      |true=>
       rw[aU]at hq aF;simp[go_sem,aA,eA];refine hL (src.size-(j2)) _ (by omega) ⟨_,_,_,j2,(step s' ⟨3,src.extract i (j2),0,(i:Int),0⟩).1,O2,f,rfl,rfl,by omega,by omega,?_⟩;simp[go_sem,t0,t1,t2];exact⟨KK,by simpa using hq,Lib.hid (by simpa using aF)⟩
     ·rw[c7]at aX;simp[go_sem,t1,t2,t4,ay,aI];refine aB.use aX ?_;simp[go_sem,aA,t2,t4,aI,qh];refine aB.use aX ?_;simp[go_sem,aA,t0,t1,aI,jn,q,IL,w2,tv,Jd];generalize bz:Tr.put _ ax (some (bx 210 [.int .i64 3,.bs (src.extract i (j2)),.int .i64 0,.int .i64 (i:Int),.int .i64 0] false 0))=g3;have dW:az ax h' g3:=by
       rw[← bz];simp(disch:=omega)only[aK,az.refl]
      have iI:g3.get ax=some (bx 210 [.int .i64 3,.bs (src.extract i (j2)),.int .i64 0,.int .i64 (i:Int),.int .i64 0] false 0):=by rw[← bz];simp[go_sem]
      clear bz;refine(V.yld s' O' ⟨3,src.extract i (j2),0,(i:Int),0⟩ g3 (ax+1) trivial (nj _ _ dW (Nat.le_succ _))).mono ?_
      rintro v g ny ⟨rfl,O2,K2,hq⟩
      have eA:g.get ax=some (bx 210 [.int .i64 3,.bs (src.extract i (j2)),.int .i64 0,.int .i64 (i:Int),.int .i64 0] false 0):=by
       rw[K2.2.1 ax (by omega) (fun q=>by have:=V.lt s' O' h' ax lZ ax q;omega)];exact iI
      have KK:=(np _ _ dW (Nat.le_succ _)).trans K2;cases aU:(step s' ⟨3,src.extract i (j2),0,(i:Int),0⟩).2 with
      |false=>
       rw[aU]at hq aF;simp[go_sem,aA];rw[hR];simp only[if_true]at aF;rw[aF];exact⟨O2,KK,by simpa using hq⟩
      |true=>
       rw[aU]at hq aF;simp[go_sem,aA,eA];refine hL (src.size-(j2)) _ (by omega) ⟨_,_,_,j2,(step s' ⟨3,src.extract i (j2),0,(i:Int),0⟩).1,O2,f,rfl,rfl,by omega,by omega,?_⟩;simp[go_sem,t0,t1,t2];exact⟨KK,by simpa using hq,Lib.hid (by simpa using aF)⟩
    ·rcases EO with c7 |c7
     ·rw[c7]at aX;have dR:eK src i=(⟨3,src.extract i j,0,(i:Int),0⟩,j):=by
       unfold eK;rw[if_neg c3,if_neg c4,if_pos (.inr (.inl c7)),if_neg (fun q=>Ff q.2),c7,C6];rfl
      rw[dR]at aF;simp only at aF
      by_cases q:j<src.size
      ·have IL:¬(src[j]).toNat=61:=fun e=>Ff (by subst C6;exact⟨q,e⟩);have wh:¬((src[j]).toNat:Int)=61:=(by omega);simp[go_sem,t1,t2,t4,ay,aI];refine aB.use aX ?_;simp[go_sem,aA,t2,t4,aI,qh];refine aB.use aX ?_;simp[go_sem,aA,t0,t1,aI,jn,q,wh,mh,fm];generalize bz:Tr.put _ ax (some (bx 210 [.int .i64 3,.bs (src.extract i (j)),.int .i64 0,.int .i64 (i:Int),.int .i64 0] false 0))=g3;have dW:az ax h' g3:=by
        rw[← bz];simp(disch:=omega)only[aK,az.refl]
       have iI:g3.get ax=some (bx 210 [.int .i64 3,.bs (src.extract i (j)),.int .i64 0,.int .i64 (i:Int),.int .i64 0] false 0):=by rw[← bz];simp[go_sem]
       clear bz;refine(V.yld s' O' ⟨3,src.extract i (j),0,(i:Int),0⟩ g3 (ax+1) trivial (nj _ _ dW (Nat.le_succ _))).mono ?_
       rintro v g ny ⟨rfl,O2,K2,hq⟩
       have eA:g.get ax=some (bx 210 [.int .i64 3,.bs (src.extract i (j)),.int .i64 0,.int .i64 (i:Int),.int .i64 0] false 0):=by
        rw[K2.2.1 ax (by omega) (fun q=>by have:=V.lt s' O' h' ax lZ ax q;omega)];exact iI
       have KK:=(np _ _ dW (Nat.le_succ _)).trans K2;cases aU:(step s' ⟨3,src.extract i (j),0,(i:Int),0⟩).2 with
       |false=>
        rw[aU]at hq aF;simp[go_sem,aA];rw[hR];simp only[if_true]at aF;rw[aF];exact⟨O2,KK,by simpa using hq⟩
       |true=>
        rw[aU]at hq aF;simp[go_sem,aA,eA];refine hL (src.size-(j)) _ (by omega) ⟨_,_,_,j,(step s' ⟨3,src.extract i (j),0,(i:Int),0⟩).1,O2,f,rfl,rfl,by omega,by omega,?_⟩;simp[go_sem,t0,t1,t2];exact⟨KK,by simpa using hq,Lib.hid (by simpa using aF)⟩
      ·skip
       simp[go_sem,t1,t2,t4,ay,aI];refine aB.use aX ?_;simp[go_sem,aA,t2,t4,aI,qh];refine aB.use aX ?_;simp[go_sem,aA,t0,t1,aI,jn,q,mh,fm];generalize bz:Tr.put _ ax (some (bx 210 [.int .i64 3,.bs (src.extract i (j)),.int .i64 0,.int .i64 (i:Int),.int .i64 0] false 0))=g3;have dW:az ax h' g3:=by
        rw[← bz];simp(disch:=omega)only[aK,az.refl]
       have iI:g3.get ax=some (bx 210 [.int .i64 3,.bs (src.extract i (j)),.int .i64 0,.int .i64 (i:Int),.int .i64 0] false 0):=by rw[← bz];simp[go_sem]
       clear bz;refine(V.yld s' O' ⟨3,src.extract i (j),0,(i:Int),0⟩ g3 (ax+1) trivial (nj _ _ dW (Nat.le_succ _))).mono ?_
       rintro v g ny ⟨rfl,O2,K2,hq⟩
       have eA:g.get ax=some (bx 210 [.int .i64 3,.bs (src.extract i (j)),.int .i64 0,.int .i64 (i:Int),.int .i64 0] false 0):=by
        rw[K2.2.1 ax (by omega) (fun q=>by have:=V.lt s' O' h' ax lZ ax q;omega)];exact iI
       have KK:=(np _ _ dW (Nat.le_succ _)).trans K2;cases aU:(step s' ⟨3,src.extract i (j),0,(i:Int),0⟩).2 with
       |false=>
        rw[aU]at hq aF;simp[go_sem,aA];rw[hR];simp only[if_true]at aF;rw[aF];exact⟨O2,KK,by simpa using hq⟩
       |true=>
        rw[aU]at hq aF;simp[go_sem,aA,eA];refine hL (src.size-(j)) _ (by omega) ⟨_,_,_,j,(step s' ⟨3,src.extract i (j),0,(i:Int),0⟩).1,O2,f,rfl,rfl,by omega,by omega,?_⟩;simp[go_sem,t0,t1,t2];exact⟨KK,by simpa using hq,Lib.hid (by simpa using aF)⟩
     ·rw[c7]at aX;have dR:eK src i=(⟨3,src.extract i j,0,(i:Int),3⟩,j):=by
       unfold eK;rw[if_neg c3,if_neg c4,if_pos (.inr (.inr c7)),if_neg (fun q=>Ff q.2),c7,C6];rfl
      rw[dR]at aF;simp only at aF
      by_cases q:j<src.size
      ·have IL:¬(src[j]).toNat=61:=fun e=>Ff (by subst C6;exact⟨q,e⟩);have wh:¬((src[j]).toNat:Int)=61:=(by omega);simp[go_sem,t1,t2,t4,ay,aI];refine aB.use aX ?_;simp[go_sem,aA,t2,t4,aI,qh];refine aB.use aX ?_;simp[go_sem,aA,t0,t1,aI,jn,q,wh,mh,fm];generalize bz:Tr.put _ ax (some (bx 210 [.int .i64 3,.bs (src.extract i (j)),.int .i64 0,.int .i64 (i:Int),.int .i64 3] false 0))=g3;have dW:az ax h' g3:=by
        rw[← bz];simp(disch:=omega)only[aK,az.refl]
       have iI:g3.get ax=some (bx 210 [.int .i64 3,.bs (src.extract i (j)),.int .i64 0,.int .i64 (i:Int),.int .i64 3] false 0):=by rw[← bz];simp[go_sem]
       clear bz;refine(V.yld s' O' ⟨3,src.extract i (j),0,(i:Int),3⟩ g3 (ax+1) trivial (nj _ _ dW (Nat.le_succ _))).mono ?_
       rintro v g ny ⟨rfl,O2,K2,hq⟩
       have eA:g.get ax=some (bx 210 [.int .i64 3,.bs (src.extract i (j)),.int .i64 0,.int .i64 (i:Int),.int .i64 3] false 0):=by
        rw[K2.2.1 ax (by omega) (fun q=>by have:=V.lt s' O' h' ax lZ ax q;omega)];exact iI
       have KK:=(np _ _ dW (Nat.le_succ _)).trans K2;cases aU:(step s' ⟨3,src.extract i (j),0,(i:Int),3⟩).2 with
       |false=>
        rw[aU]at hq aF;simp[go_sem,aA];rw[hR];simp only[if_true]at aF;rw[aF];exact⟨O2,KK,by simpa using hq⟩
       |true=>
        rw[aU]at hq aF;simp[go_sem,aA,eA];rw[hR];simp at aF;rw[aF];exact⟨O2,KK,by simpa using hq⟩
      ·skip
       simp[go_sem,t1,t2,t4,ay,aI];refine aB.use aX ?_;simp[go_sem,aA,t2,t4,aI,qh];refine aB.use aX ?_;simp[go_sem,aA,t0,t1,aI,jn,q,mh,fm];generalize bz:Tr.put _ ax (some (bx 210 [.int .i64 3,.bs (src.extract i (j)),.int .i64 0,.int .i64 (i:Int),.int .i64 3] false 0))=g3;have dW:az ax h' g3:=by
        rw[← bz];simp(disch:=omega)only[aK,az.refl]
       have iI:g3.get ax=some (bx 210 [.int .i64 3,.bs (src.extract i (j)),.int .i64 0,.int .i64 (i:Int),.int .i64 3] false 0):=by rw[← bz];simp[go_sem]
       clear bz;refine(V.yld s' O' ⟨3,src.extract i (j),0,(i:Int),3⟩ g3 (ax+1) trivial (nj _ _ dW (Nat.le_succ _))).mono ?_
       rintro v g ny ⟨rfl,O2,K2,hq⟩
       have eA:g.get ax=some (bx 210 [.int .i64 3,.bs (src.extract i (j)),.int .i64 0,.int .i64 (i:Int),.int .i64 3] false 0):=by
        rw[K2.2.1 ax (by omega) (fun q=>by have:=V.lt s' O' h' ax lZ ax q;omega)];exact iI
       have KK:=(np _ _ dW (Nat.le_succ _)).trans K2;cases aU:(step s' ⟨3,src.extract i (j),0,(i:Int),3⟩).2 with
       |false=>
        rw[aU]at hq aF;simp[go_sem,aA];rw[hR];simp only[if_true]at aF;rw[aF];exact⟨O2,KK,by simpa using hq⟩
       |true=>
        rw[aU]at hq aF;simp[go_sem,aA,eA];rw[hR];simp at aF;rw[aF];exact⟨O2,KK,by simpa using hq⟩
   have n6:¬cl src i=6:=c6;have n7:¬cl src i=7:=fun q=>EO (.inl q);have n8:¬cl src i=8:=fun q=>EO (.inr q);have MC:¬(cl src i=6∨cl src i=7∨cl src i=8):=(by omega);have dR:eK src i=(⟨0,.empty,0,(i:Int),3⟩,i):=by
    unfold eK;rw[if_neg c3,if_neg c4,if_neg MC,show src.extract i i=ByteArray.empty from by simp]
   rw[dR]at aF;simp only at aF;have Oe:i≤i:=ae _;simp[go_sem,t1,t2,t4,ay,aI];refine aB.use aX ?_;simp[go_sem,aA,t0,t1,t4,aI,c1,c2,c3,c4,n6,n7,n8,hi,jn];generalize bz:Tr.put _ ax (some (bx 210 [.int .i64 0,.bs (.empty),.int .i64 0,.int .i64 (i:Int),.int .i64 3] false 0))=g3;have dW:az ax h' g3:=by
    rw[← bz];simp(disch:=omega)only[aK,az.refl]
   have iI:g3.get ax=some (bx 210 [.int .i64 0,.bs (.empty),.int .i64 0,.int .i64 (i:Int),.int .i64 3] false 0):=by rw[← bz];simp[go_sem]
   clear bz;refine(V.yld s' O' ⟨0,.empty,0,(i:Int),3⟩ g3 (ax+1) trivial (nj _ _ dW (Nat.le_succ _))).mono ?_
   rintro v g ny ⟨rfl,O2,K2,hq⟩
   have eA:g.get ax=some (bx 210 [.int .i64 0,.bs (.empty),.int .i64 0,.int .i64 (i:Int),.int .i64 3] false 0):=by
    rw[K2.2.1 ax (by omega) (fun q=>by have:=V.lt s' O' h' ax lZ ax q;omega)];exact iI
   have KK:=(np _ _ dW (Nat.le_succ _)).trans K2;cases aU:(step s' ⟨0,.empty,0,(i:Int),3⟩).2 with
   |false=>
    rw[aU]at hq aF;simp[go_sem,aA];rw[hR];simp only[if_true]at aF;rw[aF];exact⟨O2,KK,by simpa using hq⟩
   |true=>
    rw[aU]at hq aF;simp[go_sem,aA,eA];rw[hR];simp at aF;rw[aF];exact⟨O2,KK,by simpa using hq⟩
  ·rw[if_pos (by omega)]at aF;simp[go_sem,t1,t4,ay];rw[hR,aF];exact⟨O',hK,by rw[if_pos rfl];exact lZ⟩
def zRf:cx.ft.get 106=some Tryz.f106:=aO
def Tk.c4 (t:Tk):List AV:=[.int .i64 t.kind,.bs t.text,.int .i64 t.num,.int .i64 t.pos]
def uj (l:List Tk):List AV:=l.map fun t=>.agg t.c4
structure LS where
 ts:List Tk
 e:Int
 at_:Int
def lR (s:LS)(t:Tk):LS×Bool:=if t.code≠0 then (⟨[],t.code,t.pos⟩,false) else if s.ts.length=5000 then (⟨[],2,t.pos⟩,false) else (⟨s.ts++[t],0,0⟩,true)
def sH (src:ByteArray):LS:=if 20000<src.size then ⟨[],2,-1⟩ else (kT lR src (src.size+1) ⟨[],0,0⟩ 0).1
def zGi (l:List Tk):(l.flatMap Tk.c4).length=l.length * 4:=by
 induction l with
 |nil=>rfl
 |cons x l ih=>simp[ih,Tk.c4];omega
def KdT (lo:Nat)(h:Tr ABlk) (nx:Nat)(v:AV)(ts:List Tk):Prop:=(ts=[]∧v=.sl0)∨(ts≠[]∧∃q,lo≤q∧q<nx∧v=.sl q 0 ts.length 0 true∧h.get q=some (bx 130 (ts.flatMap Tk.c4) true 4))
def JL (nx:Nat)(rec:ABlk)(s:LS)(O:Nat→Prop)(h:Tr ABlk) (n:Nat):Prop:=
 (nx+6≤n∧s.e=0∧s.at_=0∧s.ts.length≤5000)∧h.get nx=some (bx 105 [.sl0] false 0)∧h.get (nx+1)=some (bx 44 [.int .i64 s.e] false 0)∧h.get (nx+2)=some (bx 3 [.int .i64 s.at_] false 0)∧h.get (nx+4)=some .dfr∧h.get (nx+5)=some rec∧
 ∃v,h.get (nx+3)=some (bx 105 [v] false 0)∧KdT (nx+6) h n v s.ts∧(∀k,O k↔(nx≤k∧k≤nx+5)∨(∃l cp o,v=.sl k 0 l cp o))
def JL.ext {nx:Nat}{rec:ABlk}{s:LS}{O:Nat→Prop}{h h':Tr ABlk}{n n':Nat}(j:JL nx rec s O h n)(hk:∀k,O k→h'.get k=h.get k)(hn:n≤n'):JL nx rec s O h' n':=by
 obtain⟨j0,j1,j2,j3,j4,j5,v,j6,j7,j8⟩:=j;have hO:∀k,nx≤k∧k≤nx+5→O k:=fun k q=>(j8 k).2 (.inl q);obtain⟨j0,e0,a0⟩:=j0;refine⟨⟨by omega,e0,a0⟩,?_,?_,?_,?_,?_,v,?_,?_,j8⟩
 all_goals first |(rw[hk _ (hO _ (by omega))];assumption) |skip
 rcases j7 with j7 |⟨a,q,b,c,d,e⟩
 ·exact .inl j7
 ·exact .inr ⟨a,q,b,by omega,d,by rw[hk q ((j8 q).2 (.inr ⟨_,_,_,d⟩))];exact e⟩
def JL.lt {nx:Nat}{rec:ABlk}{s:LS}{O:Nat→Prop}{h:Tr ABlk}{n:Nat}(j:JL nx rec s O h n):∀k,O k→k<n:=by
 obtain⟨j0,j1,j2,j3,j4,j5,v,j6,j7,j8⟩:=j;intro k hk
 rcases (j8 k).1 hk with q |⟨l,cp,o,q⟩
 ·omega
 ·rcases j7 with⟨_,e⟩ |⟨_,q2,_,c,d,_⟩
  ·rw[e]at q;cases q
  ·rw[d]at q;cases q;exact c
def zzw:∀l:List Tk,bJ (l.flatMap Tk.c4)=true
 |[]=>rfl
 |x::l=>by
  have h1:=zzw l;simp[Tk.c4,bJ,plain,h1]
def YT:∀l:List Tk,rD 4 (uj l) (l.flatMap Tk.c4)
 |[]=>rfl
 |x::l=>⟨x.c4,l.flatMap Tk.c4,by simp,rfl,by cases x;rfl,.inl rfl,YT l⟩
def zI6 (l:List Tk):(uj l).length=l.length:=by simp[uj]
def fzT {g:Tr ABlk}{nx b:Nat}{s:List Tk}{cp esz:Nat}{op opn:Bool}(hb:nx≤b)(hg:g.get b=some (bx 130 (s.flatMap Tk.c4) opn esz)):Fz g nx (.sl b 0 s.length cp op) (.fz 4 false (uj s)):=
 .slz b 0 _ cp op 130 _ _ opn esz 4 (s.flatMap Tk.c4) (s.flatMap Tk.c4) (uj s) hb hg (by simp) (fun j hj=>by rw[Nat.zero_add,fX]) (cE.same _ (zzw s)) (YT s) (zI6 s)
def TK (nx:Nat)(rec:ABlk)(s:LS)(O:Nat→Prop)(h:Tr ABlk) (n:Nat):Prop:=
 s.ts=[]∧h.get nx=some (bx 105 [.sl0] false 0)∧h.get (nx+1)=some (bx 44 [.int .i64 s.e] false 0)∧h.get (nx+2)=some (bx 3 [.int .i64 s.at_] false 0)∧h.get (nx+4)=some .dfr∧h.get (nx+5)=some rec
def zL2 (src:ByteArray):aM 106 [.bs src] (.tup [.fz 4 false (uj (sH src).ts),.int .i64 (sH src).e,.int .i64 (sH src).at_]):=by
 refine aB.mkW fun h nx R hR=>aP zRf (sz:=35) (rs:=[.cell 2 105,.cell 3 44,.cell 4 3]) ?_;obtain⟨r,hr⟩:∃r,r=sH src:=⟨_,rfl⟩;rw[← hr]at hR;unfold sH at hr;have gP:∀(g:Tr ABlk) (ny:Nat) (e a:Int),az nx h g→r=⟨[],e,a⟩→R (.tup [.sl0,.int .i64 e,.int .i64 a]) g ny:=fun g ny e a hE hr=>by
  rw[hr]at hR;exact hR _ _ _ (.tup [.sl0,.int .i64 e,.int .i64 a]) hE (.tup _ _ (.cons _ _ _ _ .sl0 (.cons _ _ _ _ (.int _ _) (.cons _ _ _ _ (.int _ _) .nil)))) (.tup _ _ (.cons _ _ _ _ (.sl0 4 false) (.cons _ _ _ _ (.same _) (.cons _ _ _ _ (.same _) .nil))))
 have z1:¬nx=nx+1:=by omega
 have z2:¬nx=nx+1+1:=by omega
 have z4:¬nx+1=nx+1+1:=by omega
 have y1:¬nx+1+1=nx:=by omega
 have y2:¬nx+1+1+1=nx:=by omega
 have y3:¬nx+1+1+1=nx+1:=by omega
 by_cases h1:20000<src.size
 ·have yj:(20000:Int)<(src.size:Int):=by omega
  rw[if_pos h1]at hr;simp[go_sem,yj,z2,y1,aI];refine gP _ _ _ _ ?_ hr;simp(disch:=omega)only[aK,az.refl]
 have yj:¬(20000:Int)<(src.size:Int):=by omega
 rw[if_neg h1]at hr;simp[go_sem,yj];refine aB.use (zI2 src) ?_;simp[go_sem,aA];obtain⟨fn,_⟩:∃fn:FuncId,fn=fn:=⟨0,rfl⟩;refine Lf iQ zzc (first:=[]) (cap:=[.ip [.bs src],.ip [HJ src]]) (fn0:=fn) (by simp[go_sem]) ?_;generalize cN:ABlk.loop LoopState.ready none fn 35 _ _ _ _ _=rec;obtain⟨iP,nK⟩:∃iP,iP=(match rec with |.loop _ _ fn sz tm ps x y db=>ABlk.loop .done (some .ret) fn sz tm ps x y db |b=>b):=⟨_,rfl⟩;refine(zOm (S:=LS) (step:=lR) (y:=nx+5) (J:=JL nx rec) (JE:=TK nx iP) ?_ src (by omega) ⟨[],0,0⟩ (fun k=>nx≤k∧k≤nx+5) _ _ ?_).mono ?_
 ·refine⟨fun s O h n h' n' j hk hn=>j.ext hk hn,fun s O h n j=>j.lt,?_⟩;intro s O t h1 n1 _ hj;obtain⟨K,hK⟩:∃K:AV→Tr ABlk→Nat→Prop,K=fun v g ny=>v=.bool (lR s t).2∧∃O',ew O h1 n1 O' g ny∧(if (lR s t).2 then JL nx rec (lR s t).1 O' g ny else TK nx iP (lR s t).1 O' g ny):=⟨_,rfl⟩;rw[← hK];have ay:=hj.lt;obtain⟨⟨j0,je,ja,jl⟩,j1,j2,j3,j4,j5,kv,j6,j7,j8⟩:=hj;have hL:=j5;rw[← cN]at hL;refine Kg hL rfl (by simp) (bl ?_);have nl:¬nx+5=n1:=by omega
  have pZ:¬n1=nx+5:=by omega
  have nl3:¬nx+1=nx+5:=by omega
  have Ds:¬nx+2=nx+5:=by omega
  have nl5:¬nx+3=nx+5:=by omega
  have JA:¬nx=nx+5:=by omega
  have Px:¬nx=n1:=by omega
  have yP:¬nx+1=n1:=by omega
  have JB:¬nx+2=n1:=by omega
  have Bl:¬nx+3=n1:=by omega
  have y4:¬nx+1+1=n1:=by omega
  have y5:¬nx+1+1=nx+5:=by omega
  have y6:¬n1=nx:=by omega
  have y7:¬n1=nx+1:=by omega
  have y8:¬n1=nx+1+1:=by omega
  have y9:¬nx+1+1+1=n1:=by omega
  have y10:¬nx+1+1+1=nx+5:=by omega
  have Bg:h1.get (nx+1+1)=some (bx 3 [.int .i64 s.at_] false 0):=j3;have Dl:h1.get (nx+1+1+1)=some (bx 105 [kv] false 0):=j6;have yM:∀st bh fn sz tm ps x y db,ABlk.loop st bh fn sz tm ps x y db=rec→ABlk.loop .done (some .ret) fn sz tm ps x y db=iP:=by
   intro st bh fn sz tm ps x y db e;rw[nK,← e]
  have hO:∀k,nx≤k∧k≤nx+5→O k:=fun k q=>(j8 k).2 (.inl q);have fg:∀(c:Int) (M:Tr ABlk),lR s t=(⟨[],c,t.pos⟩,false)→(∀k,k<n1→k≠nx+5→M.get k=h1.get k)→K (.bool false) (((((M.put nx (some (bx 105 [.sl0] false 0))).put (nx+1) (some (bx 44 [.int .i64 c] false 0)))).put (nx+2) (some (bx 3 [.int .i64 t.pos] false 0))).put (nx+5) (some iP)) (n1+1):=by
   intro c M aU hM;rw[hK,aU];refine⟨rfl,O,⟨Nat.le_succ _,fun k hk ho=>?_,fun k hk=>.inl hk⟩,?_⟩
   ·have:¬(nx≤k∧k≤nx+5):=fun q=>ho (hO k q);rw[Tr.get_put,if_neg (by omega),Tr.get_put,if_neg (by omega),Tr.get_put,if_neg (by omega),Tr.get_put,if_neg (by omega)];exact hM k hk (by omega)
   ·rw[if_neg (by simp)];refine⟨rfl,?_,?_,?_,?_,?_⟩
    ·simp(disch:=omega) [go_sem]
    ·simp(disch:=omega) [go_sem,lW]
    ·simp(disch:=omega) [go_sem,lW]
    ·rw[Tr.get_put,if_neg (by omega),Tr.get_put,if_neg (by omega),Tr.get_put,if_neg (by omega),Tr.get_put,if_neg (by omega),hM _ (by omega) (by omega)];exact j4
    ·rw[Tr.get_put,if_pos rfl]
  simp[go_sem,putP,Tk.cs,aI];refine⟨none,fn,35,_,_,_,_,nx+1+1+1+1,by simp[go_sem,nl];exact hL,bl ?_⟩;generalize mJ:ABlk.loop LoopState.busy none fn 35 _ _ _ _ _=JG;have qI:∀(X Y:Option ABlk) (k:Nat),k<n1→k≠nx+5→(((h1.put n1 X).put n1 Y).put (nx+5) (some JG)).get k=h1.get k:=fun X Y k k1 k2=>by
   rw[Tr.get_put,if_neg k2,Tr.get_put,if_neg (by omega),Tr.get_put,if_neg (by omega)]
  have qG:∀(e:TypeId) (size b:Nat) (z:Option AV) (fs:List (Nat×Nat×Bool)) (g:Tr ABlk) (n:Nat),k8 (.mk (.slice e) size b z fs) kv g n=.val (.int .i64 (s.ts.length:Int)) g n:=by
   intro e' VR b' z fs g n
   rcases j7 with⟨h0,ha⟩ |⟨_,q,_,_,ha,_⟩
   ·rw[ha,Cp,h0];rfl
   ·rw[ha,H9]
  by_cases c1:t.code=0
  ·by_cases c2:s.ts.length=5000
   ·have aU:lR s t=(⟨[],2,t.pos⟩,false):=by unfold lR;rw[if_neg (by simpa using c1),if_pos c2]
    simp[go_sem,pZ,Bl,c1,c2,qG,Dl];refine eI [3,4,5] [] [(2,3),(2,4)] ?_;simp[go_sem,pZ,Px,yP,JB,aI,j1,j2,Bg,y1,y6,y7,y8];refine BH mJ (by simp(disch:=omega) [go_sem]) (yM _ _ _ _ _ _ _ _ _ cN) ?_;exact fg 2 _ aU (qI _ _)
   ·have c2I:¬(s.ts.length:Int)=5000:=(by omega);have aU:lR s t=(⟨s.ts++[t],0,0⟩,true):=by unfold lR;rw[if_neg (by simpa using c1),if_neg c2]
    have w1:¬n1=n1+1:=(by omega);have w2:¬nx+1+1+1=n1+1:=(by omega);have w3:¬nx+1+1+1=n1+1+1:=(by omega);have w4:¬n1+1+1=nx+5:=(by omega);have w5:¬n1+1=nx+5:=(by omega);have yn:∀(M:Tr ABlk) (q L:Nat),L=(s.ts++[t]).length→(∀k,k<n1→k≠nx+5→k≠q→M.get k=h1.get k)→(q<n1→O q∧¬(nx≤q∧q≤nx+5))→M.get (n1+2)=some (bx 130 ((s.ts++[t]).flatMap Tk.c4) true 4)→K (.bool true) ((M.put (nx+3) (some (bx 105 [.sl (n1+2) 0 L 0 true] false 0))).put (nx+5) (some rec)) (n1+3):=by
     intro M q L IZ hM hq hMn;subst IZ;rw[hK,aU];refine⟨rfl,fun k=>(nx≤k∧k≤nx+5)∨k=n1+2,⟨by omega,fun k hk ho=>?_,fun k hk=>?_⟩,?_⟩
     ·have:¬(nx≤k∧k≤nx+5):=fun q=>ho (hO k q);rw[Tr.get_put,if_neg (by omega),Tr.get_put,if_neg (by omega)];exact hM k hk (by omega) (fun e=>by subst e;exact ho (hq hk).1)
     ·rcases hk with hk |hk
      ·exact .inl (hO k hk)
      ·exact .inr (by omega)
     ·rw[if_pos rfl];have wS:∀k,nx≤k∧k≤nx+5→k≠q:=fun k hk e=>by
       subst e;exact(hq (by omega)).2 hk
      refine⟨⟨by omega,rfl,rfl,by simp;omega⟩,?_,?_,?_,?_,?_,_,?_,.inr ⟨by simp,n1+2,by omega,by omega,rfl,?_⟩,fun k=>⟨fun hk=>?_,fun hk=>?_⟩⟩
      ·rw[Tr.get_put,if_neg (by omega),Tr.get_put,if_neg (by omega),hM _ (by omega) (by omega) (wS _ (by omega))];exact j1
      ·rw[Tr.get_put,if_neg (by omega),Tr.get_put,if_neg (by omega),hM _ (by omega) (by omega) (wS _ (by omega)),j2,je]
      ·rw[Tr.get_put,if_neg (by omega),Tr.get_put,if_neg (by omega),hM _ (by omega) (by omega) (wS _ (by omega)),j3,ja]
      ·rw[Tr.get_put,if_neg (by omega),Tr.get_put,if_neg (by omega),hM _ (by omega) (by omega) (wS _ (by omega))];exact j4
      ·rw[Tr.get_put,if_pos rfl]
      ·rw[Tr.get_put,if_neg (by omega),Tr.get_put,if_pos rfl]
      ·rw[Tr.get_put,if_neg (by omega),Tr.get_put,if_neg (by omega)];exact hMn
      ·rcases hk with hk |hk
       ·exact .inl hk
       ·exact .inr ⟨_,_,_,by rw[hk]⟩
      ·rcases hk with hk |⟨l,cp,o,hk⟩
       ·exact .inl hk
       ·right;cases hk;rfl
    rcases j7 with⟨h0,rfl⟩ |⟨h0,q,q1,q2,rfl,q3⟩
    ·simp[go_sem,pZ,yP,JB,Bl,aI,c1,qG,Dl,h0];refine xx mJ (by simp(disch:=omega) [go_sem,lW]) cN ?_;exact yn _ n1 1 (by rw[h0];rfl) (fun k k1 k2 _=>by
      rw[Tr.get_put,if_neg (by omega),Tr.get_put,if_neg (by omega)];exact qI _ _ k k1 k2) (fun hh=>by omega) (by rw[h0];simp[go_sem,Tk.c4])
    ·have x1:¬q=n1+1:=(by omega);have x2:¬q=nx+5:=(by omega);have x3:¬q=n1:=(by omega);have x4:=(zGi s.ts).symm;have x5:s.ts.length+1≤16777216:=(by omega);have x6:¬nx+1+1+1=q:=(by omega);simp[go_sem,pZ,yP,JB,Bl,aI,c1,c2I,qG,Dl,x1,x2,x3,x4,x5,x6,q3];refine xx mJ (by simp(disch:=omega) [go_sem,lW,show ¬nx+5=q by omega]) cN ?_;exact yn _ q _ (by simp) (fun k k1 k2 k3=>by
      rw[Tr.get_put,if_neg (by omega),Tr.get_put,if_neg k3,Tr.get_put,if_neg (by omega)];exact qI _ _ k k1 k2) (fun hh=>⟨(j8 q).2 (.inr ⟨_,_,_,rfl⟩),by omega⟩) (by rw[List.flatMap_append];simp[go_sem,Tk.c4])
  ·have aU:lR s t=(⟨[],t.code,t.pos⟩,false):=by unfold lR;rw[if_pos c1]
   simp[go_sem,pZ,c1];refine eI [5,6,7] [] [(1,5),(4,5),(4,6)] ?_;simp[go_sem,pZ,Px,yP,JB,aI,j1,j2,Bg,y1,y6,y7,y8];refine BH mJ (by simp(disch:=omega) [go_sem]) (yM _ _ _ _ _ _ _ _ _ cN) ?_;exact fg t.code _ aU (qI _ _)
 ·refine⟨⟨by omega,rfl,rfl,by simp⟩,?_,?_,?_,?_,?_,.sl0,?_,.inl ⟨rfl,rfl⟩,fun k=>⟨.inl,fun q=>by
   rcases q with q |⟨_,_,_,q⟩
   ·exact q
   ·cases q⟩⟩
  all_goals (simp(disch:=omega) [go_sem,lW])
 ·rintro v g ny ⟨O',hK,hq⟩
  have v01:¬nx=nx+1:=by omega
  have VV:¬nx=nx+1+1:=by omega
  have v03:¬nx=nx+1+1+1:=by omega
  have PJ:¬nx=nx+1+1+1+1:=by omega
  have PK:¬nx=nx+1+1+1+1+1:=by omega
  have VW:¬nx+1=nx+1+1:=by omega
  have v13:¬nx+1=nx+1+1+1:=by omega
  have v14:¬nx+1=nx+1+1+1+1:=by omega
  have v15:¬nx+1=nx+1+1+1+1+1:=by omega
  have v20:¬nx+1+1=nx:=by omega
  have v21:¬nx+1+1=nx+1:=by omega
  have v23:¬nx+1+1=nx+1+1+1:=by omega
  have v24:¬nx+1+1=nx+1+1+1+1:=by omega
  have v25:¬nx+1+1=nx+1+1+1+1+1:=by omega
  have v30:¬nx+1+1+1=nx:=by omega
  have v31:¬nx+1+1+1=nx+1:=by omega
  have v32:¬nx+1+1+1=nx+1+1:=by omega
  have v34:¬nx+1+1+1=nx+1+1+1+1:=by omega
  have v35:¬nx+1+1+1=nx+1+1+1+1+1:=by omega
  have v40:¬nx+1+1+1+1=nx:=by omega
  have v41:¬nx+1+1+1+1=nx+1:=by omega
  have v42:¬nx+1+1+1+1=nx+1+1:=by omega
  have v43:¬nx+1+1+1+1=nx+1+1+1:=by omega
  have v45:¬nx+1+1+1+1=nx+1+1+1+1+1:=by omega
  have v50:¬nx+1+1+1+1+1=nx:=by omega
  have v51:¬nx+1+1+1+1+1=nx+1:=by omega
  have v52:¬nx+1+1+1+1+1=nx+1+1:=by omega
  have v53:¬nx+1+1+1+1+1=nx+1+1+1:=by omega
  have v54:¬nx+1+1+1+1+1=nx+1+1+1+1:=by omega
  have E1:az nx h g:=by
   intro k hk;have:=hK.2.1 k (by omega) (by omega);rw[this];simp(disch:=omega) [go_sem,show ¬k=nx by omega,show ¬k=nx+1 by omega,show ¬k=nx+2 by omega,show ¬k=nx+3 by omega,show ¬k=nx+4 by omega,show ¬k=nx+5 by omega]
  by_cases hs:(kT lR src (src.size+1) ⟨[],0,0⟩ 0).2=true
  ·rw[if_pos hs]at hq;rw[← hr]at hq;obtain⟨⟨j0,je,ja,jl⟩,j1,j2,j3,j4,j5,kv,j6,j7,j8⟩:=hq;refine RI cN j5 ?_;have Bg:g.get (nx+1+1)=some (bx 3 [.int .i64 r.at_] false 0):=j3;have Dl:g.get (nx+1+1+1)=some (bx 105 [kv] false 0):=j6;have Jz:g.get (nx+1+1+1+1)=some .dfr:=j4;rw[je,ja]at hR
   rcases j7 with⟨h0,rfl⟩ |⟨h0,q,q1,q2,rfl,q3⟩
   ·simp[go_sem,j1,j2,Bg,Jz,Dl,VV,PJ,PK,v20,v30,v40];refine gP _ _ _ _ ?_ ?_
    ·simp(disch:=omega)only[aK];exact E1
    ·obtain⟨a1,a2,a3⟩:=r;simp only at h0 je ja;rw[h0,je,ja]
   ·simp[go_sem,j1,j2,Bg,Jz,Dl,VV,PJ,PK,v20,v30,v40];refine hR _ _ _ _ ?_ (.tup _ _ (.cons _ _ _ _ (fzT (opn:=true) (esz:=4) (by omega) ?_) (.cons _ _ _ _ (.int _ _) (.cons _ _ _ _ (.int _ _) .nil)))) (.same _)
    ·simp(disch:=omega)only[aK];exact E1
    ·simp(disch:=omega) [go_sem];refine⟨by omega,?_⟩
     repeat rw[if_neg (by omega)]
     exact q3
  ·rw[if_neg hs]at hq;rw[← hr]at hq;obtain⟨j0,j1,j2,j3,j4,j5⟩:=hq;refine zxv (by rw[nK,← cN]) j5 ?_;have Bg:g.get (nx+1+1)=some (bx 3 [.int .i64 r.at_] false 0):=j3;have Jz:g.get (nx+1+1+1+1)=some .dfr:=j4;simp[go_sem,j1,j2,Bg,Jz,PJ,PK];refine gP _ _ _ _ ?_ ?_
   ·simp(disch:=omega)only[aK];exact E1
   ·obtain⟨a1,a2,a3⟩:=r;simp only at j0;rw[j0]
def zUz:cx.ft.get 193=some Tryz.f193:=aO
def n9 (s:ByteArray):Bool:=decide ((sH s).e=0) && (match (sH s).ts with |[t]=>decide (t.kind=1) && decide (t.text=s) |_=>false)
def Se (s:ByteArray):aM 193 [.bs s] (.bool (n9 s)):=by
 refine aB.mk fun h nx R hR=>aP zUz (sz:=34) (rs:=[.tmp 2]) ?_;have hl:=zL2 s;have hf:∀b g ny,az nx h g→b=n9 s→R (.bool b) g ny:=fun b g ny he hb=>hR _ _ _ he (Fz.eq rfl (by rw[hb]));unfold n9 at hf;clear hR;generalize sH s=r at hl hf;obtain⟨ts,e,a⟩:=r;simp only at hl hf;simp[go_sem];refine aB.use hl ?_
 by_cases he:e=0
 ·subst he
  rcases ts with _ |⟨t,_ |⟨t2,l⟩⟩
  ·simp[go_sem,aA,uj];exact hf _ _ _ (az.refl _ _) (by simp)
  ·by_cases h1:t.kind=1
   ·by_cases h2:t.text=s
    ·simp[go_sem,aA,uj,Tk.c4,h1,h2];exact hf _ _ _ (az.refl _ _) (by simp[h1,h2])
    ·simp[go_sem,aA,uj,Tk.c4,h1,h2];exact hf _ _ _ (az.refl _ _) (by simp[h1,h2])
   ·simp[go_sem,aA,uj,Tk.c4,h1];exact hf _ _ _ (az.refl _ _) (by simp[h1])
  ·have iO:¬(l.length:Int)+1+1=1:=(by omega);simp[go_sem,aA,uj,iO];refine hf _ _ _ (az.refl _ _) ?_;simp
 ·simp[go_sem,aA,he];exact hf _ _ _ (az.refl _ _) (by simp[he])
def L5 {S:Type}{step:S→Tk→S×Bool}(P:S→Prop){src:ByteArray}(hp:∀s i,P s→(step s (eK src i).1).2=true→P (step s (eK src i).1).1):∀(f:Nat)(s:S) (i:Nat),P s→(kT step src f s i).2=true→P (kT step src f s i).1
 |0,s,i,h,_=>h
 |f+1,s,i,h,hv=>by
  rw[kT]at hv ⊢
  by_cases h1:src.size≤i
  ·rw[if_pos h1]at hv ⊢;exact h
  ·rw[if_neg h1]at hv ⊢
   by_cases h2:cl src i=1
   ·rw[if_pos h2]at hv ⊢;exact L5 P hp f s _ h hv
   ·rw[if_neg h2]at hv ⊢
    by_cases h3:cl src i=2
    ·rw[if_pos h3]at hv ⊢;exact L5 P hp f s _ h hv
    ·rw[if_neg h3]at hv ⊢
     by_cases h4:(step s (eK src i).1).2=false
     ·rw[if_pos h4]at hv;cases hv
     ·rw[if_neg h4]at hv ⊢;have h5:(step s (eK src i).1).2=true:=by simpa using h4
      by_cases h6:(eK src i).1.code≠0
      ·rw[if_pos h6]at hv ⊢;exact hp _ _ h h5
      ·rw[if_neg h6]at hv ⊢;exact L5 P hp f _ _ (hp _ _ h h5) hv
def zMa (src:ByteArray) (i:Nat)(h1:(eK src i).1.kind=1)(h0:(eK src i).1.code=0):(eK src i).1.text.size≤24:=by
 unfold eK at h1 h0 ⊢
 by_cases c3:cl src i=3
 ·rw[if_pos c3]at h1 h0 ⊢;simp only at h0 ⊢
  by_cases c:24<fY nZ src src.size i-i
  ·rw[if_pos c]at h0;cases h0
  ·rw[ByteArray.size_extract];omega
 ·rw[if_neg c3]at h1
  by_cases c4:cl src i=4
  ·rw[if_pos c4]at h1;simp only at h1;split at h1 <;> cases h1
  ·rw[if_neg c4]at h1
   by_cases c6:cl src i=6∨cl src i=7∨cl src i=8
   ·rw[if_pos c6]at h1;split at h1 <;> cases h1
   ·rw[if_neg c6]at h1;cases h1
def W8 {P:Tk→Prop}{s:ByteArray}(hP:∀i,(eK s i).1.code=0→P (eK s i).1):∀t∈(sH s).ts,P t:=by
 unfold sH
 by_cases hz:20000<s.size
 ·rw[if_pos hz];intro t ht;cases ht
 ·rw[if_neg hz]
  by_cases hf:(kT lR s (s.size+1) ⟨[],0,0⟩ 0).2=true
  ·refine L5 (fun S:LS=>∀t∈S.ts,P t) (fun S i hS aU=>?_) _ _ _ (by intro t ht;cases ht) hf;unfold lR at aU ⊢
   by_cases c:(eK s i).1.code≠0
   ·rw[if_pos c]at aU;cases aU
   ·rw[if_neg c]at aU ⊢
    by_cases c2:S.ts.length=5000
    ·rw[if_pos c2]at aU;cases aU
    ·rw[if_neg c2];intro t ht
     rcases List.mem_append.1 ht with q |q
     ·exact hS t q
     ·simp at q;subst q;exact hP i (by simpa using c)
  ·have key:∀(f:Nat) (S:LS) (i:Nat),(kT lR s f S i).2=false→(kT lR s f S i).1.ts=[]:=by
    intro f
    induction f with
    |zero=>intro S i hq;cases hq
    |succ f ih=>
     intro S i hq;rw[kT]at hq ⊢
     by_cases g1:s.size≤i
     ·rw[if_pos g1]at hq;cases hq
     ·rw[if_neg g1]at hq ⊢
      by_cases g2:cl s i=1
      ·rw[if_pos g2]at hq ⊢;exact ih _ _ hq
      ·rw[if_neg g2]at hq ⊢
       by_cases g3:cl s i=2
       ·rw[if_pos g3]at hq ⊢;exact ih _ _ hq
       ·rw[if_neg g3]at hq ⊢
        by_cases g4:(lR S (eK s i).1).2=false
        ·rw[if_pos g4];simp only;unfold lR at g4 ⊢
         by_cases c:(eK s i).1.code≠0
         ·rw[if_pos c]
         ·rw[if_neg c]at g4 ⊢
          by_cases c2:S.ts.length=5000
          ·rw[if_pos c2]
          ·rw[if_neg c2]at g4;cases g4
        ·rw[if_neg g4]at hq ⊢
         by_cases g5:(eK s i).1.code≠0
         ·rw[if_pos g5]at hq;cases hq
         ·rw[if_neg g5]at hq ⊢;exact ih _ _ hq
   rw[key _ _ _ (by simpa using hf)];intro t ht;cases ht
def Ml {s:ByteArray}(h:n9 s=true):s.size≤24:=by
 have hv:=W8 (P:=fun t=>t.kind=1→t.text.size≤24) (s:=s) fun i h0 h1=>zMa s i h1 h0;unfold n9 at h;generalize sH s=r at h hv;obtain⟨ts,e,a⟩:=r;simp only at h hv
 rcases ts with _ |⟨t,_ |⟨t2,l⟩⟩
 ·simp at h
 ·simp at h;have:=hv t (by simp) h.2.1;rw[h.2.2]at this;exact this
 ·simp at h
def Z6 {S:GS}(h:GI S){root:Int}(hr:0≤root∧root<(S.L.length:Int))(hl:S.L.length≤1000000):(∀n∈cV S.L root,jE n∧∃m∈S.L,n.cuts=m.cuts)∧cV S.L root≠[]∧(cV S.L root).length≤S.L.length:=by
 obtain⟨ho,_⟩:=vX h.wk (S.L.length+1) [] root ⟨List.nodup_nil,by simp⟩ hr;have Da:(br S.L root).length≤S.L.length:=ho.len;refine⟨fun n hn=>?_,fun e=>zxu h.wk hr (by simpa[cV]using e),by simpa[cV]using Da⟩;obtain⟨i,hi,rfl⟩:=List.mem_map.1 hn;have Ax:=ho.2 i hi;have kp:i.toNat<S.L.length:=by omega
 have hm:S.L.getD i.toNat ⟨0,[],[],false⟩∈S.L:=by
  rw[ak,aa kp];exact ah kp
 obtain⟨n1,n2,n3,n4,n5⟩:=h.ni _ hm;refine⟨⟨n1,n2,fun x hx=>?_,n4,by simpa[eh]using n5⟩,_,hm,rfl⟩;obtain⟨y,_,rfl⟩:=List.mem_map.1 hx;unfold cU;split
 ·have:=List.findIdx_le_length (p:=fun z=>decide (z=y)) (xs:=br S.L root);unfold nh;exact⟨by omega,by omega⟩
 ·exact⟨by omega,by omega⟩
def zMc {n:Nd}(h:jE n):jE (eQ n):=by
 unfold eQ;split
 ·exact h
 ·exact h
def zNf (n:Nd):(eQ n).cuts=n.cuts:=by
 unfold eQ;split <;> rfl
def SF:∀(st ys:List Int) (x:Int)(c k:List Int),(bN x c k st ys).2.1.length≤c.length+st.length
 |[],ys,x,c,k=>by simp[bN]
 |s::st,[],x,c,k=>by simp[bN]
 |s::st,y::ys,x,c,k=>by
  by_cases e:y=x
  ·rw[Cr e];have:=SF st ys x c k;simp;omega
  ·rw[EF e];have:=SF st ys y (c++[s]) (k++[y]);simp at this ⊢;omega
def pv (B:Nat)(L:List Nd):Prop:=∀n∈L,n.cuts.length≤B
def pv.node {B:Nat}{S:GS}{n:Nd}(h:pv B S.L)(hn:n.cuts.length≤B):pv B (dp n S).2.L:=by
 intro m hm;simp only[dp,jB]at hm;split at hm
 ·exact h m hm
 ·rcases List.mem_append.1 hm with q |q
  ·exact h m q
  ·simp at q;rw[q];exact hn
def pv.inner {B:Nat}{S:GS}{i:Nat}{st ks:List Int}(h:pv B S.L)(hs:st.length≤B):pv B (eT i st ks S).2.L:=by
 unfold eT;simp only;split
 ·exact h
 ·refine h.node ?_;have:=SF st ks (jr ks) [] [jr ks];simp at this ⊢;omega
def Yt {B:Nat}{g:Int→GS→Int×GS}(hg:∀v S,pv B S.L→pv B (g v S).2.L):∀(l:List Int)(S:GS),pv B S.L→pv B (ez g l S).2.L
 |[],S,h=>h
 |v::l,S,h=>Yt hg l _ (hg v S h)
def YQ (d:List Fc):∀(k:Nat)(f:Fm)(S:GS),iY f→f.size≤1000→pv 3000 S.L→pv 3000 (cr d k f S).2.L
 |0,f,S,_,_,h=>by
  rw[cr];split
  ·exact h.node (by simp[cz])
  ·exact pv.node (S:={ S with full:=kI S }) h (by simp[cz])
 |k+1,f,S,hf,hs,h=>by
  rw[cr];split
  ·exact h.node (by simp[cz])
  ·split
   ·exact pv.node (S:={ S with full:=true }) h (by simp[cz])
   ·cases k9 (sJ (d.length-(k+1)) f) S.D with
    |some v=>exact h
    |none=>
     simp only;refine pv.inner ?_ ?_
     ·refine Yt (fun v S hS=>?_) _ _ h;obtain⟨g1,g2⟩:=Cm (d.getD (d.length-(k+1)) ⟨.empty,0,0,0⟩).name v hf;exact YQ d k _ S g1 (by omega) hS
     ·have:=Tu f (d.getD (d.length-(k+1)) ⟨.empty,0,0,0⟩);omega
structure vZ (g:List Nd):Prop where
 ni:∀n∈g,jE n
 cu:∀n∈g,n.cuts.length≤40000
 ne:g≠[]
 ln:g.length≤30000
def uG (d:List Fc)(f:Fm):Int:=rH n9 (fun _=>false) d f
def eL (d:List Fc)(f:Fm):Int:=
 if dH d=false∨uG d f≠0 then 1 else if 24<(jz [] f).length then 2 else if (jP d f).2.full=true∨20000<(br (jP d f).2.L (jP d f).1).length then 2 else 0
def cH (d:List Fc)(f:Fm):List Nd:=if eL d f=0 then cV (jP d f).2.L (jP d f).1 else []
def zFq (d:List Fc)(f:Fm):D8 (uG d f) d f=.tup [.agg [.fz 4 false (bQ (cH d f))],.int .i64 (eL d f)]:=by
 unfold D8 cH eL vA;split
 ·rfl
 ·split
  ·rfl
  ·split <;> rfl
def zFk (u:Bool)(d:List Fc)(f:Fm)(hl:d.length≤1000000000)(hs:∀f∈d,f.name.size≤1000000000)(hf:f.size≤1000000):
  aM 93 [.agg f.cs,.agg [.fz 4 u (aN d)]] (.tup [.agg [.fz 4 false (bQ (cH d f))],.int .i64 (eL d f)]):=by
 rw[← zFq];exact zIe n9 u d f hl hs hf Se (fun s h=>by have:=Ml h;omega)
def zI {d:List Fc}{f:Fm}(h:eL d f=0):vZ (cH d f):=by
 have h0:=h;unfold eL at h
 by_cases h1:dH d=false∨uG d f≠0
 ·rw[if_pos h1]at h;cases h
 ·rw[if_neg h1]at h
  by_cases h2:24<(jz [] f).length
  ·rw[if_pos h2]at h;cases h
  ·rw[if_neg h2]at h;have kQ:dH d=true:=by
    cases hv:dH d with
    |false=>exact absurd (.inl hv) h1
    |true=>rfl
   have hc:uG d f=0:=by
    by_cases hc:uG d f=0
    ·exact hc
    ·exact absurd (.inr hc) h1
   obtain⟨d1,d2⟩:=EC kQ;obtain⟨fG,fs⟩:=Mo (fun s h=>by have:=Ml h;omega) hc;obtain⟨gG,gS⟩:=Cm .empty 0 fG;have Cs:GI ⟨[],[],false⟩:=⟨by simp,by intro n hn;simp at hn,by simp,by simp,by simp⟩;obtain⟨q1,q2,q3,q4⟩:=Ir d (by omega) d2 d.length (bY .empty 0 f) ⟨[],[],false⟩ (ae _) gG (by omega) Cs (by simp[inn]);have qP:=YQ d d.length (bY .empty 0 f) ⟨[],[],false⟩ gG (by omega) (by intro n hn;cases hn);have zV:cr d d.length (bY .empty 0 f) ⟨[],[],false⟩=jP d f:=rfl;rw[zV]at q1 q2 q3 q4 qP;have hlen:=q1.len;have yB:inn ([]:List Nd)=0:=rfl;rw[yB]at q4;obtain⟨a1,a2,a3⟩:=Z6 q1 q2 (by omega);unfold cH;rw[if_pos h0];refine⟨fun n hn=>(a1 n hn).1,fun n hn=>?_,a2,by omega⟩;obtain⟨m,hm,e⟩:=(a1 n hn).2;rw[e];have:=qP m hm;omega
def mY (a b:List Nd)(d:List Fc):Int:=
 if dU a d=false∨dU b d=false then 1 else if 20000<(gL a b d).2.L.length then 2 else if 20000<(br (gL a b d).2.L (gL a b d).1).length then 2 else 0
def nY (a b:List Nd)(d:List Fc):List Nd:=if mY a b d=0 then cV (gL a b d).2.L (gL a b d).1 else []
def zTd (a b:List Nd)(d:List Fc):Ig a b d=.tup [.agg [.fz 4 false (bQ (nY a b d))],.int .i64 (mY a b d)]:=by
 unfold Ig nY mY vA;split
 ·rfl
 ·split
  ·rfl
  ·split <;> rfl
def Qv {a b:List Nd}{d:List Fc}(ha:vZ a)(hb:vZ b)(h:mY a b d=0):(∀n∈nY a b d,jE n)∧(nY a b d).length≤30000:=by
 have h0:=h;unfold mY at h
 by_cases h1:dU a d=false∨dU b d=false
 ·rw[if_pos h1]at h;cases h
 ·rw[if_neg h1]at h
  by_cases h2:20000<(gL a b d).2.L.length
  ·rw[if_pos h2]at h;cases h
  ·have va:dU a d=true:=by
    cases hv:dU a d with
    |false=>exact absurd (.inl hv) h1
    |true=>rfl
   have vb:dU b d=true:=by
    cases hv:dU b d with
    |false=>exact absurd (.inr hv) h1
    |true=>rfl
   have pa:=Cn va;have pb:=Cn vb;obtain⟨d1,d2⟩:=EC pa.1;have da:=Ez pa ha.ni ha.cu;have db:=Ez pb hb.ni hb.cu;have vi:0<a.length:=pa.2.1;have vj:0<b.length:=pb.2.1;have Ct:HI ⟨[],[]⟩:=⟨⟨by simp[HS.gs],by intro n hn;simp[HS.gs]at hn,by simp[HS.gs],by simp[HS.gs],by simp[HS.gs]⟩,by simp⟩;have gw:=x9 da db (ah vi) (ah vj);obtain⟨q1,q2,q3,q4⟩:=It a b d (by omega) d2 da db (d.length+1) 0 0 ⟨[],[]⟩ vi vj (by omega) (ae _) Ct (by simp[inn]);have zV:fD a b d (d.length+1) 0 0 ⟨[],[]⟩=gL a b d:=rfl;rw[zV]at q1 q2 q3 q4;obtain⟨a1,a2,a3⟩:=Z6 (S:=(gL a b d).2.gs) q1.g q2 (by show (gL a b d).2.L.length≤_;omega);unfold nY;rw[if_pos h0];refine⟨fun n hn=>(a1 n hn).1,?_⟩;have:(gL a b d).2.gs.L.length=(gL a b d).2.L.length:=rfl;have a4:(cV (gL a b d).2.L (gL a b d).1).length≤(gL a b d).2.L.length:=a3;omega
def Qy {g:List Nd}(h:vZ g):vZ (g.map eQ):=by
 refine⟨fun n hn=>?_,fun n hn=>?_,by simpa using h.ne,by simpa using h.ln⟩
 ·obtain⟨m,hm,rfl⟩:=List.mem_map.1 hn;exact zMc (h.ni m hm)
 ·obtain⟨m,hm,rfl⟩:=List.mem_map.1 hn;rw[zNf];exact h.cu m hm
def iX (g:List Nd)(d:List Fc):List Int×Bool:=
 if dU g d=true then match g[(ff g (d.length+1) 0 (gN d)).1]? with
  |some m=>if m.leaf=true then ((ff g (d.length+1) 0 (gN d)).2,true) else ([],false)
  |none=>([],false)
 else ([],false)
def zUq (u v:Bool)(g:List Nd)(d:List Fc)(hg:g.length≤1000000)(hd:d.length≤1000000)(hs:∀f∈d,f.name.size≤1000000000)(hN:∀n∈g,jE n):
  aM 150 [.agg [.fz 4 u (bQ g)],.agg [.fz 4 v (aN d)]] (.tup [.fz 1 false (aG (iX g d).1),.bool (iX g d).2]):=by
 refine aB.mkW fun h nx R hR=>?_;have gP:∀(g':Tr ABlk) (ny:Nat),az nx h g'→iX g d=([],false)→R (.tup [.sl0,.bool false]) g' ny:=fun g' ny hE e=>by
  rw[e]at hR;exact hR _ _ _ (.tup [.sl0,.bool false]) hE (.tup _ _ (.cons _ _ _ _ .sl0 (.cons _ _ _ _ (.bool _) .nil))) (.tup _ _ (.cons _ _ _ _ (.sl0 1 false) (.cons _ _ _ _ (.same _) .nil)))
 cases hv:dU g d with
 |false=>
  have Fx:=Li u v g d hg hd hs hN;rw[hv]at Fx;refine aP Yp (sz:=58) (rs:=[.tmp 4,.tmp 5]) ?_;simp[go_sem];refine aB.use Fx ?_;simp[go_sem,aA];refine gP _ _ ?_ (by unfold iX;rw[hv];rfl);simp(disch:=omega)only[aK,az.refl]
 |true=>
  refine zSo u v g d hg hd hs hN (Cn hv) h nx R (fun c g' ny hE hn fF hm=>?_) (fun g' ny hE hn hm=>?_)
  ·obtain⟨m,wM,qW⟩:=hm;have hr:iX g d=((ff g (d.length+1) 0 (gN d)).2,true):=by
    unfold iX;rw[if_pos hv,wM];simp only[qW,if_true]
   rw[hr]at hR;simp only at hR
   rcases fF with⟨e1,e2⟩ |⟨e1,b,b1,b2,e2,e3⟩
   ·cases e2;rw[e1]at hR;exact hR _ _ _ (.tup [.sl0,.bool true]) hE (.tup _ _ (.cons _ _ _ _ .sl0 (.cons _ _ _ _ (.bool _) .nil))) (.tup _ _ (.cons _ _ _ _ (.sl0 1 false) (.cons _ _ _ _ (.same _) .nil)))
   ·cases e2;exact hR _ _ _ _ hE (.tup _ _ (.cons _ _ _ _ (zyu (opn:=true) (esz:=1) (r:=[]) b1 (by rw[List.append_nil];exact e3)) (.cons _ _ _ _ (.bool _) .nil))) (.same _)
  ·obtain⟨m,wM,qW⟩:=hm;refine gP _ _ hE ?_;unfold iX;rw[if_pos hv,wM];simp only[qW];rfl
end
section
open Go.Proofs
attribute [-go_sem] dN bX
def zP5:cx.ft.get 216=some Tryz.f216:=aO
def zLh:cx.ft.get 151=some Tryz.f151:=aO
def zHk:cx.ft.get 96=some Tryz.f96:=aO
def Yc (x:Int):aM 216 [.int .i64 x] (.bool false):=by
 refine aB.mk fun h nx R hR=>aP zP5 (sz:=6) (rs:=[.tmp 2]) ?_;simp[go_sem];exact hR _ _ _ (az.refl _ _) (Fz.eq rfl rfl)
def zF (x y:Int):Int:=if x<y then -1 else if y<x then 1 else 0
def zGf (x y:Int):aM 151 [.int .i64 x,.int .i64 y] (.int .i64 (zF x y)):=by
 refine aB.mk fun h nx R hR=>aP zLh (sz:=20) (rs:=[.tmp 4]) ?_;simp[go_sem];refine aB.use (Yc x) ?_;simp[go_sem,aA];refine aB.use (Yc y) ?_
 by_cases c1:x<y
 ·simp[go_sem,aA,c1];exact hR _ _ _ (az.refl _ _) (Fz.eq rfl (by simp[zF,c1]))
 ·by_cases c2:y<x
  ·simp[go_sem,aA,c1,c2];exact hR _ _ _ (az.refl _ _) (Fz.eq rfl (by simp[zF,c1,c2]))
  ·simp[go_sem,aA,c1,c2];exact hR _ _ _ (az.refl _ _) (Fz.eq rfl (by simp[zF,c1,c2]))
def oI:List Int→List Int→Int
 |[],[]=>0
 |[],_::_=>-1
 |_::_,[]=>1
 |x::l,y::m=>if zF x y=0 then oI l m else zF x y
def zNv (u v:Bool)(l m:List Int)(hl:l.length≤1000000000):aM 96 [.fz 1 u (aG l),.fz 1 v (aG m)] (.int .i64 (oI l m)):=by
 refine aB.mk fun h nx R hR=>aP zHk (sz:=36) (rs:=[.tmp 4]) ?_;simp[go_sem];refine bF (fun mm st=>∃tm k,st=.mk tm h nx []∧mm=l.length-k∧k≤l.length∧k≤m.length∧tm.get 0=some (.fz 1 u (aG l))∧tm.get 1=some (.fz 1 v (aG m))∧tm.get 9=some (.fz 1 u (aG l))∧tm.get 10=some (.int .i64 (l.length:Int))∧tm.get 11=some (.int .i64 (k:Int))∧RowKit.Hid (oI l m=oI (l.drop k) (m.drop k))) ⟨l.length,_,0,rfl,by simp,by simp,by simp,?_⟩ ?_
 ·simp[go_sem];exact Lib.hid trivial
 ·rintro mm st ⟨tm,k,rfl,rfl,hk,dK,t0,t1,t9,t10,t11,hv⟩ J hJ
  refine bl ?_
  by_cases ay:k<l.length
  ·by_cases cv:k<m.length
   ·have bg:=hv.out;rw[aj ay,aj cv,oI]at bg;generalize hx:l[k]=x at bg;generalize hy:m[k]=y at bg;have HV:=Lib.hid bg;clear bg;have n1:¬m.length≤k:=(by omega);simp[go_sem,t1,t9,t10,t11,ay,cv,hx,hy,n1];refine aB.use (zGf x y) ?_
    by_cases hc:zF x y=0
    ·simp[go_sem,aA,t11,hc];refine hJ (l.length-(k+1)) _ (by omega) ⟨_,k+1,rfl,rfl,by omega,by omega,?_⟩;simp(disch:=omega) [go_sem,t0,t1,t9,t10,aS];exact Lib.hid (by rw[HV.out,if_pos hc])
    ·simp[go_sem,aA,hc];exact hR _ _ _ (az.refl _ _) (Fz.eq rfl (by rw[HV.out,if_neg hc]))
   ·have n1:m.length≤k:=(by omega);have bg:=hv.out;rw[aj ay,al n1,oI]at bg;simp[go_sem,t1,t9,t10,t11,ay,n1];exact hR _ _ _ (az.refl _ _) (Fz.eq rfl (by rw[bg]))
  ·by_cases cv:k<m.length
   ·have bg:=hv.out;rw[aj cv,al (by omega),oI]at bg;have n1:l.length<m.length:=(by omega);simp[go_sem,t0,t1,t10,t11,ay,n1];exact hR _ _ _ (az.refl _ _) (Fz.eq rfl (by rw[bg]))
   ·have bg:=hv.out;rw[al (by omega),al (by omega),oI]at bg;have n1:¬l.length<m.length:=(by omega);simp[go_sem,t0,t1,t10,t11,ay,n1];exact hR _ _ _ (az.refl _ _) (Fz.eq rfl (by rw[bg]))
end
section
open Go.Proofs Go.RowKit
attribute [-go_sem] dN bX fC jg
def zQq:cx.ft.get 95=some Tryz.f95:=aO
def zKt:cx.ft.get 45=some Tryz.f45:=aO
structure WR where
 c:List Int
 ok:Bool
 e:Int
def WR.v (r:WR):AV:=.tup [.fz 1 false (aG r.c),.bool r.ok,.int .i64 r.e]
def zz3 (a b:Pv)(v:AV):((a.cs++(b.cs++[v])).drop 46).take 1=[v]:=by
 have h1:=a.cs_len;have h2:=b.cs_len;rw[← List.append_assoc,List.drop_append_of_le_length (by simp;omega),al (by simp;omega)];rfl
def Zx (a b:Pv)(v:AV):(a.cs++(b.cs++[v])).length=47:=by simp[a.cs_len,b.cs_len]
def gX (x y:List Nd)(d:List Fc):WR:=
 if mY x (y.map eQ) d≠0 then ⟨[],false,mY x (y.map eQ) d⟩ else ⟨(iX (nY x (y.map eQ) d) d).1,(iX (nY x (y.map eQ) d) d).2,0⟩
def zzl (u u' w:Bool)(a b:Pv)(d:List Fc)(x y:List Nd)(hx:vZ x)(hy:vZ y)(hd:d.length≤1000000)(hs:∀f∈d,f.name.size≤1000000000):
  aM 95 [.ip (a.cs++(b.cs++[.fz 4 w (aN d)])),.agg [.fz 4 u (bQ x)],.agg [.fz 4 u' (bQ y)]] (gX x y d).v:=by
 obtain⟨n0,ns,rfl⟩:∃n0 ns,y=n0::ns:=by
  cases y with
  |nil=>exact absurd rfl hy.ne
  |cons a l=>exact⟨a,l,rfl⟩
 have cS:=hy.ln;have hN:=zJs u' n0 ns (by simp at cS;omega);have hI:=Qy hy;have Pp:=hI.ln;have ow:=hx.ln;have hA:=zIh u false w x ((n0::ns).map eQ) d (by omega) (by omega) hd hs hx.ni hI.ni (fun _=>hx.cu) (fun _=>hI.cu);rw[zTd]at hA;have hAI:=fun h0=>Qv hx hI (d:=d) h0;unfold gX;have uN:=Zx a b (.fz 4 w (aN d));have uO:=zz3 a b (.fz 4 w (aN d));generalize a.cs++(b.cs++[.fz 4 w (aN d)])=PV at uN uO;generalize (n0::ns).map eQ=z at *;refine aB.mkW fun h nx R hR=>aP zQq (sz:=38) (rs:=[.tmp 6,.tmp 7,.tmp 8]) ?_;simp[go_sem];refine eI [11,12] [2,7] [(0,11),(1,11),(6,11)] ?_;simp[go_sem];refine dV hN ?_;simp[go_sem,cW,uN,uO];refine dV hA ?_;have E0:∀X Y Z W,az nx h ((((h.put nx X).put (nx+1) Y).put (nx+1+1) Z).put (nx+1+1) W):=fun X Y Z W=>by
  simp(disch:=omega)only[aK,az.refl]
 have z1:¬nx=nx+1+1:=by omega
 have z2:¬nx+1=nx+1+1:=by omega
 by_cases he:mY x z d=0
 ·rw[if_neg (by simpa using he)]at hR;obtain⟨i1,i2⟩:=hAI he;have hL:=zUq false w (nY x z d) d (by omega) hd hs i1;simp[go_sem,he,z1];refine eI [] [5] [] ?_;simp[go_sem,cW,uN,uO];refine dV hL ?_;simp[go_sem];exact hR _ _ _ _ (E0 _ _ _ _) (.tup _ _ (.cons _ _ _ _ (Fz.same _ (by simp[plain,vP])) (.cons _ _ _ _ (.bool _) (.cons _ _ _ _ (.int _ _) .nil)))) (.same _)
 ·rw[if_pos he]at hR;simp[go_sem,he,z1];exact hR _ _ _ (.tup [.sl0,.bool false,.int .i64 (mY x z d)]) (E0 _ _ _ _) (.tup _ _ (.cons _ _ _ _ .sl0 (.cons _ _ _ _ (.bool _) (.cons _ _ _ _ (.int _ _) .nil)))) (.tup _ _ (.cons _ _ _ _ (.sl0 1 false) (.cons _ _ _ _ (.same _) (.cons _ _ _ _ (.same _) .nil))))
def zUi (g:List Nd)(d:List Fc):(iX g d).1.length≤d.length:=by
 unfold iX;have h1:(gN d).length≤d.length:=by unfold gN;split <;> simp
 have h2:∀(f at_:Nat) (cs:List Int),(ff g f at_ cs).2.length=cs.length:=by
  intro f
  induction f with
  |zero=>intro at_ cs;rfl
  |succ f ih=>
   intro at_ cs;rw[ff];split
   ·rfl
   ·split
    ·rfl
    ·rw[ih];split <;> simp
 split
 ·split
  ·split
   ·rw[h2];exact h1
   ·simp
  ·simp
 ·simp
def zz1 (x y:List Nd)(d:List Fc):(gX x y d).c.length≤d.length:=by
 unfold gX;split
 ·simp
 ·exact zUi _ _
mutual
def TA:∀f:Fm,(bL f).size≤f.size
 |.mk o n c m kids=>by
  rw[bL];split
  ·simp[Fm.size,bd]
  ·have:=Y8 kids;simp only[Fm.size];omega
def Y8:∀l:List Fm,bd (uC l)≤bd l
 |[]=>by rw[uC];exact ae _
 |f::l=>by
  have h1:=TA f;have h2:=Y8 l;simp only[uC,bd];omega
end
structure CA where
 f:Bool
 c:List Int
 e:Int
def CA.v (r:CA):AV:=.tup [.bool r.f,.fz 1 false (aG r.c),.int .i64 r.e]
def Mp (x y:WR):CA:=
 if x.e≠0 then ⟨false,[],x.e⟩
 else if y.e≠0 then ⟨false,[],y.e⟩
 else ⟨x.ok || y.ok,if x.ok=false∨(y.ok=true∧oI y.c x.c<0) then y.c else x.c,0⟩
def kj (a b:Fm)(d:List Fc):CA:=
 if eL d (bL a)≠0 then ⟨false,[],eL d (bL a)⟩
 else if eL d (bL b)≠0 then ⟨false,[],eL d (bL b)⟩
 else Mp (gX (cH d (bL a)) (cH d (bL b)) d) (gX (cH d (bL b)) (cH d (bL a)) d)
def zRn (a b:Pv)(v:AV):((a.cs++(b.cs++[v])).drop 5).take 5=a.when_.cs:=by
 rcases a with⟨id,rank,kind,name,value,⟨w1,w2,w3,w4,w5⟩,ex,⟨b1,b2,b3,b4⟩,⟨e1,e2,e3,e4⟩,⟨g1,g2,g3,g4⟩⟩
 rfl
def zSm (a b:Pv)(v:AV):((a.cs++(b.cs++[v])).drop 28).take 5=b.when_.cs:=by
 rcases a with⟨id,rank,kind,name,value,⟨w1,w2,w3,w4,w5⟩,ex,⟨b1,b2,b3,b4⟩,⟨e1,e2,e3,e4⟩,⟨g1,g2,g3,g4⟩⟩
 rcases b with⟨iD,jf,jc,jd,fw,⟨qh,Hb,Hc,Hd,He⟩,qA,⟨yd,rK,Cv,ye⟩,⟨jF,pF,sN,qz⟩,⟨CH,CI,CJ,CM⟩⟩
 rfl
def zPc (w:Bool)(a b:Pv)(d:List Fc)(ha:a.when_.size≤1000000)(hb:b.when_.size≤1000000)(hd:d.length≤1000000)(hs:∀f∈d,f.name.size≤1000000000):
  aM 45 [.ip (a.cs++(b.cs++[.fz 4 w (aN d)]))] (kj a.when_ b.when_ d).v:=by
 have C5:=zFh a.when_ ha;have hfb:=zFh b.when_ hb;have O7:(bL a.when_).size≤1000000:=Nat.le_trans (TA _) ha;have fK:(bL b.when_).size≤1000000:=Nat.le_trans (TA _) hb;have Uo:=zFk w d (bL a.when_) (by omega) hs O7;have Up:=zFk w d (bL b.when_) (by omega) hs fK;have CX:=fun (q1:eL d (bL a.when_)=0) (q2:eL d (bL b.when_)=0)=>zzl false false w a b d _ _ (zI q1) (zI q2) hd hs;have Ab:=fun (q1:eL d (bL a.when_)=0) (q2:eL d (bL b.when_)=0)=>zzl false false w a b d _ _ (zI q2) (zI q1) hd hs;have uN:=Zx a b (.fz 4 w (aN d));have uO:=zz3 a b (.fz 4 w (aN d));have I3:=zRn a b (.fz 4 w (aN d));have Fq:=zSm a b (.fz 4 w (aN d));generalize a.cs++(b.cs++[.fz 4 w (aN d)])=PV at uN uO I3 Fq CX Ab ⊢;unfold kj;generalize bL a.when_=fa at *;generalize bL b.when_=fb at *;obtain⟨X,hX⟩:∃X,X=cH d fa:=⟨_,rfl⟩;obtain⟨Y,hY⟩:∃Y,Y=cH d fb:=⟨_,rfl⟩;rw[← hX]at Uo CX Ab ⊢;rw[← hY]at Up CX Ab ⊢;clear hX hY
 refine aB.mkW fun h nx R hR=>aP zKt (sz:=85) (rs:=[.tmp 2,.tmp 3,.tmp 4]) ?_;have gP:∀(e:Int) (g:Tr ABlk) (ny:Nat),az nx h g→(∀v g ny u',az nx h g→Fz g nx v u'→Wk u' (CA.v ⟨false,[],e⟩)→R v g ny)→R (.tup [.bool false,.sl0,.int .i64 e]) g ny:=fun e g ny hE hq=>by
  exact hq _ _ _ (.tup [.bool false,.sl0,.int .i64 e]) hE (.tup _ _ (.cons _ _ _ _ (.bool _) (.cons _ _ _ _ .sl0 (.cons _ _ _ _ (.int _ _) .nil)))) (.tup _ _ (.cons _ _ _ _ (.same _) (.cons _ _ _ _ (.sl0 1 false) (.cons _ _ _ _ (.same _) .nil))))
 have z1:¬nx=nx+1:=by omega
 have z2:¬nx=nx+1+1:=by omega
 have z3:¬nx+1=nx+1+1:=by omega
 simp[go_sem];refine eI [14,15] [5,10] [(4,14),(9,14)] ?_;simp[go_sem,uN,I3];refine dV C5 ?_;simp[go_sem,cW,uN,uO];refine dV Uo ?_
 by_cases ea:eL d fa=0
 ·rw[if_neg (by simpa using ea)]at hR;simp[go_sem,ea];refine eI [14,15] [5,10] [(4,14),(9,14)] ?_;simp[go_sem,cW,uN,uO,Fq];refine dV hfb ?_;refine dV Up ?_
  by_cases eb:eL d fb=0
  ·rw[if_neg (by simpa using eb)]at hR;have CX:=CX ea eb;have Ab:=Ab ea eb;simp[go_sem,eb];refine aB.use CX ?_;have l1:=zz1 X Y d;have l2:=zz1 Y X d;generalize gX X Y d=W1 at *;generalize gX Y X d=W2 at *;obtain⟨c,one,e1⟩:=W1;obtain⟨k,two,e2⟩:=W2;simp only[WR.v,Mp]at Ab hR l1 l2 ⊢;generalize hM:Tr.put _ (nx+1) (some (bx 92 [.fz 4 false (bQ Y)] false 0))=M;have hE:az nx h M:=by
    rw[← hM];simp(disch:=omega)only[aK,az.refl]
   have m0:M.get nx=some (bx 92 [.fz 4 false (bQ X)] false 0):=by rw[← hM];simp[go_sem]
   have m1:M.get (nx+1)=some (bx 92 [.fz 4 false (bQ Y)] false 0):=by rw[← hM];simp[go_sem]
   clear hM
   by_cases q1:e1=0
   ·subst q1;rw[if_neg (by simp)]at hR;simp[go_sem,aA,m0,m1];refine aB.use Ab ?_
    by_cases q2:e2=0
    ·subst q2;rw[if_neg (by simp)]at hR;have fin:∀(f:Bool) (l:List Int),(∀v g ny u',az nx h g→Fz g nx v u'→Wk u' (CA.v ⟨f,l,0⟩)→R v g ny)→R (.tup [.bool f,.fz 1 false (aG l),.int .i64 0]) M (nx+1+1):=fun f l hq=>hq _ _ _ _ hE (Fz.same _ (by simp[plain,bJ,vP])) (.same _);cases one with
     |false=>
      have yu:=fin two k (by simpa using hR);cases two with
      |false=>
       simp[go_sem,aA];exact yu
      |true=>
       simp[go_sem,aA];exact yu
     |true=>
      cases two with
      |false=>
       have yu:=fin true c (by simpa using hR);simp[go_sem,aA];exact yu
      |true=>
       have yw:=zNv false false k c (by omega)
       by_cases q3:oI k c<0
       ·have yu:=fin true k (by simpa[q3]using hR);simp[go_sem,aA];refine aB.use yw ?_;simp[go_sem,aA,q3];exact yu
       ·have yu:=fin true c (by simpa[q3]using hR);simp[go_sem,aA];refine aB.use yw ?_;simp[go_sem,aA,q3];exact yu
    ·rw[if_pos q2]at hR;simp[go_sem,aA,q2];exact gP _ _ _ hE hR
   ·rw[if_pos q1]at hR;simp[go_sem,aA,q1];exact gP _ _ _ hE hR
  ·rw[if_pos eb]at hR;simp[go_sem,eb];refine gP _ _ _ ?_ hR;simp(disch:=omega)only[aK,az.refl]
 ·rw[if_pos ea]at hR;simp[go_sem,ea];refine gP _ _ _ ?_ hR;simp(disch:=omega)only[aK,az.refl]
end
section
variable {P : Program} {c : Cx} {σ τ υ : Sg} {h h' g f : Tr ABlk} {nx ax ny nz sz : Nat} {ds : List DE} {w x y : World} {tm tm' : Tr AV} {a : Act} {G : Gl} {r : Option Nat}
def lQ (us:Nat→AV):List (Nat×Nat)→Tr AV→Tr AV
 |[],tm=>tm
 |p::fl,tm=>(lQ us fl tm).put p.2 (some (us p.1))
def B5:List (Nat×Nat)→Tr AV→Tr AV
 |[],tm=>tm
 |p::fl,tm=>(B5 fl tm).put p.2 none
def zEm (us:Nat→AV)(fl:List (Nat×Nat)):AS→AS
 |.mk tm h nx ds=>.mk (lQ us fl tm) h nx ds
def zr (c:Cx)(l:List Oper)(us:Nat→AV)(lO:Tr AV)(h:Tr ABlk) (nx:Nat):List (Nat×Nat)→Prop
 |[]=>True
 |p::fl=>(match l[p.1]? with
  |some o=>jq c o.op lO h nx=.val (us p.1) h nx
  |none=>False)∧zr c l us lO h nx fl
def Br (need fW:List (Nat×Nat)):List (Nat×Nat):=fW.filter fun p=>!(need.any fun q=>Nat.beq q.1 p.1)
def sG (P:Program)(c:Cx) (sz:Nat)(l:List Oper)(us:Nat→AV)(lO:Tr AV)(K:AS→Prop):List (Nat×List (Nat×Nat))→List (Nat×Nat)→AS→Prop
 |[],fW,s=>zr c l us lO s.h s.nx fW∧K (zEm us fW s)
 |q::rest,fW,s=>zr c l us lO s.h s.nx fW∧match l[q.1]? with
  |some o=>cI P c sz l o (fun s'=>sG P c sz l us lO K rest (Br q.2 fW) s') (zEm us q.2 s)
  |none=>False
section
variable (P : Program) (c : Cx) (sz : Nat) (l : List Oper) (us : Nat → AV) (lO : Tr AV) (K : AS → Prop) (fW need : List (Nat × Nat)) (rest : List (Nat × List (Nat × Nat))) (i : Nat) (tm : Tr AV) (h : Tr ABlk) (nx : Nat) (ds : List DE)
@[go_sem ↓] theorem zVi:sG P c sz l us lO K [] fW (.mk tm h nx ds)=(zr c l us lO h nx fW∧K (.mk (lQ us fW tm) h nx ds)):=rfl
@[go_sem ↓] theorem ycl:sG P c sz l us lO K ((i,need)::rest) fW (.mk tm h nx ds)=(zr c l us lO h nx fW∧match l[i]? with
  |some o=>cI P c sz l o (fun s'=>sG P c sz l us lO K rest (Br need fW) s') (.mk (lQ us need tm) h nx ds)
  |none=>False):=rfl
attribute [go_sem] zr lQ B5 Br
end
def yO (k:Nat)(l:List Nat):Bool:=l.any fun j=>Nat.beq j k
def VK (o:Oper):Bool:=match o.guard with |none=>true |some _=>false
def QK (l:List Oper)(ms:List Nat)(fl:List (Nat×Nat))(bI:List (Nat×List (Nat×Nat))):Bool:=
 eJ l (fun o=>VK o && !(rA o.op)) &&
 eJ (jM l.length) (fun k=>(yO k (fl.map (·.1)) || yO k (bI.map (·.1))) && (match l[k]? with
  |none=>true
  |some o=>eJ o.after.toList (fun e=>match Region.binds .any e with |true=>Nat.ble (Nat.succ e.on) k |false=>true))) &&
 eJ fl (fun p=>!(yO p.1 (bI.map (·.1))) && (match l[p.1]? with
  |none=>false
  |some o=>(match o.dst with |some d=>Nat.beq d p.2 |none=>false) && eJ (jM l.length) (fun k=>match l[k]? with
   |none=>true
   |some ok=>(Nat.beq k p.1 || DV ok p.2) && eJ o.op.operands.toList (fun x=>match x with
    |.tmp t=>DV ok t || (yO k (fl.map (·.1)) && dn ms k p.1)
    |_=>true)))) &&
 eJ bI (fun q=>eJ q.2 (fun p=>fl.any (fun p'=>Nat.beq p'.1 p.1 && Nat.beq p'.2 p.2) && dn ms p.1 q.1)) &&
 eJ (jM bI.length) (fun m=>match bI[m]?,bI[m+1]? with
  |some q,some q'=>dn ms q.1 q'.1
  |_,_=>true)
structure FloatOk (l:List Oper)(ms:List Nat)(fl:List (Nat×Nat))(bI:List (Nat×List (Nat×Nat))):Prop where
 guard:∀o∈l,o.guard=none∧rA o.op=false
 all:∀k,k<l.length→(∃d,(k,d)∈fl)∨∃(m:Nat) (q:Nat×List (Nat×Nat)),bI[m]?=some q∧q.1=k
 back:∀k o,l[k]?=some o→∀e∈o.after.toList,Region.binds .any e=true→e.on<k
 sep:∀p∈fl,∀q∈bI,q.1≠p.1
 dst:∀p∈fl,∃o,l[p.1]?=some o∧o.dst=some p.2∧(∀k ok,l[k]?=some ok→k≠p.1→ok.dst≠some p.2)∧∀t,Operand.tmp t∈o.op.operands.toList→∀k ok,l[k]?=some ok→ok.dst=some t→(∃d,(k,d)∈fl)∧dn ms k p.1=true
 need:∀q∈bI,∀p∈q.2,p∈fl∧dn ms p.1 q.1=true
 ord:∀(m:Nat) (q q':Nat×List (Nat×Nat)),bI[m]?=some q→bI[m+1]?=some q'→dn ms q.1 q'.1=true
def KR {k:Nat}{l:List Nat}:yO k l=true↔k∈l:=by
 unfold yO;rw[List.any_eq_true];constructor
 ·rintro⟨j,h1,h2⟩
  rw[← ad h2];exact h1
 ·intro h;exact⟨k,h,Nat.beq_refl k⟩
def zOk {l:List Oper}{ms:List Nat}{fl:List (Nat×Nat)}{bI:List (Nat×List (Nat×Nat))}(hf:QK l ms fl bI=true):FloatOk l ms fl bI:=by
 unfold QK at hf;simp only[ao]at hf;obtain⟨⟨⟨⟨h1,h2⟩,h3⟩,h4⟩,h5⟩:=hf;refine⟨fun o ho=>?_,fun k hk=>?_,fun k o ho e he hb=>?_,fun p hp q hq e=>?_,fun p hp=>?_,fun q hq p hp=>?_,fun m q q' e1 e2=>?_⟩
 ·have:=ep h1 o ho;rw[ao]at this;refine⟨?_,by simpa using this.2⟩;have h:=this.1;unfold VK at h;cases hg:o.guard with
  |none=>rfl
  |some _=>rw[hg]at h;cases h
 ·have:=ep h2 k (List.mem_range.2 hk);rw[ao,Bool.or_eq_true]at this
  rcases this.1 with e |e
  ·obtain⟨p,hp,rfl⟩:=List.mem_map.1 (KR.1 e);exact .inl ⟨p.2,hp⟩
  ·obtain⟨q,hq,rfl⟩:=List.mem_map.1 (KR.1 e);obtain⟨m,hm,e2⟩:=List.getElem_of_mem hq;exact .inr ⟨m,q,by rw[aa hm,e2],rfl⟩
 ·have hk:k<l.length:=(List.getElem?_eq_some_iff.1 ho).1;have:=ep h2 k (List.mem_range.2 hk);rw[ao]at this;have h6:=this.2;rw[ho]at h6;have:=ep h6 e he;rw[hb]at this;exact ai this
 ·have:=ep h3 p hp;rw[ao]at this;have h6:yO p.1 (bI.map (·.1))=false:=by simpa using this.1
  have:yO p.1 (bI.map (·.1))=true:=KR.2 (List.mem_map.2 ⟨q,hq,e⟩);rw[h6]at this;cases this
 ·have:=ep h3 p hp;rw[ao]at this;have h6:=this.2;cases ho:l[p.1]? with
  |none=>rw[ho]at h6;cases h6
  |some o=>
   rw[ho]at h6;simp only[ao]at h6;obtain⟨h7,h8⟩:=h6;refine⟨o,rfl,?_,fun k ok hk aT=>?_,fun t ht k ok hk hd=>?_⟩
   ·cases hd:o.dst with
    |none=>rw[hd]at h7;cases h7
    |some d=>rw[hd]at h7;rw[ad h7]
   ·have ay:k<l.length:=(List.getElem?_eq_some_iff.1 hk).1;have:=ep h8 k (List.mem_range.2 ay);rw[hk]at this;simp only[ao,Bool.or_eq_true]at this
    rcases this.1 with e |e
    ·exact absurd (ad e) aT
    ·exact LA e
   ·have ay:k<l.length:=(List.getElem?_eq_some_iff.1 hk).1;have:=ep h8 k (List.mem_range.2 ay);rw[hk]at this;simp only[ao]at this;have:=ep this.2 _ ht;simp only[Bool.or_eq_true,ao]at this
    rcases this with e |⟨e1,e2⟩
    ·exact absurd hd (LA e)
    ·obtain⟨p',gR,e3⟩:=List.mem_map.1 (KR.1 e1);exact⟨⟨p'.2,by rw[← e3];exact gR⟩,e2⟩
 ·have:=ep (ep h4 q hq) p hp;rw[ao,List.any_eq_true]at this;obtain⟨⟨p',gR,e⟩,h6⟩:=this;rw[ao]at e;have:p'=p:=Prod.ext (ad e.1) (ad e.2);exact⟨this ▸ gR,h6⟩
 ·have hm:m<bI.length:=(List.getElem?_eq_some_iff.1 e1).1;have:=ep h5 m (List.mem_range.2 hm);rw[e1,e2]at this;exact this
def Et (us:Nat→AV) (t:Nat):∀(fl:List (Nat×Nat))(tm:Tr AV),(∀p∈fl,p.2≠t)→(lQ us fl tm).get t=tm.get t
 |[],tm,_=>rfl
 |p::fl,tm,hh=>by
  rw[lQ,Tr.get_put,if_neg (fun e=>hh p aq e.symm),Et us t fl tm fun q hq=>hh q (an _ hq)]
def La (us:Nat→AV){p:Nat×Nat}:∀(fl:List (Nat×Nat))(tm:Tr AV),(∀q∈fl,q.2=p.2→q.1=p.1)→p∈fl→(lQ us fl tm).get p.2=some (us p.1)
 |[],tm,_,hp=>by cases hp
 |q::fl,tm,hh,hp=>by
  rw[lQ,Tr.get_put]
  by_cases e:p.2=q.2
  ·rw[if_pos e,hh q aq e.symm]
  ·rw[if_neg e]
   rcases List.mem_cons.1 hp with h1 |h1
   ·exact absurd (by rw[h1]) e
   ·exact La us fl tm (fun q' ra=>hh q' (an _ ra)) h1
def Lp (t:Nat):∀(fl:List (Nat×Nat))(tm:Tr AV),(B5 fl tm).get t=if t∈fl.map (·.2) then none else tm.get t
 |[],tm=>by simp[B5]
 |p::l,tm=>by
  rw[B5,Tr.get_put,Lp t l tm]
  by_cases e:t=p.2
  ·simp[e]
  ·simp only[List.map_cons,List.mem_cons,e,false_or,if_false]
def ZT {l:List Oper}{us:Nat→AV}{lO:Tr AV}{p:Nat×Nat}{o:Oper}(ho:l[p.1]?=some o):∀{fl:List (Nat×Nat)},zr c l us lO h nx fl→p∈fl→jq c o.op lO h nx=.val (us p.1) h nx
 |[],_,hp=>by cases hp
 |q::fl,hs,hp=>by
  rcases List.mem_cons.1 hp with h1 |h1
  ·subst h1;have:=hs.1;rw[ho]at this;exact this
  ·exact ZT ho hs.2 h1
def zu (tm:Tr AV):List Operand→Tr AV
 |[]=>.nil
 |x::l=>match x with
  |.tmp t=>(zu tm l).put t (tm.get t)
  |_=>zu tm l
def Kr (tm:Tr AV) (t:Nat):∀l:List Operand,(Operand.tmp t∈l→(zu tm l).get t=tm.get t)∧(¬Operand.tmp t∈l→(zu tm l).get t=none)
 |[]=>⟨(fun h=>by cases h),(fun _=>by rw[zu];rfl)⟩
 |x::l=>by
  obtain⟨h1,h2⟩:=Kr tm t l;cases x with
  |tmp s=>
   rw[zu,Tr.get_put]
   by_cases e:t=s
   ·subst e;exact⟨fun _=>by rw[if_pos rfl],fun q=>absurd aq q⟩
   ·rw[if_neg e];refine⟨fun q=>h1 ?_,fun q=>h2 fun q2=>q (an _ q2)⟩
    rcases List.mem_cons.1 q with q |q
    ·cases q;exact absurd rfl e
    ·exact q
  |_=>
   refine⟨fun q=>h1 ?_,fun q=>h2 fun q2=>q (an _ q2)⟩
   rcases List.mem_cons.1 q with q |q
   ·cases q
   ·exact q
structure FInv (P:Program)(c:Cx) (sz:Nat)(l:List Oper)(us:Nat→AV)(fl:List (Nat×Nat))(bI:List (Nat×List (Nat×Nat)))(eg lO:Tr AV)(K:AS→Prop)(σ0:Sg)(h0:Tr ABlk) (n0:Nat)(w0:World)(ds:List DE)(L:Array Bool)(a:Act)(w:World):Prop where
 ex:∃m fW τ tm h nx,(∀q p,bI[q]?=some p→(L.getD p.1 false=true↔q<m))∧sG P c sz l us lO K (bI.drop m) fW (.mk tm h nx ds)∧Post c.G σ0 h0 n0 w0 τ h nx w∧St τ tm a sz ds∧
  (∀p∈fl,L.getD p.1 false=true→av τ (us p.1) (a.tmps.getD p.2 undef))∧(∀p∈fW,p∈fl∧tm.get p.2=none)∧(∀p∈fl,¬p∈fW→L.getD p.1 false=true)∧(∀t,(∀o∈l,o.dst≠some t)→tm.get t=eg.get t)
def TE (hm:P.follows .mixedOrders=true)(hc:CxOk P c){inr:Bool}{id:Nat}{l:List Oper}(us:Nat→AV)(fl:List (Nat×Nat))(bI:List (Nat×List (Nat×Nat)))(hB:QK l (bP l []) fl bI=true){Q:AX→AS→Prop}{tm:Tr AV}{h:Tr ABlk}{nx:Nat}{ds:List DE}
  (ay:∀p∈fl,p.2<sz) (hw:sG P c sz l us (lQ us fl tm) (Q .norm) bI fl (.mk (B5 fl tm) h nx ds)):AW P c inr sz (.region id l.toArray true) Q (.mk tm h nx ds):=by
 intro r hi σ a w ok st;simp only[AS.tm,AS.h,AS.nx,AS.ds]at ok st ⊢;have X:=zOk hB;have dL:xC l.toArray (bP l []):=Eu l [] (fun j m hj=>by simp at hj) fun j=>by simp
 have gC:(bP l []).length=l.length:=by
  have key:∀(l:List Oper) (acc:List Nat),(bP l acc).length=acc.length+l.length:=by
   intro l
   induction l with
   |nil=>intro acc;rfl
   |cons o l ih=>
    intro acc;show (bP l (acc++[vm acc o.after.toList])).length=_;rw[ih];simp;omega
  simpa using key l []
 refine wpIn_region_any hm ?_;have jt:=Post.drawn ok (w.drawn+1);generalize hQ:AQ c.G σ h nx w sz Q=QQ;have bC:l.toArray.size=l.length:=by simp
 have bH:∀j,l.toArray[j]?=l[j]?:=fun j=>List.getElem?_toArray;have dQ:∀n i,(Array.replicate n false).getD i false=false:=by
  intro n i;simp only[Array.getD_eq_getD_getElem?,Array.getElem?_replicate];split <;> rfl
 have lA:∀k,k<l.toArray.size→∀x,gO l.toArray x k=true→x<k:=by
  intro k hk x hd;rw[bC]at hk;unfold gO at hd;rw[bH,aa hk]at hd;simp only[Option.map_some,Option.getD_some,Array.any_eq_true']at hd;obtain⟨e,he,hb⟩:=hd;rw[ao]at hb;have yJ:e.on=x:=by simpa using hb.2
  rw[← yJ];exact X.back k _ (aa hk) e (by simpa using he) hb.1
 have nN:∀p∈fl,∀q∈fl,q.2=p.2→q.1=p.1:=by
  intro p hp q hq e;obtain⟨o,o1,o2,o3,_⟩:=X.dst p hp;obtain⟨o',vn,w9,_⟩:=X.dst q hq
  by_cases e2:q.1=p.1
  ·exact e2
  ·exact absurd (by rw[w9,e]) (o3 q.1 o' vn e2)
 have Gz:∀p∈fl,∃o∈l,o.dst=some p.2:=by
  intro p hp;obtain⟨o,o1,o2,_⟩:=X.dst p hp;exact⟨o,List.mem_of_getElem? o1,o2⟩
 let I:Array Bool→Act→World→Prop:=fun L a' w'=>qm l.toArray L∧FInv P c sz l us fl bI tm (lQ us fl tm) (Q .norm) σ h nx w ds L a' w'
 have eC:∀(L:Array Bool) (i:Nat),i<L.size→qm l.toArray L→(∀k,gO l.toArray k i=true→L.getD k false=true)→qm l.toArray (L.setIfInBounds i true):=by
  intro L i iZ aX ba j hj k aW;rw[zq iZ]at hj ⊢
  by_cases qT:k=i
  ·rw[if_pos qT]
  ·rw[if_neg qT]
   by_cases eX:j=i
   ·subst eX;exact ba k aW
   ·rw[if_neg eX]at hj;exact aX j hj k aW
 refine Lx I ?step ?done l.toArray.size _ a _ (by simp) ?count ?init
 case count=>simp
 case init=>
  refine⟨(fun j hj=>by rw[dQ]at hj;cases hj),⟨0,fl,σ,B5 fl tm,h,nx,fun q p e=>⟨fun e2=>(by rw[dQ]at e2;cases e2),fun e2=>by omega⟩,by simpa using hw,jt,⟨fun t u e=>?_,st.size,st.defers⟩,fun p hp e=>(by rw[dQ]at e;cases e),fun p hp=>⟨hp,?_⟩,fun p hp e=>absurd hp e,fun t ht=>?_⟩⟩
  ·rw[Lp]at e;split at e
   ·cases e
   ·exact st.tm t u e
  ·rw[Lp,if_pos (List.mem_map.2 ⟨p,hp,rfl⟩)]
  ·rw[Lp,if_neg];intro lG;obtain⟨p,hp,rfl⟩:=List.mem_map.1 lG;obtain⟨o,ho,hd⟩:=Gz p hp;exact ht o ho hd
 case done=>
  intro L a' w' hs hI hr;have aQ:=Mf lA hr hs;obtain⟨_,m,fW,τ,tm',h',ax,i1,i2,i3,i4,i5,i6,i7,i8⟩:=hI;have Ji:bI.length≤m:=by
   rcases Nat.lt_or_ge m bI.length with cv |kP
   ·exfalso;have e:=aa cv
    by_cases hk:(bI[m]).1<l.length
    ·have:=(i1 m _ e).1 (aQ _ (by rw[bC];exact hk));omega
    ·rw[aj cv,sG]at i2;have:=i2.2;rw[List.getElem?_eq_none (by omega)]at this;exact this
   ·exact kP
  rw[al Ji,sG]at i2;rw[← hQ];refine⟨.norm,_,_,_,ds,τ,rfl,i3,⟨fun t u e=>?_,i4.size,i4.defers⟩,i2.2⟩
  by_cases hp:∃p∈fW,p.2=t
  ·obtain⟨p,hp,rfl⟩:=hp;rw[La us fW tm' (fun q hq e=>nN p (i6 p hp).1 q (i6 q hq).1 e) hp]at e;cases e;obtain⟨o,o1,_⟩:=X.dst p (i6 p hp).1;exact i5 p (i6 p hp).1 (aQ _ (by rw[bC];exact(List.getElem?_eq_some_iff.1 o1).1))
  ·rw[Et us t fW tm' fun p gR e2=>hp ⟨p,gR,e2⟩]at e;exact i4.tm t u e
 case step=>
  intro L a1 w1 i hs hI hi;obtain⟨ct,tF,ba⟩:=BQ.1 hi;have iZ:i<L.size:=by omega
  have cS:L.getD i false=false:=by simpa[Array.getD,iZ]using tF
  rw[bC]at ct;obtain⟨aX,m,fW,τ,tm',h',ax,i1,i2,i3,i4,i5,i6,i7,i8⟩:=hI;have cg:∀j,(L.setIfInBounds i true).getD j false=if j=i then true else L.getD j false:=fun j=>zq iZ
  have bw:∀k,dn (bP l []) k i=true→L.getD k false=true:=by
   intro k hb;unfold dn at hb;rw[DI]at hb;obtain⟨mm,lG⟩:∃mm,(bP l [])[i]?=some mm:=⟨_,aa (by omega)⟩;have e:(bP l []).getD i 0=mm:=by simp[List.getD,lG]
   rw[e]at hb;exact dL i mm lG k hb L aX ba
  have oX:l[i]?=some l[i]:=aa ct;obtain⟨cY,pM⟩:=X.guard l[i] (ah ct);have cD:Region.wanted l[i] (yielded l.toArray a1.tmps)=true:=by unfold Region.wanted;rw[cY]
  have tP:zr c l us (lQ us fl tm) h' ax fW:=by
   cases hd:bI.drop m with
   |nil=>rw[hd,sG]at i2;exact i2.1
   |cons q rest=>rw[hd,sG]at i2;exact i2.1
  unfold wpOpIn;rw[bH,oX];simp only;rw[cD];simp only[if_true]
  rcases X.all i ct with⟨d,hp⟩ |⟨q,pq,e1,e2⟩
  ·
   obtain⟨o,o1,o2,o3,o4⟩:=X.dst (i,d) hp;have ho:l[i]=o:=by
    have:=oX;rw[o1]at this;exact(Option.some.inj this).symm
   rw[ho];rw[ho]at pM;have A4:(i,d)∈fW:=by
    by_cases hh:(i,d)∈fW
    ·exact hh
    ·have:=i7 _ hp hh;rw[cS]at this;cases this
   have fU:=ZT o1 tP A4;have ri:vz (zu (lQ us fl tm) o.op.operands.toList) (lQ us fl tm) o.op.operands.toList:=fun t ht=>(Kr _ t _).1 ht;have oY:kE τ (zu (lQ us fl tm) o.op.operands.toList) a1:=by
    intro t u e
    by_cases ht:Operand.tmp t∈o.op.operands.toList
    ·rw[(Kr _ t _).1 ht]at e
     by_cases Vx:∃ok∈l,ok.dst=some t
     ·obtain⟨ok,hk,hd⟩:=Vx;obtain⟨k,eO,ek⟩:=List.getElem_of_mem hk;have hk?:l[k]?=some ok:=by rw[aa eO,ek]
      obtain⟨⟨d',Je⟩,FD⟩:=o4 t ht k ok hk? hd;obtain⟨o',vn,w9,_⟩:=X.dst (k,d') Je;have hdt:d'=t:=by
       rw[hk?]at vn;cases vn;rw[hd]at w9;exact(Option.some.inj w9).symm
      subst hdt;have h1:=La us (p:=(k,d')) fl tm (fun q hq e=>nN _ Je q hq e) Je;simp only at h1;rw[h1]at e;cases e;exact i5 (k,d') Je (bw k FD)
     ·have gE:∀ok∈l,ok.dst≠some t:=fun ok hk hd=>Vx ⟨ok,hk,hd⟩;rw[Et us t fl tm (fun p gR e2=>by
       obtain⟨ok,hk,hd⟩:=Gz p gR;exact gE ok hk (by rw[hd,e2])),← i8 t gE]at e
      exact i4.tm t u e
    ·rw[(Kr _ t _).2 ht]at e;cases e
   have A2:=Rp hc i3.ok oY o;rw[zF4 o.op ri,fU]at A2;obtain⟨V,τ2,x2,r1,r2,r3⟩:=A2;refine kG (fun cl e=>by rw[e]at pM;cases pM) ?_;rw[r1];show I (L.setIfInBounds i true) (a1.put o.dst V) x2;rw[o2];have FV:d<a1.tmps.size:=by rw[i4.size];exact ay _ hp
   refine⟨eC L i iZ aX ba,⟨m,fW,τ2,tm',h',ax,fun q p e=>?_,i2,i3.trans r3,⟨fun t u e=>?_,by simpa[Act.put]using i4.size,i4.defers.mono r3.le⟩,fun p gR e=>?_,i6,fun p gR e=>?_,i8⟩⟩
   ·rw[cg,if_neg (X.sep _ hp p (List.mem_of_getElem? e))];exact i1 q p e
   ·have aT:some d≠some t:=fun e2=>by
     have:=(i6 _ A4).2;simp only at this;rw[← Option.some.inj e2,this]at e;cases e
    rw[DN aT];exact(i4.tm t u e).mono r3.le
   ·by_cases e3:p.2=d
    ·have e4:p.1=i:=nN (i,d) hp p gR e3;rw[e3,e4];simpa[Act.put,Array.getD_eq_getD_getElem?,FV]using r2
    ·rw[DN (fun e4=>e3 (Option.some.inj e4).symm)];have tI:p.1≠i:=by
      intro e5;obtain⟨o',vn,w9,_⟩:=X.dst p gR;rw[e5,o1]at vn;cases vn;rw[o2]at w9;exact e3 (Option.some.inj w9).symm
     rw[cg,if_neg tI]at e;exact(i5 p gR e).mono r3.le
   ·rw[cg];split
    ·rfl
    ·exact i7 p gR e
  ·
   subst e2;have hqm:q=m:=by
    have h1:¬q<m:=fun hh=>by rw[(i1 q pq e1).2 hh]at cS;cases cS
    rcases Nat.lt_or_ge m q with h2 |h2
    ·exfalso;obtain⟨q',rfl⟩:∃q',q=q'+1:=⟨q-1,by omega⟩;have Jn:=(List.getElem?_eq_some_iff.1 e1).1;have e3:bI[q']?=some (bI[q']'(by omega)):=aa _;have:=(i1 q' _ e3).1 (bw _ (X.ord q' _ _ e3 e1));omega
    ·omega
   subst hqm;have Jn:=(List.getElem?_eq_some_iff.1 e1).1;have Vh:bI[q]=pq:=(List.getElem?_eq_some_iff.1 e1).2;rw[aj Jn,Vh,sG]at i2;obtain⟨_,i2⟩:=i2;rw[oX]at i2;simp only at i2;have yK:pq∈bI:=List.mem_of_getElem? e1;have vo:St τ (lQ us pq.2 tm') a1 sz ds:=by
    refine⟨fun t u e=>?_,i4.size,i4.defers⟩
    by_cases hp:∃p∈pq.2,p.2=t
    ·obtain⟨p,hp,rfl⟩:=hp;obtain⟨n1,n2⟩:=X.need pq yK p hp;rw[La us pq.2 tm' (fun q' ra e=>nN p n1 q' (X.need pq yK q' ra).1 e) hp]at e;cases e;exact i5 p n1 (bw _ n2)
    ·rw[Et us t pq.2 tm' fun p gR e2=>hp ⟨p,gR,e2⟩]at e;exact i4.tm t u e
   have Bb:cI P c sz l.toArray.toList l[pq.1] (fun s'=>sG P c sz l us (lQ us fl tm) (Q .norm) (bI.drop (q+1)) (Br pq.2 fW) s') (.mk (lQ us pq.2 tm') h' ax ds):=i2;have fq:=J7 hc (ops:=l.toArray) (XH Bb) (r:=r) (a:=a1) (σ:=τ) (w:=w1) i3.ok vo QQ (I (L.setIfInBounds pq.1 true)) fun υ aZ V w2 h2 rU k1 p1 s1=>?_
   ·rw[cD]at fq;simpa only[if_true]using fq
   obtain⟨k1,k2⟩:=k1;have FW:∀p∈fl,l[pq.1].dst≠some p.2:=by
    intro p hp;obtain⟨o,o1,o2,o3,_⟩:=X.dst p hp;exact o3 pq.1 _ oX (X.sep p hp pq yK)
   have Vo:∀p,p∈Br pq.2 fW↔p∈fW∧∀p'∈pq.2,p'.1≠p.1:=by
    intro p;unfold Br;rw[List.mem_filter];constructor
    ·rintro⟨h1,h2⟩
     refine⟨h1,fun p' gR e=>?_⟩;have:(pq.2.any fun q=>Nat.beq q.1 p.1)=true:=List.any_eq_true.2 ⟨p',gR,by rw[e];exact Nat.beq_refl _⟩;rw[this]at h2;cases h2
    ·rintro⟨h1,h2⟩
     refine⟨h1,?_⟩;cases hh:(pq.2.any fun q=>Nat.beq q.1 p.1) with
     |false=>rfl
     |true=>
      obtain⟨p',gR,e⟩:=List.any_eq_true.1 hh;exact absurd (ad e) (h2 p' gR)
   refine⟨eC L _ iZ aX ba,⟨q+1,Br pq.2 fW,υ,aZ,h2,rU,fun q' p' e=>?_,k1,i3.trans p1,s1,fun p hp e=>?_,fun p hp=>?_,fun p hp e=>?_,fun t ht=>?_⟩⟩
   ·rw[cg]
    by_cases e5:p'.1=pq.1
    ·rw[if_pos e5];refine⟨fun _=>?_,fun _=>rfl⟩
     rcases Nat.lt_or_ge q' (q+1) with h6 |h6
     ·exact h6
     ·exfalso;obtain⟨Dt,rfl⟩:∃Dt,q'=Dt+1:=⟨q'-1,by omega⟩;have qap:=(List.getElem?_eq_some_iff.1 e).1;have e3:bI[Dt]?=some (bI[Dt]'(by omega)):=aa _;have hb:=X.ord Dt _ _ e3 e;rw[e5]at hb;have:=(i1 Dt _ e3).1 (bw _ hb);omega
    ·rw[if_neg e5,i1 q' p' e];constructor
     ·intro h6;omega
     ·intro h6
      rcases Nat.lt_or_ge q' q with h7 |h7
      ·exact h7
      ·exfalso;have:q'=q:=by omega
       subst this;rw[e1]at e;cases e;exact e5 rfl
   ·rw[DN (FW p hp)];rw[cg,if_neg (fun e5=>X.sep p hp pq yK e5.symm)]at e;exact(i5 p hp e).mono p1.le
   ·obtain⟨h1,MS⟩:=(Vo p).1 hp;refine⟨(i6 p h1).1,?_⟩;have h9:aZ.get p.2=(lQ us pq.2 tm').get p.2:=k2 p.2 (FW p (i6 p h1).1);rw[h9,Et us p.2 pq.2 tm' fun p' gR e5=>MS p' gR (nN p (i6 p h1).1 p' (X.need pq yK p' gR).1 e5)];exact(i6 p h1).2
   ·rw[cg];split
    ·rfl
    ·by_cases h1:p∈fW
     ·have:∃p'∈pq.2,p'.1=p.1:=by
       by_cases hh:∃p'∈pq.2,p'.1=p.1
       ·exact hh
       ·exact absurd ((Vo p).2 ⟨h1,fun p' gR e5=>hh ⟨p',gR,e5⟩⟩) e
      obtain⟨p',gR,e5⟩:=this;rw[← e5];exact bw _ (X.need pq yK p' gR).2
     ·exact i7 p hp h1
   ·have h1:aZ.get t=(lQ us pq.2 tm').get t:=k2 t (ht _ (ah ct));rw[h1,Et us t pq.2 tm' fun p' gR e5=>by
     obtain⟨o,ho,hd⟩:=Gz p' (X.need pq yK p' gR).1;exact ht o ho (by rw[hd,e5])]
    exact i8 t ht
end
section
open Go.Proofs Go.RowKit
variable {G : Gl} {σ τ υ : Sg} {h g f : Tr ABlk} {nx ny nz : Nat} {w w' x y : World}
def Post.adopt (hk:Ok G σ h nx w)(dX:Below w.heap.size w w'){b:Nat}(hb:w.heap.size≤b) (c:Nat)(B:ABlk)(o:Obj)(ho:w'.heap[b]?=some o)(hB:cq (σ.add nx b c) nx B o):
  Post G σ h nx w (σ.add nx b c) (h.put nx (some B)) (nx+1) w':=by
 have p:=Post.same hk dX.os dX.tape dX.output dX.size dX.block;have aW:=p.ok;have hle:σ.Le (σ.add nx b c):=Sg.add_le (hk.fresh nx (ae _));refine⟨⟨fun a ha=>?_,by have:=hk.le;omega,fun i hi=>?_,fun i j b' B1 B2 h1 h2 h3 h4=>?_,fun i B1 h1=>?_,fun b' C aV=>?_,fun g cs hg=>(hk.gl g cs hg).mono hle⟩,hle,⟨dX.os,dX.tape,dX.output,dX.size,fun b' aV _=>dX.block b' aV,fun i B1 b' h1 h2=>?_,fun _ _ h=>.inl h⟩,by omega⟩
 ·have:a≠nx:=by have:=hk.le;omega
  simp[Sg.add,this,hk.glob a ha]
 ·have:i≠nx:=by omega
  simp[Sg.add,this,hk.fresh i (by omega)]
 ·rw[Tr.get_put]at h1 h2;have gD:∀k B',(if k=nx then some B else h.get k)=some B'→k≠nx→(σ.add nx b c).blk k=some b'→h.get k=some B'∧σ.blk k=some b'∧b'<w.heap.size:=by
   intro k B' hh aT iJ;rw[if_neg aT]at hh;have aV:σ.blk k=some b':=by simpa[Sg.add,aT]using iJ
   exact⟨hh,aV,hk.blt hh aV⟩
  by_cases e1:i=nx <;> by_cases e2:j=nx
  ·omega
  ·obtain⟨_,_,ay⟩:=gD j B2 h2 e2 h4;have:b'=b:=by subst e1;simpa[Sg.add]using h3.symm
   omega
  ·obtain⟨_,_,ay⟩:=gD i B1 h1 e1 h3;have:b'=b:=by subst e2;simpa[Sg.add]using h4.symm
   omega
  ·obtain⟨a1,a2,_⟩:=gD i B1 h1 e1 h3;obtain⟨c1,c2,_⟩:=gD j B2 h2 e2 h4;exact hk.inj i j b' B1 B2 a1 c1 a2 c2
 ·rw[Tr.get_put]at h1
  by_cases e:i=nx
  ·rw[if_pos e]at h1;cases h1;subst e;exact⟨b,o,by simp[Sg.add],ho,hB⟩
  ·rw[if_neg e]at h1;obtain⟨b',o',aV,fJ,hr⟩:=aW.blk i B1 h1;exact⟨b',o',(hle.blk i b' aV).1,fJ,hr.mono hle aV⟩
 ·obtain⟨h1,h2⟩:=aW.imm b' C aV;refine⟨h1,fun i B' hi e=>?_⟩;rw[Tr.get_put]at hi
  by_cases e':i=nx
  ·subst e';have CZ:b'=b:=by simpa[Sg.add]using e.symm
   obtain⟨⟨t,fr,h3⟩,_⟩:=hk.imm b' C aV;have:b'<w.heap.size:=BZ h3;omega
  ·rw[if_neg e']at hi;exact h2 i B' hi (by simpa[Sg.add,e']using e)
 ·rw[Tr.get_put]at h1
  by_cases e:i=nx
  ·subst e;have:b'=b:=by simpa[Sg.add]using h2.symm
   exact .inl (by omega)
  ·rw[if_neg e]at h1;have iJ:σ.blk i=some b':=by simpa[Sg.add,e]using h2
   exact .inr ⟨i,B1,h1,iJ⟩
def zGq {P:Program}{c:Cx}(hc:CxOk P c){fid:FuncId}{fn:Func}(bO:c.ft.get fid=some fn){es e sz:Nat}{full:Bool}{R:AV→Tr ABlk→Nat→Prop}
  (h1:∀(n cp:Nat) (w:World),Calls P fid #[.slice none n cp] w fun e w'=>e=.returned (.slice none 0 0)∧w'=w)
  (h2:∀(a:Addr) (cp:Nat) (w:World),Calls P fid #[.slice (some a) 0 cp] w fun q w'=>∃v',q=.returned v'∧w'.ownsRow w.heap.size e sz v' 0 []∧v'≠.slice none 0 0∧Below w.heap.size w w')
  (hR:R .sl0 h nx) (fE:R (.sl nx 0 0 0 true) (h.put nx (some (bx e [] true sz))) (nx+1)):bf P c fid [.fz es full []] h nx R:=by
 intro σ w A hk hA;simp only[aC,av]at hA;obtain⟨V,L,rfl,⟨a,cap,rfl,_,_,ha,_⟩,rfl⟩:=hA;refine Hw hc bO ?_;cases a with
 |none=>
  refine(h1 0 cap w).mono ?_
  rintro q w' ⟨rfl,rfl⟩
  exact⟨σ,.sl0,h,nx,by simp only[av],.refl hk,hR⟩
 |some a=>
  refine(h2 a cap w).mono ?_
  rintro q w' ⟨v',rfl,ho,aT,hb⟩
  obtain⟨_,⟨e1,_⟩ |⟨g,cp,cur,rfl,hg,aE,_,_,dD,_⟩⟩:=ho
  ·exact absurd e1 aT
  ·refine⟨σ.add nx g cp,.sl nx 0 0 0 true,h.put nx (some (bx e [] true sz)),nx+1,?_,Post.adopt hk hb hg cp _ _ aE ?_,fE⟩
   ·simp only[av];exact⟨g,by simp[Sg.add],by simp[Sg.add],by simp⟩
   ·simp only[bx,cq];refine⟨cur,(0,0),rfl,fun k hk=>by simp at hk,fun k _=>by omega,?_⟩;simp[Sg.add,dD]
end
end
end Go.Ev
