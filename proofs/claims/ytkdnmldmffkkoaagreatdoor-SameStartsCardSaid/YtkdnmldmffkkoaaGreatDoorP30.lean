/- Texts T70. -/
import Derived.Test.YtkdnmldmffkkoaaGreatDoorP29
set_option linter.unusedSimpArgs false
set_option linter.unusedVariables false
set_option maxRecDepth 100000
namespace Go.Ev
open Go.Proofs Go.RowKit
noncomputable section
attribute [-go_sem] zaf zac zay zbj
theorem zKb {s:ByteArray}{i:Nat}(h:i<s.size):cl s i=(zk3 (s[i]).toNat:Int):=by
 unfold cl zjz
 rw[dif_pos h]
theorem zN4 {s:ByteArray}{i:Nat}(h:i<s.size)(hc:cl s i=2):i<zgd s s.size i:=by
 obtain⟨m,hm⟩:∃m,s.size=m+1:=⟨s.size-1,by omega⟩
 have h10:¬(s[i]).toNat=10:=by
  intro e
  rw[zKb h,e]at hc
  exact absurd hc (by decide)
 rw[hm,zgd,dif_pos h,if_neg h10]
 have:=(zsk s m (i+1) h).1
 omega
theorem zze {s:ByteArray}{f j:Nat}(h:¬j<s.size∨∃q:j<s.size,(s[j]).toNat=10):zgd s f j=j:=by
 cases f with
 |zero=>rfl
 |succ f=>
  rw[zgd]
  rcases h with h |⟨q,h⟩
  ·rw[dif_neg h]
  ·rw[dif_pos q,if_pos h]
theorem zBd {p:Int→Bool}(hp:p 0=false){s:ByteArray}{i:Nat}(h:i<s.size)(hc:p (cl s i)=true):i<zbw p s s.size i:=by
 obtain⟨m,hm⟩:∃m,s.size=m+1:=⟨s.size-1,by omega⟩
 rw[hm,zbw,if_pos hc]
 have:=(zr6 p hp s m (i+1) h).1
 omega
theorem zKh {s:ByteArray}{i j:Nat}(hj:j≤s.size)(h:∀k,i≤k→k<j→cl s k=4):∀z∈(s.extract i j).data.toList,48≤z.toNat∧z.toNat≤57:=by
 intro z hz
 rw[ByteArray.data_extract]at hz
 obtain⟨k,hk,e⟩:=List.getElem_of_mem hz
 rw[Array.getElem_toList,Array.getElem_extract]at e
 simp only[Array.length_toList,Array.size_extract]at hk
 have hsz:s.data.size=s.size:=rfl
 have hk2:i+k<s.size:=by omega
 have h4:=h (i+k) (by omega) (by omega)
 have:cl s (i+k)=(zk3 (s[i+k]).toNat:Int):=by unfold cl zjz;rw[dif_pos hk2]
 rw[this]at h4
 have h5:zk3 (s[i+k]).toNat=4:=by omega
 have h6:=zS9 h5
 have e2:s[i+k]=z:=by rw[← e];rfl
 rw[e2]at h6
 exact h6
theorem extract_size {s:ByteArray}{i j:Nat}(h1:i≤j)(hj:j≤s.size):(s.extract i j).size=j-i:=by
 rw[ByteArray.size_extract]
 omega
theorem zzc:cx.ft.get 222=some Tryz.f222:=za9 (by decide) (by kernel_rfl)
def zdf {S:Type}(step:S→Tk→S×Bool)(src:ByteArray):Nat→S→Nat→S×Bool
 |0,s,_=>(s,true)
 |f+1,s,i=>if src.size≤i then (s,true) else if cl src i=1 then zdf step src f s (i+1) else if cl src i=2 then zdf step src f s (zgd src src.size i) else
  if (step s (zbo src i).1).2=false then ((step s (zbo src i).1).1,false) else if (zbo src i).1.code≠0 then ((step s (zbo src i).1).1,true) else zdf step src f (step s (zbo src i).1).1 (zbo src i).2
structure VisT (P:Program)(c:Cx)(S:Type)(step:S→Tk→S×Bool)(Pre:S→Tk→Prop) (y:Nat)(J JE:S→(Nat→Prop)→Tr ABlk→Nat→Prop):Prop where
 ext:∀s O h nx h' nx',J s O h nx→(∀k,O k→h'.get k=h.get k)→nx≤nx'→J s O h' nx'
 lt:∀s O h nx,J s O h nx→∀k,O k→k<nx
 yld:∀s O t h nx,Pre s t→J s O h nx→zgp P c y [.agg t.cs] h nx fun v g ny=>v=.bool (step s t).2∧∃O',zbp O h nx O' g ny∧(if (step s t).2 then J (step s t).1 O' g ny else JE (step s t).1 O' g ny)
set_option maxHeartbeats 4000000 in
theorem zOm {S:Type}{step:S→Tk→S×Bool}{y:Nat}{J JE:S→(Nat→Prop)→Tr ABlk→Nat→Prop}(V:VisT Tryz.prog cx S step (fun _ _=>True) y J JE)(src:ByteArray)(hs:src.size≤20000)(s:S)(O:Nat→Prop)(h:Tr ABlk) (nx:Nat)(hJ:J s O h nx):
  za7 Tryz.prog cx 222 [.yld y,.ip [.bs src],.ip [znq src]] h nx fun _ g ny=>∃O',zbp O h nx O' g ny∧(if (zdf step src (src.size+1) s 0).2 then J (zdf step src (src.size+1) s 0).1 O' g ny else JE (zdf step src (src.size+1) s 0).1 O' g ny):=by
 obtain⟨R,hR⟩:∃R:AV→Tr ABlk→Nat→Prop,R=fun _ g ny=>∃O',zbp O h nx O' g ny∧(if (zdf step src (src.size+1) s 0).2 then J (zdf step src (src.size+1) s 0).1 O' g ny else JE (zdf step src (src.size+1) s 0).1 O' g ny):=⟨_,rfl⟩
 rw[← hR]
 obtain⟨VT,hVT⟩:∃VT,VT=zdf step src (src.size+1) s 0:=⟨_,rfl⟩
 rw[← hVT]at hR
 refine zaa (sz:=148) (rs:=[]) za4 zzc rfl rfl rfl (by simp) ?_
 unfold znq
 simp-implicitDefEqProofs[go_sem]
 refine zap (fun mm st=>∃tm h' nx' i s' O' f,st=.mk tm h' nx' []∧mm=src.size-i∧i≤src.size∧src.size-i<f∧tm.get 0=some (.yld y)∧tm.get 1=some (.ip [.bs src])∧tm.get 2=some (.ip [.func 221 [] [.ip [.bs src],.ip (zcd zdv)]])∧tm.get 4=some (.int .i64 (i:Int))∧zbp O h nx O' h' nx'∧J s' O' h' nx'∧RowKit.Hid (VT=zdf step src f s' i)) ⟨src.size,_,_,_,0,s,O,src.size+1,rfl,by simp,by simp,by omega,?_⟩ ?_
 ·simp-implicitDefEqProofs[go_sem]
  exact⟨⟨Nat.le_refl _,fun _ _ _=>rfl,fun _ q=>.inl q⟩,hJ,Lib.hid hVT⟩
 ·rintro mm st ⟨tm,h',nx',i,s',O',f,rfl,rfl,hi,hf,t0,t1,t2,t4,hK,hJ',hv⟩ L hL
  refine zag za4 _ ?_
  have hcl:=zw8 src i
  obtain⟨f,rfl⟩:∃f',f=f'+1:=⟨f-1,by omega⟩
  have hv1:=hv.out
  rw[zdf]at hv1
  by_cases hlt:i<src.size
  ·rw[if_neg (by omega)]at hv1
   have w1:IntKind.i64.wrap ((i:Int)+1)=((i+1:Nat):Int):=by rw[zab] <;> omega
   have hJX:∀g ny,Ext nx' h' g→nx'≤ny→J s' O' g ny:=fun g ny e hn=>V.ext s' O' h' nx' g ny hJ' (fun k hk=>e k (V.lt s' O' h' nx' hJ' k hk)) hn
   have hKX:∀g ny,Ext nx' h' g→nx'≤ny→zbp O h nx O' g ny:=fun g ny e hn=>hK.trans (zbp.ext e hn)
   have hE2:∀x y,Ext nx' h' ((h'.put nx' x).put nx' y):=fun x y=>by
    simp(disch:=omega)only[za6]
    exact Ext.refl _ _
   by_cases c1:cl src i=1
   ·rw[c1]at hcl
    rw[if_pos c1]at hv1
    simp-implicitDefEqProofs[go_sem,t0,t1,t2,t4,hlt,za3]
    refine Ret.use hcl ?_
    simp-implicitDefEqProofs[go_sem,za0,t0,t1,t2,t4,hlt,za3,w1]
    refine hL (src.size-(i+1)) _ (by omega) ⟨_,_,_,i+1,s',O',f,rfl,rfl,by omega,by omega,?_⟩
    simp-implicitDefEqProofs[go_sem,t0,t1,t2,t4]
    exact⟨hKX _ _ (hE2 _ _) (Nat.le_succ _),hJX _ _ (hE2 _ _) (Nat.le_succ _),Lib.hid hv1⟩
   rw[if_neg c1]at hv1
   by_cases c2:cl src i=2
   ·rw[c2]at hcl
    rw[if_pos c2]at hv1
    have hgt:=zN4 hlt c2
    have hle:=zsk src src.size i (by omega)
    generalize hJ2:zgd src src.size i=J2 at hv1 hgt hle
    simp-implicitDefEqProofs[go_sem,t0,t1,t2,t4,hlt,za3]
    refine Ret.use hcl ?_
    simp-implicitDefEqProofs[go_sem,za0,t0,t1,t2,t4,hlt,za3,w1]
    generalize hg2:Tr.put (Tr.put h' nx' _) nx' _=g2
    have hX:Ext nx' h' g2:=by rw[← hg2];exact hE2 _ _
    clear hg2
    refine zap (fun mm st=>∃tm j f2,st=.mk tm g2 (nx'+1) []∧mm=src.size-j∧i≤j∧j≤src.size∧src.size-j≤f2∧tm.get 0=some (.yld y)∧tm.get 1=some (.ip [.bs src])∧tm.get 2=some (.ip [.func 221 [] [.ip [.bs src],.ip (zcd zdv)]])∧tm.get 4=some (.int .i64 (j:Int))∧RowKit.Hid (J2=zgd src f2 j)) ⟨src.size-i,_,i,src.size,rfl,rfl,by omega,by omega,by omega,?_⟩ ?_
    ·simp-implicitDefEqProofs[go_sem,t0,t1,t2,t4]
     exact Lib.hid hJ2.symm
    ·rintro mm st ⟨tm,j,f2,rfl,rfl,hij,hjs,hf2,u0,u1,u2,u4,hw⟩ L2 hL2
     refine zag za4 _ ?_
     by_cases hjl:j<src.size
     ·have w2:IntKind.i64.wrap ((j:Int)+1)=((j+1:Nat):Int):=by rw[zab] <;> omega
      by_cases h10:(src[j]).toNat=10
      ·have hst:=zze (s:=src) (f:=f2) (j:=j) (.inr ⟨hjl,h10⟩)
       have hJj:J2=j:=by rw[hw.out,hst]
       have h10I:((src[j]).toNat:Int)=10:=by omega
       simp-implicitDefEqProofs[go_sem,u0,u1,u2,u4,hjl,h10,h10I]
       rw[hJj]at hv1
       have hij2:i<j:=by omega
       refine hL (src.size-j) _ (by omega) ⟨_,_,_,j,s',O',f,rfl,rfl,by omega,by omega,?_⟩
       simp-implicitDefEqProofs[go_sem,u0,u1,u2,u4]
       exact⟨hKX _ _ hX (Nat.le_succ _),hJX _ _ hX (Nat.le_succ _),Lib.hid hv1⟩
      ·have h10I:¬((src[j]).toNat:Int)=10:=by omega
       obtain⟨f3,rfl⟩:∃f3,f2=f3+1:=⟨f2-1,by omega⟩
       have hw1:=hw.out
       rw[zgd,dif_pos hjl,if_neg h10]at hw1
       simp-implicitDefEqProofs[go_sem,u0,u1,u2,u4,hjl,h10,h10I,w2]
       refine hL2 (src.size-(j+1)) _ (by omega) ⟨_,j+1,f3,rfl,rfl,by omega,by omega,by omega,?_⟩
       simp-implicitDefEqProofs[go_sem,u0,u1,u2,u4]
       exact Lib.hid hw1
     ·have hst:=zze (s:=src) (f:=f2) (j:=j) (.inl hjl)
      have hJj:J2=j:=by rw[hw.out,hst]
      simp-implicitDefEqProofs[go_sem,u0,u1,u2,u4,hjl]
      rw[hJj]at hv1
      have hij2:i<j:=by omega
      refine hL (src.size-j) _ (by omega) ⟨_,_,_,j,s',O',f,rfl,rfl,by omega,by omega,?_⟩
      simp-implicitDefEqProofs[go_sem,u0,u1,u2,u4]
      exact⟨hKX _ _ hX (Nat.le_succ _),hJX _ _ hX (Nat.le_succ _),Lib.hid hv1⟩
   rw[if_neg c2]at hv1
   by_cases c3:cl src i=3
   ·rw[c3]at hcl
    have htk:zbo src i=(⟨1,src.extract i (zbw zgx src src.size i),0,(i:Int),if 24<zbw zgx src src.size i-i then 2 else 0⟩,zbw zgx src src.size i):=by
     unfold zbo
     rw[if_pos c3]
    have hle:=zr6 zgx rfl src src.size i (by omega)
    have hgt:=zBd (p:=zgx) rfl hlt (by rw[c3];rfl)
    generalize hJ2:zbw zgx src src.size i=J2 at htk hle hgt
    rw[htk]at hv1
    simp-implicitDefEqProofs[go_sem,t0,t1,t2,t4,hlt,za3]
    refine Ret.use hcl ?_
    simp-implicitDefEqProofs[go_sem,za0,t0,t1,t2,t4,hlt,za3,w1]
    refine Ret.use hcl ?_
    simp-implicitDefEqProofs[go_sem,za0,t0,t1,t2,t4,hlt,za3,w1]
    generalize hg2:Tr.put (Tr.put h' nx' _) nx' _=g2
    have hX:Ext nx' h' g2:=by rw[← hg2];exact hE2 _ _
    have gt2:g2.get nx'=some (bx 210 [.int .i64 0,.bs .empty,.int .i64 0,.int .i64 (i:Int),.int .i64 0] false 0):=by rw[← hg2];simp[go_sem]
    clear hg2
    refine zap (fun mm st=>∃tm j f2,st=.mk tm g2 (nx'+1) []∧mm=src.size-j∧i≤j∧j≤src.size∧src.size-j≤f2∧tm.get 0=some (.yld y)∧tm.get 1=some (.ip [.bs src])∧tm.get 2=some (.ip [.func 221 [] [.ip [.bs src],.ip (zcd zdv)]])∧tm.get 4=some (.int .i64 (j:Int))∧tm.get 5=some (.int .i64 (i:Int))∧tm.get 6=some (.ptr nx' 0)∧tm.get 7=some (.int .u8 (cl src j))∧RowKit.Hid (J2=zbw zgx src f2 j)) ⟨src.size-i,_,i,src.size,rfl,rfl,by omega,by omega,by omega,?_⟩ ?_
    ·simp-implicitDefEqProofs[go_sem,t0,t1,t2,t4,c3]
     exact Lib.hid hJ2.symm
    ·rintro mm st ⟨tm,j,f2,rfl,rfl,hij,hjs,hf2,u0,u1,u2,u4,u5,u6,u7,hw⟩ L2 hL2
     refine zag za4 _ ?_
     have w2:IntKind.i64.wrap ((j:Int)+1)=(j:Int)+1:=by rw[zab] <;> omega
     have hcj:Ret Tryz.prog cx 221 [.int .i64 ((j:Int)+1),.ip [.bs src],.ip (zcd zdv)] (.int .u8 (cl src (j+1))):=by simpa using zw8 src (j+1)
     by_cases hwd:zgx (cl src j)=true
     ·have hjl:j<src.size:=by
       rcases Nat.lt_or_ge j src.size with q |q
       ·exact q
       ·rw[zso q]at hwd;cases hwd
      obtain⟨f3,rfl⟩:∃f3,f2=f3+1:=⟨f2-1,by omega⟩
      have hw1:=hw.out
      rw[zbw,if_pos hwd]at hw1
      have h345:cl src j=3∨cl src j=4∨cl src j=5:=by
       unfold zgx at hwd
       simpa using hwd
      rcases h345 with w3 |w4 |w5
      ·simp-implicitDefEqProofs[go_sem,u0,u1,u2,u4,u5,u6,u7,w3,w2]
       refine Ret.use hcj ?_
       simp-implicitDefEqProofs[go_sem,za0,u0,u1,u2,u4,u5,u6,u7,w2]
       refine hL2 (src.size-(j+1)) _ (by omega) ⟨_,j+1,f3,rfl,rfl,by omega,by omega,by omega,?_⟩
       simp-implicitDefEqProofs[go_sem,u0,u1,u2,u4,u5,u6,u7]
       exact Lib.hid hw1
      ·simp-implicitDefEqProofs[go_sem,u0,u1,u2,u4,u5,u6,u7,w4,w2]
       refine Ret.use hcj ?_
       simp-implicitDefEqProofs[go_sem,za0,u0,u1,u2,u4,u5,u6,u7,w2]
       refine hL2 (src.size-(j+1)) _ (by omega) ⟨_,j+1,f3,rfl,rfl,by omega,by omega,by omega,?_⟩
       simp-implicitDefEqProofs[go_sem,u0,u1,u2,u4,u5,u6,u7]
       exact Lib.hid hw1
      ·simp-implicitDefEqProofs[go_sem,u0,u1,u2,u4,u5,u6,u7,w5,w2]
       refine Ret.use hcj ?_
       simp-implicitDefEqProofs[go_sem,za0,u0,u1,u2,u4,u5,u6,u7,w2]
       refine hL2 (src.size-(j+1)) _ (by omega) ⟨_,j+1,f3,rfl,rfl,by omega,by omega,by omega,?_⟩
       simp-implicitDefEqProofs[go_sem,u0,u1,u2,u4,u5,u6,u7]
       exact Lib.hid hw1
     ·have hJj:J2=j:=by
       have hw1:=hw.out
       cases f2 with
       |zero=>rw[hw1];rfl
       |succ f2=>rw[hw1,zbw,if_neg hwd]
      have n3:¬cl src j=3:=fun q=>hwd (by rw[q];rfl)
      have n4:¬cl src j=4:=fun q=>hwd (by rw[q];rfl)
      have n5:¬cl src j=5:=fun q=>hwd (by rw[q];rfl)
      have w3:IntKind.i64.wrap ((j:Int)-(i:Int))=(j:Int)-(i:Int):=by rw[zab] <;> omega
      by_cases hbig:24<j-i
      ·have hbI:(24:Int)<(j:Int)-(i:Int):=by omega
       simp-implicitDefEqProofs[go_sem,u0,u1,u2,u4,u5,u6,u7,n3,n4,n5,w3,hbI,gt2,za3,hij,hjs,zcl]
       generalize hg3:Tr.put _ nx' (some (bx 210 [.int .i64 1,.bs (src.extract i j),.int .i64 0,.int .i64 (i:Int),.int .i64 2] false 0))=g3
       have hX3:Ext nx' h' g3:=by
        rw[← hg3]
        simp(disch:=omega)only[za6]
        exact hX
       have gt3:g3.get nx'=some (bx 210 [.int .i64 1,.bs (src.extract i j),.int .i64 0,.int .i64 (i:Int),.int .i64 2] false 0):=by rw[← hg3];simp[go_sem]
       clear hg3
       rw[hJj]at hv1
       simp only[if_pos hbig]at hv1
       refine(V.yld s' O' ⟨1,src.extract i j,0,(i:Int),2⟩ g3 (nx'+1) trivial (hJX _ _ hX3 (Nat.le_succ _))).mono ?_
       rintro v g ny ⟨rfl,O2,K2,hq⟩
       have gt4:g.get nx'=some (bx 210 [.int .i64 1,.bs (src.extract i j),.int .i64 0,.int .i64 (i:Int),.int .i64 2] false 0):=by
        rw[K2.2.1 nx' (by omega) (fun q=>by have:=V.lt s' O' h' nx' hJ' nx' q;omega)]
        exact gt3
       have KK:=(hKX _ _ hX3 (Nat.le_succ _)).trans K2
       cases hst:(step s' ⟨1,src.extract i j,0,(i:Int),2⟩).2 with
       |false=>
        rw[hst]at hq hv1
        simp-implicitDefEqProofs[go_sem,za0,u0,u1,u2,u4,u5,u6,u7]
        rw[hR]
        simp only[if_true]at hv1
        rw[hv1]
        exact⟨O2,KK,by simpa using hq⟩
       |true=>
        rw[hst]at hq hv1
        simp-implicitDefEqProofs[go_sem,za0,u0,u1,u2,u4,u5,u6,u7,gt4]
        rw[hR]
        simp at hv1
        rw[hv1]
        exact⟨O2,KK,by simpa using hq⟩
      ·have hbI:¬(24:Int)<(j:Int)-(i:Int):=by omega
       simp-implicitDefEqProofs[go_sem,u0,u1,u2,u4,u5,u6,u7,n3,n4,n5,w3,hbI,gt2,za3,hij,hjs,zcl]
       generalize hg3:Tr.put _ nx' (some (bx 210 [.int .i64 1,.bs (src.extract i j),.int .i64 0,.int .i64 (i:Int),.int .i64 0] false 0))=g3
       have hX3:Ext nx' h' g3:=by
        rw[← hg3]
        simp(disch:=omega)only[za6]
        exact hX
       have gt3:g3.get nx'=some (bx 210 [.int .i64 1,.bs (src.extract i j),.int .i64 0,.int .i64 (i:Int),.int .i64 0] false 0):=by rw[← hg3];simp[go_sem]
       clear hg3
       rw[hJj]at hv1
       simp only[if_neg hbig]at hv1
       refine(V.yld s' O' ⟨1,src.extract i j,0,(i:Int),0⟩ g3 (nx'+1) trivial (hJX _ _ hX3 (Nat.le_succ _))).mono ?_
       rintro v g ny ⟨rfl,O2,K2,hq⟩
       have gt4:g.get nx'=some (bx 210 [.int .i64 1,.bs (src.extract i j),.int .i64 0,.int .i64 (i:Int),.int .i64 0] false 0):=by
        rw[K2.2.1 nx' (by omega) (fun q=>by have:=V.lt s' O' h' nx' hJ' nx' q;omega)]
        exact gt3
       have KK:=(hKX _ _ hX3 (Nat.le_succ _)).trans K2
       cases hst:(step s' ⟨1,src.extract i j,0,(i:Int),0⟩).2 with
       |false=>
        rw[hst]at hq hv1
        simp-implicitDefEqProofs[go_sem,za0,u0,u1,u2,u4,u5,u6,u7]
        rw[hR]
        simp only[if_true]at hv1
        rw[hv1]
        exact⟨O2,KK,by simpa using hq⟩
       |true=>
        rw[hst]at hq hv1
        simp-implicitDefEqProofs[go_sem,za0,u0,u1,u2,u4,u5,u6,u7,gt4]
        have hij2:i<j:=by omega
        refine hL (src.size-j) _ (by omega) ⟨_,_,_,j,(step s' ⟨1,src.extract i j,0,(i:Int),0⟩).1,O2,f,rfl,rfl,by omega,by omega,?_⟩
        simp-implicitDefEqProofs[go_sem,u0,u1,u2,u4]
        exact⟨KK,by simpa using hq,Lib.hid (by simpa using hv1)⟩
   by_cases c4:cl src i=4
   ·rw[c4]at hcl
    have hle:=zr6 zet rfl src src.size i (by omega)
    have hgt:=zBd (p:=zet) rfl hlt (by rw[c4];rfl)
    have hall:=zE8 zet src src.size i
    have htk:zbo src i=if 7<zbw zet src src.size i-i∨cl src (zbw zet src src.size i)=3∨cl src (zbw zet src src.size i)=5 then (⟨2,src.extract i (zbw zet src src.size i),0,(i:Int),4⟩,zbw zet src src.size i) else (⟨2,src.extract i (zbw zet src src.size i),zhv (src.extract i (zbw zet src src.size i)).data.toList 0,(i:Int),0⟩,zbw zet src src.size i):=by
     unfold zbo
     rw[if_neg c3,if_pos c4]
    generalize hJ2:zbw zet src src.size i=J2 at htk hle hgt hall
    rw[htk]at hv1
    simp-implicitDefEqProofs[go_sem,t0,t1,t2,t4,hlt,za3]
    refine Ret.use hcl ?_
    simp-implicitDefEqProofs[go_sem,za0,t0,t1,t2,t4,hlt,za3,w1]
    generalize hg2:Tr.put (Tr.put h' nx' _) nx' _=g2
    have hX:Ext nx' h' g2:=by rw[← hg2];exact hE2 _ _
    have gt2:g2.get nx'=some (bx 210 [.int .i64 0,.bs .empty,.int .i64 0,.int .i64 (i:Int),.int .i64 0] false 0):=by rw[← hg2];simp[go_sem]
    clear hg2
    refine zap (fun mm st=>∃tm j f2,st=.mk tm g2 (nx'+1) []∧mm=src.size-j∧i≤j∧j≤src.size∧src.size-j≤f2∧tm.get 0=some (.yld y)∧tm.get 1=some (.ip [.bs src])∧tm.get 2=some (.ip [.func 221 [] [.ip [.bs src],.ip (zcd zdv)]])∧tm.get 4=some (.int .i64 (j:Int))∧tm.get 5=some (.int .i64 (i:Int))∧tm.get 6=some (.ptr nx' 0)∧RowKit.Hid (J2=zbw zet src f2 j)) ⟨src.size-i,_,i,src.size,rfl,rfl,by omega,by omega,by omega,?_⟩ ?_
    ·simp-implicitDefEqProofs[go_sem,t0,t1,t2,t4]
     exact Lib.hid hJ2.symm
    ·rintro mm st ⟨tm,j,f2,rfl,rfl,hij,hjs,hf2,u0,u1,u2,u4,u5,u6,hw⟩ L2 hL2
     refine zag za4 _ ?_
     have w2:IntKind.i64.wrap ((j:Int)+1)=(j:Int)+1:=by rw[zab] <;> omega
     have hcj:=zw8 src j
     by_cases hwd:cl src j=4
     ·have hjl:j<src.size:=by
       rcases Nat.lt_or_ge j src.size with q |q
       ·exact q
       ·rw[zso q]at hwd;cases hwd
      obtain⟨f3,rfl⟩:∃f3,f2=f3+1:=⟨f2-1,by omega⟩
      have hw1:=hw.out
      rw[zbw,if_pos (by rw[hwd];rfl)]at hw1
      rw[hwd]at hcj
      simp-implicitDefEqProofs[go_sem,u0,u1,u2,u4,u5,u6]
      refine Ret.use hcj ?_
      simp-implicitDefEqProofs[go_sem,za0,u0,u1,u2,u4,u5,u6,w2]
      refine hL2 (src.size-(j+1)) _ (by omega) ⟨_,j+1,f3,rfl,rfl,by omega,by omega,by omega,?_⟩
      simp-implicitDefEqProofs[go_sem,u0,u1,u2,u4,u5,u6]
      exact Lib.hid hw1
     ·have hJj:J2=j:=by
       have hw1:=hw.out
       cases f2 with
       |zero=>rw[hw1];rfl
       |succ f2=>rw[hw1,zbw,if_neg (by unfold zet;simpa using hwd)]
      have w3:IntKind.i64.wrap ((j:Int)-(i:Int))=(j:Int)-(i:Int):=by rw[zab] <;> omega
      simp-implicitDefEqProofs[go_sem,u0,u1,u2,u4,u5,u6]
      refine Ret.use hcj ?_
      simp-implicitDefEqProofs[go_sem,za0,u0,u1,u2,u4,u5,u6,hwd,gt2,za3]
      refine Ret.use hcj ?_
      rw[hJj]at hv1
      by_cases b7:7<j-i
      ·have b7I:(7:Int)<(j:Int)-(i:Int):=by omega
       rw[if_pos (show 7<j-i∨cl src j=3∨cl src j=5 from .inl b7)]at hv1
       simp only at hv1
       simp-implicitDefEqProofs[go_sem,za0,u0,u1,u2,u4,u5,u6,w3,gt2,za3,hij,hjs,zcl,b7I]
       generalize hg3:Tr.put _ nx' (some (bx 210 [.int .i64 2,.bs (src.extract i j),.int .i64 0,.int .i64 (i:Int),.int .i64 4] false 0))=g3
       have hX3:Ext nx' h' g3:=by
        rw[← hg3]
        simp(disch:=omega)only[za6]
        exact hX
       have gt3:g3.get nx'=some (bx 210 [.int .i64 2,.bs (src.extract i j),.int .i64 0,.int .i64 (i:Int),.int .i64 4] false 0):=by rw[← hg3];simp[go_sem]
       clear hg3
       refine(V.yld s' O' ⟨2,src.extract i j,0,(i:Int),4⟩ g3 (nx'+1) trivial (hJX _ _ hX3 (Nat.le_succ _))).mono ?_
       rintro v g ny ⟨rfl,O2,K2,hq⟩
       have gt4:g.get nx'=some (bx 210 [.int .i64 2,.bs (src.extract i j),.int .i64 0,.int .i64 (i:Int),.int .i64 4] false 0):=by
        rw[K2.2.1 nx' (by omega) (fun q=>by have:=V.lt s' O' h' nx' hJ' nx' q;omega)]
        exact gt3
       have KK:=(hKX _ _ hX3 (Nat.le_succ _)).trans K2
       cases hst:(step s' ⟨2,src.extract i j,0,(i:Int),4⟩).2 with
       |false=>
        rw[hst]at hq hv1
        simp-implicitDefEqProofs[go_sem,za0,u0,u1,u2,u4,u5,u6]
        rw[hR]
        simp only[if_true]at hv1
        rw[hv1]
        exact⟨O2,KK,by simpa using hq⟩
       |true=>
        rw[hst]at hq hv1
        simp-implicitDefEqProofs[go_sem,za0,u0,u1,u2,u4,u5,u6,gt4]
        rw[hR]
        simp at hv1
        rw[hv1]
        exact⟨O2,KK,by simpa using hq⟩
      have b7I:¬(7:Int)<(j:Int)-(i:Int):=by omega
      by_cases b3:cl src j=3
      ·rw[if_pos (show 7<j-i∨cl src j=3∨cl src j=5 from .inr (.inl b3))]at hv1
       simp only at hv1
       simp-implicitDefEqProofs[go_sem,za0,u0,u1,u2,u4,u5,u6,w3,gt2,za3,hij,hjs,zcl,b7I,b3]
       generalize hg3:Tr.put _ nx' (some (bx 210 [.int .i64 2,.bs (src.extract i j),.int .i64 0,.int .i64 (i:Int),.int .i64 4] false 0))=g3
       have hX3:Ext nx' h' g3:=by
        rw[← hg3]
        simp(disch:=omega)only[za6]
        exact hX
       have gt3:g3.get nx'=some (bx 210 [.int .i64 2,.bs (src.extract i j),.int .i64 0,.int .i64 (i:Int),.int .i64 4] false 0):=by rw[← hg3];simp[go_sem]
       clear hg3
       refine(V.yld s' O' ⟨2,src.extract i j,0,(i:Int),4⟩ g3 (nx'+1) trivial (hJX _ _ hX3 (Nat.le_succ _))).mono ?_
       rintro v g ny ⟨rfl,O2,K2,hq⟩
       have gt4:g.get nx'=some (bx 210 [.int .i64 2,.bs (src.extract i j),.int .i64 0,.int .i64 (i:Int),.int .i64 4] false 0):=by
        rw[K2.2.1 nx' (by omega) (fun q=>by have:=V.lt s' O' h' nx' hJ' nx' q;omega)]
        exact gt3
       have KK:=(hKX _ _ hX3 (Nat.le_succ _)).trans K2
       cases hst:(step s' ⟨2,src.extract i j,0,(i:Int),4⟩).2 with
       |false=>
        rw[hst]at hq hv1
        simp-implicitDefEqProofs[go_sem,za0,u0,u1,u2,u4,u5,u6]
        rw[hR]
        simp only[if_true]at hv1
        rw[hv1]
        exact⟨O2,KK,by simpa using hq⟩
       |true=>
        rw[hst]at hq hv1
        simp-implicitDefEqProofs[go_sem,za0,u0,u1,u2,u4,u5,u6,gt4]
        rw[hR]
        simp at hv1
        rw[hv1]
        exact⟨O2,KK,by simpa using hq⟩
      by_cases b5:cl src j=5
      ·rw[if_pos (show 7<j-i∨cl src j=3∨cl src j=5 from .inr (.inr b5))]at hv1
       simp only at hv1
       simp-implicitDefEqProofs[go_sem,za0,u0,u1,u2,u4,u5,u6,w3,gt2,za3,hij,hjs,zcl,b7I,b5]
       generalize hg3:Tr.put _ nx' (some (bx 210 [.int .i64 2,.bs (src.extract i j),.int .i64 0,.int .i64 (i:Int),.int .i64 4] false 0))=g3
       have hX3:Ext nx' h' g3:=by
        rw[← hg3]
        simp(disch:=omega)only[za6]
        exact hX
       have gt3:g3.get nx'=some (bx 210 [.int .i64 2,.bs (src.extract i j),.int .i64 0,.int .i64 (i:Int),.int .i64 4] false 0):=by rw[← hg3];simp[go_sem]
       clear hg3
       refine(V.yld s' O' ⟨2,src.extract i j,0,(i:Int),4⟩ g3 (nx'+1) trivial (hJX _ _ hX3 (Nat.le_succ _))).mono ?_
       rintro v g ny ⟨rfl,O2,K2,hq⟩
       have gt4:g.get nx'=some (bx 210 [.int .i64 2,.bs (src.extract i j),.int .i64 0,.int .i64 (i:Int),.int .i64 4] false 0):=by
        rw[K2.2.1 nx' (by omega) (fun q=>by have:=V.lt s' O' h' nx' hJ' nx' q;omega)]
        exact gt3
       have KK:=(hKX _ _ hX3 (Nat.le_succ _)).trans K2
       cases hst:(step s' ⟨2,src.extract i j,0,(i:Int),4⟩).2 with
       |false=>
        rw[hst]at hq hv1
        simp-implicitDefEqProofs[go_sem,za0,u0,u1,u2,u4,u5,u6]
        rw[hR]
        simp only[if_true]at hv1
        rw[hv1]
        exact⟨O2,KK,by simpa using hq⟩
       |true=>
        rw[hst]at hq hv1
        simp-implicitDefEqProofs[go_sem,za0,u0,u1,u2,u4,u5,u6,gt4]
        rw[hR]
        simp at hv1
        rw[hv1]
        exact⟨O2,KK,by simpa using hq⟩
      rw[if_neg (show ¬(7<j-i∨cl src j=3∨cl src j=5) from by omega)]at hv1
      simp only at hv1
      simp-implicitDefEqProofs[go_sem,za0,u0,u1,u2,u4,u5,u6,w3,gt2,za3,hij,hjs,zcl,b7I,b3,b5]
      have hij3:i<j:=by omega
      have hat:=zQx (src.extract i j) (by rw[extract_size hij hjs];omega) (by rw[extract_size hij hjs];omega) (zKh hjs fun k k1 k2=>by
       have:=hall k k1 (by omega)
       unfold zet at this
       simpa using this)
      generalize hnum:zhv (src.extract i j).data.toList 0=num at hat hv1
      refine Ret.use hat ?_
      simp-implicitDefEqProofs[go_sem,za0,u0,u1,u2,u4,u5,u6,w3,gt2,za3,hij,hjs,zcl,gt2]
      generalize hg3:Tr.put _ nx' (some (bx 210 [.int .i64 2,.bs (src.extract i j),.int .i64 num,.int .i64 (i:Int),.int .i64 0] false 0))=g3
      have hX3:Ext nx' h' g3:=by
       rw[← hg3]
       simp(disch:=omega)only[za6]
       exact hX
      have gt3:g3.get nx'=some (bx 210 [.int .i64 2,.bs (src.extract i j),.int .i64 num,.int .i64 (i:Int),.int .i64 0] false 0):=by rw[← hg3];simp[go_sem]
      clear hg3
      refine(V.yld s' O' ⟨2,src.extract i j,num,(i:Int),0⟩ g3 (nx'+1) trivial (hJX _ _ hX3 (Nat.le_succ _))).mono ?_
      rintro v g ny ⟨rfl,O2,K2,hq⟩
      have gt4:g.get nx'=some (bx 210 [.int .i64 2,.bs (src.extract i j),.int .i64 num,.int .i64 (i:Int),.int .i64 0] false 0):=by
       rw[K2.2.1 nx' (by omega) (fun q=>by have:=V.lt s' O' h' nx' hJ' nx' q;omega)]
       exact gt3
      have KK:=(hKX _ _ hX3 (Nat.le_succ _)).trans K2
      cases hst:(step s' ⟨2,src.extract i j,num,(i:Int),0⟩).2 with
      |false=>
       rw[hst]at hq hv1
       simp-implicitDefEqProofs[go_sem,za0,u0,u1,u2,u4,u5,u6]
       rw[hR]
       simp only[if_true]at hv1
       rw[hv1]
       exact⟨O2,KK,by simpa using hq⟩
      |true=>
       rw[hst]at hq hv1
       simp-implicitDefEqProofs[go_sem,za0,u0,u1,u2,u4,u5,u6,gt4]
       have hij2:i<j:=by omega
       refine hL (src.size-j) _ (by omega) ⟨_,_,_,j,(step s' ⟨2,src.extract i j,num,(i:Int),0⟩).1,O2,f,rfl,rfl,by omega,by omega,?_⟩
       simp-implicitDefEqProofs[go_sem,u0,u1,u2,u4]
       exact⟨KK,by simpa using hq,Lib.hid (by simpa using hv1)⟩
   obtain⟨j,hje⟩:∃j,j=i+1:=⟨_,rfl⟩
   obtain⟨j2,hje2⟩:∃j,j=i+2:=⟨_,rfl⟩
   have w1':IntKind.i64.wrap ((i:Int)+1)=((j:Nat):Int):=by rw[zab] <;> omega
   have w2:IntKind.i64.wrap ((j:Int)+1)=((j2:Nat):Int):=by rw[zab] <;> omega
   have hj1:i≤j:=by omega
   have hj2:j≤src.size:=by omega
   by_cases c6:cl src i=6
   ·rw[c6]at hcl
    have htk:zbo src i=(⟨3,src.extract i j,0,(i:Int),0⟩,j):=by
     unfold zbo
     rw[if_neg c3,if_neg c4,if_pos (.inl c6),if_neg (fun q=>q.1 c6),c6,hje];rfl
    rw[htk]at hv1
    simp only at hv1
    simp-implicitDefEqProofs[go_sem,t0,t1,t2,t4,hlt,za3]
    refine Ret.use hcl ?_
    simp-implicitDefEqProofs[go_sem,za0,t0,t1,t2,t4,hlt,za3,w1',c6]
    refine Ret.use hcl ?_
    simp-implicitDefEqProofs[go_sem,za0,t0,t1,t2,t4,hlt,za3,w1',hi,zcl,hj1,hj2]
    generalize hg3:Tr.put _ nx' (some (bx 210 [.int .i64 3,.bs (src.extract i (j)),.int .i64 0,.int .i64 (i:Int),.int .i64 0] false 0))=g3
    have hX3:Ext nx' h' g3:=by
     rw[← hg3]
     simp(disch:=omega)only[za6]
     exact Ext.refl _ _
    have gt3:g3.get nx'=some (bx 210 [.int .i64 3,.bs (src.extract i (j)),.int .i64 0,.int .i64 (i:Int),.int .i64 0] false 0):=by rw[← hg3];simp[go_sem]
    clear hg3
    refine(V.yld s' O' ⟨3,src.extract i (j),0,(i:Int),0⟩ g3 (nx'+1) trivial (hJX _ _ hX3 (Nat.le_succ _))).mono ?_
    rintro v g ny ⟨rfl,O2,K2,hq⟩
    have gt4:g.get nx'=some (bx 210 [.int .i64 3,.bs (src.extract i (j)),.int .i64 0,.int .i64 (i:Int),.int .i64 0] false 0):=by
     rw[K2.2.1 nx' (by omega) (fun q=>by have:=V.lt s' O' h' nx' hJ' nx' q;omega)]
     exact gt3
    have KK:=(hKX _ _ hX3 (Nat.le_succ _)).trans K2
    cases hst:(step s' ⟨3,src.extract i (j),0,(i:Int),0⟩).2 with
    |false=>
     rw[hst]at hq hv1
     simp-implicitDefEqProofs[go_sem,za0,t0,t1,t2,t4]
     rw[hR]
     simp only[if_true]at hv1
     rw[hv1]
     exact⟨O2,KK,by simpa using hq⟩
    |true=>
     rw[hst]at hq hv1
     simp-implicitDefEqProofs[go_sem,za0,t0,t1,t2,t4,gt4]
     refine hL (src.size-(j)) _ (by omega) ⟨_,_,_,j,(step s' ⟨3,src.extract i (j),0,(i:Int),0⟩).1,O2,f,rfl,rfl,by omega,by omega,?_⟩
     simp-implicitDefEqProofs[go_sem,t0,t1,t2,t4]
     exact⟨KK,by simpa using hq,Lib.hid (by simpa using hv1)⟩
   by_cases c78:cl src i=7∨cl src i=8
   ·by_cases h61:∃q:i+1<src.size,(src[i+1]).toNat=61
    ·obtain⟨q0,e0⟩:=h61
     have q:j<src.size:=by omega
     have e61:(src[j]).toNat=61:=by subst hje;exact e0
     have hj3:i≤j2:=by omega
     have hj4:j2≤src.size:=by omega
     have e61I:((src[j]).toNat:Int)=61:=by omega
     have htk:zbo src i=(⟨3,src.extract i j2,0,(i:Int),0⟩,j2):=by
      unfold zbo
      rw[if_neg c3,if_neg c4,if_pos (.inr c78),if_pos ⟨c6,q0,e0⟩,hje2]
     rw[htk]at hv1
     simp only at hv1
     rcases c78 with c7 |c7
     ·rw[c7]at hcl
      simp-implicitDefEqProofs[go_sem,t0,t1,t2,t4,hlt,za3]
      refine Ret.use hcl ?_
      simp-implicitDefEqProofs[go_sem,za0,t0,t1,t2,t4,hlt,za3,w1',c7]
      refine Ret.use hcl ?_
      simp-implicitDefEqProofs[go_sem,za0,t0,t1,t2,t4,hlt,za3,w1',hi,zcl,q,e61,e61I,w2,hj3,hj4]
      generalize hg3:Tr.put _ nx' (some (bx 210 [.int .i64 3,.bs (src.extract i (j2)),.int .i64 0,.int .i64 (i:Int),.int .i64 0] false 0))=g3
      have hX3:Ext nx' h' g3:=by
       rw[← hg3]
       simp(disch:=omega)only[za6]
       exact Ext.refl _ _
      have gt3:g3.get nx'=some (bx 210 [.int .i64 3,.bs (src.extract i (j2)),.int .i64 0,.int .i64 (i:Int),.int .i64 0] false 0):=by rw[← hg3];simp[go_sem]
      clear hg3
      refine(V.yld s' O' ⟨3,src.extract i (j2),0,(i:Int),0⟩ g3 (nx'+1) trivial (hJX _ _ hX3 (Nat.le_succ _))).mono ?_
      rintro v g ny ⟨rfl,O2,K2,hq⟩
      have gt4:g.get nx'=some (bx 210 [.int .i64 3,.bs (src.extract i (j2)),.int .i64 0,.int .i64 (i:Int),.int .i64 0] false 0):=by
       rw[K2.2.1 nx' (by omega) (fun q=>by have:=V.lt s' O' h' nx' hJ' nx' q;omega)]
       exact gt3
      have KK:=(hKX _ _ hX3 (Nat.le_succ _)).trans K2
      cases hst:(step s' ⟨3,src.extract i (j2),0,(i:Int),0⟩).2 with
      |false=>
       rw[hst]at hq hv1
       simp-implicitDefEqProofs[go_sem,za0,t0,t1,t2,t4]
       rw[hR]
       simp only[if_true]at hv1
       rw[hv1]
       exact⟨O2,KK,by simpa using hq⟩
      |true=>
       rw[hst]at hq hv1
       simp-implicitDefEqProofs[go_sem,za0,t0,t1,t2,t4,gt4]
       refine hL (src.size-(j2)) _ (by omega) ⟨_,_,_,j2,(step s' ⟨3,src.extract i (j2),0,(i:Int),0⟩).1,O2,f,rfl,rfl,by omega,by omega,?_⟩
       simp-implicitDefEqProofs[go_sem,t0,t1,t2,t4]
       exact⟨KK,by simpa using hq,Lib.hid (by simpa using hv1)⟩
     ·rw[c7]at hcl
      simp-implicitDefEqProofs[go_sem,t0,t1,t2,t4,hlt,za3]
      refine Ret.use hcl ?_
      simp-implicitDefEqProofs[go_sem,za0,t0,t1,t2,t4,hlt,za3,w1',c7]
      refine Ret.use hcl ?_
      simp-implicitDefEqProofs[go_sem,za0,t0,t1,t2,t4,hlt,za3,w1',hi,zcl,q,e61,e61I,w2,hj3,hj4]
      generalize hg3:Tr.put _ nx' (some (bx 210 [.int .i64 3,.bs (src.extract i (j2)),.int .i64 0,.int .i64 (i:Int),.int .i64 0] false 0))=g3
      have hX3:Ext nx' h' g3:=by
       rw[← hg3]
       simp(disch:=omega)only[za6]
       exact Ext.refl _ _
      have gt3:g3.get nx'=some (bx 210 [.int .i64 3,.bs (src.extract i (j2)),.int .i64 0,.int .i64 (i:Int),.int .i64 0] false 0):=by rw[← hg3];simp[go_sem]
      clear hg3
      refine(V.yld s' O' ⟨3,src.extract i (j2),0,(i:Int),0⟩ g3 (nx'+1) trivial (hJX _ _ hX3 (Nat.le_succ _))).mono ?_
      rintro v g ny ⟨rfl,O2,K2,hq⟩
      have gt4:g.get nx'=some (bx 210 [.int .i64 3,.bs (src.extract i (j2)),.int .i64 0,.int .i64 (i:Int),.int .i64 0] false 0):=by
       rw[K2.2.1 nx' (by omega) (fun q=>by have:=V.lt s' O' h' nx' hJ' nx' q;omega)]
       exact gt3
      have KK:=(hKX _ _ hX3 (Nat.le_succ _)).trans K2
      cases hst:(step s' ⟨3,src.extract i (j2),0,(i:Int),0⟩).2 with
      |false=>
       rw[hst]at hq hv1
       simp-implicitDefEqProofs[go_sem,za0,t0,t1,t2,t4]
       rw[hR]
       simp only[if_true]at hv1
       rw[hv1]
       exact⟨O2,KK,by simpa using hq⟩
      |true=>
       rw[hst]at hq hv1
       simp-implicitDefEqProofs[go_sem,za0,t0,t1,t2,t4,gt4]
       refine hL (src.size-(j2)) _ (by omega) ⟨_,_,_,j2,(step s' ⟨3,src.extract i (j2),0,(i:Int),0⟩).1,O2,f,rfl,rfl,by omega,by omega,?_⟩
       simp-implicitDefEqProofs[go_sem,t0,t1,t2,t4]
       exact⟨KK,by simpa using hq,Lib.hid (by simpa using hv1)⟩
    ·rcases c78 with c7 |c7
     ·rw[c7]at hcl
      have htk:zbo src i=(⟨3,src.extract i j,0,(i:Int),0⟩,j):=by
       unfold zbo
       rw[if_neg c3,if_neg c4,if_pos (.inr (.inl c7)),if_neg (fun q=>h61 q.2),c7,hje];rfl
      rw[htk]at hv1
      simp only at hv1
      by_cases q:j<src.size
      ·have e61:¬(src[j]).toNat=61:=fun e=>h61 (by subst hje;exact⟨q,e⟩)
       have e61I:¬((src[j]).toNat:Int)=61:=by omega
       simp-implicitDefEqProofs[go_sem,t0,t1,t2,t4,hlt,za3]
       refine Ret.use hcl ?_
       simp-implicitDefEqProofs[go_sem,za0,t0,t1,t2,t4,hlt,za3,w1',c7]
       refine Ret.use hcl ?_
       simp-implicitDefEqProofs[go_sem,za0,t0,t1,t2,t4,hlt,za3,w1',hi,zcl,q,e61,e61I,w2,hj1,hj2]
       generalize hg3:Tr.put _ nx' (some (bx 210 [.int .i64 3,.bs (src.extract i (j)),.int .i64 0,.int .i64 (i:Int),.int .i64 0] false 0))=g3
       have hX3:Ext nx' h' g3:=by
        rw[← hg3]
        simp(disch:=omega)only[za6]
        exact Ext.refl _ _
       have gt3:g3.get nx'=some (bx 210 [.int .i64 3,.bs (src.extract i (j)),.int .i64 0,.int .i64 (i:Int),.int .i64 0] false 0):=by rw[← hg3];simp[go_sem]
       clear hg3
       refine(V.yld s' O' ⟨3,src.extract i (j),0,(i:Int),0⟩ g3 (nx'+1) trivial (hJX _ _ hX3 (Nat.le_succ _))).mono ?_
       rintro v g ny ⟨rfl,O2,K2,hq⟩
       have gt4:g.get nx'=some (bx 210 [.int .i64 3,.bs (src.extract i (j)),.int .i64 0,.int .i64 (i:Int),.int .i64 0] false 0):=by
        rw[K2.2.1 nx' (by omega) (fun q=>by have:=V.lt s' O' h' nx' hJ' nx' q;omega)]
        exact gt3
       have KK:=(hKX _ _ hX3 (Nat.le_succ _)).trans K2
       cases hst:(step s' ⟨3,src.extract i (j),0,(i:Int),0⟩).2 with
       |false=>
        rw[hst]at hq hv1
        simp-implicitDefEqProofs[go_sem,za0,t0,t1,t2,t4]
        rw[hR]
        simp only[if_true]at hv1
        rw[hv1]
        exact⟨O2,KK,by simpa using hq⟩
       |true=>
        rw[hst]at hq hv1
        simp-implicitDefEqProofs[go_sem,za0,t0,t1,t2,t4,gt4]
        refine hL (src.size-(j)) _ (by omega) ⟨_,_,_,j,(step s' ⟨3,src.extract i (j),0,(i:Int),0⟩).1,O2,f,rfl,rfl,by omega,by omega,?_⟩
        simp-implicitDefEqProofs[go_sem,t0,t1,t2,t4]
        exact⟨KK,by simpa using hq,Lib.hid (by simpa using hv1)⟩
      ·skip
       simp-implicitDefEqProofs[go_sem,t0,t1,t2,t4,hlt,za3]
       refine Ret.use hcl ?_
       simp-implicitDefEqProofs[go_sem,za0,t0,t1,t2,t4,hlt,za3,w1',c7]
       refine Ret.use hcl ?_
       simp-implicitDefEqProofs[go_sem,za0,t0,t1,t2,t4,hlt,za3,w1',hi,zcl,q,w2,hj1,hj2]
       generalize hg3:Tr.put _ nx' (some (bx 210 [.int .i64 3,.bs (src.extract i (j)),.int .i64 0,.int .i64 (i:Int),.int .i64 0] false 0))=g3
       have hX3:Ext nx' h' g3:=by
        rw[← hg3]
        simp(disch:=omega)only[za6]
        exact Ext.refl _ _
       have gt3:g3.get nx'=some (bx 210 [.int .i64 3,.bs (src.extract i (j)),.int .i64 0,.int .i64 (i:Int),.int .i64 0] false 0):=by rw[← hg3];simp[go_sem]
       clear hg3
       refine(V.yld s' O' ⟨3,src.extract i (j),0,(i:Int),0⟩ g3 (nx'+1) trivial (hJX _ _ hX3 (Nat.le_succ _))).mono ?_
       rintro v g ny ⟨rfl,O2,K2,hq⟩
       have gt4:g.get nx'=some (bx 210 [.int .i64 3,.bs (src.extract i (j)),.int .i64 0,.int .i64 (i:Int),.int .i64 0] false 0):=by
        rw[K2.2.1 nx' (by omega) (fun q=>by have:=V.lt s' O' h' nx' hJ' nx' q;omega)]
        exact gt3
       have KK:=(hKX _ _ hX3 (Nat.le_succ _)).trans K2
       cases hst:(step s' ⟨3,src.extract i (j),0,(i:Int),0⟩).2 with
       |false=>
        rw[hst]at hq hv1
        simp-implicitDefEqProofs[go_sem,za0,t0,t1,t2,t4]
        rw[hR]
        simp only[if_true]at hv1
        rw[hv1]
        exact⟨O2,KK,by simpa using hq⟩
       |true=>
        rw[hst]at hq hv1
        simp-implicitDefEqProofs[go_sem,za0,t0,t1,t2,t4,gt4]
        refine hL (src.size-(j)) _ (by omega) ⟨_,_,_,j,(step s' ⟨3,src.extract i (j),0,(i:Int),0⟩).1,O2,f,rfl,rfl,by omega,by omega,?_⟩
        simp-implicitDefEqProofs[go_sem,t0,t1,t2,t4]
        exact⟨KK,by simpa using hq,Lib.hid (by simpa using hv1)⟩
     ·rw[c7]at hcl
      have htk:zbo src i=(⟨3,src.extract i j,0,(i:Int),3⟩,j):=by
       unfold zbo
       rw[if_neg c3,if_neg c4,if_pos (.inr (.inr c7)),if_neg (fun q=>h61 q.2),c7,hje];rfl
      rw[htk]at hv1
      simp only at hv1
      by_cases q:j<src.size
      ·have e61:¬(src[j]).toNat=61:=fun e=>h61 (by subst hje;exact⟨q,e⟩)
       have e61I:¬((src[j]).toNat:Int)=61:=by omega
       simp-implicitDefEqProofs[go_sem,t0,t1,t2,t4,hlt,za3]
       refine Ret.use hcl ?_
       simp-implicitDefEqProofs[go_sem,za0,t0,t1,t2,t4,hlt,za3,w1',c7]
       refine Ret.use hcl ?_
       simp-implicitDefEqProofs[go_sem,za0,t0,t1,t2,t4,hlt,za3,w1',hi,zcl,q,e61,e61I,w2,hj1,hj2]
       generalize hg3:Tr.put _ nx' (some (bx 210 [.int .i64 3,.bs (src.extract i (j)),.int .i64 0,.int .i64 (i:Int),.int .i64 3] false 0))=g3
       have hX3:Ext nx' h' g3:=by
        rw[← hg3]
        simp(disch:=omega)only[za6]
        exact Ext.refl _ _
       have gt3:g3.get nx'=some (bx 210 [.int .i64 3,.bs (src.extract i (j)),.int .i64 0,.int .i64 (i:Int),.int .i64 3] false 0):=by rw[← hg3];simp[go_sem]
       clear hg3
       refine(V.yld s' O' ⟨3,src.extract i (j),0,(i:Int),3⟩ g3 (nx'+1) trivial (hJX _ _ hX3 (Nat.le_succ _))).mono ?_
       rintro v g ny ⟨rfl,O2,K2,hq⟩
       have gt4:g.get nx'=some (bx 210 [.int .i64 3,.bs (src.extract i (j)),.int .i64 0,.int .i64 (i:Int),.int .i64 3] false 0):=by
        rw[K2.2.1 nx' (by omega) (fun q=>by have:=V.lt s' O' h' nx' hJ' nx' q;omega)]
        exact gt3
       have KK:=(hKX _ _ hX3 (Nat.le_succ _)).trans K2
       cases hst:(step s' ⟨3,src.extract i (j),0,(i:Int),3⟩).2 with
       |false=>
        rw[hst]at hq hv1
        simp-implicitDefEqProofs[go_sem,za0,t0,t1,t2,t4]
        rw[hR]
        simp only[if_true]at hv1
        rw[hv1]
        exact⟨O2,KK,by simpa using hq⟩
       |true=>
        rw[hst]at hq hv1
        simp-implicitDefEqProofs[go_sem,za0,t0,t1,t2,t4,gt4]
        rw[hR]
        simp at hv1
        rw[hv1]
        exact⟨O2,KK,by simpa using hq⟩
      ·skip
       simp-implicitDefEqProofs[go_sem,t0,t1,t2,t4,hlt,za3]
       refine Ret.use hcl ?_
       simp-implicitDefEqProofs[go_sem,za0,t0,t1,t2,t4,hlt,za3,w1',c7]
       refine Ret.use hcl ?_
       simp-implicitDefEqProofs[go_sem,za0,t0,t1,t2,t4,hlt,za3,w1',hi,zcl,q,w2,hj1,hj2]
       generalize hg3:Tr.put _ nx' (some (bx 210 [.int .i64 3,.bs (src.extract i (j)),.int .i64 0,.int .i64 (i:Int),.int .i64 3] false 0))=g3
       have hX3:Ext nx' h' g3:=by
        rw[← hg3]
        simp(disch:=omega)only[za6]
        exact Ext.refl _ _
       have gt3:g3.get nx'=some (bx 210 [.int .i64 3,.bs (src.extract i (j)),.int .i64 0,.int .i64 (i:Int),.int .i64 3] false 0):=by rw[← hg3];simp[go_sem]
       clear hg3
       refine(V.yld s' O' ⟨3,src.extract i (j),0,(i:Int),3⟩ g3 (nx'+1) trivial (hJX _ _ hX3 (Nat.le_succ _))).mono ?_
       rintro v g ny ⟨rfl,O2,K2,hq⟩
       have gt4:g.get nx'=some (bx 210 [.int .i64 3,.bs (src.extract i (j)),.int .i64 0,.int .i64 (i:Int),.int .i64 3] false 0):=by
        rw[K2.2.1 nx' (by omega) (fun q=>by have:=V.lt s' O' h' nx' hJ' nx' q;omega)]
        exact gt3
       have KK:=(hKX _ _ hX3 (Nat.le_succ _)).trans K2
       cases hst:(step s' ⟨3,src.extract i (j),0,(i:Int),3⟩).2 with
       |false=>
        rw[hst]at hq hv1
        simp-implicitDefEqProofs[go_sem,za0,t0,t1,t2,t4]
        rw[hR]
        simp only[if_true]at hv1
        rw[hv1]
        exact⟨O2,KK,by simpa using hq⟩
       |true=>
        rw[hst]at hq hv1
        simp-implicitDefEqProofs[go_sem,za0,t0,t1,t2,t4,gt4]
        rw[hR]
        simp at hv1
        rw[hv1]
        exact⟨O2,KK,by simpa using hq⟩
   have n6:¬cl src i=6:=c6
   have n7:¬cl src i=7:=fun q=>c78 (.inl q)
   have n8:¬cl src i=8:=fun q=>c78 (.inr q)
   have c678:¬(cl src i=6∨cl src i=7∨cl src i=8):=by omega
   have htk:zbo src i=(⟨0,.empty,0,(i:Int),3⟩,i):=by
    unfold zbo
    rw[if_neg c3,if_neg c4,if_neg c678,show src.extract i i=ByteArray.empty from by simp]
   rw[htk]at hv1
   simp only at hv1
   have hii:i≤i:=Nat.le_refl _
   simp-implicitDefEqProofs[go_sem,t0,t1,t2,t4,hlt,za3]
   refine Ret.use hcl ?_
   simp-implicitDefEqProofs[go_sem,za0,t0,t1,t2,t4,hlt,za3,c1,c2,c3,c4,n6,n7,n8,hi,hii,zcl]
   generalize hg3:Tr.put _ nx' (some (bx 210 [.int .i64 0,.bs (.empty),.int .i64 0,.int .i64 (i:Int),.int .i64 3] false 0))=g3
   have hX3:Ext nx' h' g3:=by
    rw[← hg3]
    simp(disch:=omega)only[za6]
    exact Ext.refl _ _
   have gt3:g3.get nx'=some (bx 210 [.int .i64 0,.bs (.empty),.int .i64 0,.int .i64 (i:Int),.int .i64 3] false 0):=by rw[← hg3];simp[go_sem]
   clear hg3
   refine(V.yld s' O' ⟨0,.empty,0,(i:Int),3⟩ g3 (nx'+1) trivial (hJX _ _ hX3 (Nat.le_succ _))).mono ?_
   rintro v g ny ⟨rfl,O2,K2,hq⟩
   have gt4:g.get nx'=some (bx 210 [.int .i64 0,.bs (.empty),.int .i64 0,.int .i64 (i:Int),.int .i64 3] false 0):=by
    rw[K2.2.1 nx' (by omega) (fun q=>by have:=V.lt s' O' h' nx' hJ' nx' q;omega)]
    exact gt3
   have KK:=(hKX _ _ hX3 (Nat.le_succ _)).trans K2
   cases hst:(step s' ⟨0,.empty,0,(i:Int),3⟩).2 with
   |false=>
    rw[hst]at hq hv1
    simp-implicitDefEqProofs[go_sem,za0,t0,t1,t2,t4]
    rw[hR]
    simp only[if_true]at hv1
    rw[hv1]
    exact⟨O2,KK,by simpa using hq⟩
   |true=>
    rw[hst]at hq hv1
    simp-implicitDefEqProofs[go_sem,za0,t0,t1,t2,t4,gt4]
    rw[hR]
    simp at hv1
    rw[hv1]
    exact⟨O2,KK,by simpa using hq⟩
  ·rw[if_pos (by omega)]at hv1
   simp-implicitDefEqProofs[go_sem,t0,t1,t2,t4,hlt]
   rw[hR,hv1]
   exact⟨O',hK,by rw[if_pos rfl];exact hJ'⟩
end
end Go.Ev
