/- Texts T70. -/
import Derived.Test.YtjngkeajenankaaGreatDoorP37
set_option linter.unusedSimpArgs false
set_option linter.unusedVariables false
set_option maxRecDepth 100000
namespace Go.Ev
open Go.Proofs Go.RowKit
noncomputable section
attribute [-go_sem] pPick lookRes evConvS evStrB
theorem Kept.trans {O O' O'':Nat→Prop}{h g f:Tr ABlk}{nx ny nz:Nat}(p:Kept O h nx O' g ny)(q:Kept O' g ny O'' f nz):Kept O h nx O'' f nz:=by
 obtain⟨p1,p2,p3⟩:=p
 obtain⟨q1,q2,q3⟩:=q
 refine⟨by omega,fun k hk ho=>?_,fun k hk=>?_⟩
 ·rw[q2 k (by omega) (fun h'=>by rcases p3 k h' with h1 |h1;exact ho h1;omega),p2 k hk ho]
 ·rcases q3 k hk with h1 |h1
  ·exact p3 k h1
  ·exact .inr (by omega)
theorem cl_at {s:ByteArray}{i:Nat}(h:i<s.size):cl s i=(clsN (s[i]).toNat:Int):=by
 unfold cl clsAt
 rw[dif_pos h]
theorem spanL_gt {s:ByteArray}{i:Nat}(h:i<s.size)(hc:cl s i=2):i<spanL s s.size i:=by
 obtain⟨m,hm⟩:∃m,s.size=m+1:=⟨s.size-1,by omega⟩
 have h10:¬(s[i]).toNat=10:=by
  intro e
  rw[cl_at h,e]at hc
  exact absurd hc (by decide)
 rw[hm,spanL,dif_pos h,if_neg h10]
 have:=(spanL_le s m (i+1) h).1
 omega
theorem spanL_stop {s:ByteArray}{f j:Nat}(h:¬j<s.size∨∃q:j<s.size,(s[j]).toNat=10):spanL s f j=j:=by
 cases f with
 |zero=>rfl
 |succ f=>
  rw[spanL]
  rcases h with h |⟨q,h⟩
  ·rw[dif_neg h]
  ·rw[dif_pos q,if_pos h]
theorem spanC_gt {p:Int→Bool}(hp:p 0=false){s:ByteArray}{i:Nat}(h:i<s.size)(hc:p (cl s i)=true):i<spanC p s s.size i:=by
 obtain⟨m,hm⟩:∃m,s.size=m+1:=⟨s.size-1,by omega⟩
 rw[hm,spanC,if_pos hc]
 have:=(spanC_le p hp s m (i+1) h).1
 omega
theorem extract_digits {s:ByteArray}{i j:Nat}(hj:j≤s.size)(h:∀k,i≤k→k<j→cl s k=4):∀z∈(s.extract i j).data.toList,48≤z.toNat∧z.toNat≤57:=by
 intro z hz
 rw[ByteArray.data_extract]at hz
 obtain⟨k,hk,e⟩:=List.getElem_of_mem hz
 rw[Array.getElem_toList,Array.getElem_extract]at e
 simp only[Array.length_toList,Array.size_extract]at hk
 have hsz:s.data.size=s.size:=rfl
 have hk2:i+k<s.size:=by omega
 have h4:=h (i+k) (by omega) (by omega)
 have:cl s (i+k)=(clsN (s[i+k]).toNat:Int):=by unfold cl clsAt;rw[dif_pos hk2]
 rw[this]at h4
 have h5:clsN (s[i+k]).toNat=4:=by omega
 have h6:=cls_digit h5
 have e2:s[i+k]=z:=by rw[← e];rfl
 rw[e2]at h6
 exact h6
theorem extract_size {s:ByteArray}{i j:Nat}(h1:i≤j)(hj:j≤s.size):(s.extract i j).size=j-i:=by
 rw[ByteArray.size_extract]
 omega
theorem ft138:cx.ft.get 138=some Tryz.f138:=cxS_ft (by decide) (by kernel_rfl)
def visT {S:Type}(step:S→Tk→S×Bool)(src:ByteArray):Nat→S→Nat→S×Bool
 |0,s,_=>(s,true)
 |f+1,s,i=>if src.size≤i then (s,true) else if cl src i=1 then visT step src f s (i+1) else if cl src i=2 then visT step src f s (spanL src src.size i) else
  if (step s (tokAt src i).1).2=false then ((step s (tokAt src i).1).1,false) else if (tokAt src i).1.code≠0 then ((step s (tokAt src i).1).1,true) else visT step src f (step s (tokAt src i).1).1 (tokAt src i).2
structure VisT (P:Program)(c:Cx)(S:Type)(step:S→Tk→S×Bool)(Pre:S→Tk→Prop) (y:Nat)(J JE:S→(Nat→Prop)→Tr ABlk→Nat→Prop):Prop where
 ext:∀s O h nx h' nx',J s O h nx→(∀k,O k→h'.get k=h.get k)→nx≤nx'→J s O h' nx'
 lt:∀s O h nx,J s O h nx→∀k,O k→k<nx
 yld:∀s O t h nx,Pre s t→J s O h nx→AYld P c y [.agg t.cs] h nx fun v g ny=>v=.bool (step s t).2∧∃O',Kept O h nx O' g ny∧(if (step s t).2 then J (step s t).1 O' g ny else JE (step s t).1 O' g ny)
set_option maxHeartbeats 4000000 in
theorem tokens2_c {S:Type}{step:S→Tk→S×Bool}{y:Nat}{J JE:S→(Nat→Prop)→Tr ABlk→Nat→Prop}(V:VisT Tryz.prog cx S step (fun _ _=>True) y J JE)(src:ByteArray)(hs:src.size≤20000)(s:S)(O:Nat→Prop)(h:Tr ABlk) (nx:Nat)(hJ:J s O h nx):
  ACall Tryz.prog cx 138 [.yld y,.ip [.bs src],.ip [clsV src]] h nx fun _ g ny=>∃O',Kept O h nx O' g ny∧(if (visT step src (src.size+1) s 0).2 then J (visT step src (src.size+1) s 0).1 O' g ny else JE (visT step src (src.size+1) s 0).1 O' g ny):=by
 obtain⟨R,hR⟩:∃R:AV→Tr ABlk→Nat→Prop,R=fun _ g ny=>∃O',Kept O h nx O' g ny∧(if (visT step src (src.size+1) s 0).2 then J (visT step src (src.size+1) s 0).1 O' g ny else JE (visT step src (src.size+1) s 0).1 O' g ny):=⟨_,rfl⟩
 rw[← hR]
 obtain⟨VT,hVT⟩:∃VT,VT=visT step src (src.size+1) s 0:=⟨_,rfl⟩
 rw[← hVT]at hR
 refine ACall_mk (sz:=148) (rs:=[]) cxok ft138 rfl rfl rfl (by simp) ?_
 unfold clsV
 simp[go_sem]
 refine AW_rounds (fun mm st=>∃tm h' nx' i s' O' f,st=.mk tm h' nx' []∧mm=src.size-i∧i≤src.size∧src.size-i<f∧tm.get 0=some (.yld y)∧tm.get 1=some (.ip [.bs src])∧tm.get 2=some (.ip [.func 137 [] [.ip [.bs src],.ip (encU clsL)]])∧tm.get 4=some (.int .i64 (i:Int))∧Kept O h nx O' h' nx'∧J s' O' h' nx'∧RowKit.Hid (VT=visT step src f s' i)) ⟨src.size,_,_,_,0,s,O,src.size+1,rfl,by simp,by simp,by omega,?_⟩ ?_
 ·simp[go_sem]
  exact⟨⟨Nat.le_refl _,fun _ _ _=>rfl,fun _ q=>.inl q⟩,hJ,Lib.hid hVT⟩
 ·rintro mm st ⟨tm,h',nx',i,s',O',f,rfl,rfl,hi,hf,t0,t1,t2,t4,hK,hJ',hv⟩ L hL
  refine aw_ok cxok _ ?_
  have hcl:=classV_c src i
  obtain⟨f,rfl⟩:∃f',f=f'+1:=⟨f-1,by omega⟩
  have hv1:=hv.out
  rw[visT]at hv1
  by_cases hlt:i<src.size
  ·rw[if_neg (by omega)]at hv1
   have w1:IntKind.i64.wrap ((i:Int)+1)=((i+1:Nat):Int):=by rw[i64wrap] <;> omega
   have hJX:∀g ny,Ext nx' h' g→nx'≤ny→J s' O' g ny:=fun g ny e hn=>V.ext s' O' h' nx' g ny hJ' (fun k hk=>e k (V.lt s' O' h' nx' hJ' k hk)) hn
   have hKX:∀g ny,Ext nx' h' g→nx'≤ny→Kept O h nx O' g ny:=fun g ny e hn=>hK.trans (Kept.ext e hn)
   have hE2:∀x y,Ext nx' h' ((h'.put nx' x).put nx' y):=fun x y=>by
    simp(disch:=omega)only[ext_put]
    exact Ext.refl _ _
   by_cases c1:cl src i=1
   ·rw[c1]at hcl
    rw[if_pos c1]at hv1
    simp[go_sem,t1,t2,t4,hlt,segL]
    refine Ret.use hcl ?_
    simp[go_sem,goOn_some,t4,w1]
    refine hL (src.size-(i+1)) _ (by omega) ⟨_,_,_,i+1,s',O',f,rfl,rfl,by omega,by omega,?_⟩
    simp[go_sem,t0,t1,t2]
    exact⟨hKX _ _ (hE2 _ _) (Nat.le_succ _),hJX _ _ (hE2 _ _) (Nat.le_succ _),Lib.hid hv1⟩
   rw[if_neg c1]at hv1
   by_cases c2:cl src i=2
   ·rw[c2]at hcl
    rw[if_pos c2]at hv1
    have hgt:=spanL_gt hlt c2
    have hle:=spanL_le src src.size i (by omega)
    generalize hJ2:spanL src src.size i=J2 at hv1 hgt hle
    simp[go_sem,t1,t2,t4,hlt,segL]
    refine Ret.use hcl ?_
    simp[go_sem,goOn_some]
    generalize hg2:Tr.put (Tr.put h' nx' _) nx' _=g2
    have hX:Ext nx' h' g2:=by rw[← hg2];exact hE2 _ _
    clear hg2
    refine AW_rounds (fun mm st=>∃tm j f2,st=.mk tm g2 (nx'+1) []∧mm=src.size-j∧i≤j∧j≤src.size∧src.size-j≤f2∧tm.get 0=some (.yld y)∧tm.get 1=some (.ip [.bs src])∧tm.get 2=some (.ip [.func 137 [] [.ip [.bs src],.ip (encU clsL)]])∧tm.get 4=some (.int .i64 (j:Int))∧RowKit.Hid (J2=spanL src f2 j)) ⟨src.size-i,_,i,src.size,rfl,rfl,by omega,by omega,by omega,?_⟩ ?_
    ·simp[go_sem,t0,t1,t2,t4]
     exact Lib.hid hJ2.symm
    ·rintro mm st ⟨tm,j,f2,rfl,rfl,hij,hjs,hf2,u0,u1,u2,u4,hw⟩ L2 hL2
     refine aw_ok cxok _ ?_
     by_cases hjl:j<src.size
     ·have w2:IntKind.i64.wrap ((j:Int)+1)=((j+1:Nat):Int):=by rw[i64wrap] <;> omega
      by_cases h10:(src[j]).toNat=10
      ·have hst:=spanL_stop (s:=src) (f:=f2) (j:=j) (.inr ⟨hjl,h10⟩)
       have hJj:J2=j:=by rw[hw.out,hst]
       have h10I:((src[j]).toNat:Int)=10:=by omega
       simp[go_sem,u1,u4,hjl,h10]
       rw[hJj]at hv1
       have hij2:i<j:=by omega
       refine hL (src.size-j) _ (by omega) ⟨_,_,_,j,s',O',f,rfl,rfl,by omega,by omega,?_⟩
       simp[go_sem,u0,u1,u2,u4]
       exact⟨hKX _ _ hX (Nat.le_succ _),hJX _ _ hX (Nat.le_succ _),Lib.hid hv1⟩
      ·have h10I:¬((src[j]).toNat:Int)=10:=by omega
       obtain⟨f3,rfl⟩:∃f3,f2=f3+1:=⟨f2-1,by omega⟩
       have hw1:=hw.out
       rw[spanL,dif_pos hjl,if_neg h10]at hw1
       simp[go_sem,u1,u4,hjl,h10I,w2]
       refine hL2 (src.size-(j+1)) _ (by omega) ⟨_,j+1,f3,rfl,rfl,by omega,by omega,by omega,?_⟩
       simp[go_sem,u0,u1,u2]
       exact Lib.hid hw1
     ·have hst:=spanL_stop (s:=src) (f:=f2) (j:=j) (.inl hjl)
      have hJj:J2=j:=by rw[hw.out,hst]
      simp[go_sem,u1,u4,hjl]
      rw[hJj]at hv1
      have hij2:i<j:=by omega
      refine hL (src.size-j) _ (by omega) ⟨_,_,_,j,s',O',f,rfl,rfl,by omega,by omega,?_⟩
      simp[go_sem,u0,u1,u2,u4]
      exact⟨hKX _ _ hX (Nat.le_succ _),hJX _ _ hX (Nat.le_succ _),Lib.hid hv1⟩
   rw[if_neg c2]at hv1
   by_cases c3:cl src i=3
   ·rw[c3]at hcl
    have htk:tokAt src i=(⟨1,src.extract i (spanC isWord src src.size i),0,(i:Int),if 24<spanC isWord src src.size i-i then 2 else 0⟩,spanC isWord src src.size i):=by
     unfold tokAt
     rw[if_pos c3]
    have hle:=spanC_le isWord rfl src src.size i (by omega)
    have hgt:=spanC_gt (p:=isWord) rfl hlt (by rw[c3];rfl)
    generalize hJ2:spanC isWord src src.size i=J2 at htk hle hgt
    rw[htk]at hv1
    simp[go_sem,t1,t2,t4,hlt,segL]
    refine Ret.use hcl ?_
    simp[go_sem,goOn_some,t2,t4]
    refine Ret.use hcl ?_
    simp[go_sem,goOn_some]
    generalize hg2:Tr.put (Tr.put h' nx' _) nx' _=g2
    have hX:Ext nx' h' g2:=by rw[← hg2];exact hE2 _ _
    have gt2:g2.get nx'=some (bx 175 [.int .i64 0,.bs .empty,.int .i64 0,.int .i64 (i:Int),.int .i64 0] false 0):=by rw[← hg2];simp[go_sem]
    clear hg2
    refine AW_rounds (fun mm st=>∃tm j f2,st=.mk tm g2 (nx'+1) []∧mm=src.size-j∧i≤j∧j≤src.size∧src.size-j≤f2∧tm.get 0=some (.yld y)∧tm.get 1=some (.ip [.bs src])∧tm.get 2=some (.ip [.func 137 [] [.ip [.bs src],.ip (encU clsL)]])∧tm.get 4=some (.int .i64 (j:Int))∧tm.get 5=some (.int .i64 (i:Int))∧tm.get 6=some (.ptr nx' 0)∧tm.get 7=some (.int .u8 (cl src j))∧RowKit.Hid (J2=spanC isWord src f2 j)) ⟨src.size-i,_,i,src.size,rfl,rfl,by omega,by omega,by omega,?_⟩ ?_
    ·simp[go_sem,t0,t1,t2,t4,c3]
     exact Lib.hid hJ2.symm
    ·rintro mm st ⟨tm,j,f2,rfl,rfl,hij,hjs,hf2,u0,u1,u2,u4,u5,u6,u7,hw⟩ L2 hL2
     refine aw_ok cxok _ ?_
     have w2:IntKind.i64.wrap ((j:Int)+1)=(j:Int)+1:=by rw[i64wrap] <;> omega
     have hcj:Ret Tryz.prog cx 137 [.int .i64 ((j:Int)+1),.ip [.bs src],.ip (encU clsL)] (.int .u8 (cl src (j+1))):=by simpa using classV_c src (j+1)
     by_cases hwd:isWord (cl src j)=true
     ·have hjl:j<src.size:=by
       rcases Nat.lt_or_ge j src.size with q |q
       ·exact q
       ·rw[cl_end q]at hwd;cases hwd
      obtain⟨f3,rfl⟩:∃f3,f2=f3+1:=⟨f2-1,by omega⟩
      have hw1:=hw.out
      rw[spanC,if_pos hwd]at hw1
      have h345:cl src j=3∨cl src j=4∨cl src j=5:=by
       unfold isWord at hwd
       simpa using hwd
      rcases h345 with w3 |w4 |w5
      ·simp[go_sem,u2,u4,u7,w3,w2]
       refine Ret.use hcj ?_
       simp[go_sem,goOn_some]
       refine hL2 (src.size-(j+1)) _ (by omega) ⟨_,j+1,f3,rfl,rfl,by omega,by omega,by omega,?_⟩
       simp[go_sem,u0,u1,u2,u5,u6]
       exact Lib.hid hw1
      ·simp[go_sem,u2,u4,u7,w4,w2]
       refine Ret.use hcj ?_
       simp[go_sem,goOn_some]
       refine hL2 (src.size-(j+1)) _ (by omega) ⟨_,j+1,f3,rfl,rfl,by omega,by omega,by omega,?_⟩
       simp[go_sem,u0,u1,u2,u5,u6]
       exact Lib.hid hw1
      ·simp[go_sem,u2,u4,u7,w5,w2]
       refine Ret.use hcj ?_
       simp[go_sem,goOn_some]
       refine hL2 (src.size-(j+1)) _ (by omega) ⟨_,j+1,f3,rfl,rfl,by omega,by omega,by omega,?_⟩
       simp[go_sem,u0,u1,u2,u5,u6]
       exact Lib.hid hw1
     ·have hJj:J2=j:=by
       have hw1:=hw.out
       cases f2 with
       |zero=>rw[hw1];rfl
       |succ f2=>rw[hw1,spanC,if_neg hwd]
      have n3:¬cl src j=3:=fun q=>hwd (by rw[q];rfl)
      have n4:¬cl src j=4:=fun q=>hwd (by rw[q];rfl)
      have n5:¬cl src j=5:=fun q=>hwd (by rw[q];rfl)
      have w3:IntKind.i64.wrap ((j:Int)-(i:Int))=(j:Int)-(i:Int):=by rw[i64wrap] <;> omega
      by_cases hbig:24<j-i
      ·have hbI:(24:Int)<(j:Int)-(i:Int):=by omega
       simp[go_sem,u0,u1,u4,u5,u6,u7,n3,n4,n5,w3,hbI,gt2,segL,hij,hjs,nble]
       generalize hg3:Tr.put _ nx' (some (bx 175 [.int .i64 1,.bs (src.extract i j),.int .i64 0,.int .i64 (i:Int),.int .i64 2] false 0))=g3
       have hX3:Ext nx' h' g3:=by
        rw[← hg3]
        simp(disch:=omega)only[ext_put]
        exact hX
       have gt3:g3.get nx'=some (bx 175 [.int .i64 1,.bs (src.extract i j),.int .i64 0,.int .i64 (i:Int),.int .i64 2] false 0):=by rw[← hg3];simp[go_sem]
       clear hg3
       rw[hJj]at hv1
       simp only[if_pos hbig]at hv1
       refine(V.yld s' O' ⟨1,src.extract i j,0,(i:Int),2⟩ g3 (nx'+1) trivial (hJX _ _ hX3 (Nat.le_succ _))).mono ?_
       rintro v g ny ⟨rfl,O2,K2,hq⟩
       have gt4:g.get nx'=some (bx 175 [.int .i64 1,.bs (src.extract i j),.int .i64 0,.int .i64 (i:Int),.int .i64 2] false 0):=by
        rw[K2.2.1 nx' (by omega) (fun q=>by have:=V.lt s' O' h' nx' hJ' nx' q;omega)]
        exact gt3
       have KK:=(hKX _ _ hX3 (Nat.le_succ _)).trans K2
       cases hst:(step s' ⟨1,src.extract i j,0,(i:Int),2⟩).2 with
       |false=>
        rw[hst]at hq hv1
        simp[go_sem,goOn_some,u6]
        rw[hR]
        simp only[if_true]at hv1
        rw[hv1]
        exact⟨O2,KK,by simpa using hq⟩
       |true=>
        rw[hst]at hq hv1
        simp[go_sem,goOn_some,u6,gt4]
        rw[hR]
        simp at hv1
        rw[hv1]
        exact⟨O2,KK,by simpa using hq⟩
      ·have hbI:¬(24:Int)<(j:Int)-(i:Int):=by omega
       simp[go_sem,u0,u1,u4,u5,u6,u7,n3,n4,n5,w3,hbI,gt2,segL,hij,hjs,nble]
       generalize hg3:Tr.put _ nx' (some (bx 175 [.int .i64 1,.bs (src.extract i j),.int .i64 0,.int .i64 (i:Int),.int .i64 0] false 0))=g3
       have hX3:Ext nx' h' g3:=by
        rw[← hg3]
        simp(disch:=omega)only[ext_put]
        exact hX
       have gt3:g3.get nx'=some (bx 175 [.int .i64 1,.bs (src.extract i j),.int .i64 0,.int .i64 (i:Int),.int .i64 0] false 0):=by rw[← hg3];simp[go_sem]
       clear hg3
       rw[hJj]at hv1
       simp only[if_neg hbig]at hv1
       refine(V.yld s' O' ⟨1,src.extract i j,0,(i:Int),0⟩ g3 (nx'+1) trivial (hJX _ _ hX3 (Nat.le_succ _))).mono ?_
       rintro v g ny ⟨rfl,O2,K2,hq⟩
       have gt4:g.get nx'=some (bx 175 [.int .i64 1,.bs (src.extract i j),.int .i64 0,.int .i64 (i:Int),.int .i64 0] false 0):=by
        rw[K2.2.1 nx' (by omega) (fun q=>by have:=V.lt s' O' h' nx' hJ' nx' q;omega)]
        exact gt3
       have KK:=(hKX _ _ hX3 (Nat.le_succ _)).trans K2
       cases hst:(step s' ⟨1,src.extract i j,0,(i:Int),0⟩).2 with
       |false=>
        rw[hst]at hq hv1
        simp[go_sem,goOn_some,u6]
        rw[hR]
        simp only[if_true]at hv1
        rw[hv1]
        exact⟨O2,KK,by simpa using hq⟩
       |true=>
        rw[hst]at hq hv1
        simp[go_sem,goOn_some,u6,gt4]
        have hij2:i<j:=by omega
        refine hL (src.size-j) _ (by omega) ⟨_,_,_,j,(step s' ⟨1,src.extract i j,0,(i:Int),0⟩).1,O2,f,rfl,rfl,by omega,by omega,?_⟩
        simp[go_sem,u0,u1,u2,u4]
        exact⟨KK,by simpa using hq,Lib.hid (by simpa using hv1)⟩
   by_cases c4:cl src i=4
   ·rw[c4]at hcl
    have hle:=spanC_le isDigit rfl src src.size i (by omega)
    have hgt:=spanC_gt (p:=isDigit) rfl hlt (by rw[c4];rfl)
    have hall:=spanC_all isDigit src src.size i
    have htk:tokAt src i=if 7<spanC isDigit src src.size i-i∨cl src (spanC isDigit src src.size i)=3∨cl src (spanC isDigit src src.size i)=5 then (⟨2,src.extract i (spanC isDigit src src.size i),0,(i:Int),4⟩,spanC isDigit src src.size i) else (⟨2,src.extract i (spanC isDigit src src.size i),atoiF (src.extract i (spanC isDigit src src.size i)).data.toList 0,(i:Int),0⟩,spanC isDigit src src.size i):=by
     unfold tokAt
     rw[if_neg c3,if_pos c4]
    generalize hJ2:spanC isDigit src src.size i=J2 at htk hle hgt hall
    rw[htk]at hv1
    simp[go_sem,t1,t2,t4,hlt,segL]
    refine Ret.use hcl ?_
    simp[go_sem,goOn_some]
    generalize hg2:Tr.put (Tr.put h' nx' _) nx' _=g2
    have hX:Ext nx' h' g2:=by rw[← hg2];exact hE2 _ _
    have gt2:g2.get nx'=some (bx 175 [.int .i64 0,.bs .empty,.int .i64 0,.int .i64 (i:Int),.int .i64 0] false 0):=by rw[← hg2];simp[go_sem]
    clear hg2
    refine AW_rounds (fun mm st=>∃tm j f2,st=.mk tm g2 (nx'+1) []∧mm=src.size-j∧i≤j∧j≤src.size∧src.size-j≤f2∧tm.get 0=some (.yld y)∧tm.get 1=some (.ip [.bs src])∧tm.get 2=some (.ip [.func 137 [] [.ip [.bs src],.ip (encU clsL)]])∧tm.get 4=some (.int .i64 (j:Int))∧tm.get 5=some (.int .i64 (i:Int))∧tm.get 6=some (.ptr nx' 0)∧RowKit.Hid (J2=spanC isDigit src f2 j)) ⟨src.size-i,_,i,src.size,rfl,rfl,by omega,by omega,by omega,?_⟩ ?_
    ·simp[go_sem,t0,t1,t2,t4]
     exact Lib.hid hJ2.symm
    ·rintro mm st ⟨tm,j,f2,rfl,rfl,hij,hjs,hf2,u0,u1,u2,u4,u5,u6,hw⟩ L2 hL2
     refine aw_ok cxok _ ?_
     have w2:IntKind.i64.wrap ((j:Int)+1)=(j:Int)+1:=by rw[i64wrap] <;> omega
     have hcj:=classV_c src j
     by_cases hwd:cl src j=4
     ·have hjl:j<src.size:=by
       rcases Nat.lt_or_ge j src.size with q |q
       ·exact q
       ·rw[cl_end q]at hwd;cases hwd
      obtain⟨f3,rfl⟩:∃f3,f2=f3+1:=⟨f2-1,by omega⟩
      have hw1:=hw.out
      rw[spanC,if_pos (by rw[hwd];rfl)]at hw1
      rw[hwd]at hcj
      simp[go_sem,u2,u4]
      refine Ret.use hcj ?_
      simp[go_sem,goOn_some,u4,w2]
      refine hL2 (src.size-(j+1)) _ (by omega) ⟨_,j+1,f3,rfl,rfl,by omega,by omega,by omega,?_⟩
      simp[go_sem,u0,u1,u2,u5,u6]
      exact Lib.hid hw1
     ·have hJj:J2=j:=by
       have hw1:=hw.out
       cases f2 with
       |zero=>rw[hw1];rfl
       |succ f2=>rw[hw1,spanC,if_neg (by unfold isDigit;simpa using hwd)]
      have w3:IntKind.i64.wrap ((j:Int)-(i:Int))=(j:Int)-(i:Int):=by rw[i64wrap] <;> omega
      simp[go_sem,u2,u4]
      refine Ret.use hcj ?_
      simp[go_sem,goOn_some,u2,u4,u6,hwd,gt2,segL]
      refine Ret.use hcj ?_
      rw[hJj]at hv1
      by_cases b7:7<j-i
      ·have b7I:(7:Int)<(j:Int)-(i:Int):=by omega
       rw[if_pos (show 7<j-i∨cl src j=3∨cl src j=5 from .inl b7)]at hv1
       simp only at hv1
       simp[go_sem,goOn_some,u0,u1,u4,u5,u6,w3,segL,hij,hjs,nble,b7I]
       generalize hg3:Tr.put _ nx' (some (bx 175 [.int .i64 2,.bs (src.extract i j),.int .i64 0,.int .i64 (i:Int),.int .i64 4] false 0))=g3
       have hX3:Ext nx' h' g3:=by
        rw[← hg3]
        simp(disch:=omega)only[ext_put]
        exact hX
       have gt3:g3.get nx'=some (bx 175 [.int .i64 2,.bs (src.extract i j),.int .i64 0,.int .i64 (i:Int),.int .i64 4] false 0):=by rw[← hg3];simp[go_sem]
       clear hg3
       refine(V.yld s' O' ⟨2,src.extract i j,0,(i:Int),4⟩ g3 (nx'+1) trivial (hJX _ _ hX3 (Nat.le_succ _))).mono ?_
       rintro v g ny ⟨rfl,O2,K2,hq⟩
       have gt4:g.get nx'=some (bx 175 [.int .i64 2,.bs (src.extract i j),.int .i64 0,.int .i64 (i:Int),.int .i64 4] false 0):=by
        rw[K2.2.1 nx' (by omega) (fun q=>by have:=V.lt s' O' h' nx' hJ' nx' q;omega)]
        exact gt3
       have KK:=(hKX _ _ hX3 (Nat.le_succ _)).trans K2
       cases hst:(step s' ⟨2,src.extract i j,0,(i:Int),4⟩).2 with
       |false=>
        rw[hst]at hq hv1
        simp[go_sem,goOn_some,u6]
        rw[hR]
        simp only[if_true]at hv1
        rw[hv1]
        exact⟨O2,KK,by simpa using hq⟩
       |true=>
        rw[hst]at hq hv1
        simp[go_sem,goOn_some,u6,gt4]
        rw[hR]
        simp at hv1
        rw[hv1]
        exact⟨O2,KK,by simpa using hq⟩
      have b7I:¬(7:Int)<(j:Int)-(i:Int):=by omega
      by_cases b3:cl src j=3
      ·rw[if_pos (show 7<j-i∨cl src j=3∨cl src j=5 from .inr (.inl b3))]at hv1
       simp only at hv1
       simp[go_sem,goOn_some,u0,u1,u4,u5,u6,w3,segL,hij,hjs,nble,b7I,b3]
       generalize hg3:Tr.put _ nx' (some (bx 175 [.int .i64 2,.bs (src.extract i j),.int .i64 0,.int .i64 (i:Int),.int .i64 4] false 0))=g3
       have hX3:Ext nx' h' g3:=by
        rw[← hg3]
        simp(disch:=omega)only[ext_put]
        exact hX
       have gt3:g3.get nx'=some (bx 175 [.int .i64 2,.bs (src.extract i j),.int .i64 0,.int .i64 (i:Int),.int .i64 4] false 0):=by rw[← hg3];simp[go_sem]
       clear hg3
       refine(V.yld s' O' ⟨2,src.extract i j,0,(i:Int),4⟩ g3 (nx'+1) trivial (hJX _ _ hX3 (Nat.le_succ _))).mono ?_
       rintro v g ny ⟨rfl,O2,K2,hq⟩
       have gt4:g.get nx'=some (bx 175 [.int .i64 2,.bs (src.extract i j),.int .i64 0,.int .i64 (i:Int),.int .i64 4] false 0):=by
        rw[K2.2.1 nx' (by omega) (fun q=>by have:=V.lt s' O' h' nx' hJ' nx' q;omega)]
        exact gt3
       have KK:=(hKX _ _ hX3 (Nat.le_succ _)).trans K2
       cases hst:(step s' ⟨2,src.extract i j,0,(i:Int),4⟩).2 with
       |false=>
        rw[hst]at hq hv1
        simp[go_sem,goOn_some,u6]
        rw[hR]
        simp only[if_true]at hv1
        rw[hv1]
        exact⟨O2,KK,by simpa using hq⟩
       |true=>
        rw[hst]at hq hv1
        simp[go_sem,goOn_some,u6,gt4]
        rw[hR]
        simp at hv1
        rw[hv1]
        exact⟨O2,KK,by simpa using hq⟩
      by_cases b5:cl src j=5
      ·rw[if_pos (show 7<j-i∨cl src j=3∨cl src j=5 from .inr (.inr b5))]at hv1
       simp only at hv1
       simp[go_sem,goOn_some,u0,u1,u4,u5,u6,w3,segL,hij,hjs,nble,b7I,b5]
       generalize hg3:Tr.put _ nx' (some (bx 175 [.int .i64 2,.bs (src.extract i j),.int .i64 0,.int .i64 (i:Int),.int .i64 4] false 0))=g3
       have hX3:Ext nx' h' g3:=by
        rw[← hg3]
        simp(disch:=omega)only[ext_put]
        exact hX
       have gt3:g3.get nx'=some (bx 175 [.int .i64 2,.bs (src.extract i j),.int .i64 0,.int .i64 (i:Int),.int .i64 4] false 0):=by rw[← hg3];simp[go_sem]
       clear hg3
       refine(V.yld s' O' ⟨2,src.extract i j,0,(i:Int),4⟩ g3 (nx'+1) trivial (hJX _ _ hX3 (Nat.le_succ _))).mono ?_
       rintro v g ny ⟨rfl,O2,K2,hq⟩
       have gt4:g.get nx'=some (bx 175 [.int .i64 2,.bs (src.extract i j),.int .i64 0,.int .i64 (i:Int),.int .i64 4] false 0):=by
        rw[K2.2.1 nx' (by omega) (fun q=>by have:=V.lt s' O' h' nx' hJ' nx' q;omega)]
        exact gt3
       have KK:=(hKX _ _ hX3 (Nat.le_succ _)).trans K2
       cases hst:(step s' ⟨2,src.extract i j,0,(i:Int),4⟩).2 with
       |false=>
        rw[hst]at hq hv1
        simp[go_sem,goOn_some,u6]
        rw[hR]
        simp only[if_true]at hv1
        rw[hv1]
        exact⟨O2,KK,by simpa using hq⟩
       |true=>
        rw[hst]at hq hv1
        simp[go_sem,goOn_some,u6,gt4]
        rw[hR]
        simp at hv1
        rw[hv1]
        exact⟨O2,KK,by simpa using hq⟩
      rw[if_neg (show ¬(7<j-i∨cl src j=3∨cl src j=5) from by omega)]at hv1
      simp only at hv1
      simp[go_sem,goOn_some,u1,u4,u5,w3,hij,hjs,nble,b7I,b3,b5]
      have hij3:i<j:=by omega
      have hat:=atoiS_c (src.extract i j) (by rw[extract_size hij hjs];omega) (by rw[extract_size hij hjs];omega) (extract_digits hjs fun k k1 k2=>by
       have:=hall k k1 (by omega)
       unfold isDigit at this
       simpa using this)
      generalize hnum:atoiF (src.extract i j).data.toList 0=num at hat hv1
      refine Ret.use hat ?_
      simp[go_sem,goOn_some,u0,u1,u4,u5,u6,segL,hij,hjs,nble]
      generalize hg3:Tr.put _ nx' (some (bx 175 [.int .i64 2,.bs (src.extract i j),.int .i64 num,.int .i64 (i:Int),.int .i64 0] false 0))=g3
      have hX3:Ext nx' h' g3:=by
       rw[← hg3]
       simp(disch:=omega)only[ext_put]
       exact hX
      have gt3:g3.get nx'=some (bx 175 [.int .i64 2,.bs (src.extract i j),.int .i64 num,.int .i64 (i:Int),.int .i64 0] false 0):=by rw[← hg3];simp[go_sem]
      clear hg3
      refine(V.yld s' O' ⟨2,src.extract i j,num,(i:Int),0⟩ g3 (nx'+1) trivial (hJX _ _ hX3 (Nat.le_succ _))).mono ?_
      rintro v g ny ⟨rfl,O2,K2,hq⟩
      have gt4:g.get nx'=some (bx 175 [.int .i64 2,.bs (src.extract i j),.int .i64 num,.int .i64 (i:Int),.int .i64 0] false 0):=by
       rw[K2.2.1 nx' (by omega) (fun q=>by have:=V.lt s' O' h' nx' hJ' nx' q;omega)]
       exact gt3
      have KK:=(hKX _ _ hX3 (Nat.le_succ _)).trans K2
      cases hst:(step s' ⟨2,src.extract i j,num,(i:Int),0⟩).2 with
      |false=>
       rw[hst]at hq hv1
       simp[go_sem,goOn_some,u6]
       rw[hR]
       simp only[if_true]at hv1
       rw[hv1]
       exact⟨O2,KK,by simpa using hq⟩
      |true=>
       rw[hst]at hq hv1
       simp[go_sem,goOn_some,u6,gt4]
       have hij2:i<j:=by omega
       refine hL (src.size-j) _ (by omega) ⟨_,_,_,j,(step s' ⟨2,src.extract i j,num,(i:Int),0⟩).1,O2,f,rfl,rfl,by omega,by omega,?_⟩
       simp[go_sem,u0,u1,u2,u4]
       exact⟨KK,by simpa using hq,Lib.hid (by simpa using hv1)⟩
   obtain⟨j,hje⟩:∃j,j=i+1:=⟨_,rfl⟩
   obtain⟨j2,hje2⟩:∃j,j=i+2:=⟨_,rfl⟩
   have w1':IntKind.i64.wrap ((i:Int)+1)=((j:Nat):Int):=by rw[i64wrap] <;> omega
   have w2:IntKind.i64.wrap ((j:Int)+1)=((j2:Nat):Int):=by rw[i64wrap] <;> omega
   have hj1:i≤j:=by omega
   have hj2:j≤src.size:=by omega
   by_cases c6:cl src i=6
   ·rw[c6]at hcl
    have htk:tokAt src i=(⟨3,src.extract i j,0,(i:Int),0⟩,j):=by
     unfold tokAt
     rw[if_neg c3,if_neg c4,if_pos (.inl c6),if_neg (fun q=>q.1 c6),c6,hje];rfl
    rw[htk]at hv1
    simp only at hv1
    simp[go_sem,t1,t2,t4,hlt,segL]
    refine Ret.use hcl ?_
    simp[go_sem,goOn_some,t2,t4,segL,w1']
    refine Ret.use hcl ?_
    simp[go_sem,goOn_some,t0,t1,segL,nble,hj1,hj2]
    generalize hg3:Tr.put _ nx' (some (bx 175 [.int .i64 3,.bs (src.extract i (j)),.int .i64 0,.int .i64 (i:Int),.int .i64 0] false 0))=g3
    have hX3:Ext nx' h' g3:=by
     rw[← hg3]
     simp(disch:=omega)only[ext_put]
     exact Ext.refl _ _
    have gt3:g3.get nx'=some (bx 175 [.int .i64 3,.bs (src.extract i (j)),.int .i64 0,.int .i64 (i:Int),.int .i64 0] false 0):=by rw[← hg3];simp[go_sem]
    clear hg3
    refine(V.yld s' O' ⟨3,src.extract i (j),0,(i:Int),0⟩ g3 (nx'+1) trivial (hJX _ _ hX3 (Nat.le_succ _))).mono ?_
    rintro v g ny ⟨rfl,O2,K2,hq⟩
    have gt4:g.get nx'=some (bx 175 [.int .i64 3,.bs (src.extract i (j)),.int .i64 0,.int .i64 (i:Int),.int .i64 0] false 0):=by
     rw[K2.2.1 nx' (by omega) (fun q=>by have:=V.lt s' O' h' nx' hJ' nx' q;omega)]
     exact gt3
    have KK:=(hKX _ _ hX3 (Nat.le_succ _)).trans K2
    cases hst:(step s' ⟨3,src.extract i (j),0,(i:Int),0⟩).2 with
    |false=>
     rw[hst]at hq hv1
     simp[go_sem,goOn_some]
     rw[hR]
     simp only[if_true]at hv1
     rw[hv1]
     exact⟨O2,KK,by simpa using hq⟩
    |true=>
     rw[hst]at hq hv1
     simp[go_sem,goOn_some,gt4]
     refine hL (src.size-(j)) _ (by omega) ⟨_,_,_,j,(step s' ⟨3,src.extract i (j),0,(i:Int),0⟩).1,O2,f,rfl,rfl,by omega,by omega,?_⟩
     simp[go_sem,t0,t1,t2]
     exact⟨KK,by simpa using hq,Lib.hid (by simpa using hv1)⟩
   by_cases c78:cl src i=7∨cl src i=8
   ·by_cases h61:∃q:i+1<src.size,(src[i+1]).toNat=61
    ·obtain⟨q0,e0⟩:=h61
     have q:j<src.size:=by omega
     have e61:(src[j]).toNat=61:=by subst hje;exact e0
     have hj3:i≤j2:=by omega
     have hj4:j2≤src.size:=by omega
     have e61I:((src[j]).toNat:Int)=61:=by omega
     have htk:tokAt src i=(⟨3,src.extract i j2,0,(i:Int),0⟩,j2):=by
      unfold tokAt
      rw[if_neg c3,if_neg c4,if_pos (.inr c78),if_pos ⟨c6,q0,e0⟩,hje2]
     rw[htk]at hv1
     simp only at hv1
     rcases c78 with c7 |c7
     ·rw[c7]at hcl
      simp[go_sem,t1,t2,t4,hlt,segL]
      refine Ret.use hcl ?_
      simp[go_sem,goOn_some,t2,t4,segL,w1']
      refine Ret.use hcl ?_
      simp[go_sem,goOn_some,t0,t1,segL,nble,q,e61,w2,hj3,hj4]
      generalize hg3:Tr.put _ nx' (some (bx 175 [.int .i64 3,.bs (src.extract i (j2)),.int .i64 0,.int .i64 (i:Int),.int .i64 0] false 0))=g3
      have hX3:Ext nx' h' g3:=by
       rw[← hg3]
       simp(disch:=omega)only[ext_put]
       exact Ext.refl _ _
      have gt3:g3.get nx'=some (bx 175 [.int .i64 3,.bs (src.extract i (j2)),.int .i64 0,.int .i64 (i:Int),.int .i64 0] false 0):=by rw[← hg3];simp[go_sem]
      clear hg3
      refine(V.yld s' O' ⟨3,src.extract i (j2),0,(i:Int),0⟩ g3 (nx'+1) trivial (hJX _ _ hX3 (Nat.le_succ _))).mono ?_
      rintro v g ny ⟨rfl,O2,K2,hq⟩
      have gt4:g.get nx'=some (bx 175 [.int .i64 3,.bs (src.extract i (j2)),.int .i64 0,.int .i64 (i:Int),.int .i64 0] false 0):=by
       rw[K2.2.1 nx' (by omega) (fun q=>by have:=V.lt s' O' h' nx' hJ' nx' q;omega)]
       exact gt3
      have KK:=(hKX _ _ hX3 (Nat.le_succ _)).trans K2
      cases hst:(step s' ⟨3,src.extract i (j2),0,(i:Int),0⟩).2 with
      |false=>
       rw[hst]at hq hv1
       simp[go_sem,goOn_some]
       rw[hR]
       simp only[if_true]at hv1
       rw[hv1]
       exact⟨O2,KK,by simpa using hq⟩
      |true=>
       rw[hst]at hq hv1
       simp[go_sem,goOn_some,gt4]
       refine hL (src.size-(j2)) _ (by omega) ⟨_,_,_,j2,(step s' ⟨3,src.extract i (j2),0,(i:Int),0⟩).1,O2,f,rfl,rfl,by omega,by omega,?_⟩
       simp[go_sem,t0,t1,t2]
       exact⟨KK,by simpa using hq,Lib.hid (by simpa using hv1)⟩
     ·rw[c7]at hcl
      simp[go_sem,t1,t2,t4,hlt,segL]
      refine Ret.use hcl ?_
      simp[go_sem,goOn_some,t2,t4,segL,w1']
      refine Ret.use hcl ?_
      simp[go_sem,goOn_some,t0,t1,segL,nble,q,e61,w2,hj3,hj4]
      generalize hg3:Tr.put _ nx' (some (bx 175 [.int .i64 3,.bs (src.extract i (j2)),.int .i64 0,.int .i64 (i:Int),.int .i64 0] false 0))=g3
      have hX3:Ext nx' h' g3:=by
       rw[← hg3]
       simp(disch:=omega)only[ext_put]
       exact Ext.refl _ _
      have gt3:g3.get nx'=some (bx 175 [.int .i64 3,.bs (src.extract i (j2)),.int .i64 0,.int .i64 (i:Int),.int .i64 0] false 0):=by rw[← hg3];simp[go_sem]
      clear hg3
      refine(V.yld s' O' ⟨3,src.extract i (j2),0,(i:Int),0⟩ g3 (nx'+1) trivial (hJX _ _ hX3 (Nat.le_succ _))).mono ?_
      rintro v g ny ⟨rfl,O2,K2,hq⟩
      have gt4:g.get nx'=some (bx 175 [.int .i64 3,.bs (src.extract i (j2)),.int .i64 0,.int .i64 (i:Int),.int .i64 0] false 0):=by
       rw[K2.2.1 nx' (by omega) (fun q=>by have:=V.lt s' O' h' nx' hJ' nx' q;omega)]
       exact gt3
      have KK:=(hKX _ _ hX3 (Nat.le_succ _)).trans K2
      cases hst:(step s' ⟨3,src.extract i (j2),0,(i:Int),0⟩).2 with
      |false=>
       rw[hst]at hq hv1
       simp[go_sem,goOn_some]
       rw[hR]
       simp only[if_true]at hv1
       rw[hv1]
       exact⟨O2,KK,by simpa using hq⟩
      |true=>
       rw[hst]at hq hv1
       simp[go_sem,goOn_some,gt4]
       refine hL (src.size-(j2)) _ (by omega) ⟨_,_,_,j2,(step s' ⟨3,src.extract i (j2),0,(i:Int),0⟩).1,O2,f,rfl,rfl,by omega,by omega,?_⟩
       simp[go_sem,t0,t1,t2]
       exact⟨KK,by simpa using hq,Lib.hid (by simpa using hv1)⟩
    ·rcases c78 with c7 |c7
     ·rw[c7]at hcl
      have htk:tokAt src i=(⟨3,src.extract i j,0,(i:Int),0⟩,j):=by
       unfold tokAt
       rw[if_neg c3,if_neg c4,if_pos (.inr (.inl c7)),if_neg (fun q=>h61 q.2),c7,hje];rfl
      rw[htk]at hv1
      simp only at hv1
      by_cases q:j<src.size
      ·have e61:¬(src[j]).toNat=61:=fun e=>h61 (by subst hje;exact⟨q,e⟩)
       have e61I:¬((src[j]).toNat:Int)=61:=by omega
       simp[go_sem,t1,t2,t4,hlt,segL]
       refine Ret.use hcl ?_
       simp[go_sem,goOn_some,t2,t4,segL,w1']
       refine Ret.use hcl ?_
       simp[go_sem,goOn_some,t0,t1,segL,nble,q,e61I,hj1,hj2]
       generalize hg3:Tr.put _ nx' (some (bx 175 [.int .i64 3,.bs (src.extract i (j)),.int .i64 0,.int .i64 (i:Int),.int .i64 0] false 0))=g3
       have hX3:Ext nx' h' g3:=by
        rw[← hg3]
        simp(disch:=omega)only[ext_put]
        exact Ext.refl _ _
       have gt3:g3.get nx'=some (bx 175 [.int .i64 3,.bs (src.extract i (j)),.int .i64 0,.int .i64 (i:Int),.int .i64 0] false 0):=by rw[← hg3];simp[go_sem]
       clear hg3
       refine(V.yld s' O' ⟨3,src.extract i (j),0,(i:Int),0⟩ g3 (nx'+1) trivial (hJX _ _ hX3 (Nat.le_succ _))).mono ?_
       rintro v g ny ⟨rfl,O2,K2,hq⟩
       have gt4:g.get nx'=some (bx 175 [.int .i64 3,.bs (src.extract i (j)),.int .i64 0,.int .i64 (i:Int),.int .i64 0] false 0):=by
        rw[K2.2.1 nx' (by omega) (fun q=>by have:=V.lt s' O' h' nx' hJ' nx' q;omega)]
        exact gt3
       have KK:=(hKX _ _ hX3 (Nat.le_succ _)).trans K2
       cases hst:(step s' ⟨3,src.extract i (j),0,(i:Int),0⟩).2 with
       |false=>
        rw[hst]at hq hv1
        simp[go_sem,goOn_some]
        rw[hR]
        simp only[if_true]at hv1
        rw[hv1]
        exact⟨O2,KK,by simpa using hq⟩
       |true=>
        rw[hst]at hq hv1
        simp[go_sem,goOn_some,gt4]
        refine hL (src.size-(j)) _ (by omega) ⟨_,_,_,j,(step s' ⟨3,src.extract i (j),0,(i:Int),0⟩).1,O2,f,rfl,rfl,by omega,by omega,?_⟩
        simp[go_sem,t0,t1,t2]
        exact⟨KK,by simpa using hq,Lib.hid (by simpa using hv1)⟩
      ·skip
       simp[go_sem,t1,t2,t4,hlt,segL]
       refine Ret.use hcl ?_
       simp[go_sem,goOn_some,t2,t4,segL,w1']
       refine Ret.use hcl ?_
       simp[go_sem,goOn_some,t0,t1,segL,nble,q,hj1,hj2]
       generalize hg3:Tr.put _ nx' (some (bx 175 [.int .i64 3,.bs (src.extract i (j)),.int .i64 0,.int .i64 (i:Int),.int .i64 0] false 0))=g3
       have hX3:Ext nx' h' g3:=by
        rw[← hg3]
        simp(disch:=omega)only[ext_put]
        exact Ext.refl _ _
       have gt3:g3.get nx'=some (bx 175 [.int .i64 3,.bs (src.extract i (j)),.int .i64 0,.int .i64 (i:Int),.int .i64 0] false 0):=by rw[← hg3];simp[go_sem]
       clear hg3
       refine(V.yld s' O' ⟨3,src.extract i (j),0,(i:Int),0⟩ g3 (nx'+1) trivial (hJX _ _ hX3 (Nat.le_succ _))).mono ?_
       rintro v g ny ⟨rfl,O2,K2,hq⟩
       have gt4:g.get nx'=some (bx 175 [.int .i64 3,.bs (src.extract i (j)),.int .i64 0,.int .i64 (i:Int),.int .i64 0] false 0):=by
        rw[K2.2.1 nx' (by omega) (fun q=>by have:=V.lt s' O' h' nx' hJ' nx' q;omega)]
        exact gt3
       have KK:=(hKX _ _ hX3 (Nat.le_succ _)).trans K2
       cases hst:(step s' ⟨3,src.extract i (j),0,(i:Int),0⟩).2 with
       |false=>
        rw[hst]at hq hv1
        simp[go_sem,goOn_some]
        rw[hR]
        simp only[if_true]at hv1
        rw[hv1]
        exact⟨O2,KK,by simpa using hq⟩
       |true=>
        rw[hst]at hq hv1
        simp[go_sem,goOn_some,gt4]
        refine hL (src.size-(j)) _ (by omega) ⟨_,_,_,j,(step s' ⟨3,src.extract i (j),0,(i:Int),0⟩).1,O2,f,rfl,rfl,by omega,by omega,?_⟩
        simp[go_sem,t0,t1,t2]
        exact⟨KK,by simpa using hq,Lib.hid (by simpa using hv1)⟩
     ·rw[c7]at hcl
      have htk:tokAt src i=(⟨3,src.extract i j,0,(i:Int),3⟩,j):=by
       unfold tokAt
       rw[if_neg c3,if_neg c4,if_pos (.inr (.inr c7)),if_neg (fun q=>h61 q.2),c7,hje];rfl
      rw[htk]at hv1
      simp only at hv1
      by_cases q:j<src.size
      ·have e61:¬(src[j]).toNat=61:=fun e=>h61 (by subst hje;exact⟨q,e⟩)
       have e61I:¬((src[j]).toNat:Int)=61:=by omega
       simp[go_sem,t1,t2,t4,hlt,segL]
       refine Ret.use hcl ?_
       simp[go_sem,goOn_some,t2,t4,segL,w1']
       refine Ret.use hcl ?_
       simp[go_sem,goOn_some,t0,t1,segL,nble,q,e61I,hj1,hj2]
       generalize hg3:Tr.put _ nx' (some (bx 175 [.int .i64 3,.bs (src.extract i (j)),.int .i64 0,.int .i64 (i:Int),.int .i64 3] false 0))=g3
       have hX3:Ext nx' h' g3:=by
        rw[← hg3]
        simp(disch:=omega)only[ext_put]
        exact Ext.refl _ _
       have gt3:g3.get nx'=some (bx 175 [.int .i64 3,.bs (src.extract i (j)),.int .i64 0,.int .i64 (i:Int),.int .i64 3] false 0):=by rw[← hg3];simp[go_sem]
       clear hg3
       refine(V.yld s' O' ⟨3,src.extract i (j),0,(i:Int),3⟩ g3 (nx'+1) trivial (hJX _ _ hX3 (Nat.le_succ _))).mono ?_
       rintro v g ny ⟨rfl,O2,K2,hq⟩
       have gt4:g.get nx'=some (bx 175 [.int .i64 3,.bs (src.extract i (j)),.int .i64 0,.int .i64 (i:Int),.int .i64 3] false 0):=by
        rw[K2.2.1 nx' (by omega) (fun q=>by have:=V.lt s' O' h' nx' hJ' nx' q;omega)]
        exact gt3
       have KK:=(hKX _ _ hX3 (Nat.le_succ _)).trans K2
       cases hst:(step s' ⟨3,src.extract i (j),0,(i:Int),3⟩).2 with
       |false=>
        rw[hst]at hq hv1
        simp[go_sem,goOn_some]
        rw[hR]
        simp only[if_true]at hv1
        rw[hv1]
        exact⟨O2,KK,by simpa using hq⟩
       |true=>
        rw[hst]at hq hv1
        simp[go_sem,goOn_some,gt4]
        rw[hR]
        simp at hv1
        rw[hv1]
        exact⟨O2,KK,by simpa using hq⟩
      ·skip
       simp[go_sem,t1,t2,t4,hlt,segL]
       refine Ret.use hcl ?_
       simp[go_sem,goOn_some,t2,t4,segL,w1']
       refine Ret.use hcl ?_
       simp[go_sem,goOn_some,t0,t1,segL,nble,q,hj1,hj2]
       generalize hg3:Tr.put _ nx' (some (bx 175 [.int .i64 3,.bs (src.extract i (j)),.int .i64 0,.int .i64 (i:Int),.int .i64 3] false 0))=g3
       have hX3:Ext nx' h' g3:=by
        rw[← hg3]
        simp(disch:=omega)only[ext_put]
        exact Ext.refl _ _
       have gt3:g3.get nx'=some (bx 175 [.int .i64 3,.bs (src.extract i (j)),.int .i64 0,.int .i64 (i:Int),.int .i64 3] false 0):=by rw[← hg3];simp[go_sem]
       clear hg3
       refine(V.yld s' O' ⟨3,src.extract i (j),0,(i:Int),3⟩ g3 (nx'+1) trivial (hJX _ _ hX3 (Nat.le_succ _))).mono ?_
       rintro v g ny ⟨rfl,O2,K2,hq⟩
       have gt4:g.get nx'=some (bx 175 [.int .i64 3,.bs (src.extract i (j)),.int .i64 0,.int .i64 (i:Int),.int .i64 3] false 0):=by
        rw[K2.2.1 nx' (by omega) (fun q=>by have:=V.lt s' O' h' nx' hJ' nx' q;omega)]
        exact gt3
       have KK:=(hKX _ _ hX3 (Nat.le_succ _)).trans K2
       cases hst:(step s' ⟨3,src.extract i (j),0,(i:Int),3⟩).2 with
       |false=>
        rw[hst]at hq hv1
        simp[go_sem,goOn_some]
        rw[hR]
        simp only[if_true]at hv1
        rw[hv1]
        exact⟨O2,KK,by simpa using hq⟩
       |true=>
        rw[hst]at hq hv1
        simp[go_sem,goOn_some,gt4]
        rw[hR]
        simp at hv1
        rw[hv1]
        exact⟨O2,KK,by simpa using hq⟩
   have n6:¬cl src i=6:=c6
   have n7:¬cl src i=7:=fun q=>c78 (.inl q)
   have n8:¬cl src i=8:=fun q=>c78 (.inr q)
   have c678:¬(cl src i=6∨cl src i=7∨cl src i=8):=by omega
   have htk:tokAt src i=(⟨0,.empty,0,(i:Int),3⟩,i):=by
    unfold tokAt
    rw[if_neg c3,if_neg c4,if_neg c678,show src.extract i i=ByteArray.empty from by simp]
   rw[htk]at hv1
   simp only at hv1
   have hii:i≤i:=Nat.le_refl _
   simp[go_sem,t1,t2,t4,hlt,segL]
   refine Ret.use hcl ?_
   simp[go_sem,goOn_some,t0,t1,t4,segL,c1,c2,c3,c4,n6,n7,n8,hi,nble]
   generalize hg3:Tr.put _ nx' (some (bx 175 [.int .i64 0,.bs (.empty),.int .i64 0,.int .i64 (i:Int),.int .i64 3] false 0))=g3
   have hX3:Ext nx' h' g3:=by
    rw[← hg3]
    simp(disch:=omega)only[ext_put]
    exact Ext.refl _ _
   have gt3:g3.get nx'=some (bx 175 [.int .i64 0,.bs (.empty),.int .i64 0,.int .i64 (i:Int),.int .i64 3] false 0):=by rw[← hg3];simp[go_sem]
   clear hg3
   refine(V.yld s' O' ⟨0,.empty,0,(i:Int),3⟩ g3 (nx'+1) trivial (hJX _ _ hX3 (Nat.le_succ _))).mono ?_
   rintro v g ny ⟨rfl,O2,K2,hq⟩
   have gt4:g.get nx'=some (bx 175 [.int .i64 0,.bs (.empty),.int .i64 0,.int .i64 (i:Int),.int .i64 3] false 0):=by
    rw[K2.2.1 nx' (by omega) (fun q=>by have:=V.lt s' O' h' nx' hJ' nx' q;omega)]
    exact gt3
   have KK:=(hKX _ _ hX3 (Nat.le_succ _)).trans K2
   cases hst:(step s' ⟨0,.empty,0,(i:Int),3⟩).2 with
   |false=>
    rw[hst]at hq hv1
    simp[go_sem,goOn_some]
    rw[hR]
    simp only[if_true]at hv1
    rw[hv1]
    exact⟨O2,KK,by simpa using hq⟩
   |true=>
    rw[hst]at hq hv1
    simp[go_sem,goOn_some,gt4]
    rw[hR]
    simp at hv1
    rw[hv1]
    exact⟨O2,KK,by simpa using hq⟩
  ·rw[if_pos (by omega)]at hv1
   simp[go_sem,t1,t4,hlt]
   rw[hR,hv1]
   exact⟨O',hK,by rw[if_pos rfl];exact hJ'⟩
end
end Go.Ev
