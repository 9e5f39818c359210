/- Texts. -/
import Derived.Test.YtkdnmldmffkkoaaGreatDoorP33
set_option linter.unusedSimpArgs false
set_option linter.unusedVariables false
set_option maxRecDepth 100000
set_option maxHeartbeats 8000000
namespace Go.Ev
open Go.Proofs Go.RowKit
noncomputable section
attribute [-go_sem] dw bP ep gH
theorem zPl:cx.ft.get 27=some Tryz.f27:=aT (by decide) (by kernel_rfl)
theorem ft8:cx.ft.get 8=some Tryz.f8:=aT (by decide) (by kernel_rfl)
def CU:br:=.mk 0 .empty 0 []
def jO:ByteArray:=⟨#[97,103,101]⟩
def wT (c n:Int):Fm:=.mk 3 jO c n []
def kU (w:Fm) (v:Int):Pv:=⟨⟨#[112]⟩,2,2,⟨#[113]⟩,v,w,[],CU,CU,CU⟩
theorem KI (c n:Int):ay Tryz.prog cx 27 [.int .i64 c,.int .i64 n] (.agg (kU (wT c n) 0).cs):=by
 refine ay.mkW fun h nx R hR=>aV (sz:=9) (rs:=[.cell 4 30]) aE zPl rfl rfl rfl (by simp) ?_;simp-implicitDefEqProofs[go_sem,aG];refine hR _ _ _ _ ?_ (Fz.same _ (by simp[plain,bC])) (.agg _ _ ?_)
 ·simp(disch:=omega)only[aL];exact aA.refl _ _
 ·simp only[Pv.cs,kU,wT,Fm.cs,br.cs,CU,cy,mf,bf,List.map_nil,List.cons_append,List.nil_append]
  repeat' first
   |exact .nil
   |exact .cons _ _ _ _ (.sl0 _ _) ?_
   |refine .cons _ _ _ _ (.sl0 _ _) ?_
   |refine .cons _ _ _ _ (.same _) ?_
   |rfl
def d0:List Fc:=[⟨jO,2,0,150⟩]
def km:ByteArray:=⟨#[112,111,111,114]⟩
def Dn:Fm:=.mk 4 km 0 0 []
def lT (v op:Int)(nm:ByteArray) (c n:Int)(k:AV):List AV:=[.bs ⟨#[112]⟩,.int .i64 2,.int .i64 2,.bs ⟨#[113]⟩,.int .i64 v,.int .i64 op,.bs nm,.int .i64 c,.int .i64 n,k,.fz 1 false [],.int .i64 0,.bs .empty,.int .i64 0,.fz 4 false [],.int .i64 0,.bs .empty,.int .i64 0,.fz 4 false [],.int .i64 0,.bs .empty,.int .i64 0,.fz 4 false []]
theorem yj0 (v op:Int)(nm:ByteArray) (c n:Int)(l:List Fm):(kU (.mk op nm c n l) v).cs=lT v op nm c n (.fz 5 false (cy l)):=rfl
theorem cW.get {g:Tr ABlk}{F:Nat→Prop}:∀{l m:List AV},cW g F l m→∀(k:Nat)(v:AV),l[k]?=some v→∃u,m[k]?=some u∧Fy g F v u
 |_,_,.nil,k,v,h=>by simp at h
 |_,_,.cons a b _ _ h1 h2,0,v,h=>by simp at h;subst h;exact⟨b,rfl,h1⟩
 |_,_,.cons a b _ _ h1 h2,k+1,v,h=>by simpa using cW.get h2 k v (by simpa using h)
theorem cW.len {g:Tr ABlk}{F:Nat→Prop}:∀{l m:List AV},cW g F l m→m.length=l.length
 |_,_,.nil=>rfl
 |_,_,.cons _ _ _ _ _ h=>by simp[cW.len h]
theorem Se {g:Tr ABlk}{F:Nat→Prop}{t:TypeId}{l m:List AV}{opn:Bool}{esz:Nat}(h:cW g F l m):DW g F (bx t l opn esz) (bx t m opn esz):=by
 unfold bx;rw[h.len];refine .cells _ _ _ _ _ _ fun k hk v hv=>?_;rw[fx]at hv ⊢;exact h.get k v hv
theorem QR {g:Tr ABlk}{F:Nat→Prop}(v op:Int)(nm:ByteArray) (c n:Int){k k':AV}(h:Fy g F k k'):cW g F (lT v op nm c n k) (lT v op nm c n k'):=
 cW.appd (.cons _ _ _ _ h (cW.same _)) [.bs ⟨#[112]⟩,.int .i64 2,.int .i64 2,.bs ⟨#[113]⟩,.int .i64 v,.int .i64 op,.bs nm,.int .i64 c,.int .i64 n]
theorem zJ5 {g:Tr ABlk}{F:Nat→Prop}{b:Nat}{c:List AV}(hF:F b)(hc:c.length=5)(hg:g.get b=some (bx 24 c false 0)):Fy g F (.sl b 0 1 1 false) (.fz 5 false [.agg c]):=
 .slz b 0 1 1 false 24 _ _ false 0 5 c c [.agg c] hF hg (by simp) (fun j hj=>by rw[Nat.zero_add,fx]) (cW.same _) ⟨c,[],by simp,rfl,hc,.inl rfl,rfl⟩ rfl
theorem zHx {g:Tr ABlk}{F:Nat→Prop}{b:Nat}{c e:List AV}(hF:F b)(hc:c.length=5)(he:e.length=5)(hg:g.get b=some (bx 24 (c++e) false 0)):Fy g F (.sl b 0 2 2 false) (.fz 5 false [.agg c,.agg e]):=
 .slz b 0 2 2 false 24 _ _ false 0 5 (c++e) (c++e) [.agg c,.agg e] hF hg (by simp) (fun j hj=>by rw[Nat.zero_add,fx]) (cW.same _) ⟨c,e,rfl,rfl,hc,.inl rfl,e,[],by simp,rfl,he,.inl rfl,rfl⟩ rfl
def p1:Pv:=kU (wT 6 18) 0
def p2:Pv:=kU (wT 5 18) 0
def p4:Pv:=kU (.mk 5 .empty 0 0 [wT 3 18]) 0
def p6:Pv:=kU Dn 0
def p7:Pv:=kU (.mk 7 .empty 0 0 [Dn,wT 3 5]) 0
def p8:Pv:=kU (wT 6 18) 5
theorem Xj:∀f∈d0,f.name.size≤1000000000:=by
 intro f hf;simp[d0]at hf;subst hf
 decide
theorem K8 (f f':Fm) (v v':Int)(h1:f.size≤1000000)(h2:f'.size≤1000000):ay Tryz.prog cx 12 [.agg (kU f v).cs,.agg (kU f' v').cs,.agg [.fz 4 false (aP d0)]] (cG (kU f v) (kU f' v') d0).v:=
 GC false _ _ d0 h1 h2 (by decide) Xj (by simp[kU]) (by simp[kU]) (by simp[kU,CU,br.size,gJ]) (by simp[kU,CU,br.size,gJ])
def Bc:List AV:=[.agg [.int .i64 4,.bs km,.int .i64 0,.int .i64 0,.sl0],.agg [.int .i64 3,.bs jO,.int .i64 3,.int .i64 5,.fz 5 false []]]
def GU:List AV:=[.int .i64 2,.bs ⟨#[112,49]⟩,.bs .empty,.bs .empty,.bs ⟨#[97,99,116,32,112,49,58,32,97,110,115,119,101,114,32,116,97,120,32,105,115,32,53,32,105,102,32,97,103,101,32,62,32,49,55,46]⟩,.bs ⟨#[119,104,101,114,101,32,123,32,97,103,101,32,49,56,32,108,101,97,115,116,32,125,32,113,117,101,115,116,105,111,110,32,116,97,120,32,103,105,118,101,115,32,53,32,91,115,116,97,116,117,116,101,32,112,49,93]⟩,.bool false]
theorem wk6:Wk (.agg (lT 0 4 km 0 0 .sl0)) (.agg p6.cs):=
 .agg _ _ (Hy (.sl0 5 false) _ [.bs ⟨#[112]⟩,.int .i64 2,.int .i64 2,.bs ⟨#[113]⟩,.int .i64 0,.int .i64 4,.bs km,.int .i64 0,.int .i64 0])
theorem wk7:Wk (.agg (lT 0 7 .empty 0 0 (.fz 5 false Bc))) (.agg p7.cs):=
 .agg _ _ (Hy (.fz 5 _ _ false (.cons _ _ _ _ (.agg _ _ (Hy (.sl0 5 false) _ [.int .i64 4,.bs km,.int .i64 0,.int .i64 0])) (fp.refl _))) _ [.bs ⟨#[112]⟩,.int .i64 2,.int .i64 2,.bs ⟨#[113]⟩,.int .i64 0,.int .i64 7,.bs .empty,.int .i64 0,.int .i64 0])
theorem Oz (nx:Nat):(¬nx=nx+1)∧(¬nx=nx+1+1)∧(¬nx=nx+1+1+1)∧(¬nx=nx+1+1+1+1)∧(¬nx=nx+1+1+1+1+1)∧(¬nx=nx+1+1+1+1+1+1)∧(¬nx=nx+1+1+1+1+1+1+1)∧(¬nx=nx+1+1+1+1+1+1+1+1)∧(¬nx=nx+1+1+1+1+1+1+1+1+1)∧(¬nx+1=nx)∧(¬nx+1+1=nx)∧(¬nx+1+1+1=nx)∧(¬nx+1+1+1+1=nx)∧(¬nx+1+1+1+1+1=nx)∧(¬nx+1+1+1+1+1+1=nx)∧(¬nx+1+1+1+1+1+1+1=nx)∧(¬nx+1+1+1+1+1+1+1+1=nx)∧(¬nx+1+1+1+1+1+1+1+1+1=nx):=by
 repeat' apply And.intro
 all_goals omega
theorem zGl (e1:cG p1 p4 d0=⟨0,[],0⟩)(e2:cG p1 p2 d0=⟨3,[18],0⟩)(e3:cG p7 p6 d0=⟨3,[0,0],0⟩)(e4:cG p1 p8 d0=⟨1,[],0⟩)(pa:Pv)(h4:pa.value=5)(h7:pa.cs[7]?=some (.int .i64 5))(L8:ay Tryz.prog cx 16 [.agg GU,.agg [.fz 4 false (aP d0)]] (.tup [.agg pa.cs,.agg [.int .i64 0,.fz 1 false []],.int .i64 0])):ay Tryz.prog cx 8 [] (.bool true):=by
 refine ay.mk fun h nx R hR=>aN.ofLe fun hG=>aV (sz:=146) (rs:=[.tmp 0]) aE ft8 rfl rfl rfl (by simp) ?_;have hf:∀g ny,aA nx h g→R (.bool true) g ny:=fun g ny he=>hR _ _ _ he (Fz.eq rfl rfl);clear hR;have V:=Oz nx;have t1:=KI 6 18;have t2:=KI 5 18;have t3:=KI 3 18;have t5:=KI 3 5;simp only[wT,yj0,cy,lT,jO]at t1 t2 t3 t5;simp-implicitDefEqProofs[go_sem,aG];refine ay.use t1 ?_;simp-implicitDefEqProofs[go_sem,aB];refine ay.use t2 ?_;simp-implicitDefEqProofs[go_sem,aB];refine ay.use t3 ?_;simp-implicitDefEqProofs[go_sem,aB,aG,V];refine ay.use t5 ?_;simp-implicitDefEqProofs[go_sem,aB];refine ay.use t5 ?_;simp-implicitDefEqProofs[go_sem,aB,aG];generalize hM:Tr.put _ (nx+1+1+1+1+1+1+1+1+1) _=M;have q1:M.get (nx+1)=some (bx 35 [.sl nx 0 1 1 false] false 0):=by rw[← hM];simp-implicitDefEqProofs[go_sem]
 have q0:M.get (nx)=some (bx 65 [.bs jO,.int .i64 2,.int .i64 0,.int .i64 150] false 0):=by rw[← hM];simp-implicitDefEqProofs[go_sem,jO,V]
 have q2:M.get (nx+1+1)=some (bx 30 (lT 0 3 jO 6 18 (.fz 5 false [])) false 0):=by rw[← hM];simp-implicitDefEqProofs[go_sem,lT,jO]
 have q3:M.get (nx+1+1+1)=some (bx 30 (lT 0 3 jO 5 18 (.fz 5 false [])) false 0):=by rw[← hM];simp-implicitDefEqProofs[go_sem,lT,jO]
 have q4:M.get (nx+1+1+1+1)=some (bx 30 (lT 0 5 .empty 0 0 (.sl (nx+1+1+1+1+1) 0 1 1 false)) false 0):=by rw[← hM];simp-implicitDefEqProofs[go_sem,lT]
 have q5:M.get (nx+1+1+1+1+1)=some (bx 24 [.int .i64 3,.bs jO,.int .i64 3,.int .i64 18,.fz 5 false []] false 0):=by rw[← hM];simp-implicitDefEqProofs[go_sem,jO]
 have q6:M.get (nx+1+1+1+1+1+1)=some (bx 30 (lT 0 4 km 0 0 .sl0) false 0):=by rw[← hM];simp-implicitDefEqProofs[go_sem,lT,km]
 have q7:M.get (nx+1+1+1+1+1+1+1)=some (bx 30 (lT 0 7 .empty 0 0 (.sl (nx+1+1+1+1+1+1+1+1) 0 2 2 false)) false 0):=by rw[← hM];simp-implicitDefEqProofs[go_sem,lT]
 have q8:M.get (nx+1+1+1+1+1+1+1+1)=some (bx 24 [.int .i64 4,.bs km,.int .i64 0,.int .i64 0,.sl0,.int .i64 3,.bs jO,.int .i64 3,.int .i64 5,.fz 5 false []] false 0):=by rw[← hM];simp-implicitDefEqProofs[go_sem,jO,km]
 have q9:M.get (nx+1+1+1+1+1+1+1+1+1)=some (bx 30 (lT 5 3 jO 6 18 (.fz 5 false [])) false 0):=by rw[← hM];simp-implicitDefEqProofs[go_sem,lT,jO]
 have hE:aA nx h M:=by
  rw[← hM];simp(disch:=omega)only[aL];exact aA.refl _ _
 clear hM;have y0:Fy M (fun a=>a∈[nx,(nx+1+1+1+1+1),(nx+1+1+1+1+1+1+1+1)]) (.sl nx 0 1 1 false) (.fz 4 false (aP d0)):=WT (s:=d0) (by simp) q0;have y5:Fy M (fun a=>a∈[nx,(nx+1+1+1+1+1),(nx+1+1+1+1+1+1+1+1)]) (.sl (nx+1+1+1+1+1) 0 1 1 false) (.fz 5 false (cy [wT 3 18])):=zJ5 (by simp) rfl q5;have y8:Fy M (fun a=>a∈[nx,(nx+1+1+1+1+1),(nx+1+1+1+1+1+1+1+1)]) (.sl (nx+1+1+1+1+1+1+1+1) 0 2 2 false) (.fz 5 false Bc):=zHx (c:=[.int .i64 4,.bs km,.int .i64 0,.int .i64 0,.sl0]) (e:=[.int .i64 3,.bs jO,.int .i64 3,.int .i64 5,.fz 5 false []]) (by simp) rfl rfl q8;obtain⟨g,hg⟩:∃g,g=(((jo M [nx,(nx+1+1+1+1+1),(nx+1+1+1+1+1+1+1+1)]).put (nx+1) (some (bx 35 [.fz 4 false (aP d0)] false 0))).put (nx+1+1+1+1) (some (bx 30 (lT 0 5 .empty 0 0 (.fz 5 false (cy [wT 3 18]))) false 0))).put (nx+1+1+1+1+1+1+1) (some (bx 30 (lT 0 7 .empty 0 0 (.fz 5 false Bc)) false 0)):=⟨_,rfl⟩
 have TJ:iy M (fun a=>a∈[nx,(nx+1+1+1+1+1),(nx+1+1+1+1+1+1+1+1)]) g:=by
  rw[hg];refine iy.put (iy.put (iy.put (iy.kill _) (by simp) q1 (Se (.cons _ _ _ _ y0 .nil))) (by simp[V]) q4 (Se (QR _ _ _ _ _ y5))) (by simp[V]) q7 (Se (QR _ _ _ _ _ y8))
 change aN Tryz.prog cx 12 [.agg (lT 0 3 jO 6 18 (.fz 5 false [])),.agg (lT 0 5 .empty 0 0 (.sl (nx+1+1+1+1+1) 0 1 1 false)),.agg [.sl nx 0 1 1 false]] M _ _
 refine DN (fun a=>a∈[nx,(nx+1+1+1+1+1),(nx+1+1+1+1+1+1+1+1)]) TJ (.cons _ _ _ _ (.same _) (.cons _ _ _ _ (.agg _ _ (QR _ _ _ _ _ y5)) (.cons _ _ _ _ (.agg _ _ (.cons _ _ _ _ y0 .nil)) .nil))) ?_;have s1:g.get (nx+1)=some (bx 35 [.fz 4 false (aP d0)] false 0):=by rw[hg];simp[Tr.get_put]
 have s2:g.get (nx+1+1)=some (bx 30 p1.cs false 0):=by rw[hg];simp[Tr.get_put,yx,q2,V];rfl
 have s3:g.get (nx+1+1+1)=some (bx 30 p2.cs false 0):=by rw[hg];simp[Tr.get_put,yx,q3,V];rfl
 have s4:g.get (nx+1+1+1+1)=some (bx 30 p4.cs false 0):=by rw[hg];simp[Tr.get_put];rfl
 have s6:g.get (nx+1+1+1+1+1+1)=some (bx 30 (lT 0 4 km 0 0 .sl0) false 0):=by rw[hg];simp[Tr.get_put,yx,q6,V]
 have s7:g.get (nx+1+1+1+1+1+1+1)=some (bx 30 (lT 0 7 .empty 0 0 (.fz 5 false Bc)) false 0):=by rw[hg];simp[Tr.get_put]
 have s9:g.get (nx+1+1+1+1+1+1+1+1+1)=some (bx 30 p8.cs false 0):=by rw[hg];simp[Tr.get_put,yx,q9,V];rfl
 have vw:aA nx h g:=by
  intro k hk;have:=hE k hk;rw[hg];simp[Tr.get_put,yx,show ¬k=nx by omega,show ¬k=(nx+1) by omega,show ¬k=(nx+1+1+1+1) by omega,show ¬k=(nx+1+1+1+1+1) by omega,show ¬k=(nx+1+1+1+1+1+1+1) by omega,show ¬k=(nx+1+1+1+1+1+1+1+1) by omega];exact this
 clear hg TJ y0 y5 y8 q0 q1 q2 q3 q4 q5 q6 q7 q8 q9 hE t1 t2 t3 t5;have Mc:=K8 (wT 6 18) (.mk 5 .empty 0 0 [wT 3 18]) 0 0 (by simp[wT,Fm.size,bn]) (by simp[wT,Fm.size,bn]);have jZ:=K8 (wT 6 18) (wT 5 18) 0 0 (by simp[wT,Fm.size,bn]) (by simp[wT,Fm.size,bn]);have Md:=K8 (.mk 7 .empty 0 0 [Dn,wT 3 5]) Dn 0 0 (by simp[wT,Dn,Fm.size,bn]) (by simp[Dn,Fm.size,bn]);have Me:=K8 (wT 6 18) (wT 6 18) 0 5 (by simp[wT,Fm.size,bn]) (by simp[wT,Fm.size,bn])
 change ay _ _ _ _ (cG p1 p4 d0).v at Mc
 change ay _ _ _ _ (cG p1 p2 d0).v at jZ
 change ay _ _ _ _ (cG p7 p6 d0).v at Md
 change ay _ _ _ _ (cG p1 p8 d0).v at Me
 rw[e1]at Mc;rw[e2]at jZ;rw[e3]at Md;rw[e4]at Me;obtain⟨n10,hn⟩:∃n10,n10=nx+1+1+1+1+1+1+1+1+1+1:=⟨_,rfl⟩;rw[← hn];have OQ:¬nx=n10:=by omega
 have Vf:¬nx=n10+1:=by omega
 have w02:¬nx=n10+1+1:=by omega
 have w03:¬nx=n10+1+1+1:=by omega
 have w04:¬nx=n10+1+1+1+1:=by omega
 have w05:¬nx=n10+1+1+1+1+1:=by omega
 have w06:¬nx=n10+1+1+1+1+1+1:=by omega
 have I7:¬nx+1=n10:=by omega
 have Gk:¬nx+1=n10+1:=by omega
 have Vg:¬nx+1=n10+1+1:=by omega
 have w13:¬nx+1=n10+1+1+1:=by omega
 have w14:¬nx+1=n10+1+1+1+1:=by omega
 have w15:¬nx+1=n10+1+1+1+1+1:=by omega
 have w16:¬nx+1=n10+1+1+1+1+1+1:=by omega
 have Vi:¬nx+1+1=n10:=by omega
 have Vj:¬nx+1+1=n10+1:=by omega
 have w22:¬nx+1+1=n10+1+1:=by omega
 have w23:¬nx+1+1=n10+1+1+1:=by omega
 have w24:¬nx+1+1=n10+1+1+1+1:=by omega
 have w25:¬nx+1+1=n10+1+1+1+1+1:=by omega
 have w26:¬nx+1+1=n10+1+1+1+1+1+1:=by omega
 have w30:¬nx+1+1+1=n10:=by omega
 have w31:¬nx+1+1+1=n10+1:=by omega
 have w32:¬nx+1+1+1=n10+1+1:=by omega
 have w33:¬nx+1+1+1=n10+1+1+1:=by omega
 have w34:¬nx+1+1+1=n10+1+1+1+1:=by omega
 have w35:¬nx+1+1+1=n10+1+1+1+1+1:=by omega
 have w36:¬nx+1+1+1=n10+1+1+1+1+1+1:=by omega
 have w40:¬nx+1+1+1+1=n10:=by omega
 have w41:¬nx+1+1+1+1=n10+1:=by omega
 have w42:¬nx+1+1+1+1=n10+1+1:=by omega
 have w43:¬nx+1+1+1+1=n10+1+1+1:=by omega
 have w44:¬nx+1+1+1+1=n10+1+1+1+1:=by omega
 have w45:¬nx+1+1+1+1=n10+1+1+1+1+1:=by omega
 have w46:¬nx+1+1+1+1=n10+1+1+1+1+1+1:=by omega
 have w50:¬nx+1+1+1+1+1=n10:=by omega
 have w51:¬nx+1+1+1+1+1=n10+1:=by omega
 have w52:¬nx+1+1+1+1+1=n10+1+1:=by omega
 have w53:¬nx+1+1+1+1+1=n10+1+1+1:=by omega
 have w54:¬nx+1+1+1+1+1=n10+1+1+1+1:=by omega
 have w55:¬nx+1+1+1+1+1=n10+1+1+1+1+1:=by omega
 have w56:¬nx+1+1+1+1+1=n10+1+1+1+1+1+1:=by omega
 have w60:¬nx+1+1+1+1+1+1=n10:=by omega
 have w61:¬nx+1+1+1+1+1+1=n10+1:=by omega
 have w62:¬nx+1+1+1+1+1+1=n10+1+1:=by omega
 have w63:¬nx+1+1+1+1+1+1=n10+1+1+1:=by omega
 have w64:¬nx+1+1+1+1+1+1=n10+1+1+1+1:=by omega
 have w65:¬nx+1+1+1+1+1+1=n10+1+1+1+1+1:=by omega
 have w66:¬nx+1+1+1+1+1+1=n10+1+1+1+1+1+1:=by omega
 have Vn:¬nx+1+1+1+1+1+1+1=n10:=by omega
 have w71:¬nx+1+1+1+1+1+1+1=n10+1:=by omega
 have w72:¬nx+1+1+1+1+1+1+1=n10+1+1:=by omega
 have w73:¬nx+1+1+1+1+1+1+1=n10+1+1+1:=by omega
 have w74:¬nx+1+1+1+1+1+1+1=n10+1+1+1+1:=by omega
 have w75:¬nx+1+1+1+1+1+1+1=n10+1+1+1+1+1:=by omega
 have Vo:¬nx+1+1+1+1+1+1+1=n10+1+1+1+1+1+1:=by omega
 have w80:¬nx+1+1+1+1+1+1+1+1=n10:=by omega
 have w81:¬nx+1+1+1+1+1+1+1+1=n10+1:=by omega
 have w82:¬nx+1+1+1+1+1+1+1+1=n10+1+1:=by omega
 have w83:¬nx+1+1+1+1+1+1+1+1=n10+1+1+1:=by omega
 have w84:¬nx+1+1+1+1+1+1+1+1=n10+1+1+1+1:=by omega
 have w85:¬nx+1+1+1+1+1+1+1+1=n10+1+1+1+1+1:=by omega
 have w86:¬nx+1+1+1+1+1+1+1+1=n10+1+1+1+1+1+1:=by omega
 have w90:¬nx+1+1+1+1+1+1+1+1+1=n10:=by omega
 have w91:¬nx+1+1+1+1+1+1+1+1+1=n10+1:=by omega
 have w92:¬nx+1+1+1+1+1+1+1+1+1=n10+1+1:=by omega
 have w93:¬nx+1+1+1+1+1+1+1+1+1=n10+1+1+1:=by omega
 have w94:¬nx+1+1+1+1+1+1+1+1+1=n10+1+1+1+1:=by omega
 have w95:¬nx+1+1+1+1+1+1+1+1+1=n10+1+1+1+1+1:=by omega
 have w96:¬nx+1+1+1+1+1+1+1+1+1=n10+1+1+1+1+1+1:=by omega
 have x01:¬n10=n10+1:=by omega
 have x02:¬n10=n10+1+1:=by omega
 have x03:¬n10=n10+1+1+1:=by omega
 have x04:¬n10=n10+1+1+1+1:=by omega
 have x05:¬n10=n10+1+1+1+1+1:=by omega
 have x06:¬n10=n10+1+1+1+1+1+1:=by omega
 have x10:¬n10+1=n10:=by omega
 have x12:¬n10+1=n10+1+1:=by omega
 have x13:¬n10+1=n10+1+1+1:=by omega
 have x14:¬n10+1=n10+1+1+1+1:=by omega
 have x15:¬n10+1=n10+1+1+1+1+1:=by omega
 have x16:¬n10+1=n10+1+1+1+1+1+1:=by omega
 have x20:¬n10+1+1=n10:=by omega
 have x21:¬n10+1+1=n10+1:=by omega
 have x23:¬n10+1+1=n10+1+1+1:=by omega
 have x24:¬n10+1+1=n10+1+1+1+1:=by omega
 have x25:¬n10+1+1=n10+1+1+1+1+1:=by omega
 have x26:¬n10+1+1=n10+1+1+1+1+1+1:=by omega
 have x30:¬n10+1+1+1=n10:=by omega
 have x31:¬n10+1+1+1=n10+1:=by omega
 have x32:¬n10+1+1+1=n10+1+1:=by omega
 have x34:¬n10+1+1+1=n10+1+1+1+1:=by omega
 have x35:¬n10+1+1+1=n10+1+1+1+1+1:=by omega
 have x36:¬n10+1+1+1=n10+1+1+1+1+1+1:=by omega
 have x40:¬n10+1+1+1+1=n10:=by omega
 have x41:¬n10+1+1+1+1=n10+1:=by omega
 have x42:¬n10+1+1+1+1=n10+1+1:=by omega
 have x43:¬n10+1+1+1+1=n10+1+1+1:=by omega
 have x45:¬n10+1+1+1+1=n10+1+1+1+1+1:=by omega
 have x46:¬n10+1+1+1+1=n10+1+1+1+1+1+1:=by omega
 have x50:¬n10+1+1+1+1+1=n10:=by omega
 have x51:¬n10+1+1+1+1+1=n10+1:=by omega
 have x52:¬n10+1+1+1+1+1=n10+1+1:=by omega
 have x53:¬n10+1+1+1+1+1=n10+1+1+1:=by omega
 have x54:¬n10+1+1+1+1+1=n10+1+1+1+1:=by omega
 have x56:¬n10+1+1+1+1+1=n10+1+1+1+1+1+1:=by omega
 have x60:¬n10+1+1+1+1+1+1=n10:=by omega
 have x61:¬n10+1+1+1+1+1+1=n10+1:=by omega
 have x62:¬n10+1+1+1+1+1+1=n10+1+1:=by omega
 have x63:¬n10+1+1+1+1+1+1=n10+1+1+1:=by omega
 have x64:¬n10+1+1+1+1+1+1=n10+1+1+1+1:=by omega
 have x65:¬n10+1+1+1+1+1+1=n10+1+1+1+1+1:=by omega
 have a1:=p1.cs_len;have a2:=p2.cs_len;have a4:=p4.cs_len;have a8:=p8.cs_len;have a6:(lT 0 4 km 0 0 .sl0).length=23:=rfl;have a7:(lT 0 7 .empty 0 0 (.fz 5 false Bc)).length=23:=rfl;have b1:p1.cs.take 23=p1.cs:=ar (by omega);have b2:p2.cs.take 23=p2.cs:=ar (by omega);have b4:p4.cs.take 23=p4.cs:=ar (by omega);have b8:p8.cs.take 23=p8.cs:=ar (by omega);have b6:(lT 0 4 km 0 0 .sl0).take 23=lT 0 4 km 0 0 .sl0:=ar (by omega);have b7:(lT 0 7 .empty 0 0 (.fz 5 false Bc)).take 23=lT 0 7 .empty 0 0 (.fz 5 false Bc):=ar (by omega);refine ay.use Mc ?_;simp-implicitDefEqProofs[go_sem,aB,tJ.v,aG,s1,s2,s3,a1,a2,b1,b2,I7,Vi,w30];refine ay.use jZ ?_;simp-implicitDefEqProofs[go_sem,aB,tJ.v,aG,s1,s6,s7,a6,a7,b6,b7,OQ,I7,w50,w60,Vn];refine aN.wk (.cons _ _ _ _ wk7 (.cons _ _ _ _ wk6 (fp.refl _))) ?_;refine ay.use Md ?_;simp-implicitDefEqProofs[go_sem,aB,tJ.v,aG,s1,s2,s9,a1,a8,b1,b8,OQ,Vf,I7,Vi,Vn,w80,w90]
 refine ay.use Me ?_;simp-implicitDefEqProofs[go_sem,aB,tJ.v,aG,x02,x03];have T2:=Pw false false [18] [18] (by decide);have EB:=Pw false false [0,0] [0,0] (by decide);rw[decide_eq_true rfl]at T2 EB;refine ay.useB tg T2 rfl (.cons _ _ _ _ (Fz.same _ rfl) (.cons _ _ _ _ (Td (s:=[18]) (b:=n10+1+1+1+1) (opn:=false) (esz:=0) (by omega) (by rw[Tr.get_put,if_pos rfl];rfl)) .nil)) ?_;simp-implicitDefEqProofs[go_sem,aB,aG];refine ay.useB tg EB rfl (.cons _ _ _ _ (Fz.same _ rfl) (.cons _ _ _ _ (Td (s:=[0,0]) (b:=n10+1+1+1+1+1) (opn:=false) (esz:=0) (by omega) (by rw[Tr.get_put,if_pos rfl];rfl)) .nil)) ?_;simp-implicitDefEqProofs[go_sem,aB,aG,s1,OQ,Vf,w02,w03,w04,I7]
 change aN Tryz.prog cx 16 [.agg GU,.agg [.fz 4 false (aP d0)]] _ _ _
 refine ay.use L8 ?_;have a9:=pa.cs_len;have ao9:=vh pa;have b9:pa.cs.take 23=pa.cs:=ar (by omega);obtain⟨_,_,_,_,f4,_⟩:=Pz pa;rw[h4]at f4;have d4:pa.cs[4]'(by omega)=.int .i64 5:=by rw[List.getElem_eq_iff];exact f4
 have d7:pa.cs[7]'(by omega)=.int .i64 5:=by rw[List.getElem_eq_iff];exact h7
 simp-implicitDefEqProofs[go_sem,aB,a9,ao9,d4,d7,aG];refine hf _ _ ?_;simp(disch:=omega)only[aL];exact vw
end
end Go.Ev
namespace Go.Ev
open Go.Proofs Go.RowKit
noncomputable section
theorem zyr:xu jO:=by
 refine⟨?_,by intro h;exact absurd (congrArg ByteArray.size h) (by decide),by decide⟩;intro i h;have h3:i<3:=h
 rcases (by omega:i=0∨i=1∨i=2) with rfl |rfl |rfl
 ·show kB 0 97;simp[kB]
 ·show kB 1 103;simp[kB]
 ·show kB 2 101;simp[kB]
theorem oI:eQ d0=true:=by
 refine QH ⟨⟨?_,?_⟩,by decide⟩
 ·intro f hf;simp[d0]at hf;subst hf;exact⟨.inr ⟨.inl rfl,by decide,by decide,by decide⟩,KB zyr⟩
 ·simp[d0]
theorem zQy:cG p1 p8 d0=⟨1,[],0⟩:=by
 have l4:k8 d0 p1.when_=0:=by kernel_rfl
 have hc8:k8 d0 p8.when_=0:=by kernel_rfl
 have hm:np d0 (dR p1.when_++dR p8.when_) [] d0=some d0:=by kernel_rfl
 unfold cG;rw[if_neg (by rw[oI];simp),if_neg (by rw[l4];simp),if_neg (by rw[hc8];simp),hm];show lV p1 p8 d0=_;unfold lV;rw[if_neg (by decide),if_pos];intro h;exact absurd h.2.2.2.2.1 (by decide)
def A2 (x:Int):List Int→List Int
 |[]=>[x]
 |y::l=>if x≤y then x::y::l else y::A2 x l
def Ds:List Int→List Int
 |[]=>[]
 |x::l=>A2 x (Ds l)
theorem Sn (x:Int):∀l,(A2 x l).Perm (x::l)
 |[]=>.refl _
 |y::l=>by
  rw[A2];split
  ·exact .refl _
  ·exact((Sn x l).cons y).trans (.swap x y l)
theorem Yq:∀l,(Ds l).Perm l
 |[]=>.refl _
 |x::l=>(Sn x _).trans ((Yq l).cons x)
theorem Wv (x:Int):∀l:List Int,l.Pairwise (·≤·)→(A2 x l).Pairwise (·≤·)
 |[],_=>by simp[A2]
 |y::l,h=>by
  rw[A2];have h2:=List.pairwise_cons.1 h;split
  ·rename_i hx;refine List.pairwise_cons.2 ⟨fun z hz=>?_,h⟩
   rcases List.mem_cons.1 hz with rfl |hz
   ·exact hx
   ·have:=h2.1 z hz;omega
  ·rename_i hx;refine List.pairwise_cons.2 ⟨fun z hz=>?_,Wv x l h2.2⟩
   rcases List.mem_cons.1 ((Sn x l).mem_iff.1 hz) with rfl |hz
   ·omega
   ·exact h2.1 z hz
theorem zyk:∀l:List Int,(Ds l).Pairwise (·≤·)
 |[]=>.nil
 |x::l=>Wv x _ (zyk l)
theorem zzu (l:List Int):dq l=Ds l:=by
 have hs:(dq l).Pairwise (·≤·):=by
  have:=List.pairwise_mergeSort (le:=fun x y:Int=>decide (x≤y)) (fun a b c h1 h2=>by simp at *;omega) (fun a b=>by simp;omega) l;exact this.imp fun h=>by simpa using h
 exact((List.mergeSort_perm l _).trans (Yq l).symm).eq_of_pairwise (fun a b _ _ h1 h2=>by omega) hs (zyk l)
def Km (f:Fm)(x:Fc):List Int:=fy ((Ds (gh x.name [x.lo] f)).filter fun y=>!gN x y)
theorem zU9 (f:Fm)(x:Fc):fj f x=Km f x:=by unfold fj Km;rw[zzu]
def Sl (L:List Nd)(n:Nd):List Nd:=if ((L.map bN).any fun k=>decide (k=bN n))=true then L else L++[n]
theorem zMz (L:List Nd)(n:Nd):iW L n=Sl L n:=by
 unfold iW Sl
 by_cases h:bN n∈L.map bN
 ·rw[if_pos h,if_pos (List.any_eq_true.2 ⟨_,h,decide_eq_true rfl⟩)]
 ·rw[if_neg h,if_neg fun q=>by
   obtain⟨x,hx,e⟩:=List.any_eq_true.1 q;exact h (of_decide_eq_true e ▸ hx)]
def w6 (n:Nd)(S:GS):Int×GS:=((mo S.L n:Int),{ S with L:=Sl S.L n })
theorem KS (n:Nd)(S:GS):cR n S=w6 n S:=by unfold cR w6;rw[zMz]
def Gy (i:Nat)(st ks:List Int)(S:GS):Int×GS:=
 let n:Nd:=⟨(i:Int),(bG (iO ks) [] [iO ks] st ks).2.1,(bG (iO ks) [] [iO ks] st ks).2.2,false⟩
 if n.kids.length=1 then (iO ks,S) else w6 n S
theorem YK (i:Nat)(st ks:List Int)(S:GS):eu i st ks S=Gy i st ks S:=by
 unfold eu Gy;simp only[KS]
def Bs (d:List Fc):Nat→Fm→GS→Int×GS
 |0,f,S=>if f.op=1∨f.op=2 then w6 (cj (decide (f.op=1))) S else w6 (cj false) { S with full:=jU S }
 |k+1,f,S=>if f.op=1∨f.op=2 then w6 (cj (decide (f.op=1))) S else
   if jU S then w6 (cj false) { S with full:=true } else
   match kC (rH (d.length-(k+1)) f) S.D with
   |some v=>(v,{ S with full:=false })
   |none=>
    let x:=d.getD (d.length-(k+1)) ⟨.empty,0,0,0⟩
    let r:=dQ (fun v S=>Bs d k (bQ x.name v f) S) (Km f x) { S with full:=false }
    let o:=Gy (d.length-(k+1)) (Km f x) r.1 r.2
    (o.1,{ o.2 with D:=lS (rH (d.length-(k+1)) f) o.1 o.2.D })
theorem Rt (d:List Fc):∀(k:Nat)(f:Fm)(S:GS),bZ d k f S=Bs d k f S
 |0,f,S=>by rw[bZ,Bs];simp only[KS]
 |k+1,f,S=>by
  have ih:bZ d k=Bs d k:=by funext f S;exact Rt d k f S
  rw[bZ,Bs,ih];simp only[zU9,KS,YK];rfl
def gI (f:Fm):Int×GS:=Bs d0 1 (bQ .empty 0 f) ⟨[],[],false⟩
def dI (f:Fm):List Nd:=cL (gI f).2.L (gI f).1
theorem WX (f:Fm):jq d0 f=gI f:=by
 unfold jq gI;exact Rt d0 1 _ _
theorem Jx {f:Fm}(h1:tM d0 f=0)(h2:(iV [] f).length≤24)(h3:(gI f).2.full=false)(h4:(bl (gI f).2.L (gI f).1).length≤20000):eA d0 f=0∧cM d0 f=dI f:=by
 have he:eA d0 f=0:=by
  unfold eA;rw[WX,if_neg (by rw[oI,h1];simp),if_neg (by omega),if_neg (by rw[h3];simp;omega)]
 refine⟨he,?_⟩;unfold cM;rw[if_pos he,WX];rfl
theorem Ra:eA d0 (bz p1.when_)=0∧cM d0 (bz p1.when_)=dI (wT 6 18):=
 Jx (f:=wT 6 18) (by kernel_rfl) (by simp[wT,iV,iH,iJ]) (by kernel_rfl) (by rw[show (bl (gI (wT 6 18)).2.L (gI (wT 6 18)).1).length=3 by kernel_rfl];omega)
theorem zUa:eA d0 (bz p2.when_)=0∧cM d0 (bz p2.when_)=dI (wT 5 18):=
 Jx (f:=wT 5 18) (by kernel_rfl) (by simp[wT,iV,iH,iJ]) (by kernel_rfl) (by rw[show (bl (gI (wT 5 18)).2.L (gI (wT 5 18)).1).length=3 by kernel_rfl];omega)
def f4:Fm:=.mk 5 .empty 0 0 [wT 3 18]
theorem zQ3:eA d0 (bz p4.when_)=0∧cM d0 (bz p4.when_)=dI f4:=
 Jx (f:=f4) (by kernel_rfl) (by simp[f4,wT,iV,iH,iJ]) (by kernel_rfl) (by rw[show (bl (gI f4).2.L (gI f4).1).length=3 by kernel_rfl];omega)
def Qj (p q:Nd)(d:List Fc) (i:Int) (lo:Int):List Int:=fy (Ds (([lo]++(if bH p d=i then p.cuts else []))++(if bH q d=i then q.cuts else [])))
theorem zP9 (p q:Nd)(d:List Fc) (i lo:Int):kF p q d i lo=Qj p q d i lo:=by unfold kF Qj;rw[zzu]
def PC (n:Nd)(H:HS):Int×HS:=((w6 n H.gs).1,{ H with L:=(w6 n H.gs).2.L })
theorem zFp (n:Nd)(H:HS):vg n H=PC n H:=by unfold vg PC;rw[KS]
def P3 (i:Nat)(st ks:List Int)(H:HS):Int×HS:=((Gy i st ks H.gs).1,{ H with L:=(Gy i st ks H.gs).2.L })
theorem zFy (i:Nat)(st ks:List Int)(H:HS):jW i st ks H=P3 i st ks H:=by unfold jW P3;rw[YK]
def Dl (a b:List Nd)(d:List Fc):Nat→Nat→Nat→HS→Int×HS
 |0,_,_,H=>(0,H)
 |k+1,x,y,H=>match kD ((x:Int),(y:Int)) H.M with
  |some v=>(v,H)
  |none=>
   let p:=a.getD x (cj false)
   let q:=b.getD y (cj false)
   let i:=iX p q d
   if i=(d.length:Int)∨20000<H.L.length then PC (cj (p.leaf && q.leaf)) H
   else
    let st:=Qj p q d i (d.getD i.toNat ⟨.empty,0,0,0⟩).lo
    let r:=fm (fun v H=>Dl a b d k (er p x i v).toNat (er q y i v).toNat H) st H
    let o:=P3 i.toNat st r.1 r.2
    (o.1,{ o.2 with M:=mr ((x:Int),(y:Int)) o.1 o.2.M })
theorem Zj (a b:List Nd)(d:List Fc):∀(k x y:Nat)(H:HS),eW a b d k x y H=Dl a b d k x y H
 |0,x,y,H=>by rw[eW,Dl]
 |k+1,x,y,H=>by
  have ih:eW a b d k=Dl a b d k:=by funext x y H;exact Zj a b d k x y H
  rw[eW,Dl,ih];simp only[zP9,zFp,zFy];rfl
def d2:List Fc:=[⟨jO,2,0,150⟩,⟨km,1,0,1⟩]
theorem zOo:np d0 (dR p7.when_++dR p6.when_) [] d0=some d2:=by
 have h7:dR p7.when_=[km]:=by kernel_rfl
 have h6:dR p6.when_=[km]:=by kernel_rfl
 have h:¬jO=km:=fun e=>absurd (congrArg ByteArray.size e) (by decide);rw[h7,h6];simp[np,d0,d2,bS,h]
theorem zKq:xu km:=by
 refine⟨?_,by intro h;exact absurd (congrArg ByteArray.size h) (by decide),by decide⟩;intro i h;have h3:i<4:=h
 rcases (by omega:i=0∨i=1∨i=2∨i=3) with rfl |rfl |rfl |rfl
 ·show kB 0 112;simp[kB]
 ·show kB 1 111;simp[kB]
 ·show kB 2 111;simp[kB]
 ·show kB 3 114;simp[kB]
theorem wG:eQ d2=true:=by
 refine QH ⟨⟨?_,?_⟩,by decide⟩
 ·intro f hf;simp[d2]at hf
  rcases hf with rfl |rfl
  ·exact⟨.inr ⟨.inl rfl,by decide,by decide,by decide⟩,KB zyr⟩
  ·exact⟨.inl ⟨rfl,rfl,rfl⟩,KB zKq⟩
 ·have h:¬jO=km:=fun e=>absurd (congrArg ByteArray.size e) (by decide);simp[d2,h]
def pL (f:Fm):Int×GS:=Bs d2 2 (bQ .empty 0 f) ⟨[],[],false⟩
def Ee (f:Fm):List Nd:=cL (pL f).2.L (pL f).1
theorem Xg (f:Fm):jq d2 f=pL f:=by
 unfold jq pL;exact Rt d2 2 _ _
theorem Zx {f:Fm}(h1:tM d2 f=0)(h2:(iV [] f).length≤24)(h3:(pL f).2.full=false)(h4:(bl (pL f).2.L (pL f).1).length≤20000):eA d2 f=0∧cM d2 f=Ee f:=by
 have he:eA d2 f=0:=by
  unfold eA;rw[Xg,if_neg (by rw[wG,h1];simp),if_neg (by omega),if_neg (by rw[h3];simp;omega)]
 refine⟨he,?_⟩;unfold cM;rw[if_pos he,Xg];rfl
def f6:Fm:=.mk 3 km 1 1 []
def f7:Fm:=.mk 7 .empty 0 0 [f6,wT 3 5]
theorem zJk:eA d2 (bz p6.when_)=0∧cM d2 (bz p6.when_)=Ee f6:=
 Zx (f:=f6) (by kernel_rfl) (by simp[f6,iV,iH,iJ]) (by kernel_rfl) (by rw[show (bl (pL f6).2.L (pL f6).1).length=3 by kernel_rfl];omega)
theorem zMt:eA d2 (bz p7.when_)=0∧cM d2 (bz p7.when_)=Ee f7:=by
 have hn:(iV [] f7).length≤24:=by
  simp only[f7,f6,wT,iV,iH];simp[iJ];split <;> simp
 have hl:(bl (pL f7).2.L (pL f7).1).length≤20000:=by
  rw[show (bl (pL f7).2.L (pL f7).1).length=4 by kernel_rfl];omega
 exact Zx (f:=f7) (by kernel_rfl) hn (by kernel_rfl) hl
instance cutsDec (hi:Int):∀(lo:Int) (l:List Int),Decidable (oL hi lo l)
 |_,[]=>.isTrue trivial
 |_,c::l=>@instDecidableAnd _ _ inferInstance (@instDecidableAnd _ _ inferInstance (cutsDec hi c l))
instance kidDec (g:List Nd) (n:Nd) (k:Nat) (x:Int):Decidable (qH g n k x):=
 inferInstanceAs (Decidable (x<0∨(g.length:Int)≤x∨(0<k∧n.kids.getD (k-1) 0=x)∨(∃h:x.toNat<g.length,¬(g[x.toNat]).kids=[]∧(g[x.toNat]).fact≤n.fact)))
instance properDec (g:List Nd) (n:Nd) (d:List Fc):Decidable (nM g n d):=
 inferInstanceAs (Decidable ((n.kids=[]∧n.fact=0∧n.cuts=[])∨(¬n.kids=[]∧n.leaf=false∧0≤n.fact∧¬n.cuts=[]∧n.kids.length=n.cuts.length+1∧∃h:n.fact.toNat<d.length,oL (d[n.fact.toNat]).hi (d[n.fact.toNat]).lo n.cuts∧∀k (hk:k<n.kids.length),¬qH g n k n.kids[k])))
def ckG (g:List Nd)(d:List Fc):Bool:=decide (0<g.length∧g.length≤20000∧(∀n∈g,nM g n d)∧(g.map bN).Nodup)
theorem ru {g:List Nd}{d:List Fc}(h:eQ d=true)(h2:ckG g d=true)(h3:cL g 0=g):dE g d=true:=by
 have:=of_decide_eq_true h2;exact HB ⟨h,this.1,this.2.1,this.2.2.1,this.2.2.2,h3⟩
def mT (b:Bool):Nd:=⟨0,[],[],b⟩
def g1:List Nd:=[⟨0,[18],[1,2],false⟩,mT false,mT true]
def g2:List Nd:=[⟨0,[19],[1,2],false⟩,mT false,mT true]
def g6:List Nd:=[⟨1,[1],[1,2],false⟩,mT false,mT true]
def g7:List Nd:=[⟨0,[5],[1,2],false⟩,mT true,⟨1,[1],[3,1],false⟩,mT false]
theorem RD:dI (wT 6 18)=g1:=by kernel_rfl
theorem zL1:dI (wT 5 18)=g2:=by kernel_rfl
theorem zQi:dI f4=g1:=by kernel_rfl
theorem zIp:Ee f6=g6:=by kernel_rfl
theorem zTa:Ee f7=g7:=by kernel_rfl
def A3 (a b:List Nd)(d:List Fc):Int×HS:=Dl a b d (d.length+1) 0 0 ⟨[],[]⟩
theorem Z2 (a b:List Nd)(d:List Fc):fR a b d=A3 a b d:=by unfold fR A3;exact Zj _ _ _ _ _ _ _
theorem G6 {a b:List Nd}{d:List Fc}{r:List Nd}(ha:dE a d=true)(hb:dE b d=true)(h1:Nat.ble (A3 a b d).2.L.length 20000=true)(h2:Nat.ble (bl (A3 a b d).2.L (A3 a b d).1).length 20000=true)(h3:cL (A3 a b d).2.L (A3 a b d).1=r):nj a b d=0∧nu a b d=r:=by
 have he:nj a b d=0:=by
  unfold nj;rw[Z2,if_neg (by rw[ha,hb];simp),if_neg (by have:=ah h1;omega),if_neg (by have:=ah h2;omega)]
 refine⟨he,?_⟩;unfold nu;rw[if_pos he,Z2,h3]
theorem Hb {x y:List Nd}{d:List Fc}{r:List Nd}{c:List Int}{b:Bool}(h:nj x (y.map eB) d=0∧nu x (y.map eB) d=r)(hl:jG r d=(c,b)):iP x y d=⟨c,b,0⟩:=by
 unfold iP;rw[if_neg (by rw[h.1];simp),h.2,hl]
theorem Hi {g:List Nd}{d:List Fc}{c:List Int}{b:Bool}(hd:eQ d=true)(hv:dE g d=true)(h:(match g[(gW g (d.length+1) 0 (d.map (·.lo))).1]? with
  |some m=>if m.leaf=true then ((gW g (d.length+1) 0 (d.map (·.lo))).2,true) else ([],false)
  |none=>([],false))=(c,b)):jG g d=(c,b):=by
 unfold jG;rw[if_pos hv];have e:gV d=d.map (·.lo):=by unfold gV;rw[hd];rfl
 rw[e];exact h
def Tf:List Nd:=[⟨0,[18,19],[1,2,1],false⟩,mT false,mT true]
def Tg:List Nd:=[⟨0,[5],[1,3],false⟩,⟨1,[1],[2,3],false⟩,mT true,mT false]
theorem v1:dE g1 d0=true:=ru oI (by kernel_rfl) (by kernel_rfl)
theorem v2:dE g2 d0=true:=ru oI (by kernel_rfl) (by kernel_rfl)
theorem Ve:dE (g1.map eB) d0=true:=ru oI (by kernel_rfl) (by kernel_rfl)
theorem v2n:dE (g2.map eB) d0=true:=ru oI (by kernel_rfl) (by kernel_rfl)
theorem v6:dE g6 d2=true:=ru wG (by kernel_rfl) (by kernel_rfl)
theorem v7:dE g7 d2=true:=ru wG (by kernel_rfl) (by kernel_rfl)
theorem v6n:dE (g6.map eB) d2=true:=ru wG (by kernel_rfl) (by kernel_rfl)
theorem v7n:dE (g7.map eB) d2=true:=ru wG (by kernel_rfl) (by kernel_rfl)
theorem OP:dE Tf d0=true:=ru oI (by kernel_rfl) (by kernel_rfl)
theorem v76:dE Tg d2=true:=ru wG (by kernel_rfl) (by kernel_rfl)
theorem vF:dE [mT false] d0=true:=ru oI (by kernel_rfl) (by kernel_rfl)
theorem vF2:dE [mT false] d2=true:=ru wG (by kernel_rfl) (by kernel_rfl)
theorem Gk:iP g1 g1 d0=⟨[],false,0⟩:=Hb (G6 v1 Ve (by kernel_rfl) (by kernel_rfl) (r:=[mT false]) (by kernel_rfl)) (Hi oI vF (by kernel_rfl))
theorem Vg:iP g1 g2 d0=⟨[18],true,0⟩:=Hb (G6 v1 v2n (by kernel_rfl) (by kernel_rfl) (r:=Tf) (by kernel_rfl)) (Hi oI OP (by kernel_rfl))
theorem Vj:iP g2 g1 d0=⟨[],false,0⟩:=Hb (G6 v2 Ve (by kernel_rfl) (by kernel_rfl) (r:=[mT false]) (by kernel_rfl)) (Hi oI vF (by kernel_rfl))
theorem Vo:iP g7 g6 d2=⟨[0,0],true,0⟩:=Hb (G6 v7 v6n (by kernel_rfl) (by kernel_rfl) (r:=Tg) (by kernel_rfl)) (Hi wG v76 (by kernel_rfl))
theorem w67:iP g6 g7 d2=⟨[],false,0⟩:=Hb (G6 v6 v7n (by kernel_rfl) (by kernel_rfl) (r:=[mT false]) (by kernel_rfl)) (Hi wG vF2 (by kernel_rfl))
theorem JG {a b:Pv}{d D:List Fc}{c:CA}(hv:eQ d=true)(ha:k8 d a.when_=0)(hb:k8 d b.when_=0)(hm:np d (dR a.when_++dR b.when_) [] d=some D)(hD:D.length≤60)(hf:ew a b)(hs:(eH a.begin_ b.begin_ && eH a.end_ b.end_ && eH a.again b.again)=true)(hc:kE a.when_ b.when_ D=c)(he:c.e=0):cG a b d=if c.f=true then ⟨3,c.c,0⟩ else ⟨0,[],0⟩:=by
 unfold cG;rw[if_neg (by rw[hv];simp),if_neg (by rw[ha];simp),if_neg (by rw[hb];simp),hm];show lV a b D=_;unfold lV;rw[if_neg (by omega),if_neg (by simpa using hf),if_neg (by rw[hs];simp),hc,if_neg (by rw[he];simp)]
theorem Jl {a b:Fm}{D:List Fc}{x y:List Nd}{p q:WR}(ha:eA D (bz a)=0∧cM D (bz a)=x)(hb:eA D (bz b)=0∧cM D (bz b)=y)(hp:iP x y D=p)(hq:iP y x D=q):kE a b D=HA p q:=by
 unfold kE;rw[if_neg (by rw[ha.1];simp),if_neg (by rw[hb.1];simp),ha.2,hb.2,hp,hq]
theorem Rn (w w':Fm):ew (kU w 0) (kU w' 0):=by
 unfold ew;simp[kU]
theorem zNp:cG p1 p4 d0=⟨0,[],0⟩:=
 JG (c:=⟨false,[],0⟩) oI (by kernel_rfl) (by kernel_rfl) (by kernel_rfl:_=some d0) (by decide) (Rn _ _) (by kernel_rfl) ((Jl (RD ▸ Ra) (zQi ▸ zQ3) Gk Gk).trans (by kernel_rfl)) rfl
theorem zIw:cG p1 p2 d0=⟨3,[18],0⟩:=
 JG (c:=⟨true,[18],0⟩) oI (by kernel_rfl) (by kernel_rfl) (by kernel_rfl:_=some d0) (by decide) (Rn _ _) (by kernel_rfl) ((Jl (RD ▸ Ra) (zL1 ▸ zUa) Vg Vj).trans (by kernel_rfl)) rfl
theorem zOu:cG p7 p6 d0=⟨3,[0,0],0⟩:=
 JG (c:=⟨true,[0,0],0⟩) oI (by kernel_rfl) (by kernel_rfl) zOo (by decide) (Rn _ _) (by kernel_rfl) ((Jl (zTa ▸ zMt) (zIp ▸ zJk) Vo w67).trans (by kernel_rfl)) rfl
end
end Go.Ev
