/- Texts. -/
import Derived.Test.YtkdnmldmffkkoaaGreatDoorP41
import Derived.Test.YtkdnmldmffkkoaaGreatDoorP50
import Derived.Test.YtkdnmldmffkkoaaGreatDoorP51
set_option linter.unusedSimpArgs false
set_option linter.unusedVariables false
set_option maxRecDepth 100000
namespace Go.Ev
open Go.Proofs Go.ChangeShapes Go.WideShapes Go.ChangeAt Go.WideElems Go.RowKit
open Go.Proofs.YtkdnmldmffkkoaaGreatDoor
noncomputable section
theorem yil:cx.ft.get 6=some Tryz.f6:=aT (by decide) (by kernel_rfl)
theorem yj5 (nZ:∀(x0:Pv)(x1:Pv)(x2:Pv)(x3:List Fc),ay Tryz.prog cx 6 [.agg x0.cs,.agg x1.cs,.agg x2.cs,.agg [.fz 4 false (aP x3)]] (.bool true))(os:Os)(started:os.Started)(H:Type)(enc:TypeId×Value→H):
  ReturnsInHanded {} Tryz.checked os 6 .any (fun w args=>(Rows.sameEquivalenceSpec.pre enc Tryz.prog Tryz.f6 [] false w args∧laidMetH Tryz.prog vl w)∧sizedMet enc Tryz.prog Tryz.f6 (OpenSpec.ofChange Rows.sameEquivalenceSpec) false w args)
   (Rows.sameEquivalenceSpec.post enc Tryz.prog Tryz.f6 false true false false):=by
 refine ZS (C:=Tryz.checked) (X:=fun w _=>laidMetH Tryz.prog vl w) (fun _ _ _ hh h=>h.of_heap hh) own started (by kernel_rfl) Tryz.func6
  (yjv os H enc) ?_
 intro W base args ds gs before sU hW qp hL;have dn:∀(j:Nat) t v,Tryz.f6.params[j]?=some t→args[j]?=some v→Value.okWide Tryz.prog W .any base t v:=sU;have MF:=hW;obtain⟨p,q,L6,hV,rfl,M6,fH⟩:=hW;have hA:DataW.TrodAll enc Tryz.prog W 0 (fun _=>true) true Tryz.f6.params.toList args.toList ds p:=L6;rw[Tryz.params6]at hA dn;obtain⟨v0,vs0,d0,ds0,p0,q0,ju,rfl,rfl,h0,r0⟩:=trodAll_cons hA;obtain⟨v1,vs1,d1,S4,p1,q1,rfl,rfl,rfl,h1,r1⟩:=trodAll_cons r0;obtain⟨v2,vs2,d2,S5,p2,q2,rfl,rfl,rfl,h2,r2⟩:=trodAll_cons r1;obtain⟨v3,vs3,d3,ds3,p3,q3,rfl,rfl,rfl,h3,r3⟩:=trodAll_cons r2;obtain⟨rfl,rfl,rfl⟩:=trodAll_nil r3;obtain rfl:args=#[v0,v1,v2,v3]:=by cases args;simp_all
 obtain⟨rfl,rfl⟩:=trodVars_none hV;obtain⟨mx,hm⟩:=ZQ qp;obtain⟨c0,rfl,_⟩:=okWide_struct Tryz.underlying30 (dn 0 30 v0 rfl rfl);have k0:=h0;have Ot:∀x∈p0,x.block<W.heap.size:=by obtain⟨m,hm⟩:=k0;exact DataW.trod_lt m _ _ _ hm
 obtain⟨x0,y0⟩:∃x:Pv,aC (gQ W mx) x.cs c0.toList:=by
  obtain⟨fuel,hf⟩:=h0;exact Gu hf
 obtain⟨c1,rfl,_⟩:=okWide_struct Tryz.underlying30 (dn 1 30 v1 rfl rfl);have k1:=h1;have Ou:∀x∈p1,x.block<W.heap.size:=by obtain⟨m,hm⟩:=k1;exact DataW.trod_lt m _ _ _ hm
 obtain⟨x1,y1⟩:∃x:Pv,aC (gQ W mx) x.cs c1.toList:=by
  obtain⟨fuel,hf⟩:=h1;exact Gu hf
 obtain⟨c2,rfl,_⟩:=okWide_struct Tryz.underlying30 (dn 2 30 v2 rfl rfl);have k2:=h2;have Ov:∀x∈p2,x.block<W.heap.size:=by obtain⟨m,hm⟩:=k2;exact DataW.trod_lt m _ _ _ hm
 obtain⟨x2,y2⟩:∃x:Pv,aC (gQ W mx) x.cs c2.toList:=by
  obtain⟨fuel,hf⟩:=h2;exact Gu hf
 obtain⟨c3,rfl,_⟩:=okWide_struct Tryz.underlying35 (dn 3 35 v3 rfl rfl);have k3:=h3;have lt3:∀x∈p3,x.block<W.heap.size:=by obtain⟨m,hm⟩:=k3;exact DataW.trod_lt m _ _ _ hm
 obtain⟨x3,y3⟩:∃x:List Fc,aC (gQ W mx) [.fz 4 false (aP x)] c3.toList:=by
  obtain⟨fuel,hf⟩:=h3;exact ZT hf
 have bg:=ZR yil (UT hm (ZV hL)) (show aC (gQ W mx) [.agg x0.cs,.agg x1.cs,.agg x2.cs,.agg [.fz 4 false (aP x3)]] _ from ⟨_,_,rfl,BM y0,_,_,rfl,BM y1,_,_,rfl,BM y2,_,_,rfl,BM y3,rfl⟩) (nZ x0 x1 x2 x3);refine bg.mono fun e W' ⟨he,tL⟩=>?_;subst he;exact⟨_,rfl,_,_,_,[],_,[],MF,trodAll_mk1 (shut_bool Tryz.underlying4 _),(trodAll_cons_mk (Below.trod BN (by kernel_rfl) (of_decide_eq_true (by kernel_rfl)) k0 tL Ot) (trodAll_cons_mk (Below.trod BN (by kernel_rfl) (of_decide_eq_true (by kernel_rfl)) k1 tL Ou) (trodAll_cons_mk (Below.trod BN (by kernel_rfl) (of_decide_eq_true (by kernel_rfl)) k2 tL Ov) (trodAll_cons_mk (Below.trod BN (by kernel_rfl) (of_decide_eq_true (by kernel_rfl)) k3 tL lt3) trodAll_mk0)))),rfl,tL.frame _,fun h=>by cases h⟩
theorem yis:Tryz.pinned.checked.prog.funcNamed Rows.sameEquivalenceRow.func=some 6:=by kernel_rfl
theorem yiu:Tryz.f6.isInstance Tryz.pinned.checked.prog Rows.sameEquivalenceRow.origin Rows.sameEquivalenceRow.targs:=of_decide_eq_true (by kernel_rfl)
theorem yiw:Tryz.f6.isWrapper Tryz.pinned.checked.prog Rows.sameEquivalenceRow.wrapper Rows.sameEquivalenceRow.mainSum:=by unfold Func.isWrapper;first |(rw[if_pos (by decide +kernel)];kernel_rfl) |(rw[if_neg (by decide +kernel)];exact⟨rfl,rfl⟩)
theorem yjd (nZ:∀(x0:Pv)(x1:Pv)(x2:Pv)(x3:List Fc),ay Tryz.prog cx 6 [.agg x0.cs,.agg x1.cs,.agg x2.cs,.agg [.fz 4 false (aP x3)]] (.bool true)):Rows.sameEquivalenceRow.holds Tryz.pinned (OpenSpec.ofChange Rows.sameEquivalenceSpec):=
 OpenClaim.holds_of_wide 6 Tryz.f6 rfl rfl rfl rfl rfl rfl rfl ⟨rfl,rfl,rfl,rfl,rfl⟩ rfl rfl rfl rfl rfl yis Tryz.func6 jf6 yiu yiw
  (fun os started H enc _=>yj5 nZ os started H enc)
end
end Go.Ev
