/- Texts. -/
import Derived.Test.YtkdnmldmffkkoaaGreatDoorP41
import Derived.Test.YtkdnmldmffkkoaaGreatDoorP44
import Derived.Test.YtkdnmldmffkkoaaGreatDoorP45
set_option linter.unusedSimpArgs false
set_option linter.unusedVariables false
set_option maxRecDepth 100000
namespace Go.Ev
open Go.Proofs Go.ChangeShapes Go.WideShapes Go.ChangeAt Go.WideElems Go.RowKit
open Go.Proofs.YtkdnmldmffkkoaaGreatDoor
noncomputable section
theorem yik:cx.ft.get 4=some Tryz.f4:=aT (by decide) (by kernel_rfl)
theorem yj4 (nZ:∀(x0:Pv)(x1:Pv)(x2:List Fc),ay Tryz.prog cx 4 [.agg x0.cs,.agg x1.cs,.agg [.fz 4 false (aP x2)]] (.bool true))(os:Os)(started:os.Started)(H:Type)(enc:TypeId×Value→H):
  ReturnsInHanded {} Tryz.checked os 4 .any (fun w args=>(Rows.sameFormsSpec.pre enc Tryz.prog Tryz.f4 [] false w args∧laidMetH Tryz.prog vl w)∧sizedMet enc Tryz.prog Tryz.f4 (OpenSpec.ofChange Rows.sameFormsSpec) false w args)
   (Rows.sameFormsSpec.post enc Tryz.prog Tryz.f4 false true false false):=by
 refine ZS (C:=Tryz.checked) (X:=fun w _=>laidMetH Tryz.prog vl w) (fun _ _ _ hh h=>h.of_heap hh) own started (by kernel_rfl) Tryz.func4
  (yju os H enc) ?_
 intro W base args ds gs before sU hW qp hL;have dn:∀(j:Nat) t v,Tryz.f4.params[j]?=some t→args[j]?=some v→Value.okWide Tryz.prog W .any base t v:=sU;have MF:=hW;obtain⟨p,q,L6,hV,rfl,M6,fH⟩:=hW;have hA:DataW.TrodAll enc Tryz.prog W 0 (fun _=>true) true Tryz.f4.params.toList args.toList ds p:=L6;rw[Tryz.params4]at hA dn;obtain⟨v0,vs0,d0,ds0,p0,q0,ju,rfl,rfl,h0,r0⟩:=trodAll_cons hA;obtain⟨v1,vs1,d1,S4,p1,q1,rfl,rfl,rfl,h1,r1⟩:=trodAll_cons r0;obtain⟨v2,vs2,d2,S5,p2,q2,rfl,rfl,rfl,h2,r2⟩:=trodAll_cons r1;obtain⟨rfl,rfl,rfl⟩:=trodAll_nil r2;obtain rfl:args=#[v0,v1,v2]:=by cases args;simp_all
 obtain⟨rfl,rfl⟩:=trodVars_none hV;obtain⟨mx,hm⟩:=ZQ qp;obtain⟨c0,rfl,_⟩:=okWide_struct Tryz.underlying30 (dn 0 30 v0 rfl rfl);have k0:=h0;have Ot:∀x∈p0,x.block<W.heap.size:=by obtain⟨m,hm⟩:=k0;exact DataW.trod_lt m _ _ _ hm
 obtain⟨x0,y0⟩:∃x:Pv,aC (gQ W mx) x.cs c0.toList:=by
  obtain⟨fuel,hf⟩:=h0;exact Gu hf
 obtain⟨c1,rfl,_⟩:=okWide_struct Tryz.underlying30 (dn 1 30 v1 rfl rfl);have k1:=h1;have Ou:∀x∈p1,x.block<W.heap.size:=by obtain⟨m,hm⟩:=k1;exact DataW.trod_lt m _ _ _ hm
 obtain⟨x1,y1⟩:∃x:Pv,aC (gQ W mx) x.cs c1.toList:=by
  obtain⟨fuel,hf⟩:=h1;exact Gu hf
 obtain⟨c2,rfl,_⟩:=okWide_struct Tryz.underlying35 (dn 2 35 v2 rfl rfl);have k2:=h2;have Ov:∀x∈p2,x.block<W.heap.size:=by obtain⟨m,hm⟩:=k2;exact DataW.trod_lt m _ _ _ hm
 obtain⟨x2,y2⟩:∃x:List Fc,aC (gQ W mx) [.fz 4 false (aP x)] c2.toList:=by
  obtain⟨fuel,hf⟩:=h2;exact ZT hf
 have bg:=ZR yik (UT hm (ZV hL)) (show aC (gQ W mx) [.agg x0.cs,.agg x1.cs,.agg [.fz 4 false (aP x2)]] _ from ⟨_,_,rfl,BM y0,_,_,rfl,BM y1,_,_,rfl,BM y2,rfl⟩) (nZ x0 x1 x2);refine bg.mono fun e W' ⟨he,tL⟩=>?_;subst he;exact⟨_,rfl,_,_,_,[],_,[],MF,trodAll_mk1 (shut_bool Tryz.underlying4 _),(trodAll_cons_mk (Below.trod BN (by kernel_rfl) (of_decide_eq_true (by kernel_rfl)) k0 tL Ot) (trodAll_cons_mk (Below.trod BN (by kernel_rfl) (of_decide_eq_true (by kernel_rfl)) k1 tL Ou) (trodAll_cons_mk (Below.trod BN (by kernel_rfl) (of_decide_eq_true (by kernel_rfl)) k2 tL Ov) trodAll_mk0))),rfl,tL.frame _,fun h=>by cases h⟩
theorem yir:Tryz.pinned.checked.prog.funcNamed Rows.sameFormsRow.func=some 4:=by kernel_rfl
theorem yit:Tryz.f4.isInstance Tryz.pinned.checked.prog Rows.sameFormsRow.origin Rows.sameFormsRow.targs:=of_decide_eq_true (by kernel_rfl)
theorem yiv:Tryz.f4.isWrapper Tryz.pinned.checked.prog Rows.sameFormsRow.wrapper Rows.sameFormsRow.mainSum:=by unfold Func.isWrapper;first |(rw[if_pos (by decide +kernel)];kernel_rfl) |(rw[if_neg (by decide +kernel)];exact⟨rfl,rfl⟩)
theorem yjc (nZ:∀(x0:Pv)(x1:Pv)(x2:List Fc),ay Tryz.prog cx 4 [.agg x0.cs,.agg x1.cs,.agg [.fz 4 false (aP x2)]] (.bool true)):Rows.sameFormsRow.holds Tryz.pinned (OpenSpec.ofChange Rows.sameFormsSpec):=
 OpenClaim.holds_of_wide 4 Tryz.f4 rfl rfl rfl rfl rfl rfl rfl ⟨rfl,rfl,rfl,rfl,rfl⟩ rfl rfl rfl rfl rfl yir Tryz.func4 jf4 yit yiv
  (fun os started H enc _=>yj4 nZ os started H enc)
end
end Go.Ev
