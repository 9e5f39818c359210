/- Texts LS3. -/
import Derived.Test.YtjngkeajenankaaGreatDoorP16
set_option linter.unusedSimpArgs false
set_option linter.unusedVariables false
set_option maxRecDepth 100000
namespace Go.Ev
open Go.Proofs Go.ChangeShapes Go.WideShapes Go.ChangeAt Go.WideElems Go.RowKit
open Go.Proofs.YtjngkeajenankaaGreatDoor
noncomputable section
theorem ftl3:cx.ft.get 3=some Tryz.f3:=cxS_ft (by decide) (by kernel_rfl)
theorem lifted3 (hLaw:∀x:Dv,x.Fit→Ret Tryz.prog cx 3 [.agg x.cs] (.bool true))(os:Os)(started:os.Started)(H:Type)(enc:TypeId×Value→H):
  ReturnsInHanded {} Tryz.checked os 3 .any (fun w args=>(Rows.deriveTextMatchesReferenceSpec.pre enc Tryz.prog Tryz.f3 [] false w args∧laidMetH Tryz.prog laid7 w)∧sizedMet enc Tryz.prog Tryz.f3 (OpenSpec.ofChange Rows.deriveTextMatchesReferenceSpec) false w args)
   (Rows.deriveTextMatchesReferenceSpec.post enc Tryz.prog Tryz.f3 false true false false):=by
 refine handed_shaped (C:=Tryz.checked) (X:=fun w _=>laidMetH Tryz.prog laid7 w) (fun _ _ _ hh h=>h.of_heap hh) own started (by kernel_rfl) Tryz.func3
  (wit3 os H enc) ?_
 intro W base args ds gs before hval0 hW hsh hL hz
 have hval:∀(j:Nat) t v,Tryz.f3.params[j]?=some t→args[j]?=some v→Value.okWide Tryz.prog W .any base t v:=hval0
 have hW':=hW
 obtain⟨p,q,hA0,hV,rfl,hfz,hnd⟩:=hW
 have hA:DataW.TrodAll enc Tryz.prog W 0 (fun _=>true) true Tryz.f3.params.toList args.toList ds p:=hA0
 rw[Tryz.params3]at hA hval hz
 obtain⟨v0,vs0,d0,ds0,p0,q0,hargs,rfl,rfl,h0,r0⟩:=trodAll_cons hA
 obtain⟨rfl,rfl,rfl⟩:=trodAll_nil r0
 obtain rfl:args=#[v0]:=by cases args;simp_all
 obtain⟨rfl,rfl⟩:=trodVars_none hV
 obtain⟨mx,hm⟩:=max_cell hsh
 obtain⟨c0,rfl,_⟩:=okWide_struct Tryz.underlying30 (hval 0 30 v0 rfl rfl)
 have k0:=h0
 have lt0:∀x∈p0,x.block<W.heap.size:=by obtain⟨m,hm⟩:=k0;exact DataW.trod_lt m _ _ _ hm
 have hwt:∀n∈d0.weights Tryz.prog 30,n≤reachBytes:=fun n hn=>by
  have:=List.all_eq_true.1 hz n (DataW.weights_mem_each (j:=0) rfl rfl n hn)
  simpa using this
 obtain⟨x0,f0,y0⟩:∃x:Dv,x.Fit∧RelL (sgW W mx) x.cs c0.toList:=by
  obtain⟨fuel,hf⟩:=h0
  exact open_dv (x:=(d0,p0)) hwt hf
 have hcall:=calls_W ftl3 (okW hm (pow_cells hL)) (show RelL (sgW W mx) [.agg x0.cs] _ from ⟨_,_,rfl,rel_agg y0,rfl⟩) (hLaw x0 f0)
 refine hcall.mono fun e W' ⟨he,bel⟩=>?_
 subst he
 exact⟨_,rfl,_,_,_,[],_,[],hW',trodAll_mk1 (shut_bool Tryz.underlying4 _),(trodAll_cons_mk (Below.trod laidOut (by kernel_rfl) (of_decide_eq_true (by kernel_rfl)) k0 bel lt0) trodAll_mk0),rfl,bel.frame _,fun h=>by cases h⟩
end
end Go.Ev
