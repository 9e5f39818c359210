/- Texts LS5. -/
import Derived.Test.YtkdnmldmffkkoaaGreatDoorP42
import Derived.Test.YtkdnmldmffkkoaaGreatDoorP43
set_option linter.unusedSimpArgs false
set_option linter.unusedVariables false
set_option maxRecDepth 100000
namespace Go.Ev
open Go.Proofs Go.ChangeShapes Go.WideShapes Go.ChangeAt Go.WideElems Go.RowKit
open Go.Proofs.YtkdnmldmffkkoaaGreatDoor
noncomputable section
theorem zLs:cx.ft.get 5=some Tryz.f5:=za9 (by decide) (by kernel_rfl)
theorem zS0 (hLaw:∀(x0:Pv)(x1:Stt) (x2:Nat)(hu2:x2<256)(x3:List Fc),Ret Tryz.prog cx 5 [.agg x0.cs,.agg x1.cs,.int .u8 (x2:Int),.agg [.fz 4 false (za8 x3)]] (.bool true))(os:Os)(started:os.Started)(H:Type)(enc:TypeId×Value→H):
  ReturnsInHanded {} Tryz.checked os 5 .any (fun w args=>(Rows.sameStartsSpec.pre enc Tryz.prog Tryz.f5 [] false w args∧laidMetH Tryz.prog zms w)∧sizedMet enc Tryz.prog Tryz.f5 (OpenSpec.ofChange Rows.sameStartsSpec) false w args)
   (Rows.sameStartsSpec.post enc Tryz.prog Tryz.f5 false true false false):=by
 refine zQk (C:=Tryz.checked) (X:=fun w _=>laidMetH Tryz.prog zms w) (fun _ _ _ hh h=>h.of_heap hh) own started (by kernel_rfl) Tryz.func5
  (zG9 os H enc) ?_
 intro W base args ds gs before hval0 hW hsh hL
 have hval:∀(j:Nat) t v,Tryz.f5.params[j]?=some t→args[j]?=some v→Value.okWide Tryz.prog W .any base t v:=hval0
 have hW':=hW
 obtain⟨p,q,hA0,hV,rfl,hfz,hnd⟩:=hW
 have hA:DataW.TrodAll enc Tryz.prog W 0 (fun _=>true) true Tryz.f5.params.toList args.toList ds p:=hA0
 rw[Tryz.params5]at hA hval
 obtain⟨v0,vs0,d0,ds0,p0,q0,hargs,rfl,rfl,h0,r0⟩:=trodAll_cons hA
 obtain⟨v1,vs1,d1,ds1,p1,q1,rfl,rfl,rfl,h1,r1⟩:=trodAll_cons r0
 obtain⟨v2,vs2,d2,ds2,p2,q2,rfl,rfl,rfl,h2,r2⟩:=trodAll_cons r1
 obtain⟨v3,vs3,d3,ds3,p3,q3,rfl,rfl,rfl,h3,r3⟩:=trodAll_cons r2
 obtain⟨rfl,rfl,rfl⟩:=trodAll_nil r3
 obtain rfl:args=#[v0,v1,v2,v3]:=by cases args;simp_all
 obtain⟨rfl,rfl⟩:=trodVars_none hV
 obtain⟨mx,hm⟩:=zPa hsh
 obtain⟨c0,rfl,_⟩:=okWide_struct Tryz.underlying30 (hval 0 30 v0 rfl rfl)
 have k0:=h0
 have lt0:∀x∈p0,x.block<W.heap.size:=by obtain⟨m,hm⟩:=k0;exact DataW.trod_lt m _ _ _ hm
 obtain⟨x0,y0⟩:∃x:Pv,za1 (sgW W mx) x.cs c0.toList:=by
  obtain⟨fuel,hf⟩:=h0
  exact zMp hf
 obtain⟨c1,rfl,_⟩:=okWide_struct Tryz.underlying28 (hval 1 28 v1 rfl rfl)
 have k1:=h1
 have lt1:∀x∈p1,x.block<W.heap.size:=by obtain⟨m,hm⟩:=k1;exact DataW.trod_lt m _ _ _ hm
 obtain⟨x1,y1⟩:∃x:Stt,za1 (sgW W mx) x.cs c1.toList:=by
  obtain⟨fuel,hf⟩:=h1
  exact zrv _ _ _ hf
 obtain⟨n2,rfl,rfl,rfl,w2⟩:=open_int Tryz.underlying5 (hval 2 5 v2 rfl rfl) h2
 obtain⟨x2,rfl,hu2⟩:=zN8 w2
 obtain⟨c3,rfl,_⟩:=okWide_struct Tryz.underlying35 (hval 3 35 v3 rfl rfl)
 have k3:=h3
 have lt3:∀x∈p3,x.block<W.heap.size:=by obtain⟨m,hm⟩:=k3;exact DataW.trod_lt m _ _ _ hm
 obtain⟨x3,y3⟩:∃x:List Fc,za1 (sgW W mx) [.fz 4 false (za8 x)] c3.toList:=by
  obtain⟨fuel,hf⟩:=h3
  exact zR2 hf
 have hcall:=zQe zLs (okW hm (zT1 hL)) (show za1 (sgW W mx) [.agg x0.cs,.agg x1.cs,.int .u8 (x2:Int),.agg [.fz 4 false (za8 x3)]] _ from ⟨_,_,rfl,zuf y0,_,_,rfl,zuf y1,_,_,rfl,zNe _ _,_,_,rfl,zuf y3,rfl⟩) (hLaw x0 x1 x2 hu2 x3)
 refine hcall.mono fun e W' ⟨he,bel⟩=>?_
 subst he
 exact⟨_,rfl,_,_,_,[],_,[],hW',trodAll_mk1 (shut_bool Tryz.underlying4 _),(trodAll_cons_mk (Below.trod zuy (by kernel_rfl) (of_decide_eq_true (by kernel_rfl)) k0 bel lt0) (trodAll_cons_mk (Below.trod zuy (by kernel_rfl) (of_decide_eq_true (by kernel_rfl)) k1 bel lt1) (trodAll_cons_mk (shut_int Tryz.underlying5 w2) (trodAll_cons_mk (Below.trod zuy (by kernel_rfl) (of_decide_eq_true (by kernel_rfl)) k3 bel lt3) trodAll_mk0)))),rfl,bel.frame _,fun h=>by cases h⟩
end
end Go.Ev
