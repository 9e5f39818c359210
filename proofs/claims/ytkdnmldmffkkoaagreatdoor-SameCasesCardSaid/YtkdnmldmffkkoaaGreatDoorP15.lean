/- Texts. -/
import Derived.Test.YtkdnmldmffkkoaaGreatDoorP14
set_option linter.all false
set_option maxRecDepth 100000
namespace Go.Ev
noncomputable section
open Go.Proofs Go.ChangeShapes Go.WideShapes Go.ChangeAt Go.RowKit
section
section
variable {H : Type} {enc : TypeId × Value → H} {W : World} {base : Nat} {spare : Nat → Bool} {held : Bool} {m : Int}
def yn1 {fuel:Nat}{cs:List Value}{x:DataW H×List MemPlace}(h:DataW.trod enc Tryz.prog W base spare held fuel 41 cs=some x):∃(l:List Int)(V:Value),cs=[V]∧av (jv W m) (.fz 1 false (aG l)) V:=
 Iu (m:=m) (fun n:Int=>AV.int .i64 n) Tryz.underlying41 EP (by decide) (fun k jS y hk hy=>by
  obtain⟨s,e,_⟩:=DataW.trod_int Tryz.underlying3 hy;subst e;exact⟨s,.int .i64 s,by simp only[av],rfl⟩) h
end
end
open Go.Proofs Go.ChangeShapes Go.WideShapes Go.ChangeAt Go.WideElems Go.RowKit
open Go.Proofs.YtkdnmldmffkkoaaGreatDoor
section
def Ms:laidOutB Tryz.prog=true:=by kernel_rfl
def RY {σ:Sg}{l:List AV}{c:Array Value}(h:aC σ l c.toList):av σ (.agg l) (.agg c):=by
 simp only[av];exact⟨c.toList,rfl,h⟩
def yml:cx.ft.get 7=some Tryz.f7:=aO
def ymx (zW:∀(x0:Pv)(x1:Pv)(x2:List Int)(x3:List Fc),aM 7 [.agg x0.cs,.agg x1.cs,.fz 1 false (aG x2),.agg [.fz 4 false (aN x3)]] (.bool true))(os:Os)(started:os.Started)(H:Type)(enc:TypeId×Value→H):
  ReturnsInHanded {} Tryz.checked os 7 .any (fun w args=>(Rows.sameCasesSpec.pre enc Tryz.prog Tryz.f7 [] false w args∧laidMetH Tryz.prog El w)∧sizedMet enc Tryz.prog Tryz.f7 (OpenSpec.ofChange Rows.sameCasesSpec) false w args)
   (Rows.sameCasesSpec.post enc Tryz.prog Tryz.f7 false true false false):=by
 refine zQk (C:=Tryz.checked) (X:=fun w _=>laidMetH Tryz.prog El w) (fun _ _ _ hh h=>h.of_heap hh) own started (by kernel_rfl) Tryz.func7
  (yn9 os H enc) ?_
 intro W base args ds gs before GP hW tO hL;have dw:∀(j:Nat) t v,Tryz.f7.params[j]?=some t→args[j]?=some v→Value.okWide Tryz.prog W .any base t v:=GP;have hW':=hW;obtain⟨p,q,hA0,hV,rfl,UZ,fH⟩:=hW;have hA:DataW.TrodAll enc Tryz.prog W 0 (fun _=>true) true Tryz.f7.params.toList args.toList ds p:=hA0;rw[Tryz.params7]at hA dw;obtain⟨v0,vs0,d0,ds0,p0,q0,lz,rfl,rfl,h0,r0⟩:=trodAll_cons hA;obtain⟨v1,vs1,d1,ds1,p1,q1,rfl,rfl,rfl,h1,r1⟩:=trodAll_cons r0;obtain⟨v2,vs2,d2,ds2,p2,q2,rfl,rfl,rfl,h2,r2⟩:=trodAll_cons r1;obtain⟨v3,vs3,d3,ds3,p3,q3,rfl,rfl,rfl,h3,r3⟩:=trodAll_cons r2;obtain⟨rfl,rfl,rfl⟩:=trodAll_nil r3;obtain rfl:args=#[v0,v1,v2,v3]:=by cases args;simp_all
 obtain⟨rfl,rfl⟩:=trodVars_none hV;obtain⟨mx,hm⟩:=zPa tO;obtain⟨c0,rfl,_⟩:=okWide_struct Tryz.underlying30 (dw 0 30 v0 rfl rfl);have k0:=h0;have lt0:∀x∈p0,x.block<W.heap.size:=by obtain⟨m,hm⟩:=k0;exact DataW.trod_lt m _ _ _ hm
 obtain⟨x0,y0⟩:∃x:Pv,aC (jv W mx) x.cs c0.toList:=by
  obtain⟨fuel,hf⟩:=h0;exact zMp hf
 obtain⟨c1,rfl,_⟩:=okWide_struct Tryz.underlying30 (dw 1 30 v1 rfl rfl);have k1:=h1;have lt1:∀x∈p1,x.block<W.heap.size:=by obtain⟨m,hm⟩:=k1;exact DataW.trod_lt m _ _ _ hm
 obtain⟨x1,y1⟩:∃x:Pv,aC (jv W mx) x.cs c1.toList:=by
  obtain⟨fuel,hf⟩:=h1;exact zMp hf
 obtain⟨VP,VU,VQ,rfl⟩:=okWide_slice Tryz.underlying41 (dw 2 41 v2 rfl rfl);have k2:=h2;have lt2:∀x∈p2,x.block<W.heap.size:=by obtain⟨m,hm⟩:=k2;exact DataW.trod_lt m _ _ _ hm
 obtain⟨x2,y2⟩:∃x:List Int,av (jv W mx) (.fz 1 false (aG x)) (.slice VP VU VQ):=by
  obtain⟨fuel,hf⟩:=h2;obtain⟨l,V,e,hV⟩:=yn1 (m:=mx) hf;have e2:[Value.slice VP VU VQ]=[V]:=e;simp only[List.cons.injEq,and_true]at e2;exact⟨l,e2 ▸ hV⟩
 obtain⟨c3,rfl,_⟩:=okWide_struct Tryz.underlying35 (dw 3 35 v3 rfl rfl);have k3:=h3;have lt3:∀x∈p3,x.block<W.heap.size:=by obtain⟨m,hm⟩:=k3;exact DataW.trod_lt m _ _ _ hm
 obtain⟨x3,y3⟩:∃x:List Fc,aC (jv W mx) [.fz 4 false (aN x)] c3.toList:=by
  obtain⟨fuel,hf⟩:=h3;exact zR2 hf
 have bu:=zQe yml (okW hm (zT1 hL)) (show aC (jv W mx) [.agg x0.cs,.agg x1.cs,.fz 1 false (aG x2),.agg [.fz 4 false (aN x3)]] _ from ⟨_,_,rfl,RY y0,_,_,rfl,RY y1,_,_,rfl,y2,_,_,rfl,RY y3,rfl⟩) (zW x0 x1 x2 x3);refine bu.mono fun e W' ⟨he,EM⟩=>?_;subst he;exact⟨_,rfl,_,_,_,[],_,[],hW',trodAll_mk1 (shut_bool Tryz.underlying4 _),(trodAll_cons_mk (Below.trod Ms (by kernel_rfl) (of_decide_eq_true (by kernel_rfl)) k0 EM lt0) (trodAll_cons_mk (Below.trod Ms (by kernel_rfl) (of_decide_eq_true (by kernel_rfl)) k1 EM lt1) (trodAll_cons_mk (Below.trod Ms (by kernel_rfl) (of_decide_eq_true (by kernel_rfl)) k2 EM lt2) (trodAll_cons_mk (Below.trod Ms (by kernel_rfl) (of_decide_eq_true (by kernel_rfl)) k3 EM lt3) trodAll_mk0)))),rfl,EM.frame _,fun h=>by cases h⟩
end
end
end Go.Ev
