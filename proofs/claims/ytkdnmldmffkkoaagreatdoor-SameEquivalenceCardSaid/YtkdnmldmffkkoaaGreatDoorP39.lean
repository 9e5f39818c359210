/- Texts. -/
import Derived.ProofKit
import Derived.OpenShut
import Derived.ChangeOld
import Derived.Deep.Slices
import Derived.Deep.MidRow
import Derived.Test.YtkdnmldmffkkoaaGreatDoorP14
set_option linter.unusedSimpArgs false
set_option linter.unusedVariables false
set_option maxRecDepth 100000
namespace Go.Ev
open Go.Proofs Go.ChangeShapes Go.WideShapes Go.ChangeAt Go.RowKit
noncomputable section
def gQ (W:World) (m:Int):Sg where
 blk:=fun i=>if i<6 then some i else none
 cap:=fun _=>0
 opq:=fun _=>.int .i64 m
 imm:=fun b=>match W.heap[b]? with
  |some (.cells C _ _)=>some C.toList
  |_=>none
section
variable {H : Type} {enc : TypeId × Value → H} {W : World} {base : Nat} {spare : Nat → Bool} {held : Bool} {m : Int}
theorem XO {α:Type}{p:Nat→α→Prop}:∀(n:Nat),(∀i,i<n→∃k,p i k)→∃ks:List α,ks.length=n∧∀i k,ks[i]?=some k→p i k
 |0,_=>⟨[],rfl,fun i k h=>by simp at h⟩
 |n+1,h=>by
  obtain⟨ks,hl,hk⟩:=XO n (fun i hi=>h i (by omega));obtain⟨x,hx⟩:=h n (by omega);refine⟨ks++[x],by simp[hl],fun i k hi=>?_⟩
  by_cases c:i<ks.length
  ·rw[List.getElem?_append_left c]at hi;exact hk i k hi
  ·rw[List.getElem?_append_right (by omega)]at hi;obtain⟨h1,h2⟩:=List.getElem?_eq_some_iff.1 hi;simp at h1 h2;have:i=n:=by omega
   subst this;rw[← h2];exact hx
theorem zz2 {es:Nat}:∀(L D:List Value),(∀i X,L[i]?=some X→X.cells.toList=(D.drop (i * es)).take es∧X.cells.size=es)→fL es L D
 |[],D,_=>trivial
 |X::L,D,h=>by
  obtain⟨h1,h2⟩:=h 0 X rfl;refine⟨by simpa using h1,h2,zz2 L _ fun i Y hY=>?_⟩;have:=h (i+1) Y (by simpa using hY);rw[List.drop_drop];rw[show es+i * es=(i+1) * es by rw[Nat.succ_mul,Nat.add_comm]];exact this
theorem ZI {σ:Sg}{α:Type}(e1:α→AV):∀(ks:List (α×Value)),(∀(i:Nat)(k:α×Value),ks[i]?=some k→av σ (e1 k.1) k.2)→aC σ ((ks.map (·.1)).map e1) (ks.map (·.2))
 |[],_=>rfl
 |k::ks,h=>⟨k.2,ks.map (·.2),rfl,h 0 k rfl,ZI e1 ks fun i q hq=>h (i+1) q (by simpa using hq)⟩
theorem Kw {α:Type}(e1:α→AV){t e:TypeId}{es fuel:Nat}{cs:List Value}{x:DataW H×List MemPlace}(ht:Tryz.prog.underlying t=some (.slice e))(hc:Tryz.prog.cellsOf e=es)(sd:0<es)
  (el:∀n jI y,fuel=n+1→DataW.trod enc Tryz.prog W base spare held n e jI=some y→∃(z:α) (V:Value),av (gQ W m) (e1 z) V∧V.cells.toList=jI)
  (h:DataW.trod enc Tryz.prog W base spare held fuel t cs=some x):∃(l:List α) (V:Value),cs=[V]∧av (gQ W m) (.fz es false (l.map e1)) V:=by
 rcases DataW.trod_slice ht h with⟨eh,_⟩ |⟨a,len,cap,elems,rest,n,hn,eh,_,_,gP,_,hlen,mG,_⟩
 ·refine⟨[],_,eh,?_⟩;simp only[av,List.map_nil];exact⟨none,0,rfl,ae _,fun h=>by simp at h,fun _=>rfl,fun h=>by simp at h⟩
 ·rw[hc]at mG;obtain⟨ks,cO,ei⟩:=XO (α:=α×Value) (p:=fun i k=>av (gQ W m) (e1 k.1) k.2∧W.cells? base (a.add (i * es)) es=some k.2.cells.toList) len (fun i hi=>by
   have q:=mG i hi;rw[aa (by omega)]at q;cases hq:W.cells? base (a.add (i * es)) es with
   |none=>rw[hq]at q;cases q
   |some jI=>
    rw[hq]at q;obtain⟨z,V,h1,h2⟩:=el n jI _ hn q;exact⟨(z,V),h1,by rw[h2]⟩)
  subst cO;refine⟨ks.map (·.1),_,eh,?_⟩;simp only[av,List.length_map];refine⟨some a,cap,rfl,gP,fun h=>by simp at h,fun h=>by simp at h,fun cD=>?_⟩;have jJ:∀i k,ks[i]?=some k→k.2.cells.toList.length=es∧∀j,j<es→W.cell? ((a.add (i * es)).add j)=k.2.cells.toList[j]?:=fun i k hi=>by
   have:=World.cells?_some (ei i k hi).2;exact⟨this.2.1,this.2.2⟩
  have fV:ks[0]?=some ks[0]:=aa cD;have a0:=(jJ 0 _ fV).2 0 sd;have l7:=(jJ 0 _ fV).1;rw[aa (by omega)]at a0;obtain⟨b,o,spot⟩:=a;have ox:spot=none:=by
   simp only[Nat.zero_mul,Addr.add,if_true]at a0;exact World.cell?_spot a0
  subst ox;rw[Addr.add_mid,Addr.add_mid]at a0;have hb:∃C ty fr,W.heap[b]?=some (.cells C ty fr):=by
   unfold World.cell? at a0;cases hh:W.heap[b]? with
   |none=>simp[hh]at a0
   |some ob=>cases ob <;> simp[hh]at a0;exact⟨_,_,_,rfl⟩
  obtain⟨C,ty,fr,hb⟩:=hb;refine⟨b,o,C.toList,ks.map (·.2),rfl,by simp[gQ,hb],ZI e1 ks (fun i k hi=>(ei i k hi).1),zz2 _ _ fun i X hX=>?_⟩;rw[List.getElem?_map]at hX;cases pZ:ks[i]? with
  |none=>rw[pZ]at hX;cases hX
  |some k=>
   rw[pZ]at hX;obtain rfl:k.2=X:=by simpa using hX
   obtain⟨q1,q2⟩:=jJ i k pZ;refine⟨?_,by simpa using q1⟩;apply List.ext_getElem?;intro j
   by_cases hj:j<es
   ·rw[← q2 j hj,Addr.add_mid,Addr.add_mid,nO hb,List.getElem?_take,if_pos hj,List.getElem?_drop,List.getElem?_drop];simp[Nat.add_assoc]
   ·rw[List.getElem?_eq_none (by omega),List.getElem?_eq_none (by rw[List.length_take];omega)]
theorem PU (l:List Value):(Value.agg l.toArray).cells.toList=l:=by simp[Value.cells]
theorem HW:Tryz.prog.cellsOf 3=1:=by kernel_rfl
theorem Eb:Tryz.prog.cellsOf 9=1:=by kernel_rfl
theorem zK4:Tryz.prog.cellsOf 22=1:=by kernel_rfl
theorem P4:Tryz.prog.cellsOf 24=5:=by kernel_rfl
theorem zTf:Tryz.prog.cellsOf 25=1:=by kernel_rfl
theorem zKi:Tryz.prog.cellsOf 26=1:=by kernel_rfl
theorem P5:Tryz.prog.cellsOf 28=4:=by kernel_rfl
theorem zHo:Tryz.prog.cellsOf 30=23:=by kernel_rfl
theorem zJw:Tryz.prog.cellsOf 33=1:=by kernel_rfl
theorem zOi:Tryz.prog.cellsOf 35=1:=by kernel_rfl
theorem WW:Tryz.prog.cellsOf 65=4:=by kernel_rfl
theorem zLd:∀(fuel:Nat)(cs:List Value)(x:DataW H×List MemPlace),DataW.trod enc Tryz.prog W base spare held fuel 24 cs=some x→∃f:Fm,aC (gQ W m) f.cs cs:=by
 intro fuel
 induction fuel using Nat.strongRecOn with
 |_ fuel ih=>
 intro cs x h;obtain⟨xs,n,rfl,rfl,hl,nJ,hf⟩:=DataW.trod_struct Tryz.underlying24 h;rw[P4]at hl;have hx:xs.length=5:=nJ;have g0:DataW.trod enc Tryz.prog W base spare held n 3 ((cs.drop 0).take (Tryz.prog.cellsOf 3))=xs[0]?:=hf 0 _ rfl;have g1:DataW.trod enc Tryz.prog W base spare held n 9 ((cs.drop 1).take (Tryz.prog.cellsOf 9))=xs[1]?:=hf 1 _ rfl;have g2:DataW.trod enc Tryz.prog W base spare held n 3 ((cs.drop 2).take (Tryz.prog.cellsOf 3))=xs[2]?:=hf 2 _ rfl;have g3:DataW.trod enc Tryz.prog W base spare held n 3 ((cs.drop 3).take (Tryz.prog.cellsOf 3))=xs[3]?:=hf 3 _ rfl;have g4:DataW.trod enc Tryz.prog W base spare held n 22 ((cs.drop 4).take (Tryz.prog.cellsOf 22))=xs[4]?:=hf 4 _ rfl;simp only[HW,Eb,zK4]at g0 g1 g2 g3 g4
 match cs,hl with
 |[c0,c1,c2,c3,c4],_=>
  simp only[List.drop_zero,List.drop_succ_cons,List.take_succ_cons,List.take_zero]at g0 g1 g2 g3 g4;rw[aa (by omega)]at g0 g1 g2 g3 g4;obtain⟨v0,e0,_⟩:=DataW.trod_int Tryz.underlying3 g0;obtain⟨v1,e1,_⟩:=DataW.trod_string Tryz.underlying9 g1;obtain⟨v2,e2,_⟩:=DataW.trod_int Tryz.underlying3 g2;obtain⟨v3,e3,_⟩:=DataW.trod_int Tryz.underlying3 g3;obtain⟨l,V,e4,hV⟩:=Kw (m:=m) (fun f:Fm=>.agg f.cs) Tryz.underlying22 P4 (by decide) (fun k jI y hk hy=>by
   obtain⟨f,hf⟩:=ih k (by omega) jI y hy;exact⟨f,.agg jI.toArray,by simp only[av];exact⟨jI,rfl,hf⟩,PU _⟩) g4
  simp only[List.cons.injEq,and_true]at e0 e1 e2 e3 e4;subst e0 e1 e2 e3 e4;refine⟨.mk v0 v1 v2 v3 l,?_⟩;rw[← DB]at hV;simp only[Fm.cs,aC];exact⟨_,_,rfl,by simp only[av],_,_,rfl,by simp only[av],_,_,rfl,by simp only[av],_,_,rfl,by simp only[av],_,_,rfl,hV,rfl⟩
theorem PA:∀(fuel:Nat)(cs:List Value)(x:DataW H×List MemPlace),DataW.trod enc Tryz.prog W base spare held fuel 28 cs=some x→∃f:br,aC (gQ W m) f.cs cs:=by
 intro fuel
 induction fuel using Nat.strongRecOn with
 |_ fuel ih=>
 intro cs x h;obtain⟨xs,n,rfl,rfl,hl,nJ,hf⟩:=DataW.trod_struct Tryz.underlying28 h;rw[P5]at hl;have hx:xs.length=4:=nJ;have g0:DataW.trod enc Tryz.prog W base spare held n 3 ((cs.drop 0).take (Tryz.prog.cellsOf 3))=xs[0]?:=hf 0 _ rfl;have g1:DataW.trod enc Tryz.prog W base spare held n 9 ((cs.drop 1).take (Tryz.prog.cellsOf 9))=xs[1]?:=hf 1 _ rfl;have g2:DataW.trod enc Tryz.prog W base spare held n 3 ((cs.drop 2).take (Tryz.prog.cellsOf 3))=xs[2]?:=hf 2 _ rfl;have g3:DataW.trod enc Tryz.prog W base spare held n 26 ((cs.drop 3).take (Tryz.prog.cellsOf 26))=xs[3]?:=hf 3 _ rfl;simp only[HW,Eb,zKi]at g0 g1 g2 g3
 match cs,hl with
 |[c0,c1,c2,c3],_=>
  simp only[List.drop_zero,List.drop_succ_cons,List.take_succ_cons,List.take_zero]at g0 g1 g2 g3;rw[aa (by omega)]at g0 g1 g2 g3;obtain⟨v0,e0,_⟩:=DataW.trod_int Tryz.underlying3 g0;obtain⟨v1,e1,_⟩:=DataW.trod_string Tryz.underlying9 g1;obtain⟨v2,e2,_⟩:=DataW.trod_int Tryz.underlying3 g2;obtain⟨l,V,e4,hV⟩:=Kw (m:=m) (fun f:br=>.agg f.cs) Tryz.underlying26 P5 (by decide) (fun k jI y hk hy=>by
   obtain⟨f,hf⟩:=ih k (by omega) jI y hy;exact⟨f,.agg jI.toArray,by simp only[av];exact⟨jI,rfl,hf⟩,PU _⟩) g3
  simp only[List.cons.injEq,and_true]at e0 e1 e2 e4;subst e0 e1 e2 e4;refine⟨.mk v0 v1 v2 l,?_⟩;rw[← GW]at hV;simp only[br.cs,aC];exact⟨_,_,rfl,by simp only[av],_,_,rfl,by simp only[av],_,_,rfl,by simp only[av],_,_,rfl,hV,rfl⟩
theorem zJj {fuel:Nat}{cs:List Value}{x:DataW H×List MemPlace}(h:DataW.trod enc Tryz.prog W base spare held fuel 65 cs=some x):∃f:Fc,aC (gQ W m) f.cs cs:=by
 obtain⟨xs,n,rfl,rfl,hl,nJ,hf⟩:=DataW.trod_struct Tryz.underlying65 h;rw[WW]at hl;have hx:xs.length=4:=nJ;have g0:DataW.trod enc Tryz.prog W base spare held n 9 ((cs.drop 0).take (Tryz.prog.cellsOf 9))=xs[0]?:=hf 0 _ rfl;have g1:DataW.trod enc Tryz.prog W base spare held n 3 ((cs.drop 1).take (Tryz.prog.cellsOf 3))=xs[1]?:=hf 1 _ rfl;have g2:DataW.trod enc Tryz.prog W base spare held n 3 ((cs.drop 2).take (Tryz.prog.cellsOf 3))=xs[2]?:=hf 2 _ rfl;have g3:DataW.trod enc Tryz.prog W base spare held n 3 ((cs.drop 3).take (Tryz.prog.cellsOf 3))=xs[3]?:=hf 3 _ rfl;simp only[HW,Eb]at g0 g1 g2 g3
 match cs,hl with
 |[c0,c1,c2,c3],_=>
  simp only[List.drop_zero,List.drop_succ_cons,List.take_succ_cons,List.take_zero]at g0 g1 g2 g3;rw[aa (by omega)]at g0 g1 g2 g3;obtain⟨v0,e0,_⟩:=DataW.trod_string Tryz.underlying9 g0;obtain⟨v1,e1,_⟩:=DataW.trod_int Tryz.underlying3 g1;obtain⟨v2,e2,_⟩:=DataW.trod_int Tryz.underlying3 g2;obtain⟨v3,e3,_⟩:=DataW.trod_int Tryz.underlying3 g3;simp only[List.cons.injEq,and_true]at e0 e1 e2 e3;subst e0 e1 e2 e3;refine⟨⟨v0,v1,v2,v3⟩,?_⟩;simp only[Fc.cs,aC];exact⟨_,_,rfl,by simp only[av],_,_,rfl,by simp only[av],_,_,rfl,by simp only[av],_,_,rfl,by simp only[av],rfl⟩
theorem ZT {fuel:Nat}{cs:List Value}{x:DataW H×List MemPlace}(h:DataW.trod enc Tryz.prog W base spare held fuel 35 cs=some x):∃d:List Fc,aC (gQ W m) [.fz 4 false (aP d)] cs:=by
 obtain⟨xs,n,rfl,rfl,hl,nJ,hf⟩:=DataW.trod_struct Tryz.underlying35 h;rw[zOi]at hl;have hx:xs.length=1:=nJ;have g0:DataW.trod enc Tryz.prog W base spare held n 33 ((cs.drop 0).take (Tryz.prog.cellsOf 33))=xs[0]?:=hf 0 _ rfl;simp only[zJw]at g0
 match cs,hl with
 |[c0],_=>
  simp only[List.drop_zero,List.take_succ_cons,List.take_zero]at g0;rw[aa (by omega)]at g0;obtain⟨l,V,e4,hV⟩:=Kw (m:=m) (fun f:Fc=>.agg f.cs) Tryz.underlying33 WW (by decide) (fun k jI y hk hy=>by
   obtain⟨f,hf⟩:=zJj (m:=m) hy;exact⟨f,.agg jI.toArray,by simp only[av];exact⟨jI,rfl,hf⟩,PU _⟩) g0
  simp only[List.cons.injEq,and_true]at e4;subst e4;exact⟨l,c0,[],rfl,hV,rfl⟩
theorem zI7 {fuel:Nat}{cs:List Value}{x:DataW H×List MemPlace}(h:DataW.trod enc Tryz.prog W base spare held fuel 25 cs=some x):∃(l:List ByteArray)(V:Value),cs=[V]∧av (gQ W m) (.fz 1 false (bf l)) V:=
 Kw (m:=m) AV.bs Tryz.underlying25 Eb (by decide) (fun k jI y hk hy=>by
  obtain⟨s,e,_⟩:=DataW.trod_string Tryz.underlying9 hy;subst e;exact⟨s,.string s,by simp only[av],rfl⟩) h
theorem CX {σ:Sg}:∀{l m:List AV}{L M:List Value},aC σ l L→aC σ m M→aC σ (l++m) (L++M)
 |[],_,L,M,h1,h2=>by
  have:L=[]:=h1;subst this;exact h2
 |a::l,m,L,M,h1,h2=>by
  obtain⟨V,L',rfl,h3,h4⟩:=h1;exact⟨V,L'++M,rfl,h3,CX h4 h2⟩
theorem Gu {fuel:Nat}{cs:List Value}{x:DataW H×List MemPlace}(h:DataW.trod enc Tryz.prog W base spare held fuel 30 cs=some x):∃p:Pv,aC (gQ W m) p.cs cs:=by
 obtain⟨xs,n,rfl,rfl,hl,nJ,hf⟩:=DataW.trod_struct Tryz.underlying30 h;rw[zHo]at hl;have hx:xs.length=10:=nJ;have g0:DataW.trod enc Tryz.prog W base spare held n 9 ((cs.drop 0).take (Tryz.prog.cellsOf 9))=xs[0]?:=hf 0 _ rfl;have g1:DataW.trod enc Tryz.prog W base spare held n 3 ((cs.drop 1).take (Tryz.prog.cellsOf 3))=xs[1]?:=hf 1 _ rfl;have g2:DataW.trod enc Tryz.prog W base spare held n 3 ((cs.drop 2).take (Tryz.prog.cellsOf 3))=xs[2]?:=hf 2 _ rfl;have g3:DataW.trod enc Tryz.prog W base spare held n 9 ((cs.drop 3).take (Tryz.prog.cellsOf 9))=xs[3]?:=hf 3 _ rfl;have g4:DataW.trod enc Tryz.prog W base spare held n 3 ((cs.drop 4).take (Tryz.prog.cellsOf 3))=xs[4]?:=hf 4 _ rfl;have g5:DataW.trod enc Tryz.prog W base spare held n 24 ((cs.drop 5).take (Tryz.prog.cellsOf 24))=xs[5]?:=hf 5 _ rfl
 have g6:DataW.trod enc Tryz.prog W base spare held n 25 ((cs.drop 10).take (Tryz.prog.cellsOf 25))=xs[6]?:=hf 6 _ rfl;have g7:DataW.trod enc Tryz.prog W base spare held n 28 ((cs.drop 11).take (Tryz.prog.cellsOf 28))=xs[7]?:=hf 7 _ rfl;have g8:DataW.trod enc Tryz.prog W base spare held n 28 ((cs.drop 15).take (Tryz.prog.cellsOf 28))=xs[8]?:=hf 8 _ rfl;have g9:DataW.trod enc Tryz.prog W base spare held n 28 ((cs.drop 19).take (Tryz.prog.cellsOf 28))=xs[9]?:=hf 9 _ rfl;simp only[HW,Eb,P4,zTf,P5]at g0 g1 g2 g3 g4 g5 g6 g7 g8 g9;rw[aa (by omega)]at g0 g1 g2 g3 g4 g5 g6 g7 g8 g9;obtain⟨v0,e0,_⟩:=DataW.trod_string Tryz.underlying9 g0;obtain⟨v1,e1,_⟩:=DataW.trod_int Tryz.underlying3 g1;obtain⟨v2,e2,_⟩:=DataW.trod_int Tryz.underlying3 g2;obtain⟨v3,e3,_⟩:=DataW.trod_string Tryz.underlying9 g3;obtain⟨v4,e4,_⟩:=DataW.trod_int Tryz.underlying3 g4;obtain⟨v5,h5⟩:=zLd (m:=m) _ _ _ g5
 obtain⟨v6,V6,e6,h6⟩:=zI7 (m:=m) g6;obtain⟨v7,h7⟩:=PA (m:=m) _ _ _ g7;obtain⟨v8,h8⟩:=PA (m:=m) _ _ _ g8;obtain⟨v9,h9⟩:=PA (m:=m) _ _ _ g9;clear g0 g1 g2 g3 g4 g5 g6 g7 g8 g9 hf h;refine⟨⟨v0,v1,v2,v3,v4,v5,v6,v7,v8,v9⟩,?_⟩;have hs:cs=[.string v0,.int .i64 v1,.int .i64 v2,.string v3,.int .i64 v4]++((cs.drop 5).take 5++([V6]++((cs.drop 11).take 4++((cs.drop 15).take 4++(cs.drop 19).take 4)))):=by
  match cs,hl with
  |[c0,c1,c2,c3,c4,c5,c6,c7,c8,c9,c10,c11,c12,c13,c14,c15,c16,c17,c18,c19,c20,c21,c22],_=>
   simp only[List.drop_zero,List.drop_succ_cons,List.take_succ_cons,List.take_zero,List.cons.injEq,and_true]at e0 e1 e2 e3 e4 e6;subst e0 e1 e2 e3 e4 e6;rfl
 rw[hs];show aC (gQ W m) ([.bs v0,.int .i64 v1,.int .i64 v2,.bs v3,.int .i64 v4]++(v5.cs++([.fz 1 false (bf v6)]++(v7.cs++(v8.cs++v9.cs))))) _;refine CX ?_ (CX h5 (CX ⟨_,_,rfl,h6,rfl⟩ (CX h7 (CX h8 h9))));simp only[aC];exact⟨_,_,rfl,by simp only[av],_,_,rfl,by simp only[av],_,_,rfl,by simp only[av],_,_,rfl,by simp only[av],_,_,rfl,by simp only[av],rfl⟩
end
end
end Go.Ev
