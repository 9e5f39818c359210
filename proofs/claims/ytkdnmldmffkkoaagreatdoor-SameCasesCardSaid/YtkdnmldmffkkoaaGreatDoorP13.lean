/- Texts. -/
import Derived.ProofKit
import Derived.OpenShut
import Derived.ChangeOld
import Derived.Deep.Slices
import Derived.Deep.MidRow
import Derived.Below
import Derived.Carry
import Derived.HandedShaped
import Derived.ChangeSame
import Derived.LaidMore
import Derived.Stop.Joined
import Derived.Shelf.Vars
import Derived.Test.YtkdnmldmffkkoaaGreatDoorRows
import Derived.Test.YtkdnmldmffkkoaaGreatDoorP06
set_option linter.all false
set_option maxRecDepth 100000
namespace Go.Ev
noncomputable section
open Go.Proofs Go.ChangeShapes Go.WideShapes Go.ChangeAt Go.RowKit
section
def jv (W:World) (m:Int):Sg where
 blk:=fun i=>if i<6 then some i else none
 cap:=fun _=>0
 opq:=fun _=>.int .i64 m
 imm:=fun b=>match W.heap[b]? with
  |some (.cells C _ _)=>some C.toList
  |_=>none
section
variable {H : Type} {enc : TypeId × Value → H} {W : World} {base : Nat} {spare : Nat → Bool} {held : Bool} {m : Int}
def YR {α:Type}{p:Nat→α→Prop}:∀(n:Nat),(∀i,i<n→∃k,p i k)→∃ks:List α,ks.length=n∧∀i k,ks[i]?=some k→p i k
 |0,_=>⟨[],rfl,fun i k h=>by simp at h⟩
 |n+1,h=>by
  obtain⟨ks,hl,hk⟩:=YR n (fun i hi=>h i (by omega));obtain⟨x,hx⟩:=h n (by omega);refine⟨ks++[x],by simp[hl],fun i k hi=>?_⟩
  by_cases c:i<ks.length
  ·rw[List.getElem?_append_left c]at hi;exact hk i k hi
  ·rw[List.getElem?_append_right (by omega)]at hi;obtain⟨h1,h2⟩:=List.getElem?_eq_some_iff.1 hi;simp at h1 h2;have:i=n:=by omega
   subst this;rw[← h2];exact hx
def zz2 {es:Nat}:∀(L D:List Value),(∀i X,L[i]?=some X→X.cells.toList=(D.drop (i * es)).take es∧X.cells.size=es)→gH es L D
 |[],D,_=>trivial
 |X::L,D,h=>by
  obtain⟨h1,h2⟩:=h 0 X rfl;refine⟨by simpa using h1,h2,zz2 L _ fun i Y hY=>?_⟩;have:=h (i+1) Y (by simpa using hY);rw[List.drop_drop];rw[show es+i * es=(i+1) * es by rw[Nat.succ_mul,Nat.add_comm]];exact this
def zFm {σ:Sg}{α:Type}(e1:α→AV):∀(ks:List (α×Value)),(∀(i:Nat)(k:α×Value),ks[i]?=some k→av σ (e1 k.1) k.2)→aC σ ((ks.map (·.1)).map e1) (ks.map (·.2))
 |[],_=>rfl
 |k::ks,h=>⟨k.2,ks.map (·.2),rfl,h 0 k rfl,zFm e1 ks fun i q hq=>h (i+1) q (by simpa using hq)⟩
def Iu {α:Type}(e1:α→AV){t e:TypeId}{es fuel:Nat}{cs:List Value}{x:DataW H×List MemPlace}(ht:Tryz.prog.underlying t=some (.slice e))(hc:Tryz.prog.cellsOf e=es)(oT:0<es)
  (el:∀n jS y,fuel=n+1→DataW.trod enc Tryz.prog W base spare held n e jS=some y→∃(z:α) (V:Value),av (jv W m) (e1 z) V∧V.cells.toList=jS)
  (h:DataW.trod enc Tryz.prog W base spare held fuel t cs=some x):∃(l:List α) (V:Value),cs=[V]∧av (jv W m) (.fz es false (l.map e1)) V:=by
 rcases DataW.trod_slice ht h with⟨dD,_⟩ |⟨a,len,cap,elems,rest,n,hn,dD,_,_,dE,_,hlen,nC,_⟩
 ·refine⟨[],_,dD,?_⟩;simp only[av,List.map_nil];exact⟨none,0,rfl,ae _,fun h=>by simp at h,fun _=>rfl,fun h=>by simp at h⟩
 ·rw[hc]at nC;obtain⟨ks,dB,dK⟩:=YR (α:=α×Value) (p:=fun i k=>av (jv W m) (e1 k.1) k.2∧W.cells? base (a.add (i * es)) es=some k.2.cells.toList) len (fun i hi=>by
   have q:=nC i hi;rw[aa (by omega)]at q;cases hq:W.cells? base (a.add (i * es)) es with
   |none=>rw[hq]at q;cases q
   |some jS=>
    rw[hq]at q;obtain⟨z,V,h1,h2⟩:=el n jS _ hn q;exact⟨(z,V),h1,by rw[h2]⟩)
  subst dB;refine⟨ks.map (·.1),_,dD,?_⟩;simp only[av,List.length_map];refine⟨some a,cap,rfl,dE,fun h=>by simp at h,fun h=>by simp at h,fun cM=>?_⟩;have gQ:∀i k,ks[i]?=some k→k.2.cells.toList.length=es∧∀j,j<es→W.cell? ((a.add (i * es)).add j)=k.2.cells.toList[j]?:=fun i k hi=>by
   have:=World.cells?_some (dK i k hi).2;exact⟨this.2.1,this.2.2⟩
  have eY:ks[0]?=some ks[0]:=aa cM;have a0:=(gQ 0 _ eY).2 0 oT;have mN:=(gQ 0 _ eY).1;rw[aa (by omega)]at a0;obtain⟨b,o,spot⟩:=a;have o9:spot=none:=by
   simp only[Nat.zero_mul,Addr.add,if_true]at a0;exact World.cell?_spot a0
  subst o9;rw[Addr.add_mid,Addr.add_mid]at a0;have hb:∃C ty fr,W.heap[b]?=some (.cells C ty fr):=by
   unfold World.cell? at a0;cases hh:W.heap[b]? with
   |none=>simp[hh]at a0
   |some ob=>cases ob <;> simp[hh]at a0;exact⟨_,_,_,rfl⟩
  obtain⟨C,ty,fr,hb⟩:=hb;refine⟨b,o,C.toList,ks.map (·.2),rfl,by simp[jv,hb],zFm e1 ks (fun i k hi=>(dK i k hi).1),zz2 _ _ fun i X hX=>?_⟩;rw[List.getElem?_map]at hX;cases qT:ks[i]? with
  |none=>rw[qT]at hX;cases hX
  |some k=>
   rw[qT]at hX;obtain rfl:k.2=X:=by simpa using hX
   obtain⟨q1,q2⟩:=gQ i k qT;refine⟨?_,by simpa using q1⟩;apply List.ext_getElem?;intro j
   by_cases hj:j<es
   ·rw[← q2 j hj,Addr.add_mid,Addr.add_mid,oB hb,List.getElem?_take,if_pos hj,List.getElem?_drop,List.getElem?_drop];simp[Nat.add_assoc]
   ·rw[List.getElem?_eq_none (by omega),List.getElem?_eq_none (by rw[List.length_take];omega)]
def QT (l:List Value):(Value.agg l.toArray).cells.toList=l:=by simp[Value.cells]
def EP:Tryz.prog.cellsOf 3=1:=by kernel_rfl
def ES:Tryz.prog.cellsOf 9=1:=by kernel_rfl
def zK4:Tryz.prog.cellsOf 22=1:=by kernel_rfl
def Q3:Tryz.prog.cellsOf 24=5:=by kernel_rfl
def zTf:Tryz.prog.cellsOf 25=1:=by kernel_rfl
def zKi:Tryz.prog.cellsOf 26=1:=by kernel_rfl
def Q4:Tryz.prog.cellsOf 28=4:=by kernel_rfl
def zHo:Tryz.prog.cellsOf 30=23:=by kernel_rfl
def zJw:Tryz.prog.cellsOf 33=1:=by kernel_rfl
def zOi:Tryz.prog.cellsOf 35=1:=by kernel_rfl
def X4:Tryz.prog.cellsOf 65=4:=by kernel_rfl
def zLd:∀(fuel:Nat)(cs:List Value)(x:DataW H×List MemPlace),DataW.trod enc Tryz.prog W base spare held fuel 24 cs=some x→∃f:Fm,aC (jv W m) f.cs cs:=by
 intro fuel
 induction fuel using Nat.strongRecOn with
 |_ fuel ih=>
 intro cs x h;obtain⟨xs,n,rfl,rfl,hl,ow,hf⟩:=DataW.trod_struct Tryz.underlying24 h;rw[Q3]at hl;have hx:xs.length=5:=ow;have g0:DataW.trod enc Tryz.prog W base spare held n 3 ((cs.drop 0).take (Tryz.prog.cellsOf 3))=xs[0]?:=hf 0 _ rfl;have g1:DataW.trod enc Tryz.prog W base spare held n 9 ((cs.drop 1).take (Tryz.prog.cellsOf 9))=xs[1]?:=hf 1 _ rfl;have g2:DataW.trod enc Tryz.prog W base spare held n 3 ((cs.drop 2).take (Tryz.prog.cellsOf 3))=xs[2]?:=hf 2 _ rfl;have g3:DataW.trod enc Tryz.prog W base spare held n 3 ((cs.drop 3).take (Tryz.prog.cellsOf 3))=xs[3]?:=hf 3 _ rfl;have g4:DataW.trod enc Tryz.prog W base spare held n 22 ((cs.drop 4).take (Tryz.prog.cellsOf 22))=xs[4]?:=hf 4 _ rfl;simp only[EP,ES,zK4]at g0 g1 g2 g3 g4
 match cs,hl with
 |[c0,c1,c2,c3,c4],_=>
  simp only[List.drop_zero,List.drop_succ_cons,List.take_succ_cons,List.take_zero]at g0 g1 g2 g3 g4;rw[aa (by omega)]at g0 g1 g2 g3 g4;obtain⟨v0,e0,_⟩:=DataW.trod_int Tryz.underlying3 g0;obtain⟨v1,e1,_⟩:=DataW.trod_string Tryz.underlying9 g1;obtain⟨v2,e2,_⟩:=DataW.trod_int Tryz.underlying3 g2;obtain⟨v3,e3,_⟩:=DataW.trod_int Tryz.underlying3 g3;obtain⟨l,V,e4,hV⟩:=Iu (m:=m) (fun f:Fm=>.agg f.cs) Tryz.underlying22 Q3 (by decide) (fun k jS y hk hy=>by
   obtain⟨f,hf⟩:=ih k (by omega) jS y hy;exact⟨f,.agg jS.toArray,by simp only[av];exact⟨jS,rfl,hf⟩,QT _⟩) g4
  simp only[List.cons.injEq,and_true]at e0 e1 e2 e3 e4;subst e0 e1 e2 e3 e4;refine⟨.mk v0 v1 v2 v3 l,?_⟩;rw[← Ek]at hV;simp only[Fm.cs,aC];exact⟨_,_,rfl,by simp only[av],_,_,rfl,by simp only[av],_,_,rfl,by simp only[av],_,_,rfl,by simp only[av],_,_,rfl,hV,rfl⟩
def QB:∀(fuel:Nat)(cs:List Value)(x:DataW H×List MemPlace),DataW.trod enc Tryz.prog W base spare held fuel 28 cs=some x→∃f:bB,aC (jv W m) f.cs cs:=by
 intro fuel
 induction fuel using Nat.strongRecOn with
 |_ fuel ih=>
 intro cs x h;obtain⟨xs,n,rfl,rfl,hl,ow,hf⟩:=DataW.trod_struct Tryz.underlying28 h;rw[Q4]at hl;have hx:xs.length=4:=ow;have g0:DataW.trod enc Tryz.prog W base spare held n 3 ((cs.drop 0).take (Tryz.prog.cellsOf 3))=xs[0]?:=hf 0 _ rfl;have g1:DataW.trod enc Tryz.prog W base spare held n 9 ((cs.drop 1).take (Tryz.prog.cellsOf 9))=xs[1]?:=hf 1 _ rfl;have g2:DataW.trod enc Tryz.prog W base spare held n 3 ((cs.drop 2).take (Tryz.prog.cellsOf 3))=xs[2]?:=hf 2 _ rfl;have g3:DataW.trod enc Tryz.prog W base spare held n 26 ((cs.drop 3).take (Tryz.prog.cellsOf 26))=xs[3]?:=hf 3 _ rfl;simp only[EP,ES,zKi]at g0 g1 g2 g3
 match cs,hl with
 |[c0,c1,c2,c3],_=>
  simp only[List.drop_zero,List.drop_succ_cons,List.take_succ_cons,List.take_zero]at g0 g1 g2 g3;rw[aa (by omega)]at g0 g1 g2 g3;obtain⟨v0,e0,_⟩:=DataW.trod_int Tryz.underlying3 g0;obtain⟨v1,e1,_⟩:=DataW.trod_string Tryz.underlying9 g1;obtain⟨v2,e2,_⟩:=DataW.trod_int Tryz.underlying3 g2;obtain⟨l,V,e4,hV⟩:=Iu (m:=m) (fun f:bB=>.agg f.cs) Tryz.underlying26 Q4 (by decide) (fun k jS y hk hy=>by
   obtain⟨f,hf⟩:=ih k (by omega) jS y hy;exact⟨f,.agg jS.toArray,by simp only[av];exact⟨jS,rfl,hf⟩,QT _⟩) g3
  simp only[List.cons.injEq,and_true]at e0 e1 e2 e4;subst e0 e1 e2 e4;refine⟨.mk v0 v1 v2 l,?_⟩;rw[← HL]at hV;simp only[bB.cs,aC];exact⟨_,_,rfl,by simp only[av],_,_,rfl,by simp only[av],_,_,rfl,by simp only[av],_,_,rfl,hV,rfl⟩
def zJj {fuel:Nat}{cs:List Value}{x:DataW H×List MemPlace}(h:DataW.trod enc Tryz.prog W base spare held fuel 65 cs=some x):∃f:Fc,aC (jv W m) f.cs cs:=by
 obtain⟨xs,n,rfl,rfl,hl,ow,hf⟩:=DataW.trod_struct Tryz.underlying65 h;rw[X4]at hl;have hx:xs.length=4:=ow;have g0:DataW.trod enc Tryz.prog W base spare held n 9 ((cs.drop 0).take (Tryz.prog.cellsOf 9))=xs[0]?:=hf 0 _ rfl;have g1:DataW.trod enc Tryz.prog W base spare held n 3 ((cs.drop 1).take (Tryz.prog.cellsOf 3))=xs[1]?:=hf 1 _ rfl;have g2:DataW.trod enc Tryz.prog W base spare held n 3 ((cs.drop 2).take (Tryz.prog.cellsOf 3))=xs[2]?:=hf 2 _ rfl;have g3:DataW.trod enc Tryz.prog W base spare held n 3 ((cs.drop 3).take (Tryz.prog.cellsOf 3))=xs[3]?:=hf 3 _ rfl;simp only[EP,ES]at g0 g1 g2 g3
 match cs,hl with
 |[c0,c1,c2,c3],_=>
  simp only[List.drop_zero,List.drop_succ_cons,List.take_succ_cons,List.take_zero]at g0 g1 g2 g3;rw[aa (by omega)]at g0 g1 g2 g3;obtain⟨v0,e0,_⟩:=DataW.trod_string Tryz.underlying9 g0;obtain⟨v1,e1,_⟩:=DataW.trod_int Tryz.underlying3 g1;obtain⟨v2,e2,_⟩:=DataW.trod_int Tryz.underlying3 g2;obtain⟨v3,e3,_⟩:=DataW.trod_int Tryz.underlying3 g3;simp only[List.cons.injEq,and_true]at e0 e1 e2 e3;subst e0 e1 e2 e3;refine⟨⟨v0,v1,v2,v3⟩,?_⟩;simp only[Fc.cs,aC];exact⟨_,_,rfl,by simp only[av],_,_,rfl,by simp only[av],_,_,rfl,by simp only[av],_,_,rfl,by simp only[av],rfl⟩
def zR2 {fuel:Nat}{cs:List Value}{x:DataW H×List MemPlace}(h:DataW.trod enc Tryz.prog W base spare held fuel 35 cs=some x):∃d:List Fc,aC (jv W m) [.fz 4 false (aN d)] cs:=by
 obtain⟨xs,n,rfl,rfl,hl,ow,hf⟩:=DataW.trod_struct Tryz.underlying35 h;rw[zOi]at hl;have hx:xs.length=1:=ow;have g0:DataW.trod enc Tryz.prog W base spare held n 33 ((cs.drop 0).take (Tryz.prog.cellsOf 33))=xs[0]?:=hf 0 _ rfl;simp only[zJw]at g0
 match cs,hl with
 |[c0],_=>
  simp only[List.drop_zero,List.take_succ_cons,List.take_zero]at g0;rw[aa (by omega)]at g0;obtain⟨l,V,e4,hV⟩:=Iu (m:=m) (fun f:Fc=>.agg f.cs) Tryz.underlying33 X4 (by decide) (fun k jS y hk hy=>by
   obtain⟨f,hf⟩:=zJj (m:=m) hy;exact⟨f,.agg jS.toArray,by simp only[av];exact⟨jS,rfl,hf⟩,QT _⟩) g0
  simp only[List.cons.injEq,and_true]at e4;subst e4;exact⟨l,c0,[],rfl,hV,rfl⟩
def zI7 {fuel:Nat}{cs:List Value}{x:DataW H×List MemPlace}(h:DataW.trod enc Tryz.prog W base spare held fuel 25 cs=some x):∃(l:List ByteArray)(V:Value),cs=[V]∧av (jv W m) (.fz 1 false (bp l)) V:=
 Iu (m:=m) AV.bs Tryz.underlying25 ES (by decide) (fun k jS y hk hy=>by
  obtain⟨s,e,_⟩:=DataW.trod_string Tryz.underlying9 hy;subst e;exact⟨s,.string s,by simp only[av],rfl⟩) h
def DK {σ:Sg}:∀{l m:List AV}{L M:List Value},aC σ l L→aC σ m M→aC σ (l++m) (L++M)
 |[],_,L,M,h1,h2=>by
  have:L=[]:=h1;subst this;exact h2
 |a::l,m,L,M,h1,h2=>by
  obtain⟨V,L',rfl,h3,h4⟩:=h1;exact⟨V,L'++M,rfl,h3,DK h4 h2⟩
def zMp {fuel:Nat}{cs:List Value}{x:DataW H×List MemPlace}(h:DataW.trod enc Tryz.prog W base spare held fuel 30 cs=some x):∃p:Pv,aC (jv W m) p.cs cs:=by
 obtain⟨xs,n,rfl,rfl,hl,ow,hf⟩:=DataW.trod_struct Tryz.underlying30 h;rw[zHo]at hl;have hx:xs.length=10:=ow;have g0:DataW.trod enc Tryz.prog W base spare held n 9 ((cs.drop 0).take (Tryz.prog.cellsOf 9))=xs[0]?:=hf 0 _ rfl;have g1:DataW.trod enc Tryz.prog W base spare held n 3 ((cs.drop 1).take (Tryz.prog.cellsOf 3))=xs[1]?:=hf 1 _ rfl;have g2:DataW.trod enc Tryz.prog W base spare held n 3 ((cs.drop 2).take (Tryz.prog.cellsOf 3))=xs[2]?:=hf 2 _ rfl;have g3:DataW.trod enc Tryz.prog W base spare held n 9 ((cs.drop 3).take (Tryz.prog.cellsOf 9))=xs[3]?:=hf 3 _ rfl;have g4:DataW.trod enc Tryz.prog W base spare held n 3 ((cs.drop 4).take (Tryz.prog.cellsOf 3))=xs[4]?:=hf 4 _ rfl;have g5:DataW.trod enc Tryz.prog W base spare held n 24 ((cs.drop 5).take (Tryz.prog.cellsOf 24))=xs[5]?:=hf 5 _ rfl
 have g6:DataW.trod enc Tryz.prog W base spare held n 25 ((cs.drop 10).take (Tryz.prog.cellsOf 25))=xs[6]?:=hf 6 _ rfl;have g7:DataW.trod enc Tryz.prog W base spare held n 28 ((cs.drop 11).take (Tryz.prog.cellsOf 28))=xs[7]?:=hf 7 _ rfl;have g8:DataW.trod enc Tryz.prog W base spare held n 28 ((cs.drop 15).take (Tryz.prog.cellsOf 28))=xs[8]?:=hf 8 _ rfl;have g9:DataW.trod enc Tryz.prog W base spare held n 28 ((cs.drop 19).take (Tryz.prog.cellsOf 28))=xs[9]?:=hf 9 _ rfl;simp only[EP,ES,Q3,zTf,Q4]at g0 g1 g2 g3 g4 g5 g6 g7 g8 g9;rw[aa (by omega)]at g0 g1 g2 g3 g4 g5 g6 g7 g8 g9;obtain⟨v0,e0,_⟩:=DataW.trod_string Tryz.underlying9 g0;obtain⟨v1,e1,_⟩:=DataW.trod_int Tryz.underlying3 g1;obtain⟨v2,e2,_⟩:=DataW.trod_int Tryz.underlying3 g2;obtain⟨v3,e3,_⟩:=DataW.trod_string Tryz.underlying9 g3;obtain⟨v4,e4,_⟩:=DataW.trod_int Tryz.underlying3 g4;obtain⟨v5,h5⟩:=zLd (m:=m) _ _ _ g5
 obtain⟨v6,V6,e6,h6⟩:=zI7 (m:=m) g6;obtain⟨v7,h7⟩:=QB (m:=m) _ _ _ g7;obtain⟨v8,h8⟩:=QB (m:=m) _ _ _ g8;obtain⟨v9,h9⟩:=QB (m:=m) _ _ _ g9;clear g0 g1 g2 g3 g4 g5 g6 g7 g8 g9 hf h;refine⟨⟨v0,v1,v2,v3,v4,v5,v6,v7,v8,v9⟩,?_⟩;have hs:cs=[.string v0,.int .i64 v1,.int .i64 v2,.string v3,.int .i64 v4]++((cs.drop 5).take 5++([V6]++((cs.drop 11).take 4++((cs.drop 15).take 4++(cs.drop 19).take 4)))):=by
  match cs,hl with
  |[c0,c1,c2,c3,c4,c5,c6,c7,c8,c9,c10,c11,c12,c13,c14,c15,c16,c17,c18,c19,c20,c21,c22],_=>
   simp only[List.drop_zero,List.drop_succ_cons,List.take_succ_cons,List.take_zero,List.cons.injEq,and_true]at e0 e1 e2 e3 e4 e6;subst e0 e1 e2 e3 e4 e6;rfl
 rw[hs];show aC (jv W m) ([.bs v0,.int .i64 v1,.int .i64 v2,.bs v3,.int .i64 v4]++(v5.cs++([.fz 1 false (bp v6)]++(v7.cs++(v8.cs++v9.cs))))) _;refine DK ?_ (DK h5 (DK ⟨_,_,rfl,h6,rfl⟩ (DK h7 (DK h8 h9))));simp only[aC];exact⟨_,_,rfl,by simp only[av],_,_,rfl,by simp only[av],_,_,rfl,by simp only[av],_,_,rfl,by simp only[av],_,_,rfl,by simp only[av],rfl⟩
end
end
end
end Go.Ev
namespace Go.Ev
open Go.Proofs Go.ChangeShapes Go.WideShapes Go.ChangeAt Go.WideElems Go.RowKit
open Go.Proofs.YtkdnmldmffkkoaaGreatDoor
noncomputable section
section
variable {H : Type} {enc : TypeId × Value → H}
def zQk {a:Assume}{C:Checked}{os:Os}{f:FuncId}{fn:Func}{s:ChangeSpec}{conds:List PathCond}{apart fresh handsOn again:Bool}{X:World→Array Value→Prop}
  (hX:∀(w w':World) (args:Array Value),w.heap=w'.heap→X w args→X w' args)
  (own:ownKnob C.prog.godebug=none) (started:os.Started) (Bm:C.prog.inits.idxOf? f=none) (uT:C.prog.funcs[f]?=some fn)
  (witness:∃(w:World) (tape:Tape) (i:Input),w.os=os∧(w.forCall tape i).Shaped C.prog∧i.vars=[]∧Input.okWide C.prog (w.forCall tape i) .any w.heap.size f i∧
   ((s.pre enc C.prog fn conds apart (w.forCall tape i).memory i.args∧X (w.forCall tape i).memory i.args)∧sizedMet enc C.prog fn (OpenSpec.ofChange s) apart (w.forCall tape i).memory i.args)∧a.holds C.prog (lone (Frame.enter C.prog f i.args .normal) [] (w.forCall tape i)))
  (sM:∀(W:World) (base:Nat) (args:Array Value) (ds gs:List (DataW H)) (before:List MemPlace),
   (∀(j:Nat) t v,fn.params[j]?=some t→args[j]?=some v→Value.okWide C.prog W .any base t v)→
   DataW.Whole enc C.prog fn.params.toList s.vars apart W args.toList ds gs before→W.ShapedOpen C.prog→X W args→
   Calls C.prog f args W fun e W'=>∃v,e=.returned v∧s.post enc C.prog fn apart fresh handsOn again W args v W'):
  ReturnsInHanded a C os f .any (fun w args=>(s.pre enc C.prog fn conds apart w args∧X w args)∧sizedMet enc C.prog fn (OpenSpec.ofChange s) apart w args) (s.post enc C.prog fn apart fresh handsOn again):=by
 refine returnsInHanded_of_calls own started Bm witness ?_;intro w tape i _ tO _ oY gF _;obtain⟨_,_,_,oN,N3,_,_,_,_,dw⟩:=oY;have e:oN=fn:=Option.some.inj (N3.symm.trans uT);subst e;obtain⟨⟨⟨ds,gs,before,hw,_⟩,hx⟩,_⟩:=gF;have rR:=DataW.Whole.of_heap (w':=w.forCall tape i) (by rfl) hw;refine(sM (w.forCall tape i) w.heap.size i.args ds gs before dw rR tO (hX _ _ _ (by rfl) hx)).mono fun e W' ⟨v,he,hp⟩=>?_;subst he;exact ChangeSpec.post_blind hp
end
def El : List (String × DataW Unit) := [("math/bits.deBruijn32tab", Rows.laid_math_bits_deBruijn32tab), ("math/bits.deBruijn64tab", Rows.laid_math_bits_deBruijn64tab), ("internal/strconv.uint64pow10", Rows.laid_internal_strconv_uint64pow10), ("strconv.ErrRange", Rows.laid_strconv_ErrRange), ("strconv.ErrSyntax", Rows.laid_strconv_ErrSyntax)]
def own:ownKnob Tryz.prog.godebug=none:=by kernel_rfl
def zFa : Tryz.prog.globalNamed "internal/strconv.uint64pow10" = some 0 := by kernel_rfl
def zQw:(Rows.laid_internal_strconv_uint64pow10:DataW Unit)=.agg ((List.range 20).map fun i=>.lit (.int .u64 ((10 ^ i:Nat):Int))):=by kernel_rfl
def zPa {W:World}(h:W.ShapedOpen Tryz.prog):∃m,W.cell? ⟨3,0,none⟩=some (.int .i64 m):=
 cell_of_shapedOpen_int (g:=3) (t:=3) (zero:=#[.int .i64 0]) h (of_decide_eq_true (by kernel_rfl)) (by kernel_rfl) (by kernel_rfl) (by kernel_rfl) (by kernel_rfl) (by kernel_rfl)
def zT1 {W:World}(h:laidMetH Tryz.prog El W):∀i,i<20→W.cell? ⟨0,i,none⟩=some (.int .u64 ((10 ^ i:Nat):Int)):=by
 rw[MakeChecks.laidMetH_plain _ _ _ (by kernel_rfl)]at h;obtain⟨ps,⟨_,_,_,_,_,_,_,_,_,_,⟨_,_,_,_,_,_,_,_,_,_,⟨g,t,cs,f,p,q,hg,ht,hv,hd,_,_⟩,_⟩,_⟩,_,_⟩:=h;obtain rfl:=Option.some.inj (zFa.symm.trans hg);obtain rfl:=Option.some.inj ((show (Tryz.prog.globals[0]?).map (·.type)=some 317 by kernel_rfl).symm.trans ht);obtain⟨xs,m1,rfl,Vz,hlen,AP,nC⟩:=DataW.trod_array (show Tryz.prog.underlying 317=some (.array 20 290) by kernel_rfl) hd;have c1:Tryz.prog.cellsOf 290=1:=by kernel_rfl
 intro i hi;have h0:=nC i hi;rw[c1,Nat.mul_one,aa (by omega)]at h0;obtain⟨k,e1,e2,_⟩:=DataW.trod_int (show Tryz.prog.underlying 290=some (.int .u64) by kernel_rfl) h0;simp only[Prod.mk.injEq]at Vz;have e3:=Vz.1;rw[zQw]at e3;simp only[DataW.agg.injEq]at e3;have e4:((List.range 20).map fun i=>(DataW.lit (.int .u64 ((10 ^ i:Nat):Int)):DataW Unit))[i]?=(xs.map (·.1))[i]?:=by rw[e3]
 rw[List.getElem?_map,List.getElem?_map,aa (by omega:i<xs.length),e2,List.getElem?_range hi]at e4;simp only[Option.map_some,Option.some.injEq,DataW.lit.injEq,Lit.int.injEq,true_and]at e4;subst e4;rw[World.var?_cell zFa hv i];have e5:(cs.toList.drop i)[0]?=some (.int .u64 ((10 ^ i:Nat):Int)):=by
  have:((cs.toList.drop i).take 1)[0]?=some (Value.int .u64 ((10 ^ i:Nat):Int)):=by rw[e1];rfl
  rw[List.getElem?_take]at this;simpa using this
 rw[List.getElem?_drop]at e5;simpa using e5
def Zp {W:World}{b o:Nat}{v:Value}(h:W.cell? ⟨b,o,none⟩=some v):∃C ty fr,W.heap[b]?=some (.cells C ty fr):=by
 unfold World.cell? at h;cases hh:W.heap[b]? with
 |none=>simp[hh]at h
 |some ob=>cases ob <;> simp[hh]at h;exact⟨_,_,_,rfl⟩
def okW {W:World}{m:Int}(hm:W.cell? ⟨3,0,none⟩=some (.int .i64 m))(hp:∀i,i<20→W.cell? ⟨0,i,none⟩=some (.int .u64 ((10 ^ i:Nat):Int))):Ok G0 (jv W m) .nil 6 W:=by
 refine⟨fun g hg=>if_pos hg,ae _,fun i hi=>if_neg (by omega),(fun i j b B B' h1=>by cases h1),(fun i B h1=>by cases h1),fun b C hb=>⟨?_,fun i B h1=>by cases h1⟩,fun g cs hg=>?_⟩
 ·simp only[jv]at hb;split at hb
  ·rename_i C' ty fr hh;cases hb;exact⟨ty,fr,hh⟩
  ·cases hb
 ·have mf:zf g=some cs:=hg;unfold zf at mf;split at mf
  ·cases mf;obtain⟨C,ty,fr,hh⟩:=Zp (hp 0 (by decide));simp only[av];refine⟨0,0,C.toList,(List.range 20).map fun i=>.int .u64 ((10 ^ i:Nat):Int),rfl,by simp[jv,hh],?_,?_⟩
   ·have:∀l:List Nat,aC (jv W m) (l.map fun i=>AV.int .u64 ((10 ^ i:Nat):Int)) (l.map fun i=>Value.int .u64 ((10 ^ i:Nat):Int)):=by
     intro l
     induction l with
     |nil=>rfl
     |cons a l ih=>exact⟨_,_,rfl,by simp only[av],ih⟩
    exact this _
   ·apply List.ext_getElem?;intro i;rw[List.length_map,List.length_range,List.drop_zero,List.getElem?_take]
    by_cases hi:i<20
    ·have:=hp i hi;rw[oB hh]at this;rw[if_pos hi,List.getElem?_map,List.getElem?_range hi,Array.getElem?_toList,this];rfl
    ·rw[if_neg hi,List.getElem?_eq_none (by simp;omega)]
  ·cases mf;obtain⟨C,ty,fr,hh⟩:=Zp hm;simp only[av];rw[oB hh]at hm;refine⟨3,0,C.toList,[.int .i64 m],rfl,by simp[jv,hh],?_,?_⟩
   ·simp only[aC,av];exact⟨_,_,rfl,⟨rfl,rfl,fun _=>⟨m,rfl⟩⟩,rfl⟩
   ·apply List.ext_getElem?;intro i;rw[List.drop_zero,List.getElem?_take];cases i with
    |zero=>simp[hm]
    |succ i=>simp
  ·cases mf
def zQe {W:World}{m:Int}{f:FuncId}{fn:Func}(bO:cx.ft.get f=some fn){args:List AV}{A:List Value}(ok:Ok G0 (jv W m) .nil 6 W)(hA:aC (jv W m) args A)(hc:aM f args (.bool true)):
  Calls Tryz.prog f A.toArray W fun e W'=>e=.returned (.bool true)∧Below W.heap.size W W':=by
 have h:=hc .nil 6 (jv W m) W A ok hA;obtain⟨_,bu⟩:=iQ.ft f fn bO;unfold CR at h;rw[bu]at h;simp only at h;refine h.mono fun e x q=>?_;cases e with
 |panicked ch=>exact q.elim
 |outgrown=>exact q.elim
 |returned V=>
  obtain⟨τ,v,g,ny,h1,h2,rfl,_,_⟩:=q;simp only[av]at h1;subst h1;exact⟨rfl,h2.fr.os,h2.fr.tape,h2.fr.output,h2.fr.size,fun k hk=>h2.fr.keep k hk fun i B hi=>by cases hi⟩
def zOv (os:Os)(args:Array Value):laidMetH Tryz.prog El ((World.doorLaid Tryz.prog 400 os).forCall (fun _ _=>0) ⟨#[],args,[]⟩).memory:=
 laidMetH_of_parts3 (fuel:=8) (laidMet_of_run' 8 (by kernel_rfl) (by kernel_rfl)) (by kernel_rfl) (by kernel_rfl)
end
end Go.Ev
