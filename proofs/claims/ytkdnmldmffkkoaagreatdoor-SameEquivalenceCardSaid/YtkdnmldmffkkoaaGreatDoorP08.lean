/- Texts. -/
import Derived.OrdersIn
import Derived.Test.YtkdnmldmffkkoaaGreatDoorP07
set_option linter.unusedSimpArgs false
set_option linter.unusedVariables false
set_option maxRecDepth 100000
namespace Go.Ev
noncomputable section
variable {P : Program} {c : Cx} {σ τ υ : Sg} {h g f : Tr ABlk} {nx ny nz sz : Nat} {ds : List DE} {w x y : World} {tm : Tr AV} {a : Act}
theorem Ok.nlt {G:Gl}(hk:Ok G σ h nx w){i b:Nat}(hb:σ.blk i=some b):i<nx:=by
 rcases Nat.lt_or_ge i nx with h1 |h1
 ·exact h1
 ·rw[hk.fresh i h1]at hb;cases hb
def qG (es:Nat):List AV→List AV→Prop
 |[],D=>D=[]
 |v::l,D=>∃d D',D=d++D'∧v.cells=d∧d.length=es∧(v=.agg d∨v.one=true)∧qG es l D'
mutual
inductive Fz (g:Tr ABlk) (nx:Nat):AV→AV→Prop
 |bool (b:Bool):Fz g nx (.bool b) (.bool b)
 |int (k:IntKind) (n:Int):Fz g nx (.int k n) (.int k n)
 |str (l n:Nat):Fz g nx (.str l n) (.str l n)
 |bs (b:ByteArray):Fz g nx (.bs b) (.bs b)
 |ptr0:Fz g nx .ptr0 .ptr0
 |sl0:Fz g nx .sl0 .sl0
 |map0:Fz g nx .map0 .map0
 |nilFunc:Fz g nx .nilFunc .nilFunc
 |nilIface:Fz g nx .nilIface .nilIface
 |opq (n:Nat):Fz g nx (.opq n) (.opq n)
 |ptr (i o:Nat):i<nx→Fz g nx (.ptr i o) (.ptr i o)
 |sl (i o l cp:Nat) (opn:Bool):i<nx→Fz g nx (.sl i o l cp opn) (.sl i o l cp opn)
 |map (i:Nat):i<nx→Fz g nx (.map i) (.map i)
 |yld (i:Nat):i<nx→Fz g nx (.yld i) (.yld i)
 |agg (l m:List AV):ct g nx l m→Fz g nx (.agg l) (.agg m)
 |tup (l m:List AV):ct g nx l m→Fz g nx (.tup l) (.tup m)
 |iface (t:TypeId) (v u:AV):Fz g nx v u→Fz g nx (.iface t v) (.iface t u)
 |func (fn:FuncId) (l m l' m':List AV):ct g nx l m→ct g nx l' m'→Fz g nx (.func fn l l') (.func fn m m')
 |ip (l m:List AV):ct g nx l m→Fz g nx (.ip l) (.ip m)
 |fz (es:Nat) (full:Bool) (l m:List AV):ct g nx l m→Fz g nx (.fz es full l) (.fz es full m)
 |pin (i o e n:Nat) (c:Tr AV) (opn:Bool) (esz:Nat) (cs ds:List AV):nx≤i→g.get i=some (.cells e n c opn esz)→o+cs.length≤n→(∀j,j<cs.length→c.get (o+j)=cs[j]?)→ct g nx cs ds→Fz g nx (.ptr i o) (.ip ds)
 |slz (i o len cp:Nat) (op:Bool) (e n:Nat) (c:Tr AV) (opn:Bool) (esz es:Nat) (cs ds xs:List AV):nx≤i→g.get i=some (.cells e n c opn esz)→o+cs.length≤n→(∀j,j<cs.length→c.get (o+j)=cs[j]?)→ct g nx cs ds→qG es xs ds→xs.length=len→Fz g nx (.sl i o len cp op) (.fz es false xs)
inductive ct (g:Tr ABlk) (nx:Nat):List AV→List AV→Prop
 |nil:ct g nx [] []
 |cons (v u:AV) (l m:List AV):Fz g nx v u→ct g nx l m→ct g nx (v::l) (u::m)
end
open Classical in
def Sg.frz (τ:Sg)(x:World)(g:Tr ABlk) (nx:Nat):Sg where
 blk:=fun i=>if i<nx then τ.blk i else none
 cap:=τ.cap
 opq:=τ.opq
 imm:=fun b=>match τ.imm b with
  |some C=>some C
  |none=>if ∃i e n c opn esz,nx≤i∧g.get i=some (.cells e n c opn esz)∧τ.blk i=some b then (match x.heap[b]? with |some (.cells C _ _)=>some C.toList |_=>none) else none
theorem av.one_cells {v:AV}{V:Value}(hr:av σ v V)(h1:v.one=true):V.cells=#[V]:=by
 have:=hr.one h1;cases V <;> first |rfl |(simp[Value.oneCell']at this)
theorem qG.rel {es:Nat}:∀{xs D:List AV}{L:List Value},qG es xs D→aC υ D L→∃XS,aC υ xs XS∧fL es XS L
 |[],D,L,h,hr=>⟨[],by simp only[aC],trivial⟩
 |v::l,D,L,h,hr=>by
  obtain⟨d,D',e,h1,h2,h3,h4⟩:=h;subst e;have hd:aC υ d (L.take es):=by
   have:=hr.take d.length;rw[List.take_left,h2]at this;exact this
  have hd':aC υ D' (L.drop es):=by
   have:=hr.drop d.length;rw[List.drop_left,h2]at this;exact this
  obtain⟨XS,q1,q2⟩:=qG.rel h4 hd';have hlen:(L.take es).length=es:=by rw[hd.length,h2]
  rcases h3 with h3 |h3
  ·refine⟨.agg (L.take es).toArray::XS,?_,?_⟩
   ·simp only[aC];exact⟨_,_,rfl,by rw[h3];simp only[av];exact⟨_,rfl,hd⟩,q1⟩
   ·exact⟨by simp[Value.cells],by simp[Value.cells];rw[List.length_take]at hlen;exact hlen,q2⟩
  ·have hc:v.cells=[v]:=by cases v <;> first |rfl |(simp[AV.one]at h3)
   rw[hc]at h1;subst h1;simp only[aC]at hd;obtain⟨V,L',e1,e2,e3⟩:=hd;subst e3;refine⟨V::XS,by simp only[aC];exact⟨_,_,rfl,e2,q1⟩,?_⟩;have:=e2.one_cells h3;refine⟨by rw[this,e1],?_,q2⟩;rw[this];simpa using h2
theorem ct.length:∀{l m:List AV},ct g nx l m→m.length=l.length
 |_,_,.nil=>rfl
 |_,_,.cons v u l m _ h2=>by simp[ct.length h2]
theorem fL.of_take {es:Nat}:∀{L D:List Value}{n:Nat},fL es L (D.take n)→fL es L D
 |[],D,n,_=>trivial
 |X::L,D,n,h=>by
  simp only[fL]at h ⊢;obtain⟨h1,h2,h3⟩:=h;have hl:((D.take n).take es).length=es:=by rw[← h1,Array.length_toList,h2]
  simp only[List.length_take]at hl;have hn:es≤n:=by omega
  rw[List.take_take,Nat.min_eq_left hn]at h1;rw[List.drop_take]at h3;exact⟨h1,h2,h3.of_take⟩
section
variable {G : Gl}
theorem Sk (hk:Ok G τ g ny x){i e n esz b:Nat}{c:Tr AV}{opn:Bool}(hn:nx≤i)(hg:g.get i=some (.cells e n c opn esz))(hb:τ.blk i=some b):
  ∃C fr,x.heap[b]?=some (.cells C e fr)∧(τ.frz x g nx).imm b=some C.toList∧∀k,k<n→∃v V,c.get k=some v∧C[k]?=some V∧av τ v V:=by
 obtain⟨b',C,fr,aS,aF,aK,_,_⟩:=hk.cells hg;rw[hb]at aS;cases aS;refine⟨C,fr,aF,?_,aK⟩;have eE:τ.imm b=none:=by
  cases hi:τ.imm b with
  |none=>rfl
  |some D=>exact absurd hb ((hk.imm b D hi).2 i _ hg)
 show (match τ.imm b with |some C=>some C |none=>_)=_;rw[eE];simp only;rw[if_pos ⟨i,e,n,c,opn,esz,hn,hg,hb⟩,aF]
theorem KT {c:Tr AV}{C:Array Value}{n o:Nat}{cs:List AV}(aK:∀k,k<n→∃v V,c.get k=some v∧C[k]?=some V∧av τ v V)(hle:o+cs.length≤n)(eh:∀j,j<cs.length→c.get (o+j)=cs[j]?):
  ∃L,aC τ cs L∧L=(C.toList.drop o).take L.length:=by
 have hl:((C.toList.drop o).take cs.length).length=cs.length:=by
  simp only[List.length_take,List.length_drop,Array.length_toList]
  rcases Nat.eq_zero_or_pos cs.length with e |e
  ·omega
  ·obtain⟨_,V,_,h2,_⟩:=aK (o+cs.length-1) (by omega);have:=(Array.getElem?_eq_some_iff.1 h2).1;omega
 refine⟨(C.toList.drop o).take cs.length,aC.of_get hl fun k v V h1 h2=>?_,by rw[hl]⟩;have hk:k<cs.length:=(List.getElem?_eq_some_iff.1 h1).1;obtain⟨v',V',e1,e2,e3⟩:=aK (o+k) (by omega);rw[eh k hk,h1]at e1;cases e1;rw[List.getElem?_take,if_pos hk,List.getElem?_drop,Array.getElem?_toList,e2]at h2;cases h2;exact e3
mutual
theorem Fz.rel (hk:Ok G τ g ny x):∀{v u:AV},Fz g nx v u→∀V,av τ v V→av (τ.frz x g nx) u V
 |_,_,.bool b,V,h=>by simpa only[av]using h
 |_,_,.int k n,V,h=>by simpa only[av]using h
 |_,_,.str l n,V,h=>by simpa only[av]using h
 |_,_,.bs b,V,h=>by simpa only[av]using h
 |_,_,.ptr0,V,h=>by simpa only[av]using h
 |_,_,.sl0,V,h=>by simpa only[av]using h
 |_,_,.map0,V,h=>by simpa only[av]using h
 |_,_,.nilFunc,V,h=>by simpa only[av]using h
 |_,_,.nilIface,V,h=>by simpa only[av]using h
 |_,_,.opq n,V,h=>by
  simp only[av]at h ⊢;exact h
 |_,_,.ptr i o hi,V,h=>by
  simp only[av]at h ⊢;obtain⟨b,hb,e⟩:=h;exact⟨b,by simp only[Sg.frz];rw[if_pos hi];exact hb,e⟩
 |_,_,.sl i o l cp opn hi,V,h=>by
  simp only[av]at h ⊢;obtain⟨b,hb,e⟩:=h;exact⟨b,by simp only[Sg.frz];rw[if_pos hi];exact hb,e⟩
 |_,_,.map i hi,V,h=>by
  simp only[av]at h ⊢;obtain⟨b,hb,e⟩:=h;exact⟨b,by simp only[Sg.frz];rw[if_pos hi];exact hb,e⟩
 |_,_,.yld i hi,V,h=>by
  simp only[av]at h ⊢;obtain⟨b,hb,e⟩:=h;exact⟨b,by simp only[Sg.frz];rw[if_pos hi];exact hb,e⟩
 |_,_,.agg l m hl,V,h=>by
  simp only[av]at h ⊢;obtain⟨L,e,h1⟩:=h;exact⟨L,e,ct.rel hk hl L h1⟩
 |_,_,.tup l m hl,V,h=>by
  simp only[av]at h ⊢;obtain⟨L,e,h1⟩:=h;exact⟨L,e,ct.rel hk hl L h1⟩
 |_,_,.iface t v u hu,V,h=>by
  simp only[av]at h ⊢;obtain⟨U,e,h1⟩:=h;exact⟨U,e,Fz.rel hk hu U h1⟩
 |_,_,.func fn l m l' m' h1 h2,V,h=>by
  simp only[av]at h ⊢;obtain⟨A,C,e,q1,q2⟩:=h;exact⟨A,C,e,ct.rel hk h1 A q1,ct.rel hk h2 C q2⟩
 |_,_,.ip l m hl,V,h=>by
  simp only[av]at h ⊢;obtain⟨b,o,C,L,e,h1,h2,h3⟩:=h;exact⟨b,o,C,L,e,by simp only[Sg.frz];rw[h1],ct.rel hk hl L h2,h3⟩
 |_,_,.fz es full l m hl,V,h=>by
  have hlen:m.length=l.length:=ct.length hl;simp only[av]at h ⊢;obtain⟨a,cap,e,g1,g2,g4,g3⟩:=h;rw[hlen];refine⟨a,cap,e,g1,g2,g4,fun hx=>?_⟩;obtain⟨b,o,C,L,e1,h1,h2,h3⟩:=g3 hx;exact⟨b,o,C,L,e1,by simp only[Sg.frz];rw[h1],ct.rel hk hl L h2,h3⟩
 |_,_,.pin i o e n c opn esz cs ds hn hg hle eh hl,V,h=>by
  simp only[av]at h ⊢;obtain⟨b,hb,e1⟩:=h;obtain⟨C,fr,aF,jv,aK⟩:=Sk hk hn hg hb;obtain⟨L,r1,r2⟩:=KT aK hle eh;exact⟨b,o,C.toList,L,e1,jv,ct.rel hk hl L r1,r2⟩
 |_,_,.slz i o len cp op e n c opn esz es cs ds xs hn hg hle eh hl MP hlen,V,h=>by
  simp only[av]at h ⊢;obtain⟨b,hb,e1,gP⟩:=h;obtain⟨C,fr,aF,jv,aK⟩:=Sk hk hn hg hb;obtain⟨L,r1,r2⟩:=KT aK hle eh;obtain⟨XS,q1,q2⟩:=MP.rel (ct.rel hk hl L r1);refine⟨_,_,by rw[hlen];exact e1,by rw[hlen];exact gP,(fun hf=>by cases hf),(fun hf=>by cases hf),fun hx=>⟨b,o,C.toList,XS,rfl,jv,q1,?_⟩⟩;rw[r2]at q2;exact fL.of_take q2
theorem ct.rel (hk:Ok G τ g ny x):∀{l m:List AV},ct g nx l m→∀L,aC τ l L→aC (τ.frz x g nx) m L
 |_,_,.nil,L,h=>by simpa only[aC]using h
 |_,_,.cons v u l m h1 h2,L,h=>by
  simp only[aC]at h ⊢;obtain⟨V,L',e,q1,q2⟩:=h;exact⟨V,L',e,Fz.rel hk h1 V q1,ct.rel hk h2 L' q2⟩
end
mutual
theorem av.back (hk:Ok G σ h nx w)(hl:σ.Le τ):∀(v:AV)(V0 V:Value),av σ v V0→av τ v V→av (τ.frz x g nx) v V
 |.bool b,V0,V,_,h=>by simpa only[av]using h
 |.int k n,V0,V,_,h=>by simpa only[av]using h
 |.str l n,V0,V,_,h=>by simpa only[av]using h
 |.bs b,V0,V,_,h=>by simpa only[av]using h
 |.ptr0,V0,V,_,h=>by simpa only[av]using h
 |.sl0,V0,V,_,h=>by simpa only[av]using h
 |.map0,V0,V,_,h=>by simpa only[av]using h
 |.nilFunc,V0,V,_,h=>by simpa only[av]using h
 |.nilIface,V0,V,_,h=>by simpa only[av]using h
 |.opq n,V0,V,_,h=>by
  simp only[av]at h ⊢;exact h
 |.ptr i o,V0,V,h0,h=>by
  simp only[av]at h0 h ⊢;obtain⟨b0,fC,_⟩:=h0;obtain⟨b,hb,e⟩:=h;exact⟨b,by simp only[Sg.frz];rw[if_pos (hk.nlt fC)];exact hb,e⟩
 |.sl i o l cp opn,V0,V,h0,h=>by
  simp only[av]at h0 h ⊢;obtain⟨b0,fC,_⟩:=h0;obtain⟨b,hb,e⟩:=h;exact⟨b,by simp only[Sg.frz];rw[if_pos (hk.nlt fC)];exact hb,e⟩
 |.map i,V0,V,h0,h=>by
  simp only[av]at h0 h ⊢;obtain⟨b0,fC,_⟩:=h0;obtain⟨b,hb,e⟩:=h;exact⟨b,by simp only[Sg.frz];rw[if_pos (hk.nlt fC)];exact hb,e⟩
 |.yld i,V0,V,h0,h=>by
  simp only[av]at h0 h ⊢;obtain⟨b0,fC,_⟩:=h0;obtain⟨b,hb,e⟩:=h;exact⟨b,by simp only[Sg.frz];rw[if_pos (hk.nlt fC)];exact hb,e⟩
 |.agg l,V0,V,h0,h=>by
  simp only[av]at h0 h ⊢;obtain⟨L0,_,q0⟩:=h0;obtain⟨L,e,h1⟩:=h;exact⟨L,e,aC.back hk hl l L0 L q0 h1⟩
 |.tup l,V0,V,h0,h=>by
  simp only[av]at h0 h ⊢;obtain⟨L0,_,q0⟩:=h0;obtain⟨L,e,h1⟩:=h;exact⟨L,e,aC.back hk hl l L0 L q0 h1⟩
 |.iface t v,V0,V,h0,h=>by
  simp only[av]at h0 h ⊢;obtain⟨U0,_,q0⟩:=h0;obtain⟨U,e,h1⟩:=h;exact⟨U,e,av.back hk hl v U0 U q0 h1⟩
 |.func fn l m,V0,V,h0,h=>by
  simp only[av]at h0 h ⊢;obtain⟨A0,C0,_,p1,p2⟩:=h0;obtain⟨A,C,e,q1,q2⟩:=h;exact⟨A,C,e,aC.back hk hl l A0 A p1 q1,aC.back hk hl m C0 C p2 q2⟩
 |.ip l,V0,V,h0,h=>by
  simp only[av]at h0 h ⊢;obtain⟨_,_,_,L0,_,_,p2,_⟩:=h0;obtain⟨b,o,C,L,e,h1,h2,h3⟩:=h;exact⟨b,o,C,L,e,by simp only[Sg.frz];rw[h1],aC.back hk hl l L0 L p2 h2,h3⟩
 |.fz es full l,V0,V,h0,h=>by
  simp only[av]at h0 h ⊢;obtain⟨_,_,_,_,_,_,p3⟩:=h0;obtain⟨a,cap,e,g1,g2,g4,g3⟩:=h;refine⟨a,cap,e,g1,g2,g4,fun hx=>?_⟩;obtain⟨_,_,_,L0,_,_,p2,_⟩:=p3 hx;obtain⟨b,o,C,L,e1,h1,h2,h3⟩:=g3 hx;exact⟨b,o,C,L,e1,by simp only[Sg.frz];rw[h1],aC.back hk hl l L0 L p2 h2,h3⟩
theorem aC.back (hk:Ok G σ h nx w)(hl:σ.Le τ):∀(l:List AV)(L0 L:List Value),aC σ l L0→aC τ l L→aC (τ.frz x g nx) l L
 |[],L0,L,_,h=>by simpa only[aC]using h
 |v::l,L0,L,h0,h=>by
  simp only[aC]at h0 h ⊢;obtain⟨V0,L0',_,p1,p2⟩:=h0;obtain⟨V,L',e,q1,q2⟩:=h;exact⟨V,L',e,av.back hk hl v V0 V p1 q1,aC.back hk hl l L0' L' p2 q2⟩
end
theorem di.back (hk:Ok G σ h nx w)(hl:σ.Le τ):∀{l E0 E},di σ l E0→di τ l E→di (τ.frz x g nx) l E
 |[],E0,E,_,h=>h
 |(k,v,n)::l,E0,E,h0,h=>by
  simp only[di]at h0 h ⊢;obtain⟨K0,V0,E0',_,p1,p2,p3⟩:=h0;obtain⟨K,V,E',e,h1,h2,h3⟩:=h;exact⟨K,V,E',e,av.back hk hl k K0 K p1 h1,av.back hk hl v V0 V p2 h2,di.back hk hl p3 h3⟩
theorem bX.back (hk:Ok G σ h nx w)(hl:σ.Le τ){i:Nat}:∀{B o0 o},bX σ i B o0→bX τ i B o→bX (τ.frz x g nx) i B o
 |.cells e n c opn esz,o0,o,h0,h=>by
  simp only[bX]at h0 h ⊢;obtain⟨C0,_,_,p1,_,_⟩:=h0;obtain⟨C,fr,e,h1,h2,h3⟩:=h;refine⟨C,fr,e,fun k aU=>?_,h2,h3⟩;obtain⟨v0,V0,a1,a2,a3⟩:=p1 k aU;obtain⟨v,V,e1,e2,e3⟩:=h1 k aU;rw[a1]at e1;cases e1;exact⟨v0,V,a1,e2,av.back hk hl v0 V0 V a3 e3⟩
 |.map es cl,o0,o,h0,h=>by
  simp only[bX]at h0 h ⊢;obtain⟨E0,_,p1⟩:=h0;obtain⟨E,e,h1⟩:=h;exact⟨E,e,di.back hk hl p1 h1⟩
 |.loop st bh fn sz tm ps assign body db,o0,o,h0,h=>by
  simp only[bX]at h0 h ⊢;obtain⟨T0,d0,_,_,_,p2,p3⟩:=h0;obtain⟨T,d,nV,e,h1,h2,h3⟩:=h;exact⟨T,d,nV,e,h1,fun t v ht=>av.back hk hl v _ _ (p2 t v ht) (h2 t v ht),by simp only[Sg.frz];rw[if_pos (hk.nlt p3)];exact h3⟩
 |.dfr,o0,o,_,h=>by simpa only[bX]using h
 |.miter i since seen jg,o0,o,h0,h=>by
  simp only[bX]at h0 h ⊢;obtain⟨b0,p1,_⟩:=h0;obtain⟨b,h1,h2⟩:=h;exact⟨b,by simp only[Sg.frz];rw[if_pos (hk.nlt p1)];exact h1,h2⟩
 |.siter s pos,o0,o,_,h=>by simpa only[bX]using h
theorem Post.frz (hk:Ok G σ h nx w)(p:Post G σ h nx w τ g ny x)(he:∀i,i<nx→g.get i=h.get i):Post G σ h nx w (τ.frz x g nx) h nx x:=by
 have bA:∀i B,h.get i=some B→i<nx∧g.get i=some B:=fun i B hi=>⟨hk.lt hi,by rw[he i (hk.lt hi)];exact hi⟩;have hle:σ.Le (τ.frz x g nx):=by
  refine⟨fun i b hb=>?_,p.le.opq,fun b C hb=>?_⟩
  ·have:=p.le.blk i b hb;refine⟨?_,this.2⟩;simp only[Sg.frz];rw[if_pos (hk.nlt hb)];exact this.1
  ·simp only[Sg.frz];rw[p.le.imm b C hb]
 have zv:∀i b,i<nx→τ.blk i=some b→(τ.frz x g nx).blk i=some b:=fun i b hi hb=>by simp only[Sg.frz];rw[if_pos hi];exact hb
 have mE:∀i b,(τ.frz x g nx).blk i=some b→i<nx∧τ.blk i=some b:=fun i b hb=>by
  simp only[Sg.frz]at hb;split at hb
  ·exact⟨by assumption,hb⟩
  ·cases hb
 refine⟨⟨fun i hi=>(hle.blk i i (hk.glob i hi)).1,hk.le,fun i hi=>?_,fun i j b B B' h1 h2 h3 h4=>?_,fun i B h1=>?_,fun b C hb=>?_,fun i cs hi=>(hk.gl i cs hi).mono hle⟩,hle,⟨p.fr.os,p.fr.tape,p.fr.output,p.fr.size,p.fr.keep,fun i B b h1 h2=>?_,fun b C hb=>?_⟩,ae _⟩
 ·simp only[Sg.frz];rw[if_neg (by omega)]
 ·exact p.ok.inj i j b B B' (bA i B h1).2 (bA j B' h2).2 (mE i b h3).2 (mE j b h4).2
 ·obtain⟨b,o,q1,q2,q3⟩:=p.ok.blk i B (bA i B h1).2;obtain⟨b0,o0,r1,r2,r3⟩:=hk.blk i B h1;exact⟨b,o,zv i b (bA i B h1).1 q1,q2,r3.back hk p.le q3⟩
 ·have jv:(τ.imm b=some C)∨(τ.imm b=none∧∃i e n c opn esz,nx≤i∧g.get i=some (.cells e n c opn esz)∧τ.blk i=some b):=by
   simp only[Sg.frz]at hb;cases hi:τ.imm b with
   |some D=>rw[hi]at hb;exact .inl hb
   |none=>
    rw[hi]at hb;simp only at hb;split at hb
    ·exact .inr ⟨rfl,by assumption⟩
    ·cases hb
  rcases jv with hi |⟨_,i,e,n,c,opn,esz,h1,h2,h3⟩
  ·obtain⟨q1,q2⟩:=p.ok.imm b C hi;exact⟨q1,fun j B hj e=>q2 j B (bA j B hj).2 (mE j b e).2⟩
  ·obtain⟨D,fr,r1,r2,_⟩:=Sk (nx:=nx) p.ok h1 h2 h3;rw[hb]at r2;cases r2;refine⟨⟨e,fr,by simpa using r1⟩,fun j B hj e'=>?_⟩;have:=p.ok.inj j i b B _ (bA j B hj).2 h2 (mE j b e').2 h3;have:=(bA j B hj).1;omega
 ·exact .inr ⟨i,B,h1,by
   obtain⟨b0,o0,r1,_⟩:=hk.blk i B h1;have:=(p.le.blk i b0 r1).1;rw[(mE i b h2).2]at this;cases this;exact r1⟩
 ·simp only[Sg.frz]at hb;cases hi:τ.imm b with
  |some D=>rw[hi]at hb;cases hb;exact p.fr.imm b _ hi
  |none=>
   rw[hi]at hb;simp only at hb;split at hb
   ·rename_i hex;obtain⟨i,e,n,c,opn,esz,_,h2,h3⟩:=hex;exact .inr (p.fr.own i _ b h2 h3)
   ·cases hb
end
end
end Go.Ev
namespace Go.Ev
noncomputable section
variable {P : Program} {c : Cx} {h g : Tr ABlk} {nx ny sz : Nat}
def aA (nx:Nat)(h g:Tr ABlk):Prop:=∀i,i<nx→g.get i=h.get i
theorem aA.refl (nx:Nat)(h:Tr ABlk):aA nx h h:=fun _ _=>rfl
theorem aA.put {nx:Nat}{h g:Tr ABlk}(e:aA nx h g){i:Nat}(hi:nx≤i)(B:Option ABlk):aA nx h (g.put i B):=fun j hj=>by
 rw[Tr.get_put,if_neg (by omega)];exact e j hj
theorem aN.frz {f:FuncId}{args:List AV}{R:AV→Prop}(hc:aN P c f args h nx fun v g _=>aA nx h g∧∃u,Fz g nx v u∧R u):aN P c f args h nx fun v g ny=>R v∧g=h∧ny=nx:=by
 intro σ w A hk hA;refine(hc σ w A hk hA).mono fun V x q=>?_;obtain⟨τ,v,g,ny,q1,q2,q3,u,q4,q5⟩:=q;exact⟨τ.frz x g nx,u,h,nx,q4.rel q2.ok V q1,Post.frz hk q2 q3,q5,rfl,rfl⟩
def ay (P:Program)(c:Cx)(f:FuncId)(args:List AV)(u:AV):Prop:=∀h nx,aN P c f args h nx fun v g ny=>v=u∧g=h∧ny=nx
theorem ay.use {f:FuncId}{args:List AV}{u:AV}(hr:ay P c f args u){R:AV→Tr ABlk→Nat→Prop}(hR:R u h nx):aN P c f args h nx R:=
 (hr h nx).mono fun v g ny ⟨e1,e2,e3⟩=>by subst e1;subst e2;subst e3;exact hR
theorem ay.of {f:FuncId}{args:List AV}{u:AV}(hr:∀h nx,aN P c f args h nx fun v g _=>aA nx h g∧Fz g nx v u):ay P c f args u:=by
 intro h nx;have:=aN.frz (R:=fun v=>v=u) ((hr h nx).mono fun v g ny ⟨e,q⟩=>⟨e,u,q,rfl⟩);exact this
theorem ay.mk {f:FuncId}{args:List AV}{u:AV}(hr:∀h nx (R:AV→Tr ABlk→Nat→Prop),(∀v g ny,aA nx h g→Fz g nx v u→R v g ny)→aN P c f args h nx R):ay P c f args u:=
 ay.of fun h nx=>hr h nx _ fun _ _ _ h1 h2=>⟨h1,h2⟩
end
end Go.Ev
namespace Go.Ev
def fS (ops:Array Oper) (i j:Nat):Bool:=((ops[j]?).map (·.after.any fun e=>Region.binds .any e && e.on == i)).getD false
section
variable {P : Program} {F : Fence} {N : Nat} {ops : Array Oper} {Q : Exit → Act → World → Prop}
theorem Bg {l:Array Bool}{i:Nat}:i∈Region.ready .any ops l↔i<ops.size∧l.getD i true=false∧∀k,fS ops k i=true→l.getD k false=true:=by
 unfold Region.ready;rw[List.mem_filter,List.mem_range];constructor
 ·rintro⟨h1,h2⟩
  rw[al]at h2;refine⟨h1,by simpa using h2.1,fun k hk=>?_⟩;have ho:ops[i]?=some ops[i]:=Array.getElem?_eq_getElem h1;have h3:=h2.2;rw[ho]at h3;simp only[Option.map_some,Option.getD_some,Array.all_eq_true']at h3;unfold fS at hk;rw[ho]at hk;simp only[Option.map_some,Option.getD_some,Array.any_eq_true']at hk;obtain⟨e,he,hb⟩:=hk;rw[al]at hb;have:=h3 e he;rw[hb.1]at this;simp only[Bool.not_true,Bool.false_or]at this;have aU:e.on=k:=by simpa using hb.2
  rw[← aU];exact this
 ·rintro⟨h1,h2,h3⟩
  refine⟨h1,?_⟩;have ho:ops[i]?=some ops[i]:=Array.getElem?_eq_getElem h1;rw[al];refine⟨by simpa using h2,?_⟩;rw[ho];simp only[Option.map_some,Option.getD_some,Array.all_eq_true'];intro e he
  by_cases hb:Region.binds .any e=true
  ·rw[hb];simp only[Bool.not_true,Bool.false_or];refine h3 e.on ?_;unfold fS;rw[ho];simp only[Option.map_some,Option.getD_some,Array.any_eq_true'];exact⟨e,he,by simp[hb]⟩
  ·simp[hb]
def py (ops:Array Oper)(l:Array Bool):Prop:=∀j,l.getD j false=true→∀k,fS ops k j=true→l.getD k false=true
theorem yH {l:Array Bool}{i j:Nat}{d:Bool}(hi:i<l.size):(l.setIfInBounds i true).getD j d=if j=i then true else l.getD j d:=by
 simp only[Array.getD_eq_getD_getElem?,Array.getElem?_setIfInBounds]
 by_cases h:i=j
 ·subst h;simp[hi]
 ·have h':¬j=i:=fun e=>h e.symm;simp[h,h']
theorem KJ (I:Array Bool→Act→World→Prop)
  (step:∀l a w i,l.size=ops.size→I l a w→i∈Region.ready .any ops l→wpOpIn F N P ops Q i (I (l.setIfInBounds i true)) a w)
  (done:∀l a w,l.size=ops.size→I l a w→Region.ready .any ops l=[]→Q .normal a w):
  ∀(fuel:Nat) (l:Array Bool) (a:Act) (w:World),l.size=ops.size→(l.toList.count false≤fuel)→I l a w→wpAnyIn F N P .any ops Q fuel l a w:=by
 intro fuel
 induction fuel with
 |zero=>
  intro l a w hs hf hI;have hr:Region.ready .any ops l=[]:=by
   rw[List.eq_nil_iff_forall_not_mem];intro i hi;obtain⟨h1,h2,_⟩:=Bg.1 hi;have az:i<l.size:=by omega
   have E9:l[i]=false:=by simpa[Array.getD,az]using h2
   have hm:false∈l.toList:=by rw[← E9];simp
   have:=List.count_pos_iff.2 hm;omega
  exact⟨hr,done l a w hs hI hr⟩
 |succ fuel ih=>
  intro l a w hs hf hI;refine⟨fun hr=>done l a w hs hI hr,fun i hi=>?_⟩;refine wpOpIn_mono (fun a' w' hI'=>ih _ a' w' (by simpa using hs) ?_ hI') (step l a w i hs hI hi);obtain⟨h1,h2,_⟩:=Bg.1 hi;have az:i<l.size:=by omega
  have E9:l[i]=false:=by simpa[Array.getD,az]using h2
  have:(l.setIfInBounds i true).toList.count false+1=l.toList.count false:=by
   rw[Array.toList_setIfInBounds];rw[List.count_set (by simpa using az)];have e:l.toList[i]'(by simpa using az)=false:=by simpa using E9
   have cD:0<l.toList.count false:=List.count_pos_iff.2 (by rw[← e];exact ai _);rw[e];simp only[beq_self_eq_true,if_true];have e2:(true == false)=false:=rfl;rw[e2];simp only[Bool.false_eq_true,if_false];omega
  omega
theorem Lj {l:Array Bool}(hb:∀i,i<ops.size→∀k,fS ops k i=true→k<i)(hr:Region.ready .any ops l=[])(hs:l.size=ops.size):∀i,i<ops.size→l.getD i false=true:=by
 intro i
 induction i using Nat.strongRecOn with
 |_ i ih=>
  intro hi;cases hl:l.getD i false with
  |true=>rfl
  |false=>
   have az:i<l.size:=by omega
   have:i∈Region.ready .any ops l:=Bg.2 ⟨hi,by simpa[Array.getD,az]using hl,fun k hk=>ih k (hb i hi k hk) (by have:=hb i hi k hk;omega)⟩;rw[hr]at this;cases this
end
noncomputable section
variable {P : Program} {c : Cx} {σ τ υ : Sg} {h g f : Tr ABlk} {nx ny nz sz : Nat} {ds : List DE} {w x y : World} {tm tm' : Tr AV} {a : Act}
def eP (ops:List Oper)(o:Oper):List Tmp:=
 (o.op.operands.toList.filterMap fun |.tmp t=>some t |_=>none)++(match o.guard with
  |none=>[]
  |some (j,_)=>match ops[j]? with
   |some oj=>oj.dst.toList
   |none=>[])
def fX (l:List Tmp)(tm:Tr AV):Tr AV:=match l with
 |[]=>.nil
 |t::l=>(fX l tm).put t (tm.get t)
theorem Dw:∀(l:List Tmp)(tm:Tr AV)(t:Tmp),(fX l tm).get t=if t∈l then tm.get t else none
 |[],tm,t=>by simp[fX];rfl
 |u::l,tm,t=>by
  rw[fX,Tr.get_put,Dw l tm t]
  by_cases h1:t=u
  ·subst h1;simp
  ·simp[h1]
theorem zxr:∀{l:List Tmp},(∀t∈l,tm.get t=tm'.get t)→fX l tm=fX l tm'
 |[],_=>rfl
 |u::l,h=>by
  rw[fX,fX,h u (by simp),zxr fun t ht=>h t (by simp[ht])]
def gX (P:Program)(c:Cx)(r:Option Nat)(ops:Array Oper)(o:Oper)(v:AV)(tm:Tr AV)(h:Tr ABlk) (nx:Nat)(g:Tr ABlk) (ny:Nat):Prop:=
 ∀(σ:Sg) (a:Act) (w:World),Ok c.G σ h nx w→jQ σ tm a→∀(Q:Exit→Act→World→Prop) (K:Act→World→Prop),(∀τ x V,av τ v V→Post c.G σ h nx w τ g ny x→K (a.put o.dst V) x)→
  if Region.wanted o (yielded ops a.tmps) then o.wpIn (dD r) 0 P a w K Q else (∀f,o.about P w a.eval=some f→(dD r).fn f)∧K (a.put o.dst undef) w
def TL (ops:Array Oper)(v:Nat→AV)(tm:Tr AV)(l:Nat→Bool):Nat→Tr AV
 |0=>tm
 |i+1=>match l i with
  |false=>TL ops v tm l i
  |true=>match (ops[i]?).bind (·.dst) with
   |none=>TL ops v tm l i
   |some d=>(TL ops v tm l i).put d (some (v i))
theorem Da {ops:Array Oper}{v:Nat→AV}{l:Nat→Bool}{i:Nat}{t:Tmp}(h1:l i=true→(ops[i]?).bind (·.dst)≠some t):(TL ops v tm l (i+1)).get t=(TL ops v tm l i).get t:=by
 rw[TL];cases hl:l i with
 |false=>rfl
 |true=>
  simp only;cases hd:(ops[i]?).bind (·.dst) with
  |none=>rfl
  |some d=>
   simp only;rw[Tr.get_put,if_neg fun e=>h1 hl (by rw[hd,e])]
theorem Kb {ops:Array Oper}{v:Nat→AV}{l:Nat→Bool}{i:Nat}{t:Tmp}(hl:l i=true)(hd:(ops[i]?).bind (·.dst)=some t):(TL ops v tm l (i+1)).get t=some (v i):=by
 rw[TL,hl];simp only;rw[hd];simp only;rw[Tr.get_put,if_pos rfl]
theorem yV {ops:Array Oper}{v:Nat→AV}{l k:Nat→Bool}{t:Tmp}:∀(n:Nat),(∀j,j<n→(ops[j]?).bind (·.dst)=some t→l j=k j)→(TL ops v tm l n).get t=(TL ops v tm k n).get t
 |0,_=>rfl
 |n+1,hs=>by
  have ih:=yV (v:=v) (l:=l) (k:=k) (t:=t) n fun j hj hd=>hs j (by omega) hd
  by_cases hd:(ops[n]?).bind (·.dst)=some t
  ·have e:=hs n (by omega) hd;cases hl:l n with
   |true=>
    rw[hl]at e;rw[Kb hl hd,Kb e.symm hd]
   |false=>
    rw[hl]at e;rw[Da (by rw[hl];intro h;cases h),Da (by rw[← e];intro h;cases h),ih]
  ·rw[Da fun _=>hd,Da fun _=>hd,ih]
theorem yv {ops:Array Oper}{v:Nat→AV}{l:Nat→Bool}{t:Tmp}(m:Nat):∀(n:Nat),(∀j,m≤j→j<m+n→(ops[j]?).bind (·.dst)=some t→l j=false)→(TL ops v tm l (m+n)).get t=(TL ops v tm l m).get t
 |0,_=>rfl
 |n+1,hs=>by
  rw[show m+(n+1)=m+n+1 by omega,Da,yv m n fun j h1 h2 h3=>hs j h1 (by omega) h3];intro hl hd;rw[hs (m+n) (by omega) (by omega) hd]at hl;cases hl
structure Dr (P:Program)(c:Cx)(r:Option Nat) (sz:Nat)(ops:Array Oper)(S:Nat→Tr AV×Tr ABlk×Nat)(v:Nat→AV)(W:Nat→Bool)(bef:Nat→Nat→Bool):Prop where
 back:∀i,i<ops.size→∀k,fS ops k i=true→k<i
 befOk:∀i j,bef i j=true→∀l:Array Bool,py ops l→(∀k,fS ops k j=true→l.getD k false=true)→l.getD i false=true
 tmps:∀i j o p d,ops[i]?=some o→ops[j]?=some p→i≠j→p.dst=some d→(d∈eP ops.toList o∨o.dst=some d)→(j<i→bef j i=true)∧(i<j→bef i j=true)
 chain:∀i j,i<j→j<ops.size→W i=true→W j=true→bef i j=true
 step:∀i o,ops[i]?=some o→gX P c r ops o (v i) (fX (eP ops.toList o) (S i).1) (S i).2.1 (S i).2.2 (S (i+1)).2.1 (S (i+1)).2.2∧(∀d,o.dst=some d→d<sz)∧(S (i+1)).1=(match o.dst with |none=>(S i).1 |some d=>(S i).1.put d (some (v i)))
 keep:∀i,i<ops.size→W i=false→(S (i+1)).2=(S i).2
 dyn:∀i o,ops[i]?=some o→W i=false→∀p,p≤ops.size→(p=0∨W (p-1)=true)→(∀j,j<ops.size→W j=true→(bef j i=true→j<p)∧(bef i j=true→p≤j))→
  gX P c r ops o (v i) (fX (eP ops.toList o) (S i).1) (S p).2.1 (S p).2.2 (S p).2.1 (S p).2.2
section
variable {r : Option Nat} {ops : Array Oper} {S : Nat → Tr AV × Tr ABlk × Nat} {v : Nat → AV} {W : Nat → Bool} {bef : Nat → Nat → Bool}
theorem Dr.same (R:Dr P c r sz ops S v W bef) (p:Nat):∀(n:Nat),p+n≤ops.size→(∀j,p≤j→j<p+n→W j=false)→(S p).2=(S (p+n)).2
 |0,_,_=>rfl
 |n+1,hn,hw=>by
  rw[show p+(n+1)=p+n+1 by omega,R.keep (p+n) (by omega) (hw _ (by omega) (by omega))];exact R.same p n (by omega) fun j h1 h2=>hw j h1 (by omega)
theorem Dr.text (R:Dr P c r sz ops S v W bef):∀(i:Nat),i≤ops.size→∀t,(S i).1.get t=(TL ops v (S 0).1 (fun _=>true) i).get t
 |0,_,t=>rfl
 |i+1,hi,t=>by
  have e2:ops[i]?=some ops[i]:=Array.getElem?_eq_getElem (by omega);obtain⟨_,_,e5⟩:=R.step i _ e2;have ih:=R.text i (by omega) t;rw[e5]
  by_cases hd:(ops[i]).dst=some t
  ·rw[Kb rfl (by rw[e2];exact hd),hd];simp only;rw[Tr.get_put,if_pos rfl]
  ·rw[Da fun _=>by rw[e2];exact hd,← ih];cases EY:(ops[i]).dst with
   |none=>rfl
   |some d=>
    simp only;rw[Tr.get_put,if_neg fun e=>hd (by rw[EY,e])]
def lf (l:Array Bool) (i:Nat):Bool:=l.getD i false
structure DInv (c:Cx) (sz:Nat)(ops:Array Oper)(S:Nat→Tr AV×Tr ABlk×Nat)(v:Nat→AV)(W:Nat→Bool)(σ0:Sg)(w0:World)(D0:List Deferred)(l:Array Bool)(a:Act)(w:World):Prop where
 closed:py ops l
 inn:∀i,l.getD i false=true→i<ops.size
 pos:∃p σ,p≤ops.size∧(p=0∨W (p-1)=true)∧(∀j,j<ops.size→W j=true→(l.getD j false=true↔j<p))∧
  Post c.G σ0 (S 0).2.1 (S 0).2.2 w0 σ (S p).2.1 (S p).2.2 w∧jQ σ (TL ops v (S 0).1 (lf l) ops.size) a
 size:a.tmps.size=sz
 defers:a.defers=D0
theorem Dr.stepI (R:Dr P c r sz ops S v W bef){D0:List Deferred}{QQ:Exit→Act→World→Prop}{l:Array Bool}{a1:Act}{w1:World}{i:Nat}(hs:l.size=ops.size)(I:DInv c sz ops S v W σ w D0 l a1 w1)(cB:i<ops.size)(cI:l.getD i false=false)(bd:∀k,fS ops k i=true→l.getD k false=true):
  wpOpIn (dD r) 0 P ops QQ i (DInv c sz ops S v W σ w D0 (l.setIfInBounds i true)) a1 w1:=by
 obtain⟨o,e2⟩:∃o,ops[i]?=some o:=⟨_,Array.getElem?_eq_getElem cB⟩;obtain⟨e3,e4,e5⟩:=R.step i o e2;obtain⟨p,τ,hp,um,cD,bw,qP⟩:=I.pos;have bo:∀j,bef j i=true→l.getD j false=true:=fun j hj=>R.befOk j i hj l I.closed bd;have jb:∀j,bef i j=true→l.getD j false=false:=by
  intro j hj;cases hl:l.getD j false with
  |false=>rfl
  |true=>
   have:=R.befOk i j hj l I.closed fun k aU=>I.closed j hl k aU;rw[cI]at this;cases this
 have sc:∀(j:Nat) (t:Tmp),(ops[j]?).bind (fun q:Oper=>q.dst)=some t→∃p:Oper,ops[j]?=some p∧p.dst=some t:=by
  intro j t hj;cases vS:ops[j]? with
  |none=>rw[vS]at hj;cases hj
  |some q=>rw[vS]at hj;exact⟨q,rfl,hj⟩
 have qo:∀t∈eP ops.toList o,(S i).1.get t=(TL ops v (S 0).1 (lf l) ops.size).get t:=by
  intro t ht;rw[R.text i (by omega) t];have q1:=yv (tm:=(S 0).1) (ops:=ops) (v:=v) (l:=lf l) (t:=t) i (ops.size-i) fun j lG eK sj=>by
   obtain⟨q,uo,qm⟩:=sc j t sj
   by_cases eD:j=i
   ·subst eD;exact cI
   ·exact jb j ((R.tmps i j o q t e2 uo (fun e=>eD e.symm) qm (.inl ht)).2 (by omega))
  rw[show i+(ops.size-i)=ops.size by omega]at q1;rw[q1];refine yV i fun j hj sj=>?_;obtain⟨q,uo,qm⟩:=sc j t sj;exact(bo j ((R.tmps i j o q t e2 uo (by omega) qm (.inl ht)).1 hj)).symm
 have Oc:jQ τ (fX (eP ops.toList o) (S i).1) a1:=by
  rw[zxr qo];intro t u hu;rw[Dw]at hu;split at hu
  ·exact qP t u hu
  ·cases hu
 have iD:i<l.size:=by omega
 have bW:∀j,(l.setIfInBounds i true).getD j false=if j=i then true else l.getD j false:=fun j=>yH iD
 have dU:py ops (l.setIfInBounds i true):=by
  intro j hj k aU;rw[bW]at hj ⊢
  by_cases pZ:k=i
  ·rw[if_pos pZ]
  ·rw[if_neg pZ]
   by_cases eD:j=i
   ·subst eD;exact bd k aU
   ·rw[if_neg eD]at hj;exact I.closed j hj k aU
 have og:∀j,(l.setIfInBounds i true).getD j false=true→j<ops.size:=by
  intro j hj;rw[bW]at hj
  by_cases eD:j=i
  ·omega
  ·rw[if_neg eD]at hj;exact I.inn j hj
 have An:∀(υ:Sg) (V:Value),τ.Le υ→av υ (v i) V→jQ υ (TL ops v (S 0).1 (lf (l.setIfInBounds i true)) ops.size) (a1.put o.dst V):=by
  intro υ V hle hV t u hu;have aQ:∀t,o.dst≠some t→(TL ops v (S 0).1 (lf (l.setIfInBounds i true)) ops.size).get t=(TL ops v (S 0).1 (lf l) ops.size).get t:=by
   intro t hd;refine yV ops.size fun j hj sj=>?_;show (l.setIfInBounds i true).getD j false=l.getD j false;rw[bW]
   by_cases eD:j=i
   ·subst eD;rw[e2]at sj;exact absurd sj hd
   ·rw[if_neg eD]
  cases hd:o.dst with
  |none=>
   rw[aQ t (by rw[hd];intro e;cases e)]at hu;exact(qP t u hu).mono hle
  |some d=>
   have E6:d<a1.tmps.size:=by rw[I.size];exact e4 d hd
   by_cases mO:t=d
   ·subst mO;have q1:=yv (tm:=(S 0).1) (ops:=ops) (v:=v) (l:=lf (l.setIfInBounds i true)) (t:=t) (i+1) (ops.size-(i+1)) fun j lG eK sj=>by
     obtain⟨q,uo,qm⟩:=sc j t sj;show (l.setIfInBounds i true).getD j false=false;rw[bW,if_neg (by omega)];exact jb j ((R.tmps i j o q t e2 uo (by omega) qm (.inr hd)).2 (by omega))
    rw[show i+1+(ops.size-(i+1))=ops.size by omega]at q1;rw[q1,Kb (show (l.setIfInBounds i true).getD i false=true by rw[bW,if_pos rfl]) (by rw[e2];exact hd)]at hu;cases hu;simpa[Act.put,Array.getD_eq_getD_getElem?,E6]using hV
   ·rw[aQ t (by rw[hd];intro e;cases e;exact mO rfl)]at hu;have:=(qP t u hu).mono hle;simpa[Act.put,Array.getD_eq_getD_getElem?,Array.getElem?_setIfInBounds,Ne.symm mO]using this
 have bI:∀V:Value,(a1.put o.dst V).tmps.size=sz:=by
  intro V;cases hd:o.dst with
  |none=>exact I.size
  |some d=>simpa[Act.put]using I.size
 have qL:∀V:Value,(a1.put o.dst V).defers=D0:=by
  intro V;cases hd:o.dst with
  |none=>exact I.defers
  |some d=>exact I.defers
 have fin:∀(p':Nat),gX P c r ops o (v i) (fX (eP ops.toList o) (S i).1) (S p).2.1 (S p).2.2 (S p').2.1 (S p').2.2→
   (p'≤ops.size∧(p'=0∨W (p'-1)=true)∧(∀j,j<ops.size→W j=true→((l.setIfInBounds i true).getD j false=true↔j<p')))→
   wpOpIn (dD r) 0 P ops QQ i (DInv c sz ops S v W σ w D0 (l.setIfInBounds i true)) a1 w1:=by
  intro p' eF fW;obtain⟨nU,BR,SN⟩:=fW;unfold wpOpIn;rw[e2];exact eF τ a1 w1 bw.ok Oc QQ (DInv c sz ops S v W σ w D0 (l.setIfInBounds i true)) (fun υ x V hV hP=>
   ⟨dU,og,⟨p',υ,nU,BR,SN,bw.trans hP,An υ V hP.le hV⟩,bI V,qL V⟩)
 cases hW:W i with
 |false=>
  have hvalid:∀j,j<ops.size→W j=true→(bef j i=true→j<p)∧(bef i j=true→p≤j):=by
   intro j hj hw;refine⟨fun hb=>(cD j hj hw).1 (bo j hb),fun hb=>?_⟩;have:=jb j hb
   rcases Nat.lt_or_ge j p with h5 |h5
   ·rw[(cD j hj hw).2 h5]at this;cases this
   ·exact h5
  refine fin p (R.dyn i o e2 hW p hp um hvalid) ⟨hp,um,fun j hj hw=>?_⟩;rw[bW]
  by_cases eD:j=i
  ·subst eD;rw[hW]at hw;cases hw
  ·rw[if_neg eD];exact cD j hj hw
 |true=>
  have kO:¬i<p:=fun hh=>by
   have:=(cD i cB hW).2 hh;rw[cI]at this;cases this
  have oh:∀j,p≤j→j<p+(i-p)→W j=false:=by
   intro j h5 h6;cases hw:W j with
   |false=>rfl
   |true=>
    have:=(cD j (by omega) hw).1 (bo j (R.chain j i (by omega) cB hw hW));omega
  have cF:=R.same p (i-p) (by omega) oh;rw[Nat.add_sub_cancel' (by omega)]at cF;have eF:gX P c r ops o (v i) (fX (eP ops.toList o) (S i).1) (S p).2.1 (S p).2.2 (S (i+1)).2.1 (S (i+1)).2.2:=by
   rw[cF];exact e3
  refine fin (i+1) eF ⟨by omega,.inr hW,fun j hj hw=>?_⟩;rw[bW]
  by_cases eD:j=i
  ·subst eD;simp
  ·rw[if_neg eD];constructor
   ·intro hl
    rcases Nat.lt_or_ge j i with h5 |h5
    ·omega
    ·have:=jb j (R.chain i j (by omega) hj hW hw);rw[hl]at this;cases this
   ·intro h5;exact bo j (R.chain j i (by omega) cB hw hW)
theorem Zu (hm:P.follows .mixedOrders=true)(R:Dr P c r sz ops S v W bef)(hk:Ok c.G σ (S 0).2.1 (S 0).2.2 w)(st:St σ (S 0).1 a sz ds) (id:Nat){Q:AX→AS→Prop}(hQ0:Q .norm (.mk (S ops.size).1 (S ops.size).2.1 (S ops.size).2.2 ds)):
  (Code.region id ops true).wpIn (dD r) 0 P (AQ c.G σ (S 0).2.1 (S 0).2.2 w sz Q) a w:=by
 refine wpIn_region_any hm ?_;have iQ:=Post.drawn hk (w.drawn+1);generalize hQ:AQ c.G σ (S 0).2.1 (S 0).2.2 w sz Q=QQ;have dA:∀i,(Array.replicate ops.size false).getD i false=false:=by
  intro i;simp only[Array.getD_eq_getD_getElem?,Array.getElem?_replicate];split <;> rfl
 have hwf:∀(l:Array Bool) (i:Nat),l.size=ops.size→i∈Region.ready .any ops l→i<ops.size∧l.getD i false=false∧∀k,fS ops k i=true→l.getD k false=true:=by
  intro l i hs hi;obtain⟨h1,h2,h3⟩:=Bg.1 hi;have az:i<l.size:=by omega
  exact⟨h1,by simpa[Array.getD,az]using h2,h3⟩
 refine KJ (DInv c sz ops S v W σ w a.defers) ?step ?done ops.size _ a _ (by simp) ?count ?init
 case count=>
  simp
 case init=>
  refine⟨(fun j hj=>by rw[dA]at hj;cases hj),(fun i hi=>by rw[dA]at hi;cases hi),⟨0,σ,by omega,.inl rfl,(fun j _ _=>⟨(fun e=>by rw[dA]at e;cases e),(fun e=>by omega)⟩),iQ,?_⟩,st.size,rfl⟩;intro t u e;have:(TL ops v (S 0).1 (lf (Array.replicate ops.size false)) ops.size).get t=(S 0).1.get t:=by
   have:=yv (tm:=(S 0).1) (ops:=ops) (v:=v) (l:=lf (Array.replicate ops.size false)) (t:=t) 0 ops.size fun j _ _ _=>dA j;rw[Nat.zero_add]at this;exact this
  rw[this]at e;exact st.tm t u e
 case done=>
  intro l a1 w1 hs I hr;have aR:=Lj R.back hr hs;obtain⟨p,τ,hp,um,cD,bw,qP⟩:=I.pos;have oh:∀j,p≤j→j<p+(ops.size-p)→W j=false:=by
   intro j h1 h2;cases hw:W j with
   |false=>rfl
   |true=>
    have:=(cD j (by omega) hw).1 (aR j (by omega));omega
  have cF:=R.same p (ops.size-p) (by omega) oh;rw[Nat.add_sub_cancel' hp]at cF;rw[← hQ];refine⟨.norm,_,_,_,ds,τ,rfl,?_,⟨?_,I.size,?_⟩,hQ0⟩
  ·rw[cF]at bw;exact bw
  ·intro t u e;refine qP t u ?_;rw[R.text ops.size (ae _) t]at e;rw[← e];exact yV ops.size fun j hj _=>aR j hj
  ·rw[I.defers];exact st.defers.mono bw.le
 case step=>
  intro l a1 w1 i hs I hi;obtain⟨cB,cI,bd⟩:=hwf l i hs hi;exact R.stepI hs I cB cI bd
end
end
end Go.Ev
