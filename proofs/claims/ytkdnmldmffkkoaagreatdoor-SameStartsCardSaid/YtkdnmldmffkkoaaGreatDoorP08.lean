/- Texts W4 DR. -/
import Derived.OrdersIn
import Derived.Test.YtkdnmldmffkkoaaGreatDoorP07
set_option linter.unusedSimpArgs false
set_option linter.unusedVariables false
set_option maxRecDepth 100000
namespace Go.Ev
noncomputable section
variable {P : Program} {c : Cx} {σ τ υ : Sg} {h g f : Tr ABlk} {nx ny nz sz : Nat} {ds : List DE} {w x y : World} {tm : Tr AV} {a : Act}
theorem Ok.nlt {G:Gl}(hk:Ok G σ h nx w){i b:Nat}(hb:σ.blk i=some b):i<nx:=by
 rcases Nat.lt_or_ge i nx with h1 |h1
 ·exact h1
 ·rw[hk.fresh i h1]at hb;cases hb
def zfr (es:Nat):List AV→List AV→Prop
 |[],D=>D=[]
 |v::l,D=>∃d D',D=d++D'∧v.cells=d∧d.length=es∧(v=.agg d∨v.one=true)∧zfr es l D'
mutual
inductive Fz (g:Tr ABlk) (nx:Nat):AV→AV→Prop
 |bool (b:Bool):Fz g nx (.bool b) (.bool b)
 |int (k:IntKind) (n:Int):Fz g nx (.int k n) (.int k n)
 |str (l n:Nat):Fz g nx (.str l n) (.str l n)
 |bs (b:ByteArray):Fz g nx (.bs b) (.bs b)
 |ptr0:Fz g nx .ptr0 .ptr0
 |sl0:Fz g nx .sl0 .sl0
 |map0:Fz g nx .map0 .map0
 |nilFunc:Fz g nx .nilFunc .nilFunc
 |nilIface:Fz g nx .nilIface .nilIface
 |opq (n:Nat):Fz g nx (.opq n) (.opq n)
 |ptr (i o:Nat):i<nx→Fz g nx (.ptr i o) (.ptr i o)
 |sl (i o l cp:Nat) (opn:Bool):i<nx→Fz g nx (.sl i o l cp opn) (.sl i o l cp opn)
 |map (i:Nat):i<nx→Fz g nx (.map i) (.map i)
 |yld (i:Nat):i<nx→Fz g nx (.yld i) (.yld i)
 |agg (l m:List AV):FzL g nx l m→Fz g nx (.agg l) (.agg m)
 |tup (l m:List AV):FzL g nx l m→Fz g nx (.tup l) (.tup m)
 |iface (t:TypeId) (v u:AV):Fz g nx v u→Fz g nx (.iface t v) (.iface t u)
 |func (fn:FuncId) (l m l' m':List AV):FzL g nx l m→FzL g nx l' m'→Fz g nx (.func fn l l') (.func fn m m')
 |ip (l m:List AV):FzL g nx l m→Fz g nx (.ip l) (.ip m)
 |fz (es:Nat) (full:Bool) (l m:List AV):FzL g nx l m→Fz g nx (.fz es full l) (.fz es full m)
 |pin (i o e n:Nat) (c:Tr AV) (opn:Bool) (esz:Nat) (cs ds:List AV):nx≤i→g.get i=some (.cells e n c opn esz)→o+cs.length≤n→(∀j,j<cs.length→c.get (o+j)=cs[j]?)→FzL g nx cs ds→Fz g nx (.ptr i o) (.ip ds)
 |slz (i o len cp:Nat) (op:Bool) (e n:Nat) (c:Tr AV) (opn:Bool) (esz es:Nat) (cs ds xs:List AV):nx≤i→g.get i=some (.cells e n c opn esz)→o+cs.length≤n→(∀j,j<cs.length→c.get (o+j)=cs[j]?)→FzL g nx cs ds→zfr es xs ds→xs.length=len→Fz g nx (.sl i o len cp op) (.fz es false xs)
inductive FzL (g:Tr ABlk) (nx:Nat):List AV→List AV→Prop
 |nil:FzL g nx [] []
 |cons (v u:AV) (l m:List AV):Fz g nx v u→FzL g nx l m→FzL g nx (v::l) (u::m)
end
open Classical in
def Sg.frz (τ:Sg)(x:World)(g:Tr ABlk) (nx:Nat):Sg where
 blk:=fun i=>if i<nx then τ.blk i else none
 cap:=τ.cap
 opq:=τ.opq
 imm:=fun b=>match τ.imm b with
  |some C=>some C
  |none=>if ∃i e n c opn esz,nx≤i∧g.get i=some (.cells e n c opn esz)∧τ.blk i=some b then (match x.heap[b]? with |some (.cells C _ _)=>some C.toList |_=>none) else none
theorem Rel.one_cells {v:AV}{V:Value}(hr:Rel σ v V)(h1:v.one=true):V.cells=#[V]:=by
 have:=hr.one h1
 cases V <;> first |rfl |(simp[Value.oneCell']at this)
theorem zfr.rel {es:Nat}:∀{xs D:List AV}{L:List Value},zfr es xs D→za1 υ D L→∃XS,za1 υ xs XS∧zau es XS L
 |[],D,L,h,hr=>⟨[],by simp only[za1],trivial⟩
 |v::l,D,L,h,hr=>by
  obtain⟨d,D',e,h1,h2,h3,h4⟩:=h
  subst e
  have hd:za1 υ d (L.take es):=by
   have:=hr.take d.length
   rw[List.take_left,h2]at this
   exact this
  have hd':za1 υ D' (L.drop es):=by
   have:=hr.drop d.length
   rw[List.drop_left,h2]at this
   exact this
  obtain⟨XS,q1,q2⟩:=zfr.rel h4 hd'
  have hlen:(L.take es).length=es:=by rw[hd.length,h2]
  rcases h3 with h3 |h3
  ·refine⟨.agg (L.take es).toArray::XS,?_,?_⟩
   ·simp only[za1]
    exact⟨_,_,rfl,by rw[h3];simp only[Rel];exact⟨_,rfl,hd⟩,q1⟩
   ·exact⟨by simp[Value.cells],by simp[Value.cells];rw[List.length_take]at hlen;exact hlen,q2⟩
  ·have hc:v.cells=[v]:=by cases v <;> first |rfl |(simp[AV.one]at h3)
   rw[hc]at h1
   subst h1
   simp only[za1]at hd
   obtain⟨V,L',e1,e2,e3⟩:=hd
   subst e3
   refine⟨V::XS,by simp only[za1];exact⟨_,_,rfl,e2,q1⟩,?_⟩
   have:=e2.one_cells h3
   refine⟨by rw[this,e1],?_,q2⟩
   rw[this]
   simpa using h2
theorem FzL.length:∀{l m:List AV},FzL g nx l m→m.length=l.length
 |_,_,.nil=>rfl
 |_,_,.cons v u l m _ h2=>by simp[FzL.length h2]
theorem zau.of_take {es:Nat}:∀{L D:List Value}{n:Nat},zau es L (D.take n)→zau es L D
 |[],D,n,_=>trivial
 |X::L,D,n,h=>by
  simp only[zau]at h ⊢
  obtain⟨h1,h2,h3⟩:=h
  have hl:((D.take n).take es).length=es:=by rw[← h1,Array.length_toList,h2]
  simp only[List.length_take]at hl
  have hn:es≤n:=by omega
  rw[List.take_take,Nat.min_eq_left hn]at h1
  rw[List.drop_take]at h3
  exact⟨h1,h2,h3.of_take⟩
section
variable {G : Gl}
theorem zwl (hk:Ok G τ g ny x){i e n esz b:Nat}{c:Tr AV}{opn:Bool}(hn:nx≤i)(hg:g.get i=some (.cells e n c opn esz))(hb:τ.blk i=some b):
  ∃C fr,x.heap[b]?=some (.cells C e fr)∧(τ.frz x g nx).imm b=some C.toList∧∀k,k<n→∃v V,c.get k=some v∧C[k]?=some V∧Rel τ v V:=by
 obtain⟨b',C,fr,hb',hheap,hcell,_,_⟩:=hk.cells hg
 rw[hb]at hb'
 cases hb'
 refine⟨C,fr,hheap,?_,hcell⟩
 have hno:τ.imm b=none:=by
  cases hi:τ.imm b with
  |none=>rfl
  |some D=>exact absurd hb ((hk.imm b D hi).2 i _ hg)
 show (match τ.imm b with |some C=>some C |none=>_)=_
 rw[hno]
 simp only
 rw[if_pos ⟨i,e,n,c,opn,esz,hn,hg,hb⟩,hheap]
theorem zrb {c:Tr AV}{C:Array Value}{n o:Nat}{cs:List AV}(hcell:∀k,k<n→∃v V,c.get k=some v∧C[k]?=some V∧Rel τ v V)(hle:o+cs.length≤n)(hcs:∀j,j<cs.length→c.get (o+j)=cs[j]?):
  ∃L,za1 τ cs L∧L=(C.toList.drop o).take L.length:=by
 have hl:((C.toList.drop o).take cs.length).length=cs.length:=by
  simp only[List.length_take,List.length_drop,Array.length_toList]
  rcases Nat.eq_zero_or_pos cs.length with e |e
  ·omega
  ·obtain⟨_,V,_,h2,_⟩:=hcell (o+cs.length-1) (by omega)
   have:=(Array.getElem?_eq_some_iff.1 h2).1
   omega
 refine⟨(C.toList.drop o).take cs.length,za1.of_get hl fun k v V h1 h2=>?_,by rw[hl]⟩
 have hk:k<cs.length:=(List.getElem?_eq_some_iff.1 h1).1
 obtain⟨v',V',e1,e2,e3⟩:=hcell (o+k) (by omega)
 rw[hcs k hk,h1]at e1
 cases e1
 rw[List.getElem?_take,if_pos hk,List.getElem?_drop,Array.getElem?_toList,e2]at h2
 cases h2
 exact e3
mutual
theorem Fz.rel (hk:Ok G τ g ny x):∀{v u:AV},Fz g nx v u→∀V,Rel τ v V→Rel (τ.frz x g nx) u V
 |_,_,.bool b,V,h=>by simpa only[Rel]using h
 |_,_,.int k n,V,h=>by simpa only[Rel]using h
 |_,_,.str l n,V,h=>by simpa only[Rel]using h
 |_,_,.bs b,V,h=>by simpa only[Rel]using h
 |_,_,.ptr0,V,h=>by simpa only[Rel]using h
 |_,_,.sl0,V,h=>by simpa only[Rel]using h
 |_,_,.map0,V,h=>by simpa only[Rel]using h
 |_,_,.nilFunc,V,h=>by simpa only[Rel]using h
 |_,_,.nilIface,V,h=>by simpa only[Rel]using h
 |_,_,.opq n,V,h=>by
  simp only[Rel]at h ⊢
  exact h
 |_,_,.ptr i o hi,V,h=>by
  simp only[Rel]at h ⊢
  obtain⟨b,hb,e⟩:=h
  exact⟨b,by simp only[Sg.frz];rw[if_pos hi];exact hb,e⟩
 |_,_,.sl i o l cp opn hi,V,h=>by
  simp only[Rel]at h ⊢
  obtain⟨b,hb,e⟩:=h
  exact⟨b,by simp only[Sg.frz];rw[if_pos hi];exact hb,e⟩
 |_,_,.map i hi,V,h=>by
  simp only[Rel]at h ⊢
  obtain⟨b,hb,e⟩:=h
  exact⟨b,by simp only[Sg.frz];rw[if_pos hi];exact hb,e⟩
 |_,_,.yld i hi,V,h=>by
  simp only[Rel]at h ⊢
  obtain⟨b,hb,e⟩:=h
  exact⟨b,by simp only[Sg.frz];rw[if_pos hi];exact hb,e⟩
 |_,_,.agg l m hl,V,h=>by
  simp only[Rel]at h ⊢
  obtain⟨L,e,h1⟩:=h
  exact⟨L,e,FzL.rel hk hl L h1⟩
 |_,_,.tup l m hl,V,h=>by
  simp only[Rel]at h ⊢
  obtain⟨L,e,h1⟩:=h
  exact⟨L,e,FzL.rel hk hl L h1⟩
 |_,_,.iface t v u hu,V,h=>by
  simp only[Rel]at h ⊢
  obtain⟨U,e,h1⟩:=h
  exact⟨U,e,Fz.rel hk hu U h1⟩
 |_,_,.func fn l m l' m' h1 h2,V,h=>by
  simp only[Rel]at h ⊢
  obtain⟨A,C,e,q1,q2⟩:=h
  exact⟨A,C,e,FzL.rel hk h1 A q1,FzL.rel hk h2 C q2⟩
 |_,_,.ip l m hl,V,h=>by
  simp only[Rel]at h ⊢
  obtain⟨b,o,C,L,e,h1,h2,h3⟩:=h
  exact⟨b,o,C,L,e,by simp only[Sg.frz];rw[h1],FzL.rel hk hl L h2,h3⟩
 |_,_,.fz es full l m hl,V,h=>by
  have hlen:m.length=l.length:=FzL.length hl
  simp only[Rel]at h ⊢
  obtain⟨a,cap,e,g1,g2,g4,g3⟩:=h
  rw[hlen]
  refine⟨a,cap,e,g1,g2,g4,fun hx=>?_⟩
  obtain⟨b,o,C,L,e1,h1,h2,h3⟩:=g3 hx
  exact⟨b,o,C,L,e1,by simp only[Sg.frz];rw[h1],FzL.rel hk hl L h2,h3⟩
 |_,_,.pin i o e n c opn esz cs ds hn hg hle hcs hl,V,h=>by
  simp only[Rel]at h ⊢
  obtain⟨b,hb,e1⟩:=h
  obtain⟨C,fr,hheap,himm,hcell⟩:=zwl hk hn hg hb
  obtain⟨L,r1,r2⟩:=zrb hcell hle hcs
  exact⟨b,o,C.toList,L,e1,himm,FzL.rel hk hl L r1,r2⟩
 |_,_,.slz i o len cp op e n c opn esz es cs ds xs hn hg hle hcs hl hch hlen,V,h=>by
  simp only[Rel]at h ⊢
  obtain⟨b,hb,e1,hlc⟩:=h
  obtain⟨C,fr,hheap,himm,hcell⟩:=zwl hk hn hg hb
  obtain⟨L,r1,r2⟩:=zrb hcell hle hcs
  obtain⟨XS,q1,q2⟩:=hch.rel (FzL.rel hk hl L r1)
  refine⟨_,_,by rw[hlen];exact e1,by rw[hlen];exact hlc,(fun hf=>by cases hf),(fun hf=>by cases hf),fun hx=>⟨b,o,C.toList,XS,rfl,himm,q1,?_⟩⟩
  rw[r2]at q2
  exact zau.of_take q2
theorem FzL.rel (hk:Ok G τ g ny x):∀{l m:List AV},FzL g nx l m→∀L,za1 τ l L→za1 (τ.frz x g nx) m L
 |_,_,.nil,L,h=>by simpa only[za1]using h
 |_,_,.cons v u l m h1 h2,L,h=>by
  simp only[za1]at h ⊢
  obtain⟨V,L',e,q1,q2⟩:=h
  exact⟨V,L',e,Fz.rel hk h1 V q1,FzL.rel hk h2 L' q2⟩
end
mutual
theorem Rel.back (hk:Ok G σ h nx w)(hl:σ.Le τ):∀(v:AV)(V0 V:Value),Rel σ v V0→Rel τ v V→Rel (τ.frz x g nx) v V
 |.bool b,V0,V,_,h=>by simpa only[Rel]using h
 |.int k n,V0,V,_,h=>by simpa only[Rel]using h
 |.str l n,V0,V,_,h=>by simpa only[Rel]using h
 |.bs b,V0,V,_,h=>by simpa only[Rel]using h
 |.ptr0,V0,V,_,h=>by simpa only[Rel]using h
 |.sl0,V0,V,_,h=>by simpa only[Rel]using h
 |.map0,V0,V,_,h=>by simpa only[Rel]using h
 |.nilFunc,V0,V,_,h=>by simpa only[Rel]using h
 |.nilIface,V0,V,_,h=>by simpa only[Rel]using h
 |.opq n,V0,V,_,h=>by
  simp only[Rel]at h ⊢
  exact h
 |.ptr i o,V0,V,h0,h=>by
  simp only[Rel]at h0 h ⊢
  obtain⟨b0,hb0,_⟩:=h0
  obtain⟨b,hb,e⟩:=h
  exact⟨b,by simp only[Sg.frz];rw[if_pos (hk.nlt hb0)];exact hb,e⟩
 |.sl i o l cp opn,V0,V,h0,h=>by
  simp only[Rel]at h0 h ⊢
  obtain⟨b0,hb0,_⟩:=h0
  obtain⟨b,hb,e⟩:=h
  exact⟨b,by simp only[Sg.frz];rw[if_pos (hk.nlt hb0)];exact hb,e⟩
 |.map i,V0,V,h0,h=>by
  simp only[Rel]at h0 h ⊢
  obtain⟨b0,hb0,_⟩:=h0
  obtain⟨b,hb,e⟩:=h
  exact⟨b,by simp only[Sg.frz];rw[if_pos (hk.nlt hb0)];exact hb,e⟩
 |.yld i,V0,V,h0,h=>by
  simp only[Rel]at h0 h ⊢
  obtain⟨b0,hb0,_⟩:=h0
  obtain⟨b,hb,e⟩:=h
  exact⟨b,by simp only[Sg.frz];rw[if_pos (hk.nlt hb0)];exact hb,e⟩
 |.agg l,V0,V,h0,h=>by
  simp only[Rel]at h0 h ⊢
  obtain⟨L0,_,q0⟩:=h0
  obtain⟨L,e,h1⟩:=h
  exact⟨L,e,za1.back hk hl l L0 L q0 h1⟩
 |.tup l,V0,V,h0,h=>by
  simp only[Rel]at h0 h ⊢
  obtain⟨L0,_,q0⟩:=h0
  obtain⟨L,e,h1⟩:=h
  exact⟨L,e,za1.back hk hl l L0 L q0 h1⟩
 |.iface t v,V0,V,h0,h=>by
  simp only[Rel]at h0 h ⊢
  obtain⟨U0,_,q0⟩:=h0
  obtain⟨U,e,h1⟩:=h
  exact⟨U,e,Rel.back hk hl v U0 U q0 h1⟩
 |.func fn l m,V0,V,h0,h=>by
  simp only[Rel]at h0 h ⊢
  obtain⟨A0,C0,_,p1,p2⟩:=h0
  obtain⟨A,C,e,q1,q2⟩:=h
  exact⟨A,C,e,za1.back hk hl l A0 A p1 q1,za1.back hk hl m C0 C p2 q2⟩
 |.ip l,V0,V,h0,h=>by
  simp only[Rel]at h0 h ⊢
  obtain⟨_,_,_,L0,_,_,p2,_⟩:=h0
  obtain⟨b,o,C,L,e,h1,h2,h3⟩:=h
  exact⟨b,o,C,L,e,by simp only[Sg.frz];rw[h1],za1.back hk hl l L0 L p2 h2,h3⟩
 |.fz es full l,V0,V,h0,h=>by
  simp only[Rel]at h0 h ⊢
  obtain⟨_,_,_,_,_,_,p3⟩:=h0
  obtain⟨a,cap,e,g1,g2,g4,g3⟩:=h
  refine⟨a,cap,e,g1,g2,g4,fun hx=>?_⟩
  obtain⟨_,_,_,L0,_,_,p2,_⟩:=p3 hx
  obtain⟨b,o,C,L,e1,h1,h2,h3⟩:=g3 hx
  exact⟨b,o,C,L,e1,by simp only[Sg.frz];rw[h1],za1.back hk hl l L0 L p2 h2,h3⟩
theorem za1.back (hk:Ok G σ h nx w)(hl:σ.Le τ):∀(l:List AV)(L0 L:List Value),za1 σ l L0→za1 τ l L→za1 (τ.frz x g nx) l L
 |[],L0,L,_,h=>by simpa only[za1]using h
 |v::l,L0,L,h0,h=>by
  simp only[za1]at h0 h ⊢
  obtain⟨V0,L0',_,p1,p2⟩:=h0
  obtain⟨V,L',e,q1,q2⟩:=h
  exact⟨V,L',e,Rel.back hk hl v V0 V p1 q1,za1.back hk hl l L0' L' p2 q2⟩
end
theorem zb4.back (hk:Ok G σ h nx w)(hl:σ.Le τ):∀{l E0 E},zb4 σ l E0→zb4 τ l E→zb4 (τ.frz x g nx) l E
 |[],E0,E,_,h=>h
 |(k,v,n)::l,E0,E,h0,h=>by
  simp only[zb4]at h0 h ⊢
  obtain⟨K0,V0,E0',_,p1,p2,p3⟩:=h0
  obtain⟨K,V,E',e,h1,h2,h3⟩:=h
  exact⟨K,V,E',e,Rel.back hk hl k K0 K p1 h1,Rel.back hk hl v V0 V p2 h2,zb4.back hk hl p3 h3⟩
theorem zao.back (hk:Ok G σ h nx w)(hl:σ.Le τ){i:Nat}:∀{B o0 o},zao σ i B o0→zao τ i B o→zao (τ.frz x g nx) i B o
 |.cells e n c opn esz,o0,o,h0,h=>by
  simp only[zao]at h0 h ⊢
  obtain⟨C0,_,_,p1,_,_⟩:=h0
  obtain⟨C,fr,e,h1,h2,h3⟩:=h
  refine⟨C,fr,e,fun k hk'=>?_,h2,h3⟩
  obtain⟨v0,V0,a1,a2,a3⟩:=p1 k hk'
  obtain⟨v,V,e1,e2,e3⟩:=h1 k hk'
  rw[a1]at e1
  cases e1
  exact⟨v0,V,a1,e2,Rel.back hk hl v0 V0 V a3 e3⟩
 |.map es cl,o0,o,h0,h=>by
  simp only[zao]at h0 h ⊢
  obtain⟨E0,_,p1⟩:=h0
  obtain⟨E,e,h1⟩:=h
  exact⟨E,e,zb4.back hk hl p1 h1⟩
 |.loop st pend fn sz tm ps assign body db,o0,o,h0,h=>by
  simp only[zao]at h0 h ⊢
  obtain⟨T0,d0,_,_,_,p2,p3⟩:=h0
  obtain⟨T,d,fn',e,h1,h2,h3⟩:=h
  exact⟨T,d,fn',e,h1,fun t v ht=>Rel.back hk hl v _ _ (p2 t v ht) (h2 t v ht),by simp only[Sg.frz];rw[if_pos (hk.nlt p3)];exact h3⟩
 |.dfr,o0,o,_,h=>by simpa only[zao]using h
 |.miter i since seen stepped,o0,o,h0,h=>by
  simp only[zao]at h0 h ⊢
  obtain⟨b0,p1,_⟩:=h0
  obtain⟨b,h1,h2⟩:=h
  exact⟨b,by simp only[Sg.frz];rw[if_pos (hk.nlt p1)];exact h1,h2⟩
 |.siter s pos,o0,o,_,h=>by simpa only[zao]using h
theorem Post.frz (hk:Ok G σ h nx w)(p:Post G σ h nx w τ g ny x)(he:∀i,i<nx→g.get i=h.get i):Post G σ h nx w (τ.frz x g nx) h nx x:=by
 have hget:∀i B,h.get i=some B→i<nx∧g.get i=some B:=fun i B hi=>⟨hk.lt hi,by rw[he i (hk.lt hi)];exact hi⟩
 have hle:σ.Le (τ.frz x g nx):=by
  refine⟨fun i b hb=>?_,p.le.opq,fun b C hb=>?_⟩
  ·have:=p.le.blk i b hb
   refine⟨?_,this.2⟩
   simp only[Sg.frz]
   rw[if_pos (hk.nlt hb)]
   exact this.1
  ·simp only[Sg.frz]
   rw[p.le.imm b C hb]
 have hblk:∀i b,i<nx→τ.blk i=some b→(τ.frz x g nx).blk i=some b:=fun i b hi hb=>by simp only[Sg.frz];rw[if_pos hi];exact hb
 have hblk':∀i b,(τ.frz x g nx).blk i=some b→i<nx∧τ.blk i=some b:=fun i b hb=>by
  simp only[Sg.frz]at hb
  split at hb
  ·exact⟨by assumption,hb⟩
  ·cases hb
 refine⟨⟨fun i hi=>(hle.blk i i (hk.glob i hi)).1,hk.le,fun i hi=>?_,fun i j b B B' h1 h2 h3 h4=>?_,fun i B h1=>?_,fun b C hb=>?_,fun i cs hi=>(hk.gl i cs hi).mono hle⟩,hle,⟨p.fr.os,p.fr.tape,p.fr.output,p.fr.size,p.fr.keep,fun i B b h1 h2=>?_,fun b C hb=>?_⟩,Nat.le_refl _⟩
 ·simp only[Sg.frz];rw[if_neg (by omega)]
 ·exact p.ok.inj i j b B B' (hget i B h1).2 (hget j B' h2).2 (hblk' i b h3).2 (hblk' j b h4).2
 ·obtain⟨b,o,q1,q2,q3⟩:=p.ok.blk i B (hget i B h1).2
  obtain⟨b0,o0,r1,r2,r3⟩:=hk.blk i B h1
  exact⟨b,o,hblk i b (hget i B h1).1 q1,q2,r3.back hk p.le q3⟩
 ·have himm:(τ.imm b=some C)∨(τ.imm b=none∧∃i e n c opn esz,nx≤i∧g.get i=some (.cells e n c opn esz)∧τ.blk i=some b):=by
   simp only[Sg.frz]at hb
   cases hi:τ.imm b with
   |some D=>rw[hi]at hb;exact .inl hb
   |none=>
    rw[hi]at hb
    simp only at hb
    split at hb
    ·exact .inr ⟨rfl,by assumption⟩
    ·cases hb
  rcases himm with hi |⟨_,i,e,n,c,opn,esz,h1,h2,h3⟩
  ·obtain⟨q1,q2⟩:=p.ok.imm b C hi
   exact⟨q1,fun j B hj e=>q2 j B (hget j B hj).2 (hblk' j b e).2⟩
  ·obtain⟨D,fr,r1,r2,_⟩:=zwl (nx:=nx) p.ok h1 h2 h3
   rw[hb]at r2
   cases r2
   refine⟨⟨e,fr,by simpa using r1⟩,fun j B hj e'=>?_⟩
   have:=p.ok.inj j i b B _ (hget j B hj).2 h2 (hblk' j b e').2 h3
   have:=(hget j B hj).1
   omega
 ·exact .inr ⟨i,B,h1,by
   obtain⟨b0,o0,r1,_⟩:=hk.blk i B h1
   have:=(p.le.blk i b0 r1).1
   rw[(hblk' i b h2).2]at this
   cases this
   exact r1⟩
 ·simp only[Sg.frz]at hb
  cases hi:τ.imm b with
  |some D=>rw[hi]at hb;cases hb;exact p.fr.imm b _ hi
  |none=>
   rw[hi]at hb
   simp only at hb
   split at hb
   ·rename_i hex
    obtain⟨i,e,n,c,opn,esz,_,h2,h3⟩:=hex
    exact .inr (p.fr.own i _ b h2 h3)
   ·cases hb
end
end
end Go.Ev
namespace Go.Ev
noncomputable section
variable {P : Program} {c : Cx} {h g : Tr ABlk} {nx ny sz : Nat}
def Ext (nx:Nat)(h g:Tr ABlk):Prop:=∀i,i<nx→g.get i=h.get i
theorem Ext.refl (nx:Nat)(h:Tr ABlk):Ext nx h h:=fun _ _=>rfl
theorem Ext.put {nx:Nat}{h g:Tr ABlk}(e:Ext nx h g){i:Nat}(hi:nx≤i)(B:Option ABlk):Ext nx h (g.put i B):=fun j hj=>by
 rw[Tr.get_put,if_neg (by omega)];exact e j hj
theorem za7.frz {f:FuncId}{args:List AV}{R:AV→Prop}(hc:za7 P c f args h nx fun v g _=>Ext nx h g∧∃u,Fz g nx v u∧R u):za7 P c f args h nx fun v g ny=>R v∧g=h∧ny=nx:=by
 intro σ w A hk hA
 refine(hc σ w A hk hA).mono fun V x q=>?_
 obtain⟨τ,v,g,ny,q1,q2,q3,u,q4,q5⟩:=q
 exact⟨τ.frz x g nx,u,h,nx,q4.rel q2.ok V q1,Post.frz hk q2 q3,q5,rfl,rfl⟩
def Ret (P:Program)(c:Cx)(f:FuncId)(args:List AV)(u:AV):Prop:=∀h nx,za7 P c f args h nx fun v g ny=>v=u∧g=h∧ny=nx
theorem Ret.use {f:FuncId}{args:List AV}{u:AV}(hr:Ret P c f args u){R:AV→Tr ABlk→Nat→Prop}(hR:R u h nx):za7 P c f args h nx R:=
 (hr h nx).mono fun v g ny ⟨e1,e2,e3⟩=>by subst e1;subst e2;subst e3;exact hR
theorem Ret.of {f:FuncId}{args:List AV}{u:AV}(hr:∀h nx,za7 P c f args h nx fun v g _=>Ext nx h g∧Fz g nx v u):Ret P c f args u:=by
 intro h nx
 have:=za7.frz (R:=fun v=>v=u) ((hr h nx).mono fun v g ny ⟨e,q⟩=>⟨e,u,q,rfl⟩)
 exact this
theorem Ret.mk {f:FuncId}{args:List AV}{u:AV}(hr:∀h nx (R:AV→Tr ABlk→Nat→Prop),(∀v g ny,Ext nx h g→Fz g nx v u→R v g ny)→za7 P c f args h nx R):Ret P c f args u:=
 Ret.of fun h nx=>hr h nx _ fun _ _ _ h1 h2=>⟨h1,h2⟩
end
end Go.Ev
namespace Go.Ev
def dir (ops:Array Oper) (i j:Nat):Bool:=((ops[j]?).map (·.after.any fun e=>Region.binds .any e && e.on == i)).getD false
section
variable {P : Program} {F : Fence} {N : Nat} {ops : Array Oper} {Q : Exit → Act → World → Prop}
theorem zkq {l:Array Bool}{i:Nat}:i∈Region.ready .any ops l↔i<ops.size∧l.getD i true=false∧∀k,dir ops k i=true→l.getD k false=true:=by
 unfold Region.ready
 rw[List.mem_filter,List.mem_range]
 constructor
 ·rintro⟨h1,h2⟩
  rw[Bool.and_eq_true]at h2
  refine⟨h1,by simpa using h2.1,fun k hk=>?_⟩
  have ho:ops[i]?=some ops[i]:=Array.getElem?_eq_getElem h1
  have h3:=h2.2
  rw[ho]at h3
  simp only[Option.map_some,Option.getD_some,Array.all_eq_true']at h3
  unfold dir at hk
  rw[ho]at hk
  simp only[Option.map_some,Option.getD_some,Array.any_eq_true']at hk
  obtain⟨e,he,hb⟩:=hk
  rw[Bool.and_eq_true]at hb
  have:=h3 e he
  rw[hb.1]at this
  simp only[Bool.not_true,Bool.false_or]at this
  have hk':e.on=k:=by simpa using hb.2
  rw[← hk']
  exact this
 ·rintro⟨h1,h2,h3⟩
  refine⟨h1,?_⟩
  have ho:ops[i]?=some ops[i]:=Array.getElem?_eq_getElem h1
  rw[Bool.and_eq_true]
  refine⟨by simpa using h2,?_⟩
  rw[ho]
  simp only[Option.map_some,Option.getD_some,Array.all_eq_true']
  intro e he
  by_cases hb:Region.binds .any e=true
  ·rw[hb]
   simp only[Bool.not_true,Bool.false_or]
   refine h3 e.on ?_
   unfold dir
   rw[ho]
   simp only[Option.map_some,Option.getD_some,Array.any_eq_true']
   exact⟨e,he,by simp[hb]⟩
  ·simp[hb]
def zf6 (ops:Array Oper)(l:Array Bool):Prop:=∀j,l.getD j false=true→∀k,dir ops k j=true→l.getD k false=true
theorem zjs {l:Array Bool}{i j:Nat}{d:Bool}(hi:i<l.size):(l.setIfInBounds i true).getD j d=if j=i then true else l.getD j d:=by
 simp only[Array.getD_eq_getD_getElem?,Array.getElem?_setIfInBounds]
 by_cases h:i=j
 ·subst h;simp[hi]
 ·have h':¬j=i:=fun e=>h e.symm
  simp[h,h']
theorem zr2 (I:Array Bool→Act→World→Prop)
  (step:∀l a w i,l.size=ops.size→I l a w→i∈Region.ready .any ops l→wpOpIn F N P ops Q i (I (l.setIfInBounds i true)) a w)
  (done:∀l a w,l.size=ops.size→I l a w→Region.ready .any ops l=[]→Q .normal a w):
  ∀(fuel:Nat) (l:Array Bool) (a:Act) (w:World),l.size=ops.size→(l.toList.count false≤fuel)→I l a w→wpAnyIn F N P .any ops Q fuel l a w:=by
 intro fuel
 induction fuel with
 |zero=>
  intro l a w hs hf hI
  have hr:Region.ready .any ops l=[]:=by
   rw[List.eq_nil_iff_forall_not_mem]
   intro i hi
   obtain⟨h1,h2,_⟩:=zkq.1 hi
   have hlt:i<l.size:=by omega
   have hf':l[i]=false:=by simpa[Array.getD,hlt]using h2
   have hm:false∈l.toList:=by rw[← hf'];simp
   have:=List.count_pos_iff.2 hm
   omega
  exact⟨hr,done l a w hs hI hr⟩
 |succ fuel ih=>
  intro l a w hs hf hI
  refine⟨fun hr=>done l a w hs hI hr,fun i hi=>?_⟩
  refine wpOpIn_mono (fun a' w' hI'=>ih _ a' w' (by simpa using hs) ?_ hI') (step l a w i hs hI hi)
  obtain⟨h1,h2,_⟩:=zkq.1 hi
  have hlt:i<l.size:=by omega
  have hf':l[i]=false:=by simpa[Array.getD,hlt]using h2
  have:(l.setIfInBounds i true).toList.count false+1=l.toList.count false:=by
   rw[Array.toList_setIfInBounds]
   rw[List.count_set (by simpa using hlt)]
   have e:l.toList[i]'(by simpa using hlt)=false:=by simpa using hf'
   have hpos:0<l.toList.count false:=List.count_pos_iff.2 (by rw[← e];exact List.getElem_mem _)
   rw[e]
   simp only[beq_self_eq_true,if_true]
   have e2:(true == false)=false:=rfl
   rw[e2]
   simp only[Bool.false_eq_true,if_false]
   omega
  omega
theorem zs1 {l:Array Bool}(hb:∀i,i<ops.size→∀k,dir ops k i=true→k<i)(hr:Region.ready .any ops l=[])(hs:l.size=ops.size):∀i,i<ops.size→l.getD i false=true:=by
 intro i
 induction i using Nat.strongRecOn with
 |_ i ih=>
  intro hi
  cases hl:l.getD i false with
  |true=>rfl
  |false=>
   have hlt:i<l.size:=by omega
   have:i∈Region.ready .any ops l:=zkq.2 ⟨hi,by simpa[Array.getD,hlt]using hl,fun k hk=>ih k (hb i hi k hk) (by have:=hb i hi k hk;omega)⟩
   rw[hr]at this
   cases this
end
noncomputable section
variable {P : Program} {c : Cx} {σ τ υ : Sg} {h g f : Tr ABlk} {nx ny nz sz : Nat} {ds : List DE} {w x y : World} {tm tm' : Tr AV} {a : Act}
def zbl (ops:List Oper)(o:Oper):List Tmp:=
 (o.op.operands.toList.filterMap fun |.tmp t=>some t |_=>none)++(match o.guard with
  |none=>[]
  |some (j,_)=>match ops[j]? with
   |some oj=>oj.dst.toList
   |none=>[])
def rst (l:List Tmp)(tm:Tr AV):Tr AV:=match l with
 |[]=>.nil
 |t::l=>(rst l tm).put t (tm.get t)
theorem zmk:∀(l:List Tmp)(tm:Tr AV)(t:Tmp),(rst l tm).get t=if t∈l then tm.get t else none
 |[],tm,t=>by simp[rst];rfl
 |u::l,tm,t=>by
  rw[rst,Tr.get_put,zmk l tm t]
  by_cases h1:t=u
  ·subst h1;simp
  ·simp[h1]
theorem zxr:∀{l:List Tmp},(∀t∈l,tm.get t=tm'.get t)→rst l tm=rst l tm'
 |[],_=>rfl
 |u::l,h=>by
  rw[rst,rst,h u (by simp),zxr fun t ht=>h t (by simp[ht])]
def OpY (P:Program)(c:Cx)(r:Option Nat)(ops:Array Oper)(o:Oper)(v:AV)(tm:Tr AV)(h:Tr ABlk) (nx:Nat)(g:Tr ABlk) (ny:Nat):Prop:=
 ∀(σ:Sg) (a:Act) (w:World),Ok c.G σ h nx w→zd8 σ tm a→∀(Q:Exit→Act→World→Prop) (K:Act→World→Prop),(∀τ x V,Rel τ v V→Post c.G σ h nx w τ g ny x→K (a.put o.dst V) x)→
  if Region.wanted o (yielded ops a.tmps) then o.wpIn (zbb r) 0 P a w K Q else (∀f,o.about P w a.eval=some f→(zbb r).fn f)∧K (a.put o.dst undef) w
def TL (ops:Array Oper)(v:Nat→AV)(tm:Tr AV)(l:Nat→Bool):Nat→Tr AV
 |0=>tm
 |i+1=>match l i with
  |false=>TL ops v tm l i
  |true=>match (ops[i]?).bind (·.dst) with
   |none=>TL ops v tm l i
   |some d=>(TL ops v tm l i).put d (some (v i))
theorem zlz {ops:Array Oper}{v:Nat→AV}{l:Nat→Bool}{i:Nat}{t:Tmp}(h1:l i=true→(ops[i]?).bind (·.dst)≠some t):(TL ops v tm l (i+1)).get t=(TL ops v tm l i).get t:=by
 rw[TL]
 cases hl:l i with
 |false=>rfl
 |true=>
  simp only
  cases hd:(ops[i]?).bind (·.dst) with
  |none=>rfl
  |some d=>
   simp only
   rw[Tr.get_put,if_neg fun e=>h1 hl (by rw[hd,e])]
theorem zq8 {ops:Array Oper}{v:Nat→AV}{l:Nat→Bool}{i:Nat}{t:Tmp}(hl:l i=true)(hd:(ops[i]?).bind (·.dst)=some t):(TL ops v tm l (i+1)).get t=some (v i):=by
 rw[TL,hl]
 simp only
 rw[hd]
 simp only
 rw[Tr.get_put,if_pos rfl]
theorem zk6 {ops:Array Oper}{v:Nat→AV}{l k:Nat→Bool}{t:Tmp}:∀(n:Nat),(∀j,j<n→(ops[j]?).bind (·.dst)=some t→l j=k j)→(TL ops v tm l n).get t=(TL ops v tm k n).get t
 |0,_=>rfl
 |n+1,hs=>by
  have ih:=zk6 (v:=v) (l:=l) (k:=k) (t:=t) n fun j hj hd=>hs j (by omega) hd
  by_cases hd:(ops[n]?).bind (·.dst)=some t
  ·have e:=hs n (by omega) hd
   cases hl:l n with
   |true=>
    rw[hl]at e
    rw[zq8 hl hd,zq8 e.symm hd]
   |false=>
    rw[hl]at e
    rw[zlz (by rw[hl];intro h;cases h),zlz (by rw[← e];intro h;cases h),ih]
  ·rw[zlz fun _=>hd,zlz fun _=>hd,ih]
theorem zje {ops:Array Oper}{v:Nat→AV}{l:Nat→Bool}{t:Tmp}(m:Nat):∀(n:Nat),(∀j,m≤j→j<m+n→(ops[j]?).bind (·.dst)=some t→l j=false)→(TL ops v tm l (m+n)).get t=(TL ops v tm l m).get t
 |0,_=>rfl
 |n+1,hs=>by
  rw[show m+(n+1)=m+n+1 by omega,zlz,zje m n fun j h1 h2 h3=>hs j h1 (by omega) h3]
  intro hl hd
  rw[hs (m+n) (by omega) (by omega) hd]at hl
  cases hl
structure Dr (P:Program)(c:Cx)(r:Option Nat) (sz:Nat)(ops:Array Oper)(S:Nat→Tr AV×Tr ABlk×Nat)(v:Nat→AV)(W:Nat→Bool)(bef:Nat→Nat→Bool):Prop where
 back:∀i,i<ops.size→∀k,dir ops k i=true→k<i
 befOk:∀i j,bef i j=true→∀l:Array Bool,zf6 ops l→(∀k,dir ops k j=true→l.getD k false=true)→l.getD i false=true
 tmps:∀i j o p d,ops[i]?=some o→ops[j]?=some p→i≠j→p.dst=some d→(d∈zbl ops.toList o∨o.dst=some d)→(j<i→bef j i=true)∧(i<j→bef i j=true)
 chain:∀i j,i<j→j<ops.size→W i=true→W j=true→bef i j=true
 step:∀i o,ops[i]?=some o→OpY P c r ops o (v i) (rst (zbl ops.toList o) (S i).1) (S i).2.1 (S i).2.2 (S (i+1)).2.1 (S (i+1)).2.2∧(∀d,o.dst=some d→d<sz)∧(S (i+1)).1=(match o.dst with |none=>(S i).1 |some d=>(S i).1.put d (some (v i)))
 keep:∀i,i<ops.size→W i=false→(S (i+1)).2=(S i).2
 dyn:∀i o,ops[i]?=some o→W i=false→∀p,p≤ops.size→(p=0∨W (p-1)=true)→(∀j,j<ops.size→W j=true→(bef j i=true→j<p)∧(bef i j=true→p≤j))→
  OpY P c r ops o (v i) (rst (zbl ops.toList o) (S i).1) (S p).2.1 (S p).2.2 (S p).2.1 (S p).2.2
section
variable {r : Option Nat} {ops : Array Oper} {S : Nat → Tr AV × Tr ABlk × Nat} {v : Nat → AV} {W : Nat → Bool} {bef : Nat → Nat → Bool}
theorem Dr.same (R:Dr P c r sz ops S v W bef) (p:Nat):∀(n:Nat),p+n≤ops.size→(∀j,p≤j→j<p+n→W j=false)→(S p).2=(S (p+n)).2
 |0,_,_=>rfl
 |n+1,hn,hw=>by
  rw[show p+(n+1)=p+n+1 by omega,R.keep (p+n) (by omega) (hw _ (by omega) (by omega))]
  exact R.same p n (by omega) fun j h1 h2=>hw j h1 (by omega)
theorem Dr.text (R:Dr P c r sz ops S v W bef):∀(i:Nat),i≤ops.size→∀t,(S i).1.get t=(TL ops v (S 0).1 (fun _=>true) i).get t
 |0,_,t=>rfl
 |i+1,hi,t=>by
  have e2:ops[i]?=some ops[i]:=Array.getElem?_eq_getElem (by omega)
  obtain⟨_,_,e5⟩:=R.step i _ e2
  have ih:=R.text i (by omega) t
  rw[e5]
  by_cases hd:(ops[i]).dst=some t
  ·rw[zq8 rfl (by rw[e2];exact hd),hd]
   simp only
   rw[Tr.get_put,if_pos rfl]
  ·rw[zlz fun _=>by rw[e2];exact hd,← ih]
   cases hd2:(ops[i]).dst with
   |none=>rfl
   |some d=>
    simp only
    rw[Tr.get_put,if_neg fun e=>hd (by rw[hd2,e])]
def lf (l:Array Bool) (i:Nat):Bool:=l.getD i false
structure DInv (c:Cx) (sz:Nat)(ops:Array Oper)(S:Nat→Tr AV×Tr ABlk×Nat)(v:Nat→AV)(W:Nat→Bool)(σ0:Sg)(w0:World)(D0:List Deferred)(l:Array Bool)(a:Act)(w:World):Prop where
 closed:zf6 ops l
 inn:∀i,l.getD i false=true→i<ops.size
 pos:∃p σ,p≤ops.size∧(p=0∨W (p-1)=true)∧(∀j,j<ops.size→W j=true→(l.getD j false=true↔j<p))∧
  Post c.G σ0 (S 0).2.1 (S 0).2.2 w0 σ (S p).2.1 (S p).2.2 w∧zd8 σ (TL ops v (S 0).1 (lf l) ops.size) a
 size:a.tmps.size=sz
 defers:a.defers=D0
theorem Dr.stepI (R:Dr P c r sz ops S v W bef){D0:List Deferred}{QQ:Exit→Act→World→Prop}{l:Array Bool}{a1:Act}{w1:World}{i:Nat}(hs:l.size=ops.size)(I:DInv c sz ops S v W σ w D0 l a1 w1)(hin:i<ops.size)(hnl:l.getD i false=false)(hdeps:∀k,dir ops k i=true→l.getD k false=true):
  wpOpIn (zbb r) 0 P ops QQ i (DInv c sz ops S v W σ w D0 (l.setIfInBounds i true)) a1 w1:=by
 obtain⟨o,e2⟩:∃o,ops[i]?=some o:=⟨_,Array.getElem?_eq_getElem hin⟩
 obtain⟨e3,e4,e5⟩:=R.step i o e2
 obtain⟨p,τ,hp,hp0,hpos,hpost,htm⟩:=I.pos
 have hbefore:∀j,bef j i=true→l.getD j false=true:=fun j hj=>R.befOk j i hj l I.closed hdeps
 have hbehind:∀j,bef i j=true→l.getD j false=false:=by
  intro j hj
  cases hl:l.getD j false with
  |false=>rfl
  |true=>
   have:=R.befOk i j hj l I.closed fun k hk'=>I.closed j hl k hk'
   rw[hnl]at this
   cases this
 have hdstj:∀(j:Nat) (t:Tmp),(ops[j]?).bind (fun q:Oper=>q.dst)=some t→∃p:Oper,ops[j]?=some p∧p.dst=some t:=by
  intro j t hj
  cases hoj:ops[j]? with
  |none=>rw[hoj]at hj;cases hj
  |some q=>rw[hoj]at hj;exact⟨q,rfl,hj⟩
 have hsee:∀t∈zbl ops.toList o,(S i).1.get t=(TL ops v (S 0).1 (lf l) ops.size).get t:=by
  intro t ht
  rw[R.text i (by omega) t]
  have q1:=zje (tm:=(S 0).1) (ops:=ops) (v:=v) (l:=lf l) (t:=t) i (ops.size-i) fun j hj1 hj2 hj3=>by
   obtain⟨q,hq1,hq2⟩:=hdstj j t hj3
   by_cases hji:j=i
   ·subst hji;exact hnl
   ·exact hbehind j ((R.tmps i j o q t e2 hq1 (fun e=>hji e.symm) hq2 (.inl ht)).2 (by omega))
  rw[show i+(ops.size-i)=ops.size by omega]at q1
  rw[q1]
  refine zk6 i fun j hj hj3=>?_
  obtain⟨q,hq1,hq2⟩:=hdstj j t hj3
  exact(hbefore j ((R.tmps i j o q t e2 hq1 (by omega) hq2 (.inl ht)).1 hj)).symm
 have htm0:zd8 τ (rst (zbl ops.toList o) (S i).1) a1:=by
  rw[zxr hsee]
  intro t u hu
  rw[zmk]at hu
  split at hu
  ·exact htm t u hu
  ·cases hu
 have hiL:i<l.size:=by omega
 have hset:∀j,(l.setIfInBounds i true).getD j false=if j=i then true else l.getD j false:=fun j=>zjs hiL
 have hclosed:zf6 ops (l.setIfInBounds i true):=by
  intro j hj k hk'
  rw[hset]at hj ⊢
  by_cases hki:k=i
  ·rw[if_pos hki]
  ·rw[if_neg hki]
   by_cases hji:j=i
   ·subst hji;exact hdeps k hk'
   ·rw[if_neg hji]at hj
    exact I.closed j hj k hk'
 have hinn:∀j,(l.setIfInBounds i true).getD j false=true→j<ops.size:=by
  intro j hj
  rw[hset]at hj
  by_cases hji:j=i
  ·omega
  ·rw[if_neg hji]at hj;exact I.inn j hj
 have hput:∀(υ:Sg) (V:Value),τ.Le υ→Rel υ (v i) V→zd8 υ (TL ops v (S 0).1 (lf (l.setIfInBounds i true)) ops.size) (a1.put o.dst V):=by
  intro υ V hle hV t u hu
  have hne:∀t,o.dst≠some t→(TL ops v (S 0).1 (lf (l.setIfInBounds i true)) ops.size).get t=(TL ops v (S 0).1 (lf l) ops.size).get t:=by
   intro t hd
   refine zk6 ops.size fun j hj hj3=>?_
   show (l.setIfInBounds i true).getD j false=l.getD j false
   rw[hset]
   by_cases hji:j=i
   ·subst hji
    rw[e2]at hj3
    exact absurd hj3 hd
   ·rw[if_neg hji]
  cases hd:o.dst with
  |none=>
   rw[hne t (by rw[hd];intro e;cases e)]at hu
   exact(htm t u hu).mono hle
  |some d=>
   have hds:d<a1.tmps.size:=by rw[I.size];exact e4 d hd
   by_cases htd:t=d
   ·subst htd
    have q1:=zje (tm:=(S 0).1) (ops:=ops) (v:=v) (l:=lf (l.setIfInBounds i true)) (t:=t) (i+1) (ops.size-(i+1)) fun j hj1 hj2 hj3=>by
     obtain⟨q,hq1,hq2⟩:=hdstj j t hj3
     show (l.setIfInBounds i true).getD j false=false
     rw[hset,if_neg (by omega)]
     exact hbehind j ((R.tmps i j o q t e2 hq1 (by omega) hq2 (.inr hd)).2 (by omega))
    rw[show i+1+(ops.size-(i+1))=ops.size by omega]at q1
    rw[q1,zq8 (show (l.setIfInBounds i true).getD i false=true by rw[hset,if_pos rfl]) (by rw[e2];exact hd)]at hu
    cases hu
    simpa[Act.put,Array.getD_eq_getD_getElem?,hds]using hV
   ·rw[hne t (by rw[hd];intro e;cases e;exact htd rfl)]at hu
    have:=(htm t u hu).mono hle
    simpa[Act.put,Array.getD_eq_getD_getElem?,Array.getElem?_setIfInBounds,Ne.symm htd]using this
 have hsz:∀V:Value,(a1.put o.dst V).tmps.size=sz:=by
  intro V
  cases hd:o.dst with
  |none=>exact I.size
  |some d=>simpa[Act.put]using I.size
 have hdf:∀V:Value,(a1.put o.dst V).defers=D0:=by
  intro V
  cases hd:o.dst with
  |none=>exact I.defers
  |some d=>exact I.defers
 have fin:∀(p':Nat),OpY P c r ops o (v i) (rst (zbl ops.toList o) (S i).1) (S p).2.1 (S p).2.2 (S p').2.1 (S p').2.2→
   (p'≤ops.size∧(p'=0∨W (p'-1)=true)∧(∀j,j<ops.size→W j=true→((l.setIfInBounds i true).getD j false=true↔j<p')))→
   wpOpIn (zbb r) 0 P ops QQ i (DInv c sz ops S v W σ w D0 (l.setIfInBounds i true)) a1 w1:=by
  intro p' hop hp'
  obtain⟨a1',a2',a3'⟩:=hp'
  unfold wpOpIn
  rw[e2]
  exact hop τ a1 w1 hpost.ok htm0 QQ (DInv c sz ops S v W σ w D0 (l.setIfInBounds i true)) (fun υ x V hV hP=>
   ⟨hclosed,hinn,⟨p',υ,a1',a2',a3',hpost.trans hP,hput υ V hP.le hV⟩,hsz V,hdf V⟩)
 cases hW:W i with
 |false=>
  have hvalid:∀j,j<ops.size→W j=true→(bef j i=true→j<p)∧(bef i j=true→p≤j):=by
   intro j hj hw
   refine⟨fun hb=>(hpos j hj hw).1 (hbefore j hb),fun hb=>?_⟩
   have:=hbehind j hb
   rcases Nat.lt_or_ge j p with h5 |h5
   ·rw[(hpos j hj hw).2 h5]at this;cases this
   ·exact h5
  refine fin p (R.dyn i o e2 hW p hp hp0 hvalid) ⟨hp,hp0,fun j hj hw=>?_⟩
  rw[hset]
  by_cases hji:j=i
  ·subst hji
   rw[hW]at hw
   cases hw
  ·rw[if_neg hji]
   exact hpos j hj hw
 |true=>
  have hni:¬i<p:=fun hh=>by
   have:=(hpos i hin hW).2 hh
   rw[hnl]at this
   cases this
  have hnoW:∀j,p≤j→j<p+(i-p)→W j=false:=by
   intro j h5 h6
   cases hw:W j with
   |false=>rfl
   |true=>
    have:=(hpos j (by omega) hw).1 (hbefore j (R.chain j i (by omega) hin hw hW))
    omega
  have hsame:=R.same p (i-p) (by omega) hnoW
  rw[Nat.add_sub_cancel' (by omega)]at hsame
  have hop:OpY P c r ops o (v i) (rst (zbl ops.toList o) (S i).1) (S p).2.1 (S p).2.2 (S (i+1)).2.1 (S (i+1)).2.2:=by
   rw[hsame]
   exact e3
  refine fin (i+1) hop ⟨by omega,.inr hW,fun j hj hw=>?_⟩
  rw[hset]
  by_cases hji:j=i
  ·subst hji;simp
  ·rw[if_neg hji]
   constructor
   ·intro hl
    rcases Nat.lt_or_ge j i with h5 |h5
    ·omega
    ·have:=hbehind j (R.chain i j (by omega) hj hW hw)
     rw[hl]at this
     cases this
   ·intro h5
    exact hbefore j (R.chain j i (by omega) hin hw hW)
theorem zF8 (hm:P.follows .mixedOrders=true)(R:Dr P c r sz ops S v W bef)(hk:Ok c.G σ (S 0).2.1 (S 0).2.2 w)(st:St σ (S 0).1 a sz ds) (id:Nat){Q:AX→AS→Prop}(hQ0:Q .norm (.mk (S ops.size).1 (S ops.size).2.1 (S ops.size).2.2 ds)):
  (Code.region id ops true).wpIn (zbb r) 0 P (AQ c.G σ (S 0).2.1 (S 0).2.2 w sz Q) a w:=by
 refine wpIn_region_any hm ?_
 have hd0:=Post.drawn hk (w.drawn+1)
 generalize hQ:AQ c.G σ (S 0).2.1 (S 0).2.2 w sz Q=QQ
 have hrep:∀i,(Array.replicate ops.size false).getD i false=false:=by
  intro i
  simp only[Array.getD_eq_getD_getElem?,Array.getElem?_replicate]
  split <;> rfl
 have hwf:∀(l:Array Bool) (i:Nat),l.size=ops.size→i∈Region.ready .any ops l→i<ops.size∧l.getD i false=false∧∀k,dir ops k i=true→l.getD k false=true:=by
  intro l i hs hi
  obtain⟨h1,h2,h3⟩:=zkq.1 hi
  have hlt:i<l.size:=by omega
  exact⟨h1,by simpa[Array.getD,hlt]using h2,h3⟩
 refine zr2 (DInv c sz ops S v W σ w a.defers) ?step ?done ops.size _ a _ (by simp) ?count ?init
 case count=>
  simp
 case init=>
  refine⟨(fun j hj=>by rw[hrep]at hj;cases hj),(fun i hi=>by rw[hrep]at hi;cases hi),⟨0,σ,by omega,.inl rfl,(fun j _ _=>⟨(fun e=>by rw[hrep]at e;cases e),(fun e=>by omega)⟩),hd0,?_⟩,st.size,rfl⟩
  intro t u e
  have:(TL ops v (S 0).1 (lf (Array.replicate ops.size false)) ops.size).get t=(S 0).1.get t:=by
   have:=zje (tm:=(S 0).1) (ops:=ops) (v:=v) (l:=lf (Array.replicate ops.size false)) (t:=t) 0 ops.size fun j _ _ _=>hrep j
   rw[Nat.zero_add]at this
   exact this
  rw[this]at e
  exact st.tm t u e
 case done=>
  intro l a1 w1 hs I hr
  have hall:=zs1 R.back hr hs
  obtain⟨p,τ,hp,hp0,hpos,hpost,htm⟩:=I.pos
  have hnoW:∀j,p≤j→j<p+(ops.size-p)→W j=false:=by
   intro j h1 h2
   cases hw:W j with
   |false=>rfl
   |true=>
    have:=(hpos j (by omega) hw).1 (hall j (by omega))
    omega
  have hsame:=R.same p (ops.size-p) (by omega) hnoW
  rw[Nat.add_sub_cancel' hp]at hsame
  rw[← hQ]
  refine⟨.norm,_,_,_,ds,τ,rfl,?_,⟨?_,I.size,?_⟩,hQ0⟩
  ·rw[hsame]at hpost
   exact hpost
  ·intro t u e
   refine htm t u ?_
   rw[R.text ops.size (Nat.le_refl _) t]at e
   rw[← e]
   exact zk6 ops.size fun j hj _=>hall j hj
  ·rw[I.defers];exact st.defers.mono hpost.le
 case step=>
  intro l a1 w1 i hs I hi
  obtain⟨hin,hnl,hdeps⟩:=hwf l i hs hi
  exact R.stepI hs I hin hnl hdeps
end
end
end Go.Ev
