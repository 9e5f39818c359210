/- Texts. -/
import Derived.OrdersIn
import Derived.Test.YtkdnmldmffkkoaaGreatDoorP02
set_option linter.all false
set_option maxRecDepth 100000
namespace Go.Ev
noncomputable section
section
variable {P : Program} {c : Cx} {σ τ υ : Sg} {h g f : Tr ABlk} {nx ny nz sz : Nat} {ds : List DE} {w x y : World} {tm : Tr AV} {a : Act}
def Im (c:Cx)(tm:Tr AV)(h:Tr ABlk) (nx:Nat)(r:ResultVar):Option AV:=
 match r with
 |.tmp t=>tm.get t
 |.cell a t=>match tm.get a with
  |some p=>match c.tt.get t with
   |some ti=>match jN ti p h nx with
    |.val v _ _=>some v
    |_=>none
   |none=>none
  |none=>none
def jy (c:Cx)(tm:Tr AV)(h:Tr ABlk) (nx:Nat):List ResultVar→Option (List AV)
 |[]=>some []
 |r::l=>match Im c tm h nx r with
  |some v=>match jy c tm h nx l with
   |some l=>some (v::l)
   |none=>none
  |none=>none
def qj (l:List AV):AV:=match l with |[v]=>v |l=>.tup l
def Rb (tmps:Array Value):ResultVar→Sem Value
 |.tmp t=>pure (tmps.getD t undef)
 |.cell a t=>do loadVar t (← asAddr (tmps.getD a undef))
def zIa (fn:Func)(tmps:Array Value):results fn tmps=(do let vs ← fn.results.mapM (Rb tmps);pure (if h:vs.size=1 then vs[0] else .tuple vs)):=rfl
def zQn (hc:CxOk P c)(hk:Ok c.G σ h nx w)(ht:kE σ tm a){rv:ResultVar}{v:AV}(he:Im c tm h nx rv=some v):
  ∃V,(Rb a.tmps rv).run P w=.ok V w∧av σ v V:=by
 unfold Im at he;cases rv with
 |tmp t=>exact⟨_,rfl,ht t v he⟩
 |cell b t=>
  simp only at he;cases hp:tm.get b with
  |none=>rw[hp]at he;cases he
  |some p=>
   rw[hp]at he;simp only at he;cases Pf:c.tt.get t with
   |none=>rw[Pf]at he;cases he
   |some ti=>
    rw[Pf]at he;simp only at he;have ik:=ht b p hp;have hl:=zx9 hk t (hc.tt t ti Pf) ik;cases Gq:jN ti p h nx with
    |fail=>rw[Gq]at he;cases he
    |unit _ _=>rw[Gq]at he;cases he
    |val v' g ny=>
     rw[Gq]at he hl;cases he;obtain⟨_,_,V,h1,h2⟩:=hl;have hex:∃q,a.tmps.getD b undef=.pointer (some q):=by
      cases p <;> try (exfalso;unfold jN at Gq;cases ti;cases Gq;done)
      ·simp only[av]at ik;obtain⟨bb,hb,e⟩:=ik;exact⟨_,e⟩
      ·simp only[av]at ik;obtain⟨bb,_,_,_,e,_⟩:=ik;exact⟨_,e⟩
     obtain⟨q,e⟩:=hex;rw[e]at h1;refine⟨V,?_,h2⟩;show (do loadVar t (← asAddr (a.tmps.getD b undef)):Sem Value).run P w=_;rw[e];simpa[Instr.loadAt,Instr.sureAddr,asAddr]using h1
def YY (hc:CxOk P c)(hk:Ok c.G σ h nx w)(ht:kE σ tm a):∀{l:List ResultVar}{vs:List AV},jy c tm h nx l=some vs→
  ∃VS,(l.mapM (Rb a.tmps)).run P w=.ok VS w∧aC σ vs VS
 |[],vs,e=>by cases e;exact⟨[],by simp,by simp only[aC]⟩
 |rv::l,vs,e=>by
  simp only[jy]at e;cases h1:Im c tm h nx rv with
  |none=>rw[h1]at e;cases e
  |some v=>
   rw[h1]at e;cases h2:jy c tm h nx l with
   |none=>rw[h2]at e;cases e
   |some l'=>
    rw[h2]at e;cases e;obtain⟨V,r1,r2⟩:=zQn hc hk ht h1;obtain⟨VS,r3,r4⟩:=YY hc hk ht h2;refine⟨V::VS,?_,by simp only[aC];exact⟨V,VS,rfl,r2,r4⟩⟩;rw[List.mapM_cons,Sem.run_bind,r1];simp only[Result.andThen,Sem.run_bind,r3,Sem.run_pure]
def zz4 (hc:CxOk P c)(hk:Ok c.G σ h nx w)(ht:kE σ tm a){fn:Func}{vs:List AV}(he:jy c tm h nx fn.results.toList=some vs):∃V,(results fn a.tmps).run P w=.ok V w∧av σ (qj vs) V:=by
 obtain⟨VS,h1,h2⟩:=YY hc hk ht he;have h3:(results fn a.tmps).run P w=.ok (if h:VS.toArray.size=1 then VS.toArray[0] else .tuple VS.toArray) w:=by
  rw[zIa,Array.mapM_eq_mapM_toList];simp only[Sem.run_bind,Sem.run_map,h1];rfl
 refine⟨_,h3,?_⟩;unfold qj;split
 ·rename_i v;simp only[aC]at h2;obtain⟨V,L,e1,e2,e3⟩:=h2;subst e3;subst e1;simpa using e2
 ·rename_i aT;have:VS.toArray.size≠1:=by
   intro e;have hl:vs.length=1:=by rw[← h2.length];simpa using e
   match vs,hl with
   |[v],_=>exact aT v rfl
  rw[dif_neg this];simp only[av];exact⟨VS,rfl,h2⟩
def sB (h:Tr ABlk):List DE→Tr ABlk
 |[]=>h
 |.mark i::ds=>sB (h.put i none) ds
 |.fn _ _ _::ds=>sB h ds
def BR (h:Tr ABlk):List DE→Prop
 |[]=>True
 |.mark i::ds=>h.get i=some .dfr∧BR (h.put i none) ds
 |.fn _ _ _::_=>False
def B6 (c:Cx)(rs:List ResultVar)(R:AV→Tr ABlk→Nat→Prop)(s:AS):Prop:=
 match s with
 |.mk tm h nx ds=>BR h ds∧match jy c tm (sB h ds) nx rs with
  |some l=>R (qj l) (sB h ds) nx
  |none=>False
def xZ (c:Cx)(rs:List ResultVar)(R:AV→Tr ABlk→Nat→Prop):AX→AS→Prop
 |.norm,s=>B6 c rs R s
 |.ret,s=>B6 c rs R s
 |.exit _,_=>False
def Post.kill {G:Gl}(hk:Ok G σ h nx w){i b:Nat}{B:ABlk}(hi:h.get i=some B)(hb:σ.blk i=some b)(o:Obj):Post G σ h nx w σ (h.put i none) nx (w.putObj b o):=by
 have hs:∀j B',(h.put i none).get j=some B'→j≠i∧h.get j=some B':=by
  intro j B' hj;rw[Tr.get_put]at hj;split at hj
  ·cases hj
  ·exact⟨by assumption,hj⟩
 have aE:∀k,k≠b→(w.putObj b o).heap[k]?=w.heap[k]?:=fun k aW=>World.putObj_heap_other aW;refine⟨⟨hk.glob,hk.le,hk.fresh,fun a c d B1 B2 h1 h2=>hk.inj a c d B1 B2 (hs _ _ h1).2 (hs _ _ h2).2,fun a B1 h1=>?_,fun d C hd=>⟨?_,fun a B1 h1=>(hk.imm d C hd).2 a B1 (hs _ _ h1).2⟩,hk.gl⟩,.refl σ,⟨rfl,rfl,rfl,by simp,fun d hd hn=>aE d fun e=>hn i B hi (e ▸ hb),fun a B1 d h1 h2=>.inr ⟨a,B1,(hs _ _ h1).2,h2⟩,fun _ _ h=>.inl h⟩,ae _⟩
 ·obtain⟨n1,n2⟩:=hs a B1 h1;obtain⟨b',o',aV,ho,hr⟩:=hk.blk a B1 n2;refine⟨b',o',aV,?_,hr⟩;rw[aE b' fun e=>n1 (hk.inj a i b B1 B n2 hi (e ▸ aV) hb)];exact ho
 ·obtain⟨⟨t,fr,h1⟩,h2⟩:=hk.imm d C hd;refine⟨t,fr,?_⟩;rw[aE d fun e=>h2 i B hi (e ▸ hb)];exact h1
def YF {fn:Func}{tmps:Array Value}{RR:Ending→World→Prop}{G:Gl}:∀{ds:List DE}{D:List Deferred}{h:Tr ABlk}{w:World}{σ:Sg},Ok G σ h nx w→zy σ ds D→BR h ds→
  (∀x,Post G σ h nx w σ (sB h ds) nx x→∃v,(results fn tmps).run P x=.ok v x∧RR (.returned v) x)→LeavesInM Fence.wide 0 P fn tmps RR D .returning w
 |[],D,h,w,σ,ok,hD,_,hf=>by
  have e:D=[]:=hD;subst e;exact hf w (.refl ok)
 |.fn _ _ _::_,D,h,w,σ,ok,hD,hm,hf=>hm.elim
 |.mark i::ds,D,h,w,σ,ok,hD,hm,hf=>by
  obtain⟨b,D',e,hb,hD'⟩:=hD;subst e;obtain⟨b',o,aV,ho,hr⟩:=ok.blk i _ hm.1;rw[hb]at aV;cases aV;simp only[cq]at hr;subst hr;refine⟨by simp,.inl ⟨b,_,rfl,run_takeDeferred ho,?_⟩⟩;have pk:=Post.kill ok hm.1 hb (.deferred none);exact YF pk.ok hD' hm.2 fun x px=>hf x (pk.trans px)
def zyc (hc:CxOk P c){f:FuncId}{fn:Func}(bO:c.ft.get f=some fn){code:Code}(hb:fn.body=some code){args:List AV}(hle:args.length≤fn.ntmps){R:AV→Tr ABlk→Nat→Prop}
  (hw:AW P c false fn.ntmps code (xZ c fn.results.toList R) (.mk (eu args .nil 0) h nx [])):bf P c f args h nx R:=by
 intro σ w A hk hA;obtain⟨hf,bu⟩:=hc.ft f fn bO;unfold CR;rw[bu];simp only;have Um:A.length=args.length:=hA.length;have aU:St σ (eu args .nil 0) { tmps:=A.toArray++Array.replicate (fn.ntmps-A.toArray.size) undef,defers:=[] } fn.ntmps []:=by
  refine⟨fun t u e=>?_,by simp;omega,rfl⟩;rw[qo]at e
  by_cases h1:0≤t∧t<0+args.length
  ·rw[if_pos h1,Nat.sub_zero]at e;obtain⟨U,e1,e2⟩:=hA.get e;have ht:t<A.length:=by omega
   rw[aa ht]at e1;cases e1;simp only[Array.getD_eq_getD_getElem?];rw[Array.getElem?_append_left (by simpa using ht)];simpa[ht]using e2
  ·rw[if_neg h1]at e;cases e
 refine callsIn_wide.1 (callsIn_of_wp_marks (F:=Fence.wide) (n:=0) hf hb trivial (wpIn_mono (hw none (fun _=>rfl) σ _ w hk aU) fun e a' w' q=>?_));obtain⟨k,tm,g,ny,ds,τ,e1,q1,q2,q3⟩:=q;have fin:B6 c fn.results.toList R (.mk tm g ny ds)→LeavesInM Fence.wide 0 P fn a'.tmps (fun e x=>match e with |.returned v=>∃τ v' g ny,av τ v' v∧Post c.G σ h nx w τ g ny x∧R v' g ny |_=>False) a'.defers .returning w':=by
  intro q3;obtain⟨e2,q4⟩:=q3;refine YF q1.ok q2.defers e2 fun x px=>?_;cases aH:jy c tm (sB g ds) ny fn.results.toList with
  |none=>rw[aH]at q4;exact q4.elim
  |some vs=>
   rw[aH]at q4;obtain⟨V,r1,r2⟩:=zz4 hc px.ok q2.tm aH;exact⟨V,r1,τ,qj vs,sB g ds,ny,r2,q1.trans px,q4⟩
 cases k with
 |norm=>subst e1;exact fin q3
 |ret=>subst e1;exact fin q3
 |exit id=>exact q3.elim
def zaa (hc:CxOk P c){f:FuncId}{fn:Func}(bO:c.ft.get f=some fn){code:Code}{sz:Nat}{rs:List ResultVar}(hb:fn.body=some code)(hs:fn.ntmps=sz)(hr:fn.results.toList=rs){args:List AV}(hle:args.length≤sz){R:AV→Tr ABlk→Nat→Prop}
  (hw:aw P c false sz code (xZ c rs R) (.mk (eu args .nil 0) h nx [])):bf P c f args h nx R:=by
 subst hs;subst hr;exact zyc hc bO hb hle (yU hc _ hw)
end
end
end Go.Ev
namespace Go.Ev
noncomputable section
variable {P : Program} {c : Cx} {σ τ υ : Sg} {h g f : Tr ABlk} {nx ny nz sz : Nat} {ds : List DE} {w x y : World} {tm : Tr AV} {a : Act}
def Ok.nlt {G:Gl}(hk:Ok G σ h nx w){i b:Nat}(hb:σ.blk i=some b):i<nx:=by
 rcases Nat.lt_or_ge i nx with h1 |h1
 ·exact h1
 ·rw[hk.fresh i h1]at hb;cases hb
def rD (es:Nat):List AV→List AV→Prop
 |[],D=>D=[]
 |v::l,D=>∃d D',D=d++D'∧v.cells=d∧d.length=es∧(v=.agg d∨v.one=true)∧rD es l D'
mutual
inductive Fz (g:Tr ABlk) (nx:Nat):AV→AV→Prop
 |bool (b:Bool):Fz g nx (.bool b) (.bool b)
 |int (k:IntKind) (n:Int):Fz g nx (.int k n) (.int k n)
 |str (l n:Nat):Fz g nx (.str l n) (.str l n)
 |bs (b:ByteArray):Fz g nx (.bs b) (.bs b)
 |ptr0:Fz g nx .ptr0 .ptr0
 |sl0:Fz g nx .sl0 .sl0
 |map0:Fz g nx .map0 .map0
 |nilFunc:Fz g nx .nilFunc .nilFunc
 |nilIface:Fz g nx .nilIface .nilIface
 |opq (n:Nat):Fz g nx (.opq n) (.opq n)
 |ptr (i o:Nat):i<nx→Fz g nx (.ptr i o) (.ptr i o)
 |sl (i o l cp:Nat) (opn:Bool):i<nx→Fz g nx (.sl i o l cp opn) (.sl i o l cp opn)
 |map (i:Nat):i<nx→Fz g nx (.map i) (.map i)
 |yld (i:Nat):i<nx→Fz g nx (.yld i) (.yld i)
 |agg (l m:List AV):cE g nx l m→Fz g nx (.agg l) (.agg m)
 |tup (l m:List AV):cE g nx l m→Fz g nx (.tup l) (.tup m)
 |iface (t:TypeId) (v u:AV):Fz g nx v u→Fz g nx (.iface t v) (.iface t u)
 |func (fn:FuncId) (l m l' m':List AV):cE g nx l m→cE g nx l' m'→Fz g nx (.func fn l l') (.func fn m m')
 |ip (l m:List AV):cE g nx l m→Fz g nx (.ip l) (.ip m)
 |fz (es:Nat) (full:Bool) (l m:List AV):cE g nx l m→Fz g nx (.fz es full l) (.fz es full m)
 |pin (i o e n:Nat) (c:Tr AV) (opn:Bool) (esz:Nat) (cs ds:List AV):nx≤i→g.get i=some (.cells e n c opn esz)→o+cs.length≤n→(∀j,j<cs.length→c.get (o+j)=cs[j]?)→cE g nx cs ds→Fz g nx (.ptr i o) (.ip ds)
 |slz (i o len cp:Nat) (op:Bool) (e n:Nat) (c:Tr AV) (opn:Bool) (esz es:Nat) (cs ds xs:List AV):nx≤i→g.get i=some (.cells e n c opn esz)→o+cs.length≤n→(∀j,j<cs.length→c.get (o+j)=cs[j]?)→cE g nx cs ds→rD es xs ds→xs.length=len→Fz g nx (.sl i o len cp op) (.fz es false xs)
inductive cE (g:Tr ABlk) (nx:Nat):List AV→List AV→Prop
 |nil:cE g nx [] []
 |cons (v u:AV) (l m:List AV):Fz g nx v u→cE g nx l m→cE g nx (v::l) (u::m)
end
open Classical in
def Sg.frz (τ:Sg)(x:World)(g:Tr ABlk) (nx:Nat):Sg where
 blk:=fun i=>if i<nx then τ.blk i else none
 cap:=τ.cap
 opq:=τ.opq
 imm:=fun b=>match τ.imm b with
  |some C=>some C
  |none=>if ∃i e n c opn esz,nx≤i∧g.get i=some (.cells e n c opn esz)∧τ.blk i=some b then (match x.heap[b]? with |some (.cells C _ _)=>some C.toList |_=>none) else none
def av.one_cells {v:AV}{V:Value}(hr:av σ v V)(h1:v.one=true):V.cells=#[V]:=by
 have:=hr.one h1;cases V <;> first |rfl |(simp[Value.oneCell']at this)
def rD.rel {es:Nat}:∀{xs D:List AV}{L:List Value},rD es xs D→aC υ D L→∃XS,aC υ xs XS∧gH es XS L
 |[],D,L,h,hr=>⟨[],by simp only[aC],trivial⟩
 |v::l,D,L,h,hr=>by
  obtain⟨d,D',e,h1,h2,h3,h4⟩:=h;subst e;have hd:aC υ d (L.take es):=by
   have:=hr.take d.length;rw[List.take_left,h2]at this;exact this
  have hd':aC υ D' (L.drop es):=by
   have:=hr.drop d.length;rw[List.drop_left,h2]at this;exact this
  obtain⟨XS,q1,q2⟩:=rD.rel h4 hd';have hlen:(L.take es).length=es:=by rw[hd.length,h2]
  rcases h3 with h3 |h3
  ·refine⟨.agg (L.take es).toArray::XS,?_,?_⟩
   ·simp only[aC];exact⟨_,_,rfl,by rw[h3];simp only[av];exact⟨_,rfl,hd⟩,q1⟩
   ·exact⟨by simp[Value.cells],by simp[Value.cells];rw[List.length_take]at hlen;exact hlen,q2⟩
  ·have hc:v.cells=[v]:=by cases v <;> first |rfl |(simp[AV.one]at h3)
   rw[hc]at h1;subst h1;simp only[aC]at hd;obtain⟨V,L',e1,e2,e3⟩:=hd;subst e3;refine⟨V::XS,by simp only[aC];exact⟨_,_,rfl,e2,q1⟩,?_⟩;have:=e2.one_cells h3;refine⟨by rw[this,e1],?_,q2⟩;rw[this];simpa using h2
def cE.length:∀{l m:List AV},cE g nx l m→m.length=l.length
 |_,_,.nil=>rfl
 |_,_,.cons v u l m _ h2=>by simp[cE.length h2]
def gH.of_take {es:Nat}:∀{L D:List Value}{n:Nat},gH es L (D.take n)→gH es L D
 |[],D,n,_=>trivial
 |X::L,D,n,h=>by
  simp only[gH]at h ⊢;obtain⟨h1,h2,h3⟩:=h;have hl:((D.take n).take es).length=es:=by rw[← h1,Array.length_toList,h2]
  simp only[List.length_take]at hl;have hn:es≤n:=by omega
  rw[List.take_take,Nat.min_eq_left hn]at h1;rw[List.drop_take]at h3;exact⟨h1,h2,h3.of_take⟩
section
variable {G : Gl}
def Th (hk:Ok G τ g ny x){i e n esz b:Nat}{c:Tr AV}{opn:Bool}(hn:nx≤i)(hg:g.get i=some (.cells e n c opn esz))(hb:τ.blk i=some b):
  ∃C fr,x.heap[b]?=some (.cells C e fr)∧(τ.frz x g nx).imm b=some C.toList∧∀k,k<n→∃v V,c.get k=some v∧C[k]?=some V∧av τ v V:=by
 obtain⟨b',C,fr,aV,aE,aJ,_,_⟩:=hk.cells hg;rw[hb]at aV;cases aV;refine⟨C,fr,aE,?_,aJ⟩;have gE:τ.imm b=none:=by
  cases hi:τ.imm b with
  |none=>rfl
  |some D=>exact absurd hb ((hk.imm b D hi).2 i _ hg)
 show (match τ.imm b with |some C=>some C |none=>_)=_;rw[gE];simp only;rw[if_pos ⟨i,e,n,c,opn,esz,hn,hg,hb⟩,aE]
def LH {c:Tr AV}{C:Array Value}{n o:Nat}{cs:List AV}(aJ:∀k,k<n→∃v V,c.get k=some v∧C[k]?=some V∧av τ v V)(hle:o+cs.length≤n)(dD:∀j,j<cs.length→c.get (o+j)=cs[j]?):
  ∃L,aC τ cs L∧L=(C.toList.drop o).take L.length:=by
 have hl:((C.toList.drop o).take cs.length).length=cs.length:=by
  simp only[List.length_take,List.length_drop,Array.length_toList]
  rcases Nat.eq_zero_or_pos cs.length with e |e
  ·omega
  ·obtain⟨_,V,_,h2,_⟩:=aJ (o+cs.length-1) (by omega);have:=(Array.getElem?_eq_some_iff.1 h2).1;omega
 refine⟨(C.toList.drop o).take cs.length,aC.of_get hl fun k v V h1 h2=>?_,by rw[hl]⟩;have hk:k<cs.length:=(List.getElem?_eq_some_iff.1 h1).1;obtain⟨v',V',e1,e2,e3⟩:=aJ (o+k) (by omega);rw[dD k hk,h1]at e1;cases e1;rw[List.getElem?_take,if_pos hk,List.getElem?_drop,Array.getElem?_toList,e2]at h2;cases h2;exact e3
mutual
def Fz.rel (hk:Ok G τ g ny x):∀{v u:AV},Fz g nx v u→∀V,av τ v V→av (τ.frz x g nx) u V
 |_,_,.bool b,V,h=>by simpa only[av]using h
 |_,_,.int k n,V,h=>by simpa only[av]using h
 |_,_,.str l n,V,h=>by simpa only[av]using h
 |_,_,.bs b,V,h=>by simpa only[av]using h
 |_,_,.ptr0,V,h=>by simpa only[av]using h
 |_,_,.sl0,V,h=>by simpa only[av]using h
 |_,_,.map0,V,h=>by simpa only[av]using h
 |_,_,.nilFunc,V,h=>by simpa only[av]using h
 |_,_,.nilIface,V,h=>by simpa only[av]using h
 |_,_,.opq n,V,h=>by
  simp only[av]at h ⊢;exact h
 |_,_,.ptr i o hi,V,h=>by
  simp only[av]at h ⊢;obtain⟨b,hb,e⟩:=h;exact⟨b,by simp only[Sg.frz];rw[if_pos hi];exact hb,e⟩
 |_,_,.sl i o l cp opn hi,V,h=>by
  simp only[av]at h ⊢;obtain⟨b,hb,e⟩:=h;exact⟨b,by simp only[Sg.frz];rw[if_pos hi];exact hb,e⟩
 |_,_,.map i hi,V,h=>by
  simp only[av]at h ⊢;obtain⟨b,hb,e⟩:=h;exact⟨b,by simp only[Sg.frz];rw[if_pos hi];exact hb,e⟩
 |_,_,.yld i hi,V,h=>by
  simp only[av]at h ⊢;obtain⟨b,hb,e⟩:=h;exact⟨b,by simp only[Sg.frz];rw[if_pos hi];exact hb,e⟩
 |_,_,.agg l m hl,V,h=>by
  simp only[av]at h ⊢;obtain⟨L,e,h1⟩:=h;exact⟨L,e,cE.rel hk hl L h1⟩
 |_,_,.tup l m hl,V,h=>by
  simp only[av]at h ⊢;obtain⟨L,e,h1⟩:=h;exact⟨L,e,cE.rel hk hl L h1⟩
 |_,_,.iface t v u hu,V,h=>by
  simp only[av]at h ⊢;obtain⟨U,e,h1⟩:=h;exact⟨U,e,Fz.rel hk hu U h1⟩
 |_,_,.func fn l m l' m' h1 h2,V,h=>by
  simp only[av]at h ⊢;obtain⟨A,C,e,q1,q2⟩:=h;exact⟨A,C,e,cE.rel hk h1 A q1,cE.rel hk h2 C q2⟩
 |_,_,.ip l m hl,V,h=>by
  simp only[av]at h ⊢;obtain⟨b,o,C,L,e,h1,h2,h3⟩:=h;exact⟨b,o,C,L,e,by simp only[Sg.frz];rw[h1],cE.rel hk hl L h2,h3⟩
 |_,_,.fz es full l m hl,V,h=>by
  have hlen:m.length=l.length:=cE.length hl;simp only[av]at h ⊢;obtain⟨a,cap,e,g1,g2,g4,g3⟩:=h;rw[hlen];refine⟨a,cap,e,g1,g2,g4,fun hx=>?_⟩;obtain⟨b,o,C,L,e1,h1,h2,h3⟩:=g3 hx;exact⟨b,o,C,L,e1,by simp only[Sg.frz];rw[h1],cE.rel hk hl L h2,h3⟩
 |_,_,.pin i o e n c opn esz cs ds hn hg hle dD hl,V,h=>by
  simp only[av]at h ⊢;obtain⟨b,hb,e1⟩:=h;obtain⟨C,fr,aE,jV,aJ⟩:=Th hk hn hg hb;obtain⟨L,r1,r2⟩:=LH aJ hle dD;exact⟨b,o,C.toList,L,e1,jV,cE.rel hk hl L r1,r2⟩
 |_,_,.slz i o len cp op e n c opn esz es cs ds xs hn hg hle dD hl NN hlen,V,h=>by
  simp only[av]at h ⊢;obtain⟨b,hb,e1,dE⟩:=h;obtain⟨C,fr,aE,jV,aJ⟩:=Th hk hn hg hb;obtain⟨L,r1,r2⟩:=LH aJ hle dD;obtain⟨XS,q1,q2⟩:=NN.rel (cE.rel hk hl L r1);refine⟨_,_,by rw[hlen];exact e1,by rw[hlen];exact dE,(fun hf=>by cases hf),(fun hf=>by cases hf),fun hx=>⟨b,o,C.toList,XS,rfl,jV,q1,?_⟩⟩;rw[r2]at q2;exact gH.of_take q2
def cE.rel (hk:Ok G τ g ny x):∀{l m:List AV},cE g nx l m→∀L,aC τ l L→aC (τ.frz x g nx) m L
 |_,_,.nil,L,h=>by simpa only[aC]using h
 |_,_,.cons v u l m h1 h2,L,h=>by
  simp only[aC]at h ⊢;obtain⟨V,L',e,q1,q2⟩:=h;exact⟨V,L',e,Fz.rel hk h1 V q1,cE.rel hk h2 L' q2⟩
end
mutual
def av.back (hk:Ok G σ h nx w)(hl:σ.Le τ):∀(v:AV)(V0 V:Value),av σ v V0→av τ v V→av (τ.frz x g nx) v V
 |.bool b,V0,V,_,h=>by simpa only[av]using h
 |.int k n,V0,V,_,h=>by simpa only[av]using h
 |.str l n,V0,V,_,h=>by simpa only[av]using h
 |.bs b,V0,V,_,h=>by simpa only[av]using h
 |.ptr0,V0,V,_,h=>by simpa only[av]using h
 |.sl0,V0,V,_,h=>by simpa only[av]using h
 |.map0,V0,V,_,h=>by simpa only[av]using h
 |.nilFunc,V0,V,_,h=>by simpa only[av]using h
 |.nilIface,V0,V,_,h=>by simpa only[av]using h
 |.opq n,V0,V,_,h=>by
  simp only[av]at h ⊢;exact h
 |.ptr i o,V0,V,h0,h=>by
  simp only[av]at h0 h ⊢;obtain⟨b0,gw,_⟩:=h0;obtain⟨b,hb,e⟩:=h;exact⟨b,by simp only[Sg.frz];rw[if_pos (hk.nlt gw)];exact hb,e⟩
 |.sl i o l cp opn,V0,V,h0,h=>by
  simp only[av]at h0 h ⊢;obtain⟨b0,gw,_⟩:=h0;obtain⟨b,hb,e⟩:=h;exact⟨b,by simp only[Sg.frz];rw[if_pos (hk.nlt gw)];exact hb,e⟩
 |.map i,V0,V,h0,h=>by
  simp only[av]at h0 h ⊢;obtain⟨b0,gw,_⟩:=h0;obtain⟨b,hb,e⟩:=h;exact⟨b,by simp only[Sg.frz];rw[if_pos (hk.nlt gw)];exact hb,e⟩
 |.yld i,V0,V,h0,h=>by
  simp only[av]at h0 h ⊢;obtain⟨b0,gw,_⟩:=h0;obtain⟨b,hb,e⟩:=h;exact⟨b,by simp only[Sg.frz];rw[if_pos (hk.nlt gw)];exact hb,e⟩
 |.agg l,V0,V,h0,h=>by
  simp only[av]at h0 h ⊢;obtain⟨L0,_,q0⟩:=h0;obtain⟨L,e,h1⟩:=h;exact⟨L,e,aC.back hk hl l L0 L q0 h1⟩
 |.tup l,V0,V,h0,h=>by
  simp only[av]at h0 h ⊢;obtain⟨L0,_,q0⟩:=h0;obtain⟨L,e,h1⟩:=h;exact⟨L,e,aC.back hk hl l L0 L q0 h1⟩
 |.iface t v,V0,V,h0,h=>by
  simp only[av]at h0 h ⊢;obtain⟨U0,_,q0⟩:=h0;obtain⟨U,e,h1⟩:=h;exact⟨U,e,av.back hk hl v U0 U q0 h1⟩
 |.func fn l m,V0,V,h0,h=>by
  simp only[av]at h0 h ⊢;obtain⟨A0,C0,_,p1,p2⟩:=h0;obtain⟨A,C,e,q1,q2⟩:=h;exact⟨A,C,e,aC.back hk hl l A0 A p1 q1,aC.back hk hl m C0 C p2 q2⟩
 |.ip l,V0,V,h0,h=>by
  simp only[av]at h0 h ⊢;obtain⟨_,_,_,L0,_,_,p2,_⟩:=h0;obtain⟨b,o,C,L,e,h1,h2,h3⟩:=h;exact⟨b,o,C,L,e,by simp only[Sg.frz];rw[h1],aC.back hk hl l L0 L p2 h2,h3⟩
 |.fz es full l,V0,V,h0,h=>by
  simp only[av]at h0 h ⊢;obtain⟨_,_,_,_,_,_,p3⟩:=h0;obtain⟨a,cap,e,g1,g2,g4,g3⟩:=h;refine⟨a,cap,e,g1,g2,g4,fun hx=>?_⟩;obtain⟨_,_,_,L0,_,_,p2,_⟩:=p3 hx;obtain⟨b,o,C,L,e1,h1,h2,h3⟩:=g3 hx;exact⟨b,o,C,L,e1,by simp only[Sg.frz];rw[h1],aC.back hk hl l L0 L p2 h2,h3⟩
def aC.back (hk:Ok G σ h nx w)(hl:σ.Le τ):∀(l:List AV)(L0 L:List Value),aC σ l L0→aC τ l L→aC (τ.frz x g nx) l L
 |[],L0,L,_,h=>by simpa only[aC]using h
 |v::l,L0,L,h0,h=>by
  simp only[aC]at h0 h ⊢;obtain⟨V0,L0',_,p1,p2⟩:=h0;obtain⟨V,L',e,q1,q2⟩:=h;exact⟨V,L',e,av.back hk hl v V0 V p1 q1,aC.back hk hl l L0' L' p2 q2⟩
end
def dC.back (hk:Ok G σ h nx w)(hl:σ.Le τ):∀{l E0 E},dC σ l E0→dC τ l E→dC (τ.frz x g nx) l E
 |[],E0,E,_,h=>h
 |(k,v,n)::l,E0,E,h0,h=>by
  simp only[dC]at h0 h ⊢;obtain⟨K0,V0,E0',_,p1,p2,p3⟩:=h0;obtain⟨K,V,E',e,h1,h2,h3⟩:=h;exact⟨K,V,E',e,av.back hk hl k K0 K p1 h1,av.back hk hl v V0 V p2 h2,dC.back hk hl p3 h3⟩
def cq.back (hk:Ok G σ h nx w)(hl:σ.Le τ){i:Nat}:∀{B o0 o},cq σ i B o0→cq τ i B o→cq (τ.frz x g nx) i B o
 |.cells e n c opn esz,o0,o,h0,h=>by
  simp only[cq]at h0 h ⊢;obtain⟨C0,_,_,p1,_,_⟩:=h0;obtain⟨C,fr,e,h1,h2,h3⟩:=h;refine⟨C,fr,e,fun k aW=>?_,h2,h3⟩;obtain⟨v0,V0,a1,a2,a3⟩:=p1 k aW;obtain⟨v,V,e1,e2,e3⟩:=h1 k aW;rw[a1]at e1;cases e1;exact⟨v0,V,a1,e2,av.back hk hl v0 V0 V a3 e3⟩
 |.map es cl,o0,o,h0,h=>by
  simp only[cq]at h0 h ⊢;obtain⟨E0,_,p1⟩:=h0;obtain⟨E,e,h1⟩:=h;exact⟨E,e,dC.back hk hl p1 h1⟩
 |.loop st bh fn sz tm ps assign body db,o0,o,h0,h=>by
  simp only[cq]at h0 h ⊢;obtain⟨T0,d0,_,_,_,p2,p3⟩:=h0;obtain⟨T,d,oN,e,h1,h2,h3⟩:=h;exact⟨T,d,oN,e,h1,fun t v ht=>av.back hk hl v _ _ (p2 t v ht) (h2 t v ht),by simp only[Sg.frz];rw[if_pos (hk.nlt p3)];exact h3⟩
 |.dfr,o0,o,_,h=>by simpa only[cq]using h
 |.miter i since seen jK,o0,o,h0,h=>by
  simp only[cq]at h0 h ⊢;obtain⟨b0,p1,_⟩:=h0;obtain⟨b,h1,h2⟩:=h;exact⟨b,by simp only[Sg.frz];rw[if_pos (hk.nlt p1)];exact h1,h2⟩
 |.siter s pos,o0,o,_,h=>by simpa only[cq]using h
def Post.frz (hk:Ok G σ h nx w)(p:Post G σ h nx w τ g ny x)(he:∀i,i<nx→g.get i=h.get i):Post G σ h nx w (τ.frz x g nx) h nx x:=by
 have bH:∀i B,h.get i=some B→i<nx∧g.get i=some B:=fun i B hi=>⟨hk.lt hi,by rw[he i (hk.lt hi)];exact hi⟩;have hle:σ.Le (τ.frz x g nx):=by
  refine⟨fun i b hb=>?_,p.le.opq,fun b C hb=>?_⟩
  ·have:=p.le.blk i b hb;refine⟨?_,this.2⟩;simp only[Sg.frz];rw[if_pos (hk.nlt hb)];exact this.1
  ·simp only[Sg.frz];rw[p.le.imm b C hb]
 have Ag:∀i b,i<nx→τ.blk i=some b→(τ.frz x g nx).blk i=some b:=fun i b hi hb=>by simp only[Sg.frz];rw[if_pos hi];exact hb
 have nv:∀i b,(τ.frz x g nx).blk i=some b→i<nx∧τ.blk i=some b:=fun i b hb=>by
  simp only[Sg.frz]at hb;split at hb
  ·exact⟨by assumption,hb⟩
  ·cases hb
 refine⟨⟨fun i hi=>(hle.blk i i (hk.glob i hi)).1,hk.le,fun i hi=>?_,fun i j b B B' h1 h2 h3 h4=>?_,fun i B h1=>?_,fun b C hb=>?_,fun i cs hi=>(hk.gl i cs hi).mono hle⟩,hle,⟨p.fr.os,p.fr.tape,p.fr.output,p.fr.size,p.fr.keep,fun i B b h1 h2=>?_,fun b C hb=>?_⟩,ae _⟩
 ·simp only[Sg.frz];rw[if_neg (by omega)]
 ·exact p.ok.inj i j b B B' (bH i B h1).2 (bH j B' h2).2 (nv i b h3).2 (nv j b h4).2
 ·obtain⟨b,o,q1,q2,q3⟩:=p.ok.blk i B (bH i B h1).2;obtain⟨b0,o0,r1,r2,r3⟩:=hk.blk i B h1;exact⟨b,o,Ag i b (bH i B h1).1 q1,q2,r3.back hk p.le q3⟩
 ·have jV:(τ.imm b=some C)∨(τ.imm b=none∧∃i e n c opn esz,nx≤i∧g.get i=some (.cells e n c opn esz)∧τ.blk i=some b):=by
   simp only[Sg.frz]at hb;cases hi:τ.imm b with
   |some D=>rw[hi]at hb;exact .inl hb
   |none=>
    rw[hi]at hb;simp only at hb;split at hb
    ·exact .inr ⟨rfl,by assumption⟩
    ·cases hb
  rcases jV with hi |⟨_,i,e,n,c,opn,esz,h1,h2,h3⟩
  ·obtain⟨q1,q2⟩:=p.ok.imm b C hi;exact⟨q1,fun j B hj e=>q2 j B (bH j B hj).2 (nv j b e).2⟩
  ·obtain⟨D,fr,r1,r2,_⟩:=Th (nx:=nx) p.ok h1 h2 h3;rw[hb]at r2;cases r2;refine⟨⟨e,fr,by simpa using r1⟩,fun j B hj e'=>?_⟩;have:=p.ok.inj j i b B _ (bH j B hj).2 h2 (nv j b e').2 h3;have:=(bH j B hj).1;omega
 ·exact .inr ⟨i,B,h1,by
   obtain⟨b0,o0,r1,_⟩:=hk.blk i B h1;have:=(p.le.blk i b0 r1).1;rw[(nv i b h2).2]at this;cases this;exact r1⟩
 ·simp only[Sg.frz]at hb;cases hi:τ.imm b with
  |some D=>rw[hi]at hb;cases hb;exact p.fr.imm b _ hi
  |none=>
   rw[hi]at hb;simp only at hb;split at hb
   ·rename_i hex;obtain⟨i,e,n,c,opn,esz,_,h2,h3⟩:=hex;exact .inr (p.fr.own i _ b h2 h3)
   ·cases hb
end
end
end Go.Ev
namespace Go.Ev
noncomputable section
variable {P : Program} {c : Cx} {h g : Tr ABlk} {nx ny sz : Nat}
def az (nx:Nat)(h g:Tr ABlk):Prop:=∀i,i<nx→g.get i=h.get i
def az.refl (nx:Nat)(h:Tr ABlk):az nx h h:=fun _ _=>rfl
def az.put {nx:Nat}{h g:Tr ABlk}(e:az nx h g){i:Nat}(hi:nx≤i)(B:Option ABlk):az nx h (g.put i B):=fun j hj=>by
 rw[Tr.get_put,if_neg (by omega)];exact e j hj
def bf.frz {f:FuncId}{args:List AV}{R:AV→Prop}(hc:bf P c f args h nx fun v g _=>az nx h g∧∃u,Fz g nx v u∧R u):bf P c f args h nx fun v g ny=>R v∧g=h∧ny=nx:=by
 intro σ w A hk hA;refine(hc σ w A hk hA).mono fun V x q=>?_;obtain⟨τ,v,g,ny,q1,q2,q3,u,q4,q5⟩:=q;exact⟨τ.frz x g nx,u,h,nx,q4.rel q2.ok V q1,Post.frz hk q2 q3,q5,rfl,rfl⟩
def aB (P:Program)(c:Cx)(f:FuncId)(args:List AV)(u:AV):Prop:=∀h nx,bf P c f args h nx fun v g ny=>v=u∧g=h∧ny=nx
def aB.use {f:FuncId}{args:List AV}{u:AV}(hr:aB P c f args u){R:AV→Tr ABlk→Nat→Prop}(hR:R u h nx):bf P c f args h nx R:=
 (hr h nx).mono fun v g ny ⟨e1,e2,e3⟩=>by subst e1;subst e2;subst e3;exact hR
def aB.of {f:FuncId}{args:List AV}{u:AV}(hr:∀h nx,bf P c f args h nx fun v g _=>az nx h g∧Fz g nx v u):aB P c f args u:=by
 intro h nx;have:=bf.frz (R:=fun v=>v=u) ((hr h nx).mono fun v g ny ⟨e,q⟩=>⟨e,u,q,rfl⟩);exact this
def aB.mk {f:FuncId}{args:List AV}{u:AV}(hr:∀h nx (R:AV→Tr ABlk→Nat→Prop),(∀v g ny,az nx h g→Fz g nx v u→R v g ny)→bf P c f args h nx R):aB P c f args u:=
 aB.of fun h nx=>hr h nx _ fun _ _ _ h1 h2=>⟨h1,h2⟩
end
end Go.Ev
namespace Go.Ev
noncomputable section
def gO (ops:Array Oper) (i j:Nat):Bool:=((ops[j]?).map (·.after.any fun e=>Region.binds .any e && e.on == i)).getD false
section
variable {P : Program} {F : Fence} {N : Nat} {ops : Array Oper} {Q : Exit → Act → World → Prop}
def BQ {l:Array Bool}{i:Nat}:i∈Region.ready .any ops l↔i<ops.size∧l.getD i true=false∧∀k,gO ops k i=true→l.getD k false=true:=by
 unfold Region.ready;rw[List.mem_filter,List.mem_range];constructor
 ·rintro⟨h1,h2⟩
  rw[ao]at h2;refine⟨h1,by simpa using h2.1,fun k hk=>?_⟩;have ho:ops[i]?=some ops[i]:=Array.getElem?_eq_getElem h1;have h3:=h2.2;rw[ho]at h3;simp only[Option.map_some,Option.getD_some,Array.all_eq_true']at h3;unfold gO at hk;rw[ho]at hk;simp only[Option.map_some,Option.getD_some,Array.any_eq_true']at hk;obtain⟨e,he,hb⟩:=hk;rw[ao]at hb;have:=h3 e he;rw[hb.1]at this;simp only[Bool.not_true,Bool.false_or]at this;have aW:e.on=k:=by simpa using hb.2
  rw[← aW];exact this
 ·rintro⟨h1,h2,h3⟩
  refine⟨h1,?_⟩;have ho:ops[i]?=some ops[i]:=Array.getElem?_eq_getElem h1;rw[ao];refine⟨by simpa using h2,?_⟩;rw[ho];simp only[Option.map_some,Option.getD_some,Array.all_eq_true'];intro e he
  by_cases hb:Region.binds .any e=true
  ·rw[hb];simp only[Bool.not_true,Bool.false_or];refine h3 e.on ?_;unfold gO;rw[ho];simp only[Option.map_some,Option.getD_some,Array.any_eq_true'];exact⟨e,he,by simp[hb]⟩
  ·simp[hb]
def qm (ops:Array Oper)(l:Array Bool):Prop:=∀j,l.getD j false=true→∀k,gO ops k j=true→l.getD k false=true
def zq {l:Array Bool}{i j:Nat}{d:Bool}(hi:i<l.size):(l.setIfInBounds i true).getD j d=if j=i then true else l.getD j d:=by
 simp only[Array.getD_eq_getD_getElem?,Array.getElem?_setIfInBounds]
 by_cases h:i=j
 ·subst h;simp[hi]
 ·have h':¬j=i:=fun e=>h e.symm;simp[h,h']
def Lx (I:Array Bool→Act→World→Prop)
  (step:∀l a w i,l.size=ops.size→I l a w→i∈Region.ready .any ops l→wpOpIn F N P ops Q i (I (l.setIfInBounds i true)) a w)
  (done:∀l a w,l.size=ops.size→I l a w→Region.ready .any ops l=[]→Q .normal a w):
  ∀(fuel:Nat) (l:Array Bool) (a:Act) (w:World),l.size=ops.size→(l.toList.count false≤fuel)→I l a w→wpAnyIn F N P .any ops Q fuel l a w:=by
 intro fuel
 induction fuel with
 |zero=>
  intro l a w hs hf hI;have hr:Region.ready .any ops l=[]:=by
   rw[List.eq_nil_iff_forall_not_mem];intro i hi;obtain⟨h1,h2,_⟩:=BQ.1 hi;have ay:i<l.size:=by omega
   have FZ:l[i]=false:=by simpa[Array.getD,ay]using h2
   have hm:false∈l.toList:=by rw[← FZ];simp
   have:=List.count_pos_iff.2 hm;omega
  exact⟨hr,done l a w hs hI hr⟩
 |succ fuel ih=>
  intro l a w hs hf hI;refine⟨fun hr=>done l a w hs hI hr,fun i hi=>?_⟩;refine wpOpIn_mono (fun a' w' hI'=>ih _ a' w' (by simpa using hs) ?_ hI') (step l a w i hs hI hi);obtain⟨h1,h2,_⟩:=BQ.1 hi;have ay:i<l.size:=by omega
  have FZ:l[i]=false:=by simpa[Array.getD,ay]using h2
  have:(l.setIfInBounds i true).toList.count false+1=l.toList.count false:=by
   rw[Array.toList_setIfInBounds];rw[List.count_set (by simpa using ay)];have e:l.toList[i]'(by simpa using ay)=false:=by simpa using FZ
   have cM:0<l.toList.count false:=List.count_pos_iff.2 (by rw[← e];exact ah _);rw[e];simp only[beq_self_eq_true,if_true];have e2:(true == false)=false:=rfl;rw[e2];simp only[Bool.false_eq_true,if_false];omega
  omega
def Mf {l:Array Bool}(hb:∀i,i<ops.size→∀k,gO ops k i=true→k<i)(hr:Region.ready .any ops l=[])(hs:l.size=ops.size):∀i,i<ops.size→l.getD i false=true:=by
 intro i
 induction i using Nat.strongRecOn with
 |_ i ih=>
  intro hi;cases hl:l.getD i false with
  |true=>rfl
  |false=>
   have ay:i<l.size:=(by omega);have:i∈Region.ready .any ops l:=BQ.2 ⟨hi,by simpa[Array.getD,ay]using hl,fun k hk=>ih k (hb i hi k hk) (by have:=hb i hi k hk;omega)⟩;rw[hr]at this;cases this
end
noncomputable section
variable {P : Program} {c : Cx} {σ τ υ : Sg} {h g f : Tr ABlk} {nx ny nz sz : Nat} {ds : List DE} {w x y : World} {tm tm' : Tr AV} {a : Act}
def fx (ops:List Oper)(o:Oper):List Tmp:=
 (o.op.operands.toList.filterMap fun |.tmp t=>some t |_=>none)++(match o.guard with
  |none=>[]
  |some (j,_)=>match ops[j]? with
   |some oj=>oj.dst.toList
   |none=>[])
def gT (l:List Tmp)(tm:Tr AV):Tr AV:=match l with
 |[]=>.nil
 |t::l=>(gT l tm).put t (tm.get t)
def Ef:∀(l:List Tmp)(tm:Tr AV)(t:Tmp),(gT l tm).get t=if t∈l then tm.get t else none
 |[],tm,t=>by simp[gT];rfl
 |u::l,tm,t=>by
  rw[gT,Tr.get_put,Ef l tm t]
  by_cases h1:t=u
  ·subst h1;simp
  ·simp[h1]
def zxr:∀{l:List Tmp},(∀t∈l,tm.get t=tm'.get t)→gT l tm=gT l tm'
 |[],_=>rfl
 |u::l,h=>by
  rw[gT,gT,h u (by simp),zxr fun t ht=>h t (by simp[ht])]
def iH (P:Program)(c:Cx)(r:Option Nat)(ops:Array Oper)(o:Oper)(v:AV)(tm:Tr AV)(h:Tr ABlk) (nx:Nat)(g:Tr ABlk) (ny:Nat):Prop:=
 ∀(σ:Sg) (a:Act) (w:World),Ok c.G σ h nx w→kE σ tm a→∀(Q:Exit→Act→World→Prop) (K:Act→World→Prop),(∀τ x V,av τ v V→Post c.G σ h nx w τ g ny x→K (a.put o.dst V) x)→
  if Region.wanted o (yielded ops a.tmps) then o.wpIn (dT r) 0 P a w K Q else (∀f,o.about P w a.eval=some f→(dT r).fn f)∧K (a.put o.dst undef) w
def TL (ops:Array Oper)(v:Nat→AV)(tm:Tr AV)(l:Nat→Bool):Nat→Tr AV
 |0=>tm
 |i+1=>match l i with
  |false=>TL ops v tm l i
  |true=>match (ops[i]?).bind (·.dst) with
   |none=>TL ops v tm l i
   |some d=>(TL ops v tm l i).put d (some (v i))
def DS {ops:Array Oper}{v:Nat→AV}{l:Nat→Bool}{i:Nat}{t:Tmp}(h1:l i=true→(ops[i]?).bind (·.dst)≠some t):(TL ops v tm l (i+1)).get t=(TL ops v tm l i).get t:=by
 rw[TL];cases hl:l i with
 |false=>rfl
 |true=>
  simp only;cases hd:(ops[i]?).bind (·.dst) with
  |none=>rfl
  |some d=>
   simp only;rw[Tr.get_put,if_neg fun e=>h1 hl (by rw[hd,e])]
def KZ {ops:Array Oper}{v:Nat→AV}{l:Nat→Bool}{i:Nat}{t:Tmp}(hl:l i=true)(hd:(ops[i]?).bind (·.dst)=some t):(TL ops v tm l (i+1)).get t=some (v i):=by
 rw[TL,hl];simp only;rw[hd];simp only;rw[Tr.get_put,if_pos rfl]
def zB {ops:Array Oper}{v:Nat→AV}{l k:Nat→Bool}{t:Tmp}:∀(n:Nat),(∀j,j<n→(ops[j]?).bind (·.dst)=some t→l j=k j)→(TL ops v tm l n).get t=(TL ops v tm k n).get t
 |0,_=>rfl
 |n+1,hs=>by
  have ih:=zB (v:=v) (l:=l) (k:=k) (t:=t) n fun j hj hd=>hs j (by omega) hd
  by_cases hd:(ops[n]?).bind (·.dst)=some t
  ·have e:=hs n (by omega) hd;cases hl:l n with
   |true=>
    rw[hl]at e;rw[KZ hl hd,KZ e.symm hd]
   |false=>
    rw[hl]at e;rw[DS (by rw[hl];intro h;cases h),DS (by rw[← e];intro h;cases h),ih]
  ·rw[DS fun _=>hd,DS fun _=>hd,ih]
def zc {ops:Array Oper}{v:Nat→AV}{l:Nat→Bool}{t:Tmp}(m:Nat):∀(n:Nat),(∀j,m≤j→j<m+n→(ops[j]?).bind (·.dst)=some t→l j=false)→(TL ops v tm l (m+n)).get t=(TL ops v tm l m).get t
 |0,_=>rfl
 |n+1,hs=>by
  rw[show m+(n+1)=m+n+1 by omega,DS,zc m n fun j h1 h2 h3=>hs j h1 (by omega) h3];intro hl hd;rw[hs (m+n) (by omega) (by omega) hd]at hl;cases hl
structure Dr (P:Program)(c:Cx)(r:Option Nat) (sz:Nat)(ops:Array Oper)(S:Nat→Tr AV×Tr ABlk×Nat)(v:Nat→AV)(W:Nat→Bool)(bef:Nat→Nat→Bool):Prop where
 back:∀i,i<ops.size→∀k,gO ops k i=true→k<i
 befOk:∀i j,bef i j=true→∀l:Array Bool,qm ops l→(∀k,gO ops k j=true→l.getD k false=true)→l.getD i false=true
 tmps:∀i j o p d,ops[i]?=some o→ops[j]?=some p→i≠j→p.dst=some d→(d∈fx ops.toList o∨o.dst=some d)→(j<i→bef j i=true)∧(i<j→bef i j=true)
 chain:∀i j,i<j→j<ops.size→W i=true→W j=true→bef i j=true
 step:∀i o,ops[i]?=some o→iH P c r ops o (v i) (gT (fx ops.toList o) (S i).1) (S i).2.1 (S i).2.2 (S (i+1)).2.1 (S (i+1)).2.2∧(∀d,o.dst=some d→d<sz)∧(S (i+1)).1=(match o.dst with |none=>(S i).1 |some d=>(S i).1.put d (some (v i)))
 keep:∀i,i<ops.size→W i=false→(S (i+1)).2=(S i).2
 dyn:∀i o,ops[i]?=some o→W i=false→∀p,p≤ops.size→(p=0∨W (p-1)=true)→(∀j,j<ops.size→W j=true→(bef j i=true→j<p)∧(bef i j=true→p≤j))→
  iH P c r ops o (v i) (gT (fx ops.toList o) (S i).1) (S p).2.1 (S p).2.2 (S p).2.1 (S p).2.2
section
variable {r : Option Nat} {ops : Array Oper} {S : Nat → Tr AV × Tr ABlk × Nat} {v : Nat → AV} {W : Nat → Bool} {bef : Nat → Nat → Bool}
def Dr.same (R:Dr P c r sz ops S v W bef) (p:Nat):∀(n:Nat),p+n≤ops.size→(∀j,p≤j→j<p+n→W j=false)→(S p).2=(S (p+n)).2
 |0,_,_=>rfl
 |n+1,hn,hw=>by
  rw[show p+(n+1)=p+n+1 by omega,R.keep (p+n) (by omega) (hw _ (by omega) (by omega))];exact R.same p n (by omega) fun j h1 h2=>hw j h1 (by omega)
def Dr.text (R:Dr P c r sz ops S v W bef):∀(i:Nat),i≤ops.size→∀t,(S i).1.get t=(TL ops v (S 0).1 (fun _=>true) i).get t
 |0,_,t=>rfl
 |i+1,hi,t=>by
  have e2:ops[i]?=some ops[i]:=Array.getElem?_eq_getElem (by omega);obtain⟨_,_,e5⟩:=R.step i _ e2;have ih:=R.text i (by omega) t;rw[e5]
  by_cases hd:(ops[i]).dst=some t
  ·rw[KZ rfl (by rw[e2];exact hd),hd];simp only;rw[Tr.get_put,if_pos rfl]
  ·rw[DS fun _=>by rw[e2];exact hd,← ih];cases FR:(ops[i]).dst with
   |none=>rfl
   |some d=>
    simp only;rw[Tr.get_put,if_neg fun e=>hd (by rw[FR,e])]
def lf (l:Array Bool) (i:Nat):Bool:=l.getD i false
structure DInv (c:Cx) (sz:Nat)(ops:Array Oper)(S:Nat→Tr AV×Tr ABlk×Nat)(v:Nat→AV)(W:Nat→Bool)(σ0:Sg)(w0:World)(D0:List Deferred)(l:Array Bool)(a:Act)(w:World):Prop where
 closed:qm ops l
 inn:∀i,l.getD i false=true→i<ops.size
 pos:∃p σ,p≤ops.size∧(p=0∨W (p-1)=true)∧(∀j,j<ops.size→W j=true→(l.getD j false=true↔j<p))∧
  Post c.G σ0 (S 0).2.1 (S 0).2.2 w0 σ (S p).2.1 (S p).2.2 w∧kE σ (TL ops v (S 0).1 (lf l) ops.size) a
 size:a.tmps.size=sz
 defers:a.defers=D0
def Dr.stepI (R:Dr P c r sz ops S v W bef){D0:List Deferred}{QQ:Exit→Act→World→Prop}{l:Array Bool}{a1:Act}{w1:World}{i:Nat}(hs:l.size=ops.size)(I:DInv c sz ops S v W σ w D0 l a1 w1)(ct:i<ops.size)(cS:l.getD i false=false)(ba:∀k,gO ops k i=true→l.getD k false=true):
  wpOpIn (dT r) 0 P ops QQ i (DInv c sz ops S v W σ w D0 (l.setIfInBounds i true)) a1 w1:=by
 obtain⟨o,e2⟩:∃o,ops[i]?=some o:=⟨_,Array.getElem?_eq_getElem ct⟩;obtain⟨e3,e4,e5⟩:=R.step i o e2;obtain⟨p,τ,hp,ve,cM,bE,rQ⟩:=I.pos;have bw:∀j,bef j i=true→l.getD j false=true:=fun j hj=>R.befOk j i hj l I.closed ba;have jH:∀j,bef i j=true→l.getD j false=false:=by
  intro j hj;cases hl:l.getD j false with
  |false=>rfl
  |true=>
   have:=R.befOk i j hj l I.closed fun k aW=>I.closed j hl k aW;rw[cS]at this;cases this
 have th:∀(j:Nat) (t:Tmp),(ops[j]?).bind (fun q:Oper=>q.dst)=some t→∃p:Oper,ops[j]?=some p∧p.dst=some t:=by
  intro j t hj;cases wR:ops[j]? with
  |none=>rw[wR]at hj;cases hj
  |some q=>rw[wR]at hj;exact⟨q,rfl,hj⟩
 have ri:∀t∈fx ops.toList o,(S i).1.get t=(TL ops v (S 0).1 (lf l) ops.size).get t:=by
  intro t ht;rw[R.text i (by omega) t];have q1:=zc (tm:=(S 0).1) (ops:=ops) (v:=v) (l:=lf l) (t:=t) i (ops.size-i) fun j mh fm tv=>by
   obtain⟨q,vf,rf⟩:=th j t tv
   by_cases eX:j=i
   ·subst eX;exact cS
   ·exact jH j ((R.tmps i j o q t e2 vf (fun e=>eX e.symm) rf (.inl ht)).2 (by omega))
  rw[show i+(ops.size-i)=ops.size by omega]at q1;rw[q1];refine zB i fun j hj tv=>?_;obtain⟨q,vf,rf⟩:=th j t tv;exact(bw j ((R.tmps i j o q t e2 vf (by omega) rf (.inl ht)).1 hj)).symm
 have Pg:kE τ (gT (fx ops.toList o) (S i).1) a1:=by
  rw[zxr ri];intro t u hu;rw[Ef]at hu;split at hu
  ·exact rQ t u hu
  ·cases hu
 have iZ:i<l.size:=by omega
 have cg:∀j,(l.setIfInBounds i true).getD j false=if j=i then true else l.getD j false:=fun j=>zq iZ
 have eC:qm ops (l.setIfInBounds i true):=by
  intro j hj k aW;rw[cg]at hj ⊢
  by_cases qT:k=i
  ·rw[if_pos qT]
  ·rw[if_neg qT]
   by_cases eX:j=i
   ·subst eX;exact ba k aW
   ·rw[if_neg eX]at hj;exact I.closed j hj k aW
 have oU:∀j,(l.setIfInBounds i true).getD j false=true→j<ops.size:=by
  intro j hj;rw[cg]at hj
  by_cases eX:j=i
  ·omega
  ·rw[if_neg eX]at hj;exact I.inn j hj
 have A5:∀(υ:Sg) (V:Value),τ.Le υ→av υ (v i) V→kE υ (TL ops v (S 0).1 (lf (l.setIfInBounds i true)) ops.size) (a1.put o.dst V):=by
  intro υ V hle hV t u hu;have aT:∀t,o.dst≠some t→(TL ops v (S 0).1 (lf (l.setIfInBounds i true)) ops.size).get t=(TL ops v (S 0).1 (lf l) ops.size).get t:=by
   intro t hd;refine zB ops.size fun j hj tv=>?_;show (l.setIfInBounds i true).getD j false=l.getD j false;rw[cg]
   by_cases eX:j=i
   ·subst eX;rw[e2]at tv;exact absurd tv hd
   ·rw[if_neg eX]
  cases hd:o.dst with
  |none=>
   rw[aT t (by rw[hd];intro e;cases e)]at hu;exact(rQ t u hu).mono hle
  |some d=>
   have FV:d<a1.tmps.size:=by rw[I.size];exact e4 d hd
   by_cases nM:t=d
   ·subst nM;have q1:=zc (tm:=(S 0).1) (ops:=ops) (v:=v) (l:=lf (l.setIfInBounds i true)) (t:=t) (i+1) (ops.size-(i+1)) fun j mh fm tv=>by
     obtain⟨q,vf,rf⟩:=th j t tv;show (l.setIfInBounds i true).getD j false=false;rw[cg,if_neg (by omega)];exact jH j ((R.tmps i j o q t e2 vf (by omega) rf (.inr hd)).2 (by omega))
    rw[show i+1+(ops.size-(i+1))=ops.size by omega]at q1;rw[q1,KZ (show (l.setIfInBounds i true).getD i false=true by rw[cg,if_pos rfl]) (by rw[e2];exact hd)]at hu;cases hu;simpa[Act.put,Array.getD_eq_getD_getElem?,FV]using hV
   ·rw[aT t (by rw[hd];intro e;cases e;exact nM rfl)]at hu;have:=(rQ t u hu).mono hle;simpa[Act.put,Array.getD_eq_getD_getElem?,Array.getElem?_setIfInBounds,Ne.symm nM]using this
 have bC:∀V:Value,(a1.put o.dst V).tmps.size=sz:=by
  intro V;cases hd:o.dst with
  |none=>exact I.size
  |some d=>simpa[Act.put]using I.size
 have pM:∀V:Value,(a1.put o.dst V).defers=D0:=by
  intro V;cases hd:o.dst with
  |none=>exact I.defers
  |some d=>exact I.defers
 have fin:∀(p':Nat),iH P c r ops o (v i) (gT (fx ops.toList o) (S i).1) (S p).2.1 (S p).2.2 (S p').2.1 (S p').2.2→
   (p'≤ops.size∧(p'=0∨W (p'-1)=true)∧(∀j,j<ops.size→W j=true→((l.setIfInBounds i true).getD j false=true↔j<p')))→
   wpOpIn (dT r) 0 P ops QQ i (DInv c sz ops S v W σ w D0 (l.setIfInBounds i true)) a1 w1:=by
  intro p' eZ gR;obtain⟨oM,Cu,TP⟩:=gR;unfold wpOpIn;rw[e2];exact eZ τ a1 w1 bE.ok Pg QQ (DInv c sz ops S v W σ w D0 (l.setIfInBounds i true)) (fun υ x V hV hP=>
   ⟨eC,oU,⟨p',υ,oM,Cu,TP,bE.trans hP,A5 υ V hP.le hV⟩,bC V,pM V⟩)
 cases hW:W i with
 |false=>
  have hvalid:∀j,j<ops.size→W j=true→(bef j i=true→j<p)∧(bef i j=true→p≤j):=by
   intro j hj hw;refine⟨fun hb=>(cM j hj hw).1 (bw j hb),fun hb=>?_⟩;have:=jH j hb
   rcases Nat.lt_or_ge j p with h5 |h5
   ·rw[(cM j hj hw).2 h5]at this;cases this
   ·exact h5
  refine fin p (R.dyn i o e2 hW p hp ve hvalid) ⟨hp,ve,fun j hj hw=>?_⟩;rw[cg]
  by_cases eX:j=i
  ·subst eX;rw[hW]at hw;cases hw
  ·rw[if_neg eX];exact cM j hj hw
 |true=>
  have lH:¬i<p:=fun hh=>by
   have:=(cM i ct hW).2 hh;rw[cS]at this;cases this
  have oV:∀j,p≤j→j<p+(i-p)→W j=false:=by
   intro j h5 h6;cases hw:W j with
   |false=>rfl
   |true=>
    have:=(cM j (by omega) hw).1 (bw j (R.chain j i (by omega) ct hw hW));omega
  have cO:=R.same p (i-p) (by omega) oV;rw[Nat.add_sub_cancel' (by omega)]at cO;have eZ:iH P c r ops o (v i) (gT (fx ops.toList o) (S i).1) (S p).2.1 (S p).2.2 (S (i+1)).2.1 (S (i+1)).2.2:=by
   rw[cO];exact e3
  refine fin (i+1) eZ ⟨by omega,.inr hW,fun j hj hw=>?_⟩;rw[cg]
  by_cases eX:j=i
  ·subst eX;simp
  ·rw[if_neg eX];constructor
   ·intro hl
    rcases Nat.lt_or_ge j i with h5 |h5
    ·omega
    ·have:=jH j (R.chain i j (by omega) hj hW hw);rw[hl]at this;cases this
   ·intro h5;exact bw j (R.chain j i (by omega) ct hw hW)
def zF8 (hm:P.follows .mixedOrders=true)(R:Dr P c r sz ops S v W bef)(hk:Ok c.G σ (S 0).2.1 (S 0).2.2 w)(st:St σ (S 0).1 a sz ds) (id:Nat){Q:AX→AS→Prop}(hQ0:Q .norm (.mk (S ops.size).1 (S ops.size).2.1 (S ops.size).2.2 ds)):
  (Code.region id ops true).wpIn (dT r) 0 P (AQ c.G σ (S 0).2.1 (S 0).2.2 w sz Q) a w:=by
 refine wpIn_region_any hm ?_;have jt:=Post.drawn hk (w.drawn+1);generalize hQ:AQ c.G σ (S 0).2.1 (S 0).2.2 w sz Q=QQ;have dQ:∀i,(Array.replicate ops.size false).getD i false=false:=by
  intro i;simp only[Array.getD_eq_getD_getElem?,Array.getElem?_replicate];split <;> rfl
 have hwf:∀(l:Array Bool) (i:Nat),l.size=ops.size→i∈Region.ready .any ops l→i<ops.size∧l.getD i false=false∧∀k,gO ops k i=true→l.getD k false=true:=by
  intro l i hs hi;obtain⟨h1,h2,h3⟩:=BQ.1 hi;have ay:i<l.size:=by omega
  exact⟨h1,by simpa[Array.getD,ay]using h2,h3⟩
 refine Lx (DInv c sz ops S v W σ w a.defers) ?step ?done ops.size _ a _ (by simp) ?count ?init
 case count=>
  simp
 case init=>
  refine⟨(fun j hj=>by rw[dQ]at hj;cases hj),(fun i hi=>by rw[dQ]at hi;cases hi),⟨0,σ,by omega,.inl rfl,(fun j _ _=>⟨(fun e=>by rw[dQ]at e;cases e),(fun e=>by omega)⟩),jt,?_⟩,st.size,rfl⟩;intro t u e;have:(TL ops v (S 0).1 (lf (Array.replicate ops.size false)) ops.size).get t=(S 0).1.get t:=by
   have:=zc (tm:=(S 0).1) (ops:=ops) (v:=v) (l:=lf (Array.replicate ops.size false)) (t:=t) 0 ops.size fun j _ _ _=>dQ j;rw[Nat.zero_add]at this;exact this
  rw[this]at e;exact st.tm t u e
 case done=>
  intro l a1 w1 hs I hr;have aQ:=Mf R.back hr hs;obtain⟨p,τ,hp,ve,cM,bE,rQ⟩:=I.pos;have oV:∀j,p≤j→j<p+(ops.size-p)→W j=false:=by
   intro j h1 h2;cases hw:W j with
   |false=>rfl
   |true=>
    have:=(cM j (by omega) hw).1 (aQ j (by omega));omega
  have cO:=R.same p (ops.size-p) (by omega) oV;rw[Nat.add_sub_cancel' hp]at cO;rw[← hQ];refine⟨.norm,_,_,_,ds,τ,rfl,?_,⟨?_,I.size,?_⟩,hQ0⟩
  ·rw[cO]at bE;exact bE
  ·intro t u e;refine rQ t u ?_;rw[R.text ops.size (ae _) t]at e;rw[← e];exact zB ops.size fun j hj _=>aQ j hj
  ·rw[I.defers];exact st.defers.mono bE.le
 case step=>
  intro l a1 w1 i hs I hi;obtain⟨ct,cS,ba⟩:=hwf l i hs hi;exact R.stepI hs I ct cS ba
end
end
section
variable {P : Program} {c : Cx} {tm tm' : Tr AV} {h h' : Tr ABlk} {nx ax : Nat}
def R.rem (h:Tr ABlk) (nx:Nat):R→R
 |.val v _ _=>.val v h nx
 |.unit _ _=>.fail
 |.fail=>.fail
def ZZ {α:Type}(o:Option α)(k k':α→R)(hk:∀a,k' a=(k a).rem h nx):bR o k'=(bR o k).rem h nx:=by
 cases o with
 |none=>rfl
 |some a=>exact hk a
def zQg (b:Bool):vBool b h' ax=(vBool b h nx).rem h' ax:=by cases b <;> rfl
def D9 (n:Nat):vInt n h' ax=(vInt n h nx).rem h' ax:=by simp only[vInt,fN_eq];rfl
def zQz (op:BinOp)(k:IntKind) (a b:Int):iR op k a b h' ax=(iR op k a b h nx).rem h' ax:=by
 unfold iR;simp only[fI_eq];cases op <;> first |rfl |(repeat' split) <;> rfl
def zTu (op:BinOp)(k:IntKind) (a b:Int):ur op k a b h' ax=(ur op k a b h nx).rem h' ax:=by
 unfold ur;simp only[fI_eq,fN_eq]
 repeat' split
 all_goals rfl
def zTr (op:BinOp) (l n k m:Nat):zD op l n k m h' ax=(zD op l n k m h nx).rem h' ax:=by
 unfold zD;simp only[fN_eq]
 repeat' split
 all_goals rfl
def zT5 (op:BinOp)(a b:ByteArray):jg op a b h' ax=(jg op a b h nx).rem h' ax:=by
 unfold jg
 repeat' split
 all_goals rfl
def zI4 (ti:TI)(eqs:Option (List (Nat×TypeDesc)))(b:Bool)(op:BinOp)(x y:AV):xI ti eqs b op x y h' ax=(xI ti eqs b op x y h nx).rem h' ax:=by
 unfold xI
 repeat' split
 all_goals first |exact zQg _ |rfl
def zI1 (ti:TI)(eqs:Option (List (Nat×TypeDesc)))(b:Bool)(op:BinOp)(x y:AV):xU ti eqs b op x y h' ax=(xU ti eqs b op x y h nx).rem h' ax:=by
 unfold xU
 repeat' split
 all_goals first |exact zTu _ _ _ _ |exact zQz _ _ _ _ |exact zTr _ _ _ _ _ |exact zT5 _ _ _ |exact zI4 _ _ _ _ _ _ |rfl
def zG5 (op:UnOp)(x:AV):vQ op x h' ax=(vQ op x h nx).rem h' ax:=by
 unfold vQ;simp only[fI_eq]
 repeat' split
 all_goals rfl
def zGj (ti:TI)(t:TypeId)(x:AV):xH ti t x h' ax=(xH ti t x h nx).rem h' ax:=by
 unfold xH
 repeat' split
 all_goals rfl
def zIi (ti:TI)(a:AV) (k:Nat):xy ti a k h' ax=(xy ti a k h nx).rem h' ax:=by
 unfold xy;simp only[fN_eq]
 repeat' split
 all_goals rfl
def zJ1 (ti:TI)(a:AV) (k:Nat):xD ti a k h' ax=(xD ti a k h nx).rem h' ax:=by
 unfold xD
 repeat' split
 all_goals rfl
def zPo (ti:TI)(a b:AV):kh ti a b h' ax=(kh ti a b h nx).rem h' ax:=by
 unfold kh;simp only[fN_eq]
 repeat' split
 all_goals rfl
def zR7 (ti:TI)(a b:AV):uy ti a b h' ax=(uy ti a b h nx).rem h' ax:=by
 unfold uy;simp only[fN_eq]
 repeat' split
 all_goals rfl
def zJi (a:AV) (k:Nat):xK a k h' ax=(xK a k h nx).rem h' ax:=by
 unfold xK
 repeat' split
 all_goals rfl
def zHm (ti:TI)(a:AV)(lo hi mx:Option AV):xO ti a lo hi mx h' ax=(xO ti a lo hi mx h nx).rem h' ax:=by
 unfold xO;simp only[fN_eq]
 repeat' split
 all_goals rfl
def zMu (ti:TI)(t:TypeId)(ok:Bool)(a:AV):zA ti t ok a h' ax=(zA ti t ok a h nx).rem h' ax:=by
 unfold zA
 repeat' split
 all_goals rfl
def zFo (ok:Bool)(z:AV)(r:Option (Nat×AV)):bX ok z r h' ax=(bX ok z r h nx).rem h' ax:=by
 unfold bX
 repeat' split
 all_goals rfl
def zT9 (ti:TI)(ps:List (Nat×AV)):uz ti ps h' ax=(uz ti ps h nx).rem h' ax:=by
 unfold uz
 repeat' split
 all_goals rfl
def zL9 (ti:TI)(a:AV):zp ti a h' ax=(zp ti a h nx).rem h' ax:=by
 unfold zp
 repeat' split
 all_goals first |exact D9 _ |rfl
def Zd (b:Bool)(l:List AV):qs b l h' ax=(qs b l h nx).rem h' ax:=by
 unfold qs
 repeat' split
 all_goals rfl
def zP6:AV→Option Nat
 |.ptr k _=>some k
 |.map k=>some k
 |.sl k _ _ _ _=>some k
 |_=>none
def gJ (v:Option AV)(h h':Tr ABlk):Prop:=match v with
 |some v=>match zP6 v with
  |some k=>h'.get k=h.get k
  |none=>True
 |none=>True
def zN7 (ti:TI)(a:AV)(hk:gJ (some a) h h'):jN ti a h' ax=(jN ti a h nx).rem h' ax:=by
 cases ti with
 |mk d size b z fs=>
 cases a <;> try rfl
 ·rename_i i o;have e:h'.get i=h.get i:=hk;unfold jN;simp only[e]
  repeat' split
  all_goals rfl
 ·rename_i cs;simp only[jN];cases kB d with
  |true=>simp only;split <;> rfl
  |false=>cases cs <;> rfl
def zNi (ti:TI)(tk te:Option TI)(kt et:TypeId)(ok:Bool)(m k:AV)(hk:gJ (some m) h h'):xv ti tk te kt et ok m k h' ax=(xv ti tk te kt et ok m k h nx).rem h' ax:=by
 unfold xv;cases m
 case map i=>
  have e:h'.get i=h.get i:=hk;simp only[e]
  repeat' split
  all_goals first |exact zFo _ _ _ |rfl
 all_goals
  simp only
  repeat' split
  all_goals first |exact zFo _ _ _ |rfl
def zQs (ti:TI)(a:AV)(hk:gJ (some a) h h'):k8 ti a h' ax=(k8 ti a h nx).rem h' ax:=by
 cases ti with
 |mk d size b z fs=>
 cases d <;> try rfl
 ·cases a <;> first |rfl |exact D9 _
 ·cases a <;> first |rfl |exact D9 _
 ·exact D9 _
 ·cases a <;> try first |rfl |exact D9 _
  rename_i i;have e:h'.get i=h.get i:=hk;unfold k8;simp only[e]
  repeat' split
  all_goals first |exact D9 _ |rfl
def zJm (ts td:TI)(te:Option TI)(et:TypeId)(v:AV)(hs:∀e s b z f,td≠.mk (.slice e) s b z f)(hk:gJ (some v) h h'):fC ts td te et v h' ax=(fC ts td te et v h nx).rem h' ax:=by
 cases ts with
 |mk ds s1 s2 s3 s4=>
 cases td with
 |mk dd d1 d2 d3 d4=>
 cases dd <;> try rfl
 ·cases v <;> rfl
 ·cases v <;> try rfl
  ·unfold fC;simp only
   repeat' split
   all_goals rfl
  ·rename_i i o l cp opn;have e:h'.get i=h.get i:=hk;unfold fC;simp only[e]
   repeat' split
   all_goals rfl
 ·exact absurd rfl (hs _ _ _ _ _)
def pI (op:Op):Option Operand:=match op with
 |.load _ x=>some x
 |.lookup _ m _ _=>some m
 |.convert _ _ x=>some x
 |.call cl=>cl.args.toList.head?
 |_=>none
def Ew:Option TI→Bool
 |some (.mk (.slice _) _ _ _ _)=>true
 |some (.mk .unsafePointer _ _ _ _)=>true
 |_=>false
def zF3 (c:Cx)(op:Op):Bool:=
 match op with
 |.move _=>false |.assign _=>false |.pick _ _ _=>false |.build _ _=>false |.load _ _=>false |.nilCheck _=>false |.binOp _ _ _ _ _=>false |.unOp _ _ _=>false
 |.convert s d _=>Ew (c.tt.get d) || Ew (c.tt.get s)
 |.makeInterface _ _=>false |.makeFunc _ _ _=>false |.slice _ _ _ _ _=>false |.fieldAddr _ _ _=>false |.field _ _ _=>false |.indexAddr _ _ _=>false |.index _ _ _=>false
 |.lookup _ _ _ _=>false |.typeAssert _ _ _ _=>false |.extract _ _=>false
 |.call cl=>match cl.callee with
  |.builtin .len=>false
  |.builtin .cap=>false
  |.builtin .max=>false
  |.builtin .min=>false
  |_=>true
 |_=>true
def zUk (hG:c.G.sym=true)(op:Op)(hw:zF3 c op=false)(hk:gJ ((pI op).bind (aL c.G tm)) h h'):jq c op tm h' ax=(jq c op tm h nx).rem h' ax:=by
 have dB:∀x a,(pI op).bind (aL c.G tm)=aL c.G tm x→aL c.G tm x=some a→gJ (some a) h h':=fun x a e1 e2=>by rw[e1,e2]at hk;exact hk
 have cQ:∀{α:Type} (o:Option α) (k k':α→R),(∀a,o=some a→k' a=(k a).rem h' ax)→bR o k'=(bR o k).rem h' ax:=by
  intro α o k k' hh;cases o with
  |none=>rfl
  |some a=>exact hh a rfl
 cases op <;> try (cases hw;done)
 ·exact cQ _ _ _ fun _ _=>rfl
 ·exact cQ _ _ _ fun _ _=>rfl
 ·refine cQ _ _ _ fun v _=>?_;split
  ·exact cQ _ _ _ fun _ _=>rfl
  ·exact cQ _ _ _ fun _ _=>rfl
  ·rfl
 ·exact cQ _ _ _ fun _ _=>cQ _ _ _ fun _ _=>zT9 _ _
 ·exact cQ _ _ _ fun _ _=>cQ _ _ _ fun a ha=>zN7 _ _ (dB _ a rfl ha)
 ·refine cQ _ _ _ fun v _=>?_;split <;> rfl
 ·exact cQ _ _ _ fun _ _=>cQ _ _ _ fun _ _=>cQ _ _ _ fun _ _=>zI1 _ _ _ _ _ _
 ·exact cQ _ _ _ fun _ _=>zG5 _ _
 ·rename_i s d x;show sd c s d x tm h' ax=(sd c s d x tm h nx).rem h' ax;unfold sd;refine cQ _ _ _ fun ts e9=>cQ _ _ _ fun td nM=>?_;have rR:(Ew (c.tt.get d) || Ew (c.tt.get s))=false:=hw;rw[e9,nM,Bool.or_eq_false_iff]at rR;have lJ:Bf td=false:=by
   have:=rR.1;cases td with
   |mk dd _ _ _ _=>cases dd <;> first |rfl |(cases this;done)
  have lK:Bf ts=false:=by
   have:=rR.2;cases ts with
   |mk dd _ _ _ _=>cases dd <;> first |rfl |(cases this;done)
  rw[lJ,lK];simp only;unfold HF;refine cQ _ _ _ fun ts' qas=>cQ _ _ _ fun td' GK=>cQ _ _ _ fun a ha=>?_;rw[hG];simp only;refine zJm _ _ _ _ _ (fun e s b z f et=>?_) (dB _ a rfl ha);rw[nM]at GK;cases GK;rw[et]at rR;cases rR.1
 ·exact cQ _ _ _ fun _ _=>cQ _ _ _ fun _ _=>zGj _ _ _
 ·rename_i fn a b;show xE c fn a b tm h' ax=(xE c fn a b tm h nx).rem h' ax;unfold xE;cases fn <;> first |exact cQ _ _ _ fun _ _=>cQ _ _ _ fun _ _=>rfl |rfl
 ·exact cQ _ _ _ fun _ _=>cQ _ _ _ fun _ _=>cQ _ _ _ fun _ _=>cQ _ _ _ fun _ _=>cQ _ _ _ fun _ _=>zHm _ _ _ _ _
 ·exact cQ _ _ _ fun _ _=>cQ _ _ _ fun _ _=>zIi _ _ _
 ·exact cQ _ _ _ fun _ _=>cQ _ _ _ fun _ _=>zJ1 _ _ _
 ·exact cQ _ _ _ fun _ _=>cQ _ _ _ fun _ _=>cQ _ _ _ fun _ _=>zPo _ _ _
 ·exact cQ _ _ _ fun _ _=>cQ _ _ _ fun _ _=>cQ _ _ _ fun _ _=>zR7 _ _ _
 ·exact cQ _ _ _ fun _ _=>cQ _ _ _ fun a ha=>cQ _ _ _ fun _ _=>zNi _ _ _ _ _ _ _ _ (dB _ a rfl ha)
 ·exact cQ _ _ _ fun _ _=>cQ _ _ _ fun _ _=>zMu _ _ _ _
 ·exact cQ _ _ _ fun _ _=>zJi _ _
 ·rename_i cl;obtain⟨callee,args,ts⟩:=cl;cases callee <;> try (cases hw;done)
  rename_i b;have hl:∀l a m,dz c.G tm args.toList=some l→l=a::m→gJ (some a) h h':=by
   intro l a m e1 e2;have aW:gJ (args.toList.head?.bind (aL c.G tm)) h h':=hk;cases lz:args.toList with
   |nil=>rw[lz]at e1;cases e1;cases e2
   |cons x xs=>
    rw[lz]at e1 aW
    change (match aL c.G tm x with
     |some a=>match dz c.G tm xs with
      |some l=>some (a::l)
      |none=>none
     |none=>none)=some l at e1
    change gJ (aL c.G tm x) h h' at aW
    cases hx:aL c.G tm x with
    |none=>rw[hx]at e1;cases e1
    |some y=>
     rw[hx]at e1 aW;cases Ju:dz c.G tm xs with
     |none=>rw[Ju]at e1;cases e1
     |some ys=>
      rw[Ju]at e1;cases e1;cases e2;exact aW
  cases b <;> try (cases hw;done)
  ·refine cQ _ _ _ fun l _=>cQ _ _ _ fun _ _=>cQ _ _ _ fun _ _=>?_;split <;> first |exact zL9 _ _ |rfl
  ·refine cQ _ _ _ fun l mN=>cQ _ _ _ fun _ _=>cQ _ _ _ fun _ _=>?_;split
   ·exact zQs _ _ (hl _ _ _ mN rfl)
   ·rfl
  ·exact cQ _ _ _ fun l _=>Zd true l
  ·exact cQ _ _ _ fun l _=>Zd false l
end
section
variable {P : Program} {c : Cx} {σ τ υ : Sg} {h g f : Tr ABlk} {nx ny nz sz : Nat} {w x y : World} {tm tm' : Tr AV} {a : Act} {G : Gl}
mutual
def av.fz_self (hk:Ok G σ h nx w):∀(v:AV)(V:Value),av σ v V→Fz g nx v v
 |.bool b,V,_=>.bool b
 |.int k n,V,_=>.int k n
 |.str l n,V,_=>.str l n
 |.bs b,V,_=>.bs b
 |.ptr0,V,_=>.ptr0
 |.sl0,V,_=>.sl0
 |.map0,V,_=>.map0
 |.nilFunc,V,_=>.nilFunc
 |.nilIface,V,_=>.nilIface
 |.opq n,V,_=>.opq n
 |.ptr i o,V,h=>by
  simp only[av]at h;obtain⟨b,hb,_⟩:=h;exact .ptr i o (hk.nlt hb)
 |.sl i o l cp opn,V,h=>by
  simp only[av]at h;obtain⟨b,hb,_⟩:=h;exact .sl i o l cp opn (hk.nlt hb)
 |.map i,V,h=>by
  simp only[av]at h;obtain⟨b,hb,_⟩:=h;exact .map i (hk.nlt hb)
 |.yld i,V,h=>by
  simp only[av]at h;obtain⟨b,hb,_⟩:=h;exact .yld i (hk.nlt hb)
 |.agg l,V,h=>by
  simp only[av]at h;obtain⟨L,_,q⟩:=h;exact .agg l l (aC.fz_self hk l L q)
 |.tup l,V,h=>by
  simp only[av]at h;obtain⟨L,_,q⟩:=h;exact .tup l l (aC.fz_self hk l L q)
 |.iface t v,V,h=>by
  simp only[av]at h;obtain⟨U,_,q⟩:=h;exact .iface t v v (av.fz_self hk v U q)
 |.func fn l m,V,h=>by
  simp only[av]at h;obtain⟨A,C,_,p1,p2⟩:=h;exact .func fn l l m m (aC.fz_self hk l A p1) (aC.fz_self hk m C p2)
 |.ip l,V,h=>by
  simp only[av]at h;obtain⟨_,_,_,L,_,_,p2,_⟩:=h;exact .ip l l (aC.fz_self hk l L p2)
 |.fz es full l,V,h=>by
  simp only[av]at h;obtain⟨_,_,_,_,_,_,p3⟩:=h;cases l with
  |nil=>exact .fz es full [] [] .nil
  |cons z l=>
   obtain⟨_,_,_,L,_,_,p2,_⟩:=p3 (by simp);exact .fz es full _ _ (aC.fz_self hk (z::l) L p2)
def aC.fz_self (hk:Ok G σ h nx w):∀(l:List AV)(L:List Value),aC σ l L→cE g nx l l
 |[],L,_=>.nil
 |v::l,L,h=>by
  simp only[aC]at h;obtain⟨V,L',_,p1,p2⟩:=h;exact .cons v v l l (av.fz_self hk v V p1) (aC.fz_self hk l L' p2)
end
def DU (s:Nat):Nat→List (Nat×AV)→Option (List AV)
 |_,[]=>some []
 |k,(i,v)::l=>match Nat.beq i k && Nat.beq v.cells.length s && (match v with |.agg _=>true |v=>v.one) with
  |true=>match DU s (k+1) l with
   |some xs=>some (v::xs)
   |none=>none
  |false=>none
def XI {s:Nat}:∀{k:Nat}{ps:List (Nat×AV)}{xs:List AV}{PS:List (Nat×Value)},DU s k ps=some xs→sg σ ps PS→rD s xs (xs.flatMap AV.cells)∧(∃XS,aC σ xs XS)∧∀l l':List AV,(k+xs.length) * s≤l.length→sF (fun i=>some (Nat.mul i s,s)) ps l=some l'→l'=l.take (k * s)++(xs.flatMap AV.cells++l.drop ((k+xs.length) * s))
 |k,[],xs,PS,e,hr=>by
  cases e;refine⟨rfl,⟨[],by simp only[aC]⟩,fun l l' hl hf=>?_⟩;have:some l=some l':=hf;cases this;simp
 |k,(i,v)::ps,xs,PS,e,hr=>by
  simp only[DU]at e;split at e
  ·rename_i hb;simp only[ao]at hb;obtain⟨⟨b1,b2⟩,b3⟩:=hb;have yd:=ad b1;have rK:=ad b2;subst yd;cases hv:DU s (i+1) ps with
   |none=>rw[hv]at e;cases e
   |some ys=>
    rw[hv]at e;cases e;simp only[sg]at hr;obtain⟨V,PS',_,r1,r2⟩:=hr;obtain⟨c1,⟨XS,c2⟩,c3⟩:=XI hv r2;refine⟨⟨v.cells,ys.flatMap AV.cells,by simp,rfl,rK,?_,c1⟩,⟨V::XS,by simp only[aC];exact⟨_,_,rfl,r1,c2⟩⟩,fun l l' hl hf=>?_⟩
    ·cases v <;> first |exact .inl rfl |exact .inr b3
    ·rw[Sy]at hf;simp only[List.length_cons]at hl;have hle:i * s+s≤l.length:=by
      have:(i+1) * s≤(i+(ys.length+1)) * s:=Nat.mul_le_mul_right s (by omega);rw[Nat.add_mul]at this;omega
     have iJ:Nat.ble (Nat.add (Nat.mul i s) s) l.length=true:=Nat.ble_eq_true_of_le hle;simp only[b2,iJ]at hf;have O9:(aI l (i * s) v.cells).length=l.length:=Q8 (by rw[rK];exact hle);have:=c3 (aI l (i * s) v.cells) l' (by rw[O9,show i+1+ys.length=i+(ys.length+1) by omega];exact hl) hf;rw[this];have hm:(i+1) * s=i * s+s:=by rw[Nat.add_mul,Nat.one_mul]
     have jI:(l.take (i * s)).length=i * s:=by rw[List.length_take,Nat.min_eq_left (by omega)]
     have wu:aI l (i * s) v.cells=l.take (i * s)++(v.cells++l.drop (i * s+v.cells.length)):=rfl;have ht:(aI l (i * s) v.cells).take ((i+1) * s)=l.take (i * s)++v.cells:=by
      have hlen:(i+1) * s=(l.take (i * s)++v.cells).length:=by rw[List.length_append,jI,rK,hm]
      rw[wu,← List.append_assoc,hlen,List.take_left]
     have hd:(aI l (i * s) v.cells).drop ((i+1+ys.length) * s)=l.drop ((i+(ys.length+1)) * s):=by
      rw[wu,← List.append_assoc,List.drop_append,List.length_append,jI,rK,al (by rw[List.length_append,jI,rK,← hm];exact Nat.mul_le_mul_right s (by omega)),List.nil_append,List.drop_drop]
      congr 1
      rw[show i+(ys.length+1)=i+1+ys.length by omega,← hm];have:(i+1) * s≤(i+1+ys.length) * s:=Nat.mul_le_mul_right s (by omega);omega
     rw[ht,hd];simp
  ·cases e
def xS (ti:TI)(te:Option TI)(et:TypeId) (len:Nat)(ps:List (Nat×AV))(h:Tr ABlk) (nx:Nat):R:=
 match ti,te with
 |.mk (.slice e) _ _ _ _,some (.mk _ s _ (some z) _)=>match Nat.beq e et && Nat.ble (Nat.mul len s) 16777216 && Nat.ble 1 s with
  |true=>match sF (fun i=>some (Nat.mul i s,s)) ps (kU z.cells len) with
   |some _=>match DU s 0 ps with
    |some xs=>match Nat.beq xs.length len with
     |true=>.val (.fz s false xs) h nx
     |false=>.fail
    |none=>.fail
   |none=>.fail
  |false=>.fail
 |_,_=>.fail
def zHh (hk:Ok G σ h nx w)(t:TypeId){ti:TI}(ht:cT P t ti){te:Option TI}{et:TypeId}(jb:∀ti,te=some ti→cT P et ti) (len:Nat){ps:List (Nat×AV)}{PS:Array (Nat×Value)}(hp:sg σ ps PS.toList):
  RV P G σ h nx w (Instr.buildSlice t len PS) (xS ti te et len ps h nx):=by
 have h0:=zEl (P:=P) (w:=w) hk t ht jb len hp;unfold xS;split
 ·rename_i e q1 q2 q3 q4 de s b z fs;split
  ·rename_i gw;simp only[ao]at gw;obtain⟨⟨b1,b2⟩,b3⟩:=gw;have b4:Nat.beq s 0=false:=by
    cases hs:Nat.beq s 0 with
    |false=>rfl
    |true=>
     have:=ad hs;subst this;cases b3
   split
   ·rename_i l' wF;split
    ·rename_i xs Ju;split
     ·rename_i hb;have aV:=ad hb;unfold DY at h0;simp only[b1,b2,b4,wF,newK,lP,fN_eq,Tr.putK_eq]at h0;obtain⟨V,τ,x,r1,r2,r3⟩:=h0;obtain⟨c1,⟨XS,c2⟩,c3⟩:=XI Ju hp;obtain⟨_,inf,_,pV,_,hz,_⟩:=jb _ rfl;obtain⟨Z,_,hZr,hZs⟩:=hz z rfl;have w6:z.cells.length=s:=by
       have:=(hZr σ).cells.length;simp at this;omega
      have ij:=c3 _ l' (by rw[Hl,w6,Nat.zero_add,aV];exact ae _) wF;rw[Nat.zero_mul,List.take_zero,List.nil_append,Nat.zero_add,al (by rw[Hl,w6,aV];exact ae _),List.append_nil]at ij;subst ij;have As:∀i,i<nx→(h.put nx (some (ABlk.cells e (xs.flatMap AV.cells).length (eu (xs.flatMap AV.cells) .nil 0) false 0))).get i=h.get i:=fun i hi=>by rw[Tr.get_put,if_neg (by omega)]
      refine⟨V,_,x,r1,?_,Post.frz hk r3 As⟩;refine Fz.rel r3.ok (.slz nx 0 len len false e (xs.flatMap AV.cells).length (eu (xs.flatMap AV.cells) .nil 0) false 0 s (xs.flatMap AV.cells) (xs.flatMap AV.cells) xs (ae _) (by rw[Tr.get_put,if_pos rfl]) (by omega) (fun j hj=>by rw[Nat.zero_add,fX]) (aC.fz_self hk _ _ c2.flat) c1 aV) V r2
     ·trivial
    ·trivial
   ·trivial
  ·trivial
 ·trivial
end
section
variable {P : Program} {c : Cx} {σ τ υ : Sg} {h h' g f : Tr ABlk} {nx ax ny nz sz : Nat} {w x y : World} {tm tm' : Tr AV} {a : Act} {G : Gl} {r : Option Nat}
def vz (tm tm':Tr AV)(l:List Operand):Prop:=∀t,Operand.tmp t∈l→tm.get t=tm'.get t
def zC {x:Operand}{l:List Operand}(hs:vz tm tm' l)(hx:x∈l):aL G tm x=aL G tm' x:=by
 cases x <;> try rfl
 exact hs _ hx
def Ej:∀{l m:List Operand},vz tm tm' m→(∀x∈l,x∈m)→dz G tm l=dz G tm' l
 |[],m,_,_=>rfl
 |x::l,m,hs,hl=>by
  show (match aL G tm x with
   |some a=>match dz G tm l with
    |some l=>some (a::l)
    |none=>none
   |none=>none)=(match aL G tm' x with
   |some a=>match dz G tm' l with
    |some l=>some (a::l)
    |none=>none
   |none=>none)
  rw[zC hs (hl x (by simp)),Ej hs fun y hy=>hl y (by simp[hy])]
def Km:∀{l:List (Nat×Operand)}{m:List Operand},vz tm tm' m→(∀p∈l,p.2∈m)→mT G tm l=mT G tm' l
 |[],m,_,_=>rfl
 |(i,x)::l,m,hs,hl=>by
  show (match aL G tm x with
   |some a=>match mT G tm l with
    |some l=>some ((i,a)::l)
    |none=>none
   |none=>none)=(match aL G tm' x with
   |some a=>match mT G tm' l with
    |some l=>some ((i,a)::l)
    |none=>none
   |none=>none)
  rw[zC hs (hl (i,x) (by simp)),Km hs fun y hy=>hl y (by simp[hy])]
def SO {x:Option Operand}{l:List Operand}(hs:vz tm tm' l)(hx:∀y,x=some y→y∈l):vx G tm x=vx G tm' x:=by
 cases x with
 |none=>rfl
 |some y=>unfold vx;simp only;rw[zC hs (hx y rfl)]
def ZR (op:Op)(hs:vz tm tm' op.operands.toList):k7 c op tm h nx=k7 c op tm' h nx:=by
 have e:∀x,x∈op.operands.toList→aL c.G tm x=aL c.G tm' x:=fun x hx=>zC hs hx;cases op <;> try rfl
 ·show kX c _ tm h nx=kX c _ tm' h nx;unfold kX;rw[e _ (by simp[Op.operands])]
 ·show kX c _ tm h nx=kX c _ tm' h nx;unfold kX;rw[e _ (by simp[Op.operands])]
 ·show dN c _ _ _ tm h nx=dN c _ _ _ tm' h nx;unfold dN kX;rw[e _ (by simp[Op.operands]),e _ (by simp[Op.operands]),e _ (by simp[Op.operands])]
 ·show BL c _ _ tm h nx=BL c _ _ tm' h nx;unfold BL;rw[e _ (by simp[Op.operands])]
 ·show Ks c _ _ tm h nx=Ks c _ _ tm' h nx;unfold Ks;rw[Km hs (fun p hp=>by simp only[Op.operands];exact List.mem_map.2 ⟨p,hp,rfl⟩)]
 ·show Lg c _ _ _ tm h nx=Lg c _ _ _ tm' h nx;unfold Lg;rw[Km hs (fun p hp=>by simp only[Op.operands];exact List.mem_map.2 ⟨p,hp,rfl⟩)]
 ·show um c _ _ _ _ tm h nx=um c _ _ _ _ tm' h nx;unfold um;rw[e _ (by simp[Op.operands]),e _ (by simp[Op.operands]),e _ (by simp[Op.operands])]
 ·show Cb c _ _ tm h nx=Cb c _ _ tm' h nx;unfold Cb;rw[e _ (by simp[Op.operands])]
 ·show K9 c _ _ _ tm h nx=K9 c _ _ _ tm' h nx;unfold K9;rw[e _ (by simp[Op.operands]),e _ (by simp[Op.operands])]
 ·show BD c _ tm h nx=BD c _ tm' h nx;unfold BD;rw[e _ (by simp[Op.operands])]
 ·show BW c _ _ _ _ tm h nx=BW c _ _ _ _ tm' h nx;unfold BW;rw[e _ (by simp[Op.operands]),e _ (by simp[Op.operands])]
 ·show Bp c _ _ tm h nx=Bp c _ _ tm' h nx;unfold Bp;rw[e _ (by simp[Op.operands])]
 ·show sd c _ _ _ tm h nx=sd c _ _ _ tm' h nx;unfold sd HF;rw[e _ (by simp[Op.operands])]
 ·show K4 c _ _ tm h nx=K4 c _ _ tm' h nx;unfold K4;rw[e _ (by simp[Op.operands])]
 ·show xE c _ _ _ tm h nx=xE c _ _ _ tm' h nx;unfold xE;rw[Ej hs (fun x hx=>by simp[Op.operands]at hx ⊢;exact .inl hx),Ej hs (fun x hx=>by simp[Op.operands]at hx ⊢;exact .inr hx)]
 ·show Eb c _ _ _ tm h nx=Eb c _ _ _ tm' h nx;unfold Eb;rw[e _ (by simp[Op.operands]),e _ (by simp[Op.operands])]
 ·show Cj c _ _ _ _ _ tm h nx=Cj c _ _ _ _ _ tm' h nx;unfold Cj;rw[e _ (by simp[Op.operands]),SO hs (fun y hy=>by subst hy;simp[Op.operands]),SO hs (fun y hy=>by subst hy;simp[Op.operands]),SO hs (fun y hy=>by subst hy;simp[Op.operands])]
 ·show BN c _ _ _ tm h nx=BN c _ _ _ tm' h nx;unfold BN;rw[e _ (by simp[Op.operands])]
 ·show BT c _ _ _ tm h nx=BT c _ _ _ tm' h nx;unfold BT;rw[e _ (by simp[Op.operands])]
 ·show Cg c _ _ _ tm h nx=Cg c _ _ _ tm' h nx;unfold Cg;rw[e _ (by simp[Op.operands]),e _ (by simp[Op.operands])]
 ·show Ce c _ _ _ tm h nx=Ce c _ _ _ tm' h nx;unfold Ce;rw[e _ (by simp[Op.operands]),e _ (by simp[Op.operands])]
 ·show B8 c _ _ _ _ tm h nx=B8 c _ _ _ _ tm' h nx;unfold B8;rw[e _ (by simp[Op.operands]),e _ (by simp[Op.operands])]
 ·show um c _ _ _ _ tm h nx=um c _ _ _ _ tm' h nx;unfold um;rw[e _ (by simp[Op.operands]),e _ (by simp[Op.operands]),e _ (by simp[Op.operands])]
 ·show JF c _ _ _ tm h nx=JF c _ _ _ tm' h nx;unfold JF;rw[e _ (by simp[Op.operands])]
 ·show B3 c _ _ tm h nx=B3 c _ _ tm' h nx;unfold B3;rw[e _ (by simp[Op.operands])]
 ·rename_i cl;obtain⟨callee,args,ts⟩:=cl;cases callee <;> try rfl
  show BI c _ _ _ tm h nx=BI c _ _ _ tm' h nx;unfold BI;rw[Ej hs (fun x hx=>by simp[Op.operands,Call.operands]at hx ⊢;exact hx)]
def zF4 (op:Op)(hs:vz tm tm' op.operands.toList):jq c op tm h nx=jq c op tm' h nx:=by
 have e:∀x,x∈op.operands.toList→aL c.G tm x=aL c.G tm' x:=fun x hx=>zC hs hx;have h0:=ZR (c:=c) (h:=h) (nx:=nx) op hs;cases op <;> try exact h0
 ·show BY c _ _ _ tm h nx=BY c _ _ _ tm' h nx;unfold BY;rw[e _ (by simp[Op.operands]),e _ (by simp[Op.operands])]
 ·rename_i cl;obtain⟨callee,args,ts⟩:=cl;cases callee <;> try exact h0
  rename_i b;cases b <;> try exact h0
  show xl c _ args.toList tm h nx=xl c _ args.toList tm' h nx;have jJ:∀x∈args.toList,aL c.G tm x=aL c.G tm' x:=fun x hx=>e x (by simp[Op.operands,Call.operands]at hx ⊢;exact hx);unfold xl;generalize args.toList=l at jJ;split
  ·cases l with
   |nil=>rfl
   |cons x l=>
    cases l with
    |nil=>rfl
    |cons y l=>
     cases l with
     |nil=>simp only[jJ x (by simp),jJ y (by simp)]
     |cons z l=>rfl
  ·rfl
def cG (c:Cx)(op:Op)(tm:Tr AV)(h:Tr ABlk) (nx:Nat):R:=match op with
 |.buildSlice t n ps=>bR (c.tt.get t) fun ti=>bR (mT c.G tm ps.toList) fun l=>xS ti (c.tt.get (kW ti)) (kW ti) n l h nx
 |op=>jq c op tm h nx
def Yi:Op→Bool
 |.buildSlice _ _ _=>true
 |_=>false
def zTj {op:Op}(hb:Yi op=false):cG c op=jq c op:=by cases op <;> first |rfl |cases hb
def zzs (op:Op)(hs:vz tm tm' op.operands.toList):cG c op tm h nx=cG c op tm' h nx:=by
 cases op <;> try first |exact zF4 _ hs |rfl
 show (bR (c.tt.get _) fun ti=>bR (mT c.G tm _) fun l=>xS ti (c.tt.get (kW ti)) (kW ti) _ l h nx)=_;rw[Km hs (fun p hp=>by simp only[Op.operands];exact List.mem_map.2 ⟨p,hp,rfl⟩)];rfl
def zza (hc:CxOk P c)(hk:Ok c.G σ h nx w)(ht:kE σ tm a)(o:Oper):RO P c.G σ h nx w (execOp a.eval o) (cG c o.op tm h nx):=by
 have h0:=Rp hc hk ht o;obtain⟨dst,op,type,pos,after,guard⟩:=o;cases op <;> try exact h0
 refine bo fun ti e=>bo fun l e2=>RO.ofV (zHh hk _ (hc.tt _ _ e) (hc.tt _) _ ?_);have:=LJ hk ht e2;simpa using this
def KS (c:Cx)(op:Op):Bool:=match op with
 |.buildSlice _ _ _=>false
 |op=>zF3 c op
def zPv (ti:TI)(te:Option TI)(et:TypeId) (len:Nat)(ps:List (Nat×AV)):xS ti te et len ps h' ax=(xS ti te et len ps h nx).rem h' ax:=by
 unfold xS
 repeat' split
 all_goals rfl
def YH (hG:c.G.sym=true)(op:Op)(hw:KS c op=false)(hk:gJ ((pI op).bind (aL c.G tm)) h h'):cG c op tm h' ax=(cG c op tm h nx).rem h' ax:=by
 cases hb:Yi op with
 |false=>
  rw[zTj hb];exact zUk hG op (by cases op <;> first |exact hw |cases hb) hk
 |true=>
  cases op <;> try (cases hb;done)
  exact ZZ _ _ _ fun _=>ZZ _ _ _ fun _=>zPv _ _ _ _ _
def SY {ops:List Oper}{o:Oper}:vz (gT (fx ops o) tm) tm o.op.operands.toList:=fun t ht=>by
 rw[Ef,if_pos];unfold fx;rw[List.mem_append];exact .inl (List.mem_filterMap.2 ⟨.tmp t,ht,rfl⟩)
def K5 {ops:List Oper}{o:Oper}:gU ops (gT (fx ops o) tm) o=gU ops tm o:=by
 unfold gU;cases hg:o.guard with
 |none=>rfl
 |some p=>
  obtain⟨j,want⟩:=p;simp only;cases hj:ops[j]? with
  |none=>rfl
  |some oj=>
   simp only;cases hd:oj.dst with
   |none=>rfl
   |some d=>
    simp only;rw[Ef,if_pos];unfold fx;rw[List.mem_append,hg];simp only;rw[hj];simp[hd]
def iH.skip {ops:Array Oper}{o:Oper}(hw:gU ops.toList tm o=some false):iH P c r ops o (.tup []) (gT (fx ops.toList o) tm) h nx h nx:=by
 intro σ a w ok ht Q K hK;rw[← K5 (tm:=tm)]at hw;rw[zm ht hw];simp only[Bool.false_eq_true,if_false];exact⟨fun _ _=>trivial,hK σ w undef vJ (.refl ok)⟩
def iH.val (hc:CxOk P c){ops:Array Oper}{o:Oper}(hw:gU ops.toList tm o=some true)(hd:rA o.op=false){v:AV}(he:cG c o.op tm h nx=.val v g ny):iH P c r ops o v (gT (fx ops.toList o) tm) h nx g ny:=by
 intro σ a w ok ht Q K hK;rw[← K5 (tm:=tm)]at hw;rw[zm ht hw];simp only[if_true];rw[← zzs _ SY]at he;have hp:=zza hc ok ht o;rw[he]at hp;obtain⟨V,τ,x,h1,h2,h3⟩:=hp;refine kG (fun cl e=>by rw[e]at hd;cases hd) ?_;rw[h1];exact hK τ x V h2 h3
def iH.unit (hc:CxOk P c){ops:Array Oper}{o:Oper}(hw:gU ops.toList tm o=some true)(hd:rA o.op=false)(he:cG c o.op tm h nx=.unit g ny):iH P c r ops o (.tup []) (gT (fx ops.toList o) tm) h nx g ny:=by
 intro σ a w ok ht Q K hK;rw[← K5 (tm:=tm)]at hw;rw[zm ht hw];simp only[if_true];rw[← zzs _ SY]at he;have hp:=zza hc ok ht o;rw[he]at hp;obtain⟨τ,x,h1,h3⟩:=hp;refine kG (fun cl e=>by rw[e]at hd;cases hd) ?_;rw[h1];exact hK τ x undef vJ h3
def iH.call {ops:Array Oper}{o:Oper}(hw:gU ops.toList tm o=some true){fo:Operand}{args:Array Operand}(aX:kZ o.op=some (fo,args)){fid:FuncId}{first cap l:List AV}(hf:aL c.G tm fo=some (.func fid first cap))(hl:dz c.G tm args.toList=some l){u:AV}(hr:bf P c fid (first++(l++cap)) h nx fun v g ny=>v=u∧g=h∧ny=nx):
  iH P c r ops o u (gT (fx ops.toList o) tm) h nx h nx:=by
 intro σ a w ok ht Q K hK;have ri:=SY (tm:=tm) (ops:=ops.toList) (o:=o);rw[← K5 (tm:=tm)]at hw;rw[zm ht hw];simp only[if_true];obtain⟨dst,op,type,pos,after,guard⟩:=o;cases op <;> try (cases aX;done)
 rename_i cl;obtain⟨callee,args',argTypes⟩:=cl;cases callee <;> try (cases aX;done)
 cases aX
 rename Array Operand=>args
 have FZ:aL c.G (gT (fx ops.toList ⟨dst,.call ⟨.value fo,args,argTypes⟩,type,pos,after,guard⟩) tm) fo=some (.func fid first cap):=by
  rw[zC ri (by simp[Op.operands,Call.operands])];exact hf
 have wF:dz c.G (gT (fx ops.toList ⟨dst,.call ⟨.value fo,args,argTypes⟩,type,pos,after,guard⟩) tm) args.toList=some l:=by
  rw[Ej ri (fun x hx=>by simp[Op.operands,Call.operands]at hx ⊢;exact .inr hx)];exact hl
 have lD:=kH ok ht FZ;have qV:=uv ok ht wF;simp only[av]at lD;obtain⟨F,C,e1,r1,r2⟩:=lD;have gB:=hr σ w (F++(args.toList.map a.eval++C)) ok (r1.append (qV.append r2));have hex:(execOp a.eval ⟨dst,.call ⟨.value fo,args,argTypes⟩,type,pos,after,guard⟩).run P w=(callFunc fid (F++(args.toList.map a.eval++C)).toArray).run P w:=by
  have e2:execOp a.eval ⟨dst,.call ⟨.value fo,args,argTypes⟩,type,pos,after,guard⟩=(do let d ← Deferred.ofValue (a.eval fo) (args.map a.eval);invoke d.target d.args):=rfl;rw[e2,e1];show (callFunc fid (F.toArray++args.map a.eval++C.toArray)).run P w=_
  congr 2
  apply Array.ext';simp
 refine kG (fun _ e=>by cases e) ?_;rw[hex];unfold CR at gB;cases aR:(callFunc fid (F++(args.toList.map a.eval++C)).toArray).run P w with
 |halt hh w'=>rw[aR]at gB;exact gB.elim
 |ok Bo w'=>
  rw[aR]at gB;cases Bo <;> try exact gB.elim
  ·rename_i V;obtain⟨τ,v,g,ny,q1,q2,q3,q4,q5⟩:=gB;subst q3;subst q4;subst q5;exact hK τ _ V q1 q2
  ·refine⟨fun hh=>by simp[dT,Fence.wide]at hh,HU (Calls.mono gB fun e x q=>?_)⟩;cases e with
   |returned V=>
    obtain⟨τ,v,g,ny,q1,q2,q3,q4,q5⟩:=q;subst q3;subst q4;subst q5;exact hK τ x V q1 q2
   |panicked ch=>exact q.elim
   |outgrown=>exact q.elim
def vm (acc:List Nat)(es:List Edge):Nat:=List.rec (motive:=fun _=>Nat) 0 (fun e _ ih=>match Region.binds .any e with
 |true=>Nat.lor (Nat.lor (Nat.pow 2 e.on) (acc.getD e.on 0)) ih
 |false=>ih) es
def bP (l:List Oper):List Nat→List Nat:=List.rec (motive:=fun _=>List Nat→List Nat) (fun acc=>acc) (fun o _ ih acc=>ih (acc++[vm acc o.after.toList])) l
def tb (m i:Nat):Bool:=Nat.beq (Nat.mod (Nat.div m (Nat.pow 2 i)) 2) 1
def DI (m i:Nat):tb m i=m.testBit i:=by
 rw[Nat.testBit_eq_decide_div_mod_eq];unfold tb;show Nat.beq (m / 2 ^ i % 2) 1=_;cases h:Nat.beq (m / 2 ^ i % 2) 1 with
 |true=>simp[ad h]
 |false=>simp[nU h]
def dn (ms:List Nat) (i j:Nat):Bool:=tb (ms.getD j 0) i
def eJ {α:Type}(l:List α)(f:α→Bool):Bool:=List.rec (motive:=fun _=>Bool) true (fun a _ ih=>match f a with |true=>ih |false=>false) l
def pA (ms:List Nat) (i j:Nat):Bool:=match Nat.ble (Nat.succ j) i with
 |true=>dn ms j i
 |false=>dn ms i j
def uh (ops:List Oper)(Wl:List Nat) (i:Nat):Bool:=eJ Wl fun j=>Nat.beq i j || pA (bP ops []) i j
def bA (i:Nat):List Nat→Bool
 |[]=>false
 |a::l=>match Nat.beq i a with
  |true=>true
  |false=>bA i l
def Hy (P:Program)(c:Cx)(ops:List Oper)(Wl:List Nat) (i:Nat)(h:Tr ABlk) (nx:Nat)(cl:Option (Operand×Array Operand))(tm:Tr AV)(K:AV→Prop):Prop:=match cl with
 |some (f,args)=>match aL c.G tm f with
  |some (.func fid first cap)=>match dz c.G tm args.toList with
   |some l=>∃u,(aB P c fid (first++(l++cap)) u∨(uh ops Wl i=true∧bf P c fid (first++(l++cap)) h nx fun v g ny=>v=u∧g=h∧ny=nx))∧K u
   |none=>False
  |_=>False
 |none=>False
def jG (c:Cx)(ops:List Oper) (j:Nat)(tm:Tr AV):Option AV:=match ops[j]? with
 |some o=>(pI o.op).bind (aL c.G tm)
 |none=>none
def xB (c:Cx)(ops:List Oper) (j:Nat)(tm:Tr AV)(h h':Tr ABlk):List (Nat×Nat)→Prop
 |[]=>True
 |(a,b)::U=>(b=j→a<j→gJ (jG c ops a tm) h h')∧xB c ops j tm h h' U
def zb (c:Cx)(ops:List Oper) (i:Nat)(tm:Tr AV)(hs:Nat→Tr ABlk)(h:Tr ABlk):List (Nat×Nat)→Prop
 |[]=>True
 |(a,b)::U=>(a=i→b<i→gJ (jG c ops i tm) h (hs b))∧zb c ops i tm hs h U
def S9 {ops:List Oper}{j:Nat}:∀{U:List (Nat×Nat)},xB c ops j tm h h' U→∀a,(a,j)∈U→a<j→gJ (jG c ops a tm) h h'
 |[],_,a,hm,_=>by cases hm
 |(a',b)::U,hk,a,hm,hl=>by
  rcases List.mem_cons.1 hm with e |e
  ·cases e;exact hk.1 rfl hl
  ·exact S9 hk.2 a e hl
def YG {ops:List Oper}{i:Nat}{hs:Nat→Tr ABlk}:∀{U:List (Nat×Nat)},zb c ops i tm hs h U→∀b,(i,b)∈U→b<i→gJ (jG c ops i tm) h (hs b)
 |[],_,b,hm,_=>by cases hm
 |(a',b')::U,hk,b,hm,hl=>by
  rcases List.mem_cons.1 hm with e |e
  ·cases e;exact hk.1 rfl hl
  ·exact YG hk.2 b e hl
def Cf (c:Cx) (sz:Nat)(ops:List Oper)(U:List (Nat×Nat)) (i:Nat)(d:Option Tmp)(tm:Tr AV)(h:Tr ABlk)(ds:List DE)(K:AS→Prop)(q:R):Prop:=match q with
 |.val v h' ax=>xB c ops i tm h h' U∧dj sz d v (.mk tm h' ax ds) K
 |.unit h' ax=>xB c ops i tm h h' U∧dj sz d (.tup []) (.mk tm h' ax ds) K
 |.fail=>False
def BU (c:Cx) (sz:Nat)(ops:List Oper)(U:List (Nat×Nat)) (i:Nat)(d:Option Tmp)(tm:Tr AV)(h:Tr ABlk) (nx:Nat)(ds:List DE)(hs:Nat→Tr ABlk)(K:AS→Prop)(q:R):Prop:=match q with
 |.val v _ _=>zb c ops i tm hs h U∧dj sz d v (.mk tm h nx ds) K
 |_=>False
def qq (P:Program)(c:Cx) (sz:Nat)(ops:List Oper)(Wl Cl:List Nat)(U:List (Nat×Nat)) (i:Nat)(hs:Nat→Tr ABlk)(o:Oper)(K:(Nat→Tr ABlk)→AS→Prop)(s:AS):Prop:=
 match s with
 |.mk tm h nx ds=>match gU ops tm o with
  |none=>False
  |some false=>dj sz o.dst (.tup []) (.mk tm h nx ds) (K fun j=>if j=i then h else hs j)
  |some true=>match bA i Cl with
   |true=>Hy P c ops Wl i h nx (kZ o.op) tm fun u=>dj sz o.dst u (.mk tm h nx ds) (K fun j=>if j=i then h else hs j)
   |false=>match bA i Wl with
    |true=>Cf c sz ops U i o.dst tm h ds (K fun j=>if j=i then h else hs j) (cG c o.op tm h nx)
    |false=>BU c sz ops U i o.dst tm h nx ds hs (K fun j=>if j=i then h else hs j) (cG c o.op tm h nx)
def pD (P:Program)(c:Cx) (sz:Nat)(ops:List Oper)(Wl Cl:List Nat)(U:List (Nat×Nat))(K:AS→Prop):List Oper→Nat→(Nat→Tr ABlk)→AS→Prop
 |[],_,_,s=>K s
 |o::l,i,hs,s=>qq P c sz ops Wl Cl U i hs o (pD P c sz ops Wl Cl U K l (i+1)) s
def zt (P:Program)(c:Cx)(r:Option Nat) (sz:Nat)(ops:Array Oper)(Wl Cl:List Nat)(U:List (Nat×Nat))(S:Nat→Tr AV×Tr ABlk×Nat)(v:Nat→AV) (j:Nat):Prop:=
 ∃o,ops[j]?=some o∧iH P c r ops o (v j) (gT (fx ops.toList o) (S j).1) (S j).2.1 (S j).2.2 (S (j+1)).2.1 (S (j+1)).2.2∧(∀d,o.dst=some d→d<sz)∧
  (S (j+1)).1=(match o.dst with |none=>(S j).1 |some d=>(S j).1.put d (some (v j)))∧
  (bA j Wl=false→(S (j+1)).2=(S j).2∧((∀h' ax,iH P c r ops o (v j) (gT (fx ops.toList o) (S j).1) h' ax h' ax) ∨
   (bA j Cl=false∧(∀h' ax,gJ (jG c ops.toList j (S j).1) (S j).2.1 h'→iH P c r ops o (v j) (gT (fx ops.toList o) (S j).1) h' ax h' ax)∧∀b,(j,b)∈U→b<j→gJ (jG c ops.toList j (S j).1) (S j).2.1 (S b).2.1)∨uh ops.toList Wl j=true))∧
  (bA j Wl=true→∀a,(a,j)∈U→a<j→gJ (jG c ops.toList a (S j).1) (S j).2.1 (S (j+1)).2.1)
def HH (v:Option AV)(h:Tr ABlk):gJ v h h:=by
 unfold gJ;split
 ·split
  ·rfl
  ·trivial
 ·trivial
def RD (c:Cx)(ops:List Oper)(Wl Cl:List Nat):Prop:=∀i o,ops[i]?=some o→bA i Cl=false→rA o.op=false∧(bA i Wl=false→KS c o.op=false)
def uw (P:Program)(c:Cx) (sz:Nat)(ops:List Oper)(Wl Cl:List Nat)(U:List (Nat×Nat))(K:(Nat→Tr ABlk)→AS→Prop):List Oper→Nat→(Nat→Tr ABlk)→AS→Prop
 |[],_,hs,s=>K hs s
 |o::l,i,hs,s=>qq P c sz ops Wl Cl U i hs o (uw P c sz ops Wl Cl U K l (i+1)) s
def XO {ops:List Oper}{Wl Cl:List Nat}{U:List (Nat×Nat)}{K:AS→Prop}:∀(l:List Oper) (i:Nat),pD P c sz ops Wl Cl U K l i=uw P c sz ops Wl Cl U (fun _=>K) l i
 |[],i=>rfl
 |o::l,i=>by
  funext hs s
  show qq P c sz ops Wl Cl U i hs o (pD P c sz ops Wl Cl U K l (i+1)) s=qq P c sz ops Wl Cl U i hs o (uw P c sz ops Wl Cl U (fun _=>K) l (i+1)) s;rw[XO l (i+1)]
def Z3 (hc:CxOk P c)(hG:c.G.sym=true){ops:Array Oper}{Wl Cl:List Nat}{U:List (Nat×Nat)}{K:(Nat→Tr ABlk)→AS→Prop}(aX:RD c ops.toList Wl Cl)(uP:∀i,bA i Cl=true→bA i Wl=false):∀(l:List Oper) (i:Nat)(hs:Nat→Tr ABlk)(tm:Tr AV)(h:Tr ABlk) (nx:Nat)(ds:List DE),(∀k,k<l.length→l[k]?=ops[i+k]?)→
  uw P c sz ops.toList Wl Cl U K l i hs (.mk tm h nx ds)→∀(S0:Nat→Tr AV×Tr ABlk×Nat) (v0:Nat→AV),S0 i=(tm,h,nx)→(∀j,j<i→hs j=(S0 j).2.1)→
  ∃(S:Nat→Tr AV×Tr ABlk×Nat) (v:Nat→AV),(∀j,j≤i→S j=S0 j)∧(∀j,j<i→v j=v0 j)∧(∃jJ,(∀j,j<i+l.length→jJ j=(S j).2.1)∧K jJ (.mk (S (i+l.length)).1 (S (i+l.length)).2.1 (S (i+l.length)).2.2 ds))∧∀j,i≤j→j<i+l.length→zt P c r sz ops Wl Cl U S v j:=by
 intro l
 induction l with
 |nil=>
  intro i hs tm h nx ds _ hw S0 v0 hS hh;refine⟨S0,v0,fun _ _=>rfl,fun _ _=>rfl,⟨hs,fun j hj=>hh j (by simpa using hj),?_⟩,fun j h1 h2=>by simp at h2;omega⟩;simp only[List.length_nil,Nat.add_zero,hS];exact hw
 |cons o l ih=>
  intro i hs tm h nx ds hl hw S0 v0 hS hh;have ho:ops[i]?=some o:=by simpa using (hl 0 (by simp)).symm
  have wF:∀k,k<l.length→l[k]?=ops[i+1+k]?:=fun k hk=>by
   have:=hl (k+1) (by simpa using hk);rw[show i+(k+1)=i+1+k by omega]at this;simpa using this
  have key:∀(u:AV) (h1:Tr ABlk) (n1:Nat),dj sz o.dst u (.mk tm h1 n1 ds) (uw P c sz ops.toList Wl Cl U K l (i+1) fun j=>if j=i then h else hs j)→
    (∀(S:Nat→Tr AV×Tr ABlk×Nat) (v:Nat→AV) ,S i=(tm,h,nx)→(S (i+1)).2=(h1,n1)→v i=u→(S (i+1)).1=(match o.dst with |none=>tm |some d=>tm.put d (some u))→(∀j,j<i→hs j=(S j).2.1)→(∀d,o.dst=some d→d<sz)→zt P c r sz ops Wl Cl U S v i)→
    ∃(S:Nat→Tr AV×Tr ABlk×Nat) (v:Nat→AV),(∀j,j≤i→S j=S0 j)∧(∀j,j<i→v j=v0 j)∧(∃jJ,(∀j,j<i+(o::l).length→jJ j=(S j).2.1)∧K jJ (.mk (S (i+(o::l).length)).1 (S (i+(o::l).length)).2.1 (S (i+(o::l).length)).2.2 ds))∧∀j,i≤j→j<i+(o::l).length→zt P c r sz ops Wl Cl U S v j:=by
   intro u h1 n1 hp fq;have A5:∃aZ,aZ=(match o.dst with |none=>tm |some d=>tm.put d (some u))∧(∀d,o.dst=some d→d<sz)∧uw P c sz ops.toList Wl Cl U K l (i+1) (fun j=>if j=i then h else hs j) (.mk aZ h1 n1 ds):=by
    unfold dj at hp;cases hd:o.dst with
    |none=>rw[hd]at hp;exact⟨tm,rfl,(fun d e=>by cases e),hp⟩
    |some d=>rw[hd]at hp;exact⟨_,rfl,(fun d' e=>by cases e;exact hp.1),hp.2⟩
   obtain⟨aZ,e1,e2,e3⟩:=A5;obtain⟨S,v,q1,q2,q3,q4⟩:=ih (i+1) _ aZ h1 n1 ds wF e3 (fun j=>if j≤i then S0 j else (aZ,h1,n1)) (fun j=>if j<i then v0 j else u) (if_neg (by omega)) (fun j hj=>by
    by_cases e:j=i
    ·subst e;simp[hS]
    ·simp only[if_neg e];rw[if_pos (by omega)];exact hh j (by omega))
   have hSi:S i=(tm,h,nx):=by rw[q1 i (by omega),if_pos (ae _),hS]
   have Fw:S (i+1)=(aZ,h1,n1):=by rw[q1 (i+1) (ae _),if_neg (by omega)]
   refine⟨S,v,fun j hj=>by rw[q1 j (by omega),if_pos hj],fun j hj=>by rw[q2 j (by omega),if_pos hj],?_,fun j mh fm=>?_⟩
   ·rw[List.length_cons,show i+(l.length+1)=i+1+l.length by omega];exact q3
   ·by_cases e:j=i
    ·subst e;exact fq S v hSi (by rw[Fw]) (by rw[q2 j (by omega),if_neg (by omega)]) (by rw[Fw];exact e1) (fun b hb=>by rw[hh b hb,q1 b (by omega),if_pos (by omega)]) e2
    ·rw[List.length_cons]at fm;exact q4 j (by omega) (by omega)
  change qq P c sz ops.toList Wl Cl U i hs o (uw P c sz ops.toList Wl Cl U K l (i+1)) (.mk tm h nx ds) at hw
  unfold qq at hw;simp only at hw;cases cD:gU ops.toList tm o with
  |none=>rw[cD]at hw;exact hw.elim
  |some b=>
   rw[cD]at hw;cases b with
   |false=>
    refine key (.tup []) h nx hw fun S v eW fT hv qL CW hd=>⟨o,ho,?_,hd,by rw[eW,hv];exact qL,fun _=>⟨by rw[fT,eW],.inl fun h' ax=>?_⟩,fun _ a _ _=>?_⟩
    ·rw[eW,fT,hv];exact iH.skip cD
    ·rw[eW,hv];exact iH.skip cD
    ·rw[eW,fT];exact HH _ _
   |true=>
    simp only at hw;cases hC:bA i Cl with
    |true=>
     rw[hC]at hw;simp only at hw;unfold Hy at hw;cases bu:kZ o.op with
     |none=>rw[bu]at hw;exact hw.elim
     |some p=>
      obtain⟨fo,args⟩:=p;rw[bu]at hw;simp only at hw;cases hf:aL c.G tm fo with
      |none=>rw[hf]at hw;exact hw.elim
      |some fv=>
       rw[hf]at hw;cases fv <;> try exact hw.elim
       rename_i fid first cap
       simp only at hw;cases wG:dz c.G tm args.toList with
       |none=>rw[wG]at hw;exact hw.elim
       |some la=>
        rw[wG]at hw;obtain⟨u,hr,hp⟩:=hw
        rcases hr with hr |⟨Jk,hr⟩
        ·refine key u h nx hp fun S v eW fT hv qL CW hd=>⟨o,ho,?_,hd,by rw[eW,hv];exact qL,fun _=>⟨by rw[fT,eW],.inl fun h' ax=>?_⟩,fun hW=>?_⟩
         ·rw[eW,fT,hv];exact iH.call cD bu hf wG (hr _ _)
         ·rw[eW,hv];exact iH.call cD bu hf wG (hr _ _)
         ·rw[uP i hC]at hW;cases hW
        ·refine key u h nx hp fun S v eW fT hv qL CW hd=>⟨o,ho,?_,hd,by rw[eW,hv];exact qL,fun _=>⟨by rw[fT,eW],.inr (.inr Jk)⟩,fun hW=>?_⟩
         ·rw[eW,fT,hv];exact iH.call cD bu hf wG hr
         ·rw[uP i hC]at hW;cases hW
    |false=>
     rw[hC]at hw;simp only at hw;obtain⟨pM,Jj⟩:=aX i o (by simpa using ho) hC;cases pK:bA i Wl with
     |true=>
      rw[pK]at hw;simp only at hw;unfold Cf at hw;cases eZ:cG c o.op tm h nx with
      |fail=>rw[eZ]at hw;exact hw.elim
      |val u h1 n1=>
       rw[eZ]at hw;obtain⟨Oo,hp⟩:=hw;refine key u h1 n1 hp fun S v eW fT hv qL CW hd=>⟨o,ho,?_,hd,by rw[eW,hv];exact qL,fun hW=>?_,fun _ a ha ay=>?_⟩
       ·rw[eW,fT,hv];exact iH.val hc cD pM eZ
       ·rw[pK]at hW;cases hW
       ·rw[eW,fT];exact S9 Oo a ha ay
      |unit h1 n1=>
       rw[eZ]at hw;obtain⟨Oo,hp⟩:=hw;refine key (.tup []) h1 n1 hp fun S v eW fT hv qL CW hd=>⟨o,ho,?_,hd,by rw[eW,hv];exact qL,fun hW=>?_,fun _ a ha ay=>?_⟩
       ·rw[eW,fT,hv];exact iH.unit hc cD pM eZ
       ·rw[pK]at hW;cases hW
       ·rw[eW,fT];exact S9 Oo a ha ay
     |false=>
      rw[pK]at hw;simp only at hw;unfold BU at hw;have GC:∀h' ax,gJ (jG c ops.toList i tm) h h'→cG c o.op tm h' ax=(cG c o.op tm h nx).rem h' ax:=fun h' ax hk=>YH hG _ (Jj pK) (by
       unfold jG at hk;rw[show ops.toList[i]?=some o by simpa using ho]at hk;exact hk)
      cases eZ:cG c o.op tm h nx with
      |fail=>rw[eZ]at hw;exact hw.elim
      |unit h1 n1=>rw[eZ]at hw;exact hw.elim
      |val u h1 n1=>
       rw[eZ]at hw;obtain⟨hsU,hp⟩:=hw;have tM:=GC h nx (HH _ _);rw[eZ]at tM;have e1:h1=h∧n1=nx:=by
        simp only[R.rem]at tM;cases tM;exact⟨rfl,rfl⟩
       obtain⟨e1,jF⟩:=e1;subst e1;subst jF;refine key u h1 n1 hp fun S v eW fT hv qL CW hd=>⟨o,ho,?_,hd,by rw[eW,hv];exact qL,fun _=>⟨by rw[fT,eW],.inr (.inl ⟨hC,fun h' ax hk=>?_,fun b hb ay=>?_⟩)⟩,fun hW=>?_⟩
       ·rw[eW,fT,hv];exact iH.val hc cD pM eZ
       ·rw[eW]at hk ⊢;rw[hv];refine iH.val hc cD pM ?_;rw[GC h' ax hk,eZ];rfl
       ·rw[eW,← CW b ay];exact YG hsU b hb ay
       ·rw[pK]at hW;cases hW
def Sl (hc:CxOk P c)(hG:c.G.sym=true){ops:Array Oper}{Wl Cl:List Nat}{U:List (Nat×Nat)}{K:AS→Prop}(aX:RD c ops.toList Wl Cl)(uP:∀i,bA i Cl=true→bA i Wl=false)(l:List Oper) (i:Nat)(hs:Nat→Tr ABlk)(tm:Tr AV)(h:Tr ABlk) (nx:Nat)(ds:List DE)(hl:∀k,l[k]?=ops[i+k]?)
  (hw:pD P c sz ops.toList Wl Cl U K l i hs (.mk tm h nx ds)) (S0:Nat→Tr AV×Tr ABlk×Nat) (v0:Nat→AV) (hS:S0 i=(tm,h,nx)) (hh:∀j,j<i→hs j=(S0 j).2.1):
  ∃(S:Nat→Tr AV×Tr ABlk×Nat) (v:Nat→AV),(∀j,j≤i→S j=S0 j)∧(∀j,j<i→v j=v0 j)∧K (.mk (S (i+l.length)).1 (S (i+l.length)).2.1 (S (i+l.length)).2.2 ds)∧∀j,i≤j→j<i+l.length→zt P c r sz ops Wl Cl U S v j:=by
 rw[XO]at hw;obtain⟨S,v,q1,q2,⟨jJ,_,q3⟩,q4⟩:=Z3 (r:=r) hc hG aX uP l i hs tm h nx ds (fun k _=>hl k) hw S0 v0 hS hh;exact⟨S,v,q1,q2,q3,q4⟩
def xC (ops:Array Oper)(acc:List Nat):Prop:=∀j m,acc[j]?=some m→∀i,m.testBit i=true→∀l:Array Bool,qm ops l→(∀k,gO ops k j=true→l.getD k false=true)→l.getD i false=true
def Sp {ops:Array Oper}{acc:List Nat}(ha:xC ops acc)(l:Array Bool)(hl:qm ops l):∀(es:List Edge),(∀e∈es,Region.binds .any e=true→l.getD e.on false=true)→∀i,(vm acc es).testBit i=true→l.getD i false=true
 |[],_,i,hi=>by simp[vm]at hi
 |e::es,oT,i,hi=>by
  change (match Region.binds .any e with
   |true=>Nat.lor (Nat.lor (Nat.pow 2 e.on) (acc.getD e.on 0)) (vm acc es)
   |false=>vm acc es).testBit i=true at hi
  cases hb:Region.binds .any e with
  |false=>
   rw[hb]at hi;exact Sp ha l hl es (fun e' FY=>oT e' (by simp[FY])) i hi
  |true=>
   rw[hb]at hi
   change ((2 ^ e.on ||| acc.getD e.on 0) ||| vm acc es).testBit i=true at hi
   rw[Nat.testBit_or,Nat.testBit_or,Bool.or_eq_true,Bool.or_eq_true]at hi;have yJ:=oT e (by simp) hb
   rcases hi with (hi |hi) |hi
   ·rw[Nat.testBit_two_pow]at hi;have:e.on=i:=by simpa using hi
    rw[← this];exact yJ
   ·cases hm:acc[e.on]? with
    |none=>simp[List.getD,hm]at hi
    |some m=>
     have:acc.getD e.on 0=m:=by simp[List.getD,hm]
     rw[this]at hi;exact ha e.on m hm i hi l hl fun k hk=>hl e.on yJ k hk
   ·exact Sp ha l hl es (fun e' FY=>oT e' (by simp[FY])) i hi
def Eu {ops:Array Oper}:∀(l:List Oper)(acc:List Nat),xC ops acc→(∀j,l[j]?=ops[acc.length+j]?)→xC ops (bP l acc)
 |[],acc,ha,_=>ha
 |o::l,acc,ha,hl=>by
  refine Eu l (acc++[vm acc o.after.toList]) ?_ fun j=>?_
  ·intro j m hm i hi L hL ba
   by_cases hj:j<acc.length
   ·rw[List.getElem?_append_left hj]at hm;exact ha j m hm i hi L hL ba
   ·rw[List.getElem?_append_right (by omega)]at hm;have hj0:j-acc.length=0:=by
     cases h0:j-acc.length with
     |zero=>rfl
     |succ q=>rw[h0]at hm;simp at hm
    rw[hj0]at hm;simp at hm;subst hm;have yE:j=acc.length:=by omega
    have ho:ops[j]?=some o:=by have:=hl 0;simpa[yE]using this.symm
    refine Sp ha L hL _ (fun e he hb=>ba e.on ?_) i hi;unfold gO;rw[ho];simp only[Option.map_some,Option.getD_some,Array.any_eq_true'];exact⟨e,by simpa using he,by simp[hb]⟩
  ·have:=hl (j+1);simpa[Nat.add_assoc,Nat.add_comm 1 j]using this
def ep {α:Type}{f:α→Bool}:∀{l:List α},eJ l f=true→∀x∈l,f x=true
 |[],_,x,hx=>by cases hx
 |a::l,h,x,hx=>by
  change (match f a with |true=>eJ l f |false=>false)=true at h
  cases hf:f a with
  |false=>rw[hf]at h;cases h
  |true=>
   rw[hf]at h
   rcases List.mem_cons.1 hx with e |e
   ·subst e;exact hf
   ·exact ep h x e
def jM (n:Nat):List Nat:=List.range n
def zh (d:Nat)(l:List Nat):Bool:=List.rec (motive:=fun _=>Bool) false (fun a _ ih=>match Nat.beq a d with |true=>true |false=>ih) l
def HP {d:Nat}:∀{l:List Nat},d∈l→zh d l=true
 |[],h=>by cases h
 |a::l,h=>by
  show (match Nat.beq a d with |true=>true |false=>zh d l)=true;cases hb:Nat.beq a d with
  |true=>rfl
  |false=>
   rcases List.mem_cons.1 h with e |e
   ·exact absurd e.symm (nU hb)
   ·exact HP e
def GZ (i j:Nat):List (Nat×Nat)→Bool
 |[]=>false
 |(a,b)::U=>match Nat.beq i a && Nat.beq j b with
  |true=>true
  |false=>GZ i j U
def zEx {i j:Nat}:∀{U:List (Nat×Nat)},GZ i j U=true→(i,j)∈U
 |[],e=>by cases e
 |(a,b)::U,e=>by
  simp only[GZ]at e;split at e
  ·rename_i hb;rw[ao]at hb;rw[ad hb.1,ad hb.2];exact aq
  ·exact an _ (zEx e)
def QI (ms:List Nat)(Wl Cl:List Nat)(U:List (Nat×Nat)) (i j:Nat)(li:List Tmp)(oi oj:Oper):Bool:=
 match Nat.beq i j with
 |true=>true
 |false=>
  match (match bA i Wl with |true=>bA j Wl |false=>false) with
  |true=>pA ms i j
  |false=>match (match oj.dst with
    |none=>true
    |some d=>match zh d (li++oi.dst.toList) with
     |true=>pA ms i j
     |false=>true) with
   |false=>false
   |true=>match bA i Wl || bA i Cl || !(bA j Wl) || (pI oi.op).isNone with
    |true=>true
    |false=>match pA ms i j with
     |true=>true
     |false=>match GZ i j U with
      |false=>false
      |true=>true
def zzf (ops:List Oper) (a j:Nat)(la:List Tmp):Bool:=
 eJ (jM ops.length) fun k=>match Nat.ble a k && Nat.ble (Nat.succ k) j with
  |false=>true
  |true=>match ops[k]? with
   |none=>true
   |some ok=>match ok.dst with
    |none=>true
    |some d=>!(zh d la)
def uB (c:Cx)(ops:List Oper)(ms:List Nat)(Wl Cl:List Nat)(U:List (Nat×Nat)):Bool:=
 eJ (jM ops.length) (fun i=>match ops[i]? with
  |none=>true
  |some oi=>match eJ oi.after.toList (fun e=>match Region.binds .any e with |true=>Nat.ble (Nat.succ e.on) i |false=>true) with
   |false=>false
   |true=>match (match bA i Cl with |true=>!(bA i Wl) |false=>!(rA oi.op) && (bA i Wl || !(KS c oi.op))) with
    |false=>false
    |true=>eJ (jM ops.length) fun j=>match ops[j]? with
     |none=>true
     |some oj=>QI ms Wl Cl U i j (fx ops oi) oi oj) &&
 eJ U (fun p=>match Nat.ble (Nat.succ p.1) p.2 with
  |false=>true
  |true=>match ops[p.1]? with
   |none=>true
   |some oa=>zzf ops p.1 p.2 (fx ops oa)) && eJ Cl (fun i=>!(bA i Wl))
def Lz {ms:List Nat}{i j:Nat}(ay:i<j)(ho:pA ms i j=true):dn ms i j=true:=by
 unfold pA at ho;have:Nat.ble (Nat.succ j) i=false:=Ro (by omega);rw[this]at ho;exact ho
def Tf {ms:List Nat}{i j:Nat}(ay:j<i)(ho:pA ms i j=true):dn ms j i=true:=by
 unfold pA at ho;have:Nat.ble (Nat.succ j) i=true:=Nat.ble_eq_true_of_le (by omega);rw[this]at ho;exact ho
structure PairD (ms:List Nat)(Wl Cl:List Nat)(U:List (Nat×Nat)) (i j:Nat)(li:List Tmp)(oi oj:Oper):Prop where
 ww:bA i Wl=true→bA j Wl=true→pA ms i j=true
 dst:∀d,oj.dst=some d→(d∈li∨oi.dst=some d)→pA ms i j=true
 rw:bA i Wl=false→bA i Cl=false→bA j Wl=true→(pI oi.op).isNone=false→pA ms i j=true∨(i,j)∈U
def zPw {ms:List Nat}{Wl Cl:List Nat}{U:List (Nat×Nat)}{i j:Nat}{li:List Tmp}{oi oj:Oper}(aT:i≠j)(hp:QI ms Wl Cl U i j li oi oj=true):PairD ms Wl Cl U i j li oi oj:=by
 unfold QI at hp;have hb:Nat.beq i j=false:=by
  cases e:Nat.beq i j with
  |false=>rfl
  |true=>exact absurd (ad e) aT
 rw[hb]at hp;simp only at hp;cases pK:bA i Wl with
 |true=>
  rw[pK]at hp;simp only at hp;cases l5:bA j Wl with
  |true=>
   rw[l5]at hp;simp only at hp;exact⟨fun _ _=>hp,fun _ _ _=>hp,(fun e=>by simp[pK]at e)⟩
  |false=>
   rw[l5]at hp;simp only at hp;refine⟨(fun _ e=>by simp[l5]at e),fun d hd hm=>?_,(fun e=>by simp[pK]at e)⟩;rw[hd]at hp;simp only at hp;have bZ:zh d (li++oi.dst.toList)=true:=HP (by
    rw[List.mem_append]
    rcases hm with h1 |h1
    ·exact .inl h1
    ·exact .inr (by rw[h1];simp))
   rw[bZ]at hp;simp only at hp;cases ho:pA ms i j with
   |true=>rfl
   |false=>rw[ho]at hp;cases hp
 |false=>
  rw[pK]at hp;simp only at hp;refine⟨(fun e=>by simp[pK]at e),fun d hd hm=>?_,fun _ hC l5 hf=>?_⟩
  ·rw[hd]at hp;simp only at hp;have bZ:zh d (li++oi.dst.toList)=true:=HP (by
    rw[List.mem_append]
    rcases hm with h1 |h1
    ·exact .inl h1
    ·exact .inr (by rw[h1];simp))
   rw[bZ]at hp;simp only at hp;cases ho:pA ms i j with
   |true=>rfl
   |false=>rw[ho]at hp;cases hp
  ·split at hp
   ·cases hp
   ·rw[hC,l5,hf]at hp;simp only[Bool.false_or,Bool.not_true]at hp;cases ho:pA ms i j with
    |true=>exact .inl rfl
    |false=>
     rw[ho]at hp;simp only at hp;cases hu:GZ i j U with
     |true=>exact .inr (zEx hu)
     |false=>rw[hu]at hp;cases hp
def zLx {ops:List Oper}{a:Nat}{o:Oper}(ho:ops[a]?=some o)(hs:∀t∈fx ops o,tm.get t=tm'.get t):jG c ops a tm=jG c ops a tm':=by
 unfold jG;rw[ho];simp only;cases hf:pI o.op with
 |none=>rfl
 |some x=>
  show aL c.G tm x=aL c.G tm' x;have hx:x∈o.op.operands.toList:=by
   cases eZ:o.op <;> rw[eZ]at hf <;> try (cases hf;done)
   case load=>cases hf;simp[Op.operands]
   case lookup=>cases hf;simp[Op.operands]
   case convert=>cases hf;simp[Op.operands]
   case call cl=>
    have:cl.args.toList.head?=some x:=hf;have hm:x∈cl.args.toList:=List.mem_of_mem_head? (by rw[this];rfl);obtain⟨callee,args,ts⟩:=cl;simp only[Op.operands,Call.operands];cases callee <;> simp at hm ⊢ <;> first |exact hm |exact .inr hm
  refine zC (l:=o.op.operands.toList) (fun t ht=>hs t ?_) hx;unfold fx;rw[List.mem_append];exact .inl (List.mem_filterMap.2 ⟨.tmp t,ht,rfl⟩)
def zRw {v:Option AV}{h1 h2 h3:Tr ABlk}(a:gJ v h1 h2)(b:gJ v h2 h3):gJ v h1 h3:=by
 unfold gJ at *;split
 ·split
  ·rename_i k hk;simp only[hk]at a b;exact b.trans a
  ·trivial
 ·trivial
def zPp {v:Option AV}(hv:v=none)(h1 h2:Tr ABlk):gJ v h1 h2:=by subst hv;trivial
def RB {l:List Oper}{Wl Cl:List Nat}{U:List (Nat×Nat)}{ms:List Nat}(cC:uB c l ms Wl Cl U=true):RD c l Wl Cl∧∀i,bA i Cl=true→bA i Wl=false:=by
 unfold uB at cC;rw[ao,ao]at cC;obtain⟨⟨hA,hU⟩,Us⟩:=cC;constructor
 ·intro i oi oX hC;have ay:i<l.length:=(List.getElem?_eq_some_iff.1 oX).1;have h1:=ep hA i (by simp[jM,ay]);rw[oX]at h1;simp only at h1;split at h1
  ·cases h1
  ·split at h1
   ·cases h1
   ·rename_i l7;rw[hC]at l7;simp only[ao,Bool.or_eq_true,Bool.not_eq_true']at l7;refine⟨l7.1,fun hW=>?_⟩
    rcases l7.2 with h3 |h3
    ·rw[hW]at h3;cases h3
    ·exact h3
 ·intro i hi;have bZ:∀(L:List Nat),bA i L=true→i∈L:=by
   intro L
   induction L with
   |nil=>intro e;cases e
   |cons b L ih=>
    intro e;simp only[bA]at e;split at e
    ·rename_i hb;rw[ad hb];exact aq
    ·exact an _ (ih e)
  have:=ep Us i (bZ Cl hi);simpa using this
def QW {l:List Oper}{Wl Cl:List Nat}{U:List (Nat×Nat)}(cC:uB c l (bP l []) Wl Cl U=true){S:Nat→Tr AV×Tr ABlk×Nat}{v:Nat→AV}{r:Option Nat}(q4:∀j,j<l.length→zt P c r sz l.toArray Wl Cl U S v j):
  Dr P c r sz l.toArray S v (fun i=>bA i Wl) (dn (bP l [])):=by
 unfold uB at cC;rw[ao,ao]at cC;obtain⟨⟨hA,hU⟩,Us⟩:=cC;generalize Vd:bP l []=ms at hA hU;have dL:xC l.toArray ms:=by
  rw[← Vd];refine Eu l [] (fun j m hj=>by simp at hj) fun j=>by simp
 have tJ:∀i oi,l[i]?=some oi→(∀e∈oi.after.toList,Region.binds .any e=true→e.on<i)∧(bA i Cl=false→rA oi.op=false∧(bA i Wl=false→KS c oi.op=false))∧∀j oj,l[j]?=some oj→i≠j→PairD ms Wl Cl U i j (fx l oi) oi oj:=by
  intro i oi oX;have ay:i<l.length:=(List.getElem?_eq_some_iff.1 oX).1;have h1:=ep hA i (by simp[jM,ay]);rw[oX]at h1;simp only at h1;split at h1
  ·cases h1
  ·rename_i hb;split at h1
   ·cases h1
   ·rename_i l7;refine⟨fun e he FE=>?_,fun hC=>?_,fun j oj wR aT=>?_⟩
    ·have:=ep hb e he;rw[FE]at this;exact ai this
    ·rw[hC]at l7;simp only[ao,Bool.or_eq_true,Bool.not_eq_true']at l7;refine⟨l7.1,fun hW=>?_⟩
     rcases l7.2 with h3 |h3
     ·rw[hW]at h3;cases h3
     ·exact h3
    ·have Oy:j<l.length:=(List.getElem?_eq_some_iff.1 wR).1;have:=ep h1 j (by simp[jM,Oy]);rw[wR]at this;exact zPw aT this
 have fq:∀j o,l[j]?=some o→zt P c r sz l.toArray Wl Cl U S v j:=fun j o ho=>q4 j (List.getElem?_eq_some_iff.1 ho).1;have bC:l.toArray.size=l.length:=by simp
 have bH:∀j,l.toArray[j]?=l[j]?:=fun j=>List.getElem?_toArray;have tP:∀a j o,(a,j)∈U→a<j→l[a]?=some o→∀k,a≤k→k<j→∀o' d,l[k]?=some o'→o'.dst=some d→d ∉ fx l o:=by
  intro a j o wK ay ho k dB dK o' d fJ hd bZ;have h1:=ep hU (a,j) wK;simp only at h1;rw[Nat.ble_eq_true_of_le (show Nat.succ a≤j by omega),ho]at h1;simp only at h1;unfold zzf at h1;have Oz:k<l.length:=(List.getElem?_eq_some_iff.1 fJ).1;have h2:=ep h1 k (by simp[jM,Oz]);simp only[Nat.ble_eq_true_of_le dB,Nat.ble_eq_true_of_le (show Nat.succ k≤j by omega),Bool.and_self,fJ,hd]at h2;rw[HP bZ]at h2;cases h2
 have Pj:∀a j o,(a,j)∈U→a<j→l[a]?=some o→j<l.length→jG c l a (S j).1=jG c l a (S a).1:=by
  intro a j o wK ay ho kr;refine zLx ho fun t ht=>?_;have key:∀n,a+n≤j→(S (a+n)).1.get t=(S a).1.get t:=by
   intro n
   induction n with
   |zero=>intro _;rfl
   |succ n ih=>
    intro hn;obtain⟨o',fJ⟩:∃o',l[a+n]?=some o':=⟨_,aa (by omega)⟩;obtain⟨o'',tG,_,_,e3,_⟩:=fq (a+n) o' fJ;rw[bH,fJ]at tG;cases tG;rw[show a+(n+1)=a+n+1 by omega,e3];cases hd:o'.dst with
    |none=>exact ih (by omega)
    |some d=>
     simp only;rw[Tr.get_put,if_neg]
     ·exact ih (by omega)
     ·intro e;subst e;exact tP a j o wK ay ho (a+n) (by omega) (by omega) o' t fJ hd ht
  have:=key (j-a) (by omega);rw[show a+(j-a)=j by omega]at this;exact this
 have R:Dr P c r sz l.toArray S v (fun i=>bA i Wl) (dn ms):=by
  have keep:∀i,i<l.toArray.size→bA i Wl=false→(S (i+1)).2=(S i).2:=by
   intro i hi hW;obtain⟨o,ho⟩:∃o,l[i]?=some o:=⟨_,aa (by omega)⟩;obtain⟨_,_,_,_,_,e4,_⟩:=fq i o ho;exact(e4 hW).1
  have same:∀p n,p+n≤l.length→(∀j,p≤j→j<p+n→bA j Wl=false)→(S p).2=(S (p+n)).2:=by
   intro p n
   induction n with
   |zero=>intro _ _;rfl
   |succ n ih=>
    intro hn rR;rw[show p+(n+1)=p+n+1 by omega,keep (p+n) (by omega) (rR _ (by omega) (by omega))];exact ih (by omega) fun j h1 h2=>rR j h1 (by omega)
  refine⟨?_,?_,?_,?_,?_,keep,?_⟩
  ·intro i hi k hk;obtain⟨o,ho⟩:∃o,l[i]?=some o:=⟨_,aa (by omega)⟩;unfold gO at hk;rw[bH,ho]at hk;simp only[Option.map_some,Option.getD_some,Array.any_eq_true']at hk;obtain⟨e,he,hb⟩:=hk;rw[ao]at hb;have yJ:e.on=k:=by simpa using hb.2
   rw[← yJ];exact(tJ i o ho).1 e (by simpa using he) hb.1
  ·intro i j hb L hL ba;unfold dn at hb;rw[DI]at hb;cases OF:ms[j]? with
   |none=>simp[List.getD,OF]at hb
   |some m=>
    have:ms.getD j 0=m:=by simp[List.getD,OF]
    rw[this]at hb;exact dL j m OF i hb L hL ba
  ·intro i j o p d ho hp aT hd wK;rw[bH]at ho hp;have ik:=(tJ i o ho).2.2 j p hp aT;have fJ:=ik.dst d hd wK;exact⟨fun ay=>Tf ay fJ,fun ay=>Lz ay fJ⟩
  ·intro i j ay hj pK l5;obtain⟨oi,oX⟩:∃o,l[i]?=some o:=⟨_,aa (by omega)⟩;obtain⟨oj,wR⟩:∃o,l[j]?=some o:=⟨_,aa (by omega)⟩;exact Lz ay (((tJ i oi oX).2.2 j oj wR (by omega)).ww pK l5)
  ·intro i o ho;rw[bH]at ho;obtain⟨o',fJ,e1,e2,e3,_⟩:=fq i o ho;rw[bH,ho]at fJ;cases fJ;exact⟨e1,e2,e3⟩
  ·intro i o ho hW p hp ve dw;rw[bH]at ho;obtain⟨o',fJ,_,_,_,e4,_⟩:=fq i o ho;rw[bH,ho]at fJ;cases fJ;obtain⟨_,e5⟩:=e4 hW
   rcases e5 with e5 |⟨Ut,e5,e6⟩ |Jk
   ·exact e5 _ _
   ·refine e5 _ _ ?_
    by_cases tn:(pI o.op).isNone=true
    ·refine zPp ?_ _ _;unfold jG;rw[show l.toArray.toList[i]?=some o from ho];simp only;cases hf:pI o.op with
     |none=>rfl
     |some x=>rw[hf]at tn;cases tn
    have F5:(pI o.op).isNone=false:=by cases hh:(pI o.op).isNone <;> first |rfl |exact absurd hh tn
    have OA:i<l.length:=(List.getElem?_eq_some_iff.1 ho).1
    by_cases tI:p≤i
    ·
     by_cases hex:∃q,p≤q∧q<i∧bA q Wl=true
     ·obtain⟨q,⟨h1,h2,h3⟩,nI⟩:=Q7 hex;have cO:=same p (q-p) (by omega) fun j mh fm=>by
       cases l5:bA j Wl with
       |false=>rfl
       |true=>have:=nI j ⟨mh,by omega,l5⟩;omega
      rw[show p+(q-p)=q by omega]at cO;rw[cO];obtain⟨oq,hoq⟩:∃o,l[q]?=some o:=⟨_,aa (by omega)⟩;have ik:=((tJ i o ho).2.2 q oq hoq (by omega)).rw hW Ut h3 F5
      rcases ik with ik |ik
      ·have:=(dw q (by omega) h3).1 (Tf h2 ik);omega
      ·exact e6 q ik h2
     ·have cO:=same p (i-p) (by omega) fun j mh fm=>by
       cases l5:bA j Wl with
       |false=>rfl
       |true=>exact absurd ⟨j,mh,by omega,l5⟩ hex
      rw[show p+(i-p)=i by omega]at cO;rw[cO];exact HH _ _
    ·
     have key:∀n,i+n≤p→gJ (jG c l.toArray.toList i (S i).1) (S i).2.1 (S (i+n)).2.1:=by
      intro n
      induction n with
      |zero=>intro _;exact HH _ _
      |succ n ih=>
       intro hn;have ih:=ih (by omega);have Pc:p≤l.length:=by omega
       cases Ad:bA (i+n) Wl with
       |false=>
        rw[show i+(n+1)=i+n+1 by omega,keep (i+n) (by omega) Ad];exact ih
       |true=>
        have aT:i≠i+n:=fun e=>by rw[← e]at Ad;rw[hW]at Ad;cases Ad
        obtain⟨om,Db⟩:∃o,l[i+n]?=some o:=⟨_,aa (by omega)⟩;have ik:=((tJ i o ho).2.2 (i+n) om Db aT).rw hW Ut Ad F5
        rcases ik with ik |ik
        ·have:=(dw (i+n) (by omega) Ad).2 (Lz (by omega) ik);omega
        ·obtain⟨_,_,_,_,_,_,e7⟩:=fq (i+n) om Db;have h7:=e7 Ad i ik (by omega);have hfe:=Pj i (i+n) o ik (by omega) ho (by omega);have NV:jG c l.toArray.toList i (S (i+n)).1=jG c l.toArray.toList i (S i).1:=hfe;rw[NV]at h7;exact zRw ih h7
     have:=key (p-i) (by omega);rw[show i+(p-i)=p by omega]at this;exact this
   ·
    have OA:i<l.length:=(List.getElem?_eq_some_iff.1 ho).1;have eF:∀q,bA q Wl=true→q≠i→pA ms i q=true:=by
     intro q hq aT;have bZ:q∈Wl:=by
      have:∀(L:List Nat),bA q L=true→q∈L:=by
       intro L
       induction L with
       |nil=>intro e;cases e
       |cons b L ih=>
        intro e;simp only[bA]at e;split at e
        ·rename_i hb;rw[ad hb];exact aq
        ·exact an _ (ih e)
      exact this Wl hq
     unfold uh at Jk;have h8:=ep Jk q bZ;rw[Bool.or_eq_true]at h8
     rcases h8 with h8 |h8
     ·exact absurd (ad h8).symm aT
     ·rw[← Vd];exact h8
    have bZ:(S p).2=(S i).2:=by
     by_cases tI:p≤i
     ·have:=same p (i-p) (by omega) fun j h1 h2=>by
       cases l5:bA j Wl with
       |false=>rfl
       |true=>
        have:=(dw j (by omega) l5).1 (Tf (by omega) (eF j l5 (by omega)));omega
      rw[show p+(i-p)=i by omega]at this;exact this
     ·have Pc:p≤l.length:=(by omega);have:=same i (p-i) (by omega) fun j h1 h2=>by
       cases l5:bA j Wl with
       |false=>rfl
       |true=>
        by_cases e:j=i
        ·subst e;rw[hW]at l5;cases l5
        ·have:=(dw j (by omega) l5).2 (Lz (by omega) (eF j l5 e));omega
      rw[show i+(p-i)=p by omega]at this;exact this.symm
    obtain⟨o'',tG,e1,_,_,qz,_⟩:=fq i o ho;rw[bH,ho]at tG;cases tG;have jF:=e1;rw[(qz hW).1]at jF;rw[bZ];exact jF
 exact R
def zxq (hc:CxOk P c)(hG:c.G.sym=true){l:List Oper}(Wl Cl:List Nat)(U:List (Nat×Nat))(cC:uB c l (bP l []) Wl Cl U=true){K:AS→Prop}{ds:List DE}(hw:pD P c sz l Wl Cl U K l 0 (fun _=>.nil) (.mk tm h nx ds))(r:Option Nat):
  ∃S v bef,S 0=(tm,h,nx)∧K (.mk (S l.length).1 (S l.length).2.1 (S l.length).2.2 ds)∧Dr P c r sz l.toArray S v (fun i=>bA i Wl) bef:=by
 obtain⟨aX,uP⟩:=RB cC;obtain⟨S,v,q1,_,q3,q4⟩:=Sl (r:=r) hc hG (ops:=l.toArray) aX uP l 0 (fun _=>.nil) tm h nx ds (fun k=>by simp) (by simpa using hw) (fun _=>(tm,h,nx)) (fun _=>.nilFunc) rfl (fun j hj=>by omega);rw[Nat.zero_add]at q3;exact⟨S,v,_,q1 0 (ae _),q3,QW cC fun j hj=>q4 j (by omega) (by omega)⟩
def zbq (hm:P.follows .mixedOrders=true)(hc:CxOk P c)(hG:c.G.sym=true){inr:Bool}{id:Nat}{l:List Oper}(Wl Cl:List Nat)(U:List (Nat×Nat))(cC:uB c l (bP l []) Wl Cl U=true){Q:AX→AS→Prop}{s:AS}
  (hw:pD P c sz l Wl Cl U (Q .norm) l 0 (fun _=>.nil) s):AW P c inr sz (.region id l.toArray true) Q s:=by
 intro r hi σ a w ok st;cases s with
 |mk tm h nx ds=>
 simp only[AS.tm,AS.h,AS.nx,AS.ds]at ok st ⊢;obtain⟨S,v,bef,kN,q3,R⟩:=zxq hc hG Wl Cl U cC hw r;have bC:l.toArray.size=l.length:=by simp
 have iL:=zF8 (ds:=ds) hm R (σ:=σ) (w:=w) (a:=a) (by rw[kN];exact ok) (by rw[kN];exact st) id (Q:=Q) (by rw[bC];exact q3);rw[kN]at iL;exact iL
end
end
end Go.Ev
