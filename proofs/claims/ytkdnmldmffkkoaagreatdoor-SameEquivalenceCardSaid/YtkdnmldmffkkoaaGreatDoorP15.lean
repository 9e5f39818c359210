/- Texts. -/
import Derived.Test.YtkdnmldmffkkoaaGreatDoorP10
set_option linter.unusedSimpArgs false
set_option linter.unusedVariables false
set_option maxRecDepth 100000
namespace Go.Ev
noncomputable section
variable {P : Program} {c : Cx} {σ τ υ : Sg} {h g f : Tr ABlk} {nx ny nz sz : Nat} {ds : List DE} {w x y : World} {tm : Tr AV} {a : Act} {G : Gl}
mutual
inductive Fy (g:Tr ABlk) (F:Nat→Prop):AV→AV→Prop
 |same (v:AV):Fy g F v v
 |agg (l m:List AV):cW g F l m→Fy g F (.agg l) (.agg m)
 |tup (l m:List AV):cW g F l m→Fy g F (.tup l) (.tup m)
 |iface (t:TypeId) (v u:AV):Fy g F v u→Fy g F (.iface t v) (.iface t u)
 |func (fn:FuncId) (l m l' m':List AV):cW g F l m→cW g F l' m'→Fy g F (.func fn l l') (.func fn m m')
 |pin (i o e n:Nat) (c:Tr AV) (opn:Bool) (esz:Nat) (cs ds:List AV):F i→g.get i=some (.cells e n c opn esz)→o+cs.length≤n→(∀j,j<cs.length→c.get (o+j)=cs[j]?)→cW g F cs ds→Fy g F (.ptr i o) (.ip ds)
 |slz (i o len cp:Nat) (op:Bool) (e n:Nat) (c:Tr AV) (opn:Bool) (esz es:Nat) (cs ds xs:List AV):F i→g.get i=some (.cells e n c opn esz)→o+cs.length≤n→(∀j,j<cs.length→c.get (o+j)=cs[j]?)→cW g F cs ds→qG es xs ds→xs.length=len→Fy g F (.sl i o len cp op) (.fz es false xs)
inductive cW (g:Tr ABlk) (F:Nat→Prop):List AV→List AV→Prop
 |nil:cW g F [] []
 |cons (v u:AV) (l m:List AV):Fy g F v u→cW g F l m→cW g F (v::l) (u::m)
end
theorem cW.same {F:Nat→Prop}:∀l:List AV,cW g F l l
 |[]=>.nil
 |v::l=>.cons _ _ _ _ (.same v) (cW.same l)
open Classical in
def Sg.fry (σ:Sg)(x:World)(g:Tr ABlk)(F:Nat→Prop):Sg where
 blk:=σ.blk
 cap:=σ.cap
 opq:=σ.opq
 imm:=fun b=>match σ.imm b with
  |some C=>some C
  |none=>if ∃i e n c opn esz,F i∧g.get i=some (.cells e n c opn esz)∧σ.blk i=some b then (match x.heap[b]? with |some (.cells C _ _)=>some C.toList |_=>none) else none
theorem Sg.fry_le (σ:Sg)(x:World)(g:Tr ABlk)(F:Nat→Prop):σ.Le (σ.fry x g F):=
 ⟨fun _ _ h=>⟨h,rfl⟩,rfl,fun b C h=>by simp only[Sg.fry];rw[h]⟩
theorem Sj (hk:Ok G σ h nx w){F:Nat→Prop}{i e n esz b:Nat}{c:Tr AV}{opn:Bool}(hn:F i)(hg:h.get i=some (.cells e n c opn esz))(hb:σ.blk i=some b):
  ∃C fr,w.heap[b]?=some (.cells C e fr)∧(σ.fry w h F).imm b=some C.toList∧∀k,k<n→∃v V,c.get k=some v∧C[k]?=some V∧av σ v V:=by
 obtain⟨b',C,fr,aS,aF,aK,_,_⟩:=hk.cells hg;rw[hb]at aS;cases aS;refine⟨C,fr,aF,?_,aK⟩;have eE:σ.imm b=none:=by
  cases hi:σ.imm b with
  |none=>rfl
  |some D=>exact absurd hb ((hk.imm b D hi).2 i _ hg)
 show (match σ.imm b with |some C=>some C |none=>_)=_;rw[eE];simp only;rw[if_pos ⟨i,e,n,c,opn,esz,hn,hg,hb⟩,aF]
mutual
theorem Fy.rel (hk:Ok G σ h nx w){F:Nat→Prop}:∀{v u:AV},Fy h F v u→∀V,av σ v V→av (σ.fry w h F) u V
 |_,_,.same v,V,h=>h.mono (Sg.fry_le _ _ _ _)
 |_,_,.agg l m hl,V,h=>by
  simp only[av]at h ⊢;obtain⟨L,e,h1⟩:=h;exact⟨L,e,cW.rel hk hl L h1⟩
 |_,_,.tup l m hl,V,h=>by
  simp only[av]at h ⊢;obtain⟨L,e,h1⟩:=h;exact⟨L,e,cW.rel hk hl L h1⟩
 |_,_,.iface t v u hu,V,h=>by
  simp only[av]at h ⊢;obtain⟨U,e,h1⟩:=h;exact⟨U,e,Fy.rel hk hu U h1⟩
 |_,_,.func fn l m l' m' h1 h2,V,h=>by
  simp only[av]at h ⊢;obtain⟨A,C,e,q1,q2⟩:=h;exact⟨A,C,e,cW.rel hk h1 A q1,cW.rel hk h2 C q2⟩
 |_,_,.pin i o e n c opn esz cs ds hn hg hle eh hl,V,h=>by
  simp only[av]at h ⊢;obtain⟨b,hb,e1⟩:=h;obtain⟨C,fr,aF,jv,aK⟩:=Sj hk hn hg hb;obtain⟨L,r1,r2⟩:=KT aK hle eh;exact⟨b,o,C.toList,L,e1,jv,cW.rel hk hl L r1,r2⟩
 |_,_,.slz i o len cp op e n c opn esz es cs ds xs hn hg hle eh hl MP hlen,V,h=>by
  simp only[av]at h ⊢;obtain⟨b,hb,e1,gP⟩:=h;obtain⟨C,fr,aF,jv,aK⟩:=Sj hk hn hg hb;obtain⟨L,r1,r2⟩:=KT aK hle eh;obtain⟨XS,q1,q2⟩:=MP.rel (cW.rel hk hl L r1);refine⟨_,_,by rw[hlen];exact e1,by rw[hlen];exact gP,(fun hf=>by cases hf),(fun hf=>by cases hf),fun hx=>⟨b,o,C.toList,XS,rfl,jv,q1,?_⟩⟩;rw[r2]at q2;exact fL.of_take q2
theorem cW.rel (hk:Ok G σ h nx w){F:Nat→Prop}:∀{l m:List AV},cW h F l m→∀L,aC σ l L→aC (σ.fry w h F) m L
 |_,_,.nil,L,h=>by simpa only[aC]using h
 |_,_,.cons v u l m h1 h2,L,h=>by
  simp only[aC]at h ⊢;obtain⟨V,L',e,q1,q2⟩:=h;exact⟨V,L',e,Fy.rel hk h1 V q1,cW.rel hk h2 L' q2⟩
end
inductive DW (g:Tr ABlk) (F:Nat→Prop):ABlk→ABlk→Prop
 |same (B:ABlk):DW g F B B
 |cells (e n:Nat) (c c':Tr AV) (opn:Bool) (esz:Nat):(∀k,k<n→∀v,c.get k=some v→∃u,c'.get k=some u∧Fy g F v u)→DW g F (.cells e n c opn esz) (.cells e n c' opn esz)
def rI (h:Tr ABlk)(F:Nat→Prop)(tm tm':Tr AV):Prop:=∀t u,tm'.get t=some u→∃v,tm.get t=some v∧Fy h F v u
theorem rI.refl {F:Nat→Prop}:rI h F tm tm:=fun _ u e=>⟨u,e,.same u⟩
theorem rI.put {F:Nat→Prop}{tm':Tr AV}(ht:rI h F tm tm'){k:Nat}{v u:AV}(hk:tm.get k=some v)(hu:Fy h F v u):rI h F tm (tm'.put k (some u)):=by
 intro t z e;rw[Tr.get_put]at e;split at e
 ·rename_i e1;cases e;exact⟨v,by rw[e1];exact hk,hu⟩
 ·exact ht t z e
def iy (h:Tr ABlk)(F:Nat→Prop)(h':Tr ABlk):Prop:=∀i B',h'.get i=some B'→¬F i∧∃B,h.get i=some B∧DW h F B B'
def jo (h:Tr ABlk):List Nat→Tr ABlk
 |[]=>h
 |i::l=>(jo h l).put i none
theorem yx (h:Tr ABlk) (k:Nat):∀l:List Nat,(jo h l).get k=if k∈l then none else h.get k
 |[]=>by simp[jo]
 |i::l=>by
  rw[jo,Tr.get_put,yx h k l]
  by_cases e:k=i
  ·simp[e]
  ·simp[e]
theorem iy.kill (l:List Nat):iy h (fun i=>i∈l) (jo h l):=by
 intro i B e;rw[yx]at e;split at e
 ·cases e
 ·rename_i hn;exact⟨hn,B,e,.same B⟩
theorem iy.put {F:Nat→Prop}{h':Tr ABlk}(hh:iy h F h'){i:Nat}{B B':ABlk}(hF:¬F i)(hi:h.get i=some B)(hb:DW h F B B'):iy h F (h'.put i (some B')):=by
 intro k C e;rw[Tr.get_put]at e;split at e
 ·rename_i e1;subst e1;cases e;exact⟨hF,B,hi,hb⟩
 ·exact hh k C e
theorem Post.fry (hk:Ok G σ h nx w){F:Nat→Prop}{h':Tr ABlk}(hh:iy h F h'):Post G σ h nx w (σ.fry w h F) h' nx w:=by
 have hle:=σ.fry_le w h F;refine⟨⟨hk.glob,hk.le,hk.fresh,fun i j b B B' h1 h2 h3 h4=>?_,fun i B h1=>?_,fun b C hb=>?_,fun i cs hi=>(hk.gl i cs hi).mono hle⟩,hle,⟨rfl,rfl,rfl,ae _,fun _ _ _=>rfl,fun i B b h1 h2=>?_,fun b C hb=>?_⟩,ae _⟩
 ·obtain⟨_,C,g1,_⟩:=hh i B h1;obtain⟨_,C',g2,_⟩:=hh j B' h2;exact hk.inj i j b C C' g1 g2 h3 h4
 ·obtain⟨_,C,g1,g2⟩:=hh i B h1;obtain⟨b,o,q1,q2,q3⟩:=hk.blk i C g1;refine⟨b,o,q1,q2,?_⟩;cases g2 with
  |same=>exact q3.mono hle q1
  |cells e n c c' opn esz hc=>
   simp only[bX]at q3 ⊢;obtain⟨D,fr,e1,h1,h2,h3⟩:=q3;refine⟨D,fr,e1,fun k aU=>?_,h2,h3⟩;obtain⟨v,V,r1,r2,r3⟩:=h1 k aU;obtain⟨u,s1,s2⟩:=hc k aU v r1;exact⟨u,V,s1,r2,s2.rel hk V r3⟩
 ·have jv:(σ.imm b=some C)∨(σ.imm b=none∧∃i e n c opn esz,F i∧h.get i=some (.cells e n c opn esz)∧σ.blk i=some b):=by
   simp only[Sg.fry]at hb;cases hi:σ.imm b with
   |some D=>rw[hi]at hb;exact .inl hb
   |none=>
    rw[hi]at hb;simp only at hb;split at hb
    ·exact .inr ⟨rfl,by assumption⟩
    ·cases hb
  rcases jv with hi |⟨_,i,e,n,c,opn,esz,h1,h2,h3⟩
  ·obtain⟨q1,q2⟩:=hk.imm b C hi;refine⟨q1,fun j B hj e=>?_⟩;obtain⟨_,B0,g1,_⟩:=hh j B hj;exact q2 j B0 g1 e
  ·obtain⟨D,fr,r1,r2,_⟩:=Sj hk h1 h2 h3;rw[hb]at r2;cases r2;refine⟨⟨e,fr,by simpa using r1⟩,fun j B hj e'=>?_⟩;obtain⟨n1,B0,g1,_⟩:=hh j B hj;have:=hk.inj j i b B0 _ g1 h2 e' h3;subst this;exact n1 h1
 ·obtain⟨_,C,g1,_⟩:=hh i B h1;exact .inr ⟨i,C,g1,h2⟩
 ·simp only[Sg.fry]at hb;cases hi:σ.imm b with
  |some D=>rw[hi]at hb;cases hb;exact .inl rfl
  |none=>
   rw[hi]at hb;simp only at hb;split at hb
   ·rename_i hex;obtain⟨i,e,n,c,opn,esz,_,h2,h3⟩:=hex;exact .inr (.inr ⟨i,_,h2,h3⟩)
   ·cases hb
theorem GG (F:Nat→Prop){inr:Bool}{code:Code}{Q:AX→AS→Prop}{tm':Tr AV}{h':Tr ABlk}(hh:iy h F h')(ht:rI h F tm tm')
  (hw:AW P c inr sz code Q (.mk tm' h' nx ds)):AW P c inr sz code Q (.mk tm h nx ds):=by
 intro r hi σ a w ok st;simp only[AS.h,AS.nx,AS.tm,AS.ds]at ok st;have p:=Post.fry ok hh;have qw:St (σ.fry w h F) tm' a sz ds:=by
  refine⟨fun t u e=>?_,st.size,st.defers.mono p.le⟩;obtain⟨v,e1,e2⟩:=ht t u e;exact e2.rel ok _ (st.tm t v e1)
 exact wpIn_mono (hw r hi _ a w p.ok qw) fun e a' w' q=>AQ.trans p q
theorem DN (F:Nat→Prop){fid:FuncId}{args args':List AV}{R:AV→Tr ABlk→Nat→Prop}{h':Tr ABlk}(hh:iy h F h')(ha:cW h F args args')
  (hw:aN P c fid args' h' nx R):aN P c fid args h nx R:=by
 intro σ w A ok hA;have p:=Post.fry ok hh;refine(hw _ w A p.ok (ha.rel ok A hA)).mono fun V x ⟨τ,v,g,ny,h1,h2,h3⟩=>⟨τ,v,g,ny,h1,p.trans h2,h3⟩
end
end Go.Ev
namespace Go.Ev
noncomputable section
variable {P : Program} {c : Cx} {σ τ υ : Sg} {h h' g f : Tr ABlk} {nx ax ny nz sz : Nat} {ds : List DE} {w x y : World} {tm tm' : Tr AV} {a : Act} {G : Gl} {r : Option Nat}
def Jk (d:Option Tmp)(tm:Tr AV)(K:AS→Prop)(s:AS):Prop:=K s∧∀t,d≠some t→s.tm.get t=tm.get t
theorem xj {d:Option Tmp}{v:AV}{K:AS→Prop}(hp:cT sz d v (.mk tm h nx ds) K):cT sz d v (.mk tm h nx ds) (Jk d tm K):=by
 cases d with
 |none=>exact⟨hp,fun t _=>rfl⟩
 |some d=>
  refine⟨hp.1,hp.2,fun t ht=>?_⟩;show (tm.put d (some v)).get t=tm.get t;rw[Tr.get_put,if_neg (fun e=>ht (by rw[e]))]
theorem Ww {ops:List Oper}{o:Oper}{K:AS→Prop}(hs:cz P c sz ops o K (.mk tm h nx ds)):cz P c sz ops o (Jk o.dst tm K) (.mk tm h nx ds):=by
 have oz:∀r:R,dp sz o.dst tm ds K r→dp sz o.dst tm ds (Jk o.dst tm K) r:=by
  intro r hq;unfold dp at *;cases r with
  |fail=>exact hq.elim
  |val v g ny=>exact xj hq
  |unit g ny=>exact xj hq
 have plain:=oz (gU c o.op tm h nx);have call:∀fv l,tA P c sz o.dst tm h nx ds K fv l→tA P c sz o.dst tm h nx ds (Jk o.dst tm K) fv l:=by
  intro fv l hq;unfold tA at *;cases fv with
  |none=>exact hq.elim
  |some fv=>
   cases fv <;> try exact hq.elim
   ·cases l with
    |none=>exact hq.elim
    |some l=>exact aN.mono hq fun v g ny q=>xj q
   ·cases l with
    |none=>exact hq.elim
    |some l=>exact tl.mono hq fun v g ny q=>xj q
 unfold cz at *;simp only at hs ⊢;cases hw:fY ops tm o with
 |none=>rw[hw]at hs;exact hs.elim
 |some b=>
  rw[hw]at hs;cases b with
  |false=>exact xj hs
  |true=>
   simp only at hs ⊢;obtain⟨dst,op,type,pos,after,guard⟩:=o;cases op <;> try exact plain hs
   case lookup t x k ok=>exact oz _ hs
   case mapUpdate t x k v=>exact oz _ hs
   case range t x=>
    obtain⟨m,es,cl,k,e,q1,q2,q3,q4,e1,e2,e3,e4⟩:=hs;exact⟨m,es,cl,k,e,q1,q2,q3,q4,e1,e2,e3,xj e4⟩
   case next x b=>
    cases b with
    |true=>exact hs.elim
    |false=>
     obtain⟨it,m,since,seen,st,es,cl,e1,e2,e3,e4,e5,e6,e7⟩:=hs;exact⟨it,m,since,seen,st,es,cl,e1,e2,e3,e4,e5,fun q=>xj (e6 q),fun e he hn=>xj (e7 e he hn)⟩
   case entry x=>
    obtain⟨it,m,since,seen,es,cl,e,e1,e2,e3,e4,e5,e6⟩:=hs;exact⟨it,m,since,seen,es,cl,e,e1,e2,e3,e4,e5,xj e6⟩
   case call cl=>
    obtain⟨callee,args,argTypes⟩:=cl;cases callee <;> try exact plain hs
    exact call _ _ hs
def rh:List (Nat×Nat×Nat)→Tr AV→Tr AV
 |[],tm=>tm
 |p::l,tm=>(rh l tm).put p.2.2 none
def qZ:List (Nat×Nat×Nat)→Tr AV→Tr AV→Tr AV
 |[],_,tm=>tm
 |p::l,dZ,tm=>(qZ l dZ tm).put p.2.2 (dZ.get p.2.2)
theorem K9 (t:Nat):∀(l:List (Nat×Nat×Nat))(tm:Tr AV),(rh l tm).get t=if t∈l.map (fun p=>p.2.2) then none else tm.get t
 |[],tm=>by simp[rh]
 |p::l,tm=>by
  rw[rh,Tr.get_put,K9 t l tm]
  by_cases e:t=p.2.2
  ·simp[e]
  ·simp only[List.map_cons,List.mem_cons,e,false_or,if_false]
theorem Q9 (t:Nat):∀(l:List (Nat×Nat×Nat))(dZ tm:Tr AV),(qZ l dZ tm).get t=if t∈l.map (fun p=>p.2.2) then dZ.get t else tm.get t
 |[],dZ,tm=>by simp[qZ]
 |p::l,dZ,tm=>by
  rw[qZ,Tr.get_put,Q9 t l dZ tm]
  by_cases e:t=p.2.2
  ·simp[e]
  ·simp only[List.map_cons,List.mem_cons,e,false_or,if_false]
def ri (fl:List (Nat×Nat×Nat))(dZ:Tr AV):AS→AS
 |.mk tm h nx ds=>.mk (qZ fl dZ tm) h nx ds
def Hl (o:Oper) (t d:Nat):Bool:=match o.op,o.guard,o.dst with
 |.move (.tmp t'),none,some d'=>Nat.beq t' t && Nat.beq d' d
 |_,_,_=>false
def Dd (o:Oper) (t:Nat):Bool:=match o.dst with
 |none=>true
 |some d=>!(Nat.beq d t)
def qt (i:Nat):List (Nat×Nat×Nat)→Bool
 |[]=>false
 |p::l=>match Nat.beq i p.1 with
  |true=>true
  |false=>qt i l
def Jo (ms:List Nat)(l1 l2:List Oper)(Wl:List Nat)(fl:List (Nat×Nat×Nat)) (m2:Nat):Bool:=
 eg l1 (fun o=>match o.guard with |none=>true |some (j,_)=>Nat.ble (Nat.succ j) l1.length) &&
 eg fl (fun p=>(match l1[p.1]? with |some o=>Hl o p.2.1 p.2.2 |none=>false) && !(bq p.1 Wl) &&
  eg (jk (l1++l2).length) (fun j=>match (l1++l2)[j]? with
   |none=>true
   |some o=>(Nat.beq j p.1 || Dd o p.2.2) && (Nat.ble j p.1 || (Nat.ble (Nat.add l1.length m2) j || Dd o p.2.1))) && eg fl (fun q=>!(Nat.beq q.2.2 p.2.1))) &&
 eg (jk (l1++l2).length) (fun j=>match Nat.ble l1.length j with
  |false=>true
  |true=>(match (l1++l2)[j]? with
    |none=>true
    |some o=>eg o.after.toList (fun e=>match Region.binds .any e with |true=>Nat.ble (Nat.succ e.on) j |false=>true)) &&
   eg (jk j) (fun i=>cU ms i j || (qt i fl && Nat.ble (Nat.succ j) (Nat.add l1.length m2)))) && Nat.ble 1 l2.length && Nat.ble m2 l2.length
structure SplitOk (ms:List Nat)(l1 l2:List Oper)(Wl:List Nat)(fl:List (Nat×Nat×Nat)) (m2:Nat):Prop where
 guard:∀o∈l1,∀j b,o.guard=some (j,b)→j<l1.length
 mov:∀p∈fl,∃o,l1[p.1]?=some o∧Hl o p.2.1 p.2.2=true
 nw:∀p∈fl,bq p.1 Wl=false
 dst:∀p∈fl,∀j o,(l1++l2)[j]?=some o→j≠p.1→o.dst≠some p.2.2
 src:∀p∈fl,∀j o,(l1++l2)[j]?=some o→p.1<j→j<l1.length+m2→o.dst≠some p.2.1
 src2:∀p∈fl,∀q∈fl,q.2.2≠p.2.1
 back:∀j o,l1.length≤j→(l1++l2)[j]?=some o→∀e∈o.after.toList,Region.binds .any e=true→e.on<j
 bef:∀j,l1.length≤j→j<(l1++l2).length→∀i,i<j→cU ms i j=true∨(qt i fl=true∧j<l1.length+m2)
 pos:1≤l2.length
 le:m2≤l2.length
theorem zRx {a b:Nat}(h:Nat.beq a b=false):a≠b:=fun e=>by subst e;simp at h
theorem KN {o:Oper}{t:Nat}(h:Dd o t=true):o.dst≠some t:=by
 intro e;unfold Dd at h;rw[e]at h;simp at h
theorem zHr {ms:List Nat}{l1 l2:List Oper}{Wl:List Nat}{fl:List (Nat×Nat×Nat)}{m2:Nat}(h:Jo ms l1 l2 Wl fl m2=true):SplitOk ms l1 l2 Wl fl m2:=by
 unfold Jo at h;simp only[al]at h;obtain⟨⟨⟨⟨h1,h2⟩,h3⟩,h4⟩,h5⟩:=h;have hf:∀p∈fl,(∃o,l1[p.1]?=some o∧Hl o p.2.1 p.2.2=true)∧bq p.1 Wl=false∧(∀j o,(l1++l2)[j]?=some o→(j≠p.1→o.dst≠some p.2.2)∧(p.1<j→j<l1.length+m2→o.dst≠some p.2.1))∧∀q∈fl,q.2.2≠p.2.1:=by
  intro p hp;have:=dO h2 p hp;simp only[al]at this;obtain⟨⟨⟨q1,q2⟩,q3⟩,q4⟩:=this;refine⟨?_,by simpa using q2,fun j o ho=>?_,fun q hq=>?_⟩
  ·cases ho:l1[p.1]? with
   |none=>rw[ho]at q1;cases q1
   |some o=>rw[ho]at q1;exact⟨o,rfl,q1⟩
  ·have az:j<(l1++l2).length:=(List.getElem?_eq_some_iff.1 ho).1;have:=dO q3 j (List.mem_range.2 az);rw[ho]at this;simp only[al,Bool.or_eq_true]at this;refine⟨fun aQ=>?_,fun az cg=>?_⟩
   ·rcases this.1 with e |e
    ·exact absurd (ad e) aQ
    ·exact KN e
   ·rcases this.2 with e |e |e
    ·have:=ah e;omega
    ·have:l1.length+m2≤j:=ah e;omega
    ·exact KN e
  ·have:=dO q4 q hq;exact zRx (by simpa using this)
 refine⟨fun o ho j b hg=>?_,fun p hp=>(hf p hp).1,fun p hp=>(hf p hp).2.1,fun p hp j o ho=>((hf p hp).2.2.1 j o ho).1,fun p hp j o ho=>((hf p hp).2.2.1 j o ho).2,fun p hp=>(hf p hp).2.2.2,fun j o hj ho e he hb=>?_,fun j hj az i hi=>?_,ah h4,ah h5⟩
 ·have:=dO h1 o ho;rw[hg]at this;exact ah this
 ·have az:j<(l1++l2).length:=(List.getElem?_eq_some_iff.1 ho).1;have:=dO h3 j (List.mem_range.2 az);rw[Nat.ble_eq_true_of_le hj]at this;simp only[al]at this;have h6:=this.1;rw[ho]at h6;have:=dO h6 e he;rw[hb]at this;exact ah this
 ·have:=dO h3 j (List.mem_range.2 az);rw[Nat.ble_eq_true_of_le hj]at this;simp only[al]at this;have h6:=dO this.2 i (List.mem_range.2 hi);simp only[Bool.or_eq_true,al]at h6
  rcases h6 with e |⟨e1,e2⟩
  ·exact .inl e
  ·exact .inr ⟨e1,ah e2⟩
theorem Hf {i:Nat}:∀{l:List (Nat×Nat×Nat)},qt i l=true→∃p∈l,p.1=i
 |[],h=>by cases h
 |p::l,h=>by
  simp only[qt]at h;split at h
  ·rename_i e;exact⟨p,ao,(ad e).symm⟩
  ·obtain⟨q,h1,h2⟩:=Hf h;exact⟨q,ak _ h1,h2⟩
structure SInv (P:Program)(c:Cx) (sz:Nat)(l1 l2:List Oper)(fl:List (Nat×Nat×Nat)) (m2:Nat)(u:Nat×Nat×Nat→AV)(K1:AS→Prop)(Kf:AS→Prop)(σ0:Sg)(h0:Tr ABlk) (n0:Nat)(w0:World)(ds:List DE)(l:Array Bool)(a:Act)(w:World):Prop where
 ex:∃m τ tm h nx,l1.length≤m∧m≤(l1++l2).length∧(∀j,l1.length≤j→j<(l1++l2).length→(l.getD j false=true↔j<m))∧
  (∀i,i<l1.length→qt i fl=false→l.getD i false=true)∧Post c.G σ0 h0 n0 w0 τ h nx w∧St τ tm a sz ds∧
  ((m<l1.length+m2∧gw P c sz (l1++l2) K1 ((l2.take m2).drop (m-l1.length)) (.mk tm h nx ds)∧(∀p∈fl,tm.get p.2.2=none∧tm.get p.2.1=some (u p)∧p.2.2<sz∧(l.getD p.1 false=true→av τ (u p) (a.tmps.getD p.2.2 undef)))) ∨
   (l1.length+m2≤m∧m=l1.length+m2∧K1 (.mk tm h nx ds)∧(∀p∈fl,tm.get p.2.2=none∧tm.get p.2.1=some (u p)∧p.2.2<sz∧(l.getD p.1 false=true→av τ (u p) (a.tmps.getD p.2.2 undef)))) ∨
   (l1.length+m2<m∧(∀i,i<l1.length→l.getD i false=true)∧gw P c sz (l1++l2) Kf (l2.drop (m-l1.length)) (.mk tm h nx ds)))
theorem zQ6 {ops wm:Array Oper}{Q:Exit→Act→World→Prop}{K:Act→World→Prop}{i k:Nat}(hi:i<k)(fK:∀j,j<k→wm[j]?=ops[j]?)(hg:∀o,ops[i]?=some o→∀j b,o.guard=some (j,b)→j<k)
  (h:wpOpIn (dD r) 0 P ops Q i K a w):wpOpIn (dD r) 0 P wm Q i K a w:=by
 unfold wpOpIn at *;rw[fK i hi];cases ho:ops[i]? with
 |none=>rw[ho]at h;exact h
 |some o=>
  rw[ho]at h;simp only at h ⊢;have hw:Region.wanted o (yielded wm a.tmps)=Region.wanted o (yielded ops a.tmps):=by
   unfold Region.wanted;cases zJ:o.guard with
   |none=>rfl
   |some p=>
    obtain⟨j,b⟩:=p;have:yielded wm a.tmps j=yielded ops a.tmps j:=by
     unfold yielded;rw[fK j (hg o ho j b zJ)]
    simp only[this]
  rw[hw];exact h
def JD (P:Program)(c:Cx) (sz:Nat)(l1 l2:List Oper)(fl:List (Nat×Nat×Nat)) (m2:Nat)(Kf:AS→Prop)(s:AS):Prop:=match s with
 |.mk dZ h nx ds=>(∀p∈fl,∃u,dZ.get p.2.2=some u∧dZ.get p.2.1=some u∧p.2.2<sz)∧gw P c sz (l1++l2) (fun s'=>gw P c sz (l1++l2) Kf (l2.drop m2) (ri fl dZ s')) (l2.take m2) (.mk (rh fl dZ) h nx ds)
theorem PO {o:Oper}{t d:Nat}(h:Hl o t d=true):o.op=.move (.tmp t)∧o.guard=none∧o.dst=some d:=by
 unfold Hl at h;split at h
 ·rename_i t' d' e1 e2 e3;rw[al]at h;rw[e1,e2,e3,ad h.1,ad h.2];exact⟨rfl,rfl,rfl⟩
 ·cases h
theorem yT {l:Array Bool}{k i:Nat}(hi:i<k):(l.extract 0 k).getD i false=l.getD i false:=by
 simp only[Array.getD_eq_getD_getElem?,Array.getElem?_extract]
 by_cases h1:i<l.size
 ·have h2:i<min k l.size:=by omega
  simp[h1,h2]
 ·have h2:¬i<min k l.size:=by omega
  simp[h1,h2]
theorem W9 {l:Array Bool}{k i:Nat}(hi:k≤i):(l.extract 0 k).getD i false=false:=by
 simp only[Array.getD_eq_getD_getElem?];rw[Array.getElem?_eq_none (by simp;omega)];rfl
theorem zT2 {l:Array Bool}{k i:Nat}(hi:i<k):(l.setIfInBounds i true).extract 0 k=(l.extract 0 k).setIfInBounds i true:=by
 apply Array.ext_getElem?;intro j;simp only[Array.getElem?_extract,Array.getElem?_setIfInBounds,Array.size_extract,Array.size_setIfInBounds,Nat.zero_add,Nat.sub_zero]
 by_cases h1:j<min k l.size
 ·by_cases h2:i=j
  ·subst h2;simp[h1];omega
  ·simp[h1,h2]
 ·by_cases h2:i=j
  ·subst h2;simp[h1]
  ·simp[h1,h2]
theorem C5 {a:Act}{d:Option Tmp}{V:Value}{t:Nat}(h:d≠some t):(a.put d V).tmps.getD t undef=a.tmps.getD t undef:=by
 cases d with
 |none=>rfl
 |some d=>
  have:¬d=t:=fun e=>h (by rw[e]);simp[Act.put,Array.getD_eq_getD_getElem?,this]
section
variable {l1 l2 : List Oper} {Wl : List Nat} {fl : List (Nat × Nat × Nat)} {m2 : Nat} {S : Nat → Tr AV × Tr ABlk × Nat} {v : Nat → AV} {bef : Nat → Nat → Bool} {Kf : AS → Prop}
def sZ (dZ:Tr AV)(p:Nat×Nat×Nat):AV:=(dZ.get p.2.2).getD .nilFunc
theorem toS {ms:List Nat}(X:SplitOk ms l1 l2 Wl fl m2)(R:Dr P c r sz l1.toArray S v (fun i=>bq i Wl) bef){D0:List Deferred}{l:Array Bool}{a1:Act}{w1:World}(bI:l.size=(l1++l2).length)(I:DInv c sz l1.toArray S v (fun i=>bq i Wl) σ w D0 (l.extract 0 l1.length) a1 w1)
  (hD:yR σ ds D0) (sF:∀i,i<l1.length→qt i fl=false→l.getD i false=true) (hj:∀j,l1.length≤j→l.getD j false=false)
  (hq:JD P c sz l1 l2 fl m2 Kf (.mk (S l1.length).1 (S l1.length).2.1 (S l1.length).2.2 ds)):
  SInv P c sz l1 l2 fl m2 (sZ (S l1.length).1) (fun s'=>gw P c sz (l1++l2) Kf (l2.drop m2) (ri fl (S l1.length).1 s')) Kf σ (S 0).2.1 (S 0).2.2 w ds l a1 w1:=by
 obtain⟨p,τ,hp,um,cD,bw,qP⟩:=I.pos;have lK:l1.toArray.size=l1.length:=by simp
 rw[lK]at hp cD qP;have oh:∀j,p≤j→j<p+(l1.length-p)→bq j Wl=false:=by
  intro j h1 h2;cases hw:bq j Wl with
  |false=>rfl
  |true=>
   have NO:qt j fl=false:=by
    cases hf:qt j fl with
    |false=>rfl
    |true=>
     obtain⟨q,q1,q2⟩:=Hf hf;have:=X.nw q q1;rw[q2,hw]at this;cases this
   have:=(cD j (by omega) hw).1 (by rw[yT (by omega)];exact sF j (by omega) NO);omega
 have cF:=R.same p (l1.length-p) (by rw[lK];omega) oh;rw[Nat.add_sub_cancel' hp]at cF;rw[cF]at bw;have FZ:=R.text l1.length (by rw[lK];exact ae _);have bA:∀j,l1.toArray[j]?=l1[j]?:=fun j=>List.getElem?_toArray;have NG:∀p∈fl,∃o,l1[p.1]?=some o∧o.op=.move (.tmp p.2.1)∧o.guard=none∧o.dst=some p.2.2:=by
  intro p hp;obtain⟨o,h1,h2⟩:=X.mov p hp;exact⟨o,h1,PO h2⟩
 have Od:∀t u,¬t∈fl.map (fun p=>p.2.2)→(S l1.length).1.get t=some u→av τ u (a1.tmps.getD t undef):=by
  intro t u hnt e;refine qP t u ?_;rw[← e,FZ t];refine(yV l1.length fun j hj hd=>?_);show (l.extract 0 l1.length).getD j false=true;rw[yT hj];refine sF j hj ?_;cases hf:qt j fl with
  |false=>rfl
  |true=>
   obtain⟨q,q1,q2⟩:=Hf hf;obtain⟨o,o1,_,_,o2⟩:=NG q q1;rw[bA,← q2,o1]at hd;simp only[Option.bind_some,o2]at hd;cases hd;exact absurd (List.mem_map.2 ⟨q,q1,rfl⟩) hnt
 have gE:∀p∈fl,(S l1.length).1.get p.2.2=some (sZ (S l1.length).1 p)∧(S l1.length).1.get p.2.1=some (sZ (S l1.length).1 p)∧p.2.2<sz:=by
  intro p hp;obtain⟨u,e1,e2,e3⟩:=hq.1 p hp;have:sZ (S l1.length).1 p=u:=by unfold sZ;rw[e1];rfl
  rw[this];exact⟨e1,e2,e3⟩
 have facts:∀p∈fl,(rh fl (S l1.length).1).get p.2.2=none∧(rh fl (S l1.length).1).get p.2.1=some (sZ (S l1.length).1 p)∧p.2.2<sz∧(l.getD p.1 false=true→av τ (sZ (S l1.length).1 p) (a1.tmps.getD p.2.2 undef)):=by
  intro p hp;obtain⟨e1,e2,e3⟩:=gE p hp;refine⟨?_,?_,e3,fun hl=>?_⟩
  ·rw[K9,if_pos (List.mem_map.2 ⟨p,hp,rfl⟩)]
  ·rw[K9,if_neg]
   ·exact e2
   ·intro hm;obtain⟨q,q1,q2⟩:=List.mem_map.1 hm;exact X.src2 p hp q q1 q2
  ·refine qP p.2.2 _ ?_;rw[← e1,FZ p.2.2];refine(yV l1.length fun j hj hd=>?_);show (l.extract 0 l1.length).getD j false=true;rw[yT hj]
   by_cases e:j=p.1
   ·rw[e];exact hl
   ·exfalso;have vS:(l1++l2)[j]?=l1[j]?:=List.getElem?_append_left hj;rw[bA,aa hj]at hd;exact X.dst p hp j l1[j] (by rw[vS,aa hj]) e hd
 refine⟨l1.length,τ,rh fl (S l1.length).1,(S l1.length).2.1,(S l1.length).2.2,ae _,by simp,fun j h1 h2=>?_,sF,bw,⟨fun t u e=>?_,I.size,by rw[I.defers];exact hD.mono bw.le⟩,?_⟩
 ·rw[hj j h1];constructor
  ·intro e;cases e
  ·intro e;omega
 ·rw[K9]at e;split at e
  ·cases e
  ·rename_i hn;exact Od t u hn e
 ·by_cases hm:m2=0
  ·subst hm;refine .inr (.inl ⟨by omega,by omega,?_,facts⟩);exact hq.2
  ·exact .inl ⟨by omega,by simpa using hq.2,facts⟩
theorem zN2 (hc:CxOk P c){ms:List Nat}(X:SplitOk ms l1 l2 Wl fl m2)(dJ:wQ (l1++l2).toArray ms)(fF:ms.length=(l1++l2).length){u:Nat×Nat×Nat→AV}{dZ:Tr AV}(hu:∀p∈fl,dZ.get p.2.2=some (u p)){σ0:Sg}{h0:Tr ABlk}{n0:Nat}{w0:World}{l:Array Bool}{a1:Act}{w1:World}{QQ:Exit→Act→World→Prop}{i:Nat}
  (bI:l.size=(l1++l2).length) (aX:py (l1++l2).toArray l) (hi:i<(l1++l2).length) (cI:l.getD i false=false) (bd:∀k,fS (l1++l2).toArray k i=true→l.getD k false=true)
  (I:SInv P c sz l1 l2 fl m2 u (fun s'=>gw P c sz (l1++l2) Kf (l2.drop m2) (ri fl dZ s')) Kf σ0 h0 n0 w0 ds l a1 w1):
  wpOpIn (dD r) 0 P (l1++l2).toArray QQ i (SInv P c sz l1 l2 fl m2 u (fun s'=>gw P c sz (l1++l2) Kf (l2.drop m2) (ri fl dZ s')) Kf σ0 h0 n0 w0 ds (l.setIfInBounds i true)) a1 w1:=by
 obtain⟨m,τ,tm,h,nx,ui,Iz,kL,fK,bw,st,kJ⟩:=I;have iD:i<l.size:=by omega
 have bW:∀j,(l.setIfInBounds i true).getD j false=if j=i then true else l.getD j false:=fun j=>yH iD
 have bA:∀j,(l1++l2).toArray[j]?=(l1++l2)[j]?:=fun j=>List.getElem?_toArray;have bo:∀k,cU ms k i=true→l.getD k false=true:=by
  intro k hb;unfold cU at hb;rw[CV]at hb;obtain⟨mm,kN⟩:∃mm,ms[i]?=some mm:=⟨_,aa (by omega)⟩;have e:ms.getD i 0=mm:=by simp[List.getD,kN]
  rw[e]at hb;exact dJ i mm kN k hb l aX bd
 unfold wpOpIn;rw[bA,aa hi];simp only
 by_cases qN:i<l1.length
 ·
  have hf:qt i fl=true:=by
   cases hf:qt i fl with
   |true=>rfl
   |false=>rw[fK i qN hf]at cI;cases cI
  obtain⟨p,hp,sJ⟩:=Hf hf;obtain⟨o,o1,o2⟩:=X.mov p hp;obtain⟨m1,m3,m4⟩:=PO o2;have ho:(l1++l2)[i]=o:=by
   have h1:(l1++l2)[i]?=some o:=by rw[List.getElem?_append_left qN,← sJ];exact o1
   rw[aa hi]at h1;exact Option.some.inj h1
  rw[ho];have ND:(m<l1.length+m2∧gw P c sz (l1++l2) (fun s'=>gw P c sz (l1++l2) Kf (l2.drop m2) (ri fl dZ s')) ((l2.take m2).drop (m-l1.length)) (.mk tm h nx ds)∨(l1.length+m2≤m∧m=l1.length+m2∧gw P c sz (l1++l2) Kf (l2.drop m2) (ri fl dZ (.mk tm h nx ds))))∧(∀p∈fl,tm.get p.2.2=none∧tm.get p.2.1=some (u p)∧p.2.2<sz∧(l.getD p.1 false=true→av τ (u p) (a1.tmps.getD p.2.2 undef))):=by
   rcases kJ with⟨c1,c2,c3⟩ |⟨c1,c2,c3,c4⟩ |⟨c1,c2,c3⟩
   ·exact⟨.inl ⟨c1,c2⟩,c3⟩
   ·exact⟨.inr ⟨c1,c2,c3⟩,c4⟩
   ·rw[c2 i qN]at cI;cases cI
  obtain⟨FB,xZ⟩:=ND;obtain⟨f1,f2,f3,_⟩:=xZ p hp;have cr:Region.wanted o (yielded (l1++l2).toArray a1.tmps)=true:=by unfold Region.wanted;rw[m3]
  rw[cr];simp only[if_true];refine jS (fun cl e=>by rw[m1]at e;cases e) ?_;have hex:(execOp a1.eval o).run P w1=.ok (.value (a1.eval (.tmp p.2.1))) w1:=by
   obtain⟨dst,op,type,pos,after,guard⟩:=o;simp only at m1;subst m1;rfl
  rw[hex];show SInv P c sz l1 l2 fl m2 u _ Kf σ0 h0 n0 w0 ds _ (a1.put o.dst (a1.eval (.tmp p.2.1))) w1;rw[m4];have hV:av τ (u p) (a1.eval (.tmp p.2.1)):=st.tm p.2.1 (u p) f2;have E6:p.2.2<a1.tmps.size:=by rw[st.size];exact f3
  have facts:∀q∈fl,tm.get q.2.2=none∧tm.get q.2.1=some (u q)∧q.2.2<sz∧((l.setIfInBounds i true).getD q.1 false=true→av τ (u q) ((a1.put (some p.2.2) (a1.eval (.tmp p.2.1))).tmps.getD q.2.2 undef)):=by
   intro q hq;obtain⟨g1,g2,g3,g4⟩:=xZ q hq;refine⟨g1,g2,g3,fun hl=>?_⟩
   by_cases e:q.2.2=p.2.2
   ·have huq:u q=u p:=by
     have h1:=hu q hq;rw[e,hu p hp]at h1;exact(Option.some.inj h1).symm
    rw[huq,e];simpa[Act.put,Array.getD_eq_getD_getElem?,E6]using hV
   ·rw[C5 (fun e2=>e (Option.some.inj e2).symm)];refine g4 ?_;rw[bW]at hl
    by_cases e2:q.1=i
    ·exfalso;obtain⟨o',ux,wi⟩:=X.mov q hq;obtain⟨_,_,UR⟩:=PO wi;rw[e2,← sJ,o1]at ux;cases ux;rw[m4]at UR;exact e (Option.some.inj UR).symm
    ·rw[if_neg e2]at hl;exact hl
  refine⟨m,τ,tm,h,nx,ui,Iz,fun j h1 h2=>?_,fun j h1 h2=>?_,bw,⟨fun t' u' e=>?_,by simpa[Act.put]using st.size,st.defers⟩,?_⟩
  ·rw[bW,if_neg (by omega)];exact kL j h1 h2
  ·rw[bW]
   by_cases e:j=i
   ·rw[if_pos e]
   ·rw[if_neg e];exact fK j h1 h2
  ·have aQ:some p.2.2≠some t':=fun e2=>by rw[← Option.some.inj e2,f1]at e;cases e
   rw[C5 aQ];exact st.tm t' u' e
  ·rcases FB with⟨c1,c2⟩ |⟨c1,c2,c3⟩
   ·exact .inl ⟨c1,c2,facts⟩
   ·exact .inr (.inl ⟨c1,c2,c3,facts⟩)
 ·have him:i=m:=by
   have h1:¬i<m:=fun hh=>by rw[(kL i (by omega) hi).2 hh]at cI;cases cI
   rcases Nat.lt_or_ge m i with h2 |h2
   ·exfalso
    rcases X.bef i (by omega) hi m h2 with e |⟨e,_⟩
    ·have:=(kL m ui (by omega)).1 (bo m e);omega
    ·obtain⟨p,hp,yb⟩:=Hf e;obtain⟨o,o1,_⟩:=X.mov p hp;have:=(List.getElem?_eq_some_iff.1 o1).1;omega
   ·omega
  subst him;have jd:(l1++l2)[i]=l2[i-l1.length]'(by simp at hi;omega):=by
   rw[List.getElem_append_right (by omega)]
  have cg:i-l1.length<l2.length:=by simp at hi;omega
  have sC:∀j,l1.length≤j→j<(l1++l2).length→((l.setIfInBounds i true).getD j false=true↔j<i+1):=by
   intro j h1 h2;rw[bW]
   by_cases e:j=i
   ·rw[if_pos e];exact⟨fun _=>by omega,fun _=>rfl⟩
   ·rw[if_neg e,kL j h1 h2];omega
  have yc:∀j,j<l1.length→qt j fl=false→(l.setIfInBounds i true).getD j false=true:=by
   intro j h1 h2;rw[bW,if_neg (by omega)];exact fK j h1 h2
  have ou:(l1++l2)[i]?=some (l1++l2)[i]:=aa hi;have eF:∀q∈fl,(l1++l2)[i].dst≠some q.2.2∧(i<l1.length+m2→(l1++l2)[i].dst≠some q.2.1):=by
   intro q hq;obtain⟨o,o1,_⟩:=X.mov q hq;have:=(List.getElem?_eq_some_iff.1 o1).1;exact⟨X.dst q hq i _ ou (by omega),X.src q hq i _ ou (by omega)⟩
  have late:∀(wq:Tr AV),gw P c sz (l1++l2) Kf (l2.drop (i-l1.length)) (.mk wq h nx ds)→St τ wq a1 sz ds→l1.length+m2≤i→(∀j,j<l1.length→l.getD j false=true)→
    if Region.wanted (l1++l2)[i] (yielded (l1++l2).toArray a1.tmps)=true then (l1++l2)[i].wpIn (dD r) 0 P a1 w1 (SInv P c sz l1 l2 fl m2 u (fun s'=>gw P c sz (l1++l2) Kf (l2.drop m2) (ri fl dZ s')) Kf σ0 h0 n0 w0 ds (l.setIfInBounds i true)) QQ
    else (∀f,(l1++l2)[i].about P w1 a1.eval=some f→(dD r).fn f)∧SInv P c sz l1 l2 fl m2 u (fun s'=>gw P c sz (l1++l2) Kf (l2.drop m2) (ri fl dZ s')) Kf σ0 h0 n0 w0 ds (l.setIfInBounds i true) (a1.put (l1++l2)[i].dst undef) w1:=by
   intro wq hw uy lD aR;rw[aj cg,← jd]at hw;have Av:cz P c sz (l1++l2).toArray.toList (l1++l2)[i] (gw P c sz (l1++l2) Kf (l2.drop (i-l1.length+1))) (.mk wq h nx ds):=hw;refine Jh hc (ops:=(l1++l2).toArray) Av bw.ok uy QQ _ fun υ ba V w2 h2 qT k1 p1 s1=>?_;refine⟨i+1,υ,ba,h2,qT,by omega,by omega,sC,yc,bw.trans p1,s1,.inr (.inr ⟨by omega,fun j hj=>by rw[bW,if_neg (by omega)];exact aR j hj,?_⟩)⟩;rw[show i+1-l1.length=i-l1.length+1 by omega];exact k1
  rcases kJ with⟨c1,c2,c3⟩ |⟨c1,c2,c3,c4⟩ |⟨c1,c2,c3⟩
  ·have Im:(l2.take m2).drop (i-l1.length)=(l1++l2)[i]::(l2.take m2).drop (i-l1.length+1):=by
    rw[aj (by simp;omega)]
    congr 1
    rw[jd,List.getElem_take]
   rw[Im]at c2;have Av:cz P c sz (l1++l2).toArray.toList (l1++l2)[i] (gw P c sz (l1++l2) (fun s'=>gw P c sz (l1++l2) Kf (l2.drop m2) (ri fl dZ s')) ((l2.take m2).drop (i-l1.length+1))) (.mk tm h nx ds):=c2;refine Jh hc (ops:=(l1++l2).toArray) (Ww Av) bw.ok st QQ _ fun υ ba V w2 h2 qT k1 p1 s1=>?_;obtain⟨k1,k2⟩:=k1;have facts:∀q∈fl,ba.get q.2.2=none∧ba.get q.2.1=some (u q)∧q.2.2<sz∧((l.setIfInBounds i true).getD q.1 false=true→av υ (u q) ((a1.put (l1++l2)[i].dst V).tmps.getD q.2.2 undef)):=by
    intro q hq;obtain⟨g1,g2,g3,g4⟩:=c3 q hq;obtain⟨n1,n2⟩:=eF q hq;refine⟨by rw[← g1];exact k2 _ n1,by rw[← g2];exact k2 _ (n2 c1),g3,fun hl=>?_⟩;rw[C5 n1];refine(g4 ?_).mono p1.le;obtain⟨o,o1,_⟩:=X.mov q hq;have:=(List.getElem?_eq_some_iff.1 o1).1;rw[bW,if_neg (by omega)]at hl;exact hl
   refine⟨i+1,υ,ba,h2,qT,by omega,by omega,sC,yc,bw.trans p1,s1,?_⟩
   by_cases mI:i+1<l1.length+m2
   ·refine .inl ⟨mI,?_,facts⟩;rw[show i+1-l1.length=i-l1.length+1 by omega];exact k1
   ·refine .inr (.inl ⟨by omega,by omega,?_,facts⟩);have tq:(l2.take m2).drop (i-l1.length+1)=[]:=aq (by simp;omega);rw[tq]at k1;exact k1
  ·have aR:∀j,j<l1.length→l.getD j false=true:=by
    intro j hj
    rcases X.bef i (by omega) hi j (by omega) with e |⟨_,e⟩
    ·exact bo j e
    ·omega
   have uy:St τ (qZ fl dZ tm) a1 sz ds:=by
    refine⟨fun t u' e=>?_,st.size,st.defers⟩;rw[Q9]at e;split at e
    ·rename_i hm;obtain⟨q,q1,q2⟩:=List.mem_map.1 hm;subst q2;obtain⟨_,_,_,g4⟩:=c4 q q1;rw[hu q q1]at e;cases e;obtain⟨o,o1,_⟩:=X.mov q q1;exact g4 (aR _ (List.getElem?_eq_some_iff.1 o1).1)
    ·exact st.tm t u' e
   have HP:gw P c sz (l1++l2) Kf (l2.drop m2) (.mk (qZ fl dZ tm) h nx ds):=c3;exact late _ (by rw[show i-l1.length=m2 by omega];exact HP) uy c1 aR
  ·exact late _ c3 st (by omega) c2
theorem zMl (hm:P.follows .mixedOrders=true)(hc:CxOk P c)(hG:c.G.sym=true){inr:Bool}{id:Nat}{l1 l2:List Oper}(Wl Cl:List Nat)(U:List (Nat×Nat))(fl:List (Nat×Nat×Nat)) (m2:Nat)(cP:uT c l1 (bJ l1 []) Wl Cl U=true)(ox:Jo (bJ (l1++l2) []) l1 l2 Wl fl m2=true){Q:AX→AS→Prop}{s:AS}
  (hw:pK P c sz l1 Wl Cl U (JD P c sz l1 l2 fl m2 (Q .norm)) l1 0 (fun _=>.nil) s):AW P c inr sz (.region id (l1++l2).toArray true) Q s:=by
 intro r hi σ a w ok st;cases s with
 |mk tm h nx ds=>
 simp only[AS.tm,AS.h,AS.nx,AS.ds]at ok st ⊢;obtain⟨S,v,bef,kg,q3,R⟩:=zxq hc hG Wl Cl U cP hw r;have X:=zHr ox;have dJ:wQ (l1++l2).toArray (bJ (l1++l2) []):=DK (l1++l2) [] (fun j m hj=>by simp at hj) fun j=>by simp
 have fF:(bJ (l1++l2) []).length=(l1++l2).length:=by
  have key:∀(l:List Oper) (acc:List Nat),(bJ l acc).length=acc.length+l.length:=by
   intro l
   induction l with
   |nil=>intro acc;rfl
   |cons o l ih=>
    intro acc;show (bJ l (acc++[uw acc o.after.toList])).length=_;rw[ih];simp;omega
  simpa using key (l1++l2) []
 refine wpIn_region_any hm ?_;have EE:(S 0).2.1=h∧(S 0).2.2=nx:=by rw[kg];exact⟨rfl,rfl⟩
 have iQ:=Post.drawn ok (w.drawn+1);generalize hQ:AQ c.G σ h nx w sz Q=QQ;have sR:(l1++l2).toArray.size=(l1++l2).length:=by simp
 have lK:l1.toArray.size=l1.length:=by simp
 have bA:∀j,(l1++l2).toArray[j]?=(l1++l2)[j]?:=fun j=>List.getElem?_toArray;have dA:∀n i,(Array.replicate n false).getD i false=false:=by
  intro n i;simp only[Array.getD_eq_getD_getElem?,Array.getElem?_replicate];split <;> rfl
 have gE:∀p∈fl,(S l1.length).1.get p.2.2=some (sZ (S l1.length).1 p):=by
  intro p hp;obtain⟨u,e1,_,_⟩:=q3.1 p hp;unfold sZ;rw[e1];rfl
 have kH:∀i,i<(l1++l2).toArray.size→∀k,fS (l1++l2).toArray k i=true→k<i:=by
  intro i hi k hk;rw[sR]at hi
  by_cases qN:i<l1.length
  ·refine R.back i (by rw[lK];exact qN) k ?_;unfold fS at hk ⊢;rw[bA,List.getElem?_append_left qN]at hk;rw[List.getElem?_toArray];exact hk
  ·unfold fS at hk;rw[bA,aa hi]at hk;simp only[Option.map_some,Option.getD_some,Array.any_eq_true']at hk;obtain⟨e,he,hb⟩:=hk;rw[al]at hb;have x9:e.on=k:=by simpa using hb.2
   rw[← x9];exact X.back i _ (by omega) (aa hi) e (by simpa using he) hb.1
 let K1:AS→Prop:=fun s'=>gw P c sz (l1++l2) (Q .norm) (l2.drop m2) (ri fl (S l1.length).1 s')
 let I:Array Bool→Act→World→Prop:=fun l a' w'=>py (l1++l2).toArray l∧(((∀j,l1.length≤j→l.getD j false=false)∧DInv c sz l1.toArray S v (fun i=>bq i Wl) σ w a.defers (l.extract 0 l1.length) a' w')∨SInv P c sz l1 l2 fl m2 (sZ (S l1.length).1) K1 (Q .norm) σ (S 0).2.1 (S 0).2.2 w ds l a' w')
 have dU:∀(l:Array Bool) (i:Nat),i<l.size→py (l1++l2).toArray l→(∀k,fS (l1++l2).toArray k i=true→l.getD k false=true)→py (l1++l2).toArray (l.setIfInBounds i true):=by
  intro l i iD aX bd j hj k aU;rw[yH iD]at hj ⊢
  by_cases pZ:k=i
  ·rw[if_pos pZ]
  ·rw[if_neg pZ]
   by_cases eD:j=i
   ·subst eD;exact bd k aU
   ·rw[if_neg eD]at hj;exact aX j hj k aU
 refine KJ I ?step ?done (l1++l2).toArray.size _ a _ (by simp) ?count ?init
 case count=>simp
 case init=>
  refine⟨(fun j hj=>by rw[dA]at hj;cases hj),.inl ⟨fun j _=>dA _ j,?_⟩⟩;refine⟨(fun j hj=>by
   rcases Nat.lt_or_ge j l1.length with h1 |h1
   ·rw[yT h1,dA]at hj;cases hj
   ·rw[W9 h1]at hj;cases hj),(fun i hi=>by
   rcases Nat.lt_or_ge i l1.length with h1 |h1
   ·rw[lK];exact h1
   ·rw[W9 h1]at hi;cases hi),⟨0,σ,by omega,.inl rfl,(fun j hj hw=>⟨(fun e=>by rw[yT (by omega),dA]at e;cases e),(fun e=>by omega)⟩),?_,?_⟩,st.size,rfl⟩
  ·rw[kg];exact iQ
  ·intro t u e;have:(TL l1.toArray v (S 0).1 (lf ((Array.replicate (l1++l2).toArray.size false).extract 0 l1.length)) l1.toArray.size).get t=(S 0).1.get t:=by
    have:=yv (tm:=(S 0).1) (ops:=l1.toArray) (v:=v) (l:=lf ((Array.replicate (l1++l2).toArray.size false).extract 0 l1.length)) (t:=t) 0 l1.toArray.size fun j _ hj _=>by
     show ((Array.replicate (l1++l2).toArray.size false).extract 0 l1.length).getD j false=false;rw[yT (by omega),dA]
    rw[Nat.zero_add]at this;exact this
   rw[this,kg]at e;exact st.tm t u e
 case done=>
  intro l a1 w1 hs hI hr;have aR:=Lj kH hr hs;have hp:=X.pos;obtain⟨_,hI⟩:=hI
  rcases hI with⟨hA,_⟩ |hS
  ·have:=aR l1.length (by simp;omega);rw[hA l1.length (ae _)]at this;cases this
  ·obtain⟨m,τ,tm',h',ax,ui,Iz,kL,fK,bw,qw,kJ⟩:=hS;have qaj:m=(l1++l2).length:=by
    rcases Nat.lt_or_ge m (l1++l2).length with h1 |h1
    ·have:=(kL m ui h1).1 (aR m (by rw[sR];exact h1));omega
    ·omega
   have hle:=X.le;have hlen:(l1++l2).length=l1.length+l2.length:=by simp
   rw[← hQ];rw[EE.1,EE.2]at bw
   rcases kJ with⟨c1,_,_⟩ |⟨c1,c2,c3,c4⟩ |⟨c1,c2,c3⟩
   ·omega
   ·have hd:l2.drop m2=[]:=aq (by omega);have HP:gw P c sz (l1++l2) (Q .norm) (l2.drop m2) (.mk (qZ fl (S l1.length).1 tm') h' ax ds):=c3;rw[hd]at HP;refine⟨.norm,_,_,_,ds,τ,rfl,bw,⟨fun t u' e=>?_,qw.size,qw.defers⟩,HP⟩;rw[Q9]at e;split at e
    ·rename_i vN;obtain⟨q,q1,q2⟩:=List.mem_map.1 vN;subst q2;obtain⟨_,_,_,g4⟩:=c4 q q1;rw[gE q q1]at e;cases e;obtain⟨o,o1,_⟩:=X.mov q q1;exact g4 (aR _ (by rw[sR];have:=(List.getElem?_eq_some_iff.1 o1).1;omega))
    ·exact qw.tm t u' e
   ·have hd:l2.drop (m-l1.length)=[]:=aq (by omega);rw[hd]at c3;exact⟨.norm,_,_,_,ds,τ,rfl,bw,qw,c3⟩
 case step=>
  intro l a1 w1 i hs hI hi;obtain⟨cB,sG,bd⟩:=Bg.1 hi;have iD:i<l.size:=by omega
  have cI:l.getD i false=false:=by simpa[Array.getD,iD]using sG
  rw[sR]at cB;obtain⟨aX,hI⟩:=hI;have xx:SInv P c sz l1 l2 fl m2 (sZ (S l1.length).1) K1 (Q .norm) σ (S 0).2.1 (S 0).2.2 w ds l a1 w1→wpOpIn (dD r) 0 P (l1++l2).toArray QQ i (I (l.setIfInBounds i true)) a1 w1:=by
   intro hS;refine wpOpIn_mono (fun a' w' q=>⟨dU l i iD aX bd,.inr q⟩) (zN2 hc X dJ fF gE (by omega) aX cB cI bd hS)
  rcases hI with⟨hA,hD⟩ |hS
  ·by_cases qN:i<l1.length
   ·have zF:(l.extract 0 l1.length).size=l1.toArray.size:=by simp at hs ⊢;omega
    have aW:=R.stepI (QQ:=QQ) zF hD (i:=i) (by rw[lK];exact qN) (by rw[yT qN];exact cI) (fun k hk=>by
     have ei:fS (l1++l2).toArray k i=true:=by
      unfold fS at hk ⊢;rw[bA,List.getElem?_append_left qN];rw[List.getElem?_toArray]at hk;exact hk
     have az:=kH i (by rw[sR];exact cB) k ei;rw[yT (by omega)];exact bd k ei)
    refine zQ6 qN (fun j hj=>by rw[bA,List.getElem?_append_left hj,List.getElem?_toArray]) (fun o ho j b hg=>X.guard o (List.mem_of_getElem? (by rw[List.getElem?_toArray]at ho;exact ho)) j b hg) (wpOpIn_mono (fun a' w' q=>⟨dU l i iD aX bd,.inl ⟨fun j hj=>?_,by rw[zT2 qN];exact q⟩⟩) aW);rw[yH iD,if_neg (by omega)];exact hA j hj
   ·have bo:∀k,cU (bJ (l1++l2) []) k i=true→l.getD k false=true:=by
     intro k hb;unfold cU at hb;rw[CV]at hb;obtain⟨mm,kN⟩:∃mm,(bJ (l1++l2) [])[i]?=some mm:=⟨_,aa (by omega)⟩;have e:(bJ (l1++l2) []).getD i 0=mm:=by simp[List.getD,kN]
     rw[e]at hb;exact dJ i mm kN k hb l aX bd
    refine xx (toS X R (by omega) hD st.defers (fun j hj hf=>?_) hA q3)
    rcases X.bef i (by omega) cB j (by omega) with e |⟨e,_⟩
    ·exact bo j e
    ·rw[hf]at e;cases e
  ·exact xx hS
end
end
end Go.Ev
