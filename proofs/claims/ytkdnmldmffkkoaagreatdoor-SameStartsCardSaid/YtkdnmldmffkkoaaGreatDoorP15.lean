/- Texts FZ DP DQ. -/
import Derived.Test.YtkdnmldmffkkoaaGreatDoorP08
import Derived.Test.YtkdnmldmffkkoaaGreatDoorP10
set_option linter.unusedSimpArgs false
set_option linter.unusedVariables false
set_option maxRecDepth 100000
namespace Go.Ev
noncomputable section
variable {P : Program} {c : Cx} {σ τ υ : Sg} {h g f : Tr ABlk} {nx ny nz sz : Nat} {ds : List DE} {w x y : World} {tm : Tr AV} {a : Act} {G : Gl}
mutual
inductive Fy (g:Tr ABlk) (F:Nat→Prop):AV→AV→Prop
 |same (v:AV):Fy g F v v
 |agg (l m:List AV):FyL g F l m→Fy g F (.agg l) (.agg m)
 |tup (l m:List AV):FyL g F l m→Fy g F (.tup l) (.tup m)
 |iface (t:TypeId) (v u:AV):Fy g F v u→Fy g F (.iface t v) (.iface t u)
 |func (fn:FuncId) (l m l' m':List AV):FyL g F l m→FyL g F l' m'→Fy g F (.func fn l l') (.func fn m m')
 |pin (i o e n:Nat) (c:Tr AV) (opn:Bool) (esz:Nat) (cs ds:List AV):F i→g.get i=some (.cells e n c opn esz)→o+cs.length≤n→(∀j,j<cs.length→c.get (o+j)=cs[j]?)→FyL g F cs ds→Fy g F (.ptr i o) (.ip ds)
 |slz (i o len cp:Nat) (op:Bool) (e n:Nat) (c:Tr AV) (opn:Bool) (esz es:Nat) (cs ds xs:List AV):F i→g.get i=some (.cells e n c opn esz)→o+cs.length≤n→(∀j,j<cs.length→c.get (o+j)=cs[j]?)→FyL g F cs ds→zfr es xs ds→xs.length=len→Fy g F (.sl i o len cp op) (.fz es false xs)
inductive FyL (g:Tr ABlk) (F:Nat→Prop):List AV→List AV→Prop
 |nil:FyL g F [] []
 |cons (v u:AV) (l m:List AV):Fy g F v u→FyL g F l m→FyL g F (v::l) (u::m)
end
theorem FyL.same {F:Nat→Prop}:∀l:List AV,FyL g F l l
 |[]=>.nil
 |v::l=>.cons _ _ _ _ (.same v) (FyL.same l)
open Classical in
def Sg.fry (σ:Sg)(x:World)(g:Tr ABlk)(F:Nat→Prop):Sg where
 blk:=σ.blk
 cap:=σ.cap
 opq:=σ.opq
 imm:=fun b=>match σ.imm b with
  |some C=>some C
  |none=>if ∃i e n c opn esz,F i∧g.get i=some (.cells e n c opn esz)∧σ.blk i=some b then (match x.heap[b]? with |some (.cells C _ _)=>some C.toList |_=>none) else none
theorem Sg.fry_le (σ:Sg)(x:World)(g:Tr ABlk)(F:Nat→Prop):σ.Le (σ.fry x g F):=
 ⟨fun _ _ h=>⟨h,rfl⟩,rfl,fun b C h=>by simp only[Sg.fry];rw[h]⟩
theorem zwk (hk:Ok G σ h nx w){F:Nat→Prop}{i e n esz b:Nat}{c:Tr AV}{opn:Bool}(hn:F i)(hg:h.get i=some (.cells e n c opn esz))(hb:σ.blk i=some b):
  ∃C fr,w.heap[b]?=some (.cells C e fr)∧(σ.fry w h F).imm b=some C.toList∧∀k,k<n→∃v V,c.get k=some v∧C[k]?=some V∧Rel σ v V:=by
 obtain⟨b',C,fr,hb',hheap,hcell,_,_⟩:=hk.cells hg
 rw[hb]at hb'
 cases hb'
 refine⟨C,fr,hheap,?_,hcell⟩
 have hno:σ.imm b=none:=by
  cases hi:σ.imm b with
  |none=>rfl
  |some D=>exact absurd hb ((hk.imm b D hi).2 i _ hg)
 show (match σ.imm b with |some C=>some C |none=>_)=_
 rw[hno]
 simp only
 rw[if_pos ⟨i,e,n,c,opn,esz,hn,hg,hb⟩,hheap]
mutual
theorem Fy.rel (hk:Ok G σ h nx w){F:Nat→Prop}:∀{v u:AV},Fy h F v u→∀V,Rel σ v V→Rel (σ.fry w h F) u V
 |_,_,.same v,V,h=>h.mono (Sg.fry_le _ _ _ _)
 |_,_,.agg l m hl,V,h=>by
  simp only[Rel]at h ⊢
  obtain⟨L,e,h1⟩:=h
  exact⟨L,e,FyL.rel hk hl L h1⟩
 |_,_,.tup l m hl,V,h=>by
  simp only[Rel]at h ⊢
  obtain⟨L,e,h1⟩:=h
  exact⟨L,e,FyL.rel hk hl L h1⟩
 |_,_,.iface t v u hu,V,h=>by
  simp only[Rel]at h ⊢
  obtain⟨U,e,h1⟩:=h
  exact⟨U,e,Fy.rel hk hu U h1⟩
 |_,_,.func fn l m l' m' h1 h2,V,h=>by
  simp only[Rel]at h ⊢
  obtain⟨A,C,e,q1,q2⟩:=h
  exact⟨A,C,e,FyL.rel hk h1 A q1,FyL.rel hk h2 C q2⟩
 |_,_,.pin i o e n c opn esz cs ds hn hg hle hcs hl,V,h=>by
  simp only[Rel]at h ⊢
  obtain⟨b,hb,e1⟩:=h
  obtain⟨C,fr,hheap,himm,hcell⟩:=zwk hk hn hg hb
  obtain⟨L,r1,r2⟩:=zrb hcell hle hcs
  exact⟨b,o,C.toList,L,e1,himm,FyL.rel hk hl L r1,r2⟩
 |_,_,.slz i o len cp op e n c opn esz es cs ds xs hn hg hle hcs hl hch hlen,V,h=>by
  simp only[Rel]at h ⊢
  obtain⟨b,hb,e1,hlc⟩:=h
  obtain⟨C,fr,hheap,himm,hcell⟩:=zwk hk hn hg hb
  obtain⟨L,r1,r2⟩:=zrb hcell hle hcs
  obtain⟨XS,q1,q2⟩:=hch.rel (FyL.rel hk hl L r1)
  refine⟨_,_,by rw[hlen];exact e1,by rw[hlen];exact hlc,(fun hf=>by cases hf),(fun hf=>by cases hf),fun hx=>⟨b,o,C.toList,XS,rfl,himm,q1,?_⟩⟩
  rw[r2]at q2
  exact zau.of_take q2
theorem FyL.rel (hk:Ok G σ h nx w){F:Nat→Prop}:∀{l m:List AV},FyL h F l m→∀L,za1 σ l L→za1 (σ.fry w h F) m L
 |_,_,.nil,L,h=>by simpa only[za1]using h
 |_,_,.cons v u l m h1 h2,L,h=>by
  simp only[za1]at h ⊢
  obtain⟨V,L',e,q1,q2⟩:=h
  exact⟨V,L',e,Fy.rel hk h1 V q1,FyL.rel hk h2 L' q2⟩
end
inductive FyB (g:Tr ABlk) (F:Nat→Prop):ABlk→ABlk→Prop
 |same (B:ABlk):FyB g F B B
 |cells (e n:Nat) (c c':Tr AV) (opn:Bool) (esz:Nat):(∀k,k<n→∀v,c.get k=some v→∃u,c'.get k=some u∧Fy g F v u)→FyB g F (.cells e n c opn esz) (.cells e n c' opn esz)
def FyT (h:Tr ABlk)(F:Nat→Prop)(tm tm':Tr AV):Prop:=∀t u,tm'.get t=some u→∃v,tm.get t=some v∧Fy h F v u
theorem FyT.refl {F:Nat→Prop}:FyT h F tm tm:=fun _ u e=>⟨u,e,.same u⟩
theorem FyT.put {F:Nat→Prop}{tm':Tr AV}(ht:FyT h F tm tm'){k:Nat}{v u:AV}(hk:tm.get k=some v)(hu:Fy h F v u):FyT h F tm (tm'.put k (some u)):=by
 intro t z e
 rw[Tr.get_put]at e
 split at e
 ·rename_i e1
  cases e
  exact⟨v,by rw[e1];exact hk,hu⟩
 ·exact ht t z e
def FyH (h:Tr ABlk)(F:Nat→Prop)(h':Tr ABlk):Prop:=∀i B',h'.get i=some B'→¬F i∧∃B,h.get i=some B∧FyB h F B B'
def zdd (h:Tr ABlk):List Nat→Tr ABlk
 |[]=>h
 |i::l=>(zdd h l).put i none
theorem zjg (h:Tr ABlk) (k:Nat):∀l:List Nat,(zdd h l).get k=if k∈l then none else h.get k
 |[]=>by simp[zdd]
 |i::l=>by
  rw[zdd,Tr.get_put,zjg h k l]
  by_cases e:k=i
  ·simp[e]
  ·simp[e]
theorem FyH.kill (l:List Nat):FyH h (fun i=>i∈l) (zdd h l):=by
 intro i B e
 rw[zjg]at e
 split at e
 ·cases e
 ·rename_i hn
  exact⟨hn,B,e,.same B⟩
theorem FyH.put {F:Nat→Prop}{h':Tr ABlk}(hh:FyH h F h'){i:Nat}{B B':ABlk}(hF:¬F i)(hi:h.get i=some B)(hb:FyB h F B B'):FyH h F (h'.put i (some B')):=by
 intro k C e
 rw[Tr.get_put]at e
 split at e
 ·rename_i e1
  subst e1
  cases e
  exact⟨hF,B,hi,hb⟩
 ·exact hh k C e
theorem Post.fry (hk:Ok G σ h nx w){F:Nat→Prop}{h':Tr ABlk}(hh:FyH h F h'):Post G σ h nx w (σ.fry w h F) h' nx w:=by
 have hle:=σ.fry_le w h F
 refine⟨⟨hk.glob,hk.le,hk.fresh,fun i j b B B' h1 h2 h3 h4=>?_,fun i B h1=>?_,fun b C hb=>?_,fun i cs hi=>(hk.gl i cs hi).mono hle⟩,hle,⟨rfl,rfl,rfl,Nat.le_refl _,fun _ _ _=>rfl,fun i B b h1 h2=>?_,fun b C hb=>?_⟩,Nat.le_refl _⟩
 ·obtain⟨_,C,g1,_⟩:=hh i B h1
  obtain⟨_,C',g2,_⟩:=hh j B' h2
  exact hk.inj i j b C C' g1 g2 h3 h4
 ·obtain⟨_,C,g1,g2⟩:=hh i B h1
  obtain⟨b,o,q1,q2,q3⟩:=hk.blk i C g1
  refine⟨b,o,q1,q2,?_⟩
  cases g2 with
  |same=>exact q3.mono hle q1
  |cells e n c c' opn esz hc=>
   simp only[zao]at q3 ⊢
   obtain⟨D,fr,e1,h1,h2,h3⟩:=q3
   refine⟨D,fr,e1,fun k hk'=>?_,h2,h3⟩
   obtain⟨v,V,r1,r2,r3⟩:=h1 k hk'
   obtain⟨u,s1,s2⟩:=hc k hk' v r1
   exact⟨u,V,s1,r2,s2.rel hk V r3⟩
 ·have himm:(σ.imm b=some C)∨(σ.imm b=none∧∃i e n c opn esz,F i∧h.get i=some (.cells e n c opn esz)∧σ.blk i=some b):=by
   simp only[Sg.fry]at hb
   cases hi:σ.imm b with
   |some D=>rw[hi]at hb;exact .inl hb
   |none=>
    rw[hi]at hb
    simp only at hb
    split at hb
    ·exact .inr ⟨rfl,by assumption⟩
    ·cases hb
  rcases himm with hi |⟨_,i,e,n,c,opn,esz,h1,h2,h3⟩
  ·obtain⟨q1,q2⟩:=hk.imm b C hi
   refine⟨q1,fun j B hj e=>?_⟩
   obtain⟨_,B0,g1,_⟩:=hh j B hj
   exact q2 j B0 g1 e
  ·obtain⟨D,fr,r1,r2,_⟩:=zwk hk h1 h2 h3
   rw[hb]at r2
   cases r2
   refine⟨⟨e,fr,by simpa using r1⟩,fun j B hj e'=>?_⟩
   obtain⟨n1,B0,g1,_⟩:=hh j B hj
   have:=hk.inj j i b B0 _ g1 h2 e' h3
   subst this
   exact n1 h1
 ·obtain⟨_,C,g1,_⟩:=hh i B h1
  exact .inr ⟨i,C,g1,h2⟩
 ·simp only[Sg.fry]at hb
  cases hi:σ.imm b with
  |some D=>rw[hi]at hb;cases hb;exact .inl rfl
  |none=>
   rw[hi]at hb
   simp only at hb
   split at hb
   ·rename_i hex
    obtain⟨i,e,n,c,opn,esz,_,h2,h3⟩:=hex
    exact .inr (.inr ⟨i,_,h2,h3⟩)
   ·cases hb
theorem znf (F:Nat→Prop){inr:Bool}{code:Code}{Q:AX→AS→Prop}{tm':Tr AV}{h':Tr ABlk}(hh:FyH h F h')(ht:FyT h F tm tm')
  (hw:AW P c inr sz code Q (.mk tm' h' nx ds)):AW P c inr sz code Q (.mk tm h nx ds):=by
 intro r hi σ a w ok st
 simp only[AS.h,AS.nx,AS.tm,AS.ds]at ok st
 have p:=Post.fry ok hh
 have st':St (σ.fry w h F) tm' a sz ds:=by
  refine⟨fun t u e=>?_,st.size,st.defers.mono p.le⟩
  obtain⟨v,e1,e2⟩:=ht t u e
  exact e2.rel ok _ (st.tm t v e1)
 exact wpIn_mono (hw r hi _ a w p.ok st') fun e a' w' q=>AQ.trans p q
theorem zng (F:Nat→Prop){fid:FuncId}{args args':List AV}{R:AV→Tr ABlk→Nat→Prop}{h':Tr ABlk}(hh:FyH h F h')(ha:FyL h F args args')
  (hw:za7 P c fid args' h' nx R):za7 P c fid args h nx R:=by
 intro σ w A ok hA
 have p:=Post.fry ok hh
 refine(hw _ w A p.ok (ha.rel ok A hA)).mono fun V x ⟨τ,v,g,ny,h1,h2,h3⟩=>⟨τ,v,g,ny,h1,p.trans h2,h3⟩
end
end Go.Ev
namespace Go.Ev
noncomputable section
variable {P : Program} {c : Cx} {σ τ υ : Sg} {h h' g f : Tr ABlk} {nx nx' ny nz sz : Nat} {ds : List DE} {w x y : World} {tm tm' : Tr AV} {a : Act} {G : Gl} {r : Option Nat}
def zor (d:Option Tmp)(tm:Tr AV)(K:AS→Prop)(s:AS):Prop:=K s∧∀t,d≠some t→s.tm.get t=tm.get t
theorem zj6 {d:Option Tmp}{v:AV}{K:AS→Prop}(hp:zb0 sz d v (.mk tm h nx ds) K):zb0 sz d v (.mk tm h nx ds) (zor d tm K):=by
 cases d with
 |none=>exact⟨hp,fun t _=>rfl⟩
 |some d=>
  refine⟨hp.1,hp.2,fun t ht=>?_⟩
  show (tm.put d (some v)).get t=tm.get t
  rw[Tr.get_put,if_neg (fun e=>ht (by rw[e]))]
theorem zA3 {ops:List Oper}{o:Oper}{K:AS→Prop}(hs:awS P c sz ops o K (.mk tm h nx ds)):awS P c sz ops o (zor o.dst tm K) (.mk tm h nx ds):=by
 have plainR:∀r:R,zb7 sz o.dst tm ds K r→zb7 sz o.dst tm ds (zor o.dst tm K) r:=by
  intro r hq
  unfold zb7 at *
  cases r with
  |fail=>exact hq.elim
  |val v g ny=>exact zj6 hq
  |unit g ny=>exact zj6 hq
 have plain:=plainR (zcp c o.op tm h nx)
 have call:∀fv l,zgz P c sz o.dst tm h nx ds K fv l→zgz P c sz o.dst tm h nx ds (zor o.dst tm K) fv l:=by
  intro fv l hq
  unfold zgz at *
  cases fv with
  |none=>exact hq.elim
  |some fv=>
   cases fv <;> try exact hq.elim
   ·cases l with
    |none=>exact hq.elim
    |some l=>exact za7.mono hq fun v g ny q=>zj6 q
   ·cases l with
    |none=>exact hq.elim
    |some l=>exact zgp.mono hq fun v g ny q=>zj6 q
 unfold awS at *
 simp only at hs ⊢
 cases hw:zbz ops tm o with
 |none=>rw[hw]at hs;exact hs.elim
 |some b=>
  rw[hw]at hs
  cases b with
  |false=>exact zj6 hs
  |true=>
   simp only at hs ⊢
   obtain⟨dst,op,type,pos,after,guard⟩:=o
   cases op <;> try exact plain hs
   case lookup t x k ok=>exact plainR _ hs
   case mapUpdate t x k v=>exact plainR _ hs
   case range t x=>
    obtain⟨m,es,cl,k,e,q1,q2,q3,q4,e1,e2,e3,e4⟩:=hs
    exact⟨m,es,cl,k,e,q1,q2,q3,q4,e1,e2,e3,zj6 e4⟩
   case next x b=>
    cases b with
    |true=>exact hs.elim
    |false=>
     obtain⟨it,m,since,seen,st,es,cl,e1,e2,e3,e4,e5,e6,e7⟩:=hs
     exact⟨it,m,since,seen,st,es,cl,e1,e2,e3,e4,e5,fun q=>zj6 (e6 q),fun e he hn=>zj6 (e7 e he hn)⟩
   case entry x=>
    obtain⟨it,m,since,seen,es,cl,e,e1,e2,e3,e4,e5,e6⟩:=hs
    exact⟨it,m,since,seen,es,cl,e,e1,e2,e3,e4,e5,zj6 e6⟩
   case call cl=>
    obtain⟨callee,args,argTypes⟩:=cl
    cases callee <;> try exact plain hs
    exact call _ _ hs
def zg2:List (Nat×Nat×Nat)→Tr AV→Tr AV
 |[],tm=>tm
 |p::l,tm=>(zg2 l tm).put p.2.2 none
def zfy:List (Nat×Nat×Nat)→Tr AV→Tr AV→Tr AV
 |[],_,tm=>tm
 |p::l,tm0,tm=>(zfy l tm0 tm).put p.2.2 (tm0.get p.2.2)
theorem zrq (t:Nat):∀(l:List (Nat×Nat×Nat))(tm:Tr AV),(zg2 l tm).get t=if t∈l.map (fun p=>p.2.2) then none else tm.get t
 |[],tm=>by simp[zg2]
 |p::l,tm=>by
  rw[zg2,Tr.get_put,zrq t l tm]
  by_cases e:t=p.2.2
  ·simp[e]
  ·simp only[List.map_cons,List.mem_cons,e,false_or,if_false]
theorem zuz (t:Nat):∀(l:List (Nat×Nat×Nat))(tm0 tm:Tr AV),(zfy l tm0 tm).get t=if t∈l.map (fun p=>p.2.2) then tm0.get t else tm.get t
 |[],tm0,tm=>by simp[zfy]
 |p::l,tm0,tm=>by
  rw[zfy,Tr.get_put,zuz t l tm0 tm]
  by_cases e:t=p.2.2
  ·simp[e]
  ·simp only[List.map_cons,List.mem_cons,e,false_or,if_false]
def zg3 (fl:List (Nat×Nat×Nat))(tm0:Tr AV):AS→AS
 |.mk tm h nx ds=>.mk (zfy fl tm0 tm) h nx ds
def zod (o:Oper) (t d:Nat):Bool:=match o.op,o.guard,o.dst with
 |.move (.tmp t'),none,some d'=>Nat.beq t' t && Nat.beq d' d
 |_,_,_=>false
def zm2 (o:Oper) (t:Nat):Bool:=match o.dst with
 |none=>true
 |some d=>!(Nat.beq d t)
def inF (i:Nat):List (Nat×Nat×Nat)→Bool
 |[]=>false
 |p::l=>match Nat.beq i p.1 with
  |true=>true
  |false=>inF i l
def zov (ms:List Nat)(l1 l2:List Oper)(Wl:List Nat)(fl:List (Nat×Nat×Nat)) (m2:Nat):Bool:=
 zbi l1 (fun o=>match o.guard with |none=>true |some (j,_)=>Nat.ble (Nat.succ j) l1.length) &&
 zbi fl (fun p=>(match l1[p.1]? with |some o=>zod o p.2.1 p.2.2 |none=>false) && !(inL p.1 Wl) &&
  zbi (zcr (l1++l2).length) (fun j=>match (l1++l2)[j]? with
   |none=>true
   |some o=>(Nat.beq j p.1 || zm2 o p.2.2) && (Nat.ble j p.1 || (Nat.ble (Nat.add l1.length m2) j || zm2 o p.2.1))) && zbi fl (fun q=>!(Nat.beq q.2.2 p.2.1))) &&
 zbi (zcr (l1++l2).length) (fun j=>match Nat.ble l1.length j with
  |false=>true
  |true=>(match (l1++l2)[j]? with
    |none=>true
    |some o=>zbi o.after.toList (fun e=>match Region.binds .any e with |true=>Nat.ble (Nat.succ e.on) j |false=>true)) &&
   zbi (zcr j) (fun i=>zb1 ms i j || (inF i fl && Nat.ble (Nat.succ j) (Nat.add l1.length m2)))) && Nat.ble 1 l2.length && Nat.ble m2 l2.length
structure SplitOk (ms:List Nat)(l1 l2:List Oper)(Wl:List Nat)(fl:List (Nat×Nat×Nat)) (m2:Nat):Prop where
 guard:∀o∈l1,∀j b,o.guard=some (j,b)→j<l1.length
 mov:∀p∈fl,∃o,l1[p.1]?=some o∧zod o p.2.1 p.2.2=true
 nw:∀p∈fl,inL p.1 Wl=false
 dst:∀p∈fl,∀j o,(l1++l2)[j]?=some o→j≠p.1→o.dst≠some p.2.2
 src:∀p∈fl,∀j o,(l1++l2)[j]?=some o→p.1<j→j<l1.length+m2→o.dst≠some p.2.1
 src2:∀p∈fl,∀q∈fl,q.2.2≠p.2.1
 back:∀j o,l1.length≤j→(l1++l2)[j]?=some o→∀e∈o.after.toList,Region.binds .any e=true→e.on<j
 bef:∀j,l1.length≤j→j<(l1++l2).length→∀i,i<j→zb1 ms i j=true∨(inF i fl=true∧j<l1.length+m2)
 pos:1≤l2.length
 le:m2≤l2.length
theorem zRx {a b:Nat}(h:Nat.beq a b=false):a≠b:=fun e=>by subst e;simp at h
theorem zr5 {o:Oper}{t:Nat}(h:zm2 o t=true):o.dst≠some t:=by
 intro e
 unfold zm2 at h
 rw[e]at h
 simp at h
theorem zHr {ms:List Nat}{l1 l2:List Oper}{Wl:List Nat}{fl:List (Nat×Nat×Nat)}{m2:Nat}(h:zov ms l1 l2 Wl fl m2=true):SplitOk ms l1 l2 Wl fl m2:=by
 unfold zov at h
 simp only[Bool.and_eq_true]at h
 obtain⟨⟨⟨⟨h1,h2⟩,h3⟩,h4⟩,h5⟩:=h
 have hf:∀p∈fl,(∃o,l1[p.1]?=some o∧zod o p.2.1 p.2.2=true)∧inL p.1 Wl=false∧(∀j o,(l1++l2)[j]?=some o→(j≠p.1→o.dst≠some p.2.2)∧(p.1<j→j<l1.length+m2→o.dst≠some p.2.1))∧∀q∈fl,q.2.2≠p.2.1:=by
  intro p hp
  have:=zbf h2 p hp
  simp only[Bool.and_eq_true]at this
  obtain⟨⟨⟨q1,q2⟩,q3⟩,q4⟩:=this
  refine⟨?_,by simpa using q2,fun j o ho=>?_,fun q hq=>?_⟩
  ·cases ho:l1[p.1]? with
   |none=>rw[ho]at q1;cases q1
   |some o=>rw[ho]at q1;exact⟨o,rfl,q1⟩
  ·have hlt:j<(l1++l2).length:=(List.getElem?_eq_some_iff.1 ho).1
   have:=zbf q3 j (List.mem_range.2 hlt)
   rw[ho]at this
   simp only[Bool.and_eq_true,Bool.or_eq_true]at this
   refine⟨fun hne=>?_,fun hlt hlt2=>?_⟩
   ·rcases this.1 with e |e
    ·exact absurd (Nat.eq_of_beq_eq_true e) hne
    ·exact zr5 e
   ·rcases this.2 with e |e |e
    ·have:=Nat.le_of_ble_eq_true e;omega
    ·have:l1.length+m2≤j:=Nat.le_of_ble_eq_true e
     omega
    ·exact zr5 e
  ·have:=zbf q4 q hq
   exact zRx (by simpa using this)
 refine⟨fun o ho j b hg=>?_,fun p hp=>(hf p hp).1,fun p hp=>(hf p hp).2.1,fun p hp j o ho=>((hf p hp).2.2.1 j o ho).1,fun p hp j o ho=>((hf p hp).2.2.1 j o ho).2,fun p hp=>(hf p hp).2.2.2,fun j o hj ho e he hb=>?_,fun j hj hlt i hi=>?_,Nat.le_of_ble_eq_true h4,Nat.le_of_ble_eq_true h5⟩
 ·have:=zbf h1 o ho
  rw[hg]at this
  exact Nat.le_of_ble_eq_true this
 ·have hlt:j<(l1++l2).length:=(List.getElem?_eq_some_iff.1 ho).1
  have:=zbf h3 j (List.mem_range.2 hlt)
  rw[Nat.ble_eq_true_of_le hj]at this
  simp only[Bool.and_eq_true]at this
  have h6:=this.1
  rw[ho]at h6
  have:=zbf h6 e he
  rw[hb]at this
  exact Nat.le_of_ble_eq_true this
 ·have:=zbf h3 j (List.mem_range.2 hlt)
  rw[Nat.ble_eq_true_of_le hj]at this
  simp only[Bool.and_eq_true]at this
  have h6:=zbf this.2 i (List.mem_range.2 hi)
  simp only[Bool.or_eq_true,Bool.and_eq_true]at h6
  rcases h6 with e |⟨e1,e2⟩
  ·exact .inl e
  ·exact .inr ⟨e1,Nat.le_of_ble_eq_true e2⟩
theorem zo7 {i:Nat}:∀{l:List (Nat×Nat×Nat)},inF i l=true→∃p∈l,p.1=i
 |[],h=>by cases h
 |p::l,h=>by
  simp only[inF]at h
  split at h
  ·rename_i e
   exact⟨p,List.mem_cons_self,(Nat.eq_of_beq_eq_true e).symm⟩
  ·obtain⟨q,h1,h2⟩:=zo7 h
   exact⟨q,List.mem_cons_of_mem _ h1,h2⟩
structure SInv (P:Program)(c:Cx) (sz:Nat)(l1 l2:List Oper)(fl:List (Nat×Nat×Nat)) (m2:Nat)(u:Nat×Nat×Nat→AV)(K1:AS→Prop)(Kf:AS→Prop)(σ0:Sg)(h0:Tr ABlk) (n0:Nat)(w0:World)(ds:List DE)(l:Array Bool)(a:Act)(w:World):Prop where
 ex:∃m τ tm h nx,l1.length≤m∧m≤(l1++l2).length∧(∀j,l1.length≤j→j<(l1++l2).length→(l.getD j false=true↔j<m))∧
  (∀i,i<l1.length→inF i fl=false→l.getD i false=true)∧Post c.G σ0 h0 n0 w0 τ h nx w∧St τ tm a sz ds∧
  ((m<l1.length+m2∧awO P c sz (l1++l2) K1 ((l2.take m2).drop (m-l1.length)) (.mk tm h nx ds)∧(∀p∈fl,tm.get p.2.2=none∧tm.get p.2.1=some (u p)∧p.2.2<sz∧(l.getD p.1 false=true→Rel τ (u p) (a.tmps.getD p.2.2 undef)))) ∨
   (l1.length+m2≤m∧m=l1.length+m2∧K1 (.mk tm h nx ds)∧(∀p∈fl,tm.get p.2.2=none∧tm.get p.2.1=some (u p)∧p.2.2<sz∧(l.getD p.1 false=true→Rel τ (u p) (a.tmps.getD p.2.2 undef)))) ∨
   (l1.length+m2<m∧(∀i,i<l1.length→l.getD i false=true)∧awO P c sz (l1++l2) Kf (l2.drop (m-l1.length)) (.mk tm h nx ds)))
theorem zQ6 {ops ops2:Array Oper}{Q:Exit→Act→World→Prop}{K:Act→World→Prop}{i k:Nat}(hi:i<k)(hpre:∀j,j<k→ops2[j]?=ops[j]?)(hg:∀o,ops[i]?=some o→∀j b,o.guard=some (j,b)→j<k)
  (h:wpOpIn (zbb r) 0 P ops Q i K a w):wpOpIn (zbb r) 0 P ops2 Q i K a w:=by
 unfold wpOpIn at *
 rw[hpre i hi]
 cases ho:ops[i]? with
 |none=>rw[ho]at h;exact h
 |some o=>
  rw[ho]at h
  simp only at h ⊢
  have hw:Region.wanted o (yielded ops2 a.tmps)=Region.wanted o (yielded ops a.tmps):=by
   unfold Region.wanted
   cases hgd:o.guard with
   |none=>rfl
   |some p=>
    obtain⟨j,b⟩:=p
    have:yielded ops2 a.tmps j=yielded ops a.tmps j:=by
     unfold yielded
     rw[hpre j (hg o ho j b hgd)]
    simp only[this]
  rw[hw]
  exact h
def zpa (P:Program)(c:Cx) (sz:Nat)(l1 l2:List Oper)(fl:List (Nat×Nat×Nat)) (m2:Nat)(Kf:AS→Prop)(s:AS):Prop:=match s with
 |.mk tm0 h nx ds=>(∀p∈fl,∃u,tm0.get p.2.2=some u∧tm0.get p.2.1=some u∧p.2.2<sz)∧awO P c sz (l1++l2) (fun s'=>awO P c sz (l1++l2) Kf (l2.drop m2) (zg3 fl tm0 s')) (l2.take m2) (.mk (zg2 fl tm0) h nx ds)
theorem zsl {o:Oper}{t d:Nat}(h:zod o t d=true):o.op=.move (.tmp t)∧o.guard=none∧o.dst=some d:=by
 unfold zod at h
 split at h
 ·rename_i t' d' e1 e2 e3
  rw[Bool.and_eq_true]at h
  rw[e1,e2,e3,Nat.eq_of_beq_eq_true h.1,Nat.eq_of_beq_eq_true h.2]
  exact⟨rfl,rfl,rfl⟩
 ·cases h
theorem zk4 {l:Array Bool}{k i:Nat}(hi:i<k):(l.extract 0 k).getD i false=l.getD i false:=by
 simp only[Array.getD_eq_getD_getElem?,Array.getElem?_extract]
 by_cases h1:i<l.size
 ·have h2:i<min k l.size:=by omega
  simp[h1,h2]
 ·have h2:¬i<min k l.size:=by omega
  simp[h1,h2]
theorem zB0 {l:Array Bool}{k i:Nat}(hi:k≤i):(l.extract 0 k).getD i false=false:=by
 simp only[Array.getD_eq_getD_getElem?]
 rw[Array.getElem?_eq_none (by simp;omega)]
 rfl
theorem zT2 {l:Array Bool}{k i:Nat}(hi:i<k):(l.setIfInBounds i true).extract 0 k=(l.extract 0 k).setIfInBounds i true:=by
 apply Array.ext_getElem?
 intro j
 simp only[Array.getElem?_extract,Array.getElem?_setIfInBounds,Array.size_extract,Array.size_setIfInBounds,Nat.zero_add,Nat.sub_zero]
 by_cases h1:j<min k l.size
 ·by_cases h2:i=j
  ·subst h2;simp[h1];omega
  ·simp[h1,h2]
 ·by_cases h2:i=j
  ·subst h2;simp[h1]
  ·simp[h1,h2]
theorem zls {a:Act}{d:Option Tmp}{V:Value}{t:Nat}(h:d≠some t):(a.put d V).tmps.getD t undef=a.tmps.getD t undef:=by
 cases d with
 |none=>rfl
 |some d=>
  have:¬d=t:=fun e=>h (by rw[e])
  simp[Act.put,Array.getD_eq_getD_getElem?,Array.getElem?_setIfInBounds,this]
section
variable {l1 l2 : List Oper} {Wl : List Nat} {fl : List (Nat × Nat × Nat)} {m2 : Nat} {S : Nat → Tr AV × Tr ABlk × Nat} {v : Nat → AV} {bef : Nat → Nat → Bool} {Kf : AS → Prop}
def uOf (tm0:Tr AV)(p:Nat×Nat×Nat):AV:=(tm0.get p.2.2).getD .nilFunc
theorem toS {ms:List Nat}(X:SplitOk ms l1 l2 Wl fl m2)(R:Dr P c r sz l1.toArray S v (fun i=>inL i Wl) bef){D0:List Deferred}{l:Array Bool}{a1:Act}{w1:World}(hsz:l.size=(l1++l2).length)(I:DInv c sz l1.toArray S v (fun i=>inL i Wl) σ w D0 (l.extract 0 l1.length) a1 w1)
  (hD:zk2 σ ds D0) (hnf:∀i,i<l1.length→inF i fl=false→l.getD i false=true) (hj:∀j,l1.length≤j→l.getD j false=false)
  (hq:zpa P c sz l1 l2 fl m2 Kf (.mk (S l1.length).1 (S l1.length).2.1 (S l1.length).2.2 ds)):
  SInv P c sz l1 l2 fl m2 (uOf (S l1.length).1) (fun s'=>awO P c sz (l1++l2) Kf (l2.drop m2) (zg3 fl (S l1.length).1 s')) Kf σ (S 0).2.1 (S 0).2.2 w ds l a1 w1:=by
 obtain⟨p,τ,hp,hp0,hpos,hpost,htm⟩:=I.pos
 have hsz1:l1.toArray.size=l1.length:=by simp
 rw[hsz1]at hp hpos htm
 have hnoW:∀j,p≤j→j<p+(l1.length-p)→inL j Wl=false:=by
  intro j h1 h2
  cases hw:inL j Wl with
  |false=>rfl
  |true=>
   have hnf':inF j fl=false:=by
    cases hf:inF j fl with
    |false=>rfl
    |true=>
     obtain⟨q,q1,q2⟩:=zo7 hf
     have:=X.nw q q1
     rw[q2,hw]at this
     cases this
   have:=(hpos j (by omega) hw).1 (by rw[zk4 (by omega)];exact hnf j (by omega) hnf')
   omega
 have hsame:=R.same p (l1.length-p) (by rw[hsz1];omega) hnoW
 rw[Nat.add_sub_cancel' hp]at hsame
 rw[hsame]at hpost
 have htxt:=R.text l1.length (by rw[hsz1];exact Nat.le_refl _)
 have hget:∀j,l1.toArray[j]?=l1[j]?:=fun j=>List.getElem?_toArray
 have hmv:∀p∈fl,∃o,l1[p.1]?=some o∧o.op=.move (.tmp p.2.1)∧o.guard=none∧o.dst=some p.2.2:=by
  intro p hp
  obtain⟨o,h1,h2⟩:=X.mov p hp
  exact⟨o,h1,zsl h2⟩
 have htm2:∀t u,¬t∈fl.map (fun p=>p.2.2)→(S l1.length).1.get t=some u→Rel τ u (a1.tmps.getD t undef):=by
  intro t u hnt e
  refine htm t u ?_
  rw[← e,htxt t]
  refine(zk6 l1.length fun j hj hd=>?_)
  show (l.extract 0 l1.length).getD j false=true
  rw[zk4 hj]
  refine hnf j hj ?_
  cases hf:inF j fl with
  |false=>rfl
  |true=>
   obtain⟨q,q1,q2⟩:=zo7 hf
   obtain⟨o,o1,_,_,o2⟩:=hmv q q1
   rw[hget,← q2,o1]at hd
   simp only[Option.bind_some,o2]at hd
   cases hd
   exact absurd (List.mem_map.2 ⟨q,q1,rfl⟩) hnt
 have hfl:∀p∈fl,(S l1.length).1.get p.2.2=some (uOf (S l1.length).1 p)∧(S l1.length).1.get p.2.1=some (uOf (S l1.length).1 p)∧p.2.2<sz:=by
  intro p hp
  obtain⟨u,e1,e2,e3⟩:=hq.1 p hp
  have:uOf (S l1.length).1 p=u:=by unfold uOf;rw[e1];rfl
  rw[this]
  exact⟨e1,e2,e3⟩
 have facts:∀p∈fl,(zg2 fl (S l1.length).1).get p.2.2=none∧(zg2 fl (S l1.length).1).get p.2.1=some (uOf (S l1.length).1 p)∧p.2.2<sz∧(l.getD p.1 false=true→Rel τ (uOf (S l1.length).1 p) (a1.tmps.getD p.2.2 undef)):=by
  intro p hp
  obtain⟨e1,e2,e3⟩:=hfl p hp
  refine⟨?_,?_,e3,fun hl=>?_⟩
  ·rw[zrq,if_pos (List.mem_map.2 ⟨p,hp,rfl⟩)]
  ·rw[zrq,if_neg]
   ·exact e2
   ·intro hm
    obtain⟨q,q1,q2⟩:=List.mem_map.1 hm
    exact X.src2 p hp q q1 q2
  ·refine htm p.2.2 _ ?_
   rw[← e1,htxt p.2.2]
   refine(zk6 l1.length fun j hj hd=>?_)
   show (l.extract 0 l1.length).getD j false=true
   rw[zk4 hj]
   by_cases e:j=p.1
   ·rw[e];exact hl
   ·exfalso
    have hoj:(l1++l2)[j]?=l1[j]?:=List.getElem?_append_left hj
    rw[hget,List.getElem?_eq_getElem hj]at hd
    exact X.dst p hp j l1[j] (by rw[hoj,List.getElem?_eq_getElem hj]) e hd
 refine⟨l1.length,τ,zg2 fl (S l1.length).1,(S l1.length).2.1,(S l1.length).2.2,Nat.le_refl _,by simp,fun j h1 h2=>?_,hnf,hpost,⟨fun t u e=>?_,I.size,by rw[I.defers];exact hD.mono hpost.le⟩,?_⟩
 ·rw[hj j h1]
  constructor
  ·intro e;cases e
  ·intro e;omega
 ·rw[zrq]at e
  split at e
  ·cases e
  ·rename_i hn
   exact htm2 t u hn e
 ·by_cases hm:m2=0
  ·subst hm
   refine .inr (.inl ⟨by omega,by omega,?_,facts⟩)
   exact hq.2
  ·exact .inl ⟨by omega,by simpa using hq.2,facts⟩
theorem zN2 (hc:CxOk P c){ms:List Nat}(X:SplitOk ms l1 l2 Wl fl m2)(hmask:zil (l1++l2).toArray ms)(hml:ms.length=(l1++l2).length){u:Nat×Nat×Nat→AV}{tm0:Tr AV}(hu:∀p∈fl,tm0.get p.2.2=some (u p)){σ0:Sg}{h0:Tr ABlk}{n0:Nat}{w0:World}{l:Array Bool}{a1:Act}{w1:World}{QQ:Exit→Act→World→Prop}{i:Nat}
  (hsz:l.size=(l1++l2).length) (hcl:zf6 (l1++l2).toArray l) (hi:i<(l1++l2).length) (hnl:l.getD i false=false) (hdeps:∀k,dir (l1++l2).toArray k i=true→l.getD k false=true)
  (I:SInv P c sz l1 l2 fl m2 u (fun s'=>awO P c sz (l1++l2) Kf (l2.drop m2) (zg3 fl tm0 s')) Kf σ0 h0 n0 w0 ds l a1 w1):
  wpOpIn (zbb r) 0 P (l1++l2).toArray QQ i (SInv P c sz l1 l2 fl m2 u (fun s'=>awO P c sz (l1++l2) Kf (l2.drop m2) (zg3 fl tm0 s')) Kf σ0 h0 n0 w0 ds (l.setIfInBounds i true)) a1 w1:=by
 obtain⟨m,τ,tm,h,nx,hkm,hmn,hlist,hpre,hpost,st,hcase⟩:=I
 have hiL:i<l.size:=by omega
 have hset:∀j,(l.setIfInBounds i true).getD j false=if j=i then true else l.getD j false:=fun j=>zjs hiL
 have hget:∀j,(l1++l2).toArray[j]?=(l1++l2)[j]?:=fun j=>List.getElem?_toArray
 have hbefore:∀k,zb1 ms k i=true→l.getD k false=true:=by
  intro k hb
  unfold zb1 at hb
  rw[zln]at hb
  obtain⟨mm,hmm⟩:∃mm,ms[i]?=some mm:=⟨_,List.getElem?_eq_getElem (by omega)⟩
  have e:ms.getD i 0=mm:=by simp[List.getD,hmm]
  rw[e]at hb
  exact hmask i mm hmm k hb l hcl hdeps
 unfold wpOpIn
 rw[hget,List.getElem?_eq_getElem hi]
 simp only
 by_cases hik:i<l1.length
 ·
  have hf:inF i fl=true:=by
   cases hf:inF i fl with
   |true=>rfl
   |false=>rw[hpre i hik hf]at hnl;cases hnl
  obtain⟨p,hp,hpi⟩:=zo7 hf
  obtain⟨o,o1,o2⟩:=X.mov p hp
  obtain⟨m1,m3,m4⟩:=zsl o2
  have ho:(l1++l2)[i]=o:=by
   have h1:(l1++l2)[i]?=some o:=by rw[List.getElem?_append_left hik,← hpi];exact o1
   rw[List.getElem?_eq_getElem hi]at h1
   exact Option.some.inj h1
  rw[ho]
  have hmid:(m<l1.length+m2∧awO P c sz (l1++l2) (fun s'=>awO P c sz (l1++l2) Kf (l2.drop m2) (zg3 fl tm0 s')) ((l2.take m2).drop (m-l1.length)) (.mk tm h nx ds)∨(l1.length+m2≤m∧m=l1.length+m2∧awO P c sz (l1++l2) Kf (l2.drop m2) (zg3 fl tm0 (.mk tm h nx ds))))∧(∀p∈fl,tm.get p.2.2=none∧tm.get p.2.1=some (u p)∧p.2.2<sz∧(l.getD p.1 false=true→Rel τ (u p) (a1.tmps.getD p.2.2 undef))):=by
   rcases hcase with⟨c1,c2,c3⟩ |⟨c1,c2,c3,c4⟩ |⟨c1,c2,c3⟩
   ·exact⟨.inl ⟨c1,c2⟩,c3⟩
   ·exact⟨.inr ⟨c1,c2,c3⟩,c4⟩
   ·rw[c2 i hik]at hnl;cases hnl
  obtain⟨hmid1,hmid2⟩:=hmid
  obtain⟨f1,f2,f3,_⟩:=hmid2 p hp
  have hwant:Region.wanted o (yielded (l1++l2).toArray a1.tmps)=true:=by unfold Region.wanted;rw[m3]
  rw[hwant]
  simp only[if_true]
  refine zdc (fun cl e=>by rw[m1]at e;cases e) ?_
  have hex:(execOp a1.eval o).run P w1=.ok (.value (a1.eval (.tmp p.2.1))) w1:=by
   obtain⟨dst,op,type,pos,after,guard⟩:=o
   simp only at m1
   subst m1
   rfl
  rw[hex]
  show SInv P c sz l1 l2 fl m2 u _ Kf σ0 h0 n0 w0 ds _ (a1.put o.dst (a1.eval (.tmp p.2.1))) w1
  rw[m4]
  have hV:Rel τ (u p) (a1.eval (.tmp p.2.1)):=st.tm p.2.1 (u p) f2
  have hds:p.2.2<a1.tmps.size:=by rw[st.size];exact f3
  have facts:∀q∈fl,tm.get q.2.2=none∧tm.get q.2.1=some (u q)∧q.2.2<sz∧((l.setIfInBounds i true).getD q.1 false=true→Rel τ (u q) ((a1.put (some p.2.2) (a1.eval (.tmp p.2.1))).tmps.getD q.2.2 undef)):=by
   intro q hq
   obtain⟨g1,g2,g3,g4⟩:=hmid2 q hq
   refine⟨g1,g2,g3,fun hl=>?_⟩
   by_cases e:q.2.2=p.2.2
   ·have huq:u q=u p:=by
     have h1:=hu q hq
     rw[e,hu p hp]at h1
     exact(Option.some.inj h1).symm
    rw[huq,e]
    simpa[Act.put,Array.getD_eq_getD_getElem?,hds]using hV
   ·rw[zls (fun e2=>e (Option.some.inj e2).symm)]
    refine g4 ?_
    rw[hset]at hl
    by_cases e2:q.1=i
    ·exfalso
     obtain⟨o',o1',o2'⟩:=X.mov q hq
     obtain⟨_,_,m4'⟩:=zsl o2'
     rw[e2,← hpi,o1]at o1'
     cases o1'
     rw[m4]at m4'
     exact e (Option.some.inj m4').symm
    ·rw[if_neg e2]at hl;exact hl
  refine⟨m,τ,tm,h,nx,hkm,hmn,fun j h1 h2=>?_,fun j h1 h2=>?_,hpost,⟨fun t' u' e=>?_,by simpa[Act.put]using st.size,st.defers⟩,?_⟩
  ·rw[hset,if_neg (by omega)]
   exact hlist j h1 h2
  ·rw[hset]
   by_cases e:j=i
   ·rw[if_pos e]
   ·rw[if_neg e];exact hpre j h1 h2
  ·have hne:some p.2.2≠some t':=fun e2=>by rw[← Option.some.inj e2,f1]at e;cases e
   rw[zls hne]
   exact st.tm t' u' e
  ·rcases hmid1 with⟨c1,c2⟩ |⟨c1,c2,c3⟩
   ·exact .inl ⟨c1,c2,facts⟩
   ·exact .inr (.inl ⟨c1,c2,c3,facts⟩)
 ·have him:i=m:=by
   have h1:¬i<m:=fun hh=>by rw[(hlist i (by omega) hi).2 hh]at hnl;cases hnl
   rcases Nat.lt_or_ge m i with h2 |h2
   ·exfalso
    rcases X.bef i (by omega) hi m h2 with e |⟨e,_⟩
    ·have:=(hlist m hkm (by omega)).1 (hbefore m e)
     omega
    ·obtain⟨p,hp,hpm⟩:=zo7 e
     obtain⟨o,o1,_⟩:=X.mov p hp
     have:=(List.getElem?_eq_some_iff.1 o1).1
     omega
   ·omega
  subst him
  have hl2:(l1++l2)[i]=l2[i-l1.length]'(by simp at hi;omega):=by
   rw[List.getElem_append_right (by omega)]
  have hlt2:i-l1.length<l2.length:=by simp at hi;omega
  have hlist':∀j,l1.length≤j→j<(l1++l2).length→((l.setIfInBounds i true).getD j false=true↔j<i+1):=by
   intro j h1 h2
   rw[hset]
   by_cases e:j=i
   ·rw[if_pos e];exact⟨fun _=>by omega,fun _=>rfl⟩
   ·rw[if_neg e,hlist j h1 h2];omega
  have hpre':∀j,j<l1.length→inF j fl=false→(l.setIfInBounds i true).getD j false=true:=by
   intro j h1 h2
   rw[hset,if_neg (by omega)]
   exact hpre j h1 h2
  have hoi:(l1++l2)[i]?=some (l1++l2)[i]:=List.getElem?_eq_getElem hi
  have hop:∀q∈fl,(l1++l2)[i].dst≠some q.2.2∧(i<l1.length+m2→(l1++l2)[i].dst≠some q.2.1):=by
   intro q hq
   obtain⟨o,o1,_⟩:=X.mov q hq
   have:=(List.getElem?_eq_some_iff.1 o1).1
   exact⟨X.dst q hq i _ hoi (by omega),X.src q hq i _ hoi (by omega)⟩
  have late:∀(tm2:Tr AV),awO P c sz (l1++l2) Kf (l2.drop (i-l1.length)) (.mk tm2 h nx ds)→St τ tm2 a1 sz ds→l1.length+m2≤i→(∀j,j<l1.length→l.getD j false=true)→
    if Region.wanted (l1++l2)[i] (yielded (l1++l2).toArray a1.tmps)=true then (l1++l2)[i].wpIn (zbb r) 0 P a1 w1 (SInv P c sz l1 l2 fl m2 u (fun s'=>awO P c sz (l1++l2) Kf (l2.drop m2) (zg3 fl tm0 s')) Kf σ0 h0 n0 w0 ds (l.setIfInBounds i true)) QQ
    else (∀f,(l1++l2)[i].about P w1 a1.eval=some f→(zbb r).fn f)∧SInv P c sz l1 l2 fl m2 u (fun s'=>awO P c sz (l1++l2) Kf (l2.drop m2) (zg3 fl tm0 s')) Kf σ0 h0 n0 w0 ds (l.setIfInBounds i true) (a1.put (l1++l2)[i].dst undef) w1:=by
   intro tm2 hw st2 hge hall
   rw[List.drop_eq_getElem_cons hlt2,← hl2]at hw
   have hw2:awS P c sz (l1++l2).toArray.toList (l1++l2)[i] (awO P c sz (l1++l2) Kf (l2.drop (i-l1.length+1))) (.mk tm2 h nx ds):=hw
   refine zoo hc (ops:=(l1++l2).toArray) hw2 hpost.ok st2 QQ _ fun υ tm1 V w2 h2 nx2 k1 p1 s1=>?_
   refine⟨i+1,υ,tm1,h2,nx2,by omega,by omega,hlist',hpre',hpost.trans p1,s1,.inr (.inr ⟨by omega,fun j hj=>by rw[hset,if_neg (by omega)];exact hall j hj,?_⟩)⟩
   rw[show i+1-l1.length=i-l1.length+1 by omega]
   exact k1
  rcases hcase with⟨c1,c2,c3⟩ |⟨c1,c2,c3,c4⟩ |⟨c1,c2,c3⟩
  ·have hdr:(l2.take m2).drop (i-l1.length)=(l1++l2)[i]::(l2.take m2).drop (i-l1.length+1):=by
    rw[List.drop_eq_getElem_cons (by simp;omega)]
    congr 1
    rw[hl2,List.getElem_take]
   rw[hdr]at c2
   have hw2:awS P c sz (l1++l2).toArray.toList (l1++l2)[i] (awO P c sz (l1++l2) (fun s'=>awO P c sz (l1++l2) Kf (l2.drop m2) (zg3 fl tm0 s')) ((l2.take m2).drop (i-l1.length+1))) (.mk tm h nx ds):=c2
   refine zoo hc (ops:=(l1++l2).toArray) (zA3 hw2) hpost.ok st QQ _ fun υ tm1 V w2 h2 nx2 k1 p1 s1=>?_
   obtain⟨k1,k2⟩:=k1
   have facts:∀q∈fl,tm1.get q.2.2=none∧tm1.get q.2.1=some (u q)∧q.2.2<sz∧((l.setIfInBounds i true).getD q.1 false=true→Rel υ (u q) ((a1.put (l1++l2)[i].dst V).tmps.getD q.2.2 undef)):=by
    intro q hq
    obtain⟨g1,g2,g3,g4⟩:=c3 q hq
    obtain⟨n1,n2⟩:=hop q hq
    refine⟨by rw[← g1];exact k2 _ n1,by rw[← g2];exact k2 _ (n2 c1),g3,fun hl=>?_⟩
    rw[zls n1]
    refine(g4 ?_).mono p1.le
    obtain⟨o,o1,_⟩:=X.mov q hq
    have:=(List.getElem?_eq_some_iff.1 o1).1
    rw[hset,if_neg (by omega)]at hl
    exact hl
   refine⟨i+1,υ,tm1,h2,nx2,by omega,by omega,hlist',hpre',hpost.trans p1,s1,?_⟩
   by_cases hlast:i+1<l1.length+m2
   ·refine .inl ⟨hlast,?_,facts⟩
    rw[show i+1-l1.length=i-l1.length+1 by omega]
    exact k1
   ·refine .inr (.inl ⟨by omega,by omega,?_,facts⟩)
    have zgs:(l2.take m2).drop (i-l1.length+1)=[]:=List.drop_of_length_le (by simp;omega)
    rw[zgs]at k1
    exact k1
  ·have hall:∀j,j<l1.length→l.getD j false=true:=by
    intro j hj
    rcases X.bef i (by omega) hi j (by omega) with e |⟨_,e⟩
    ·exact hbefore j e
    ·omega
   have st2:St τ (zfy fl tm0 tm) a1 sz ds:=by
    refine⟨fun t u' e=>?_,st.size,st.defers⟩
    rw[zuz]at e
    split at e
    ·rename_i hm
     obtain⟨q,q1,q2⟩:=List.mem_map.1 hm
     subst q2
     obtain⟨_,_,_,g4⟩:=c4 q q1
     rw[hu q q1]at e
     cases e
     obtain⟨o,o1,_⟩:=X.mov q q1
     exact g4 (hall _ (List.getElem?_eq_some_iff.1 o1).1)
    ·exact st.tm t u' e
   have c3':awO P c sz (l1++l2) Kf (l2.drop m2) (.mk (zfy fl tm0 tm) h nx ds):=c3
   exact late _ (by rw[show i-l1.length=m2 by omega];exact c3') st2 c1 hall
  ·exact late _ c3 st (by omega) c2
theorem zMl (hm:P.follows .mixedOrders=true)(hc:CxOk P c)(hG:c.G.sym=true){inr:Bool}{id:Nat}{l1 l2:List Oper}(Wl Cl:List Nat)(U:List (Nat×Nat))(fl:List (Nat×Nat×Nat)) (m2:Nat)(hstat:zhs c l1 (zak l1 []) Wl Cl U=true)(hsp:zov (zak (l1++l2) []) l1 l2 Wl fl m2=true){Q:AX→AS→Prop}{s:AS}
  (hw:awD P c sz l1 Wl Cl U (zpa P c sz l1 l2 fl m2 (Q .norm)) l1 0 (fun _=>.nil) s):AW P c inr sz (.region id (l1++l2).toArray true) Q s:=by
 intro r hi σ a w ok st
 cases s with
 |mk tm h nx ds=>
 simp only[AS.tm,AS.h,AS.nx,AS.ds]at ok st ⊢
 obtain⟨S,v,bef,hS0,q3,R⟩:=zxq hc hG Wl Cl U hstat hw r
 have X:=zHr hsp
 have hmask:zil (l1++l2).toArray (zak (l1++l2) []):=zn0 (l1++l2) [] (fun j m hj=>by simp at hj) fun j=>by simp
 have hml:(zak (l1++l2) []).length=(l1++l2).length:=by
  have key:∀(l:List Oper) (acc:List Nat),(zak l acc).length=acc.length+l.length:=by
   intro l
   induction l with
   |nil=>intro acc;rfl
   |cons o l ih=>
    intro acc
    show (zak l (acc++[moL acc o.after.toList])).length=_
    rw[ih]
    simp
    omega
  simpa using key (l1++l2) []
 refine wpIn_region_any hm ?_
 have hS0':(S 0).2.1=h∧(S 0).2.2=nx:=by rw[hS0];exact⟨rfl,rfl⟩
 have hd0:=Post.drawn ok (w.drawn+1)
 generalize hQ:AQ c.G σ h nx w sz Q=QQ
 have hsz2:(l1++l2).toArray.size=(l1++l2).length:=by simp
 have hsz1:l1.toArray.size=l1.length:=by simp
 have hget:∀j,(l1++l2).toArray[j]?=(l1++l2)[j]?:=fun j=>List.getElem?_toArray
 have hrep:∀n i,(Array.replicate n false).getD i false=false:=by
  intro n i
  simp only[Array.getD_eq_getD_getElem?,Array.getElem?_replicate]
  split <;> rfl
 have hfl:∀p∈fl,(S l1.length).1.get p.2.2=some (uOf (S l1.length).1 p):=by
  intro p hp
  obtain⟨u,e1,_,_⟩:=q3.1 p hp
  unfold uOf
  rw[e1]
  rfl
 have hback:∀i,i<(l1++l2).toArray.size→∀k,dir (l1++l2).toArray k i=true→k<i:=by
  intro i hi k hk
  rw[hsz2]at hi
  by_cases hik:i<l1.length
  ·refine R.back i (by rw[hsz1];exact hik) k ?_
   unfold dir at hk ⊢
   rw[hget,List.getElem?_append_left hik]at hk
   rw[List.getElem?_toArray]
   exact hk
  ·unfold dir at hk
   rw[hget,List.getElem?_eq_getElem hi]at hk
   simp only[Option.map_some,Option.getD_some,Array.any_eq_true']at hk
   obtain⟨e,he,hb⟩:=hk
   rw[Bool.and_eq_true]at hb
   have hon:e.on=k:=by simpa using hb.2
   rw[← hon]
   exact X.back i _ (by omega) (List.getElem?_eq_getElem hi) e (by simpa using he) hb.1
 let K1:AS→Prop:=fun s'=>awO P c sz (l1++l2) (Q .norm) (l2.drop m2) (zg3 fl (S l1.length).1 s')
 let I:Array Bool→Act→World→Prop:=fun l a' w'=>zf6 (l1++l2).toArray l∧(((∀j,l1.length≤j→l.getD j false=false)∧DInv c sz l1.toArray S v (fun i=>inL i Wl) σ w a.defers (l.extract 0 l1.length) a' w')∨SInv P c sz l1 l2 fl m2 (uOf (S l1.length).1) K1 (Q .norm) σ (S 0).2.1 (S 0).2.2 w ds l a' w')
 have hclosed:∀(l:Array Bool) (i:Nat),i<l.size→zf6 (l1++l2).toArray l→(∀k,dir (l1++l2).toArray k i=true→l.getD k false=true)→zf6 (l1++l2).toArray (l.setIfInBounds i true):=by
  intro l i hiL hcl hdeps j hj k hk'
  rw[zjs hiL]at hj ⊢
  by_cases hki:k=i
  ·rw[if_pos hki]
  ·rw[if_neg hki]
   by_cases hji:j=i
   ·subst hji;exact hdeps k hk'
   ·rw[if_neg hji]at hj
    exact hcl j hj k hk'
 refine zr2 I ?step ?done (l1++l2).toArray.size _ a _ (by simp) ?count ?init
 case count=>simp
 case init=>
  refine⟨(fun j hj=>by rw[hrep]at hj;cases hj),.inl ⟨fun j _=>hrep _ j,?_⟩⟩
  refine⟨(fun j hj=>by
   rcases Nat.lt_or_ge j l1.length with h1 |h1
   ·rw[zk4 h1,hrep]at hj;cases hj
   ·rw[zB0 h1]at hj;cases hj),(fun i hi=>by
   rcases Nat.lt_or_ge i l1.length with h1 |h1
   ·rw[hsz1];exact h1
   ·rw[zB0 h1]at hi;cases hi),⟨0,σ,by omega,.inl rfl,(fun j hj hw=>⟨(fun e=>by rw[zk4 (by omega),hrep]at e;cases e),(fun e=>by omega)⟩),?_,?_⟩,st.size,rfl⟩
  ·rw[hS0];exact hd0
  ·intro t u e
   have:(TL l1.toArray v (S 0).1 (lf ((Array.replicate (l1++l2).toArray.size false).extract 0 l1.length)) l1.toArray.size).get t=(S 0).1.get t:=by
    have:=zje (tm:=(S 0).1) (ops:=l1.toArray) (v:=v) (l:=lf ((Array.replicate (l1++l2).toArray.size false).extract 0 l1.length)) (t:=t) 0 l1.toArray.size fun j _ hj _=>by
     show ((Array.replicate (l1++l2).toArray.size false).extract 0 l1.length).getD j false=false
     rw[zk4 (by omega),hrep]
    rw[Nat.zero_add]at this
    exact this
   rw[this,hS0]at e
   exact st.tm t u e
 case done=>
  intro l a1 w1 hs hI hr
  have hall:=zs1 hback hr hs
  have hp:=X.pos
  obtain⟨_,hI⟩:=hI
  rcases hI with⟨hA,_⟩ |hS
  ·have:=hall l1.length (by simp;omega)
   rw[hA l1.length (Nat.le_refl _)]at this
   cases this
  ·obtain⟨m,τ,tm',h',nx',hkm,hmn,hlist,hpre,hpost,st',hcase⟩:=hS
   have hmn':m=(l1++l2).length:=by
    rcases Nat.lt_or_ge m (l1++l2).length with h1 |h1
    ·have:=(hlist m hkm h1).1 (hall m (by rw[hsz2];exact h1))
     omega
    ·omega
   have hle:=X.le
   have hlen:(l1++l2).length=l1.length+l2.length:=by simp
   rw[← hQ]
   rw[hS0'.1,hS0'.2]at hpost
   rcases hcase with⟨c1,_,_⟩ |⟨c1,c2,c3,c4⟩ |⟨c1,c2,c3⟩
   ·omega
   ·have hd:l2.drop m2=[]:=List.drop_of_length_le (by omega)
    have c3':awO P c sz (l1++l2) (Q .norm) (l2.drop m2) (.mk (zfy fl (S l1.length).1 tm') h' nx' ds):=c3
    rw[hd]at c3'
    refine⟨.norm,_,_,_,ds,τ,rfl,hpost,⟨fun t u' e=>?_,st'.size,st'.defers⟩,c3'⟩
    rw[zuz]at e
    split at e
    ·rename_i hm'
     obtain⟨q,q1,q2⟩:=List.mem_map.1 hm'
     subst q2
     obtain⟨_,_,_,g4⟩:=c4 q q1
     rw[hfl q q1]at e
     cases e
     obtain⟨o,o1,_⟩:=X.mov q q1
     exact g4 (hall _ (by rw[hsz2];have:=(List.getElem?_eq_some_iff.1 o1).1;omega))
    ·exact st'.tm t u' e
   ·have hd:l2.drop (m-l1.length)=[]:=List.drop_of_length_le (by omega)
    rw[hd]at c3
    exact⟨.norm,_,_,_,ds,τ,rfl,hpost,st',c3⟩
 case step=>
  intro l a1 w1 i hs hI hi
  obtain⟨hin,hnl0,hdeps⟩:=zkq.1 hi
  have hiL:i<l.size:=by omega
  have hnl:l.getD i false=false:=by simpa[Array.getD,hiL]using hnl0
  rw[hsz2]at hin
  obtain⟨hcl,hI⟩:=hI
  have fromS:SInv P c sz l1 l2 fl m2 (uOf (S l1.length).1) K1 (Q .norm) σ (S 0).2.1 (S 0).2.2 w ds l a1 w1→wpOpIn (zbb r) 0 P (l1++l2).toArray QQ i (I (l.setIfInBounds i true)) a1 w1:=by
   intro hS
   refine wpOpIn_mono (fun a' w' q=>⟨hclosed l i hiL hcl hdeps,.inr q⟩) (zN2 hc X hmask hml hfl (by omega) hcl hin hnl hdeps hS)
  rcases hI with⟨hA,hD⟩ |hS
  ·by_cases hik:i<l1.length
   ·have hext:(l.extract 0 l1.length).size=l1.toArray.size:=by simp at hs ⊢;omega
    have hst:=R.stepI (QQ:=QQ) hext hD (i:=i) (by rw[hsz1];exact hik) (by rw[zk4 hik];exact hnl) (fun k hk=>by
     have hk2:dir (l1++l2).toArray k i=true:=by
      unfold dir at hk ⊢
      rw[hget,List.getElem?_append_left hik]
      rw[List.getElem?_toArray]at hk
      exact hk
     have hlt:=hback i (by rw[hsz2];exact hin) k hk2
     rw[zk4 (by omega)]
     exact hdeps k hk2)
    refine zQ6 hik (fun j hj=>by rw[hget,List.getElem?_append_left hj,List.getElem?_toArray]) (fun o ho j b hg=>X.guard o (List.mem_of_getElem? (by rw[List.getElem?_toArray]at ho;exact ho)) j b hg) (wpOpIn_mono (fun a' w' q=>⟨hclosed l i hiL hcl hdeps,.inl ⟨fun j hj=>?_,by rw[zT2 hik];exact q⟩⟩) hst)
    rw[zjs hiL,if_neg (by omega)]
    exact hA j hj
   ·have hbefore:∀k,zb1 (zak (l1++l2) []) k i=true→l.getD k false=true:=by
     intro k hb
     unfold zb1 at hb
     rw[zln]at hb
     obtain⟨mm,hmm⟩:∃mm,(zak (l1++l2) [])[i]?=some mm:=⟨_,List.getElem?_eq_getElem (by omega)⟩
     have e:(zak (l1++l2) []).getD i 0=mm:=by simp[List.getD,hmm]
     rw[e]at hb
     exact hmask i mm hmm k hb l hcl hdeps
    refine fromS (toS X R (by omega) hD st.defers (fun j hj hf=>?_) hA q3)
    rcases X.bef i (by omega) hin j (by omega) with e |⟨e,_⟩
    ·exact hbefore j e
    ·rw[hf]at e;cases e
  ·exact fromS hS
end
end
end Go.Ev
