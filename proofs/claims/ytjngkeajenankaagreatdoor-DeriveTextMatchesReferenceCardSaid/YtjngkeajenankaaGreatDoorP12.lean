/- Texts FZ MM Sim6 BR LB B0 N1 T34. -/
import Derived.Sort.Grow
import Derived.Lib.Hide
import Derived.Test.YtjngkeajenankaaGreatDoorP11
set_option linter.unusedSimpArgs false
set_option linter.unusedVariables false
set_option maxRecDepth 100000
namespace Go.Ev
noncomputable section
variable {P : Program} {c : Cx} {σ τ υ : Sg} {h g f : Tr ABlk} {nx ny nz sz : Nat} {ds : List DE} {w x y : World} {tm : Tr AV} {a : Act} {G : Gl}
mutual
inductive Fy (g:Tr ABlk) (F:Nat→Prop):AV→AV→Prop
 |same (v:AV):Fy g F v v
 |agg (l m:List AV):FyL g F l m→Fy g F (.agg l) (.agg m)
 |tup (l m:List AV):FyL g F l m→Fy g F (.tup l) (.tup m)
 |iface (t:TypeId) (v u:AV):Fy g F v u→Fy g F (.iface t v) (.iface t u)
 |func (fn:FuncId) (l m l' m':List AV):FyL g F l m→FyL g F l' m'→Fy g F (.func fn l l') (.func fn m m')
 |pin (i o e n:Nat) (c:Tr AV) (opn:Bool) (esz:Nat) (cs ds:List AV):F i→g.get i=some (.cells e n c opn esz)→o+cs.length≤n→(∀j,j<cs.length→c.get (o+j)=cs[j]?)→FyL g F cs ds→Fy g F (.ptr i o) (.ip ds)
 |slz (i o len cp:Nat) (op:Bool) (e n:Nat) (c:Tr AV) (opn:Bool) (esz es:Nat) (cs ds xs:List AV):F i→g.get i=some (.cells e n c opn esz)→o+cs.length≤n→(∀j,j<cs.length→c.get (o+j)=cs[j]?)→FyL g F cs ds→Chunk es xs ds→xs.length=len→Fy g F (.sl i o len cp op) (.fz es false xs)
inductive FyL (g:Tr ABlk) (F:Nat→Prop):List AV→List AV→Prop
 |nil:FyL g F [] []
 |cons (v u:AV) (l m:List AV):Fy g F v u→FyL g F l m→FyL g F (v::l) (u::m)
end
theorem FyL.same {F:Nat→Prop}:∀l:List AV,FyL g F l l
 |[]=>.nil
 |v::l=>.cons _ _ _ _ (.same v) (FyL.same l)
open Classical in
def Sg.fry (σ:Sg)(x:World)(g:Tr ABlk)(F:Nat→Prop):Sg where
 blk:=σ.blk
 cap:=σ.cap
 opq:=σ.opq
 imm:=fun b=>match σ.imm b with
  |some C=>some C
  |none=>if ∃i e n c opn esz,F i∧g.get i=some (.cells e n c opn esz)∧σ.blk i=some b then (match x.heap[b]? with |some (.cells C _ _)=>some C.toList |_=>none) else none
theorem Sg.fry_le (σ:Sg)(x:World)(g:Tr ABlk)(F:Nat→Prop):σ.Le (σ.fry x g F):=
 ⟨fun _ _ h=>⟨h,rfl⟩,rfl,fun b C h=>by simp only[Sg.fry];rw[h]⟩
theorem fry_cells (hk:Ok G σ h nx w){F:Nat→Prop}{i e n esz b:Nat}{c:Tr AV}{opn:Bool}(hn:F i)(hg:h.get i=some (.cells e n c opn esz))(hb:σ.blk i=some b):
  ∃C fr,w.heap[b]?=some (.cells C e fr)∧(σ.fry w h F).imm b=some C.toList∧∀k,k<n→∃v V,c.get k=some v∧C[k]?=some V∧Rel σ v V:=by
 obtain⟨b',C,fr,hb',hheap,hcell,_,_⟩:=hk.cells hg
 rw[hb]at hb'
 cases hb'
 refine⟨C,fr,hheap,?_,hcell⟩
 have hno:σ.imm b=none:=by
  cases hi:σ.imm b with
  |none=>rfl
  |some D=>exact absurd hb ((hk.imm b D hi).2 i _ hg)
 show (match σ.imm b with |some C=>some C |none=>_)=_
 rw[hno]
 simp only
 rw[if_pos ⟨i,e,n,c,opn,esz,hn,hg,hb⟩,hheap]
mutual
theorem Fy.rel (hk:Ok G σ h nx w){F:Nat→Prop}:∀{v u:AV},Fy h F v u→∀V,Rel σ v V→Rel (σ.fry w h F) u V
 |_,_,.same v,V,h=>h.mono (Sg.fry_le _ _ _ _)
 |_,_,.agg l m hl,V,h=>by
  simp only[Rel]at h ⊢
  obtain⟨L,e,h1⟩:=h
  exact⟨L,e,FyL.rel hk hl L h1⟩
 |_,_,.tup l m hl,V,h=>by
  simp only[Rel]at h ⊢
  obtain⟨L,e,h1⟩:=h
  exact⟨L,e,FyL.rel hk hl L h1⟩
 |_,_,.iface t v u hu,V,h=>by
  simp only[Rel]at h ⊢
  obtain⟨U,e,h1⟩:=h
  exact⟨U,e,Fy.rel hk hu U h1⟩
 |_,_,.func fn l m l' m' h1 h2,V,h=>by
  simp only[Rel]at h ⊢
  obtain⟨A,C,e,q1,q2⟩:=h
  exact⟨A,C,e,FyL.rel hk h1 A q1,FyL.rel hk h2 C q2⟩
 |_,_,.pin i o e n c opn esz cs ds hn hg hle hcs hl,V,h=>by
  simp only[Rel]at h ⊢
  obtain⟨b,hb,e1⟩:=h
  obtain⟨C,fr,hheap,himm,hcell⟩:=fry_cells hk hn hg hb
  obtain⟨L,r1,r2⟩:=cells_list hcell hle hcs
  exact⟨b,o,C.toList,L,e1,himm,FyL.rel hk hl L r1,r2⟩
 |_,_,.slz i o len cp op e n c opn esz es cs ds xs hn hg hle hcs hl hch hlen,V,h=>by
  simp only[Rel]at h ⊢
  obtain⟨b,hb,e1,hlc⟩:=h
  obtain⟨C,fr,hheap,himm,hcell⟩:=fry_cells hk hn hg hb
  obtain⟨L,r1,r2⟩:=cells_list hcell hle hcs
  obtain⟨XS,q1,q2⟩:=hch.rel (FyL.rel hk hl L r1)
  refine⟨_,_,by rw[hlen];exact e1,by rw[hlen];exact hlc,(fun hf=>by cases hf),(fun hf=>by cases hf),fun hx=>⟨b,o,C.toList,XS,rfl,himm,q1,?_⟩⟩
  rw[r2]at q2
  exact Rows.of_take q2
theorem FyL.rel (hk:Ok G σ h nx w){F:Nat→Prop}:∀{l m:List AV},FyL h F l m→∀L,RelL σ l L→RelL (σ.fry w h F) m L
 |_,_,.nil,L,h=>by simpa only[RelL]using h
 |_,_,.cons v u l m h1 h2,L,h=>by
  simp only[RelL]at h ⊢
  obtain⟨V,L',e,q1,q2⟩:=h
  exact⟨V,L',e,Fy.rel hk h1 V q1,FyL.rel hk h2 L' q2⟩
end
inductive FyB (g:Tr ABlk) (F:Nat→Prop):ABlk→ABlk→Prop
 |same (B:ABlk):FyB g F B B
 |cells (e n:Nat) (c c':Tr AV) (opn:Bool) (esz:Nat):(∀k,k<n→∀v,c.get k=some v→∃u,c'.get k=some u∧Fy g F v u)→FyB g F (.cells e n c opn esz) (.cells e n c' opn esz)
def FyT (h:Tr ABlk)(F:Nat→Prop)(tm tm':Tr AV):Prop:=∀t u,tm'.get t=some u→∃v,tm.get t=some v∧Fy h F v u
theorem FyT.refl {F:Nat→Prop}:FyT h F tm tm:=fun _ u e=>⟨u,e,.same u⟩
theorem FyT.put {F:Nat→Prop}{tm':Tr AV}(ht:FyT h F tm tm'){k:Nat}{v u:AV}(hk:tm.get k=some v)(hu:Fy h F v u):FyT h F tm (tm'.put k (some u)):=by
 intro t z e
 rw[Tr.get_put]at e
 split at e
 ·rename_i e1
  cases e
  exact⟨v,by rw[e1];exact hk,hu⟩
 ·exact ht t z e
def FyH (h:Tr ABlk)(F:Nat→Prop)(h':Tr ABlk):Prop:=∀i B',h'.get i=some B'→¬F i∧∃B,h.get i=some B∧FyB h F B B'
def killL (h:Tr ABlk):List Nat→Tr ABlk
 |[]=>h
 |i::l=>(killL h l).put i none
theorem get_killL (h:Tr ABlk) (k:Nat):∀l:List Nat,(killL h l).get k=if k∈l then none else h.get k
 |[]=>by simp[killL]
 |i::l=>by
  rw[killL,Tr.get_put,get_killL h k l]
  by_cases e:k=i
  ·simp[e]
  ·simp[e]
theorem FyH.kill (l:List Nat):FyH h (fun i=>i∈l) (killL h l):=by
 intro i B e
 rw[get_killL]at e
 split at e
 ·cases e
 ·rename_i hn
  exact⟨hn,B,e,.same B⟩
theorem FyH.put {F:Nat→Prop}{h':Tr ABlk}(hh:FyH h F h'){i:Nat}{B B':ABlk}(hF:¬F i)(hi:h.get i=some B)(hb:FyB h F B B'):FyH h F (h'.put i (some B')):=by
 intro k C e
 rw[Tr.get_put]at e
 split at e
 ·rename_i e1
  subst e1
  cases e
  exact⟨hF,B,hi,hb⟩
 ·exact hh k C e
theorem Post.fry (hk:Ok G σ h nx w){F:Nat→Prop}{h':Tr ABlk}(hh:FyH h F h'):Post G σ h nx w (σ.fry w h F) h' nx w:=by
 have hle:=σ.fry_le w h F
 refine⟨⟨hk.glob,hk.le,hk.fresh,fun i j b B B' h1 h2 h3 h4=>?_,fun i B h1=>?_,fun b C hb=>?_,fun i cs hi=>(hk.gl i cs hi).mono hle⟩,hle,⟨rfl,rfl,rfl,Nat.le_refl _,fun _ _ _=>rfl,fun i B b h1 h2=>?_,fun b C hb=>?_⟩,Nat.le_refl _⟩
 ·obtain⟨_,C,g1,_⟩:=hh i B h1
  obtain⟨_,C',g2,_⟩:=hh j B' h2
  exact hk.inj i j b C C' g1 g2 h3 h4
 ·obtain⟨_,C,g1,g2⟩:=hh i B h1
  obtain⟨b,o,q1,q2,q3⟩:=hk.blk i C g1
  refine⟨b,o,q1,q2,?_⟩
  cases g2 with
  |same=>exact q3.mono hle q1
  |cells e n c c' opn esz hc=>
   simp only[RelB]at q3 ⊢
   obtain⟨D,fr,e1,h1,h2,h3⟩:=q3
   refine⟨D,fr,e1,fun k hk'=>?_,h2,h3⟩
   obtain⟨v,V,r1,r2,r3⟩:=h1 k hk'
   obtain⟨u,s1,s2⟩:=hc k hk' v r1
   exact⟨u,V,s1,r2,s2.rel hk V r3⟩
 ·have himm:(σ.imm b=some C)∨(σ.imm b=none∧∃i e n c opn esz,F i∧h.get i=some (.cells e n c opn esz)∧σ.blk i=some b):=by
   simp only[Sg.fry]at hb
   cases hi:σ.imm b with
   |some D=>rw[hi]at hb;exact .inl hb
   |none=>
    rw[hi]at hb
    simp only at hb
    split at hb
    ·exact .inr ⟨rfl,by assumption⟩
    ·cases hb
  rcases himm with hi |⟨_,i,e,n,c,opn,esz,h1,h2,h3⟩
  ·obtain⟨q1,q2⟩:=hk.imm b C hi
   refine⟨q1,fun j B hj e=>?_⟩
   obtain⟨_,B0,g1,_⟩:=hh j B hj
   exact q2 j B0 g1 e
  ·obtain⟨D,fr,r1,r2,_⟩:=fry_cells hk h1 h2 h3
   rw[hb]at r2
   cases r2
   refine⟨⟨e,fr,by simpa using r1⟩,fun j B hj e'=>?_⟩
   obtain⟨n1,B0,g1,_⟩:=hh j B hj
   have:=hk.inj j i b B0 _ g1 h2 e' h3
   subst this
   exact n1 h1
 ·obtain⟨_,C,g1,_⟩:=hh i B h1
  exact .inr ⟨i,C,g1,h2⟩
 ·simp only[Sg.fry]at hb
  cases hi:σ.imm b with
  |some D=>rw[hi]at hb;cases hb;exact .inl rfl
  |none=>
   rw[hi]at hb
   simp only at hb
   split at hb
   ·rename_i hex
    obtain⟨i,e,n,c,opn,esz,_,h2,h3⟩:=hex
    exact .inr (.inr ⟨i,_,h2,h3⟩)
   ·cases hb
theorem ACall_fry (F:Nat→Prop){fid:FuncId}{args args':List AV}{R:AV→Tr ABlk→Nat→Prop}{h':Tr ABlk}(hh:FyH h F h')(ha:FyL h F args args')
  (hw:ACall P c fid args' h' nx R):ACall P c fid args h nx R:=by
 intro σ w A ok hA
 have p:=Post.fry ok hh
 refine(hw _ w A p.ok (ha.rel ok A hA)).mono fun V x ⟨τ,v,g,ny,h1,h2,h3⟩=>⟨τ,v,g,ny,h1,p.trans h2,h3⟩
end
end Go.Ev
namespace Go.Ev
noncomputable section
variable {P : Program} {c c' : Cx} {σ τ υ : Sg} {h g f : Tr ABlk} {nx ny nz sz : Nat} {ds : List DE} {w x y : World} {tm : Tr AV} {a : Act} {G : Gl}
mutual
def nfV:AV→Bool
 |.bool _=>true
 |.int _ _=>true
 |.str _ _=>true
 |.bs _=>true
 |.ptr0=>true
 |.sl0=>true
 |.map0=>true
 |.nilFunc=>true
 |.nilIface=>true
 |.agg l=>nfL l
 |.tup l=>nfL l
 |.iface _ v=>nfV v
 |.func _ l m=>match nfL l with
  |true=>nfL m
  |false=>false
 |.ip l=>nfL l
 |.fz _ _ l=>nfL l
 |.ptr _ _=>false
 |.sl _ _ _ _ _=>false
 |.map _=>false
 |.yld _=>false
 |.opq _=>false
def nfL:List AV→Bool
 |[]=>true
 |v::l=>match nfV v with
  |true=>nfL l
  |false=>false
end
theorem nfL_cons {v:AV}{l:List AV}(h:nfL (v::l)=true):nfV v=true∧nfL l=true:=by
 simp only[nfL]at h
 cases hv:nfV v with
 |true=>rw[hv]at h;exact⟨rfl,h⟩
 |false=>rw[hv]at h;cases h
mutual
theorem Rel.nf (hi:∀b C,σ.imm b=some C→τ.imm b=some C):∀(v:AV)(V:Value),nfV v=true→Rel σ v V→Rel τ v V
 |.bool b,V,_,h=>by simpa only[Rel]using h
 |.int k n,V,_,h=>by simpa only[Rel]using h
 |.str l n,V,_,h=>by simpa only[Rel]using h
 |.bs b,V,_,h=>by simpa only[Rel]using h
 |.ptr0,V,_,h=>by simpa only[Rel]using h
 |.sl0,V,_,h=>by simpa only[Rel]using h
 |.map0,V,_,h=>by simpa only[Rel]using h
 |.nilFunc,V,_,h=>by simpa only[Rel]using h
 |.nilIface,V,_,h=>by simpa only[Rel]using h
 |.ptr _ _,V,n,_=>by simp[nfV]at n
 |.sl _ _ _ _ _,V,n,_=>by simp[nfV]at n
 |.map _,V,n,_=>by simp[nfV]at n
 |.yld _,V,n,_=>by simp[nfV]at n
 |.opq _,V,n,_=>by simp[nfV]at n
 |.agg l,V,n,h=>by
  simp only[nfV]at n
  simp only[Rel]at h ⊢
  obtain⟨L,e,q⟩:=h
  exact⟨L,e,RelL.nf hi l L n q⟩
 |.tup l,V,n,h=>by
  simp only[nfV]at n
  simp only[Rel]at h ⊢
  obtain⟨L,e,q⟩:=h
  exact⟨L,e,RelL.nf hi l L n q⟩
 |.iface t v,V,n,h=>by
  simp only[nfV]at n
  simp only[Rel]at h ⊢
  obtain⟨U,e,q⟩:=h
  exact⟨U,e,Rel.nf hi v U n q⟩
 |.func fn l m,V,n,h=>by
  simp only[nfV]at n
  simp only[Rel]at h ⊢
  obtain⟨A,C,e,q1,q2⟩:=h
  cases hl:nfL l with
  |false=>rw[hl]at n;cases n
  |true=>
   rw[hl]at n
   exact⟨A,C,e,RelL.nf hi l A hl q1,RelL.nf hi m C n q2⟩
 |.ip l,V,n,h=>by
  simp only[nfV]at n
  simp only[Rel]at h ⊢
  obtain⟨b,o,C,L,e,h1,h2,h3⟩:=h
  exact⟨b,o,C,L,e,hi b C h1,RelL.nf hi l L n h2,h3⟩
 |.fz es full l,V,n,h=>by
  simp only[nfV]at n
  simp only[Rel]at h ⊢
  obtain⟨a,cap,e,g1,g2,g4,g3⟩:=h
  refine⟨a,cap,e,g1,g2,g4,fun hx=>?_⟩
  obtain⟨b,o,C,L,e1,h1,h2,h3⟩:=g3 hx
  exact⟨b,o,C,L,e1,hi b C h1,RelL.nf hi l L n h2,h3⟩
theorem RelL.nf (hi:∀b C,σ.imm b=some C→τ.imm b=some C):∀(l:List AV)(L:List Value),nfL l=true→RelL σ l L→RelL τ l L
 |[],L,_,h=>by simpa only[RelL]using h
 |v::l,L,n,h=>by
  obtain⟨n1,n2⟩:=nfL_cons n
  simp only[RelL]at h ⊢
  obtain⟨V,L',e,q1,q2⟩:=h
  exact⟨V,L',e,Rel.nf hi v V n1 q1,RelL.nf hi l L' n2 q2⟩
end
mutual
inductive Wk:AV→AV→Prop
 |same (v:AV):Wk v v
 |sl0 (es:Nat) (full:Bool):Wk .sl0 (.fz es full [])
 |full (es:Nat) (l m:List AV) (full:Bool):WkL l m→Wk (.fz es full l) (.fz es false m)
 |fz (es:Nat) (l m:List AV) (full:Bool):WkL l m→Wk (.fz es full l) (.fz es full m)
 |agg (l m:List AV):WkL l m→Wk (.agg l) (.agg m)
 |tup (l m:List AV):WkL l m→Wk (.tup l) (.tup m)
 |ip (l m:List AV):WkL l m→Wk (.ip l) (.ip m)
 |str (l n:Nat):Wk (.str l n) (.bs (strB l n))
inductive WkL:List AV→List AV→Prop
 |nil:WkL [] []
 |cons (v u:AV) (l m:List AV):Wk v u→WkL l m→WkL (v::l) (u::m)
end
theorem WkL.len:∀{l m:List AV},WkL l m→m.length=l.length
 |_,_,.nil=>rfl
 |_,_,.cons _ _ _ _ _ h=>by simp[h.len]
theorem WkL.refl:∀l:List AV,WkL l l
 |[]=>.nil
 |v::l=>.cons _ _ _ _ (.same v) (WkL.refl l)
mutual
theorem Wk.rel:∀{v u:AV},Wk v u→∀V,Rel σ v V→Rel σ u V
 |_,_,.same v,V,h=>h
 |_,_,.sl0 es full,V,h=>by
  simp only[Rel]at h ⊢
  exact⟨none,0,h,by simp,by simp,by simp,by simp⟩
 |_,_,.full es l m full hl,V,h=>by
  have e:=hl.len
  simp only[Rel]at h ⊢
  rw[e]
  obtain⟨a,cap,e,g1,g2,g4,g3⟩:=h
  refine⟨a,cap,e,g1,(fun e=>by cases e),g4,fun hx=>?_⟩
  obtain⟨b,o,C,L,e1,h1,h2,h3⟩:=g3 hx
  exact⟨b,o,C,L,e1,h1,WkL.rel hl L h2,h3⟩
 |_,_,.fz es l m full hl,V,h=>by
  have e:=hl.len
  simp only[Rel]at h ⊢
  rw[e]
  obtain⟨a,cap,e,g1,g2,g4,g3⟩:=h
  refine⟨a,cap,e,g1,g2,g4,fun hx=>?_⟩
  obtain⟨b,o,C,L,e1,h1,h2,h3⟩:=g3 hx
  exact⟨b,o,C,L,e1,h1,WkL.rel hl L h2,h3⟩
 |_,_,.agg l m hl,V,h=>by
  simp only[Rel]at h ⊢
  obtain⟨L,e,q⟩:=h
  exact⟨L,e,WkL.rel hl L q⟩
 |_,_,.tup l m hl,V,h=>by
  simp only[Rel]at h ⊢
  obtain⟨L,e,q⟩:=h
  exact⟨L,e,WkL.rel hl L q⟩
 |_,_,.ip l m hl,V,h=>by
  simp only[Rel]at h ⊢
  obtain⟨b,o,C,L,e,h1,h2,h3⟩:=h
  exact⟨b,o,C,L,e,h1,WkL.rel hl L h2,h3⟩
 |_,_,.str l n,V,h=>by
  simp only[Rel]at h ⊢
  exact h.2
theorem WkL.rel:∀{l m:List AV},WkL l m→∀L,RelL σ l L→RelL σ m L
 |_,_,.nil,L,h=>h
 |_,_,.cons v u l m h1 h2,L,h=>by
  simp only[RelL]at h ⊢
  obtain⟨V,L',e,q1,q2⟩:=h
  exact⟨V,L',e,Wk.rel h1 V q1,WkL.rel h2 L' q2⟩
end
theorem ACall.wk {fid:FuncId}{args args':List AV}{R:AV→Tr ABlk→Nat→Prop}(ha:WkL args args')(hc:ACall P c fid args' h nx R):ACall P c fid args h nx R:=
 fun σ w A ok hA=>hc σ w A ok (ha.rel A hA)
theorem ACall.wkR {fid:FuncId}{args:List AV}{R S:AV→Tr ABlk→Nat→Prop}(hc:ACall P c fid args h nx R)(hr:∀v g ny,R v g ny→∃u,Wk v u∧S u g ny):ACall P c fid args h nx S:=
 fun σ w A ok hA=>(hc σ w A ok hA).mono fun V x ⟨τ,v,g,ny,h1,h2,h3⟩=>by
  obtain⟨u,e1,e2⟩:=hr v g ny h3
  exact⟨τ,u,g,ny,e1.rel V h1,h2,e2⟩
theorem Ret.wk {fid:FuncId}{args args':List AV}{u u':AV}(hc:Ret P c fid args' u)(ha:WkL args args')(hu:Wk u u'):Ret P c fid args u':=
 fun h nx=>ACall.wk ha ((hc h nx).wkR fun v g ny ⟨e1,e2,e3⟩=>⟨u',by rw[e1];exact hu,rfl,e2,e3⟩)
theorem ACall.tab (hn:c'.G.n=c.G.n)(ht:∀g cs,c.G.tab g=some cs→c'.G.tab g=some cs){fid:FuncId}{args:List AV}{R:AV→Tr ABlk→Nat→Prop}(hc:ACall P c fid args h nx R):ACall P c' fid args h nx R:=by
 intro σ w A ok hA
 have ok0:Ok c.G σ h nx w:=⟨fun g hg=>ok.glob g (by rw[hn];exact hg),by rw[← hn];exact ok.le,ok.fresh,ok.inj,ok.blk,ok.imm,fun g cs hg=>ok.gl g cs (ht g cs hg)⟩
 refine(hc σ w A ok0 hA).mono fun V x ⟨τ,v,g,ny,h1,h2,h3⟩=>⟨τ,v,g,ny,h1,⟨?_,h2.le,h2.fr,h2.nx⟩,h3⟩
 exact⟨fun g hg=>h2.ok.glob g (by rw[← hn];exact hg),by rw[hn];exact h2.ok.le,h2.ok.fresh,h2.ok.inj,h2.ok.blk,h2.ok.imm,fun g cs hg=>(ok.gl g cs hg).mono h2.le⟩
theorem Ret.tab (hn:c'.G.n=c.G.n)(ht:∀g cs,c.G.tab g=some cs→c'.G.tab g=some cs){fid:FuncId}{args:List AV}{u:AV}(hc:Ret P c fid args u):Ret P c' fid args u:=
 fun h nx=>(hc h nx).tab hn ht
end
end Go.Ev
namespace Go.Ev
noncomputable section
variable {P : Program} {c : Cx} {sz : Nat} {tm : Tr AV} {h : Tr ABlk} {nx : Nat} {ds : List DE} {s : AS} {ops : List Oper} {Wl Cl : List Nat} {U : List (Nat × Nat)}
@[go_sem ↓] theorem awDk_nil (K:(Nat→Tr ABlk)→AS→Prop) (i:Nat)(hs:Nat→Tr ABlk):awDk P c sz ops Wl Cl U K [] i hs s=K hs s:=rfl
@[go_sem ↓] theorem awDk_cons (K:(Nat→Tr ABlk)→AS→Prop)(o:Oper)(l:List Oper) (i:Nat)(hs:Nat→Tr ABlk):awDk P c sz ops Wl Cl U K (o::l) i hs s=awDS P c sz ops Wl Cl U i hs o (awDk P c sz ops Wl Cl U K l (i+1)) s:=rfl
@[go_sem ↓] theorem swQ1_eq (i:Nat)(o1 o2:Oper)(t:List Oper):swQ1 i (o1::o2::t)=o1::moreE i o2::t:=rfl
@[go_sem ↓] theorem swQ2_eq (i:Nat)(o1 o2:Oper)(t:List Oper):swQ2 i (o1::o2::t)=reO i o2::moreE i (reO i o1)::t.map (reO i):=rfl
@[go_sem ↓] theorem reO_eq (i:Nat)(dst:Option Tmp)(op:Op)(ty:TypeId)(pos:String)(aft:Array Edge)(g:Option (Nat×Bool)):reO i ⟨dst,op,ty,pos,aft,g⟩=⟨dst,op,ty,pos,aft.map (reE i),g⟩:=rfl
@[go_sem ↓] theorem moreE_eq (i:Nat)(dst:Option Tmp)(op:Op)(ty:TypeId)(pos:String)(aft:Array Edge)(g:Option (Nat×Bool)):moreE i ⟨dst,op,ty,pos,aft,g⟩=⟨dst,op,ty,pos,aft.push { on:=i,ground:=.data },g⟩:=rfl
@[go_sem ↓] theorem splitK_eq (l1 l2:List Oper)(fl:List (Nat×Nat×Nat)) (m2:Nat)(Kf:AS→Prop):splitK P c sz l1 l2 fl m2 Kf (.mk tm h nx ds)=((∀p∈fl,∃u,tm.get p.2.2=some u∧tm.get p.2.1=some u∧p.2.2<sz)∧awO P c sz (l1++l2) (fun s'=>awO P c sz (l1++l2) Kf (l2.drop m2) (showS fl tm s')) (l2.take m2) (.mk (hideT fl tm) h nx ds)):=rfl
@[go_sem] theorem hideT_nil:hideT [] tm=tm:=rfl
@[go_sem] theorem hideT_cons (p:Nat×Nat×Nat)(l:List (Nat×Nat×Nat)):hideT (p::l) tm=(hideT l tm).put p.2.2 none:=rfl
@[go_sem] theorem showS_eq (fl:List (Nat×Nat×Nat))(tm0:Tr AV):showS fl tm0 (.mk tm h nx ds)=.mk (showT fl tm0 tm) h nx ds:=rfl
@[go_sem] theorem showT_nil (tm0:Tr AV):showT [] tm0 tm=tm:=rfl
@[go_sem] theorem showT_cons (p:Nat×Nat×Nat)(l:List (Nat×Nat×Nat))(tm0:Tr AV):showT (p::l) tm0 tm=(showT l tm0 tm).put p.2.2 (tm0.get p.2.2):=rfl
theorem AW_splitAt (hm:P.follows .mixedOrders=true)(hc:CxOk P c)(hG:c.G.sym=true){inr:Bool}{id:Nat}{l:List Oper}(k:Nat)(Wl Cl:List Nat)(U:List (Nat×Nat))(fl:List (Nat×Nat×Nat)) (m2:Nat)(hstat:statD c (l.take k) (mAcc (l.take k) []) Wl Cl U=true)(hsp:splitB (mAcc l []) (l.take k) (l.drop k) Wl fl m2=true){Q:AX→AS→Prop}{s:AS}
  (hw:awD P c sz (l.take k) Wl Cl U (splitK P c sz (l.take k) (l.drop k) fl m2 (Q .norm)) (l.take k) 0 (fun _=>.nil) s):AW P c inr sz (.region id l.toArray true) Q s:=by
 have:=AW_split (inr:=inr) (id:=id) hm hc hG (l1:=l.take k) (l2:=l.drop k) Wl Cl U fl m2 hstat (by rw[List.take_append_drop];exact hsp) hw
 rw[List.take_append_drop]at this
 exact this
@[go_sem] theorem seenU_cons (i:Nat)(hs:Nat→Tr ABlk) (a b:Nat)(U:List (Nat×Nat)):seenU c ops i tm hs h ((a,b)::U)=((a=i→b<i→keepsN (fpv c ops i tm) h (hs b))∧seenU c ops i tm hs h U):=rfl
@[go_sem] theorem keepsU_cons (j:Nat)(h':Tr ABlk) (a b:Nat)(U:List (Nat×Nat)):keepsU c ops j tm h h' ((a,b)::U)=((b=j→a<j→keepsN (fpv c ops a tm) h h')∧keepsU c ops j tm h h' U):=rfl
@[go_sem] theorem fpv_eq (j:Nat):fpv c ops j tm=match ops[j]? with
 |some o=>(fpO o.op).bind (evO c.G tm)
 |none=>none:=rfl
attribute [go_sem] swL1 swL2
@[go_sem] theorem fpO_load (t:TypeId)(x:Operand):fpO (.load t x)=some x:=rfl
@[go_sem] theorem keepsN_ip (cs:List AV)(h':Tr ABlk):keepsN (some (.ip cs)) h h'=True:=rfl
@[go_sem] theorem keepsN_ptr (k o:Nat)(h':Tr ABlk):keepsN (some (.ptr k o)) h h'=(h'.get k=h.get k):=rfl
end
end Go.Ev
namespace Go.Ev
noncomputable section
variable {P : Program} {c : Cx} {σ τ υ : Sg} {h g f : Tr ABlk} {nx ny nz sz : Nat} {w x y : World} {G : Gl}
mutual
def scalV:AV→Bool
 |.bool _=>true
 |.int _ _=>true
 |.str _ _=>true
 |.bs _=>true
 |.ptr0=>true
 |.sl0=>true
 |.map0=>true
 |.nilFunc=>true
 |.nilIface=>true
 |.agg l=>scalL l
 |.tup l=>scalL l
 |_=>false
def scalL:List AV→Bool
 |[]=>true
 |v::l=>scalV v && scalL l
end
mutual
theorem Rel.scal {σ τ:Sg}:∀(v:AV)(V:Value),scalV v=true→Rel σ v V→Rel τ v V
 |.bool _,V,_,h=>by simpa only[Rel]using h
 |.int _ _,V,_,h=>by simpa only[Rel]using h
 |.str _ _,V,_,h=>by simpa only[Rel]using h
 |.bs _,V,_,h=>by simpa only[Rel]using h
 |.ptr0,V,_,h=>by simpa only[Rel]using h
 |.sl0,V,_,h=>by simpa only[Rel]using h
 |.map0,V,_,h=>by simpa only[Rel]using h
 |.nilFunc,V,_,h=>by simpa only[Rel]using h
 |.nilIface,V,_,h=>by simpa only[Rel]using h
 |.agg l,V,hs,h=>by
  simp only[Rel]at h ⊢
  obtain⟨L,e,q⟩:=h
  exact⟨L,e,RelL.scal l L (by simpa[scalV]using hs) q⟩
 |.tup l,V,hs,h=>by
  simp only[Rel]at h ⊢
  obtain⟨L,e,q⟩:=h
  exact⟨L,e,RelL.scal l L (by simpa[scalV]using hs) q⟩
 |.ptr _ _,V,hs,_=>by simp[scalV]at hs
 |.ip _,V,hs,_=>by simp[scalV]at hs
 |.sl _ _ _ _ _,V,hs,_=>by simp[scalV]at hs
 |.fz _ _ _,V,hs,_=>by simp[scalV]at hs
 |.map _,V,hs,_=>by simp[scalV]at hs
 |.func _ _ _,V,hs,_=>by simp[scalV]at hs
 |.iface _ _,V,hs,_=>by simp[scalV]at hs
 |.opq _,V,hs,_=>by simp[scalV]at hs
 |.yld _,V,hs,_=>by simp[scalV]at hs
theorem RelL.scal {σ τ:Sg}:∀(l:List AV)(L:List Value),scalL l=true→RelL σ l L→RelL τ l L
 |[],L,_,h=>by simpa only[RelL]using h
 |v::l,L,hs,h=>by
  simp only[scalL,Bool.and_eq_true]at hs
  simp only[RelL]at h ⊢
  obtain⟨V,L',e,q1,q2⟩:=h
  exact⟨V,L',e,Rel.scal v V hs.1 q1,RelL.scal l L' hs.2 q2⟩
end
theorem Post.same (hk:Ok G σ h nx w)(e1:x.os=w.os)(e2:x.tape=w.tape)(e3:x.output=w.output)(e4:w.heap.size≤x.heap.size)(e5:∀b,b<w.heap.size→x.heap[b]?=w.heap[b]?):Post G σ h nx w σ h nx x:=by
 refine⟨⟨hk.glob,hk.le,hk.fresh,hk.inj,fun i B h1=>?_,fun b C hb=>⟨?_,(hk.imm b C hb).2⟩,hk.gl⟩,.refl σ,⟨e1,e2,e3,e4,fun b hb _=>e5 b hb,fun i B b h1 h2=>.inr ⟨i,B,h1,h2⟩,fun _ _ h=>.inl h⟩,Nat.le_refl _⟩
 ·obtain⟨b,o,q1,q2,q3⟩:=hk.blk i B h1
  exact⟨b,o,q1,by rw[e5 b (lt_of_heap q2)];exact q2,q3⟩
 ·obtain⟨t,fr,q⟩:=(hk.imm b C hb).1
  exact⟨t,fr,by rw[e5 b (lt_of_heap q)];exact q⟩
end
end Go.Ev
namespace Go.Ev
open Go.Sort
noncomputable section
variable {P : Program} {c : Cx} {σ τ υ : Sg} {h g f : Tr ABlk} {nx ny nz sz : Nat} {w x y : World}
theorem CR_calls (hc:CxOk P c){fid:FuncId}{fn:Func}(hft:c.ft.get fid=some fn){A:Array Value}{Q:Value→World→Prop}(hC:Calls P fid A w fun e x=>match e with |.returned v=>Q v x |_=>False):CR P fid A w Q:=by
 obtain⟨hf,hcall⟩:=hc.ft fid fn hft
 unfold CR
 rw[hcall]
 exact hC
theorem ACall_pure (hc:CxOk P c){fid:FuncId}{fn:Func}(hft:c.ft.get fid=some fn){args:List AV}{R:AV→Tr ABlk→Nat→Prop}
  (hC:∀(σ:Sg) (w:World) (A:List Value),Ok c.G σ h nx w→RelL σ args A→Calls P fid A.toArray w fun e x=>∃V u k os,e=.returned V∧Rel σ u V∧R u h nx∧x=grow (Go.Sort.ahead w k) os):ACall P c fid args h nx R:=by
 intro σ w A hk hA
 refine CR_calls hc hft ((hC σ w A hk hA).mono fun e x q=>?_)
 obtain⟨V,u,k,os,rfl,h1,h2,rfl⟩:=q
 refine⟨σ,u,h,nx,h1,?_,h2⟩
 refine Post.same hk rfl rfl rfl ?_ fun b hb=>?_
 ·simp[grow,Go.Sort.ahead]
 ·rw[heap_grow_old _ _ (by simpa[Go.Sort.ahead]using hb)]
  rfl
theorem ACall_row2 (hc:CxOk P c){fid:FuncId}{fn:Func}(hft:c.ft.get fid=some fn){α:Type} [Inhabited α] (enc:α→AV)(encV:α→Value)(hE:∀σ x V,Rel σ (enc x) V↔V=encV x)
  {i o n cp esz:Nat} {t:TypeId} {opn opn':Bool} {rest:List AV} {l:List α} {R:AV→Tr ABlk→Nat→Prop} (hg:h.get i=some (bx t (l.map enc) opn' esz)) (hl:o+n≤l.length)
  (RR:List α→AV→Prop)
  (hC:∀(σ:Sg) (w:World) (RA:List Value) (b cap:Nat),Ok c.G σ h nx w→RelL σ rest RA→Holds encV w b o ((l.drop o).take n).toArray→b<w.heap.size→σ.blk i=some b→cap=(if opn then σ.cap i-cp else cp)→n≤cap→Calls P fid (.slice (some ⟨b,o,none⟩) n cap::RA).toArray w fun e x=>∃V u k os d,e=.returned V∧Rel σ u V∧d.length=n∧RR d u∧x=grow (putRow encV (Go.Sort.ahead w k) b o d.toArray) os)
  (hR:∀d u,d.length=n→RR d u→R u (h.put i (some (bx t ((l.take o++(d++l.drop (o+n))).map enc) opn' esz))) nx):ACall P c fid (.sl i o n cp opn::rest) h nx R:=by
 intro σ w A hk hA
 simp only[RelL,Rel]at hA
 obtain⟨V0,RA,rfl,⟨b,hb,rfl,hcap⟩,hRA⟩:=hA
 obtain⟨b',o',hb',ho,hr⟩:=hk.blk i _ hg
 rw[hb]at hb'
 cases hb'
 simp only[bx,RelB]at hr
 obtain⟨C,fr,rfl,h1,h2,h3⟩:=hr
 have hcell:∀(k:Nat) (x:α),l[k]?=some x→C[k]?=some (encV x):=by
  intro k x hx
  have hk2:k<l.length:=by
   rcases Nat.lt_or_ge k l.length with q |q
   ·exact q
   ·rw[List.getElem?_eq_none q]at hx;cases hx
  obtain⟨v,V,e1,e2,e3⟩:=h1 k (by simpa using hk2)
  rw[get_putN0,List.getElem?_map,hx]at e1
  cases e1
  rw[e2,(hE σ x V).1 e3]
 have hCs:l.length≤C.size:=by
  rcases Nat.eq_zero_or_pos l.length with q |q
  ·omega
  ·have hx:l[l.length-1]?=some l[l.length-1]:=List.getElem?_eq_getElem (by omega)
   have:=hcell _ _ hx
   have:l.length-1<C.size:=by
    rcases Nat.lt_or_ge (l.length-1) C.size with q2 |q2
    ·exact q2
    ·rw[Array.getElem?_eq_none q2]at this;cases this
   omega
 have hH:Holds encV w b o ((l.drop o).take n).toArray:=by
  intro j hj
  have hj':j<n:=by simp at hj;omega
  have hlt:o+j<l.length:=by omega
  have hfr:=h2 (o+j) (by omega)
  have e0:((l.drop o).take n).toArray[j]! = l[o+j]:=by
   rw[getElem!_pos _ j hj]
   simp
  refine⟨?_,?_⟩
  ·rw[e0]
   simp only[World.cell?,ho]
   have:=hcell (o+j) _ (List.getElem?_eq_getElem hlt)
   simpa using this
  ·simp only[World.frozen?,ho]
   simp
   omega
 refine CR_calls hc hft ((hC σ w RA b _ hk hRA hH (hk.blt hg hb) hb rfl hcap).mono fun e x q=>?_)
 obtain⟨V,u,k,os,d,rfl,q1,q2,q3,rfl⟩:=q
 refine⟨σ,u,_,nx,q1,?_,hR d u q2 q3⟩
 have hputlen:(putCells encV o d.toArray C).size=C.size:=by simp[putCells]
 have hpc:∀k,(putCells encV o d.toArray C)[k]?=if o≤k∧k<o+n∧k<C.size then some (encV (d.toArray[k-o]!)) else C[k]?:=by
  intro k
  simp only[putCells]
  rw[Array.getElem?_mapIdx]
  by_cases hkc:k<C.size
  ·rw[Array.getElem?_eq_getElem hkc]
   by_cases hc2:o≤k∧k<o+n
   ·rw[if_pos ⟨hc2.1,hc2.2,hkc⟩]
    simp[q2,hc2]
   ·rw[if_neg (by omega)]
    simp only[Option.map_some,List.size_toArray,q2]
    rw[if_neg hc2]
  ·rw[Array.getElem?_eq_none (by omega),if_neg (by omega)]
   rfl
 have pd:=Post.drawn hk (w.drawn+k)
 have ps:=Post.set pd.ok hg hb (bx t ((l.take o++(d++l.drop (o+n))).map enc) opn' esz) (.cells (putCells encV o d.toArray C) t fr) (by
  simp only[bx,RelB]
  have hlen:((l.take o++(d++l.drop (o+n))).map enc).length=l.length:=by
   simp[q2]
   omega
  refine⟨_,fr,rfl,fun j hj=>?_,fun j hj=>h2 j (by rw[hputlen]at hj;exact hj),?_⟩
  ·rw[hlen]at hj
   rw[get_putN0,List.getElem?_map,hpc j]
   by_cases hj1:j<o
   ·rw[if_neg (by omega),List.getElem?_append_left (by simp;omega),List.getElem?_take_of_lt hj1,List.getElem?_eq_getElem hj]
    exact⟨_,_,rfl,hcell j _ (List.getElem?_eq_getElem hj),(hE σ _ _).2 rfl⟩
   ·rw[List.getElem?_append_right (by simp;omega),show (l.take o).length=o by simp;omega]
    by_cases hj2:j<o+n
    ·have hd:j-o<d.length:=by omega
     rw[if_pos (by omega),List.getElem?_append_left hd,List.getElem?_eq_getElem hd]
     refine⟨_,_,rfl,rfl,(hE σ _ _).2 ?_⟩
     rw[getElem!_pos _ _ (by simpa using hd)]
     simp
    ·rw[if_neg (by omega),List.getElem?_append_right (by omega),List.getElem?_drop,q2,show o+n+(j-o-n)=j by omega,List.getElem?_eq_getElem hj]
     exact⟨_,_,rfl,hcell j _ (List.getElem?_eq_getElem hj),(hE σ _ _).2 rfl⟩
  ·rw[hlen,hputlen]
   simpa using h3)
 have pp:=pd.trans ps
 refine pp.trans (Post.same pp.ok ?_ ?_ ?_ ?_ ?_)
 ·rfl
 ·rfl
 ·rfl
 ·simp[grow,putRow,mapBlock,Go.Sort.ahead]
 ·intro k' hk'
  rw[heap_grow_old _ _ (by simpa[putRow,mapBlock,Go.Sort.ahead]using hk')]
  simp only[putRow,mapBlock,Go.Sort.ahead,Array.getElem?_modify]
  simp only[Array.getElem?_setIfInBounds]
  by_cases e:b=k'
  ·subst e
   rw[if_pos rfl,if_pos rfl,ho]
   have:=hk.blt hg hb
   simp[onCells,this]
  ·rw[if_neg e,if_neg e]
theorem ACall_row (hc:CxOk P c){fid:FuncId}{fn:Func}(hft:c.ft.get fid=some fn){α:Type} [Inhabited α] (enc:α→AV)(encV:α→Value)(hE:∀σ x V,Rel σ (enc x) V↔V=encV x)
  {i o n cp esz:Nat} {t:TypeId} {opn opn':Bool} {rest:List AV} {l:List α} {R:AV→Tr ABlk→Nat→Prop} (hg:h.get i=some (bx t (l.map enc) opn' esz)) (hl:o+n≤l.length)
  (RR:List α→AV→Prop)
  (hC:∀(σ:Sg) (w:World) (RA:List Value) (b cap:Nat),Ok c.G σ h nx w→RelL σ rest RA→Holds encV w b o ((l.drop o).take n).toArray→b<w.heap.size→Calls P fid (.slice (some ⟨b,o,none⟩) n cap::RA).toArray w fun e x=>∃V u k os d,e=.returned V∧Rel σ u V∧d.length=n∧RR d u∧x=grow (putRow encV (Go.Sort.ahead w k) b o d.toArray) os)
  (hR:∀d u,d.length=n→RR d u→R u (h.put i (some (bx t ((l.take o++(d++l.drop (o+n))).map enc) opn' esz))) nx):ACall P c fid (.sl i o n cp opn::rest) h nx R:=
 ACall_row2 hc hft enc encV hE hg hl RR (fun σ w RA b cap a1 a2 a3 a4 _ _ _=>hC σ w RA b cap a1 a2 a3 a4) hR
end
end Go.Ev
namespace Go.Ev
open Go.Proofs Go.RowKit
noncomputable section
def Kept (O:Nat→Prop)(h:Tr ABlk) (nx:Nat)(O':Nat→Prop)(g:Tr ABlk) (ny:Nat):Prop:=nx≤ny∧(∀k,k<nx→¬O k→g.get k=h.get k)∧∀k,O' k→O k∨nx≤k
theorem Kept.ext {O:Nat→Prop}{h g:Tr ABlk}{nx ny:Nat}(e:Ext nx h g)(hl:nx≤ny):Kept O h nx O g ny:=⟨hl,fun k hk _=>e k hk,fun k hk=>.inl hk⟩
theorem roundQ_norm {i:Nat}{K:AV→Tr ABlk→Nat→Prop}{tm tmR:Tr AV}{h:Tr ABlk}{nx sz db:Nat}{ds:List DE}{fn:FuncId}{st:LoopState}{pend:Option Code}{ps:Array Tmp}{x y:Code}{rb rec:ABlk}(hb:ABlk.loop st pend fn sz tmR ps x y db=rb)(hi:h.get i=some rb)(hr:ABlk.loop .ready none fn sz tmR ps x y db=rec)(hk:K (.bool true) (h.put i (some rec)) nx):roundQ i K .norm (.mk tm h nx ds):=by
 subst hb
 subst hr
 exact⟨_,_,_,_,_,_,_,_,_,hi,hk⟩
theorem rangeQ_none {Q:AX→AS→Prop}{v:AV}{tm tmR:Tr AV}{g:Tr ABlk}{nx ny sz db:Nat}{ds:List DE}{fn:FuncId}{ps:Array Tmp}{x y:Code}{rec:ABlk}(hr:ABlk.loop .ready none fn sz tmR ps x y db=rec)(hi:g.get (nx+1)=some rec)(hk:Q .norm (.mk tm (g.put (nx+1) none) ny (.mark nx::ds))):rangeQ tm ds nx Q v g ny:=by
 subst hr
 exact⟨_,_,_,_,_,_,_,_,_,hi,by simp,hk⟩
theorem fzPin {g:Tr ABlk}{nx i:Nat}{t:TypeId}{l:List AV}{opn:Bool}{esz:Nat}(hi:nx≤i)(hg:g.get i=some (bx t l opn esz))(hp:plainL l=true):Fz g nx (.ptr i 0) (.ip l):=
 .pin i 0 t _ _ opn esz l l hi hg (by simp) (fun j hj=>by rw[Nat.zero_add,get_putN0]) (FzL.same _ hp)
@[go_sem] theorem evIndex_str0 (size b:Nat)(z:Option AV)(fs:List (Nat×Nat×Bool))(v:ByteArray)(k:IntKind)(h:Tr ABlk) (nx:Nat)(hn:0<v.size):evIndex (.mk .string size b z fs) (.bs v) (.int k 0) h nx=.val (.int .u8 ((v[0]).toNat:Int)) h nx:=
 evIndex_str size b z fs v k 0 h nx hn
def encI (l:List Int):List AV:=l.map (.int .i64)
@[go_sem] theorem encI_len (l:List Int):(encI l).length=l.length:=by simp[encI]
@[go_sem] theorem encI_at (l:List Int) (k:Nat)(hk:k<(encI l).length):(encI l)[k]=.int .i64 (l[k]'(by simpa[encI]using hk)):=by simp[encI]
def lenM (o:Option ABlk)(h:Tr ABlk) (nx:Nat):R:=match o with
 |some (.map es _)=>.val (.int .i64 (es.length:Int)) h nx
 |_=>.fail
@[go_sem] theorem lenM_some (es:List (AV×AV×Nat)) (cl:Nat)(h:Tr ABlk) (nx:Nat):lenM (some (.map es cl)) h nx=.val (.int .i64 (es.length:Int)) h nx:=rfl
theorem Ret.mkW {P:Program}{c:Cx}{f:FuncId}{args:List AV}{u:AV}(hr:∀h nx (R:AV→Tr ABlk→Nat→Prop),(∀v g ny u',Ext nx h g→Fz g nx v u'→Wk u' u→R v g ny)→ACall P c f args h nx R):Ret P c f args u:=by
 intro h nx
 have:=ACall.frz (R:=fun v=>Wk v u) (hr h nx _ fun v g ny u' h1 h2 h3=>⟨h1,u',h2,h3⟩)
 exact this.wkR fun v g ny ⟨e1,e2,e3⟩=>⟨u,e1,rfl,e2,e3⟩
@[go_sem] theorem evIndexAddr_sl0 (e:TypeId) (size b:Nat)(z:Option AV) (x:Nat) (s:Nat)(y:Bool)(fs:List (Nat×Nat×Bool)) (i o l cp:Nat)(opn:Bool)(k:IntKind)(h:Tr ABlk) (nx:Nat)(hn:0<l):
  evIndexAddr (.mk (.slice e) size b z ((x,s,y)::fs)) (.sl i o l cp opn) (.int k 0) h nx=.val (.ptr i o) h nx:=by
 have:=evIndexAddr_sl e size b z x s y fs i o l cp opn k 0 h nx hn
 simpa using this
theorem ext_put {nx:Nat}{h g:Tr ABlk}{i:Nat}{B:Option ABlk}(hi:nx≤i):Ext nx h (g.put i B)↔Ext nx h g:=by
 constructor
 ·intro e j hj
  have:=e j hj
  rw[Tr.get_put,if_neg (by omega)]at this
  exact this
 ·exact fun e=>e.put hi B
@[go_sem] theorem evIndexAddr_fzz (e:TypeId) (size b:Nat)(z:Option AV) (x:Nat) (s:Nat)(y:Bool)(fs:List (Nat×Nat×Bool))(full:Bool)(xs:List AV)(k:IntKind)(h:Tr ABlk) (nx:Nat)(hn:0<xs.length):
  evIndexAddr (.mk (.slice e) size b z ((x,s,y)::fs)) (.fz s full xs) (.int k 0) h nx=.val (.ip (xs[0]).cells) h nx:=evIndexAddr_fz e size b z x s y fs full xs k 0 h nx hn
@[go_sem] theorem app2_fz (m e size:Nat)(news xs:List AV)(h:Tr ABlk) (nx:Nat)(h0:m≠0)(h1:xs.length+m≤16777216):app2 true m news e size (.fz size true xs) h nx=.val (.sl nx 0 (xs.length+m) 0 true) (h.put nx (some (bx e (xs.flatMap AV.cells++news) true size))) (nx+1):=by
 have e0:Nat.beq m 0=false:=by cases m;exact absurd rfl h0;rfl
 have e1:Nat.ble (Nat.add xs.length m) 16777216=true:=Nat.ble_eq_true_of_le h1
 simp only[app2,e0,e1,Nat.beq_refl,Bool.and_self]
@[go_sem] theorem evMakeSlice_eq (e a1 a2 b1 bytes n:Nat)(a3:Option AV)(a4 b4:List (Nat×Nat×Bool))(d2:TypeDesc)(z:AV)(k1 k2:IntKind)(h:Tr ABlk) (nx:Nat)(h0:n≠0)(h1:n≤16777216)(h2:bytes≤16777216):
  evMakeSlice (.mk (.slice e) a1 a2 a3 a4) (some (.mk d2 b1 bytes (some z) b4)) e (.int k1 (n:Int)) (.int k2 (n:Int)) h nx=.val (.sl nx 0 n n false) (h.put nx (some (bx e (repL z.cells n) false 0))) (nx+1):=by
 have h3:Nat.beq n 0=false:=by cases n;exact absurd rfl h0;rfl
 simp[evMakeSlice,h3,idx_nat,Nat.beq_refl,nble,h1,h2,fN_eq,newK_eq]
theorem NEx {a b:Nat}(h:a<b):(a=b)=False:=by simp;omega
@[go_sem] theorem evStrB_add (a b:ByteArray)(h:Tr ABlk) (nx:Nat)(hs:a.size+b.size≤9223372036854775807):evStrB .add a b h nx=.val (.bs (a++b)) h nx:=by
 have:Nat.ble (Nat.add a.size b.size) 9223372036854775807=true:=Nat.ble_eq_true_of_le hs
 simp only[evStrB,this]
@[go_sem] theorem evStrB_eql (a b:ByteArray)(h:Tr ABlk) (nx:Nat):evStrB .eql a b h nx=.val (.bool (decide (a=b))) h nx:=rfl
@[go_sem] theorem evStrB_neq (a b:ByteArray)(h:Tr ABlk) (nx:Nat):evStrB .neq a b h nx=.val (.bool (!(decide (a=b)))) h nx:=rfl
theorem roundQ_ret {i:Nat}{K:AV→Tr ABlk→Nat→Prop}{tm tmR:Tr AV}{h:Tr ABlk}{nx sz db:Nat}{ds:List DE}{fn:FuncId}{st:LoopState}{pend:Option Code}{ps:Array Tmp}{x y:Code}{rb rec:ABlk}(hb:ABlk.loop st pend fn sz tmR ps x y db=rb)(hi:h.get i=some rb)(hr:ABlk.loop .done (some .ret) fn sz tmR ps x y db=rec)(hk:K (.bool false) (h.put i (some rec)) nx):roundQ i K .ret (.mk tm h nx ds):=by
 subst hb
 subst hr
 exact⟨_,_,_,_,_,_,_,_,_,hi,hk⟩
theorem rangeQ_ret {Q:AX→AS→Prop}{v:AV}{tm tmR:Tr AV}{g:Tr ABlk}{nx ny sz db:Nat}{ds:List DE}{fn:FuncId}{ps:Array Tmp}{x y:Code}{rec:ABlk}(hr:ABlk.loop .done (some .ret) fn sz tmR ps x y db=rec)(hi:g.get (nx+1)=some rec)(hk:Q .ret (.mk tm (g.put (nx+1) none) ny (.mark nx::ds))):rangeQ tm ds nx Q v g ny:=by
 subst hr
 exact⟨_,_,_,_,_,_,_,_,_,hi,by simp,hk⟩
def appL (B:Option ABlk) (len m:Nat)(news:List AV) (e size:Nat)(h:Tr ABlk) (nx:Nat) (i:Nat):R:=match B with
 |some (.cells e' n cs opn' esz)=>match Nat.ble (Nat.add len m) 16777216 with
  |false=>.fail
  |true=>match Nat.beq len len && Nat.ble (Nat.add 0 (Nat.mul len size)) n with
   |false=>.fail
   |true=>match Nat.beq m 0 with
    |true=>.val (.sl i 0 len len false) h nx
    |false=>.val (.sl nx 0 (len+m) 0 true) (h.put nx (some (bx e (((toL cs n).drop 0).take (Nat.mul len size)++news) true size))) (nx+1)
 |_=>.fail
@[go_sem] theorem app2_lit (m e size i len nx:Nat)(news:List AV)(h:Tr ABlk):app2 true m news e size (.sl i 0 len len false) h nx=appL (h.get i) len m news e size h nx i:=by
 simp only[app2,appL]
 cases h.get i with
 |none=>rfl
 |some B=>cases B <;> rfl
@[go_sem] theorem appL_bx (m e size i len nx t q:Nat)(o:Bool)(l news:List AV)(h:Tr ABlk)(h0:m≠0)(h1:l.length=len * size)(h2:len+m≤16777216):appL (some (bx t l o q)) len m news e size h nx i=.val (.sl nx 0 (len+m) 0 true) (h.put nx (some (bx e (l++news) true size))) (nx+1):=by
 have e0:Nat.beq m 0=false:=by cases m;exact absurd rfl h0;rfl
 have e1:Nat.ble (Nat.add len m) 16777216=true:=Nat.ble_eq_true_of_le h2
 have e2:Nat.ble (Nat.add 0 (Nat.mul len size)) l.length=true:=Nat.ble_eq_true_of_le (by rw[h1];simp)
 have e3:toL (putN l .nil 0) l.length=l:=by
  apply List.ext_getElem?
  intro k
  by_cases hk:k<l.length
  ·simp[toL,hk,get_putN0]
  ·simp[toL,hk]
 have e4:l.take (Nat.mul len size)=l:=List.take_of_length_le (by rw[h1];exact Nat.le_refl _)
 simp only[appL,bx,e0,e1,e2,e3,e4,Nat.beq_refl,Bool.and_self,List.drop_zero]
end
end Go.Ev
namespace Go.Ev
open Go.Proofs Go.RowKit
noncomputable section
attribute [-go_sem] pPick lookRes
theorem ft26:cx.ft.get 26=some Tryz.f26:=cxS_ft (by decide) (by kernel_rfl)
theorem ft19:cx.ft.get 19=some Tryz.f19:=cxS_ft (by decide) (by kernel_rfl)
theorem ft92:cx.ft.get 92=some Tryz.f92:=cxS_ft (by decide) (by kernel_rfl)
theorem ft52:cx.ft.get 52=some Tryz.f52:=cxS_ft (by decide) (by kernel_rfl)
theorem ft53:cx.ft.get 53=some Tryz.f53:=cxS_ft (by decide) (by kernel_rfl)
theorem ft54:cx.ft.get 54=some Tryz.f54:=cxS_ft (by decide) (by kernel_rfl)
def orB (s:ByteArray):ByteArray:=if s=⟨#[]⟩ then ⟨#[45]⟩ else s
theorem or_c (s:ByteArray):Ret Tryz.prog cx 26 [.bs s] (.bs (orB s)):=by
 refine Ret.mk fun h nx R hR=>ACall_mk (sz:=6) (rs:=[.tmp 2]) cxok ft26 rfl rfl rfl (by simp) ?_
 by_cases c:s=⟨#[]⟩
 ·simp[go_sem,c]
  exact hR _ _ _ (Ext.refl _ _) (Fz.eq rfl (by simp[orB,c]))
 ·simp[go_sem,c]
  exact hR _ _ _ (Ext.refl _ _) (Fz.eq rfl (by simp[orB,c]))
theorem or2_c (s:ByteArray):Ret Tryz.prog cx 19 [.bs s] (.bs (orB s)):=by
 refine Ret.mk fun h nx R hR=>ACall_mk (sz:=6) (rs:=[.tmp 2]) cxok ft19 rfl rfl rfl (by simp) ?_
 by_cases c:s=⟨#[]⟩
 ·simp[go_sem,c]
  exact hR _ _ _ (Ext.refl _ _) (Fz.eq rfl (by simp[orB,c]))
 ·simp[go_sem,c]
  exact hR _ _ _ (Ext.refl _ _) (Fz.eq rfl (by simp[orB,c]))
def hexN (n:Nat):Bool:=decide ((48≤n∧n≤57)∨(97≤n∧n≤102))
def digV (n:Nat):Int:=if 48≤n∧n≤57 then (n:Int)-48 else if 97≤n∧n≤102 then (n:Int)-97+10 else -1
theorem digV_neg (n:Nat):digV n<0↔hexN n=false:=by
 unfold digV hexN
 rw[decide_eq_false_iff_not]
 repeat' split
 all_goals omega
theorem u8wrap {z:Int}(h0:0≤z)(h1:z≤255):IntKind.u8.wrap z=z:=by
 have h2:z % 256=z:=Int.emod_eq_of_lt h0 (by omega)
 simp[IntKind.wrap,IntKind.bits,IntKind.signed,h2]
theorem digit_c (n:Nat)(hb:n<256):Ret Tryz.prog cx 92 [.int .u8 (n:Int)] (.int .i64 (digV n)):=by
 refine Ret.mk fun h nx R hR=>ACall_mk (sz:=22) (rs:=[.tmp 2]) cxok ft92 rfl rfl rfl (by simp) ?_
 have hF:∀z,z=digV n→R (.int .i64 z) h nx:=fun z e=>hR _ _ _ (Ext.refl _ _) (Fz.eq rfl (by rw[e]))
 unfold digV at hF
 by_cases c1:48≤n∧n≤57
 ·have c1I:(48:Int)≤n:=by omega
  have c2I:(n:Int)≤57:=by omega
  have w:=u8wrap (z:=(n:Int)-48) (by omega) (by omega)
  have w2:=i64wrap (x:=(n:Int)-48) (by omega) (by omega)
  simp[go_sem,c1I,c2I,w,w2]
  exact hF _ (by rw[if_pos c1])
 ·by_cases c2:97≤n∧n≤102
  ·have c1I:(97:Int)≤n:=by omega
   have c0I:(48:Int)≤n:=by omega
   have c3I:¬(n:Int)≤57:=by omega
   have c2I:(n:Int)≤102:=by omega
   have w:=u8wrap (z:=(n:Int)-97) (by omega) (by omega)
   have w2:=i64wrap (x:=(n:Int)-97) (by omega) (by omega)
   have w3:=i64wrap (x:=(n:Int)-97+10) (by omega) (by omega)
   simp[go_sem,c0I,c1I,c2I,c3I,w,w2,w3]
   exact hF _ (by rw[if_neg c1,if_pos c2])
  ·have hE:=hF (-1) (by rw[if_neg c1,if_neg c2])
   by_cases d1:(48:Int)≤n
   ·have d2:¬(n:Int)≤57:=by omega
    by_cases d3:(97:Int)≤n
    ·have d4:¬(n:Int)≤102:=by omega
     simp[go_sem,d1,d2,d3,d4]
     exact hE
    ·simp[go_sem,d1,d2,d3]
     exact hE
   ·have d3:¬(97:Int)≤n:=by omega
    simp[go_sem,d1,d3]
    exact hE
def isB (s:ByteArray):Bool:=decide (s.size=16∧∀i,(h:i<s.size)→hexN (s[i]).toNat=true)
theorem is_c (s:ByteArray)(hs:s.size≤1000000000):Ret Tryz.prog cx 52 [.bs s] (.bool (isB s)):=by
 refine Ret.mk fun h nx R hR=>ACall_mk (sz:=22) (rs:=[.tmp 2]) cxok ft52 rfl rfl rfl (by simp) ?_
 have hF:∀b,b=isB s→R (.bool b) h nx:=fun z e=>hR _ _ _ (Ext.refl _ _) (Fz.eq rfl (by rw[e]))
 have hF':=Lib.hid hF
 clear hF hR
 simp[go_sem]
 refine AW_rounds (fun mm st=>∃tm k,st=.mk tm h nx []∧mm=16-k∧k≤16∧k≤s.size∧tm.get 0=some (.bs s)∧tm.get 3=some (.int .i64 (k:Int))∧RowKit.Hid (∀i,(h:i<s.size)→i<k→hexN (s[i]).toNat=true)) ⟨16,_,0,rfl,rfl,by omega,by omega,?_⟩ ?_
 ·simp[go_sem]
  exact Lib.hid trivial
 ·rintro mm st ⟨tm,k,rfl,rfl,hk,hk2,t0,t3,hv⟩ J hJ
  refine aw_ok cxok _ ?_
  by_cases c1:k<s.size
  ·by_cases c2:k<16
   ·have c2I:(k:Int)<16:=by omega
    have hb:(s[k]).toNat<256:=(s[k]).toNat_lt
    simp[go_sem,t0,t3,c1,c2I]
    refine Ret.use (digit_c _ hb) ?_
    by_cases c3:digV (s[k]).toNat<0
    ·simp[go_sem,goOn_some,c3]
     refine hF'.out _ ?_
     rw[digV_neg]at c3
     unfold isB
     symm
     rw[decide_eq_false_iff_not]
     rintro⟨_,q⟩
     rw[q k c1]at c3
     cases c3
    ·simp[go_sem,goOn_some,c3,t0,t3]
     refine hJ (16-(k+1)) _ (by omega) ⟨_,k+1,rfl,rfl,by omega,by omega,?_⟩
     simp(disch:=omega) [go_sem,t0,t3,i64wrap]
     refine Lib.hid fun i h1 h2=>?_
     by_cases e:i=k
     ·subst e
      rw[digV_neg]at c3
      simpa using c3
     ·exact hv.out i h1 (by omega)
   ·have c2I:¬(k:Int)<16:=by omega
    have c4I:¬(s.size:Int)=16:=by omega
    simp[go_sem,t0,t3,c1,c2I,c4I]
    refine hF'.out _ ?_
    unfold isB
    symm
    rw[decide_eq_false_iff_not]
    rintro⟨q,_⟩
    omega
  ·simp[go_sem,t0,t3,c1]
   refine hF'.out _ ?_
   unfold isB
   have e:k=s.size:=by omega
   subst e
   rw[Bool.eq_iff_iff]
   simp only[decide_eq_true_eq]
   exact⟨fun q=>⟨by omega,fun i h1=>hv.out i h1 h1⟩,fun q=>by omega⟩
def letN (n:Nat):Bool:=decide ((97≤n∧n≤122)∨(65≤n∧n≤90))
def wrdN (i n:Nat):Bool:=letN n || (decide (i≠0) && decide (n=95∨(48≤n∧n≤57)))
def rnmB (s:ByteArray):Bool:=decide ((0<s.size∧s.size≤24)∧∀i,(h:i<s.size)→wrdN i (s[i]).toNat=true)
set_option maxHeartbeats 1000000 in
theorem rname_c (s:ByteArray)(hs:s.size≤1000000000):Ret Tryz.prog cx 53 [.bs s] (.bool (rnmB s)):=by
 refine Ret.mk fun h nx R hR=>ACall_mk (sz:=65) (rs:=[.tmp 2]) cxok ft53 rfl rfl rfl (by simp) ?_
 have hF:∀b,b=rnmB s→R (.bool b) h nx:=fun z e=>hR _ _ _ (Ext.refl _ _) (Fz.eq rfl (by rw[e]))
 have hF':=Lib.hid hF
 clear hF hR
 simp[go_sem]
 refine AW_rounds (fun mm st=>∃tm k,st=.mk tm h nx []∧mm=s.size-k∧k≤s.size∧tm.get 0=some (.bs s)∧tm.get 3=some (.int .i64 (k:Int))∧RowKit.Hid (∀i,(h:i<s.size)→i<k→wrdN i (s[i]).toNat=true)) ⟨s.size,_,0,rfl,rfl,by omega,?_⟩ ?_
 ·simp[go_sem]
  exact Lib.hid trivial
 ·rintro mm st ⟨tm,k,rfl,rfl,hk,t0,t3,hv⟩ J hJ
  refine aw_ok cxok _ ?_
  by_cases c1:k<s.size
  ·have hb:(s[k]).toNat<256:=(s[k]).toNat_lt
   have hno:wrdN k (s[k]).toNat=false→R (.bool false) h nx:=fun e=>hF'.out _ (by
    unfold rnmB
    symm
    rw[decide_eq_false_iff_not]
    rintro⟨_,q⟩
    rw[q k c1]at e
    cases e)
   have hgo:∀tm',wrdN k (s[k]).toNat=true→tm'.get 0=some (.bs s)→tm'.get 3=some (.int .i64 ((k:Int)+1))→J (.mk tm' h nx []):=fun tm' e g0 g3=>
    hJ (s.size-(k+1)) _ (by omega) ⟨tm',k+1,rfl,rfl,by omega,g0,by rw[g3];rfl,Lib.hid fun i h1 h2=>by
     by_cases e2:i=k
     ·subst e2;exact e
     ·exact hv.out i h1 (by omega)⟩
   have hno':=Lib.hid hno
   have hgo':=Lib.hid hgo
   clear hno hgo hJ hF'
   have wI:IntKind.i64.wrap ((k:Int)+1)=(k:Int)+1:=i64wrap _ (by omega) (by omega)
   generalize hn:(s[k]).toNat=n at hb hno' hgo'
   have letT:∀{p:Prop},letN n=true→wrdN k n=true:=fun e=>by unfold wrdN;rw[e];rfl
   by_cases l:letN n=true
   ·have hw:wrdN k n=true:=by unfold wrdN;rw[l];rfl
    have hg:=fun tm' g0 g3=>hgo'.out tm' hw g0 g3
    clear hgo' hno' letT
    unfold letN at l
    rw[decide_eq_true_eq]at l
    by_cases a1:(97:Int)≤n
    ·have a2:(n:Int)≤122:=by omega
     simp[go_sem,t0,t3,c1,hn,a1,a2,wI]
     exact hg _ (by simp[go_sem,t0]) (by simp[go_sem,t3,wI])
    ·have a3:(65:Int)≤n:=by omega
     have a4:(n:Int)≤90:=by omega
     simp[go_sem,t0,t3,c1,hn,a1,a3,a4,wI]
     exact hg _ (by simp[go_sem,t0]) (by simp[go_sem,t3,wI])
   ·have hw:wrdN k n=(decide (k≠0) && decide (n=95∨(48≤n∧n≤57))):=by
     unfold wrdN
     have:letN n=false:=by simpa using l
     rw[this]
     rfl
    clear letT
    unfold letN at l
    rw[decide_eq_true_eq]at l
    have hcut:(∀R:Prop,((97:Int)≤n→¬(n:Int)≤122→(65:Int)≤n→¬(n:Int)≤90→R)→(¬(97:Int)≤n→(65:Int)≤n→¬(n:Int)≤90→R)→(¬(97:Int)≤n→¬(65:Int)≤n→R)→R):=fun R q1 q2 q3=>by
     by_cases a1:(97:Int)≤n
     ·exact q1 a1 (by omega) (by omega) (by omega)
     ·by_cases a2:(65:Int)≤n
      ·exact q2 a1 a2 (by omega)
      ·exact q3 a1 a2
    by_cases k0:k=0
    ·subst k0
     have hno:=hno'.out (by rw[hw];rfl)
     clear hno' hgo'
     refine hcut _ (fun a1 a2 a3 a4=>?_) (fun a1 a2 a3=>?_) fun a1 a2=>?_
     ·simp[go_sem,t0,t3,c1,hn,a1,a2,a3,a4,wI]
      exact hno
     ·simp[go_sem,t0,t3,c1,hn,a1,a2,a3,wI]
      exact hno
     ·simp[go_sem,t0,t3,c1,hn,a1,a2,wI]
      exact hno
    ·have k0I:¬(k:Int)=0:=by omega
     by_cases d1:n=95
     ·have d1I:(n:Int)=95:=by omega
      have hg:=fun tm' g0 g3=>hgo'.out tm' (by rw[hw];simp[k0,d1]) g0 g3
      clear hno' hgo'
      refine hcut _ (fun a1 a2 a3 a4=>?_) (fun a1 a2 a3=>?_) fun a1 a2=>?_
      ·omega
      ·simp[go_sem,t0,t3,c1,hn,k0,k0I,d1,d1I,a1,a2,a3,wI]
       exact hg _ (by simp[go_sem,t0]) (by simp[go_sem,t3,wI])
      ·omega
     ·have d1I:¬(n:Int)=95:=by omega
      by_cases d2:48≤n∧n≤57
      ·have hg:=fun tm' g0 g3=>hgo'.out tm' (by rw[hw];simp[k0,d2.1,d2.2]) g0 g3
       clear hno' hgo'
       have a1:¬(97:Int)≤n:=by omega
       have a2:¬(65:Int)≤n:=by omega
       have a3:¬(n:Int)<48:=by omega
       have a4:¬(57:Int)<n:=by omega
       simp[go_sem,t0,t3,c1,hn,k0,k0I,d1,d1I,a1,a2,a3,a4,wI]
       exact hg _ (by simp[go_sem,t0]) (by simp[go_sem,t3,wI])
      ·have hno:=hno'.out (by rw[hw];simp only[decide_eq_false_iff_not.2 (show ¬(n=95∨(48≤n∧n≤57)) by omega),Bool.and_false])
       clear hno' hgo'
       refine hcut _ (fun a1 a2 a3 a4=>?_) (fun a1 a2 a3=>?_) fun a1 a2=>?_
       ·have b1:¬(n:Int)<48:=by omega
        have b2:(57:Int)<n:=by omega
        simp[go_sem,t0,t3,c1,hn,k0,k0I,d1,d1I,a1,a2,a3,a4,b1,b2,wI]
        exact hno
       ·have b1:¬(n:Int)<48:=by omega
        have b2:(57:Int)<n:=by omega
        simp[go_sem,t0,t3,c1,hn,k0,k0I,d1,d1I,a1,a2,a3,b1,b2,wI]
        exact hno
       ·by_cases b1:(n:Int)<48
        ·simp[go_sem,t0,t3,c1,hn,k0,k0I,d1,d1I,a1,a2,b1,wI]
         exact hno
        ·have b2:(57:Int)<n:=by omega
         simp[go_sem,t0,t3,c1,hn,k0,k0I,d1,d1I,a1,a2,b1,b2,wI]
         exact hno
  ·have hE:∀b,b=decide (0<s.size∧s.size≤24)→b=rnmB s:=fun b e=>by
    rw[e]
    unfold rnmB
    rw[Bool.eq_iff_iff]
    simp only[decide_eq_true_eq]
    exact⟨fun q=>⟨q,fun i h1=>hv.out i h1 (by omega)⟩,fun q=>q.1⟩
   by_cases z:0<s.size
   ·simp[go_sem,t0,t3,c1,z]
    refine hF'.out _ (hE _ ?_)
    rw[Bool.eq_iff_iff]
    simp only[decide_eq_true_eq]
    omega
   ·simp[go_sem,t0,t3,c1,z]
    refine hF'.out _ (hE _ ?_)
    symm
    rw[decide_eq_false_iff_not]
    omega
def encB (l:List ByteArray):List AV:=l.map .bs
@[go_sem] theorem encB_len (l:List ByteArray):(encB l).length=l.length:=by simp[encB]
@[go_sem] theorem encB_at (l:List ByteArray) (k:Nat)(hk:k<(encB l).length):(encB l)[k]=.bs (l[k]'(by simpa[encB]using hk)):=by simp[encB]
def namesB (l:List ByteArray):Bool:=l.all rnmB
theorem named_c (full:Bool)(l:List ByteArray)(hl:l.length≤1000000000)(hs:∀s∈l,s.size≤1000000000):Ret Tryz.prog cx 54 [.fz 1 full (encB l)] (.bool (namesB l)):=by
 refine Ret.mk fun h nx R hR=>ACall_mk (sz:=16) (rs:=[.tmp 2]) cxok ft54 rfl rfl rfl (by simp) ?_
 have hF:∀b g ny,Ext nx h g→b=namesB l→R (.bool b) g ny:=fun z g ny hE e=>hR _ _ _ hE (Fz.eq rfl (by rw[e]))
 have hF':=Lib.hid hF
 clear hF hR
 simp[go_sem]
 refine AW_rounds (fun mm st=>∃tm k g ny,st=.mk tm g ny []∧mm=l.length-k∧k≤l.length∧tm.get 0=some (.fz 1 full (encB l))∧tm.get 3=some (.int .i64 (k:Int))∧Ext nx h g∧RowKit.Hid (∀i,(h:i<l.length)→i<k→rnmB l[i]=true)) ⟨l.length,_,0,_,_,rfl,rfl,by omega,?_⟩ ?_
 ·simp[go_sem]
  exact⟨Ext.refl _ _,Lib.hid trivial⟩
 ·rintro mm st ⟨tm,k,g,ny,rfl,rfl,hk,t0,t3,hE,hv⟩ J hJ
  refine aw_ok cxok _ ?_
  by_cases c1:k<l.length
  ·simp[go_sem,t0,t3,c1]
   refine Ret.use (rname_c _ (hs _ (List.getElem_mem _))) ?_
   by_cases c2:rnmB l[k]=true
   ·simp[go_sem,goOn_some,c2,t0,t3]
    refine hJ (l.length-(k+1)) _ (by omega) ⟨_,k+1,_,_,rfl,rfl,by omega,?_⟩
    simp(disch:=omega) [go_sem,t0,t3,i64wrap]
    refine⟨hE,Lib.hid fun i h1 h2=>?_⟩
    by_cases e:i=k
    ·subst e;exact c2
    ·exact hv.out i h1 (by omega)
   ·simp[go_sem,goOn_some,c2]
    refine hF'.out _ _ _ hE ?_
    symm
    unfold namesB
    rw[Bool.eq_false_iff]
    intro q
    rw[List.all_eq_true]at q
    exact c2 (q _ (List.getElem_mem _))
  ·simp[go_sem,t0,t3,c1]
   refine hF'.out _ _ _ hE ?_
   symm
   unfold namesB
   rw[List.all_eq_true]
   intro x hx
   obtain⟨i,h1,rfl⟩:=List.getElem_of_mem hx
   exact hv.out i h1 (by omega)
end
end Go.Ev
namespace Go.Ev
open Go.Proofs
noncomputable section
attribute [-go_sem] pPick lookRes
@[go_sem] theorem evIndexAddr_arr_ip (n0:Nat)(e:TypeId) (size b:Nat)(z:Option AV) (x:Nat) (s:Nat)(y:Bool)(fs:List (Nat×Nat×Bool))(cs:List AV)(k:IntKind) (n:Nat)(h:Tr ABlk) (nx:Nat)(hn:n<n0):
  evIndexAddr (.mk (.array n0 e) size b z ((x,s,y)::fs)) (.ip cs) (.int k (n:Int)) h nx=.val (.ip (cs.drop (n * s))) h nx:=by
 simp[evIndexAddr,idx_nat,nble,Nat.succ_le_of_lt hn]
theorem ft137:cx.ft.get 137=some Tryz.f137:=cxS_ft (by decide) (by kernel_rfl)
def clsE (cls:Nat→Int):List AV:=(List.range 256).map fun b=>.int .u8 (cls b)
theorem clsE_drop (cls:Nat→Int) (b:Nat)(hb:b<256):(clsE cls).drop b=.int .u8 (cls b)::(clsE cls).drop (b+1):=by
 have hl:b<(clsE cls).length:=by simp[clsE];exact hb
 rw[List.drop_eq_getElem_cons hl]
 simp[clsE]
def clsAt (cls:Nat→Int)(s:ByteArray) (i:Nat):Int:=if h:i<s.size then cls (s[i]).toNat else 0
theorem class_c (cls:Nat→Int)(s:ByteArray) (i:Nat):Ret Tryz.prog cx 137 [.int .i64 (i:Int),.ip [.bs s],.ip (clsE cls)] (.int .u8 (clsAt cls s i)):=by
 refine Ret.mk fun h nx R hR=>ACall_mk (sz:=14) (rs:=[.tmp 4]) cxok ft137 rfl rfl rfl (by simp) ?_
 by_cases c1:i<s.size
 ·have n1:¬s.size≤i:=by omega
  have hc:clsAt cls s i=cls (s[i]).toNat:=by rw[clsAt,dif_pos c1]
  rw[hc]at hR
  have hb:(s[i]).toNat<256:=(s[i]).toNat_lt
  generalize hx:(s[i]).toNat=x at hR hb
  have hd:=clsE_drop cls x hb
  simp[go_sem,c1,n1,hx,hb,hd]
  exact hR _ _ _ (Ext.refl _ _) (Fz.eq rfl rfl)
 ·have n1:s.size≤i:=by omega
  simp[go_sem,n1]
  exact hR _ _ _ (Ext.refl _ _) (Fz.eq rfl (by simp[clsAt,c1]))
end
end Go.Ev
