/- Texts O3 O4 O5. -/
import Derived.Laws.IdiomStrings
import Derived.Laws.MakeOwn
import Derived.Test.YtkdnmldmffkkoaaGreatDoorP01
set_option linter.unusedSimpArgs false
set_option linter.unusedVariables false
set_option maxRecDepth 100000
namespace Go.Ev
variable {P : Program} {G : Gl} {σ τ υ : Sg} {h g f : Tr ABlk} {nx ny nz : Nat} {w x y : World}
noncomputable section
theorem TF.size {t:TypeId}{s:Nat}{b:Bool}(ht:TF P t s b)(w:World):(sizeOf t).run P w=.ok s w:=by
 obtain⟨⟨i,hi,hs⟩,_⟩:=ht
 rw[zem hi,hs]
theorem TF.agg {t:TypeId}{s:Nat}{b:Bool}(ht:TF P t s b)(w:World):(isAgg t).run P w=.ok b w:=by
 obtain⟨_,d,hd,hb⟩:=ht
 rw[zmn hd,hb]
def zif (ti:TI)(a:AV) (k:Nat)(h:Tr ABlk) (nx:Nat):R:=
 match ti with
 |.mk d _ _ _ fs=>match d with
  |.struct _=>match fs[k]? with
   |some (o,s,_)=>match Nat.beq s 0 with
    |true=>.fail
    |false=>match a with
     |.ptr i p=>fN (Nat.add p o) fun q=>.val (.ptr i q) h nx
     |.ip cs=>.val (.ip (cs.drop o)) h nx
     |_=>.fail
   |none=>.fail
  |_=>.fail
theorem Rel.ip_drop {cs:List AV}{b p:Nat}(ha:Rel σ (.ip cs) (.pointer (some ⟨b,p,none⟩))) (o:Nat):Rel σ (.ip (cs.drop o)) (.pointer (some ⟨b,p+o,none⟩)):=by
 simp only[Rel]at ha ⊢
 obtain⟨b',o',C,L,e,h1,h2,h3⟩:=ha
 cases e
 refine⟨b,p+o,C,L.drop o,rfl,h1,h2.drop o,?_⟩
 have e3:=congrArg (List.drop o) h3
 rw[List.drop_take,List.drop_drop]at e3
 rw[List.length_drop]
 exact e3
theorem zau.get {es:Nat}:∀{L D:List Value}{n:Nat}{X:Value},zau es L D→L[n]?=some X→X.cells.toList=(D.drop (n * es)).take es∧X.cells.size=es
 |[],D,n,X,_,hn=>by simp at hn
 |Y::L,D,0,X,h,hn=>by
  simp at hn
  subst hn
  simp only[zau]at h
  simpa using ⟨h.1,h.2.1⟩
 |Y::L,D,n+1,X,h,hn=>by
  simp only[zau]at h
  have:=zau.get h.2.2 (by simpa using hn)
  rw[List.drop_drop]at this
  rw[show (n+1) * es=es+n * es by rw[Nat.succ_mul,Nat.add_comm]]
  exact this
theorem Rel.fz_at {es n:Nat}{full:Bool}{xs:List AV}{x:AV}{A:Value}(ha:Rel σ (.fz es full xs) A)(hn:xs[n]?=some x):
  ∃b o cap,A=.slice (some ⟨b,o,none⟩) xs.length cap∧Rel σ (.ip x.cells) (.pointer (some ⟨b,o+n * es,none⟩)):=by
 simp only[Rel]at ha
 obtain⟨a,cap,e,h1,h2,h4,h3⟩:=ha
 have hlt:n<xs.length:=(List.getElem?_eq_some_iff.1 hn).1
 obtain⟨b,o,C,L,e1,i1,i2,i3⟩:=h3 (by omega)
 subst e1
 refine⟨b,o,cap,e,?_⟩
 obtain⟨X,hX,hr⟩:=i2.get hn
 obtain⟨c1,c2⟩:=i3.get hX
 simp only[Rel]
 refine⟨b,o+n * es,C,X.cells.toList,rfl,i1,hr.cells,?_⟩
 rw[List.drop_drop]at c1
 rw[Array.length_toList,c2]
 exact c1
theorem zHc (hk:Ok G σ h nx w)(t:TypeId){ti:TI}(ht:zav P t ti){a:AV}{A:Value}(ha:Rel σ a A) (k:Nat):RV P G σ h nx w (Instr.fieldAt t A k) (zif ti a k h nx):=by
 cases ti with
 |mk d size bytes zero fs=>
 obtain⟨hu,inf,hi,hs,hby,hzz,hf,hfl0,hel⟩:=ht
 unfold zif
 cases d <;> try trivial
 rename_i fields
 simp only
 split
 ·rename_i o s b hfk
  obtain⟨fl,hfl,ho,htf⟩:=hf fields rfl k o s b hfk
  cases e0:Nat.beq s 0 with
  |true=>trivial
  |false=>
   have hs0:¬s=0:=fun e=>by subst e;simp at e0
   cases a <;> try trivial
   case ip cs=>
    have ha':=ha
    simp only[Rel]at ha'
    obtain⟨bb,p,_,_,e,_⟩:=ha'
    subst e
    refine SV.pure hk (V:=.pointer (some ⟨bb,p+o,none⟩)) ?_ (ha.ip_drop o)
    simp[Instr.fieldAt,run_underlying hu,hfl,Instr.sureAddr,fieldPlace,htf.size,hs0,ho,zcm]
   rename_i i p
   simp only[Rel]at ha
   obtain⟨bb,hb,e⟩:=ha
   subst e
   simp only[fN_eq]
   refine SV.pure hk (V:=.pointer (some ⟨bb,p+o,none⟩)) ?_ ?_
   ·simp[Instr.fieldAt,run_underlying hu,hfl,Instr.sureAddr,fieldPlace,htf.size,hs0,ho,zcm]
   ·simp only[Rel];exact⟨bb,hb,rfl⟩
 ·trivial
def zkx (l:List AV) (o s:Nat)(b:Bool):Option AV:=
 match b with
 |true=>match Nat.ble (Nat.add o s) l.length with
  |true=>some (.agg ((l.drop o).take s))
  |false=>none
 |false=>l[o]?
theorem zzq {t:TypeId}{s:Nat}{b:Bool}(ht:TF P t s b){l:List AV}{L:List Value}(hl:za1 σ l L){o:Nat}{v:AV}(hp:zkx l o s b=some v)(w:World):
  ∃V,(part t L.toArray o).run P w=.ok V w∧Rel σ v V:=by
 unfold zkx at hp
 cases b with
 |false=>
  simp only at hp
  obtain⟨V,h1,h2⟩:=hl.get hp
  exact⟨V,by simp[part,ht.agg,h1],h2⟩
 |true=>
  simp only at hp
  split at hp
  ·rename_i hle
   have hle':o+s≤l.length:=Nat.le_of_ble_eq_true hle
   cases hp
   refine⟨.agg ((L.drop o).take s).toArray,?_,?_⟩
   ·simp[part,ht.agg,ht.size]
   ·simp only[Rel]
    refine⟨_,rfl,za1.of_get (by simp[hl.length]) fun k v V h1 h2=>?_⟩
    have hks:k<s:=by
     rcases Nat.lt_or_ge k s with h3 |h3
     ·exact h3
     ·rw[List.getElem?_eq_none (by simp;omega)]at h1;cases h1
    rw[List.getElem?_take_of_lt hks,List.getElem?_drop]at h1 h2
    obtain⟨V',e1,e2⟩:=hl.get h1
    rw[h2]at e1
    cases e1
    exact e2
  ·cases hp
def zim (ti:TI)(a:AV) (k:Nat)(h:Tr ABlk) (nx:Nat):R:=
 match ti with
 |.mk d _ _ _ fs=>match d with
  |.struct _=>match fs[k]? with
   |some (o,s,b)=>match a with
    |.agg l=>match zkx l o s b with
     |some v=>.val v h nx
     |none=>.fail
    |_=>.fail
   |none=>.fail
  |_=>.fail
theorem zNh (hk:Ok G σ h nx w)(t:TypeId){ti:TI}(ht:zav P t ti){a:AV}{A:Value}(ha:Rel σ a A) (k:Nat):RV P G σ h nx w (Instr.field t A k) (zim ti a k h nx):=by
 cases ti with
 |mk d size bytes zero fs=>
 obtain⟨hu,inf,hi,hs,hby,hzz,hf,hfl0,hel⟩:=ht
 unfold zim
 cases d <;> try trivial
 rename_i fields
 simp only
 split
 ·rename_i o s b hfk
  obtain⟨fl,hfl,ho,htf⟩:=hf fields rfl k o s b hfk
  cases a <;> try trivial
  rename_i l
  simp only[Rel]at ha
  obtain⟨L,e,hl⟩:=ha
  subst e
  simp only
  cases hp:zkx l o s b with
  |none=>trivial
  |some v=>
   obtain⟨V,hV,hr⟩:=zzq htf hl hp w
   refine SV.pure hk (V:=V) ?_ hr
   simp[Instr.field,run_underlying hu,hfl,asAgg,ho,hV]
 ·trivial
def idx:AV→Option Nat
 |.int _ (.ofNat n)=>some n
 |_=>none
theorem zkt {v:AV}{V:Value}{n:Nat}(hv:Rel σ v V)(hi:idx v=some n):∃k,V=.int k (n:Int):=by
 cases v <;> try (simp[idx]at hi;done)
 rename_i k m
 cases m with
 |negSucc m=>simp[idx]at hi
 |ofNat m=>
  simp only[idx,Option.some.injEq]at hi
  subst hi
  simp only[Rel]at hv
  exact⟨k,hv⟩
def zd3 (ti:TI)(a ix:AV)(h:Tr ABlk) (nx:Nat):R:=
 match ti with
 |.mk d _ _ _ fs=>match idx ix with
  |none=>.fail
  |some n=>match fs with
   |[]=>.fail
   |(_,s,_)::_=>match d with
    |.slice _=>match a with
     |.sl i o l _ _=>match Nat.ble (Nat.succ n) l with
      |true=>fN (Nat.add o (Nat.mul n s)) fun q=>.val (.ptr i q) h nx
      |false=>.fail
     |.fz es _ xs=>match Nat.beq es s with
      |true=>match xs[n]? with
       |some x=>.val (.ip x.cells) h nx
       |none=>.fail
      |false=>.fail
     |_=>.fail
    |.array l _=>match a with
     |.ptr i o=>match Nat.ble (Nat.succ n) l with
      |true=>fN (Nat.add o (Nat.mul n s)) fun q=>.val (.ptr i q) h nx
      |false=>.fail
     |.ip cs=>match Nat.ble (Nat.succ n) l with
      |true=>.val (.ip (cs.drop (Nat.mul n s))) h nx
      |false=>.fail
     |_=>.fail
    |_=>.fail
theorem zM6 (hk:Ok G σ h nx w)(t:TypeId){ti:TI}(ht:zav P t ti){a ix:AV}{A I:Value}(ha:Rel σ a A)(hix:Rel σ ix I):RV P G σ h nx w (Instr.indexAt t A I) (zd3 ti a ix h nx):=by
 cases ti with
 |mk d size bytes zero fs=>
 obtain⟨hu,inf,hi,hs,hby,hzz,hff,hfl0,he⟩:=ht
 unfold zd3
 simp only
 cases hn:idx ix with
 |none=>trivial
 |some n=>
 obtain⟨k,e⟩:=zkt hix hn
 subst e
 cases fs with
 |nil=>trivial
 |cons p fs=>
 obtain⟨o0,s,b0⟩:=p
 cases d <;> try trivial
 ·rename_i elem
  have htf:=he elem (.inl rfl) o0 s b0 rfl
  cases a <;> try trivial
  case fz es full xs=>
   simp only
   cases hes:Nat.beq es s with
   |false=>trivial
   |true=>
    simp only
    cases hx:xs[n]? with
    |none=>trivial
    |some x=>
     have hes':=Nat.eq_of_beq_eq_true hes
     subst hes'
     obtain⟨b,o,cap,e,hr⟩:=ha.fz_at hx
     subst e
     have hlt:n<xs.length:=(List.getElem?_eq_some_iff.1 hx).1
     refine SV.pure hk (V:=.pointer (some ⟨b,o+n * es,none⟩)) ?_ hr
     have h1:(0:Int)≤n∧(n:Int)<xs.length:=by omega
     simp[Instr.indexAt,asIntOf,run_underlying hu,h1,htf.size,zcm,hlt]
  rename_i i o l c opn
  simp only[Rel]at ha
  obtain⟨bb,hb,e,_⟩:=ha
  subst e
  simp only
  cases hle:Nat.ble (Nat.succ n) l with
  |false=>trivial
  |true=>
   have hlt:n<l:=Nat.le_of_ble_eq_true hle
   simp only[fN_eq]
   refine SV.pure hk (V:=.pointer (some ⟨bb,o+n * s,none⟩)) ?_ ?_
   ·have h1:(0:Int)≤n∧(n:Int)<l:=by omega
    simp[Instr.indexAt,asIntOf,run_underlying hu,h1,htf.size,zcm,hlt]
   ·simp only[Rel];exact⟨bb,hb,rfl⟩
 ·rename_i l elem
  have htf:=he elem (.inr (.inl ⟨l,rfl⟩)) o0 s b0 rfl
  cases a <;> try trivial
  case ip cs=>
   simp only
   cases hle:Nat.ble (Nat.succ n) l with
   |false=>trivial
   |true=>
    have hlt:n<l:=Nat.le_of_ble_eq_true hle
    have ha':=ha
    simp only[Rel]at ha'
    obtain⟨bb,p,_,_,e,_⟩:=ha'
    subst e
    refine SV.pure hk (V:=.pointer (some ⟨bb,p+n * s,none⟩)) ?_ (ha.ip_drop _)
    have h1:(0:Int)≤n∧(n:Int)<l:=by omega
    simp[Instr.indexAt,asIntOf,run_underlying hu,Instr.sureAddr,h1,htf.size,zcm,hlt]
  rename_i i o
  simp only[Rel]at ha
  obtain⟨bb,hb,e⟩:=ha
  subst e
  simp only
  cases hle:Nat.ble (Nat.succ n) l with
  |false=>trivial
  |true=>
   have hlt:n<l:=Nat.le_of_ble_eq_true hle
   simp only[fN_eq]
   refine SV.pure hk (V:=.pointer (some ⟨bb,o+n * s,none⟩)) ?_ ?_
   ·have h1:(0:Int)≤n∧(n:Int)<l:=by omega
    simp[Instr.indexAt,asIntOf,run_underlying hu,Instr.sureAddr,h1,htf.size,zcm,hlt]
   ·simp only[Rel];exact⟨bb,hb,rfl⟩
def zh4 (ti:TI)(a ix:AV)(h:Tr ABlk) (nx:Nat):R:=
 match ti with
 |.mk d _ _ _ fs=>match idx ix with
  |none=>.fail
  |some n=>match d with
   |.string=>match a with
    |.str l m=>match Nat.ble (Nat.succ n) l with
     |true=>fN (Nat.mod (Nat.div m (Nat.pow 256 n)) 256) fun z=>.val (.int .u8 (Int.ofNat z)) h nx
     |false=>.fail
    |.bs b=>match b[n]? with
     |some c=>.val (.int .u8 (Int.ofNat c.toNat)) h nx
     |none=>.fail
    |_=>.fail
   |.array len _=>match fs with
    |[]=>.fail
    |(_,s,b)::_=>match a with
     |.agg l=>match Nat.ble (Nat.succ n) len with
      |true=>match zkx l (Nat.mul n s) s b with
       |some v=>.val v h nx
       |none=>.fail
      |false=>.fail
     |_=>.fail
   |_=>.fail
theorem zSs (hk:Ok G σ h nx w)(t:TypeId){ti:TI}(ht:zav P t ti){a ix:AV}{A I:Value}(ha:Rel σ a A)(hix:Rel σ ix I):RV P G σ h nx w (Instr.index t A I) (zh4 ti a ix h nx):=by
 cases ti with
 |mk d size bytes zero fs=>
 obtain⟨hu,inf,hi,hs,hby,hzz,hff,hfl0,he⟩:=ht
 unfold zh4
 simp only
 cases hn:idx ix with
 |none=>trivial
 |some n=>
 obtain⟨k,e⟩:=zkt hix hn
 subst e
 cases d <;> try trivial
 ·cases a <;> try trivial
  case bs b=>
   simp only[Rel]at ha
   subst ha
   simp only
   cases hb:b[n]? with
   |none=>trivial
   |some z=>
    refine SV.pure hk (V:=.int .u8 (Int.ofNat z.toNat)) ?_ (by simp only[Rel])
    have h1:(0:Int)≤n:=by omega
    simp[Instr.index,asIntOf,run_underlying hu,hb]
  rename_i l m
  simp only[Rel]at ha
  obtain⟨hm,e⟩:=ha
  subst e
  simp only
  cases hle:Nat.ble (Nat.succ n) l with
  |false=>trivial
  |true=>
   have hlt:n<l:=Nat.le_of_ble_eq_true hle
   simp only[fN_eq]
   refine SV.pure hk (V:=.int .u8 (Int.ofNat (m / 256 ^ n % 256))) ?_ ?_
   ·have h1:(0:Int)≤n:=by omega
    have h2:(UInt8.ofNat (m / 256 ^ n % 256)).toNat=m / 256 ^ n % 256:=u8 (Nat.mod_lt _ (by decide))
    simp[Instr.index,asIntOf,run_underlying hu,zI8 hlt,h2]
   ·simp only[Rel];rfl
 ·rename_i len elem
  cases fs with
  |nil=>trivial
  |cons p fs=>
  obtain⟨o0,s,b0⟩:=p
  have htf:=he elem (.inr (.inl ⟨len,rfl⟩)) o0 s b0 rfl
  cases a <;> try trivial
  rename_i l
  simp only[Rel]at ha
  obtain⟨L,e,hl⟩:=ha
  subst e
  simp only
  cases hle:Nat.ble (Nat.succ n) len with
  |false=>trivial
  |true=>
   have hlt:n<len:=Nat.le_of_ble_eq_true hle
   simp only
   cases hp:zkx l (Nat.mul n s) s b0 with
   |none=>trivial
   |some v=>
    obtain⟨V,hV,hr⟩:=zzq htf hl hp w
    refine SV.pure hk (V:=V) ?_ hr
    have h1:(0:Int)≤n∧(n:Int)<len:=by omega
    have hV':(part elem L.toArray (n * s)).run P w=.ok V w:=hV
    simp[Instr.index,asIntOf,run_underlying hu,h1,htf.size,hlt,hV']
def ziu (a:AV) (k:Nat)(h:Tr ABlk) (nx:Nat):R:=
 match a with
 |.tup l=>match l[k]? with
  |some v=>.val v h nx
  |none=>.fail
 |_=>.fail
theorem zQ2 (hk:Ok G σ h nx w){a:AV}{A:Value}(ha:Rel σ a A) (k:Nat):RV P G σ h nx w (Instr.extract A k) (ziu a k h nx):=by
 unfold ziu
 cases a <;> try trivial
 rename_i l
 simp only[Rel]at ha
 obtain⟨L,e,hl⟩:=ha
 subst e
 simp only
 cases hv:l[k]? with
 |none=>trivial
 |some v=>
  obtain⟨V,h1,h2⟩:=hl.get hv
  exact SV.pure hk (V:=V) (by simp[Instr.extract,h1]) h2
def zir (ti:TI)(t:TypeId)(v:AV)(h:Tr ABlk) (nx:Nat):R:=
 match ti with
 |.mk d _ _ _ _=>match d with
  |.interface _=>.fail
  |_=>.val (.iface t v) h nx
theorem zJ0 (hk:Ok G σ h nx w)(t:TypeId){ti:TI}(ht:zav P t ti){v:AV}{V:Value}(hv:Rel σ v V):RV P G σ h nx w (Instr.makeInterface t V) (zir ti t v h nx):=by
 cases ti with
 |mk d size bytes zero fs=>
 obtain⟨hu,_⟩:=ht
 have hr:Rel σ (.iface t v) (.iface t V):=by simp only[Rel];exact⟨V,rfl,hv⟩
 unfold zir
 cases d <;> first
  |trivial
  |exact SV.pure hk (V:=.iface t V) (by simp[Instr.makeInterface,run_underlying hu]) hr
def zr0 (h:Tr ABlk) (nx:Nat):R:=
 h.putK (some (.map [] 0)) nx fun h'=>fN (Nat.succ nx) fun nx'=>.val (.map nx) h' nx'
theorem zM1 (hk:Ok G σ h nx w)(t:TypeId):RV P G σ h nx w (Instr.makeMap t none) (zr0 h nx):=by
 simp only[zr0,Tr.putK_eq,fN_eq]
 refine⟨.map (some w.heap.size),_,_,?_,?_,Post.alloc hk 0 (.map [] 0) (.map #[] 0) ?_⟩
 ·simp[Instr.makeMap,newObj,Sem.run]
 ·simp only[Rel];exact⟨w.heap.size,by simp[Sg.add],rfl⟩
 ·simp only[zao]
  exact⟨[],rfl,by simp only[zb4]⟩
def zj4 (cap m:Nat):Option Value→Prop
 |none=>m=cap
 |some V=>(∃k,V=.int k (m:Int))∧m≤cap
def zjn (len hh m:Nat)(MX:Option Value):Option Value→Prop
 |none=>hh=len∧MX=none
 |some V=>(∃k,V=.int k (hh:Int))∧hh≤m
def ziy (l hh:Nat):Option Value→Prop
 |none=>l=0
 |some V=>(∃k,V=.int k (l:Int))∧l≤hh
theorem zhk (zn1:Bool) (len cap:Nat){lo hi mx:Option Value}{l hh m:Nat}
  (hm:zj4 cap m mx) (hhi:zjn len hh m mx hi) (hlo:ziy l hh lo) (w:World):
  (Instr.sliceBounds zn1 len cap lo hi mx).run P w=.ok (l,hh,m) w:=by
 have sb:∀(k:IntKind) (n y:Nat) (c:BoundsCode),n≤y→(Instr.sliceBound (.int k (n:Int)) y c).run P w=.ok n w:=by
  intro k n y c hle
  have h1:(0:Int)≤n∧(n:Int)≤y:=by omega
  simp[Instr.sliceBound,asIntOf,hle]
 unfold Instr.sliceBounds
 cases mx with
 |none=>
  simp only[zj4]at hm
  subst hm
  cases hi with
  |none=>
   simp only[zjn]at hhi
   obtain⟨e,_⟩:=hhi
   subst e
   cases lo with
   |none=>simp only[ziy]at hlo;subst hlo;simp
   |some V=>
    simp only[ziy]at hlo
    obtain⟨⟨k,e⟩,hle⟩:=hlo
    subst e
    simp[sb _ _ _ _ hle]
  |some V=>
   simp only[zjn]at hhi
   obtain⟨⟨k,e⟩,hle⟩:=hhi
   subst e
   cases lo with
   |none=>simp only[ziy]at hlo;subst hlo;simp[sb _ _ _ _ hle]
   |some V=>
    simp only[ziy]at hlo
    obtain⟨⟨k,e⟩,hle2⟩:=hlo
    subst e
    simp[sb _ _ _ _ hle,sb _ _ _ _ hle2]
 |some M=>
  simp only[zj4]at hm
  obtain⟨⟨k0,e⟩,hle0⟩:=hm
  subst e
  cases hi with
  |none=>simp[zjn]at hhi
  |some V=>
   simp only[zjn]at hhi
   obtain⟨⟨k,e⟩,hle⟩:=hhi
   subst e
   cases lo with
   |none=>simp only[ziy]at hlo;subst hlo;simp[sb _ _ _ _ hle,sb _ _ _ _ hle0]
   |some V=>
    simp only[ziy]at hlo
    obtain⟨⟨k,e⟩,hle2⟩:=hlo
    subst e
    simp[sb _ _ _ _ hle,sb _ _ _ _ hle2,sb _ _ _ _ hle0]
def zh6 (d:Nat):Option AV→Option Nat
 |none=>some d
 |some v=>idx v
def zef (σ:Sg):Option AV→Option Value→Prop
 |none,none=>True
 |some v,some V=>Rel σ v V
 |_,_=>False
def zdj (len cap:Nat)(lo hi mx:Option AV):Option (Nat×Nat×Nat):=
 match zh6 cap mx with
 |none=>none
 |some m=>match Nat.ble m cap with
  |false=>none
  |true=>match zh6 len hi with
   |none=>none
   |some hh=>match Nat.ble hh m with
    |false=>none
    |true=>match zh6 0 lo with
     |none=>none
     |some l=>match Nat.ble l hh with
      |false=>none
      |true=>match mx,hi with
       |some _,none=>none
       |_,_=>some (l,hh,m)
theorem zib {len cap:Nat}{lo hi mx:Option AV}{LO HI MX:Option Value}(h1:zef σ lo LO)(h2:zef σ hi HI)(h3:zef σ mx MX){l hh m:Nat}(hb:zdj len cap lo hi mx=some (l,hh,m)):
  l≤hh∧hh≤m∧m≤cap∧(mx=none→m=cap)∧zj4 cap m MX∧zjn len hh m MX HI∧ziy l hh LO:=by
 unfold zdj at hb
 split at hb
 ·cases hb
 ·rename_i m' hm
  split at hb
  ·cases hb
  ·rename_i hble
   have e1:=Nat.le_of_ble_eq_true hble
   split at hb
   ·cases hb
   ·rename_i hh' hhh
    split at hb
    ·cases hb
    ·rename_i hble2
     have e2:=Nat.le_of_ble_eq_true hble2
     split at hb
     ·cases hb
     ·rename_i l' hl
      split at hb
      ·cases hb
      ·rename_i hble3
       have e3:=Nat.le_of_ble_eq_true hble3
       have fin:(l',hh',m')=(l,hh,m)∧¬(mx.isSome=true∧hi=none):=by
        cases mx <;> cases hi <;> first |(cases hb;done) |(cases hb;exact⟨rfl,by simp⟩)
       obtain⟨fin,hno⟩:=fin
       cases fin
       refine⟨e3,e2,e1,?_,?_,?_,?_⟩
       ·intro e;subst e;simpa[zh6]using hm.symm
       ·cases mx <;> cases MX <;> simp only[zef]at h3
        ·simpa[zh6,zj4]using hm.symm
        ·exact⟨zkt h3 (by simpa[zh6]using hm),e1⟩
       ·cases hi <;> cases HI <;> simp only[zef]at h2
        ·refine⟨by simpa[zh6]using hhh.symm,?_⟩
         cases mx with
         |none=>cases MX with |none=>rfl |some V=>simp only[zef]at h3
         |some v=>simp at hno
        ·exact⟨zkt h2 (by simpa[zh6]using hhh),e2⟩
       ·cases lo <;> cases LO <;> simp only[zef]at h1
        ·simpa[zh6,ziy]using hl.symm
        ·exact⟨zkt h1 (by simpa[zh6]using hl),e3⟩
def zix (ti:TI)(a:AV)(lo hi mx:Option AV)(h:Tr ABlk) (nx:Nat):R:=
 match ti with
 |.mk d _ _ _ fs=>match d with
  |.string=>match a with
   |.str len n=>match mx with
    |some _=>.fail
    |none=>match zdj len len lo hi none with
     |some (l,hh,_)=>fN (Nat.sub hh l) fun k=>fN (Nat.mod (Nat.div n (Nat.pow 256 l)) (Nat.pow 256 k)) fun m=>.val (.str k m) h nx
     |none=>.fail
   |.bs b=>match mx with
    |some _=>.fail
    |none=>match zdj b.size b.size lo hi none with
     |some (l,hh,_)=>.val (.bs (b.extract l hh)) h nx
     |none=>.fail
   |_=>.fail
  |.slice _=>match fs with
   |[]=>.fail
   |(_,s,_)::_=>match a with
    |.sl0=>match zdj 0 0 lo hi mx with
     |some (_,_,_)=>.val .sl0 h nx
     |none=>.fail
    |.fz es full xs=>match Nat.beq es s with
     |false=>.fail
     |true=>match mx with
      |some _=>match zdj xs.length xs.length lo hi mx with
       |some (l,hh,m)=>.val (.fz es (Nat.beq hh m) ((xs.drop l).take (Nat.sub hh l))) h nx
       |none=>.fail
      |none=>match zdj xs.length xs.length lo hi none with
       |some (l,hh,_)=>.val (.fz es (match full with |true=>Nat.beq hh xs.length |false=>false) ((xs.drop l).take (Nat.sub hh l))) h nx
       |none=>.fail
    |.sl i o len c false=>match zdj len c lo hi mx with
     |some (l,hh,m)=>fN (Nat.sub hh l) fun k=>fN (Nat.sub m l) fun c'=>match Nat.beq m l with
      |true=>.val (.sl i o k c' false) h nx
      |false=>fN (Nat.add o (Nat.mul l s)) fun o'=>.val (.sl i o' k c' false) h nx
     |none=>.fail
    |.sl i o len c true=>match mx with
     |some _=>match zdj len len lo hi mx with
      |some (l,hh,m)=>fN (Nat.sub hh l) fun k=>fN (Nat.sub m l) fun c'=>match Nat.beq m l with
       |true=>.val (.sl i o k c' false) h nx
       |false=>fN (Nat.add o (Nat.mul l s)) fun o'=>.val (.sl i o' k c' false) h nx
      |none=>.fail
     |none=>match zdj len len lo hi none with
      |some (l,hh,_)=>fN (Nat.sub hh l) fun k=>fN (Nat.add c l) fun c'=>match Nat.beq l 0 with
       |true=>.val (.sl i o k c' true) h nx
       |false=>match Nat.ble (Nat.succ l) len with
        |true=>fN (Nat.add o (Nat.mul l s)) fun o'=>.val (.sl i o' k c' true) h nx
        |false=>.fail
      |none=>.fail
    |_=>.fail
  |.array n _=>match fs with
   |[]=>.fail
   |(_,s,_)::_=>match a with
    |.ptr i o=>match zdj n n lo hi mx with
     |some (l,hh,m)=>fN (Nat.sub hh l) fun k=>fN (Nat.sub m l) fun c'=>match Nat.beq m l with
      |true=>.val (.sl i o k c' false) h nx
      |false=>fN (Nat.add o (Nat.mul l s)) fun o'=>.val (.sl i o' k c' false) h nx
     |none=>.fail
    |_=>.fail
  |_=>.fail
theorem zea {a b:Nat}(e:Nat.beq a b=false):a≠b:=fun e'=>by subst e';simp at e
theorem zau.drop {es:Nat}:∀{L D:List Value}(n:Nat),zau es L D→zau es (L.drop n) (D.drop (n * es))
 |L,D,0,h=>by simpa using h
 |[],D,n+1,h=>by simp[zau]
 |Y::L,D,n+1,h=>by
  simp only[zau]at h
  have:=zau.drop n h.2.2
  rw[List.drop_drop]at this
  rw[show (n+1) * es=es+n * es by rw[Nat.succ_mul,Nat.add_comm]]
  exact this
theorem zau.take {es:Nat}:∀{L D:List Value}(n:Nat),zau es L D→zau es (L.take n) D
 |L,D,0,h=>by simp[zau]
 |[],D,n+1,h=>by simp[zau]
 |Y::L,D,n+1,h=>by
  simp only[zau,List.take_succ_cons]at h ⊢
  exact⟨h.1,h.2.1,h.2.2.take n⟩
theorem Rel.fz_part {es:Nat}{full:Bool}{xs:List AV}{a:Option Addr}{n cap:Nat}(ha:Rel σ (.fz es full xs) (.slice a n cap)){l hh m:Nat}(e1:l≤hh)(e2:hh≤xs.length)(e3:hh≤m)(full':Bool)(hf:full'=true→hh=m)(a':Option Addr)
  (e4:l<hh→a'=a.map (·.add (l * es))) (e5:a'=none→m=l):Rel σ (.fz es full' ((xs.drop l).take (hh-l))) (.slice a' (hh-l) (m-l)):=by
 simp only[Rel]at ha ⊢
 obtain⟨a0,cap0,e,h1,h2,h4,h3⟩:=ha
 cases e
 have hlen:((xs.drop l).take (hh-l)).length=hh-l:=by simp;omega
 refine⟨a',m-l,by rw[hlen],by rw[hlen];omega,fun h=>by rw[hlen,hf h],fun h=>by rw[e5 h];omega,fun h=>?_⟩
 ·rw[hlen]at h
  obtain⟨b,o,C,L,ea,i1,i2,i3⟩:=h3 (by omega)
  subst ea
  have e4:=e4 (by omega)
  simp only[Option.map_some,zcm]at e4
  refine⟨b,o+l * es,C,(L.drop l).take (hh-l),e4,i1,(i2.drop l).take _,?_⟩
  have:=(i3.drop l).take (hh-l)
  rw[List.drop_drop]at this
  exact this
theorem zRi (hk:Ok G σ h nx w)(t:TypeId){ti:TI}(ht:zav P t ti){a:AV}{A:Value}(ha:Rel σ a A){lo hi mx:Option AV}{LO HI MX:Option Value}
  (h1:zef σ lo LO) (h2:zef σ hi HI) (h3:zef σ mx MX):RV P G σ h nx w (Instr.sliceAt t A LO HI MX) (zix ti a lo hi mx h nx):=by
 cases ti with
 |mk d size bytes zero fs=>
 obtain⟨hu,inf,hi',hs,hby,hzz,hff,hfl0,he⟩:=ht
 unfold zix
 cases d <;> try trivial
 ·
  cases a <;> try trivial
  case bs b=>
   simp only[Rel]at ha
   subst ha
   cases mx with
   |some v=>trivial
   |none=>
    simp only
    cases hb:zdj b.size b.size lo hi none with
    |none=>trivial
    |some p=>
     obtain⟨l,hh,m⟩:=p
     obtain⟨e1,e2,e3,e4,q1,q2,q3⟩:=zib h1 h2 h3 hb
     have hmx:MX=none:=by cases MX with |none=>rfl |some V=>simp only[zef]at h3
     subst hmx
     have hsb:=zhk (P:=P) false b.size b.size q1 q2 q3 w
     refine SV.pure hk (V:=.string (b.extract l hh)) ?_ (by simp only[Rel])
     simp[Instr.sliceAt,run_underlying hu,Instr.slice,hsb]
  rename_i len n
  simp only[Rel]at ha
  obtain⟨hn,e⟩:=ha
  subst e
  cases mx with
  |some v=>trivial
  |none=>
   simp only
   cases hb:zdj len len lo hi none with
   |none=>trivial
   |some p=>
    obtain⟨l,hh,m⟩:=p
    obtain⟨e1,e2,e3,e4,q1,q2,q3⟩:=zib h1 h2 h3 hb
    have hmx:MX=none:=by cases MX with |none=>rfl |some V=>simp only[zef]at h3
    subst hmx
    simp only[fN_eq]
    have hsb:=zhk (P:=P) false len len q1 q2 q3 w
    refine SV.pure hk (V:=.string (zai (hh-l) (n / 256 ^ l % 256 ^ (hh-l)))) ?_ ?_
    ·simp[Instr.sliceAt,run_underlying hu,Instr.slice,zgw,hsb,zxa (show hh≤len by omega)]
    ·simp only[Rel]
     exact⟨Nat.mod_lt _ (Nat.pow_pos (by decide)),rfl⟩
 ·
  rename_i elem
  cases fs with
  |nil=>trivial
  |cons p fs=>
  obtain⟨o0,s,b0⟩:=p
  have htf:=he elem (.inl rfl) o0 s b0 rfl
  cases a <;> try trivial
  case fz es full xs=>
   simp only
   cases hes:Nat.beq es s with
   |false=>trivial
   |true=>
    have hes':=Nat.eq_of_beq_eq_true hes
    subst hes'
    have ha':=ha
    simp only[Rel]at ha'
    obtain⟨a,cap,e,g1,g2,g4,_⟩:=ha'
    subst e
    simp only
    cases mx with
    |some v=>
     simp only
     cases hb:zdj xs.length xs.length lo hi (some v) with
     |none=>trivial
     |some p=>
      obtain⟨l,hh,m⟩:=p
      obtain⟨e1,e2,e3,e4,q1,q2,q3⟩:=zib h1 h2 h3 hb
      have q1':zj4 cap m MX:=by
       cases MX with
       |none=>simp only[zef]at h3
       |some V=>exact⟨q1.1,by omega⟩
      have hsb:=zhk (P:=P) true xs.length cap q1' q2 q3 w
      refine SV.pure hk (V:=.slice (if m=l then a else a.map (·.add (l * es))) (hh-l) (m-l)) ?_ ?_
      ·by_cases hml:m=l
       ·subst hml
        simp[Instr.sliceAt,run_underlying hu,Instr.slice,hsb,htf.size]
       ·cases a with
        |none=>exact absurd (g4 rfl) (by omega)
        |some a=>simp[Instr.sliceAt,run_underlying hu,Instr.slice,hsb,htf.size,hml]
      ·refine ha.fz_part e1 (by omega) (by omega) _ (fun h=>Nat.eq_of_beq_eq_true h) _ (fun hl=>?_) (fun hn=>?_)
       ·rw[if_neg (by omega)]
       ·by_cases hml:m=l
        ·exact hml
        ·rw[if_neg hml]at hn
         cases a with
         |none=>exact absurd (g4 rfl) (by omega)
         |some a=>simp at hn
    |none=>
     simp only
     cases hb:zdj xs.length xs.length lo hi none with
     |none=>trivial
     |some p=>
      obtain⟨l,hh,m⟩:=p
      obtain⟨e1,e2,e3,e4,q1,q2,q3⟩:=zib h1 h2 h3 hb
      have hmx:MX=none:=by cases MX with |none=>rfl |some V=>simp only[zef]at h3
      subst hmx
      have q2':zjn xs.length hh cap none HI:=by
       cases HI with
       |none=>exact q2
       |some V=>exact⟨q2.1,by omega⟩
      have hsb:=zhk (P:=P) true xs.length cap (mx:=none) (m:=cap) (show zj4 _ _ none from rfl) q2' q3 w
      refine SV.pure hk (V:=.slice (if cap=l then a else a.map (·.add (l * es))) (hh-l) (cap-l)) ?_ ?_
      ·by_cases hml:cap=l
       ·subst hml
        simp[Instr.sliceAt,run_underlying hu,Instr.slice,hsb,htf.size]
       ·cases a with
        |none=>exact absurd (g4 rfl) (by omega)
        |some a=>simp[Instr.sliceAt,run_underlying hu,Instr.slice,hsb,htf.size,hml]
      ·refine ha.fz_part e1 (by omega) (by omega) _ (fun h=>?_) _ (fun hl=>?_) (fun hn=>?_)
       ·cases full with
        |false=>simp at h
        |true=>
         have:=Nat.eq_of_beq_eq_true h
         rw[g2 rfl,this]
       ·rw[if_neg (by omega)]
       ·by_cases hml:cap=l
        ·exact hml
        ·rw[if_neg hml]at hn
         cases a with
         |none=>exact absurd (g4 rfl) (by omega)
         |some a=>simp at hn
  ·simp only[Rel]at ha
   subst ha
   simp only
   cases hb:zdj 0 0 lo hi mx with
   |none=>trivial
   |some p=>
    obtain⟨l,hh,m⟩:=p
    obtain⟨e1,e2,e3,e4,q1,q2,q3⟩:=zib h1 h2 h3 hb
    have hsb:=zhk (P:=P) true 0 0 q1 q2 q3 w
    have z1:l=0:=by omega
    have z2:hh=0:=by omega
    have z3:m=0:=by omega
    refine SV.pure hk (V:=.slice none 0 0) ?_ (by simp only[Rel])
    simp[Instr.sliceAt,run_underlying hu,Instr.slice,hsb,htf.size,z1,z2,z3]
  ·rename_i i o len c opn
   simp only[Rel]at ha
   obtain⟨bb,hb0,e,hlc⟩:=ha
   subst e
   cases opn with
   |false=>
    simp only[Bool.false_eq_true,if_false]at hlc ⊢
    cases hb:zdj len c lo hi mx with
    |none=>trivial
    |some p=>
     obtain⟨l,hh,m⟩:=p
     obtain⟨e1,e2,e3,e4,q1,q2,q3⟩:=zib h1 h2 h3 hb
     have hsb:=zhk (P:=P) true len c q1 q2 q3 w
     simp only[fN_eq]
     cases hml:Nat.beq m l with
     |true=>
      have:=Nat.eq_of_beq_eq_true hml
      subst this
      refine SV.pure hk (V:=.slice (some ⟨bb,o,none⟩) (hh-m) (m-m)) ?_ ?_
      ·simp[Instr.sliceAt,run_underlying hu,Instr.slice,hsb,htf.size]
      ·simp only[Rel,Bool.false_eq_true,if_false];exact⟨bb,hb0,rfl,Nat.sub_le_sub_right e2 _⟩
     |false=>
      have hne:=zea hml
      refine SV.pure hk (V:=.slice (some ⟨bb,o+l * s,none⟩) (hh-l) (m-l)) ?_ ?_
      ·simp[Instr.sliceAt,run_underlying hu,Instr.slice,hsb,htf.size,hne,zcm]
      ·simp only[Rel,Bool.false_eq_true,if_false];exact⟨bb,hb0,rfl,Nat.sub_le_sub_right e2 _⟩
   |true=>
    simp only[if_true]at hlc ⊢
    cases mx with
    |some v=>
     simp only
     cases hb:zdj len len lo hi (some v) with
     |none=>trivial
     |some p=>
      obtain⟨l,hh,m⟩:=p
      obtain⟨e1,e2,e3,e4,q1,q2,q3⟩:=zib h1 h2 h3 hb
      have q1':zj4 (σ.cap i-c) m MX:=by
       cases MX with
       |none=>simp only[zef]at h3
       |some V=>exact⟨q1.1,by omega⟩
      have hsb:=zhk (P:=P) true len (σ.cap i-c) q1' q2 q3 w
      simp only[fN_eq]
      cases hml:Nat.beq m l with
      |true=>
       have:=Nat.eq_of_beq_eq_true hml
       subst this
       refine SV.pure hk (V:=.slice (some ⟨bb,o,none⟩) (hh-m) (m-m)) ?_ ?_
       ·simp[Instr.sliceAt,run_underlying hu,Instr.slice,hsb,htf.size]
       ·simp only[Rel,Bool.false_eq_true,if_false];exact⟨bb,hb0,rfl,Nat.sub_le_sub_right e2 _⟩
      |false=>
       have hne:=zea hml
       refine SV.pure hk (V:=.slice (some ⟨bb,o+l * s,none⟩) (hh-l) (m-l)) ?_ ?_
       ·simp[Instr.sliceAt,run_underlying hu,Instr.slice,hsb,htf.size,hne,zcm]
       ·simp only[Rel,Bool.false_eq_true,if_false];exact⟨bb,hb0,rfl,Nat.sub_le_sub_right e2 _⟩
    |none=>
     have hmx:MX=none:=by cases MX with |none=>rfl |some V=>simp only[zef]at h3
     subst hmx
     simp only
     cases hb:zdj len len lo hi none with
     |none=>trivial
     |some p=>
      obtain⟨l,hh,m⟩:=p
      obtain⟨e1,e2,e3,e4,q1,q2,q3⟩:=zib h1 h2 h3 hb
      have q2':zjn len hh (σ.cap i-c) none HI:=by
       cases HI with
       |none=>exact q2
       |some V=>exact⟨q2.1,by omega⟩
      have hsb:=zhk (P:=P) true len (σ.cap i-c) (mx:=none) (m:=σ.cap i-c) (show zj4 _ _ none from rfl) q2' q3 w
      simp only[fN_eq]
      cases hl0:Nat.beq l 0 with
      |true=>
       have:=Nat.eq_of_beq_eq_true hl0
       subst this
       refine SV.pure hk (V:=.slice (some ⟨bb,o,none⟩) (hh-0) (σ.cap i-c-0)) ?_ ?_
       ·simp[Instr.sliceAt,run_underlying hu,Instr.slice,hsb,htf.size,zcm]
       ·simp only[Rel,if_true];exact⟨bb,hb0,by simp,by show hh-0≤σ.cap i-(c+0);omega⟩
      |false=>
       simp only
       cases hll:Nat.ble (Nat.succ l) len with
       |false=>trivial
       |true=>
        have hlt:l<len:=Nat.le_of_ble_eq_true hll
        have hne:¬σ.cap i-c=l:=by omega
        refine SV.pure hk (V:=.slice (some ⟨bb,o+l * s,none⟩) (hh-l) (σ.cap i-c-l)) ?_ ?_
        ·simp[Instr.sliceAt,run_underlying hu,Instr.slice,hsb,htf.size,hne,zcm]
        ·simp only[Rel,if_true];exact⟨bb,hb0,by rw[Nat.sub_sub];rfl,by show hh-l≤σ.cap i-(c+l);omega⟩
 ·
  rename_i n elem
  cases fs with
  |nil=>trivial
  |cons p fs=>
  obtain⟨o0,s,b0⟩:=p
  have htf:=he elem (.inr (.inl ⟨n,rfl⟩)) o0 s b0 rfl
  cases a <;> try trivial
  rename_i i o
  simp only[Rel]at ha
  obtain⟨bb,hb0,e⟩:=ha
  subst e
  simp only
  cases hb:zdj n n lo hi mx with
  |none=>trivial
  |some p=>
   obtain⟨l,hh,m⟩:=p
   obtain⟨e1,e2,e3,e4,q1,q2,q3⟩:=zib h1 h2 h3 hb
   have hsb:=zhk (P:=P) false n n q1 q2 q3 w
   simp only[fN_eq]
   cases hml:Nat.beq m l with
   |true=>
    have:=Nat.eq_of_beq_eq_true hml
    subst this
    refine SV.pure hk (V:=.slice (some ⟨bb,o,none⟩) (hh-m) (m-m)) ?_ ?_
    ·simp[Instr.sliceAt,run_underlying hu,Instr.sureAddr,hsb,htf.size]
    ·simp only[Rel,Bool.false_eq_true,if_false];exact⟨bb,hb0,rfl,Nat.sub_le_sub_right e2 _⟩
   |false=>
    have hne:=zea hml
    refine SV.pure hk (V:=.slice (some ⟨bb,o+l * s,none⟩) (hh-l) (m-l)) ?_ ?_
    ·simp[Instr.sliceAt,run_underlying hu,Instr.sureAddr,hsb,htf.size,hne,zcm]
    ·simp only[Rel,Bool.false_eq_true,if_false];exact⟨bb,hb0,rfl,Nat.sub_le_sub_right e2 _⟩
def vInt (n:Nat)(h:Tr ABlk) (nx:Nat):R:=fN n fun n=>.val (.int .i64 (Int.ofNat n)) h nx
theorem zia (hk:Ok G σ h nx w){n:Nat}{m:Sem Value}(hm:m.run P w=.ok (goInt n) w):RV P G σ h nx w m (vInt n h nx):=by
 unfold vInt
 rw[fN_eq]
 exact SV.pure hk (V:=goInt n) hm (by simp only[Rel];rfl)
theorem zb4.length {σ:Sg}:∀{l E},zb4 σ l E→E.length=l.length
 |[],E,h=>by simp only[zb4]at h;subst h;rfl
 |(k,v,n)::l,E,h=>by
  simp only[zb4]at h
  obtain⟨K,V,E',e,_,_,h3⟩:=h
  subst e
  simp[h3.length]
theorem Ok.map (hk:Ok G σ h nx w){i cl:Nat}{es:List (AV×AV×Nat)}(hi:h.get i=some (.map es cl)):
  ∃b E,σ.blk i=some b∧w.heap[b]?=some (.map (List.toArray E) cl)∧zb4 σ es E:=by
 obtain⟨b,o,hb,ho,hr⟩:=hk.blk i _ hi
 simp only[zao]at hr
 obtain⟨E,e,h1⟩:=hr
 subst e
 exact⟨b,E,hb,ho,h1⟩
def zdu (ti:TI)(a:AV)(h:Tr ABlk) (nx:Nat):R:=
 match ti with
 |.mk d _ _ _ _=>match d with
  |.string=>match a with
   |.str l _=>vInt l h nx
   |.bs b=>.val (.int .i64 (Int.ofNat b.size)) h nx
   |_=>.fail
  |.array n _=>vInt n h nx
  |.slice _=>match a with
   |.sl0=>vInt 0 h nx
   |.fz _ _ xs=>.val (.int .i64 (Int.ofNat xs.length)) h nx
   |.sl _ _ l _ _=>vInt l h nx
   |_=>.fail
  |.map _ _=>match a with
   |.map0=>vInt 0 h nx
   |.map i=>match h.get i with
    |some (.map es _)=>vInt es.length h nx
    |_=>.fail
   |_=>.fail
  |_=>.fail
theorem zL0 (hk:Ok G σ h nx w){t:TypeId}{ti:TI}(ht:zav P t ti){a:AV}{A:Value}(ha:Rel σ a A)(ts:Array TypeId)(hts:ts[0]?=some t)(ty:TypeId):
  RV P G σ h nx w (Builtin.len_ ts ty #[A]) (zdu ti a h nx):=by
 cases ti with
 |mk d size bytes zero fs=>
 obtain⟨hu,_⟩:=ht
 unfold zdu
 cases d <;> try trivial
 ·cases a <;> try trivial
  case bs b=>
   simp only[Rel]at ha
   subst ha
   exact SV.pure hk (V:=goInt b.size) (by simp[Builtin.len_,hts,run_underlying hu]) (by simp only[Rel];rfl)
  simp only[Rel]at ha
  obtain⟨_,e⟩:=ha
  subst e
  exact zia hk (by simp[Builtin.len_,hts,run_underlying hu,zgw])
 ·cases a <;> try trivial
  case fz es full xs=>
   simp only[Rel]at ha
   obtain⟨a,cap,e,_⟩:=ha
   subst e
   exact SV.pure hk (V:=goInt xs.length) (by simp[Builtin.len_,hts,run_underlying hu]) (by simp only[Rel];rfl)
  ·simp only[Rel]at ha
   subst ha
   exact zia hk (by simp[Builtin.len_,hts,run_underlying hu])
  ·simp only[Rel]at ha
   obtain⟨b,_,e,_⟩:=ha
   subst e
   exact zia hk (by simp[Builtin.len_,hts,run_underlying hu])
 ·exact zia hk (by simp[Builtin.len_,hts,run_underlying hu])
 ·cases a <;> try trivial
  ·simp only[Rel]at ha
   subst ha
   exact zia hk (by simp[Builtin.len_,hts,run_underlying hu])
  ·rename_i i
   simp only[Rel]at ha
   obtain⟨b,hb,e⟩:=ha
   subst e
   simp only
   split
   ·rename_i es cl hg
    obtain⟨b',E,hb',hh,hr⟩:=hk.map hg
    rw[hb]at hb'
    cases hb'
    refine zia hk ?_
    simp[Builtin.len_,hts,run_underlying hu,getObj,Sem.run,hh,hr.length]
   ·trivial
def zjr (ti:TI)(a:AV)(h:Tr ABlk) (nx:Nat):R:=
 match ti with
 |.mk d _ _ _ _=>match d with
  |.slice _=>match a with
   |.sl0=>vInt 0 h nx
   |.sl _ _ _ c false=>vInt c h nx
   |_=>.fail
  |_=>.fail
theorem zQu (hk:Ok G σ h nx w){t:TypeId}{ti:TI}(ht:zav P t ti){a:AV}{A:Value}(ha:Rel σ a A)(ts:Array TypeId)(hts:ts[0]?=some t)(ty:TypeId):
  RV P G σ h nx w (Builtin.cap_ ts ty #[A]) (zjr ti a h nx):=by
 cases ti with
 |mk d size bytes zero fs=>
 obtain⟨hu,_⟩:=ht
 unfold zjr
 cases d <;> try trivial
 cases a <;> try trivial
 ·simp only[Rel]at ha
  subst ha
  exact zia hk (by simp[Builtin.cap_,hts,run_underlying hu])
 ·rename_i opn
  simp only[Rel]at ha
  obtain⟨b,_,e,_⟩:=ha
  subst e
  cases opn with
  |true=>trivial
  |false=>exact zia hk (by simp[Builtin.cap_,hts,run_underlying hu])
def zhz (l:Nat):Nat→List AV:=
 Nat.rec (motive:=fun _=>Nat→List AV) (fun _=>[]) (fun _ ih n=>fN (Nat.mod n 256) fun b=>.int .u8 (Int.ofNat b)::fN (Nat.div n 256) ih) l
theorem zph:∀(l n:Nat),za1 σ (zhz l n) ((zar l n).map fun b=>.int .u8 b.toNat):=by
 intro l
 induction l with
 |zero=>intro n;simp[zhz,zar,za1]
 |succ l ih=>
  intro n
  show za1 σ (fN (n % 256) fun b=>.int .u8 (Int.ofNat b)::fN (n / 256) (zhz l)) _
  rw[fN_eq,fN_eq,zfu,List.map_cons,u8 (Nat.mod_lt _ (by decide))]
  simp only[za1,Rel]
  exact⟨_,_,rfl,rfl,ih _⟩
theorem zp9 (l n:Nat):(zhz l n).length=l:=by
 have:=(zph (σ:=⟨fun _=>none,fun _=>0,fun _=>.nilFunc,fun _=>none⟩) l n).length
 simpa[ze9]using this.symm
def zh9:AV→Option Nat
 |.int .u8 (.ofNat b)=>match Nat.ble b 255 with
  |true=>some b
  |false=>none
 |_=>none
theorem zwe {v:AV}{V:Value}{b:Nat}(hr:Rel σ v V)(hb:zh9 v=some b):b≤255∧V=.int .u8 (Int.ofNat b):=by
 unfold zh9 at hb
 split at hb
 ·split at hb
  ·rename_i b' hle
   cases hb
   simp only[Rel]at hr
   exact⟨Nat.le_of_ble_eq_true hle,hr⟩
  ·cases hb
 ·cases hb
def zfe (l:List AV):Option Nat:=
 List.rec (motive:=fun _=>Option Nat) (some 0) (fun v _ ih=>match zh9 v with
  |some b=>match ih with
   |some n=>some (Nat.add b (Nat.mul 256 n))
   |none=>none
  |none=>none) l
theorem ztu (v:AV)(l:List AV):zfe (v::l)=match zh9 v with
  |some b=>match zfe l with
   |some n=>some (Nat.add b (Nat.mul 256 n))
   |none=>none
  |none=>none:=rfl
theorem zq3:∀{l:List AV}{L:List Value}{n:Nat},za1 σ l L→zfe l=some n→
  n<256 ^ l.length∧∃ns:List Int,L=ns.map (Value.int .u8)∧ns.map (fun z=>UInt8.ofNat z.toNat)=zar l.length n
 |[],L,n,hr,hn=>by
  cases hn
  simp only[za1]at hr
  subst hr
  exact⟨by simp,[],rfl,by simp[zar]⟩
 |v::l,L,n,hr,hn=>by
  simp only[za1]at hr
  obtain⟨V,L',e,h1,h2⟩:=hr
  subst e
  rw[ztu]at hn
  cases hbv:zh9 v with
  |none=>rw[hbv]at hn;cases hn
  |some b=>
   rw[hbv]at hn
   obtain⟨hb,e1⟩:=zwe h1 hbv
   subst e1
   cases hn':zfe l with
   |none=>rw[hn']at hn;cases hn
   |some n'=>
    rw[hn']at hn
    cases hn
    obtain⟨a1,ns,a2,a3⟩:=zq3 h2 hn'
    have e1:(b+256 * n') % 256=b:=by omega
    have e2:(b+256 * n') / 256=n':=by omega
    refine⟨?_,Int.ofNat b::ns,by rw[List.map_cons,a2],?_⟩
    ·rw[List.length_cons,Nat.pow_succ]
     show b+256 * n' < _
     omega
    ·rw[List.map_cons,a3,List.length_cons,zfu]
     show _=UInt8.ofNat ((b+256 * n') % 256)::zar l.length ((b+256 * n') / 256)
     rw[e1,e2]
     rfl
def zmm (ts td:TI)(te:Option TI)(et:TypeId)(v:AV)(h:Tr ABlk) (nx:Nat):R:=
 match ts,td with
 |.mk ds _ _ _ _,.mk dd _ _ _ _=>match dd with
  |.int k=>match v with
   |.int _ n=>fI (zer k n) fun z=>.val (.int k z) h nx
   |_=>.fail
  |.string=>match v with
   |.str l n=>.val (.str l n) h nx
   |.bs b=>.val (.bs b) h nx
   |.sl0=>match ds,te with
    |.slice e,some (.mk (.int .u8) _ _ _ _)=>match Nat.beq e et with
     |true=>.val (.str 0 0) h nx
     |false=>.fail
    |_,_=>.fail
   |.sl i o l _ _=>match ds,te with
    |.slice e,some (.mk (.int .u8) _ _ _ _)=>match Nat.beq e et with
     |true=>match h.get i with
      |some (.cells _ n c _ _)=>match Nat.ble (Nat.add o l) n with
       |true=>match zci c l o with
        |some cs=>match zfe cs with
         |some m=>fN m fun m=>.val (.str l m) h nx
         |none=>.fail
        |none=>.fail
       |false=>.fail
      |_=>.fail
     |false=>.fail
    |_,_=>.fail
   |_=>.fail
  |.slice e=>match v with
   |.str l n=>match ds,te with
    |.string,some (.mk (.int .u8) _ _ _ _)=>match Nat.beq e et with
     |true=>zft (zhz l n) .nil 0 fun c=>h.putK (some (.cells e l c true 1)) nx fun h'=>fN (Nat.succ nx) fun nx'=>.val (.sl nx 0 l 0 true) h' nx'
     |false=>.fail
    |_,_=>.fail
   |_=>.fail
  |_=>.fail
theorem zlv (w:World) (n old:Nat)(e:TypeId):n≤grownCap w n old e:=by
 show n≤n+_ % _
 omega
theorem zkz {b o n:Nat}{C:Array Value}{e:TypeId}{fr:Nat×Nat}{c:Tr AV}(hheap:w.heap[b]?=some (.cells C e fr))
  (hcell:∀k,k<n→∃v V,c.get k=some v∧C[k]?=some V∧Rel σ v V) {size:Nat} (hle:o+size≤n) {l:List AV} (hl:zci c size o=some l):
  l.length=size∧∃L:List Value,za1 σ l L∧(loadCells ⟨b,o,none⟩ size).run P w=.ok L.toArray w∧∀j u,L[j]?=some u→w.cell? ((⟨b,o,none⟩:Addr).add j)=some u:=by
 obtain⟨hlen,hget⟩:=zth c size o l hl
 refine⟨hlen,(List.range size).map fun k=>C.getD (o+k) undef,?_,?_⟩
 ·refine za1.of_get (by simp[hlen]) fun k v V h1 h2=>?_
  have hk':k<size:=by
   rcases Nat.lt_or_ge k l.length with h3 |h3
   ·omega
   ·rw[List.getElem?_eq_none h3]at h1;cases h1
  obtain⟨v',V',e1,e2,e3⟩:=hcell (o+k) (by omega)
  rw[hget k hk',h1]at e1
  cases e1
  have:V=V':=by
   simp[hk',Array.getD_eq_getD_getElem?,e2]at h2
   exact h2.symm
  subst this
  exact e3
 ·have hc:∀j u,((List.range size).map fun k=>C.getD (o+k) undef)[j]?=some u→w.cell? ((⟨b,o,none⟩:Addr).add j)=some u:=by
   intro j u hj
   have hj':j<size:=by
    rcases Nat.lt_or_ge j size with h3 |h3
    ·exact h3
    ·rw[List.getElem?_eq_none (by simp;omega)]at hj;cases hj
   obtain⟨v',V',e1,e2,e3⟩:=hcell (o+j) (by omega)
   rw[zcm,zen hheap,e2]
   simp[hj',Array.getD_eq_getD_getElem?,e2]at hj
   rw[hj]
  refine⟨?_,hc⟩
  have:=run_loadCells_list (P:=P) w ⟨b,o,none⟩ _ hc
  simpa using this
theorem zUg (hk:Ok G σ h nx w){s d:TypeId}{ts td:TI}(hts:zav P s ts)(htd:zav P d td){te:Option TI}{et:TypeId}(hte:∀ti,te=some ti→zav P et ti){v:AV}{V:Value}(hv:Rel σ v V):
  RV P G σ h nx w (convert s d V) (zmm ts td te et v h nx):=by
 cases ts with
 |mk ds s1 s2 s3 s4=>
 cases td with
 |mk dd d1 d2 d3 d4=>
 obtain⟨hus,hus2⟩:=hts
 obtain⟨hud,hud2⟩:=htd
 clear hus2 hud2
 unfold zmm
 cases dd <;> try trivial
 ·
  rename_i k
  cases v <;> try trivial
  rename_i k' n
  simp only[Rel]at hv
  subst hv
  simp only[fI_eq]
  exact SV.pure hk (V:=.int k (zer k n)) (by simp[convert,run_underlying hus,run_underlying hud,Conv.intToInt,zfd]) (by simp only[Rel])
 ·
  cases v <;> try trivial
  case bs b=>
   have hv':=hv
   simp only[Rel]at hv
   subst hv
   exact SV.pure hk (V:=.string b) (by cases ds <;> simp[convert,run_underlying hus,run_underlying hud]) hv'
  ·rename_i l n
   have hv':=hv
   simp only[Rel]at hv
   obtain⟨hn,e⟩:=hv
   subst e
   exact SV.pure hk (V:=.string (zai l n)) (by cases ds <;> simp[convert,run_underlying hus,run_underlying hud]) hv'
  ·simp only[Rel]at hv
   subst hv
   simp only
   split
   ·rename_i e q1 q2 q3 q4
    cases hbe:Nat.beq e et with
    |false=>trivial
    |true=>
     have:=Nat.eq_of_beq_eq_true hbe
     subst this
     obtain⟨hue,_⟩:=hte _ rfl
     refine SV.pure hk (V:=.string .empty) ?_ (by simp only[Rel];exact⟨by simp,rfl⟩)
     rw[run_convert_bytes_string w s d e none 0 0 hus hue hud]
     simp[Conv.bytesToString]
   ·trivial
  ·rename_i i o l c opn
   simp only[Rel]at hv
   obtain⟨b,hb,e,hlc⟩:=hv
   subst e
   clear hlc
   generalize (if opn=true then σ.cap i-c else c)=cc
   simp only
   split
   ·rename_i e q1 q2 q3 q4
    cases hbe:Nat.beq e et with
    |false=>trivial
    |true=>
     have:=Nat.eq_of_beq_eq_true hbe
     subst this
     obtain⟨hue,_⟩:=hte _ rfl
     simp only
     split
     ·rename_i e' n c' opn' esz hg
      obtain⟨b',C,fr,hb',hheap,hcell,_,_⟩:=hk.cells hg
      rw[hb]at hb'
      cases hb'
      cases hle:Nat.ble (Nat.add o l) n with
      |false=>trivial
      |true=>
       simp only
       cases hgn:zci c' l o with
       |none=>trivial
       |some cs=>
        simp only
        cases hcn:zfe cs with
        |none=>trivial
        |some m=>
         simp only[fN_eq]
         obtain⟨hlen,L,hrl,hload,_⟩:=zkz (P:=P) hheap hcell (Nat.le_of_ble_eq_true hle) hgn
         obtain⟨hm,ns,hL,hns⟩:=zq3 hrl hcn
         rw[hlen]at hm hns
         refine SV.pure hk (V:=.string (zai l m)) ?_ (by simp only[Rel];exact⟨hm,trivial⟩)
         rw[run_convert_bytes_string w s d e _ _ _ hus hue hud,run_bytesToString w _ l _ ns (by rw[hload,hL])]
         congr 2
         have hf:∀(ns:List Int) (s:ByteArray),(ns.foldl (fun r n=>r.push (UInt8.ofNat n.toNat)) s).data=s.data++(ns.map fun n=>UInt8.ofNat n.toNat).toArray:=by
          intro ns
          induction ns with
          |nil=>intro s;simp
          |cons z ns ih=>intro s;rw[List.foldl_cons,ih];simp[ByteArray.push]
         apply ByteArray.ext
         rw[hf,hns]
         show #[]++(zar l m).toArray=(zar l m).toArray
         simp
     ·trivial
   ·trivial
 ·
  rename_i e
  cases v <;> try trivial
  rename_i l n
  simp only[Rel]at hv
  obtain⟨hn,e1⟩:=hv
  subst e1
  simp only
  split
  ·rename_i q1 q2 q3 q4
   cases hbe:Nat.beq e et with
   |false=>trivial
   |true=>
    have:=Nat.eq_of_beq_eq_true hbe
    subst this
    obtain⟨hue,_⟩:=hte _ rfl
    simp only[zdr,Tr.putK_eq,fN_eq]
    have hrun:=run_bytes_of_string (P:=P) w s d e (zai l n) hus hud hue
    rw[zgw]at hrun
    generalize hcap:grownCap w l 0 e=cap at hrun
    have hge:l≤cap:=hcap ▸ zlv w l 0 e
    have hsz:(bytesRow (zai l n) cap).size=cap:=by
     simp only[bytesRow,Array.size_append,Array.size_map,Array.size_replicate]
     have:(zai l n).data.size=l:=zgw l n
     rw[this,zgw]
     omega
    have hd:=Post.drawn hk (w.drawn+1)
    have ha:=Post.alloc hd.ok cap (.cells e l (zbh (zhz l n) .nil 0) true 1) (.cells (bytesRow (zai l n) cap) e ((bytesRow (zai l n) cap).size,(bytesRow (zai l n) cap).size+1)) (by
     simp only[zao]
     refine⟨_,_,rfl,fun k hk'=>?_,fun k hk'=>by omega,?_⟩
     ·obtain⟨v,hv⟩:∃v,(zhz l n)[k]?=some v:=⟨(zhz l n)[k]'(by rw[zp9];exact hk'),by simp⟩
      obtain⟨V,h1,h2⟩:=(zph (σ:=σ.add nx w.heap.size cap) l n).get hv
      refine⟨v,V,?_,?_,h2⟩
      ·rw[zf7,zp9,if_pos (by omega)]
       simpa using hv
      ·have hd2:(zai l n).data=(zar l n).toArray:=rfl
       rw[bytesRow,Array.getElem?_append_left (by simp[hd2,ze9];exact hk'),hd2]
       simpa using h1
     ·rw[hsz]
      simp[Sg.add]
      exact hge)
    refine⟨_,_,_,hrun,?_,hd.trans ha⟩
    simp only[Rel,if_true]
    refine⟨w.heap.size,by simp[Sg.add],by simp[Sg.add],by simp[Sg.add];exact hge⟩
  ·trivial
end
end Go.Ev
