/- Texts. -/
import Derived.Laws.IdiomStrings
import Derived.Laws.MakeOwn
import Derived.Test.YtkdnmldmffkkoaaGreatDoorP01
set_option linter.unusedSimpArgs false
set_option linter.unusedVariables false
set_option maxRecDepth 100000
namespace Go.Ev
variable {P : Program} {G : Gl} {σ τ υ : Sg} {h g f : Tr ABlk} {nx ny nz : Nat} {w x y : World}
noncomputable section
theorem TF.size {t:TypeId}{s:Nat}{b:Bool}(ht:TF P t s b)(w:World):(sizeOf t).run P w=.ok s w:=by
 obtain⟨⟨i,hi,hs⟩,_⟩:=ht;rw[nN hi,hs]
theorem TF.agg {t:TypeId}{s:Nat}{b:Bool}(ht:TF P t s b)(w:World):(isAgg t).run P w=.ok b w:=by
 obtain⟨_,d,hd,hb⟩:=ht;rw[Dz hd,hb]
def wM (ti:TI)(a:AV) (k:Nat)(h:Tr ABlk) (nx:Nat):R:=
 match ti with
 |.mk d _ _ _ fs=>match d with
  |.struct _=>match fs[k]? with
   |some (o,s,_)=>match Nat.beq s 0 with
    |true=>.fail
    |false=>match a with
     |.ptr i p=>fN (Nat.add p o) fun q=>.val (.ptr i q) h nx
     |.ip cs=>.val (.ip (cs.drop o)) h nx
     |_=>.fail
   |none=>.fail
  |_=>.fail
theorem av.ip_drop {cs:List AV}{b p:Nat}(ha:av σ (.ip cs) (.pointer (some ⟨b,p,none⟩))) (o:Nat):av σ (.ip (cs.drop o)) (.pointer (some ⟨b,p+o,none⟩)):=by
 simp only[av]at ha ⊢;obtain⟨b',o',C,L,e,h1,h2,h3⟩:=ha;cases e;refine⟨b,p+o,C,L.drop o,rfl,h1,h2.drop o,?_⟩;have e3:=congrArg (List.drop o) h3;rw[List.drop_take,List.drop_drop]at e3;rw[List.length_drop];exact e3
theorem fL.get {es:Nat}:∀{L D:List Value}{n:Nat}{X:Value},fL es L D→L[n]?=some X→X.cells.toList=(D.drop (n * es)).take es∧X.cells.size=es
 |[],D,n,X,_,hn=>by simp at hn
 |Y::L,D,0,X,h,hn=>by
  simp at hn;subst hn;simp only[fL]at h;simpa using ⟨h.1,h.2.1⟩
 |Y::L,D,n+1,X,h,hn=>by
  simp only[fL]at h;have:=fL.get h.2.2 (by simpa using hn);rw[List.drop_drop]at this;rw[show (n+1) * es=es+n * es by rw[Nat.succ_mul,Nat.add_comm]];exact this
theorem av.fz_at {es n:Nat}{full:Bool}{xs:List AV}{x:AV}{A:Value}(ha:av σ (.fz es full xs) A)(hn:xs[n]?=some x):
  ∃b o cap,A=.slice (some ⟨b,o,none⟩) xs.length cap∧av σ (.ip x.cells) (.pointer (some ⟨b,o+n * es,none⟩)):=by
 simp only[av]at ha;obtain⟨a,cap,e,h1,h2,h4,h3⟩:=ha;have az:n<xs.length:=(List.getElem?_eq_some_iff.1 hn).1;obtain⟨b,o,C,L,e1,i1,i2,i3⟩:=h3 (by omega);subst e1;refine⟨b,o,cap,e,?_⟩;obtain⟨X,hX,hr⟩:=i2.get hn;obtain⟨c1,c2⟩:=i3.get hX;simp only[av];refine⟨b,o+n * es,C,X.cells.toList,rfl,i1,hr.cells,?_⟩;rw[List.drop_drop]at c1;rw[Array.length_toList,c2];exact c1
theorem zHc (hk:Ok G σ h nx w)(t:TypeId){ti:TI}(ht:cJ P t ti){a:AV}{A:Value}(ha:av σ a A) (k:Nat):RV P G σ h nx w (Instr.fieldAt t A k) (wM ti a k h nx):=by
 cases ti with
 |mk d size bytes zero fs=>
 obtain⟨hu,inf,hi,hs,nB,eN,hf,sf,mG⟩:=ht;unfold wM;cases d <;> try trivial
 rename_i fields;simp only;split
 ·rename_i o s b vB;obtain⟨fl,gE,ho,dL⟩:=hf fields rfl k o s b vB;cases e0:Nat.beq s 0 with
  |true=>trivial
  |false=>
   have oX:¬s=0:=fun e=>by subst e;simp at e0
   cases a <;> try trivial
   case ip cs=>
    have pT:=ha;simp only[av]at pT;obtain⟨bb,p,_,_,e,_⟩:=pT;subst e;refine SV.pure hk (V:=.pointer (some ⟨bb,p+o,none⟩)) ?_ (ha.ip_drop o);simp[Instr.fieldAt,run_underlying hu,gE,Instr.sureAddr,fieldPlace,dL.size,oX,ho,iM]
   rename_i i p;simp only[av]at ha;obtain⟨bb,hb,e⟩:=ha;subst e;simp only[fN_eq];refine SV.pure hk (V:=.pointer (some ⟨bb,p+o,none⟩)) ?_ ?_
   ·simp[Instr.fieldAt,run_underlying hu,gE,Instr.sureAddr,fieldPlace,dL.size,oX,ho,iM]
   ·simp only[av];exact⟨bb,hb,rfl⟩
 ·trivial
def Bm (l:List AV) (o s:Nat)(b:Bool):Option AV:=
 match b with
 |true=>match Nat.ble (Nat.add o s) l.length with
  |true=>some (.agg ((l.drop o).take s))
  |false=>none
 |false=>l[o]?
theorem zzq {t:TypeId}{s:Nat}{b:Bool}(ht:TF P t s b){l:List AV}{L:List Value}(hl:aC σ l L){o:Nat}{v:AV}(hp:Bm l o s b=some v)(w:World):
  ∃V,(part t L.toArray o).run P w=.ok V w∧av σ v V:=by
 unfold Bm at hp;cases b with
 |false=>
  simp only at hp;obtain⟨V,h1,h2⟩:=hl.get hp;exact⟨V,by simp[part,ht.agg,h1],h2⟩
 |true=>
  simp only at hp;split at hp
  ·rename_i hle;have mJ:o+s≤l.length:=ah hle;cases hp;refine⟨.agg ((L.drop o).take s).toArray,?_,?_⟩
   ·simp[part,ht.agg,ht.size]
   ·simp only[av];refine⟨_,rfl,aC.of_get (by simp[hl.length]) fun k v V h1 h2=>?_⟩;have l6:k<s:=by
     rcases Nat.lt_or_ge k s with h3 |h3
     ·exact h3
     ·rw[List.getElem?_eq_none (by simp;omega)]at h1;cases h1
    rw[List.getElem?_take_of_lt l6,List.getElem?_drop]at h1 h2;obtain⟨V',e1,e2⟩:=hl.get h1;rw[h2]at e1;cases e1;exact e2
  ·cases hp
def wR (ti:TI)(a:AV) (k:Nat)(h:Tr ABlk) (nx:Nat):R:=
 match ti with
 |.mk d _ _ _ fs=>match d with
  |.struct _=>match fs[k]? with
   |some (o,s,b)=>match a with
    |.agg l=>match Bm l o s b with
     |some v=>.val v h nx
     |none=>.fail
    |_=>.fail
   |none=>.fail
  |_=>.fail
theorem zNh (hk:Ok G σ h nx w)(t:TypeId){ti:TI}(ht:cJ P t ti){a:AV}{A:Value}(ha:av σ a A) (k:Nat):RV P G σ h nx w (Instr.field t A k) (wR ti a k h nx):=by
 cases ti with
 |mk d size bytes zero fs=>
 obtain⟨hu,inf,hi,hs,nB,eN,hf,sf,mG⟩:=ht;unfold wR;cases d <;> try trivial
 rename_i fields;simp only;split
 ·rename_i o s b vB;obtain⟨fl,gE,ho,dL⟩:=hf fields rfl k o s b vB;cases a <;> try trivial
  rename_i l;simp only[av]at ha;obtain⟨L,e,hl⟩:=ha;subst e;simp only;cases hp:Bm l o s b with
  |none=>trivial
  |some v=>
   obtain⟨V,hV,hr⟩:=zzq dL hl hp w;refine SV.pure hk (V:=V) ?_ hr;simp[Instr.field,run_underlying hu,gE,asAgg,ho,hV]
 ·trivial
def nK:AV→Option Nat
 |.int _ (.ofNat n)=>some n
 |_=>none
theorem Bi {v:AV}{V:Value}{n:Nat}(hv:av σ v V)(hi:nK v=some n):∃k,V=.int k (n:Int):=by
 cases v <;> try (simp[nK]at hi;done)
 rename_i k m;cases m with
 |negSucc m=>simp[nK]at hi
 |ofNat m=>
  simp only[nK,Option.some.injEq]at hi;subst hi;simp only[av]at hv;exact⟨k,hv⟩
def jE (ti:TI)(a ix:AV)(h:Tr ABlk) (nx:Nat):R:=
 match ti with
 |.mk d _ _ _ fs=>match nK ix with
  |none=>.fail
  |some n=>match fs with
   |[]=>.fail
   |(_,s,_)::_=>match d with
    |.slice _=>match a with
     |.sl i o l _ _=>match Nat.ble (Nat.succ n) l with
      |true=>fN (Nat.add o (Nat.mul n s)) fun q=>.val (.ptr i q) h nx
      |false=>.fail
     |.fz es _ xs=>match Nat.beq es s with
      |true=>match xs[n]? with
       |some x=>.val (.ip x.cells) h nx
       |none=>.fail
      |false=>.fail
     |_=>.fail
    |.array l _=>match a with
     |.ptr i o=>match Nat.ble (Nat.succ n) l with
      |true=>fN (Nat.add o (Nat.mul n s)) fun q=>.val (.ptr i q) h nx
      |false=>.fail
     |.ip cs=>match Nat.ble (Nat.succ n) l with
      |true=>.val (.ip (cs.drop (Nat.mul n s))) h nx
      |false=>.fail
     |_=>.fail
    |_=>.fail
theorem zM6 (hk:Ok G σ h nx w)(t:TypeId){ti:TI}(ht:cJ P t ti){a ix:AV}{A I:Value}(ha:av σ a A)(jw:av σ ix I):RV P G σ h nx w (Instr.indexAt t A I) (jE ti a ix h nx):=by
 cases ti with
 |mk d size bytes zero fs=>
 obtain⟨hu,inf,hi,hs,nB,eN,MZ,sf,he⟩:=ht;unfold jE;simp only;cases hn:nK ix with
 |none=>trivial
 |some n=>
 obtain⟨k,e⟩:=Bi jw hn;subst e;cases fs with
 |nil=>trivial
 |cons p fs=>
 obtain⟨o0,s,b0⟩:=p;cases d <;> try trivial
 ·rename_i elem;have dL:=he elem (.inl rfl) o0 s b0 rfl;cases a <;> try trivial
  case fz es full xs=>
   simp only;cases sd:Nat.beq es s with
   |false=>trivial
   |true=>
    simp only;cases hx:xs[n]? with
    |none=>trivial
    |some x=>
     have zE:=ad sd;subst zE;obtain⟨b,o,cap,e,hr⟩:=ha.fz_at hx;subst e;have az:n<xs.length:=(List.getElem?_eq_some_iff.1 hx).1;refine SV.pure hk (V:=.pointer (some ⟨b,o+n * es,none⟩)) ?_ hr;have h1:(0:Int)≤n∧(n:Int)<xs.length:=by omega
     simp[Instr.indexAt,asIntOf,run_underlying hu,h1,dL.size,iM,az]
  rename_i i o l c opn;simp only[av]at ha;obtain⟨bb,hb,e,_⟩:=ha;subst e;simp only;cases hle:Nat.ble (Nat.succ n) l with
  |false=>trivial
  |true=>
   have az:n<l:=ah hle;simp only[fN_eq];refine SV.pure hk (V:=.pointer (some ⟨bb,o+n * s,none⟩)) ?_ ?_
   ·have h1:(0:Int)≤n∧(n:Int)<l:=by omega
    simp[Instr.indexAt,asIntOf,run_underlying hu,h1,dL.size,iM,az]
   ·simp only[av];exact⟨bb,hb,rfl⟩
 ·rename_i l elem;have dL:=he elem (.inr (.inl ⟨l,rfl⟩)) o0 s b0 rfl;cases a <;> try trivial
  case ip cs=>
   simp only;cases hle:Nat.ble (Nat.succ n) l with
   |false=>trivial
   |true=>
    have az:n<l:=ah hle;have pT:=ha;simp only[av]at pT;obtain⟨bb,p,_,_,e,_⟩:=pT;subst e;refine SV.pure hk (V:=.pointer (some ⟨bb,p+n * s,none⟩)) ?_ (ha.ip_drop _);have h1:(0:Int)≤n∧(n:Int)<l:=by omega
    simp[Instr.indexAt,asIntOf,run_underlying hu,Instr.sureAddr,h1,dL.size,iM,az]
  rename_i i o;simp only[av]at ha;obtain⟨bb,hb,e⟩:=ha;subst e;simp only;cases hle:Nat.ble (Nat.succ n) l with
  |false=>trivial
  |true=>
   have az:n<l:=ah hle;simp only[fN_eq];refine SV.pure hk (V:=.pointer (some ⟨bb,o+n * s,none⟩)) ?_ ?_
   ·have h1:(0:Int)≤n∧(n:Int)<l:=by omega
    simp[Instr.indexAt,asIntOf,run_underlying hu,Instr.sureAddr,h1,dL.size,iM,az]
   ·simp only[av];exact⟨bb,hb,rfl⟩
def tE (ti:TI)(a ix:AV)(h:Tr ABlk) (nx:Nat):R:=
 match ti with
 |.mk d _ _ _ fs=>match nK ix with
  |none=>.fail
  |some n=>match d with
   |.string=>match a with
    |.str l m=>match Nat.ble (Nat.succ n) l with
     |true=>fN (Nat.mod (Nat.div m (Nat.pow 256 n)) 256) fun z=>.val (.int .u8 (Int.ofNat z)) h nx
     |false=>.fail
    |.bs b=>match b[n]? with
     |some c=>.val (.int .u8 (Int.ofNat c.toNat)) h nx
     |none=>.fail
    |_=>.fail
   |.array len _=>match fs with
    |[]=>.fail
    |(_,s,b)::_=>match a with
     |.agg l=>match Nat.ble (Nat.succ n) len with
      |true=>match Bm l (Nat.mul n s) s b with
       |some v=>.val v h nx
       |none=>.fail
      |false=>.fail
     |_=>.fail
   |_=>.fail
theorem zSs (hk:Ok G σ h nx w)(t:TypeId){ti:TI}(ht:cJ P t ti){a ix:AV}{A I:Value}(ha:av σ a A)(jw:av σ ix I):RV P G σ h nx w (Instr.index t A I) (tE ti a ix h nx):=by
 cases ti with
 |mk d size bytes zero fs=>
 obtain⟨hu,inf,hi,hs,nB,eN,MZ,sf,he⟩:=ht;unfold tE;simp only;cases hn:nK ix with
 |none=>trivial
 |some n=>
 obtain⟨k,e⟩:=Bi jw hn;subst e;cases d <;> try trivial
 ·cases a <;> try trivial
  case bs b=>
   simp only[av]at ha;subst ha;simp only;cases hb:b[n]? with
   |none=>trivial
   |some z=>
    refine SV.pure hk (V:=.int .u8 (Int.ofNat z.toNat)) ?_ (by simp only[av]);have h1:(0:Int)≤n:=by omega
    simp[Instr.index,asIntOf,run_underlying hu,hb]
  rename_i l m;simp only[av]at ha;obtain⟨hm,e⟩:=ha;subst e;simp only;cases hle:Nat.ble (Nat.succ n) l with
  |false=>trivial
  |true=>
   have az:n<l:=ah hle;simp only[fN_eq];refine SV.pure hk (V:=.int .u8 (Int.ofNat (m / 256 ^ n % 256))) ?_ ?_
   ·have h1:(0:Int)≤n:=by omega
    have h2:(UInt8.ofNat (m / 256 ^ n % 256)).toNat=m / 256 ^ n % 256:=u8 (Nat.mod_lt _ (by decide));simp[Instr.index,asIntOf,run_underlying hu,zI8 az,h2]
   ·simp only[av];rfl
 ·rename_i len elem;cases fs with
  |nil=>trivial
  |cons p fs=>
  obtain⟨o0,s,b0⟩:=p;have dL:=he elem (.inr (.inl ⟨len,rfl⟩)) o0 s b0 rfl;cases a <;> try trivial
  rename_i l;simp only[av]at ha;obtain⟨L,e,hl⟩:=ha;subst e;simp only;cases hle:Nat.ble (Nat.succ n) len with
  |false=>trivial
  |true=>
   have az:n<len:=ah hle;simp only;cases hp:Bm l (Nat.mul n s) s b0 with
   |none=>trivial
   |some v=>
    obtain⟨V,hV,hr⟩:=zzq dL hl hp w;refine SV.pure hk (V:=V) ?_ hr;have h1:(0:Int)≤n∧(n:Int)<len:=by omega
    have hV':(part elem L.toArray (n * s)).run P w=.ok V w:=hV;simp[Instr.index,asIntOf,run_underlying hu,h1,dL.size,az,hV']
def wZ (a:AV) (k:Nat)(h:Tr ABlk) (nx:Nat):R:=
 match a with
 |.tup l=>match l[k]? with
  |some v=>.val v h nx
  |none=>.fail
 |_=>.fail
theorem zQ2 (hk:Ok G σ h nx w){a:AV}{A:Value}(ha:av σ a A) (k:Nat):RV P G σ h nx w (Instr.extract A k) (wZ a k h nx):=by
 unfold wZ;cases a <;> try trivial
 rename_i l;simp only[av]at ha;obtain⟨L,e,hl⟩:=ha;subst e;simp only;cases hv:l[k]? with
 |none=>trivial
 |some v=>
  obtain⟨V,h1,h2⟩:=hl.get hv;exact SV.pure hk (V:=V) (by simp[Instr.extract,h1]) h2
def wW (ti:TI)(t:TypeId)(v:AV)(h:Tr ABlk) (nx:Nat):R:=
 match ti with
 |.mk d _ _ _ _=>match d with
  |.interface _=>.fail
  |_=>.val (.iface t v) h nx
theorem zJ0 (hk:Ok G σ h nx w)(t:TypeId){ti:TI}(ht:cJ P t ti){v:AV}{V:Value}(hv:av σ v V):RV P G σ h nx w (Instr.makeInterface t V) (wW ti t v h nx):=by
 cases ti with
 |mk d size bytes zero fs=>
 obtain⟨hu,_⟩:=ht;have hr:av σ (.iface t v) (.iface t V):=by simp only[av];exact⟨V,rfl,hv⟩
 unfold wW;cases d <;> first
  |trivial
  |exact SV.pure hk (V:=.iface t V) (by simp[Instr.makeInterface,run_underlying hu]) hr
def KF (h:Tr ABlk) (nx:Nat):R:=
 h.putK (some (.map [] 0)) nx fun h'=>fN (Nat.succ nx) fun ax=>.val (.map nx) h' ax
theorem zM1 (hk:Ok G σ h nx w)(t:TypeId):RV P G σ h nx w (Instr.makeMap t none) (KF h nx):=by
 simp only[KF,Tr.putK_eq,fN_eq];refine⟨.map (some w.heap.size),_,_,?_,?_,Post.alloc hk 0 (.map [] 0) (.map #[] 0) ?_⟩
 ·simp[Instr.makeMap,newObj,Sem.run]
 ·simp only[av];exact⟨w.heap.size,by simp[Sg.add],rfl⟩
 ·simp only[bX];exact⟨[],rfl,by simp only[di]⟩
def xg (cap m:Nat):Option Value→Prop
 |none=>m=cap
 |some V=>(∃k,V=.int k (m:Int))∧m≤cap
def yD (len hh m:Nat)(MX:Option Value):Option Value→Prop
 |none=>hh=len∧MX=none
 |some V=>(∃k,V=.int k (hh:Int))∧hh≤m
def xa (l hh:Nat):Option Value→Prop
 |none=>l=0
 |some V=>(∃k,V=.int k (l:Int))∧l≤hh
theorem uM (DL:Bool) (len cap:Nat){lo hi mx:Option Value}{l hh m:Nat}
  (hm:xg cap m mx) (zK:yD len hh m mx hi) (fu:xa l hh lo) (w:World):
  (Instr.sliceBounds DL len cap lo hi mx).run P w=.ok (l,hh,m) w:=by
 have sb:∀(k:IntKind) (n y:Nat) (c:BoundsCode),n≤y→(Instr.sliceBound (.int k (n:Int)) y c).run P w=.ok n w:=by
  intro k n y c hle;have h1:(0:Int)≤n∧(n:Int)≤y:=by omega
  simp[Instr.sliceBound,asIntOf,hle]
 unfold Instr.sliceBounds;cases mx with
 |none=>
  simp only[xg]at hm;subst hm;cases hi with
  |none=>
   simp only[yD]at zK;obtain⟨e,_⟩:=zK;subst e;cases lo with
   |none=>simp only[xa]at fu;subst fu;simp
   |some V=>
    simp only[xa]at fu;obtain⟨⟨k,e⟩,hle⟩:=fu;subst e;simp[sb _ _ _ _ hle]
  |some V=>
   simp only[yD]at zK;obtain⟨⟨k,e⟩,hle⟩:=zK;subst e;cases lo with
   |none=>simp only[xa]at fu;subst fu;simp[sb _ _ _ _ hle]
   |some V=>
    simp only[xa]at fu;obtain⟨⟨k,e⟩,zW⟩:=fu;subst e;simp[sb _ _ _ _ hle,sb _ _ _ _ zW]
 |some M=>
  simp only[xg]at hm;obtain⟨⟨k0,e⟩,vL⟩:=hm;subst e;cases hi with
  |none=>simp[yD]at zK
  |some V=>
   simp only[yD]at zK;obtain⟨⟨k,e⟩,hle⟩:=zK;subst e;cases lo with
   |none=>simp only[xa]at fu;subst fu;simp[sb _ _ _ _ hle,sb _ _ _ _ vL]
   |some V=>
    simp only[xa]at fu;obtain⟨⟨k,e⟩,zW⟩:=fu;subst e;simp[sb _ _ _ _ hle,sb _ _ _ _ zW,sb _ _ _ _ vL]
def tG (d:Nat):Option AV→Option Nat
 |none=>some d
 |some v=>nK v
def mZ (σ:Sg):Option AV→Option Value→Prop
 |none,none=>True
 |some v,some V=>av σ v V
 |_,_=>False
def kp (len cap:Nat)(lo hi mx:Option AV):Option (Nat×Nat×Nat):=
 match tG cap mx with
 |none=>none
 |some m=>match Nat.ble m cap with
  |false=>none
  |true=>match tG len hi with
   |none=>none
   |some hh=>match Nat.ble hh m with
    |false=>none
    |true=>match tG 0 lo with
     |none=>none
     |some l=>match Nat.ble l hh with
      |false=>none
      |true=>match mx,hi with
       |some _,none=>none
       |_,_=>some (l,hh,m)
theorem wI {len cap:Nat}{lo hi mx:Option AV}{LO HI MX:Option Value}(h1:mZ σ lo LO)(h2:mZ σ hi HI)(h3:mZ σ mx MX){l hh m:Nat}(hb:kp len cap lo hi mx=some (l,hh,m)):
  l≤hh∧hh≤m∧m≤cap∧(mx=none→m=cap)∧xg cap m MX∧yD len hh m MX HI∧xa l hh LO:=by
 unfold kp at hb;split at hb
 ·cases hb
 ·rename_i m' hm;split at hb
  ·cases hb
  ·rename_i zu;have e1:=ah zu;split at hb
   ·cases hb
   ·rename_i pX Uf;split at hb
    ·cases hb
    ·rename_i EN;have e2:=ah EN;split at hb
     ·cases hb
     ·rename_i l' hl;split at hb
      ·cases hb
      ·rename_i EO;have e3:=ah EO;have fin:(l',pX,m')=(l,hh,m)∧¬(mx.isSome=true∧hi=none):=by
        cases mx <;> cases hi <;> first |(cases hb;done) |(cases hb;exact⟨rfl,by simp⟩)
       obtain⟨fin,eE⟩:=fin;cases fin;refine⟨e3,e2,e1,?_,?_,?_,?_⟩
       ·intro e;subst e;simpa[tG]using hm.symm
       ·cases mx <;> cases MX <;> simp only[mZ]at h3
        ·simpa[tG,xg]using hm.symm
        ·exact⟨Bi h3 (by simpa[tG]using hm),e1⟩
       ·cases hi <;> cases HI <;> simp only[mZ]at h2
        ·refine⟨by simpa[tG]using Uf.symm,?_⟩;cases mx with
         |none=>cases MX with |none=>rfl |some V=>simp only[mZ]at h3
         |some v=>simp at eE
        ·exact⟨Bi h2 (by simpa[tG]using Uf),e2⟩
       ·cases lo <;> cases LO <;> simp only[mZ]at h1
        ·simpa[tG,xa]using hl.symm
        ·exact⟨Bi h1 (by simpa[tG]using hl),e3⟩
def w9 (ti:TI)(a:AV)(lo hi mx:Option AV)(h:Tr ABlk) (nx:Nat):R:=
 match ti with
 |.mk d _ _ _ fs=>match d with
  |.string=>match a with
   |.str len n=>match mx with
    |some _=>.fail
    |none=>match kp len len lo hi none with
     |some (l,hh,_)=>fN (Nat.sub hh l) fun k=>fN (Nat.mod (Nat.div n (Nat.pow 256 l)) (Nat.pow 256 k)) fun m=>.val (.str k m) h nx
     |none=>.fail
   |.bs b=>match mx with
    |some _=>.fail
    |none=>match kp b.size b.size lo hi none with
     |some (l,hh,_)=>.val (.bs (b.extract l hh)) h nx
     |none=>.fail
   |_=>.fail
  |.slice _=>match fs with
   |[]=>.fail
   |(_,s,_)::_=>match a with
    |.sl0=>match kp 0 0 lo hi mx with
     |some (_,_,_)=>.val .sl0 h nx
     |none=>.fail
    |.fz es full xs=>match Nat.beq es s with
     |false=>.fail
     |true=>match mx with
      |some _=>match kp xs.length xs.length lo hi mx with
       |some (l,hh,m)=>.val (.fz es (Nat.beq hh m) ((xs.drop l).take (Nat.sub hh l))) h nx
       |none=>.fail
      |none=>match kp xs.length xs.length lo hi none with
       |some (l,hh,_)=>.val (.fz es (match full with |true=>Nat.beq hh xs.length |false=>false) ((xs.drop l).take (Nat.sub hh l))) h nx
       |none=>.fail
    |.sl i o len c false=>match kp len c lo hi mx with
     |some (l,hh,m)=>fN (Nat.sub hh l) fun k=>fN (Nat.sub m l) fun c'=>match Nat.beq m l with
      |true=>.val (.sl i o k c' false) h nx
      |false=>fN (Nat.add o (Nat.mul l s)) fun o'=>.val (.sl i o' k c' false) h nx
     |none=>.fail
    |.sl i o len c true=>match mx with
     |some _=>match kp len len lo hi mx with
      |some (l,hh,m)=>fN (Nat.sub hh l) fun k=>fN (Nat.sub m l) fun c'=>match Nat.beq m l with
       |true=>.val (.sl i o k c' false) h nx
       |false=>fN (Nat.add o (Nat.mul l s)) fun o'=>.val (.sl i o' k c' false) h nx
      |none=>.fail
     |none=>match kp len len lo hi none with
      |some (l,hh,_)=>fN (Nat.sub hh l) fun k=>fN (Nat.add c l) fun c'=>match Nat.beq l 0 with
       |true=>.val (.sl i o k c' true) h nx
       |false=>match Nat.ble (Nat.succ l) len with
        |true=>fN (Nat.add o (Nat.mul l s)) fun o'=>.val (.sl i o' k c' true) h nx
        |false=>.fail
      |none=>.fail
    |_=>.fail
  |.array n _=>match fs with
   |[]=>.fail
   |(_,s,_)::_=>match a with
    |.ptr i o=>match kp n n lo hi mx with
     |some (l,hh,m)=>fN (Nat.sub hh l) fun k=>fN (Nat.sub m l) fun c'=>match Nat.beq m l with
      |true=>.val (.sl i o k c' false) h nx
      |false=>fN (Nat.add o (Nat.mul l s)) fun o'=>.val (.sl i o' k c' false) h nx
     |none=>.fail
    |_=>.fail
  |_=>.fail
theorem mX {a b:Nat}(e:Nat.beq a b=false):a≠b:=fun e'=>by subst e';simp at e
theorem fL.drop {es:Nat}:∀{L D:List Value}(n:Nat),fL es L D→fL es (L.drop n) (D.drop (n * es))
 |L,D,0,h=>by simpa using h
 |[],D,n+1,h=>by simp[fL]
 |Y::L,D,n+1,h=>by
  simp only[fL]at h;have:=fL.drop n h.2.2;rw[List.drop_drop]at this;rw[show (n+1) * es=es+n * es by rw[Nat.succ_mul,Nat.add_comm]];exact this
theorem fL.take {es:Nat}:∀{L D:List Value}(n:Nat),fL es L D→fL es (L.take n) D
 |L,D,0,h=>by simp[fL]
 |[],D,n+1,h=>by simp[fL]
 |Y::L,D,n+1,h=>by
  simp only[fL,List.take_succ_cons]at h ⊢;exact⟨h.1,h.2.1,h.2.2.take n⟩
theorem av.fz_part {es:Nat}{full:Bool}{xs:List AV}{a:Option Addr}{n cap:Nat}(ha:av σ (.fz es full xs) (.slice a n cap)){l hh m:Nat}(e1:l≤hh)(e2:hh≤xs.length)(e3:hh≤m)(xy:Bool)(hf:xy=true→hh=m)(a':Option Addr)
  (e4:l<hh→a'=a.map (·.add (l * es))) (e5:a'=none→m=l):av σ (.fz es xy ((xs.drop l).take (hh-l))) (.slice a' (hh-l) (m-l)):=by
 simp only[av]at ha ⊢;obtain⟨a0,qac,e,h1,h2,h4,h3⟩:=ha;cases e;have hlen:((xs.drop l).take (hh-l)).length=hh-l:=by simp;omega
 refine⟨a',m-l,by rw[hlen],by rw[hlen];omega,fun h=>by rw[hlen,hf h],fun h=>by rw[e5 h];omega,fun h=>?_⟩
 ·rw[hlen]at h;obtain⟨b,o,C,L,ea,i1,i2,i3⟩:=h3 (by omega);subst ea;have e4:=e4 (by omega);simp only[Option.map_some,iM]at e4;refine⟨b,o+l * es,C,(L.drop l).take (hh-l),e4,i1,(i2.drop l).take _,?_⟩;have:=(i3.drop l).take (hh-l);rw[List.drop_drop]at this;exact this
theorem zRi (hk:Ok G σ h nx w)(t:TypeId){ti:TI}(ht:cJ P t ti){a:AV}{A:Value}(ha:av σ a A){lo hi mx:Option AV}{LO HI MX:Option Value}
  (h1:mZ σ lo LO) (h2:mZ σ hi HI) (h3:mZ σ mx MX):RV P G σ h nx w (Instr.sliceAt t A LO HI MX) (w9 ti a lo hi mx h nx):=by
 cases ti with
 |mk d size bytes zero fs=>
 obtain⟨hu,inf,hi',hs,nB,eN,MZ,sf,he⟩:=ht;unfold w9;cases d <;> try trivial
 ·
  cases a <;> try trivial
  case bs b=>
   simp only[av]at ha;subst ha;cases mx with
   |some v=>trivial
   |none=>
    simp only;cases hb:kp b.size b.size lo hi none with
    |none=>trivial
    |some p=>
     obtain⟨l,hh,m⟩:=p;obtain⟨e1,e2,e3,e4,q1,q2,q3⟩:=wI h1 h2 h3 hb;have vQ:MX=none:=by cases MX with |none=>rfl |some V=>simp only[mZ]at h3
     subst vQ;have fe:=uM (P:=P) false b.size b.size q1 q2 q3 w;refine SV.pure hk (V:=.string (b.extract l hh)) ?_ (by simp only[av]);simp[Instr.sliceAt,run_underlying hu,Instr.slice,fe]
  rename_i len n;simp only[av]at ha;obtain⟨hn,e⟩:=ha;subst e;cases mx with
  |some v=>trivial
  |none=>
   simp only;cases hb:kp len len lo hi none with
   |none=>trivial
   |some p=>
    obtain⟨l,hh,m⟩:=p;obtain⟨e1,e2,e3,e4,q1,q2,q3⟩:=wI h1 h2 h3 hb;have vQ:MX=none:=by cases MX with |none=>rfl |some V=>simp only[mZ]at h3
    subst vQ;simp only[fN_eq];have fe:=uM (P:=P) false len len q1 q2 q3 w;refine SV.pure hk (V:=.string (bE (hh-l) (n / 256 ^ l % 256 ^ (hh-l)))) ?_ ?_
    ·simp[Instr.sliceAt,run_underlying hu,Instr.slice,tw,fe,Z1 (show hh≤len by omega)]
    ·simp only[av];exact⟨Nat.mod_lt _ (Nat.pow_pos (by decide)),rfl⟩
 ·
  rename_i elem;cases fs with
  |nil=>trivial
  |cons p fs=>
  obtain⟨o0,s,b0⟩:=p;have dL:=he elem (.inl rfl) o0 s b0 rfl;cases a <;> try trivial
  case fz es full xs=>
   simp only;cases sd:Nat.beq es s with
   |false=>trivial
   |true=>
    have zE:=ad sd;subst zE;have pT:=ha;simp only[av]at pT;obtain⟨a,cap,e,g1,g2,g4,_⟩:=pT;subst e;simp only;cases mx with
    |some v=>
     simp only;cases hb:kp xs.length xs.length lo hi (some v) with
     |none=>trivial
     |some p=>
      obtain⟨l,hh,m⟩:=p;obtain⟨e1,e2,e3,e4,q1,q2,q3⟩:=wI h1 h2 h3 hb;have OC:xg cap m MX:=by
       cases MX with
       |none=>simp only[mZ]at h3
       |some V=>exact⟨q1.1,by omega⟩
      have fe:=uM (P:=P) true xs.length cap OC q2 q3 w;refine SV.pure hk (V:=.slice (if m=l then a else a.map (·.add (l * es))) (hh-l) (m-l)) ?_ ?_
      ·by_cases fF:m=l
       ·subst fF;simp[Instr.sliceAt,run_underlying hu,Instr.slice,fe,dL.size]
       ·cases a with
        |none=>exact absurd (g4 rfl) (by omega)
        |some a=>simp[Instr.sliceAt,run_underlying hu,Instr.slice,fe,dL.size,fF]
      ·refine ha.fz_part e1 (by omega) (by omega) _ (fun h=>ad h) _ (fun hl=>?_) (fun hn=>?_)
       ·rw[if_neg (by omega)]
       ·by_cases fF:m=l
        ·exact fF
        ·rw[if_neg fF]at hn;cases a with
         |none=>exact absurd (g4 rfl) (by omega)
         |some a=>simp at hn
    |none=>
     simp only;cases hb:kp xs.length xs.length lo hi none with
     |none=>trivial
     |some p=>
      obtain⟨l,hh,m⟩:=p;obtain⟨e1,e2,e3,e4,q1,q2,q3⟩:=wI h1 h2 h3 hb;have vQ:MX=none:=by cases MX with |none=>rfl |some V=>simp only[mZ]at h3
      subst vQ;have pe:yD xs.length hh cap none HI:=by
       cases HI with
       |none=>exact q2
       |some V=>exact⟨q2.1,by omega⟩
      have fe:=uM (P:=P) true xs.length cap (mx:=none) (m:=cap) (show xg _ _ none from rfl) pe q3 w;refine SV.pure hk (V:=.slice (if cap=l then a else a.map (·.add (l * es))) (hh-l) (cap-l)) ?_ ?_
      ·by_cases fF:cap=l
       ·subst fF;simp[Instr.sliceAt,run_underlying hu,Instr.slice,fe,dL.size]
       ·cases a with
        |none=>exact absurd (g4 rfl) (by omega)
        |some a=>simp[Instr.sliceAt,run_underlying hu,Instr.slice,fe,dL.size,fF]
      ·refine ha.fz_part e1 (by omega) (by omega) _ (fun h=>?_) _ (fun hl=>?_) (fun hn=>?_)
       ·cases full with
        |false=>simp at h
        |true=>
         have:=ad h;rw[g2 rfl,this]
       ·rw[if_neg (by omega)]
       ·by_cases fF:cap=l
        ·exact fF
        ·rw[if_neg fF]at hn;cases a with
         |none=>exact absurd (g4 rfl) (by omega)
         |some a=>simp at hn
  ·simp only[av]at ha;subst ha;simp only;cases hb:kp 0 0 lo hi mx with
   |none=>trivial
   |some p=>
    obtain⟨l,hh,m⟩:=p;obtain⟨e1,e2,e3,e4,q1,q2,q3⟩:=wI h1 h2 h3 hb;have fe:=uM (P:=P) true 0 0 q1 q2 q3 w;have z1:l=0:=by omega
    have z2:hh=0:=by omega
    have z3:m=0:=by omega
    refine SV.pure hk (V:=.slice none 0 0) ?_ (by simp only[av]);simp[Instr.sliceAt,run_underlying hu,Instr.slice,fe,dL.size,z1,z2,z3]
  ·rename_i i o len c opn;simp only[av]at ha;obtain⟨bb,fC,e,gP⟩:=ha;subst e;cases opn with
   |false=>
    simp only[Bool.false_eq_true,if_false]at gP ⊢;cases hb:kp len c lo hi mx with
    |none=>trivial
    |some p=>
     obtain⟨l,hh,m⟩:=p;obtain⟨e1,e2,e3,e4,q1,q2,q3⟩:=wI h1 h2 h3 hb;have fe:=uM (P:=P) true len c q1 q2 q3 w;simp only[fN_eq];cases fF:Nat.beq m l with
     |true=>
      have:=ad fF;subst this;refine SV.pure hk (V:=.slice (some ⟨bb,o,none⟩) (hh-m) (m-m)) ?_ ?_
      ·simp[Instr.sliceAt,run_underlying hu,Instr.slice,fe,dL.size]
      ·simp only[av,Bool.false_eq_true,if_false];exact⟨bb,fC,rfl,Nat.sub_le_sub_right e2 _⟩
     |false=>
      have aQ:=mX fF;refine SV.pure hk (V:=.slice (some ⟨bb,o+l * s,none⟩) (hh-l) (m-l)) ?_ ?_
      ·simp[Instr.sliceAt,run_underlying hu,Instr.slice,fe,dL.size,aQ,iM]
      ·simp only[av,Bool.false_eq_true,if_false];exact⟨bb,fC,rfl,Nat.sub_le_sub_right e2 _⟩
   |true=>
    simp only[if_true]at gP ⊢;cases mx with
    |some v=>
     simp only;cases hb:kp len len lo hi (some v) with
     |none=>trivial
     |some p=>
      obtain⟨l,hh,m⟩:=p;obtain⟨e1,e2,e3,e4,q1,q2,q3⟩:=wI h1 h2 h3 hb;have OC:xg (σ.cap i-c) m MX:=by
       cases MX with
       |none=>simp only[mZ]at h3
       |some V=>exact⟨q1.1,by omega⟩
      have fe:=uM (P:=P) true len (σ.cap i-c) OC q2 q3 w;simp only[fN_eq];cases fF:Nat.beq m l with
      |true=>
       have:=ad fF;subst this;refine SV.pure hk (V:=.slice (some ⟨bb,o,none⟩) (hh-m) (m-m)) ?_ ?_
       ·simp[Instr.sliceAt,run_underlying hu,Instr.slice,fe,dL.size]
       ·simp only[av,Bool.false_eq_true,if_false];exact⟨bb,fC,rfl,Nat.sub_le_sub_right e2 _⟩
      |false=>
       have aQ:=mX fF;refine SV.pure hk (V:=.slice (some ⟨bb,o+l * s,none⟩) (hh-l) (m-l)) ?_ ?_
       ·simp[Instr.sliceAt,run_underlying hu,Instr.slice,fe,dL.size,aQ,iM]
       ·simp only[av,Bool.false_eq_true,if_false];exact⟨bb,fC,rfl,Nat.sub_le_sub_right e2 _⟩
    |none=>
     have vQ:MX=none:=by cases MX with |none=>rfl |some V=>simp only[mZ]at h3
     subst vQ;simp only;cases hb:kp len len lo hi none with
     |none=>trivial
     |some p=>
      obtain⟨l,hh,m⟩:=p;obtain⟨e1,e2,e3,e4,q1,q2,q3⟩:=wI h1 h2 h3 hb;have pe:yD len hh (σ.cap i-c) none HI:=by
       cases HI with
       |none=>exact q2
       |some V=>exact⟨q2.1,by omega⟩
      have fe:=uM (P:=P) true len (σ.cap i-c) (mx:=none) (m:=σ.cap i-c) (show xg _ _ none from rfl) pe q3 w;simp only[fN_eq];cases l7:Nat.beq l 0 with
      |true=>
       have:=ad l7;subst this;refine SV.pure hk (V:=.slice (some ⟨bb,o,none⟩) (hh-0) (σ.cap i-c-0)) ?_ ?_
       ·simp[Instr.sliceAt,run_underlying hu,Instr.slice,fe,dL.size,iM]
       ·simp only[av,if_true];exact⟨bb,fC,by simp,by show hh-0≤σ.cap i-(c+0);omega⟩
      |false=>
       simp only;cases Ix:Nat.ble (Nat.succ l) len with
       |false=>trivial
       |true=>
        have az:l<len:=ah Ix;have aQ:¬σ.cap i-c=l:=by omega
        refine SV.pure hk (V:=.slice (some ⟨bb,o+l * s,none⟩) (hh-l) (σ.cap i-c-l)) ?_ ?_
        ·simp[Instr.sliceAt,run_underlying hu,Instr.slice,fe,dL.size,aQ,iM]
        ·simp only[av,if_true];exact⟨bb,fC,by rw[Nat.sub_sub];rfl,by show hh-l≤σ.cap i-(c+l);omega⟩
 ·
  rename_i n elem;cases fs with
  |nil=>trivial
  |cons p fs=>
  obtain⟨o0,s,b0⟩:=p;have dL:=he elem (.inr (.inl ⟨n,rfl⟩)) o0 s b0 rfl;cases a <;> try trivial
  rename_i i o;simp only[av]at ha;obtain⟨bb,fC,e⟩:=ha;subst e;simp only;cases hb:kp n n lo hi mx with
  |none=>trivial
  |some p=>
   obtain⟨l,hh,m⟩:=p;obtain⟨e1,e2,e3,e4,q1,q2,q3⟩:=wI h1 h2 h3 hb;have fe:=uM (P:=P) false n n q1 q2 q3 w;simp only[fN_eq];cases fF:Nat.beq m l with
   |true=>
    have:=ad fF;subst this;refine SV.pure hk (V:=.slice (some ⟨bb,o,none⟩) (hh-m) (m-m)) ?_ ?_
    ·simp[Instr.sliceAt,run_underlying hu,Instr.sureAddr,fe,dL.size]
    ·simp only[av,Bool.false_eq_true,if_false];exact⟨bb,fC,rfl,Nat.sub_le_sub_right e2 _⟩
   |false=>
    have aQ:=mX fF;refine SV.pure hk (V:=.slice (some ⟨bb,o+l * s,none⟩) (hh-l) (m-l)) ?_ ?_
    ·simp[Instr.sliceAt,run_underlying hu,Instr.sureAddr,fe,dL.size,aQ,iM]
    ·simp only[av,Bool.false_eq_true,if_false];exact⟨bb,fC,rfl,Nat.sub_le_sub_right e2 _⟩
def vInt (n:Nat)(h:Tr ABlk) (nx:Nat):R:=fN n fun n=>.val (.int .i64 (Int.ofNat n)) h nx
theorem wH (hk:Ok G σ h nx w){n:Nat}{m:Sem Value}(hm:m.run P w=.ok (goInt n) w):RV P G σ h nx w m (vInt n h nx):=by
 unfold vInt;rw[fN_eq];exact SV.pure hk (V:=goInt n) hm (by simp only[av];rfl)
theorem di.length {σ:Sg}:∀{l E},di σ l E→E.length=l.length
 |[],E,h=>by simp only[di]at h;subst h;rfl
 |(k,v,n)::l,E,h=>by
  simp only[di]at h;obtain⟨K,V,E',e,_,_,h3⟩:=h;subst e;simp[h3.length]
theorem Ok.map (hk:Ok G σ h nx w){i cl:Nat}{es:List (AV×AV×Nat)}(hi:h.get i=some (.map es cl)):
  ∃b E,σ.blk i=some b∧w.heap[b]?=some (.map (List.toArray E) cl)∧di σ es E:=by
 obtain⟨b,o,hb,ho,hr⟩:=hk.blk i _ hi;simp only[bX]at hr;obtain⟨E,e,h1⟩:=hr;subst e;exact⟨b,E,hb,ho,h1⟩
def lP (ti:TI)(a:AV)(h:Tr ABlk) (nx:Nat):R:=
 match ti with
 |.mk d _ _ _ _=>match d with
  |.string=>match a with
   |.str l _=>vInt l h nx
   |.bs b=>.val (.int .i64 (Int.ofNat b.size)) h nx
   |_=>.fail
  |.array n _=>vInt n h nx
  |.slice _=>match a with
   |.sl0=>vInt 0 h nx
   |.fz _ _ xs=>.val (.int .i64 (Int.ofNat xs.length)) h nx
   |.sl _ _ l _ _=>vInt l h nx
   |_=>.fail
  |.map _ _=>match a with
   |.map0=>vInt 0 h nx
   |.map i=>match h.get i with
    |some (.map es _)=>vInt es.length h nx
    |_=>.fail
   |_=>.fail
  |_=>.fail
theorem zL0 (hk:Ok G σ h nx w){t:TypeId}{ti:TI}(ht:cJ P t ti){a:AV}{A:Value}(ha:av σ a A)(ts:Array TypeId)(eG:ts[0]?=some t)(ty:TypeId):
  RV P G σ h nx w (Builtin.len_ ts ty #[A]) (lP ti a h nx):=by
 cases ti with
 |mk d size bytes zero fs=>
 obtain⟨hu,_⟩:=ht;unfold lP;cases d <;> try trivial
 ·cases a <;> try trivial
  case bs b=>
   simp only[av]at ha;subst ha;exact SV.pure hk (V:=goInt b.size) (by simp[Builtin.len_,eG,run_underlying hu]) (by simp only[av];rfl)
  simp only[av]at ha;obtain⟨_,e⟩:=ha;subst e;exact wH hk (by simp[Builtin.len_,eG,run_underlying hu,tw])
 ·cases a <;> try trivial
  case fz es full xs=>
   simp only[av]at ha;obtain⟨a,cap,e,_⟩:=ha;subst e;exact SV.pure hk (V:=goInt xs.length) (by simp[Builtin.len_,eG,run_underlying hu]) (by simp only[av];rfl)
  ·simp only[av]at ha;subst ha;exact wH hk (by simp[Builtin.len_,eG,run_underlying hu])
  ·simp only[av]at ha;obtain⟨b,_,e,_⟩:=ha;subst e;exact wH hk (by simp[Builtin.len_,eG,run_underlying hu])
 ·exact wH hk (by simp[Builtin.len_,eG,run_underlying hu])
 ·cases a <;> try trivial
  ·simp only[av]at ha;subst ha;exact wH hk (by simp[Builtin.len_,eG,run_underlying hu])
  ·rename_i i;simp only[av]at ha;obtain⟨b,hb,e⟩:=ha;subst e;simp only;split
   ·rename_i es cl hg;obtain⟨b',E,aS,hh,hr⟩:=hk.map hg;rw[hb]at aS;cases aS;refine wH hk ?_;simp[Builtin.len_,eG,run_underlying hu,getObj,Sem.run,hh,hr.length]
   ·trivial
def yG (ti:TI)(a:AV)(h:Tr ABlk) (nx:Nat):R:=
 match ti with
 |.mk d _ _ _ _=>match d with
  |.slice _=>match a with
   |.sl0=>vInt 0 h nx
   |.sl _ _ _ c false=>vInt c h nx
   |_=>.fail
  |_=>.fail
theorem zQu (hk:Ok G σ h nx w){t:TypeId}{ti:TI}(ht:cJ P t ti){a:AV}{A:Value}(ha:av σ a A)(ts:Array TypeId)(eG:ts[0]?=some t)(ty:TypeId):
  RV P G σ h nx w (Builtin.cap_ ts ty #[A]) (yG ti a h nx):=by
 cases ti with
 |mk d size bytes zero fs=>
 obtain⟨hu,_⟩:=ht;unfold yG;cases d <;> try trivial
 cases a <;> try trivial
 ·simp only[av]at ha;subst ha;exact wH hk (by simp[Builtin.cap_,eG,run_underlying hu])
 ·rename_i opn;simp only[av]at ha;obtain⟨b,_,e,_⟩:=ha;subst e;cases opn with
  |true=>trivial
  |false=>exact wH hk (by simp[Builtin.cap_,eG,run_underlying hu])
def uZ (l:Nat):Nat→List AV:=
 Nat.rec (motive:=fun _=>Nat→List AV) (fun _=>[]) (fun _ ih n=>fN (Nat.mod n 256) fun b=>.int .u8 (Int.ofNat b)::fN (Nat.div n 256) ih) l
theorem JN:∀(l n:Nat),aC σ (uZ l n) ((cC l n).map fun b=>.int .u8 b.toNat):=by
 intro l
 induction l with
 |zero=>intro n;simp[uZ,cC,aC]
 |succ l ih=>
  intro n;show aC σ (fN (n % 256) fun b=>.int .u8 (Int.ofNat b)::fN (n / 256) (uZ l)) _;rw[fN_eq,fN_eq,qW,List.map_cons,u8 (Nat.mod_lt _ (by decide))];simp only[aC,av];exact⟨_,_,rfl,rfl,ih _⟩
theorem JB (l n:Nat):(uZ l n).length=l:=by
 have:=(JN (σ:=⟨fun _=>none,fun _=>0,fun _=>.nilFunc,fun _=>none⟩) l n).length;simpa[ml]using this.symm
def uD:AV→Option Nat
 |.int .u8 (.ofNat b)=>match Nat.ble b 255 with
  |true=>some b
  |false=>none
 |_=>none
theorem Sc {v:AV}{V:Value}{b:Nat}(hr:av σ v V)(hb:uD v=some b):b≤255∧V=.int .u8 (Int.ofNat b):=by
 unfold uD at hb;split at hb
 ·split at hb
  ·rename_i b' hle;cases hb;simp only[av]at hr;exact⟨ah hle,hr⟩
  ·cases hb
 ·cases hb
def pF (l:List AV):Option Nat:=
 List.rec (motive:=fun _=>Option Nat) (some 0) (fun v _ ih=>match uD v with
  |some b=>match ih with
   |some n=>some (Nat.add b (Nat.mul 256 n))
   |none=>none
  |none=>none) l
theorem Qx (v:AV)(l:List AV):pF (v::l)=match uD v with
  |some b=>match pF l with
   |some n=>some (Nat.add b (Nat.mul 256 n))
   |none=>none
  |none=>none:=rfl
theorem J8:∀{l:List AV}{L:List Value}{n:Nat},aC σ l L→pF l=some n→
  n<256 ^ l.length∧∃ns:List Int,L=ns.map (Value.int .u8)∧ns.map (fun z=>UInt8.ofNat z.toNat)=cC l.length n
 |[],L,n,hr,hn=>by
  cases hn;simp only[aC]at hr;subst hr;exact⟨by simp,[],rfl,by simp[cC]⟩
 |v::l,L,n,hr,hn=>by
  simp only[aC]at hr;obtain⟨V,L',e,h1,h2⟩:=hr;subst e;rw[Qx]at hn;cases zx:uD v with
  |none=>rw[zx]at hn;cases hn
  |some b=>
   rw[zx]at hn;obtain⟨hb,e1⟩:=Sc h1 zx;subst e1;cases dK:pF l with
   |none=>rw[dK]at hn;cases hn
   |some n'=>
    rw[dK]at hn;cases hn;obtain⟨a1,ns,a2,a3⟩:=J8 h2 dK;have e1:(b+256 * n') % 256=b:=by omega
    have e2:(b+256 * n') / 256=n':=by omega
    refine⟨?_,Int.ofNat b::ns,by rw[List.map_cons,a2],?_⟩
    ·rw[List.length_cons,Nat.pow_succ];show b+256 * n' < _;omega
    ·rw[List.map_cons,a3,List.length_cons,qW];show _=UInt8.ofNat ((b+256 * n') % 256)::cC l.length ((b+256 * n') / 256);rw[e1,e2];rfl
def Dy (ts td:TI)(te:Option TI)(et:TypeId)(v:AV)(h:Tr ABlk) (nx:Nat):R:=
 match ts,td with
 |.mk ds _ _ _ _,.mk dd _ _ _ _=>match dd with
  |.int k=>match v with
   |.int _ n=>fI (nQ k n) fun z=>.val (.int k z) h nx
   |_=>.fail
  |.string=>match v with
   |.str l n=>.val (.str l n) h nx
   |.bs b=>.val (.bs b) h nx
   |.sl0=>match ds,te with
    |.slice e,some (.mk (.int .u8) _ _ _ _)=>match Nat.beq e et with
     |true=>.val (.str 0 0) h nx
     |false=>.fail
    |_,_=>.fail
   |.sl i o l _ _=>match ds,te with
    |.slice e,some (.mk (.int .u8) _ _ _ _)=>match Nat.beq e et with
     |true=>match h.get i with
      |some (.cells _ n c _ _)=>match Nat.ble (Nat.add o l) n with
       |true=>match iI c l o with
        |some cs=>match pF cs with
         |some m=>fN m fun m=>.val (.str l m) h nx
         |none=>.fail
        |none=>.fail
       |false=>.fail
      |_=>.fail
     |false=>.fail
    |_,_=>.fail
   |_=>.fail
  |.slice e=>match v with
   |.str l n=>match ds,te with
    |.string,some (.mk (.int .u8) _ _ _ _)=>match Nat.beq e et with
     |true=>qV (uZ l n) .nil 0 fun c=>h.putK (some (.cells e l c true 1)) nx fun h'=>fN (Nat.succ nx) fun ax=>.val (.sl nx 0 l 0 true) h' ax
     |false=>.fail
    |_,_=>.fail
   |_=>.fail
  |_=>.fail
theorem C8 (w:World) (n old:Nat)(e:TypeId):n≤grownCap w n old e:=by
 show n≤n+_ % _;omega
theorem Bo {b o n:Nat}{C:Array Value}{e:TypeId}{fr:Nat×Nat}{c:Tr AV}(aF:w.heap[b]?=some (.cells C e fr))
  (aK:∀k,k<n→∃v V,c.get k=some v∧C[k]?=some V∧av σ v V) {size:Nat} (hle:o+size≤n) {l:List AV} (hl:iI c size o=some l):
  l.length=size∧∃L:List Value,aC σ l L∧(loadCells ⟨b,o,none⟩ size).run P w=.ok L.toArray w∧∀j u,L[j]?=some u→w.cell? ((⟨b,o,none⟩:Addr).add j)=some u:=by
 obtain⟨hlen,bA⟩:=Ql c size o l hl;refine⟨hlen,(List.range size).map fun k=>C.getD (o+k) undef,?_,?_⟩
 ·refine aC.of_get (by simp[hlen]) fun k v V h1 h2=>?_;have aU:k<size:=by
   rcases Nat.lt_or_ge k l.length with h3 |h3
   ·omega
   ·rw[List.getElem?_eq_none h3]at h1;cases h1
  obtain⟨v',V',e1,e2,e3⟩:=aK (o+k) (by omega);rw[bA k aU,h1]at e1;cases e1;have:V=V':=by
   simp[aU,Array.getD_eq_getD_getElem?,e2]at h2;exact h2.symm
  subst this;exact e3
 ·have hc:∀j u,((List.range size).map fun k=>C.getD (o+k) undef)[j]?=some u→w.cell? ((⟨b,o,none⟩:Addr).add j)=some u:=by
   intro j u hj;have xV:j<size:=by
    rcases Nat.lt_or_ge j size with h3 |h3
    ·exact h3
    ·rw[List.getElem?_eq_none (by simp;omega)]at hj;cases hj
   obtain⟨v',V',e1,e2,e3⟩:=aK (o+j) (by omega);rw[iM,nO aF,e2];simp[xV,Array.getD_eq_getD_getElem?,e2]at hj;rw[hj]
  refine⟨?_,hc⟩;have:=run_loadCells_list (P:=P) w ⟨b,o,none⟩ _ hc;simpa using this
theorem zUg (hk:Ok G σ h nx w){s d:TypeId}{ts td:TI}(eG:cJ P s ts)(mO:cJ P d td){te:Option TI}{et:TypeId}(iG:∀ti,te=some ti→cJ P et ti){v:AV}{V:Value}(hv:av σ v V):
  RV P G σ h nx w (convert s d V) (Dy ts td te et v h nx):=by
 cases ts with
 |mk ds s1 s2 s3 s4=>
 cases td with
 |mk dd d1 d2 d3 d4=>
 obtain⟨kR,As⟩:=eG;obtain⟨kQ,Ar⟩:=mO;clear As Ar;unfold Dy;cases dd <;> try trivial
 ·
  rename_i k;cases v <;> try trivial
  rename_i k' n;simp only[av]at hv;subst hv;simp only[fI_eq];exact SV.pure hk (V:=.int k (nQ k n)) (by simp[convert,run_underlying kR,run_underlying kQ,Conv.intToInt,pE]) (by simp only[av])
 ·
  cases v <;> try trivial
  case bs b=>
   have bF:=hv;simp only[av]at hv;subst hv;exact SV.pure hk (V:=.string b) (by cases ds <;> simp[convert,run_underlying kR,run_underlying kQ]) bF
  ·rename_i l n;have bF:=hv;simp only[av]at hv;obtain⟨hn,e⟩:=hv;subst e;exact SV.pure hk (V:=.string (bE l n)) (by cases ds <;> simp[convert,run_underlying kR,run_underlying kQ]) bF
  ·simp only[av]at hv;subst hv;simp only;split
   ·rename_i e q1 q2 q3 q4;cases dG:Nat.beq e et with
    |false=>trivial
    |true=>
     have:=ad dG;subst this;obtain⟨nH,_⟩:=iG _ rfl;refine SV.pure hk (V:=.string .empty) ?_ (by simp only[av];exact⟨by simp,rfl⟩);rw[run_convert_bytes_string w s d e none 0 0 kR nH kQ];simp[Conv.bytesToString]
   ·trivial
  ·rename_i i o l c opn;simp only[av]at hv;obtain⟨b,hb,e,gP⟩:=hv;subst e;clear gP;generalize (if opn=true then σ.cap i-c else c)=cc;simp only;split
   ·rename_i e q1 q2 q3 q4;cases dG:Nat.beq e et with
    |false=>trivial
    |true=>
     have:=ad dG;subst this;obtain⟨nH,_⟩:=iG _ rfl;simp only;split
     ·rename_i e' n c' bu esz hg;obtain⟨b',C,fr,aS,aF,aK,_,_⟩:=hk.cells hg;rw[hb]at aS;cases aS;cases hle:Nat.ble (Nat.add o l) n with
      |false=>trivial
      |true=>
       simp only;cases Fi:iI c' l o with
       |none=>trivial
       |some cs=>
        simp only;cases uc:pF cs with
        |none=>trivial
        |some m=>
         simp only[fN_eq];obtain⟨hlen,L,iR,kM,_⟩:=Bo (P:=P) aF aK (ah hle) Fi;obtain⟨hm,ns,hL,ot⟩:=J8 iR uc;rw[hlen]at hm ot;refine SV.pure hk (V:=.string (bE l m)) ?_ (by simp only[av];exact⟨hm,trivial⟩);rw[run_convert_bytes_string w s d e _ _ _ kR nH kQ,run_bytesToString w _ l _ ns (by rw[kM,hL])]
         congr 2
         have hf:∀(ns:List Int) (s:ByteArray),(ns.foldl (fun r n=>r.push (UInt8.ofNat n.toNat)) s).data=s.data++(ns.map fun n=>UInt8.ofNat n.toNat).toArray:=by
          intro ns
          induction ns with
          |nil=>intro s;simp
          |cons z ns ih=>intro s;rw[List.foldl_cons,ih];simp[ByteArray.push]
         apply ByteArray.ext;rw[hf,ot];show #[]++(cC l m).toArray=(cC l m).toArray;simp
     ·trivial
   ·trivial
 ·
  rename_i e;cases v <;> try trivial
  rename_i l n;simp only[av]at hv;obtain⟨hn,e1⟩:=hv;subst e1;simp only;split
  ·rename_i q1 q2 q3 q4;cases dG:Nat.beq e et with
   |false=>trivial
   |true=>
    have:=ad dG;subst this;obtain⟨nH,_⟩:=iG _ rfl;simp only[kY,Tr.putK_eq,fN_eq];have aO:=run_bytes_of_string (P:=P) w s d e (bE l n) kR kQ nH;rw[tw]at aO;generalize eJ:grownCap w l 0 e=cap at aO;have lD:l≤cap:=eJ ▸ C8 w l 0 e;have bI:(bytesRow (bE l n) cap).size=cap:=by
     simp only[bytesRow,Array.size_append,Array.size_map,Array.size_replicate];have:(bE l n).data.size=l:=tw l n;rw[this,tw];omega
    have hd:=Post.drawn hk (w.drawn+1);have ha:=Post.alloc hd.ok cap (.cells e l (ef (uZ l n) .nil 0) true 1) (.cells (bytesRow (bE l n) cap) e ((bytesRow (bE l n) cap).size,(bytesRow (bE l n) cap).size+1)) (by
     simp only[bX];refine⟨_,_,rfl,fun k aU=>?_,fun k aU=>by omega,?_⟩
     ·obtain⟨v,hv⟩:∃v,(uZ l n)[k]?=some v:=⟨(uZ l n)[k]'(by rw[JB];exact aU),by simp⟩;obtain⟨V,h1,h2⟩:=(JN (σ:=σ.add nx w.heap.size cap) l n).get hv;refine⟨v,V,?_,?_,h2⟩
      ·rw[pz,JB,if_pos (by omega)];simpa using hv
      ·have EY:(bE l n).data=(cC l n).toArray:=rfl;rw[bytesRow,Array.getElem?_append_left (by simp[EY,ml];exact aU),EY];simpa using h1
     ·rw[bI];simp[Sg.add];exact lD)
    refine⟨_,_,_,aO,?_,hd.trans ha⟩;simp only[av,if_true];refine⟨w.heap.size,by simp[Sg.add],by simp[Sg.add],by simp[Sg.add];exact lD⟩
  ·trivial
end
end Go.Ev
