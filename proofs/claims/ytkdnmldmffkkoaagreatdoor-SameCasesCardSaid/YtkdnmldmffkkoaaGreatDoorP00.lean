/- Texts. -/
import Derived.Tactics
import Derived.Orders
import Derived.Laws.AppendOwn
import Derived.Laws.Strings
set_option linter.all false
set_option maxRecDepth 100000
namespace Go.Ev
def ao (a b:Bool):((a&&b)=true)=(a=true∧b=true):=Bool.and_eq_true a b
def aj {α:Type _} {i:Nat} {l:List α} (h:i<l.length):List.drop i l=l[i]::List.drop (i+1) l:=List.drop_eq_getElem_cons h
def al {α:Type _} {i:Nat} {l:List α} (h:l.length≤i):List.drop i l=[]:=List.drop_of_length_le h
def au {α:Type _} {l:List α}:l.length=0→l=[]:=List.eq_nil_of_length_eq_zero
def ak {α:Type _} {l:List α} {i:Nat} {a:α}:l.getD i a=l[i]?.getD a:=List.getD_eq_getElem?_getD
def aa {α:Type _} {l:List α} {i:Nat} (h:i<l.length):l[i]?=some l[i]:=List.getElem?_eq_getElem h
def ah {α:Type _} {l:List α} {n:Nat} (h:n<l.length):l[n]∈l:=List.getElem_mem h
def an {α:Type _} (y:α) {a:α} {l:List α}:a∈l→a∈y::l:=List.mem_cons_of_mem y
def aq {α:Type _} {a:α} {l:List α}:a∈a::l:=List.mem_cons_self
def ar {α:Type _} {i:Nat} {l:List α} (h:l.length≤i):List.take i l=l:=List.take_of_length_le h
def ad {n m:Nat}:n.beq m=true→n=m:=Nat.eq_of_beq_eq_true
def ai {n m:Nat} (h:n.ble m=true):n≤m:=Nat.le_of_ble_eq_true h
def ae (n:Nat):n≤n:=Nat.le_refl n
end Go.Ev
namespace Go.Ev
inductive Tr (α:Type) where
 |nil
 |node (l:Tr α) (v:Option α) (r:Tr α)
noncomputable section
def pathF (f:Nat):Nat→List Bool:=
 Nat.rec (motive:=fun _=>Nat→List Bool) (fun _=>[]) (fun _ ih n=>Bool.rec (Bool.rec (false::ih (Nat.sub (Nat.div n 2) 1)) (true::ih (Nat.div n 2)) (Nat.beq (Nat.mod n 2) 1)) [] (Nat.beq n 0)) f
def path (n:Nat):List Bool:=pathF (Nat.succ n) n
def unpath:List Bool→Nat
 |[]=>0
 |true::p=>2 * unpath p+1
 |false::p=>2 * unpath p+2
def unpath_pathF:∀(f n:Nat),n<f→unpath (pathF f n)=n:=by
 intro f
 induction f with
 |zero=>intro n h;omega
 |succ f ih=>
  intro n h;show unpath (Bool.rec (Bool.rec (false::pathF f (n / 2-1)) (true::pathF f (n / 2)) (Nat.beq (n % 2) 1)) [] (Nat.beq n 0))=n
  by_cases h0:n=0
  ·subst h0;rfl
  ·have h1:Nat.beq n 0=false:=by cases n with |zero=>exact absurd rfl h0 |succ n=>rfl
   rw[h1]
   by_cases h2:n % 2=1
   ·rw[h2];show unpath (true::pathF f (n / 2))=n;rw[unpath,ih _ (by omega)];omega
   ·have h3:Nat.beq (n % 2) 1=false:=by
     have:n % 2=0:=(by omega);rw[this];rfl
    rw[h3];show unpath (false::pathF f (n / 2-1))=n;rw[unpath,ih _ (by omega)];omega
def path_inj {n m:Nat}(h:path n=path m):n=m:=by
 rw[← unpath_pathF (n+1) n (by omega),← unpath_pathF (m+1) m (by omega)];exact congrArg unpath h
namespace Tr
variable {α : Type} {β : Type}
def getP (t:Tr α):List Bool→Option α:=
 Tr.rec (motive:=fun _=>List Bool→Option α) (fun _=>none)
  (fun _ v _ gl gr p=>List.rec (motive:=fun _=>Option α) v (fun b q _=>Bool.rec (gr q) (gl q) b) p) t
def get (t:Tr α) (n:Nat):Option α:=getP t (path n)
def newP (x:Option α)(p:List Bool):Tr α:=
 List.rec (motive:=fun _=>Tr α) (.node .nil x .nil) (fun b _ ih=>Bool.rec (.node .nil none ih) (.node ih none .nil) b) p
def newK (x:Option α)(p:List Bool):(Tr α→β)→β:=
 List.rec (motive:=fun _=>(Tr α→β)→β) (fun k=>k (.node .nil x .nil)) (fun b _ ih k=>Bool.rec (ih fun t=>k (.node .nil none t)) (ih fun t=>k (.node t none .nil)) b) p
def putPK (t:Tr α)(x:Option α):List Bool→(Tr α→β)→β:=
 Tr.rec (motive:=fun _=>List Bool→(Tr α→β)→β) (fun p k=>newK x p k)
  (fun l v r sl sr p k=>List.rec (motive:=fun _=>β) (k (.node l x r)) (fun b q _=>Bool.rec (sr q fun r'=>k (.node l v r')) (sl q fun l'=>k (.node l' v r)) b) p) t
def putK (t:Tr α)(x:Option α) (n:Nat)(k:Tr α→β):β:=putPK t x (path n) k
def putP (t:Tr α)(p:List Bool)(x:Option α):Tr α:=putPK t x p id
def put (t:Tr α) (n:Nat)(x:Option α):Tr α:=putP t (path n) x
def get_nil (n:Nat):(Tr.nil:Tr α).get n=none:=rfl
def newK_eq (x:Option α):∀(p:List Bool)(β:Type)(k:Tr α→β),newK x p k=k (newP x p)
 |[],β,k=>rfl
 |true::p,β,k=>by show newK x p (fun t=>k (.node t none .nil))=_;rw[newK_eq];rfl
 |false::p,β,k=>by show newK x p (fun t=>k (.node .nil none t))=_;rw[newK_eq];rfl
def putPK_eq (x:Option α):∀(t:Tr α)(β:Type)(p:List Bool)(k:Tr α→β),putPK t x p k=k (t.putP p x):=by
 intro t
 induction t with
 |nil=>intro β p k;show newK x p k=k (newK x p id);rw[newK_eq,newK_eq];rfl
 |node l v r Jx Jy=>
  intro β p k
  match p with
  |[]=>rfl
  |true::q=>show putPK l x q (fun l'=>k (.node l' v r))=k (putPK l x q (fun l'=>id (Tr.node l' v r)));rw[Jx,Jx];rfl
  |false::q=>show putPK r x q (fun r'=>k (.node l v r'))=k (putPK r x q (fun r'=>id (Tr.node l v r')));rw[Jy,Jy];rfl
def putK_eq (x:Option α)(t:Tr α)(β:Type) (n:Nat)(k:Tr α→β):putK t x n k=k (t.put n x):=putPK_eq x t β (path n) k
def getP_newP (x:Option α):∀(p q:List Bool),(newP x p).getP q=if q=p then x else none
 |[],[]=>rfl
 |[],true::q=>rfl
 |[],false::q=>rfl
 |true::p,[]=>rfl
 |true::p,true::q=>by show (newP x p).getP q=_;rw[getP_newP];simp
 |true::p,false::q=>by show (Tr.nil:Tr α).getP q=_;simp;rfl
 |false::p,[]=>rfl
 |false::p,true::q=>by show (Tr.nil:Tr α).getP q=_;simp;rfl
 |false::p,false::q=>by show (newP x p).getP q=_;rw[getP_newP];simp
def getP_putP (x:Option α):∀(t:Tr α)(p q:List Bool),(t.putP p x).getP q=if q=p then x else t.getP q:=by
 intro t
 induction t with
 |nil=>intro p q;show (newK x p id).getP q=_;rw[newK_eq];exact getP_newP x p q
 |node l v r Jx Jy=>
  intro p q
  match p,q with
  |[],[]=>rfl
  |[],true::q=>rfl
  |[],false::q=>rfl
  |true::p,[]=>show (putPK l x p (fun l'=>id (Tr.node l' v r))).getP []=_;rw[putPK_eq];rfl
  |true::p,true::q=>
   show (putPK l x p (fun l'=>id (Tr.node l' v r))).getP (true::q)=_;rw[putPK_eq];show (l.putP p x).getP q=_;rw[Jx];show _=if true::q=true::p then x else l.getP q
   simp
  |true::p,false::q=>
   show (putPK l x p (fun l'=>id (Tr.node l' v r))).getP (false::q)=_;rw[putPK_eq];show r.getP q=if false::q=true::p then x else r.getP q
   simp
  |false::p,[]=>show (putPK r x p (fun r'=>id (Tr.node l v r'))).getP []=_;rw[putPK_eq];rfl
  |false::p,true::q=>
   show (putPK r x p (fun r'=>id (Tr.node l v r'))).getP (true::q)=_;rw[putPK_eq];show l.getP q=if true::q=false::p then x else l.getP q
   simp
  |false::p,false::q=>
   show (putPK r x p (fun r'=>id (Tr.node l v r'))).getP (false::q)=_;rw[putPK_eq];show (r.putP p x).getP q=_;rw[Jy];show _=if false::q=false::p then x else r.getP q
   simp
def get_put (x:Option α)(t:Tr α) (n m:Nat):(t.put n x).get m=if m=n then x else t.get m:=by
 unfold get put;rw[getP_putP]
 by_cases h:m=n
 ·subst h;simp
 ·rw[if_neg h,if_neg fun e=>h (path_inj e)]
end Tr
def fN {β:Type}(n:Nat)(k:Nat→β):β:=Nat.rec (motive:=fun _=>β) (k 0) (fun m _=>k (Nat.succ m)) n
def fN_eq {β:Type}(n:Nat)(k:Nat→β):fN n k=k n:=by cases n <;> rfl
def fI {β:Type}(n:Int)(k:Int→β):β:=Int.rec (motive:=fun _=>β) (fun a=>fN a fun a=>k (Int.ofNat a)) (fun a=>fN a fun a=>k (Int.negSucc a)) n
def fI_eq {β:Type}(n:Int)(k:Int→β):fI n k=k n:=by
 cases n with
 |ofNat a=>exact fN_eq a fun a=>k (Int.ofNat a)
 |negSucc a=>exact fN_eq a fun a=>k (Int.negSucc a)
end
end Go.Ev
namespace Go.Ev
noncomputable section
inductive AV where
 |bool (b:Bool)
 |int (k:IntKind) (n:Int)
 |str (len n:Nat)
 |bs (b:ByteArray)
 |ptr0
 |ptr (i o:Nat)
 |ip (cs:List AV)
 |sl0
 |sl (i o len cap:Nat) (opn:Bool)
 |fz (es:Nat) (full:Bool) (xs:List AV)
 |map0
 |map (i:Nat)
 |func (fn:FuncId) (first captured:List AV)
 |nilFunc
 |iface (t:TypeId) (v:AV)
 |nilIface
 |agg (l:List AV)
 |tup (l:List AV)
 |opq (n:Nat)
 |yld (i:Nat)
structure Sg where
 blk:Nat→Option Nat
 cap:Nat→Nat
 opq:Nat→Value
 imm:Nat→Option (List Value)
def cJ (len n:Nat):List UInt8:=(List.range len).map fun i=>UInt8.ofNat (n / 256 ^ i % 256)
def bK (len n:Nat):ByteArray:=⟨(cJ len n).toArray⟩
def gH (es:Nat):List Value→List Value→Prop
 |[],_=>True
 |X::L,C=>X.cells.toList=C.take es∧X.cells.size=es∧gH es L (C.drop es)
mutual
def av (σ:Sg):AV→Value→Prop
 |.bool b,V=>V=.bool b
 |.int k n,V=>V=.int k n
 |.str l n,V=>n<256 ^ l∧V=.string (bK l n)
 |.bs b,V=>V=.string b
 |.ptr0,V=>V=.pointer none
 |.ip cs,V=>∃b o C L,V=.pointer (some ⟨b,o,none⟩)∧σ.imm b=some C∧aC σ cs L∧L=(C.drop o).take L.length
 |.ptr i o,V=>∃b,σ.blk i=some b∧V=.pointer (some ⟨b,o,none⟩)
 |.sl0,V=>V=.slice none 0 0
 |.sl i o l c opn,V=>∃b,σ.blk i=some b∧V=.slice (some ⟨b,o,none⟩) l (if opn then σ.cap i-c else c)∧l≤(if opn then σ.cap i-c else c)
 |.fz es full xs,V=>∃a cap,V=.slice a xs.length cap∧xs.length≤cap∧(full=true→cap=xs.length)∧(a=none→cap=0)∧(0<xs.length→∃b o C L,a=some ⟨b,o,none⟩∧σ.imm b=some C∧aC σ xs L∧gH es L (C.drop o))
 |.map0,V=>V=.map none
 |.map i,V=>∃b,σ.blk i=some b∧V=.map (some b)
 |.yld i,V=>∃b,σ.blk i=some b∧V=.func (.yield b) #[] #[]
 |.func f a c,V=>∃A C,V=.func (.func f) (List.toArray A) (List.toArray C)∧aC σ a A∧aC σ c C
 |.nilFunc,V=>V=.nilFunc
 |.iface t v,V=>∃U,V=.iface t U∧av σ v U
 |.nilIface,V=>V=.nilIface
 |.agg l,V=>∃L,V=.agg (List.toArray L)∧aC σ l L
 |.tup l,V=>∃L,V=.tuple (List.toArray L)∧aC σ l L
 |.opq n,V=>V=σ.opq n∧V.oneCell'=true∧(n=0→∃m,V=.int .i64 m)
def aC (σ:Sg):List AV→List Value→Prop
 |[],L=>L=[]
 |a::l,L=>∃V L',L=V::L'∧av σ a V∧aC σ l L'
end
structure Sg.Le (σ τ:Sg):Prop where
 blk:∀i b,σ.blk i=some b→τ.blk i=some b∧τ.cap i=σ.cap i
 opq:τ.opq=σ.opq
 imm:∀b C,σ.imm b=some C→τ.imm b=some C
def Sg.Le.refl (σ:Sg):σ.Le σ:=⟨fun _ _ h=>⟨h,rfl⟩,rfl,fun _ _ h=>h⟩
def Sg.Le.trans {σ τ υ:Sg}(h:σ.Le τ)(g:τ.Le υ):σ.Le υ:=
 ⟨fun i b e=>⟨(g.blk i b (h.blk i b e).1).1,(g.blk i b (h.blk i b e).1).2.trans (h.blk i b e).2⟩,g.opq.trans h.opq,fun b C e=>g.imm b C (h.imm b C e)⟩
mutual
def av.mono {σ τ:Sg}(hl:σ.Le τ):∀(v:AV)(V:Value),av σ v V→av τ v V
 |.bool b,V,h=>by simpa only[av]using h
 |.int k n,V,h=>by simpa only[av]using h
 |.str l n,V,h=>by simpa only[av]using h
 |.bs b,V,h=>by simpa only[av]using h
 |.ptr0,V,h=>by simpa only[av]using h
 |.ip cs,V,h=>by
  simp only[av]at h ⊢;obtain⟨b,o,C,L,e,h1,h2,h3⟩:=h;exact⟨b,o,C,L,e,hl.imm b C h1,aC.mono hl cs L h2,h3⟩
 |.fz es full xs,V,h=>by
  simp only[av]at h ⊢;obtain⟨a,cap,e,h1,h2,h4,h3⟩:=h;refine⟨a,cap,e,h1,h2,h4,fun hx=>?_⟩;obtain⟨b,o,C,L,e1,h1,h2,h3⟩:=h3 hx;exact⟨b,o,C,L,e1,hl.imm b C h1,aC.mono hl xs L h2,h3⟩
 |.yld i,V,h=>by
  simp only[av]at h ⊢;obtain⟨b,hb,e⟩:=h;exact⟨b,(hl.blk i b hb).1,e⟩
 |.ptr i o,V,h=>by
  simp only[av]at h ⊢;obtain⟨b,hb,e⟩:=h;exact⟨b,(hl.blk i b hb).1,e⟩
 |.sl0,V,h=>by simpa only[av]using h
 |.sl i o l c opn,V,h=>by
  simp only[av]at h ⊢;obtain⟨b,hb,e⟩:=h;exact⟨b,(hl.blk i b hb).1,by rw[(hl.blk i b hb).2];exact e⟩
 |.map0,V,h=>by simpa only[av]using h
 |.map i,V,h=>by
  simp only[av]at h ⊢;obtain⟨b,hb,e⟩:=h;exact⟨b,(hl.blk i b hb).1,e⟩
 |.func f a c,V,h=>by
  simp only[av]at h ⊢;obtain⟨A,C,e,ha,hc⟩:=h;exact⟨A,C,e,aC.mono hl a A ha,aC.mono hl c C hc⟩
 |.nilFunc,V,h=>by simpa only[av]using h
 |.iface t v,V,h=>by
  simp only[av]at h ⊢;obtain⟨U,e,hu⟩:=h;exact⟨U,e,av.mono hl v U hu⟩
 |.nilIface,V,h=>by simpa only[av]using h
 |.agg l,V,h=>by
  simp only[av]at h ⊢;obtain⟨L,e,hc⟩:=h;exact⟨L,e,aC.mono hl l L hc⟩
 |.tup l,V,h=>by
  simp only[av]at h ⊢;obtain⟨L,e,hc⟩:=h;exact⟨L,e,aC.mono hl l L hc⟩
 |.opq n,V,h=>by
  simp only[av]at h ⊢;rw[hl.opq];exact h
def aC.mono {σ τ:Sg}(hl:σ.Le τ):∀(l:List AV)(L:List Value),aC σ l L→aC τ l L
 |[],L,h=>by simpa only[aC]using h
 |a::l,L,h=>by
  simp only[aC]at h ⊢;obtain⟨V,L',e,h1,h2⟩:=h;exact⟨V,L',e,av.mono hl a V h1,aC.mono hl l L' h2⟩
end
def aC.length {σ:Sg}:∀{l:List AV}{L:List Value},aC σ l L→L.length=l.length
 |[],L,h=>by simp only[aC]at h;subst h;rfl
 |a::l,L,h=>by
  simp only[aC]at h;obtain⟨V,L',e,_,h2⟩:=h;subst e;simp[h2.length]
def aC.get {σ:Sg}:∀{l:List AV}{L:List Value}{k:Nat}{v:AV},aC σ l L→l[k]?=some v→∃V,L[k]?=some V∧av σ v V
 |[],L,k,v,_,h=>by simp at h
 |a::l,L,k,v,h,hk=>by
  simp only[aC]at h;obtain⟨V,L',e,h1,h2⟩:=h;subst e;cases k with
  |zero=>simp at hk;subst hk;exact⟨V,rfl,h1⟩
  |succ k=>simpa using h2.get (by simpa using hk)
def aC.append {σ:Sg}:∀{l m:List AV}{L M:List Value},aC σ l L→aC σ m M→aC σ (l++m) (L++M)
 |[],m,L,M,h,g=>by simp only[aC]at h;subst h;exact g
 |a::l,m,L,M,h,g=>by
  simp only[aC]at h;obtain⟨V,L',e,h1,h2⟩:=h;subst e;show aC σ (a::(l++m)) (V::L'++M);simp only[aC];exact⟨V,L'++M,rfl,h1,h2.append g⟩
def aC.take {σ:Sg}:∀{l:List AV}{L:List Value},aC σ l L→∀n,aC σ (l.take n) (L.take n)
 |[],L,h,n=>by simp only[aC]at h;subst h;simp only[List.take_nil,aC]
 |a::l,L,h,0=>by simp only[List.take_zero,aC]
 |a::l,L,h,n+1=>by
  simp only[aC]at h;obtain⟨V,L',e,h1,h2⟩:=h;subst e;simp only[List.take_succ_cons,aC];exact⟨V,_,rfl,h1,h2.take n⟩
def aC.drop {σ:Sg}:∀{l:List AV}{L:List Value},aC σ l L→∀n,aC σ (l.drop n) (L.drop n)
 |[],L,h,n=>by simp only[aC]at h;subst h;simp only[List.drop_nil,aC]
 |a::l,L,h,0=>by simpa only[List.drop_zero]using h
 |a::l,L,h,n+1=>by
  simp only[aC]at h;obtain⟨V,L',e,h1,h2⟩:=h;subst e;simp only[List.drop_succ_cons];exact h2.drop n
def aC.of_get {σ:Sg}:∀{l:List AV}{L:List Value},L.length=l.length→(∀(k:Nat) v V,l[k]?=some v→L[k]?=some V→av σ v V)→aC σ l L
 |[],L,e,_=>by simp only[aC];exact au (by simpa using e)
 |a::l,L,e,h=>by
  cases L with
  |nil=>simp at e
  |cons V L'=>
   simp only[aC];exact⟨V,L',rfl,h 0 a V rfl rfl,aC.of_get (by simpa using e) fun k v V h1 h2=>h (k+1) v V (by simpa using h1) (by simpa using h2)⟩
inductive ABlk where
 |cells (elem:TypeId) (n:Nat) (c:Tr AV) (opn:Bool) (esz:Nat)
 |map (es:List (AV×AV×Nat)) (clock:Nat)
 |loop (st:LoopState) (bh:Option Code) (fn:FuncId) (sz:Nat) (tm:Tr AV) (ps:Array Tmp) (assign body:Code) (db:Nat)
 |dfr
 |miter (i since:Nat) (seen:List Nat) (jK:Nat)
 |siter (s:ByteArray) (pos:Nat)
def dC (σ:Sg):List (AV×AV×Nat)→List MapEntry→Prop
 |[],E=>E=[]
 |(k,v,n)::l,E=>∃K V E',E=⟨K,V,n⟩::E'∧av σ k K∧av σ v V∧dC σ l E'
def dC.mono {σ τ:Sg}(hl:σ.Le τ):∀{l E},dC σ l E→dC τ l E
 |[],E,h=>h
 |(k,v,n)::l,E,h=>by
  simp only[dC]at h ⊢;obtain⟨K,V,E',e,h1,h2,h3⟩:=h;exact⟨K,V,E',e,h1.mono hl,h2.mono hl,h3.mono hl⟩
def cq (σ:Sg) (i:Nat):ABlk→Obj→Prop
 |.cells e n c opn esz,o=>∃C fr,o=.cells C e fr∧(∀k,k<n→∃v V,c.get k=some v∧C[k]?=some V∧av σ v V)∧
   (∀k,k<C.size→¬(fr.1≤k∧k<fr.2))∧(if opn then n≤C.size∧C.size=σ.cap i * esz else C.size=n)
 |.map es cl,o=>∃E,o=.map (List.toArray E) cl∧dC σ es E
 |.loop st bh _ sz tm ps assign body db,o=>∃T d fn,o=.loop ⟨st,bh,fn,T,ps,assign,body,d⟩∧T.size=sz∧(∀t v,tm.get t=some v→av σ v (T.getD t undef))∧σ.blk db=some d
 |.dfr,o=>o=.deferred (some [])
 |.miter i since seen jK,o=>∃b,σ.blk i=some b∧o=.mapIter (some b) since seen.toArray jK
 |.siter s pos,o=>o=.stringIter s pos
def cq.mono {σ τ:Sg}(hl:σ.Le τ){i b:Nat}(hb:σ.blk i=some b):∀{B o},cq σ i B o→cq τ i B o
 |.cells e n c opn esz,o,h=>by
  simp only[cq]at h ⊢;obtain⟨C,fr,e,h1,h2,h3⟩:=h;refine⟨C,fr,e,fun k hk=>?_,h2,?_⟩
  ·obtain⟨v,V,e1,e2,e3⟩:=h1 k hk;exact⟨v,V,e1,e2,e3.mono hl⟩
  ·rw[(hl.blk i b hb).2];exact h3
 |.map es cl,o,h=>by
  simp only[cq]at h ⊢;obtain⟨E,e,h1⟩:=h;exact⟨E,e,h1.mono hl⟩
 |.loop st bh fn sz tm ps assign body db,o,h=>by
  simp only[cq]at h ⊢;obtain⟨T,d,oN,e,h1,h2,h3⟩:=h;exact⟨T,d,oN,e,h1,fun t v ht=>(h2 t v ht).mono hl,(hl.blk db d h3).1⟩
 |.dfr,o,h=>by simpa only[cq]using h
 |.miter i since seen jK,o,h=>by
  simp only[cq]at h ⊢;obtain⟨b,h1,h2⟩:=h;exact⟨b,(hl.blk i b h1).1,h2⟩
 |.siter s pos,o,h=>by simpa only[cq]using h
structure Gl where
 n:Nat
 sym:Bool
 tab:Nat→Option (List AV)
structure Ok (G:Gl)(σ:Sg)(h:Tr ABlk) (nx:Nat)(w:World):Prop where
 glob:∀g,g<G.n→σ.blk g=some g
 le:G.n≤nx
 fresh:∀i,nx≤i→σ.blk i=none
 inj:∀i j b B B',h.get i=some B→h.get j=some B'→σ.blk i=some b→σ.blk j=some b→i=j
 blk:∀i B,h.get i=some B→∃b o,σ.blk i=some b∧w.heap[b]?=some o∧cq σ i B o
 imm:∀b C,σ.imm b=some C→(∃t fr,w.heap[b]?=some (.cells C.toArray t fr))∧∀i B,h.get i=some B→σ.blk i≠some b
 gl:∀g cs,G.tab g=some cs→av σ (.ip cs) (.pointer (some ⟨g,0,none⟩))
structure Fr (σ:Sg)(h:Tr ABlk)(w:World)(τ:Sg)(g:Tr ABlk)(x:World):Prop where
 os:x.os=w.os
 tape:x.tape=w.tape
 output:x.output=w.output
 size:w.heap.size≤x.heap.size
 keep:∀b,b<w.heap.size→(∀i B,h.get i=some B→σ.blk i≠some b)→x.heap[b]?=w.heap[b]?
 own:∀i B b,g.get i=some B→τ.blk i=some b→w.heap.size≤b∨∃j B',h.get j=some B'∧σ.blk j=some b
 imm:∀b C,τ.imm b=some C→σ.imm b=some C∨w.heap.size≤b∨∃j B',h.get j=some B'∧σ.blk j=some b
structure Post (G:Gl)(σ:Sg)(h:Tr ABlk) (nx:Nat)(w:World)(τ:Sg)(g:Tr ABlk) (ny:Nat)(x:World):Prop where
 ok:Ok G τ g ny x
 le:σ.Le τ
 fr:Fr σ h w τ g x
 nx:nx≤ny
variable {G : Gl} {σ τ υ : Sg} {h g f : Tr ABlk} {nx ny nz : Nat} {w x y : World}
def Post.refl (hk:Ok G σ h nx w):Post G σ h nx w σ h nx w:=
 ⟨hk,.refl σ,⟨rfl,rfl,rfl,ae _,fun _ _ _=>rfl,fun i B b h1 h2=>.inr ⟨i,B,h1,h2⟩,fun _ _ h=>.inl h⟩,ae _⟩
def Post.trans (p:Post G σ h nx w τ g ny x)(q:Post G τ g ny x υ f nz y):Post G σ h nx w υ f nz y:=by
 refine⟨q.ok,p.le.trans q.le,⟨q.fr.os.trans p.fr.os,q.fr.tape.trans p.fr.tape,q.fr.output.trans p.fr.output,Nat.le_trans p.fr.size q.fr.size,?_,?_,?_⟩,Nat.le_trans p.nx q.nx⟩
 ·intro b hb hn;rw[q.fr.keep b (Nat.lt_of_lt_of_le hb p.fr.size) ?_]
  ·exact p.fr.keep b hb hn
  ·intro i B hi FE
   rcases p.fr.own i B b hi FE with h1 |⟨j,B',hj,FH⟩
   ·omega
   ·exact hn j B' hj FH
 ·intro i B b hi FE
  rcases q.fr.own i B b hi FE with h1 |⟨j,B',hj,FH⟩
  ·exact .inl (Nat.le_trans p.fr.size h1)
  ·exact p.fr.own j B' b hj FH
 ·intro b C hb
  rcases q.fr.imm b C hb with h1 |h1 |⟨j,B',hj,FH⟩
  ·exact p.fr.imm b C h1
  ·exact .inr (.inl (Nat.le_trans p.fr.size h1))
  ·exact .inr (p.fr.own j B' b hj FH)
def BZ {b:Nat}{o:Obj}(h:w.heap[b]?=some o):b<w.heap.size:=by
 rcases Nat.lt_or_ge b w.heap.size with h1 |h1
 ·exact h1
 ·rw[Array.getElem?_eq_none h1]at h;cases h
def Ok.lt (hk:Ok G σ h nx w){i:Nat}{B:ABlk}(hi:h.get i=some B):i<nx:=by
 obtain⟨b,o,hb,_⟩:=hk.blk i B hi
 rcases Nat.lt_or_ge i nx with h1 |h1
 ·exact h1
 ·rw[hk.fresh i h1]at hb;cases hb
def Ok.blt (hk:Ok G σ h nx w){i b:Nat}{B:ABlk}(hi:h.get i=some B)(hb:σ.blk i=some b):b<w.heap.size:=by
 obtain⟨b',o,aV,ho,_⟩:=hk.blk i B hi;rw[hb]at aV;cases aV
 rcases Nat.lt_or_ge b w.heap.size with h1 |h1
 ·exact h1
 ·rw[Array.getElem?_eq_none h1]at ho;cases ho
def Sg.add (σ:Sg) (i b c:Nat):Sg:={ σ with blk:=fun k=>if k=i then some b else σ.blk k,cap:=fun k=>if k=i then c else σ.cap k }
def Sg.add_le {i b c:Nat}(hn:σ.blk i=none):σ.Le (σ.add i b c):=by
 refine⟨fun k b' hk=>?_,rfl,fun _ _ h=>h⟩;have:k≠i:=fun e=>by rw[e,hn]at hk;cases hk
 simp[Sg.add,this,hk]
def Post.drawn (hk:Ok G σ h nx w) (n:Nat):Post G σ h nx w σ h nx { w with drawn:=n }:=
 ⟨⟨hk.glob,hk.le,hk.fresh,hk.inj,hk.blk,hk.imm,hk.gl⟩,.refl σ,⟨rfl,rfl,rfl,ae _,fun _ _ _=>rfl,fun i B b h1 h2=>.inr ⟨i,B,h1,h2⟩,fun _ _ h=>.inl h⟩,ae _⟩
def Post.erase (hk:Ok G σ h nx w) (i:Nat):Post G σ h nx w σ (h.put i none) nx w:=by
 have hs:∀j B,(h.put i none).get j=some B→h.get j=some B:=by
  intro j B hj;rw[Tr.get_put]at hj;split at hj
  ·cases hj
  ·exact hj
 exact⟨⟨hk.glob,hk.le,hk.fresh,fun a b c B B' h1 h2=>hk.inj a b c B B' (hs _ _ h1) (hs _ _ h2),fun a B h1=>hk.blk a B (hs _ _ h1),fun b C hb=>⟨(hk.imm b C hb).1,fun j B hj=>(hk.imm b C hb).2 j B (hs _ _ hj)⟩,hk.gl⟩,.refl σ,
  ⟨rfl,rfl,rfl,ae _,fun _ _ _=>rfl,fun a B b h1 h2=>.inr ⟨a,B,hs _ _ h1,h2⟩,fun _ _ h=>.inl h⟩,ae _⟩
def Post.alloc (hk:Ok G σ h nx w) (c:Nat)(B:ABlk)(o:Obj)(hB:cq (σ.add nx w.heap.size c) nx B o):
  Post G σ h nx w (σ.add nx w.heap.size c) (h.put nx (some B)) (nx+1) { w with heap:=w.heap.push o }:=by
 have hle:σ.Le (σ.add nx w.heap.size c):=Sg.add_le (hk.fresh nx (ae _));have ct:∀i B',h.get i=some B'→i≠nx:=fun i B' hi e=>by have:=hk.lt hi;omega
 refine⟨⟨fun a ha=>?_,by have:=hk.le;omega,fun i hi=>?_,fun i j b B1 B2 h1 h2 h3 h4=>?_,fun i B1 h1=>?_,fun b C hb=>?_,fun g cs hg=>(hk.gl g cs hg).mono hle⟩,hle,⟨rfl,rfl,rfl,by simp,fun b hb _=>?_,fun i B1 b h1 h2=>?_,fun _ _ h=>.inl h⟩,by omega⟩
 ·have:a≠nx:=by have:=hk.le;omega
  simp[Sg.add,this,hk.glob a ha]
 ·have:i≠nx:=by omega
  simp[Sg.add,this,hk.fresh i (by omega)]
 ·rw[Tr.get_put]at h1 h2;have gD:∀k B',(if k=nx then some B else h.get k)=some B'→k≠nx→(σ.add nx w.heap.size c).blk k=some b→h.get k=some B'∧σ.blk k=some b∧b<w.heap.size:=by
   intro k B' hh aT hb;rw[if_neg aT]at hh;have aV:σ.blk k=some b:=by simpa[Sg.add,aT]using hb
   exact⟨hh,aV,hk.blt hh aV⟩
  by_cases e1:i=nx <;> by_cases e2:j=nx
  ·omega
  ·obtain⟨_,_,ay⟩:=gD j B2 h2 e2 h4;have:b=w.heap.size:=by subst e1;simpa[Sg.add]using h3.symm
   omega
  ·obtain⟨_,_,ay⟩:=gD i B1 h1 e1 h3;have:b=w.heap.size:=by subst e2;simpa[Sg.add]using h4.symm
   omega
  ·obtain⟨a1,a2,_⟩:=gD i B1 h1 e1 h3;obtain⟨c1,c2,_⟩:=gD j B2 h2 e2 h4;exact hk.inj i j b B1 B2 a1 c1 a2 c2
 ·rw[Tr.get_put]at h1
  by_cases e:i=nx
  ·rw[if_pos e]at h1;cases h1;subst e;exact⟨w.heap.size,o,by simp[Sg.add],by simp,hB⟩
  ·rw[if_neg e]at h1;obtain⟨b,o',hb,ho,hr⟩:=hk.blk i B1 h1;refine⟨b,o',(hle.blk i b hb).1,?_,hr.mono hle hb⟩;have:=hk.blt h1 hb;rw[Array.getElem?_push_lt this];rw[Array.getElem?_eq_getElem this]at ho;exact ho
 ·obtain⟨⟨t,fr,h1⟩,h2⟩:=hk.imm b C hb;have ay:b<w.heap.size:=BZ h1;refine⟨⟨t,fr,?_⟩,fun i B' hi e=>?_⟩
  ·rw[Array.getElem?_push_lt ay,← Array.getElem?_eq_getElem ay];exact h1
  ·rw[Tr.get_put]at hi
   by_cases e':i=nx
   ·subst e';have:b=w.heap.size:=by simpa[Sg.add]using e.symm
    omega
   ·rw[if_neg e']at hi;exact h2 i B' hi (by simpa[Sg.add,e']using e)
 ·rw[Array.getElem?_push_lt hb,Array.getElem?_eq_getElem hb]
 ·rw[Tr.get_put]at h1
  by_cases e:i=nx
  ·subst e;have:b=w.heap.size:=by simpa[Sg.add]using h2.symm
   exact .inl (by omega)
  ·rw[if_neg e]at h1;exact .inr ⟨i,B1,h1,by simpa[Sg.add,e]using h2⟩
def Post.set (hk:Ok G σ h nx w){i b:Nat}{B0:ABlk}(hi:h.get i=some B0)(hb:σ.blk i=some b)(B:ABlk)(o:Obj)(hB:cq σ i B o):
  Post G σ h nx w σ (h.put i (some B)) nx { w with heap:=w.heap.setIfInBounds b o }:=by
 have ay:=hk.blt hi hb;have hs:∀j B',(h.put i (some B)).get j=some B'→∃B'',h.get j=some B'':=by
  intro j B' hj;rw[Tr.get_put]at hj
  by_cases e:j=i
  ·subst e;exact⟨B0,hi⟩
  ·rw[if_neg e]at hj;exact⟨B',hj⟩
 refine⟨⟨hk.glob,hk.le,hk.fresh,fun a c d B1 B2 h1 h2 h3 h4=>?_,fun a B1 h1=>?_,fun d C hd=>⟨?_,fun a B1 h1 e=>?_⟩,hk.gl⟩,.refl σ,⟨rfl,rfl,rfl,by simp,fun c hc hn=>?_,fun a B1 c h1 h2=>?_,fun _ _ h=>.inl h⟩,ae _⟩
 ·obtain⟨C1,g1⟩:=hs a B1 h1;obtain⟨C2,g2⟩:=hs c B2 h2;exact hk.inj a c d C1 C2 g1 g2 h3 h4
 ·rw[Tr.get_put]at h1
  by_cases e:a=i
  ·rw[if_pos e]at h1;cases h1;subst e;exact⟨b,o,hb,by simp[ay],hB⟩
  ·rw[if_neg e]at h1;obtain⟨b',o',aV,ho,hr⟩:=hk.blk a B1 h1;refine⟨b',o',aV,?_,hr⟩;have aT:b≠b':=fun e'=>e (hk.inj a i b B1 B0 h1 hi (e' ▸ aV) hb);simp only[Array.getElem?_setIfInBounds];rw[if_neg aT];exact ho
 ·obtain⟨⟨t,fr,h1⟩,h2⟩:=hk.imm d C hd;refine⟨t,fr,?_⟩;have aT:b≠d:=fun e=>h2 i B0 hi (e ▸ hb);simp only[Array.getElem?_setIfInBounds];rw[if_neg aT];exact h1
 ·obtain⟨C1,g1⟩:=hs a B1 h1;exact(hk.imm d C hd).2 a C1 g1 e
 ·have:b≠c:=fun e=>hn i B0 hi (e ▸ hb);simp only[Array.getElem?_setIfInBounds];rw[if_neg this]
 ·obtain⟨C1,g1⟩:=hs a B1 h1;exact .inr ⟨a,C1,g1,h2⟩
def Post.rename (hk:Ok G σ h nx w){i b:Nat}{B0:ABlk}(hi:h.get i=some B0)(hb:σ.blk i=some b)(B:ABlk)(o:Obj)(fJ:w.heap[b]?=some o)(hB:cq (σ.add nx b (σ.cap i)) nx B o):
  Post G σ h nx w (σ.add nx b (σ.cap i)) ((h.put i none).put nx (some B)) (nx+1) w:=by
 have hle:σ.Le (σ.add nx b (σ.cap i)):=Sg.add_le (hk.fresh nx (ae _));have ay:=hk.lt hi;have hs:∀j B',((h.put i none).put nx (some B)).get j=some B'→j≠nx→j≠i∧h.get j=some B':=by
  intro j B' hj hn;rw[Tr.get_put,if_neg hn,Tr.get_put]at hj;split at hj
  ·cases hj
  ·exact⟨by assumption,hj⟩
 have hold:∀k d,k≠nx→(σ.add nx b (σ.cap i)).blk k=some d→σ.blk k=some d:=fun k d hn hh=>by simpa[Sg.add,hn]using hh
 refine⟨⟨fun a ha=>?_,by have:=hk.le;omega,fun a ha=>?_,fun a c d B1 B2 h1 h2 h3 h4=>?_,fun a B1 h1=>?_,fun d C hd=>⟨(hk.imm d C hd).1,fun a B1 h1 e=>?_⟩,fun g cs hg=>(hk.gl g cs hg).mono hle⟩,hle,⟨rfl,rfl,rfl,ae _,fun _ _ _=>rfl,fun a B1 c h1 h2=>?_,fun _ _ h=>.inl h⟩,by omega⟩
 ·have:a≠nx:=by have:=hk.le;omega
  simp[Sg.add,this,hk.glob a ha]
 ·have:a≠nx:=by omega
  simp[Sg.add,this,hk.fresh a (by omega)]
 ·by_cases e1:a=nx <;> by_cases e2:c=nx
  ·omega
  ·obtain⟨n1,n2⟩:=hs c B2 h2 e2;have hd:d=b:=by subst e1;simpa[Sg.add]using h3.symm
   exact absurd (hk.inj c i b B2 B0 n2 hi (hd ▸ hold c d e2 h4) hb) n1
  ·obtain⟨n1,n2⟩:=hs a B1 h1 e1;have hd:d=b:=by subst e2;simpa[Sg.add]using h4.symm
   exact absurd (hk.inj a i b B1 B0 n2 hi (hd ▸ hold a d e1 h3) hb) n1
  ·exact hk.inj a c d B1 B2 (hs a B1 h1 e1).2 (hs c B2 h2 e2).2 (hold a d e1 h3) (hold c d e2 h4)
 ·by_cases e:a=nx
  ·subst e;rw[Tr.get_put,if_pos rfl]at h1;cases h1;exact⟨b,o,by simp[Sg.add],fJ,hB⟩
  ·obtain⟨n1,n2⟩:=hs a B1 h1 e;obtain⟨b',o',aV,ho,hr⟩:=hk.blk a B1 n2;exact⟨b',o',(hle.blk a b' aV).1,ho,hr.mono hle aV⟩
 ·by_cases e':a=nx
  ·subst e';have:d=b:=by simpa[Sg.add]using e.symm
   exact(hk.imm d C hd).2 i B0 hi (this ▸ hb)
  ·exact(hk.imm d C hd).2 a B1 (hs a B1 h1 e').2 (hold a d e' e)
 ·by_cases e:a=nx
  ·subst e;have:c=b:=by simpa[Sg.add]using h2.symm
   exact .inr ⟨i,B0,hi,this ▸ hb⟩
  ·exact .inr ⟨a,B1,(hs a B1 h1 e).2,hold a c e h2⟩
section
variable {P : Program} {G : Gl} {σ τ υ : Sg} {h g f : Tr ABlk} {nx ny nz : Nat} {w x y : World}
def YU {t:TypeId}{i:TypeInfo}(hi:P.info? t=some i)(w:World):(typeInfo t).run P w=.ok i w:=by simp[typeInfo,hi]
def oA {t:TypeId}{i:TypeInfo}(hi:P.info? t=some i)(w:World):(sizeOf t).run P w=.ok i.size w:=by simp[sizeOf,YU hi]
def zw {t:TypeId}{i:TypeInfo}{z:Value}(hi:P.info? t=some i)(hz:i.zero=some z)(w:World):(zeroValue t).run P w=.ok z w:=by simp[zeroValue,YU hi,hz]
def jo (b o n:Nat):(⟨b,o,none⟩:Addr).add n=⟨b,o+n,none⟩:=by
 unfold Addr.add;split
 ·rename_i e;subst e;rfl
 ·rfl
def Ok.cells (hk:Ok G σ h nx w){i n esz:Nat}{e:TypeId}{c:Tr AV}{opn:Bool}(hi:h.get i=some (.cells e n c opn esz)):
  ∃b C fr,σ.blk i=some b∧w.heap[b]?=some (.cells C e fr)∧(∀k,k<n→∃v V,c.get k=some v∧C[k]?=some V∧av σ v V)∧
   (∀k,k<C.size→¬(fr.1≤k∧k<fr.2))∧(if opn then n≤C.size∧C.size=σ.cap i * esz else C.size=n):=by
 obtain⟨b,o,hb,ho,hr⟩:=hk.blk i _ hi;simp only[cq]at hr;obtain⟨C,fr,e,h1,h2,h3⟩:=hr;subst e;exact⟨b,C,fr,hb,ho,h1,h2,h3⟩
def oB {b k:Nat}{C:Array Value}{e:TypeId}{fr:Nat×Nat}(hb:w.heap[b]?=some (.cells C e fr)):w.cell? ⟨b,k,none⟩=C[k]?:=by
 simp[World.cell?,hb]
noncomputable section
def ji (c:Tr AV) (n:Nat):Nat→Option (List AV):=
 Nat.rec (motive:=fun _=>Nat→Option (List AV)) (fun _=>some [])
  (fun _ ih o=>match c.get o with
   |some v=>fN (Nat.succ o) fun o'=>(match ih o' with |some l=>some (v::l) |none=>none)
   |none=>none) n
def Rl (c:Tr AV):∀(n o:Nat)(l:List AV),ji c n o=some l→l.length=n∧∀k,k<n→c.get (o+k)=l[k]?:=by
 intro n
 induction n with
 |zero=>intro o l e;cases e;exact⟨rfl,fun k hk=>by omega⟩
 |succ n ih=>
  intro o l e
  change (match c.get o with
   |some v=>fN (Nat.succ o) fun o'=>(match ji c n o' with |some l=>some (v::l) |none=>none)
   |none=>none)=some l at e
  cases hv:c.get o with
  |none=>rw[hv]at e;cases e
  |some v=>
   rw[hv]at e;simp only[fN_eq]at e;cases hl:ji c n (Nat.succ o) with
   |none=>rw[hl]at e;cases e
   |some l'=>
    rw[hl]at e;cases e;obtain⟨h1,h2⟩:=ih _ _ hl;refine⟨by simp[h1],fun k hk=>?_⟩;cases k with
    |zero=>simpa using hv
    |succ k=>
     have:=h2 k (by omega);rw[show o+(k+1)=Nat.succ o+k by omega,this];simp
def rZ {β:Type}(l:List AV):Tr AV→Nat→(Tr AV→β)→β:=
 List.rec (motive:=fun _=>Tr AV→Nat→(Tr AV→β)→β) (fun c _ k=>k c)
  (fun v _ ih c o k=>c.putK (some v) o fun c'=>fN (Nat.succ o) fun o'=>ih c' o' k) l
def eu:List AV→Tr AV→Nat→Tr AV
 |[],c,_=>c
 |v::l,c,o=>eu l (c.put o (some v)) (o+1)
def lP {β:Type}:∀(l:List AV)(c:Tr AV) (o:Nat)(k:Tr AV→β),rZ l c o k=k (eu l c o)
 |[],c,o,k=>rfl
 |v::l,c,o,k=>by
  show (c.putK (some v) o fun c'=>fN (Nat.succ o) fun o'=>rZ l c' o' k)=_;rw[Tr.putK_eq,fN_eq,lP];rfl
def qo:∀(l:List AV)(c:Tr AV) (o k:Nat),(eu l c o).get k=if o≤k∧k<o+l.length then l[k-o]? else c.get k
 |[],c,o,k=>by simp[eu];omega
 |v::l,c,o,k=>by
  rw[eu,qo]
  by_cases h1:o+1≤k∧k<o+1+l.length
  ·rw[if_pos h1,if_pos (by simp;omega)];rw[show k-o=(k-(o+1))+1 by omega];simp
  ·rw[if_neg h1,Tr.get_put]
   by_cases h2:k=o
   ·subst h2;rw[if_pos rfl,if_pos (by simp)];simp
   ·rw[if_neg h2,if_neg (by simp;omega)]
end
def py:List Value→Array Value→Nat→Array Value
 |[],C,_=>C
 |v::l,C,o=>py l (C.setIfInBounds o v) (o+1)
def DJ:∀(l:List Value)(C:Array Value) (o:Nat),(py l C o).size=C.size
 |[],C,o=>rfl
 |v::l,C,o=>by rw[py,DJ];simp
def Mc:∀(l:List Value)(C:Array Value) (o k:Nat),o+l.length≤C.size→(py l C o)[k]?=if o≤k∧k<o+l.length then l[k-o]? else C[k]?
 |[],C,o,k,hs=>by simp[py];omega
 |v::l,C,o,k,hs=>by
  simp at hs;rw[py,Mc _ _ _ _ (by simp;omega)]
  by_cases h1:o+1≤k∧k<o+1+l.length
  ·rw[if_pos h1,if_pos (by simp;omega)];rw[show k-o=(k-(o+1))+1 by omega];simp
  ·rw[if_neg h1,Array.getElem?_setIfInBounds]
   by_cases h2:k=o
   ·subst h2;have:k<C.size:=by omega
    simp[this]
   ·rw[if_neg (fun e=>h2 e.symm),if_neg (by simp;omega)]
def iE (w:World) (b:Nat)(o:Obj):World:={ w with heap:=w.heap.setIfInBounds b o }
def zTs (w:World) (b:Nat)(o p:Obj):iE (iE w b o) b p=iE w b p:=by
 simp[iE]
def zGa {b:Nat}{o p:Obj}(hb:w.heap[b]?=some p):(iE w b o).heap[b]?=some o:=by
 have:b<w.heap.size:=by
  rcases Nat.lt_or_ge b w.heap.size with h1 |h1
  ·exact h1
  ·rw[Array.getElem?_eq_none h1]at hb;cases hb
 simp[iE,this]
def zSh {b:Nat}{o:Obj}(hb:w.heap[b]?=some o):iE w b o=w:=by
 have ay:b<w.heap.size:=by
  rcases Nat.lt_or_ge b w.heap.size with h1 |h1
  ·exact h1
  ·rw[Array.getElem?_eq_none h1]at hb;cases hb
 have:w.heap.setIfInBounds b o=w.heap:=by
  apply Array.ext_getElem?;intro k;rw[Array.getElem?_setIfInBounds];split
  ·rename_i e;subst e;rw[hb]
  ·rfl
 simp[iE,this]
def zLf {b k:Nat}{C:Array Value}{e:TypeId}{fr:Nat×Nat}{V:Value}(hb:w.heap[b]?=some (.cells C e fr))(hk:k<C.size)(hf:¬(fr.1≤k∧k<fr.2))(h1:V.oneCell'=true):
  (store ⟨b,k,none⟩ V).run P w=.ok () (iE w b (.cells (C.setIfInBounds k V) e fr)):=by
 rw[run_store P w _ V .plain h1];have hc:w.cell? ⟨b,k,none⟩=some C[k]:=by rw[oB hb];simp[hk]
 have UZ:w.frozen? ⟨b,k,none⟩=false:=by
  simp only[World.frozen?,hb];simp only[not_and,Nat.not_lt]at hf;cases e1:decide (fr.1≤k) with
  |false=>simp
  |true=>simp[hf (of_decide_eq_true e1)]
 simp only[hc,UZ];have ay:b<w.heap.size:=by
  rcases Nat.lt_or_ge b w.heap.size with h1 |h1
  ·exact h1
  ·rw[Array.getElem?_eq_none h1]at hb;cases hb
 have cg:w.setCell ⟨b,k,none⟩ V=iE w b (.cells (C.setIfInBounds k V) e fr):=by
  unfold World.setCell iE
  congr 1
  apply Array.ext_getElem?;intro j;rw[Array.getElem?_modify,Array.getElem?_setIfInBounds]
  by_cases ej:b=j
  ·subst ej;rw[if_pos rfl,if_pos rfl,if_pos ay,hb];simp
  ·rw[if_neg ej,if_neg ej]
 simp[cg]
def Lb {b o:Nat}{e:TypeId}{fr:Nat×Nat}:∀(vs:List Value) (i:Nat)(C:Array Value)(w:World),w.heap[b]?=some (.cells C e fr)→o+i+vs.length≤C.size→
  (∀k,k<C.size→¬(fr.1≤k∧k<fr.2))→(∀v∈vs,v.oneCell'=true)→(storeCells ⟨b,o,none⟩ vs i).run P w=.ok () (iE w b (.cells (py vs C (o+i)) e fr))
 |[],i,C,w,hb,_,_,_=>by simp[storeCells,py,zSh hb]
 |v::vs,i,C,w,hb,hs,hf,h1=>by
  simp only[List.length_cons]at hs;rw[storeCells,Sem.run_bind,jo,zLf hb (by omega) (hf _ (by omega)) (h1 v (by simp))];show (storeCells ⟨b,o,none⟩ vs (i+1)).run P _=_;rw[Lb vs (i+1) (C.setIfInBounds (o+i) v) _ (zGa hb) (by simp;omega) (by simpa using hf) fun u hu=>h1 u (by simp[hu]),zTs];rfl
end
inductive TI where
 |mk (d:TypeDesc) (size bytes:Nat) (zero:Option AV) (fs:List (Nat×Nat×Bool))
def kB:TypeDesc→Bool
 |.struct _=>true
 |.array _ _=>true
 |_=>false
def TF (P:Program)(t:TypeId) (s:Nat)(b:Bool):Prop:=(∃i,P.info? t=some i∧i.size=s)∧∃d,P.underlying t=some d∧kB d=b
def cT (P:Program)(t:TypeId):TI→Prop
 |.mk d size bytes zero fs=>P.underlying t=some d∧∃i,P.info? t=some i∧i.size=size∧i.bytes=bytes∧
   (∀z,zero=some z→∃Z,i.zero=some Z∧(∀σ,av σ z Z)∧Z.cells.size=size)∧
   (∀fields:Array Field,d=.struct fields→∀(k o s:Nat) (b:Bool),fs[k]?=some (o,s,b)→∃f:Field,fields[k]?=some f∧f.offset=o∧TF P f.type s b)∧
   (∀fields:Array Field,d=.struct fields→fs.length=fields.size)∧
   (∀e,(d=.slice e∨(∃n,d=.array n e)∨d=.pointer e)→∀o s b,fs[0]?=some (o,s,b)→TF P e s b)
inductive R where
 |val (v:AV) (h:Tr ABlk) (nx:Nat)
 |unit (h:Tr ABlk) (nx:Nat)
 |fail
def Ei {P:Program}{t:TypeId}{d:TypeDesc}(hd:P.underlying t=some d)(w:World):(isAgg t).run P w=.ok (kB d) w:=by
 cases d <;> simp[isAgg,run_underlying hd,kB]
section
variable (P : Program) (G : Gl) (σ : Sg) (h : Tr ABlk) (nx : Nat) (w : World)
def SV (m:Sem Value)(v:AV)(g:Tr ABlk) (ny:Nat):Prop:=∃V τ x,m.run P w=.ok V x∧av τ v V∧Post G σ h nx w τ g ny x
def SU (m:Sem Unit)(g:Tr ABlk) (ny:Nat):Prop:=∃τ x,m.run P w=.ok () x∧Post G σ h nx w τ g ny x
def RV (m:Sem Value):R→Prop
 |.val v g ny=>SV P G σ h nx w m v g ny
 |.unit _ _=>False
 |.fail=>True
def RU (m:Sem Unit):R→Prop
 |.val _ _ _=>False
 |.unit g ny=>SU P G σ h nx w m g ny
 |.fail=>True
end
variable {P : Program} {G : Gl} {σ τ υ : Sg} {h g f : Tr ABlk} {nx ny nz : Nat} {w x y : World}
def SV.pure (hk:Ok G σ h nx w){m:Sem Value}{v:AV}{V:Value}(hm:m.run P w=.ok V w)(hr:av σ v V):SV P G σ h nx w m v h nx:=
 ⟨V,σ,w,hm,hr,.refl hk⟩
def AV.cells:AV→List AV
 |.agg l=>l
 |v=>[v]
def av.cells {v:AV}{V:Value}(hr:av σ v V):aC σ v.cells V.cells.toList:=by
 have one:∀{v:AV} {V:Value},av σ v V→V.cells=#[V]→aC σ [v] V.cells.toList:=by
  intro v V hr e;rw[e];simp only[aC];exact⟨V,[],rfl,hr,rfl⟩
 cases v with
 |agg l=>
  simp only[av]at hr;obtain⟨L,e,hl⟩:=hr;subst e;exact hl
 |opq n=>
  have h2:=hr;simp only[av]at h2;refine one hr ?_;cases V <;> first |rfl |(exfalso;have:=h2.2.1;simp[Value.oneCell']at this)
 |_=>
  refine one hr ?_;simp only[av]at hr
  first
   |(subst hr;rfl)
   |(obtain⟨_,e⟩:=hr;subst e;rfl)
   |(obtain⟨_,_,e⟩:=hr;subst e;rfl)
   |(obtain⟨_,e,_⟩:=hr;subst e;rfl)
   |(obtain⟨_,_,e,_⟩:=hr;subst e;rfl)
   |(obtain⟨_,_,_,_,e,_⟩:=hr;subst e;rfl)
def AV.one:AV→Bool
 |.agg _=>false
 |.tup _=>false
 |_=>true
def av.one {v:AV}{V:Value}(hr:av σ v V)(h1:v.one=true):V.oneCell'=true:=by
 cases v with
 |agg l=>simp[AV.one]at h1
 |tup l=>simp[AV.one]at h1
 |opq n=>simp only[av]at hr;exact hr.2.1
 |_=>
  simp only[av]at hr
  first
   |(subst hr;rfl)
   |(obtain⟨_,e⟩:=hr;subst e;rfl)
   |(obtain⟨_,_,e⟩:=hr;subst e;rfl)
   |(obtain⟨_,e,_⟩:=hr;subst e;rfl)
   |(obtain⟨_,_,e,_⟩:=hr;subst e;rfl)
   |(obtain⟨_,_,_,_,e,_⟩:=hr;subst e;rfl)
noncomputable section
def dS (l:List AV):Bool:=List.rec (motive:=fun _=>Bool) true (fun v _ ih=>match v.one with |true=>ih |false=>false) l
def LV:∀{l:List AV}{L:List Value},dS l=true→aC σ l L→∀V∈L,V.oneCell'=true
 |[],L,_,hr,V,hV=>by simp only[aC]at hr;subst hr;cases hV
 |v::l,L,ha,hr,V,hV=>by
  change (match v.one with |true=>dS l |false=>false)=true at ha
  simp only[aC]at hr;obtain⟨U,L',e,h1,h2⟩:=hr;subst e;cases hv:v.one with
  |false=>rw[hv]at ha;cases ha
  |true=>
   rw[hv]at ha
   rcases List.mem_cons.1 hV with e |e
   ·subst e;exact h1.one hv
   ·exact LV ha h2 V e
def newK (t:TypeId)(l:List AV)(h:Tr ABlk) (nx:Nat)(mk:Nat→AV):R:=
 rZ l .nil 0 fun c=>fN l.length fun n=>h.putK (some (.cells t n c false 0)) nx fun h'=>fN (Nat.succ nx) fun ax=>.val (mk nx) h' ax
def zFt (hk:Ok G σ h nx w)(t:TypeId){l:List AV}{L:List Value}(hl:aC σ l L):
  Post G σ h nx w (σ.add nx w.heap.size 0) (h.put nx (some (.cells t l.length (eu l .nil 0) false 0))) (nx+1) { w with heap:=w.heap.push (.cells L.toArray t) }:=by
 refine Post.alloc hk 0 _ _ ?_;have hle:σ.Le (σ.add nx w.heap.size 0):=Sg.add_le (hk.fresh nx (ae _));simp only[cq];refine⟨L.toArray,(0,0),rfl,fun k aW=>?_,fun k _=>by omega,?_⟩
 ·obtain⟨v,hv⟩:∃v,l[k]?=some v:=⟨l[k],by simp[aW]⟩;obtain⟨V,h1,h2⟩:=hl.get hv;refine⟨v,V,?_,by simpa using h1,h2.mono hle⟩;rw[qo,if_pos (by omega)];simpa using hv
 ·simp[hl.length]
def Kn (hk:Ok G σ h nx w)(t:TypeId){l:List AV}{L:List Value}(hl:aC σ l L){mk:Nat→AV}{m:Sem Value}{V:Value}
  (hm:m.run P w=.ok V { w with heap:=w.heap.push (.cells L.toArray t) }) (hr:av (σ.add nx w.heap.size 0) (mk nx) V):RV P G σ h nx w m (newK t l h nx mk):=by
 simp only[newK,lP,fN_eq,Tr.putK_eq,RV];exact⟨V,_,_,hm,hr,zFt hk t hl⟩
def SB (t:TypeId)(v:AV)(h:Tr ABlk) (nx:Nat):R:=newK t v.cells h nx fun i=>.ptr i 0
def zP4 (hk:Ok G σ h nx w)(t:TypeId){v:AV}{V:Value}(hr:av σ v V):RV P G σ h nx w (Instr.box t V) (SB t v h nx):=by
 refine Kn hk t hr.cells (V:=.pointer (some ⟨w.heap.size,0,none⟩)) ?_ ?_
 ·simp[Instr.box,newVar,newRow,newObj,Sem.run]
 ·simp only[av];exact⟨w.heap.size,by simp[Sg.add],rfl⟩
def QZ (ti:TI)(t:TypeId)(h:Tr ABlk) (nx:Nat):R:=
 match ti with
 |.mk _ _ _ (some z) _=>newK t z.cells h nx fun i=>.ptr i 0
 |_=>.fail
def zJd (hk:Ok G σ h nx w)(t:TypeId){ti:TI}(ht:cT P t ti):RV P G σ h nx w (Instr.alloc t true (.tuple #[])) (QZ ti t h nx):=by
 cases ti with
 |mk d size bytes zero fs=>
  cases zero with
  |none=>trivial
  |some z=>
   obtain⟨hu,i,hi,_,_,hz,_⟩:=ht;obtain⟨Z,hZ,kA,_⟩:=hz z rfl;show RV P G σ h nx w _ (newK t z.cells h nx fun i=>.ptr i 0);refine Kn hk t (kA σ).cells (V:=.pointer (some ⟨w.heap.size,0,none⟩)) ?_ ?_
   ·simp[Instr.alloc,zw hi hZ,newVar,newRow,newObj,Sem.run]
   ·simp only[av];exact⟨w.heap.size,by simp[Sg.add],rfl⟩
def jN (ti:TI)(a:AV)(h:Tr ABlk) (nx:Nat):R:=
 match ti with
 |.mk d size _ _ _=>
  match a with
  |.ptr i o=>
   match h.get i with
   |some (.cells _ n c _ _)=>
    match kB d with
    |true=>
     match Nat.ble (Nat.add o size) n with
     |true=>match ji c size o with |some l=>.val (.agg l) h nx |none=>.fail
     |false=>.fail
    |false=>match Nat.ble (Nat.succ o) n with
     |true=>match c.get o with |some v=>.val v h nx |none=>.fail
     |false=>.fail
   |_=>.fail
  |.ip cs=>match kB d with
   |true=>match Nat.ble size cs.length with
    |true=>.val (.agg (cs.take size)) h nx
    |false=>.fail
   |false=>match cs with |v::_=>.val v h nx |[]=>.fail
  |_=>.fail
def Ok.ip (hk:Ok G σ h nx w){cs:List AV}{A:Value}(ha:av σ (.ip cs) A):∃b o L,A=.pointer (some ⟨b,o,none⟩)∧aC σ cs L∧∀(k:Nat) V,L[k]?=some V→w.cell? ⟨b,o+k,none⟩=some V:=by
 simp only[av]at ha;obtain⟨b,o,C,L,e,h1,h2,h3⟩:=ha;refine⟨b,o,L,e,h2,fun k V aW=>?_⟩;obtain⟨⟨t,fr,hh⟩,_⟩:=hk.imm b C h1;rw[oB hh];rw[h3,List.getElem?_take]at aW;split at aW
 ·rw[List.getElem?_drop]at aW;simpa using aW
 ·cases aW
def RL (P:Program)(σ:Sg)(h:Tr ABlk) (nx:Nat)(w:World)(m:Sem Value):R→Prop
 |.val v g ny=>g=h∧ny=nx∧∃V,m.run P w=.ok V w∧av σ v V
 |.unit _ _=>False
 |.fail=>True
def RL.mk {m:Sem Value}{v:AV}{V:Value}(hm:m.run P w=.ok V w)(hr:av σ v V):RL P σ h nx w m (.val v h nx):=⟨rfl,rfl,V,hm,hr⟩
def RL.ok (hk:Ok G σ h nx w){m:Sem Value}{r:R}(hm:RL P σ h nx w m r):RV P G σ h nx w m r:=by
 cases r with
 |fail=>trivial
 |unit _ _=>exact hm.elim
 |val v g ny=>
  obtain⟨e1,e2,V,h1,h2⟩:=hm;subst e1;subst e2;exact SV.pure hk h1 h2
def zx9 (hk:Ok G σ h nx w)(t:TypeId){ti:TI}(ht:cT P t ti){a:AV}{A:Value}(ha:av σ a A):RL P σ h nx w (Instr.loadAt t A) (jN ti a h nx):=by
 cases ti with
 |mk d size bytes zero fs=>
 obtain⟨hu,inf,hi,hs,_⟩:=ht;unfold jN;cases a <;> try trivial
 case ip cs=>
  obtain⟨b,o,L,e,hL,hc⟩:=hk.ip ha;subst e;simp only;split
  ·rename_i hA;split
   ·rename_i hle;have nH:size≤cs.length:=ai hle;have hlen:=hL.length;refine RL.mk (V:=.agg (L.take size).toArray) ?_ ?_
    ·have iO:(loadCells ⟨b,o,none⟩ (L.take size).length).run P w=.ok (L.take size).toArray w:=by
      refine run_loadCells_list w _ _ fun j v hj=>?_;rw[jo];refine hc j v ?_;rw[List.getElem?_take]at hj;split at hj
      ·exact hj
      ·cases hj
     rw[List.length_take,Nat.min_eq_left (by omega)]at iO;simp[Instr.loadAt,Instr.sureAddr,loadVar,Ei hu,hA,oA hi,hs,iO]
    ·simp only[av];exact⟨_,rfl,hL.take size⟩
   ·trivial
  ·rename_i hA;cases cs with
   |nil=>trivial
   |cons v cs=>
    simp only[aC]at hL;obtain⟨V,L',e1,h1,h2⟩:=hL;refine RL.mk (V:=V) ?_ h1;have gQ:w.cell? ⟨b,o,none⟩=some V:=by simpa using hc 0 V (by rw[e1];rfl)
    simp[Instr.loadAt,Instr.sureAddr,loadVar,Ei hu,hA,gQ]
 rename_i i o;simp only[av]at ha;obtain⟨b,hb,e⟩:=ha;subst e;simp only;split
 ·rename_i e n c opn esz hg;obtain⟨b',C,fr,aV,aE,aJ,_,_⟩:=hk.cells hg;rw[hb]at aV;cases aV;split
  ·rename_i hA;split
   ·rename_i hle;have nH:o+size≤n:=ai hle;split
    ·rename_i l hl;obtain⟨hlen,bH⟩:=Rl c size o l hl;have hex:∃L:List Value,L.length=size∧∀k,k<size→∃v V,l[k]?=some v∧L[k]?=some V∧C[o+k]?=some V∧av σ v V:=by
      refine⟨(List.range size).map fun k=>C.getD (o+k) undef,by simp,fun k aW=>?_⟩;obtain⟨v,V,h1,h2,h3⟩:=aJ (o+k) (by omega);refine⟨v,V,(bH k aW).symm.trans h1,?_,h2,h3⟩;simp[aW,Array.getD_eq_getD_getElem?,h2]
     obtain⟨L,hL,I0⟩:=hex;refine RL.mk (V:=.agg L.toArray) ?_ ?_
     ·have iO:(loadCells ⟨b,o,none⟩ L.length).run P w=.ok L.toArray w:=by
       refine run_loadCells_list w _ L fun j v hj=>?_;have yD:j<size:=by
        rcases Nat.lt_or_ge j L.length with h1 |h1
        ·omega
        ·rw[List.getElem?_eq_none h1]at hj;cases hj
       obtain⟨_,V,_,h2,h3,_⟩:=I0 j yD;rw[jo,oB aE,h3,← h2,hj]
      rw[hL]at iO;simp[Instr.loadAt,Instr.sureAddr,loadVar,Ei hu,hA,oA hi,hs,iO]
     ·simp only[av];refine⟨L,rfl,aC.of_get (by omega) fun k v V h1 h2=>?_⟩;have aW:k<size:=by
       rcases Nat.lt_or_ge k l.length with h3 |h3
       ·omega
       ·rw[List.getElem?_eq_none h3]at h1;cases h1
      obtain⟨v',V',e1,e2,_,e4⟩:=I0 k aW;rw[h1]at e1;rw[h2]at e2;cases e1;cases e2;exact e4
    ·trivial
   ·trivial
  ·rename_i hA;split
   ·rename_i hle;have nH:o<n:=ai hle;split
    ·rename_i v hv;obtain⟨v',V,h1,h2,h3⟩:=aJ o nH;rw[hv]at h1;cases h1;refine RL.mk (V:=V) ?_ h3;have hc:w.cell? ⟨b,o,none⟩=some V:=by rw[oB aE,h2]
     simp[Instr.loadAt,Instr.sureAddr,loadVar,Ei hu,hA,hc]
    ·trivial
   ·trivial
 ·trivial
def zSc (hk:Ok G σ h nx w)(t:TypeId){ti:TI}(ht:cT P t ti){a:AV}{A:Value}(ha:av σ a A):RV P G σ h nx w (Instr.loadAt t A) (jN ti a h nx):=
 (zx9 hk t ht ha).ok hk
def KD (ti:TI)(a v:AV)(h:Tr ABlk) (nx:Nat):R:=
 match ti with
 |.mk _ size _ _ _=>
  match a with
  |.ptr i o=>
   match h.get i with
   |some (.cells e n c opn esz)=>
    match dS v.cells with
    |true=>match Nat.beq v.cells.length size with
     |true=>match Nat.ble (Nat.add o size) n with
      |true=>rZ v.cells c o fun c'=>h.putK (some (.cells e n c' opn esz)) i fun h'=>.unit h' nx
      |false=>.fail
     |false=>.fail
    |false=>.fail
   |_=>.fail
  |_=>.fail
def Mi (hk:Ok G σ h nx w){i n esz:Nat}{e:TypeId}{c:Tr AV}{opn:Bool}(hg:h.get i=some (.cells e n c opn esz)){o:Nat}{l:List AV}{L:List Value}
  (hl:aC σ l L) (hle:o+l.length≤n) {b:Nat} {C:Array Value} {fr:Nat×Nat} (hb:σ.blk i=some b) (aE:w.heap[b]?=some (.cells C e fr)):
  Post G σ h nx w σ (h.put i (some (.cells e n (eu l c o) opn esz))) nx (iE w b (.cells (py L C o) e fr)):=by
 obtain⟨b',C',fr',aV,tr,aJ,pN,bC⟩:=hk.cells hg;rw[hb]at aV;cases aV;rw[aE]at tr;cases tr;have hn:n≤C.size:=by split at bC <;> omega
 refine Post.set hk hg hb _ _ ?_;simp only[cq];refine⟨py L C o,fr,rfl,fun k aW=>?_,by rw[DJ];exact pN,by rw[DJ];exact bC⟩;rw[qo,Mc _ _ _ _ (by rw[hl.length];omega),hl.length]
 by_cases ct:o≤k∧k<o+l.length
 ·rw[if_pos ct,if_pos ct];obtain⟨v,hv⟩:∃v,l[k-o]?=some v:=⟨l[k-o]'(by omega),by simp[show k-o<l.length by omega]⟩;obtain⟨V,h1,h2⟩:=hl.get hv;exact⟨v,V,hv,h1,h2⟩
 ·rw[if_neg ct,if_neg ct];exact aJ k aW
def Yw (hk:Ok G σ h nx w)(t:TypeId){ti:TI}(ht:cT P t ti){a v:AV}{A V:Value}(ha:av σ a A)(hv:av σ v V):RU P G σ h nx w (Instr.storeAt t A V) (KD ti a v h nx):=by
 cases ti with
 |mk d size bytes zero fs=>
 obtain⟨hu,inf,hi,hs,_⟩:=ht;unfold KD;cases a <;> try trivial
 rename_i i o;simp only[av]at ha;obtain⟨b,hb,e⟩:=ha;subst e;simp only[lP,Tr.putK_eq];split
 ·rename_i e n c opn esz hg;obtain⟨b',C,fr,aV,aE,aJ,pN,bC⟩:=hk.cells hg;rw[hb]at aV;cases aV;split
  ·rename_i mj;split
   ·rename_i hlen;have Gg:v.cells.length=size:=ad hlen;split
    ·rename_i hle;have nH:o+size≤n:=ai hle;have hn:n≤C.size:=by split at bC <;> omega
     have ju:=hv.cells;have hL:=ju.length;refine⟨σ,_,?_,Mi hk hg ju (by omega) hb aE⟩;have aU:=Lb (P:=P) (b:=b) (o:=o) (e:=e) (fr:=fr) V.cells.toList 0 C w aE (by omega) pN (LV mj ju);have hc:V.cells.size=size:=by rw[← Gg,← hL];simp
     simp only[Nat.add_zero]at aU;simp[Instr.storeAt,Instr.sureAddr,storeVar,oA hi,hs,hc,aU]
    ·trivial
   ·trivial
  ·trivial
 ·trivial
end
def mV (l n:Nat):(cJ l n).length=l:=by simp[cJ]
def uq (l n:Nat):(bK l n).size=l:=by simp[bK,ByteArray.size,mV]
def LQ (l n:Nat):(bK l n).toList=cJ l n:=ByteArray.toList_mk _
def qk {l n k:Nat}(hk:k<l):(cJ l n)[k]?=some (UInt8.ofNat (n / 256 ^ k % 256)):=by simp[cJ,hk]
def u8 {n:Nat}(h:n<256):(UInt8.ofNat n).toNat=n:=by simp;omega
def zGg:∀(l:Nat){n m:Nat},n<256 ^ l→m<256 ^ l→cJ l n=cJ l m→n=m:=by
 intro l
 induction l with
 |zero=>intro n m h1 h2 _;simp at h1 h2;omega
 |succ l ih=>
  intro n m h1 h2 e;have e0:n % 256=m % 256:=by
   have:=congrArg (fun s=>s[0]?) e;simp only[qk (Nat.succ_pos l),Option.some.injEq]at this;have:=congrArg UInt8.toNat this;rw[u8 (Nat.mod_lt _ (by decide)),u8 (Nat.mod_lt _ (by decide))]at this;simpa using this
  have e1:n / 256=m / 256:=by
   refine ih (by rw[Nat.div_lt_iff_lt_mul (by decide)];rwa [← Nat.pow_succ]) (by rw[Nat.div_lt_iff_lt_mul (by decide)];rwa [← Nat.pow_succ]) ?_;apply List.ext_getElem?;intro k
   by_cases hk:k<l
   ·rw[qk hk,qk hk];have:=congrArg (fun s=>s[k+1]?) e;simp only[qk (Nat.succ_lt_succ hk)]at this;rw[Nat.pow_succ,Nat.mul_comm,← Nat.div_div_eq_div_mul,← Nat.div_div_eq_div_mul]at this;exact this
   ·rw[List.getElem?_eq_none (by rw[mV];omega),List.getElem?_eq_none (by rw[mV];omega)]
  have a1:=Nat.div_add_mod n 256;have a2:=Nat.div_add_mod m 256;omega
def xR (l n k m:Nat):Bool:=match Nat.beq l k with |true=>Nat.beq n m |false=>false
def zyv {l n k m:Nat}(h1:n<256 ^ l)(h2:m<256 ^ k):((bK l n).toList == (bK k m).toList)=xR l n k m:=by
 rw[LQ,LQ];unfold xR;cases e:Nat.beq l k with
 |false=>
  have aT:l≠k:=fun e'=>by subst e';simp at e
  simp only;apply beq_eq_false_iff_ne.2;intro e';have:=congrArg List.length e';rw[mV,mV]at this;exact aT this
 |true=>
  have:=ad e;subst this;simp only
  by_cases h:n=m
  ·subst h;simp
  ·have:Nat.beq n m=false:=by
    cases hb:Nat.beq n m with
    |false=>rfl
    |true=>exact absurd (ad hb) h
   rw[this];exact beq_eq_false_iff_ne.2 fun e'=>h (zGg l h1 h2 e')
def zMn {l n k m:Nat}(h1:n<256 ^ l):cJ l n++cJ k m=cJ (l+k) (n+m * 256 ^ l):=by
 apply List.ext_getElem?;intro j
 by_cases hj:j<l
 ·rw[List.getElem?_append_left (by rw[mV];exact hj),qk hj,qk (by omega)]
  congr 2
  have e:256 ^ l=256 ^ j * (256 * 256 ^ (l-j-1)):=by
   rw[← Nat.pow_succ',← Nat.pow_add];congr 1;omega
  rw[e,show m * (256 ^ j * (256 * 256 ^ (l-j-1)))=256 ^ j * (256 * (m * 256 ^ (l-j-1))) by ac_rfl];rw[Nat.add_mul_div_left _ _ (Nat.pos_of_ne_zero (by simp)),Nat.add_mul_mod_self_left]
 ·rw[List.getElem?_append_right (by rw[mV];omega),mV]
  by_cases fm:j<l+k
  ·rw[qk (by omega),qk fm]
   congr 3
   have e:256 ^ j=256 ^ l * 256 ^ (j-l):=by rw[← Nat.pow_add];congr 1;omega
   rw[e,← Nat.div_div_eq_div_mul,Nat.mul_comm m,Nat.add_mul_div_left _ _ (Nat.pos_of_ne_zero (by simp)),Nat.div_eq_of_lt h1,Nat.zero_add]
  ·rw[List.getElem?_eq_none (by rw[mV];omega),List.getElem?_eq_none (by rw[mV];omega)]
def zRd {l n k m:Nat}(h1:n<256 ^ l):bK l n++bK k m=bK (l+k) (n+m * 256 ^ l):=by
 apply ByteArray.ext;rw[ByteArray.data_append];show (cJ l n).toArray++(cJ k m).toArray=_;rw[List.append_toArray,zMn h1];rfl
def zKe {l n k m:Nat}(h1:n<256 ^ l)(h2:m<256 ^ k):n+m * 256 ^ l<256 ^ (l+k):=by
 rw[Nat.pow_add,Nat.mul_comm (256 ^ l)]
 calc n+m * 256 ^ l<256 ^ l+m * 256 ^ l:=by omega
  _=(m+1) * 256 ^ l:=by rw[Nat.add_mul];omega
  _≤256 ^ k * 256 ^ l:=Nat.mul_le_mul_right _ h2
def zQ1 {l n a b:Nat}(h2:b≤l):((cJ l n).drop a).take (b-a)=cJ (b-a) (n / 256 ^ a % 256 ^ (b-a)):=by
 apply List.ext_getElem?;intro j
 by_cases hj:j<b-a
 ·rw[List.getElem?_take_of_lt hj,List.getElem?_drop,qk (by omega),qk hj]
  congr 2
  rw[Nat.pow_add,← Nat.div_div_eq_div_mul];have e:256 ^ (b-a)=256 ^ j * (256 * 256 ^ (b-a-j-1)):=by
   rw[← Nat.pow_succ',← Nat.pow_add];congr 1;omega
  rw[e,Nat.mod_mul_right_div_self,Nat.mod_mul_right_mod]
 ·rw[List.getElem?_eq_none (by simp[mV];omega),List.getElem?_eq_none (by rw[mV];omega)]
def zxa {l n a b:Nat}(h2:b≤l):(bK l n).extract a b=bK (b-a) (n / 256 ^ a % 256 ^ (b-a)):=by
 apply ByteArray.ext;rw[ByteArray.data_extract];show (cJ l n).toArray.extract a b=(cJ _ _).toArray;rw[← zQ1 h2,List.extract_toArray]
def zI8 {l n k:Nat}(hk:k<l):(bK l n)[k]?=some (UInt8.ofNat (n / 256 ^ k % 256)):=by
 have:k<(bK l n).size:=by rw[uq];exact hk
 have h0:(bK l n)[k]?=some ((bK l n)[k]'this):=getElem?_pos (bK l n) k this;rw[h0];have h2:=qk (n:=n) hk;rw[aa (by rw[mV];exact hk)]at h2;rw[← h2];rfl
noncomputable section
def DT (l:Nat):Nat→Nat→Nat→Bool:=
 Nat.rec (motive:=fun _=>Nat→Nat→Nat→Bool) (fun _ k _=>Nat.ble 1 k)
  (fun _ ih n k m=>match k with
   |0=>false
   |Nat.succ k'=>match Nat.beq (Nat.mod n 256) (Nat.mod m 256) with
    |true=>ih (Nat.div n 256) k' (Nat.div m 256)
    |false=>Nat.ble (Nat.succ (Nat.mod n 256)) (Nat.mod m 256)) l
def r7 (l n:Nat):cJ (l+1) n=UInt8.ofNat (n % 256)::cJ l (n / 256):=by
 apply List.ext_getElem?;intro j;cases j with
 |zero=>rw[qk (Nat.succ_pos l)];simp
 |succ j=>
  by_cases hj:j<l
  ·rw[qk (by omega),List.getElem?_cons_succ,qk hj,Nat.pow_succ,Nat.mul_comm,← Nat.div_div_eq_div_mul]
  ·rw[List.getElem?_eq_none (by rw[mV];omega),List.getElem?_cons_succ,List.getElem?_eq_none (by rw[mV];omega)]
def zTv:∀(l n k m:Nat),Op.bytesLess (cJ l n) (cJ k m)=DT l n k m:=by
 intro l
 induction l with
 |zero=>
  intro n k m;cases k with
  |zero=>rfl
  |succ k=>rw[r7];rfl
 |succ l ih=>
  intro n k m;cases k with
  |zero=>simp[cJ,Op.bytesLess];rfl
  |succ k=>
   rw[r7,r7,Op.bytesLess,ih];show _=(match Nat.beq (n % 256) (m % 256) with
    |true=>DT l (n / 256) k (m / 256)
    |false=>Nat.ble (Nat.succ (n % 256)) (m % 256))
   have a1:n % 256<256:=Nat.mod_lt _ (by decide);have a2:m % 256<256:=Nat.mod_lt _ (by decide);cases e:Nat.beq (n % 256) (m % 256) with
   |true=>
    have:=ad e;rw[this];simp
   |false=>
    have aT:n % 256≠m % 256:=fun e'=>by rw[e']at e;simp at e
    have hb:(UInt8.ofNat (n % 256) == UInt8.ofNat (m % 256))=false:=by
     apply beq_eq_false_iff_ne.2;intro e';have:=congrArg UInt8.toNat e';rw[u8 a1,u8 a2]at this;exact aT this
    rw[hb];simp only[Bool.false_and,Bool.or_false];have:(UInt8.ofNat (n % 256)<UInt8.ofNat (m % 256))↔n % 256<m % 256:=by
     rw[UInt8.lt_iff_toNat_lt,u8 a1,u8 a2]
    cases e2:Nat.ble (Nat.succ (n % 256)) (m % 256) with
    |true=>have h9:n % 256<m % 256:=ai e2;simp[this,h9]
    |false=>
     have:¬n % 256<m % 256:=fun hh=>by rw[Nat.ble_eq_true_of_le hh]at e2;cases e2
     simp_all
def xa (l:List UInt8):Nat:=List.rec (motive:=fun _=>Nat) 0 (fun b _ ih=>Nat.add b.toNat (Nat.mul 256 ih)) l
def YO:∀(l:List UInt8),xa l<256 ^ l.length∧cJ l.length (xa l)=l
 |[]=>by simp[xa,cJ]
 |b::l=>by
  obtain⟨h1,h2⟩:=YO l;have hb:b.toNat<256:=b.toNat_lt;have e:xa (b::l)=b.toNat+256 * xa l:=rfl;rw[e];refine⟨?_,?_⟩
  ·rw[List.length_cons,Nat.pow_succ];omega
  ·rw[List.length_cons,r7,show (b.toNat+256 * xa l) % 256=b.toNat by omega,show (b.toNat+256 * xa l) / 256=xa l by omega,h2];simp
end
def yY (bits:Nat):Int→Nat
 |.ofNat a=>Nat.mod a (Nat.pow 2 bits)
 |.negSucc a=>Nat.sub (Nat.sub (Nat.pow 2 bits) 1) (Nat.mod a (Nat.pow 2 bits))
def zFw (bits:Nat) (n:Int):n % (2 ^ bits:Int)=Int.ofNat (yY bits n):=by
 have A4:0<2 ^ bits:=Nat.pow_pos (by decide);cases n with
 |ofNat a=>
  show ((a:Nat):Int) % (2 ^ bits:Int)=((a % 2 ^ bits:Nat):Int);simp
 |negSucc a=>
  have h1:a % 2 ^ bits<2 ^ bits:=Nat.mod_lt _ A4;have hm:yY bits (.negSucc a)=2 ^ bits-1-a % 2 ^ bits:=rfl;rw[hm];have h2:(Int.ofNat (2 ^ bits-1-a % 2 ^ bits))=(2 ^ bits:Int)-1-(a % 2 ^ bits:Nat):=by
   show ((2 ^ bits-1-a % 2 ^ bits:Nat):Int)=_;rw[Int.natCast_sub (by omega),Int.natCast_sub (by omega)];simp
  have e:(Int.negSucc a)=(Int.ofNat (2 ^ bits-1-a % 2 ^ bits))+(2 ^ bits:Int) * (-(a / 2 ^ bits:Nat)-1):=by
   have:=Nat.div_add_mod a (2 ^ bits);rw[Int.negSucc_eq,h2];have h3:(a:Int)=(2 ^ bits:Int) * (a / 2 ^ bits:Nat)+(a % 2 ^ bits:Nat):=by
    have h4:((2 ^ bits * (a / 2 ^ bits)+a % 2 ^ bits:Nat):Int)=(a:Int):=by rw[this]
    rw[← h4];simp
   rw[Int.mul_sub,Int.mul_neg];omega
  have h5:(Int.ofNat (2 ^ bits-1-a % 2 ^ bits))<(2 ^ bits:Int):=by rw[h2];omega
  have h6:(0:Int)≤Int.ofNat (2 ^ bits-1-a % 2 ^ bits):=Int.natCast_nonneg _;generalize Int.ofNat (2 ^ bits-1-a % 2 ^ bits)=q at e h5 h6;rw[e,Int.add_mul_emod_self_left,Int.emod_eq_of_lt h6 h5]
def oD (k:IntKind) (n:Int):Int:=
 match k.signed with
 |false=>Int.ofNat (yY k.bits n)
 |true=>match Nat.ble (Nat.pow 2 (Nat.sub k.bits 1)) (yY k.bits n) with
  |true=>Int.negSucc (Nat.sub (Nat.sub (Nat.pow 2 k.bits) 1) (yY k.bits n))
  |false=>Int.ofNat (yY k.bits n)
def zUo (bits:Nat) (n:Int):yY bits n<2 ^ bits:=by
 have A4:0<2 ^ bits:=Nat.pow_pos (by decide);cases n with
 |ofNat a=>exact Nat.mod_lt _ A4
 |negSucc a=>show 2 ^ bits-1-a % 2 ^ bits < _;omega
def qu (k:IntKind) (n:Int):oD k n=k.wrap n:=by
 have hm:=zFw k.bits n;have ay:=zUo k.bits n;unfold oD IntKind.wrap;simp only;rw[hm];generalize yY k.bits n=m at ay;cases hs:k.signed with
 |false=>simp
 |true=>
  simp only[Bool.true_and];show (match Nat.ble (2 ^ (k.bits-1)) m with
   |true=>Int.negSucc (2 ^ k.bits-1-m)
   |false=>Int.ofNat m)=_
  cases hb:Nat.ble (2 ^ (k.bits-1)) m with
  |true=>
   have h1:2 ^ (k.bits-1)≤m:=ai hb;have h2:((2:Int) ^ (k.bits-1))≤Int.ofNat m:=by
    show ((2:Int) ^ (k.bits-1))≤((m:Nat):Int)
    exact_mod_cast h1
   simp only[ge_iff_le,h2,decide_true,if_true];rw[Int.negSucc_eq];show _=((m:Nat):Int)-2 ^ k.bits;have:((2 ^ k.bits-1-m:Nat):Int)=(2:Int) ^ k.bits-1-m:=by
    rw[Int.natCast_sub (by omega),Int.natCast_sub (by omega)];simp
   rw[this];omega
  |false=>
   have h1:¬2 ^ (k.bits-1)≤m:=fun hh=>by rw[Nat.ble_eq_true_of_le hh]at hb;cases hb
   have h2:¬((2:Int) ^ (k.bits-1))≤Int.ofNat m:=by
    intro hh;apply h1;have qQ:((2:Int) ^ (k.bits-1))≤((m:Nat):Int):=hh
    exact_mod_cast qQ
   simp only[ge_iff_le,h2,decide_false,Bool.false_eq_true,if_false]
def rk:Int→Int→Bool
 |.ofNat a,.ofNat b=>Nat.ble (Nat.succ a) b
 |.ofNat _,.negSucc _=>false
 |.negSucc _,.ofNat _=>true
 |.negSucc a,.negSucc b=>Nat.ble (Nat.succ b) a
def sv (x y:Int):rk x y=decide (x<y):=by
 have nb:∀a b,Nat.ble (Nat.succ a) b=decide (a<b):=fun a b=>by
  cases e:Nat.ble (Nat.succ a) b with
  |true=>have:=ai e;simp;omega
  |false=>
   have:¬a<b:=fun hh=>by rw[Nat.ble_eq_true_of_le hh]at e;cases e
   simp;omega
 cases x with
 |ofNat a=>
  cases y with
  |ofNat b=>rw[rk,nb];congr 1;apply propext;show a<b↔((a:Nat):Int)<((b:Nat):Int);omega
  |negSucc b=>rw[rk];symm;apply decide_eq_false;show ¬((a:Nat):Int)<Int.negSucc b;omega
 |negSucc a=>
  cases y with
  |ofNat b=>rw[rk];symm;apply decide_eq_true;show Int.negSucc a<((b:Nat):Int);omega
  |negSucc b=>rw[rk,nb];congr 1;apply propext;show b<a↔Int.negSucc a<Int.negSucc b;omega
def rS:Int→Int→Bool
 |.ofNat a,.ofNat b=>Nat.beq a b
 |.negSucc a,.negSucc b=>Nat.beq a b
 |_,_=>false
def sE (x y:Int):rS x y=(x == y):=by
 have nb:∀a b,Nat.beq a b=decide (a=b):=fun a b=>by
  cases e:Nat.beq a b with
  |true=>have:=ad e;simp[this]
  |false=>
   have:¬a=b:=fun hh=>by subst hh;simp at e
   simp[this]
 cases x <;> cases y <;> simp[rS,nb] <;> first |rfl |(congr 1;apply propext;omega) |omega
variable {P : Program} {G : Gl} {σ τ υ : Sg} {h g f : Tr ABlk} {nx ny nz : Nat} {w x y : World}
section
def iR (op:BinOp)(k:IntKind) (a b:Int)(h:Tr ABlk) (nx:Nat):R:=
 let num (z:Int):R:=fI z fun z=>.val (.int k z) h nx
 let fB (c:Bool):R:=match c with |true=>.val (.bool true) h nx |false=>.val (.bool false) h nx
 match op with
 |.add=>num (oD k (Int.add a b))
 |.sub=>num (oD k (Int.sub a b))
 |.mul=>num (oD k (Int.mul a b))
 |.quo=>match rS b 0 with |true=>.fail |false=>num (oD k (Int.tdiv a b))
 |.rem=>match rS b 0 with |true=>.fail |false=>num (Int.tmod a b)
 |.and=>match a,b with |.ofNat a,.ofNat b=>num (oD k (Int.ofNat (Nat.land (Nat.mod a (Nat.pow 2 k.bits)) (Nat.mod b (Nat.pow 2 k.bits))))) |_,_=>.fail
 |.or=>match a,b with |.ofNat a,.ofNat b=>num (oD k (Int.ofNat (Nat.lor (Nat.mod a (Nat.pow 2 k.bits)) (Nat.mod b (Nat.pow 2 k.bits))))) |_,_=>.fail
 |.xor=>match a,b with |.ofNat a,.ofNat b=>num (oD k (Int.ofNat (Nat.xor (Nat.mod a (Nat.pow 2 k.bits)) (Nat.mod b (Nat.pow 2 k.bits))))) |_,_=>.fail
 |.eql=>fB (rS a b)
 |.neq=>fB (!(rS a b))
 |.lss=>fB (rk a b)
 |.leq=>fB (!(rk b a))
 |.gtr=>fB (rk b a)
 |.geq=>fB (!(rk a b))
 |_=>.fail
def zOy (hk:Ok G σ h nx w)(t:TypeId)(op:BinOp)(k:IntKind) (a b:Int):RV P G σ h nx w (binOp op t (.int k a) (.int k b)) (iR op k a b h nx):=by
 have num:∀{m:Sem Value} {z:Int},m=Pure.pure (.int k z)→RV P G σ h nx w m (fI z fun z=>.val (.int k z) h nx):=by
  intro m z e;subst e;rw[fI_eq];exact SV.pure hk rfl (by simp[av])
 have fB:∀{m:Sem Value} {c:Bool},m=Pure.pure (.bool c)→RV P G σ h nx w m (match c with |true=>.val (.bool true) h nx |false=>.val (.bool false) h nx):=by
  intro m c e;subst e;cases c <;> exact SV.pure hk rfl (by simp[av])
 have bv:∀(a:Nat),(BitVec.ofInt k.bits (Int.ofNat a)).toNat=a % 2 ^ k.bits:=by
  intro a;rw[BitVec.toNat_ofInt];show (((a:Nat):Int) % ((2 ^ k.bits:Nat):Int)).toNat=_
  norm_cast
 unfold iR;cases op <;> try trivial
 ·exact num (by simp only[binOp,Op.intArith,qu,ne_eq,not_true,if_false];rfl)
 ·exact num (by simp only[binOp,Op.intArith,qu,ne_eq,not_true,if_false];rfl)
 ·exact num (by simp only[binOp,Op.intArith,qu,ne_eq,not_true,if_false];rfl)
 ·simp only;cases e:rS b 0 with
  |true=>trivial
  |false=>
   have:b≠0:=by intro e';subst e';simp[sE]at e
   exact num (by simp[binOp,Op.intDiv,qu,this])
 ·simp only;cases e:rS b 0 with
  |true=>trivial
  |false=>
   have:b≠0:=by intro e';subst e';simp[sE]at e
   exact num (by simp[binOp,Op.intDiv,this])
 ·cases a <;> cases b <;> try trivial
  refine num ?_;simp only[binOp,Op.intBits,BitVec.toNat_and,bv,qu,ne_eq,not_true,if_false];rfl
 ·cases a <;> cases b <;> try trivial
  refine num ?_;simp only[binOp,Op.intBits,BitVec.toNat_or,bv,qu,ne_eq,not_true,if_false];rfl
 ·cases a <;> cases b <;> try trivial
  refine num ?_;simp only[binOp,Op.intBits,BitVec.toNat_xor,bv,qu,ne_eq,not_true,if_false];rfl
 ·exact fB (by simp only[binOp,Op.intCmp,ne_eq,not_true,if_false,sE])
 ·exact fB (by simp only[binOp,Op.intCmp,ne_eq,not_true,if_false,sE,bne])
 ·exact fB (by simp only[binOp,Op.intCmp,ne_eq,not_true,if_false,sv])
 ·exact fB (by simp only[binOp,Op.intCmp,ne_eq,not_true,if_false,sv,← decide_not,Int.not_lt])
 ·exact fB (by simp only[binOp,Op.intCmp,ne_eq,not_true,if_false,sv,gt_iff_lt])
 ·exact fB (by simp only[binOp,Op.intCmp,ne_eq,not_true,if_false,sv,← decide_not,Int.not_lt,ge_iff_le])
def ur (op:BinOp)(k:IntKind) (a:Int) (b:Int)(h:Tr ABlk) (nx:Nat):R:=
 match b with
 |.negSucc _=>.fail
 |.ofNat n=>
  match op with
  |.shl=>fI (oD k (Int.mul a (Int.ofNat (Nat.pow 2 (min n k.bits))))) fun z=>.val (.int k z) h nx
  |.shr=>match a with
   |.ofNat a=>fN (Nat.div a (Nat.pow 2 (min n k.bits))) fun z=>.val (.int k (Int.ofNat z)) h nx
   |.negSucc _=>.fail
  |_=>.fail
def zFu (hk:Ok G σ h nx w)(t:TypeId)(op:BinOp)(k yk:IntKind) (a b:Int):RV P G σ h nx w (binOp op t (.int k a) (.int yk b)) (ur op k a b h nx):=by
 have pw:∀n:Nat,((2:Int) ^ n)=Int.ofNat (2 ^ n):=fun n=>by show _=((2 ^ n:Nat):Int);simp
 unfold ur;cases b with
 |negSucc n=>trivial
 |ofNat n=>
  have hn:¬(Int.ofNat n<0):=by show ¬((n:Nat):Int)<0;omega
  cases op <;> try trivial
  ·simp only[fI_eq];refine SV.pure hk (V:=.int k (oD k (a.mul (Int.ofNat (Nat.pow 2 (min n k.bits)))))) ?_ (by simp only[av]);simp only[binOp,Op.shift,if_neg hn,qu,pw];rfl
  ·cases a with
   |negSucc a=>trivial
   |ofNat a=>
    simp only[fN_eq];refine SV.pure hk (V:=.int k (Int.ofNat (a.div (Nat.pow 2 (min n k.bits))))) ?_ (by simp only[av]);have fd:∀a b:Nat,(Int.ofNat a).fdiv (Int.ofNat b)=Int.ofNat (a / b):=by
     intro a b;cases a with
     |zero=>rw[Nat.zero_div];rfl
     |succ a=>rfl
    simp only[binOp,Op.shift,if_neg hn,pw,fd];rfl
def zD (op:BinOp) (l n k m:Nat)(h:Tr ABlk) (nx:Nat):R:=
 let fB (c:Bool):R:=match c with |true=>.val (.bool true) h nx |false=>.val (.bool false) h nx
 match op with
 |.add=>match Nat.ble (Nat.add l k) 1000000000 with
  |true=>fN (Nat.add l k) fun lk=>fN (Nat.add n (Nat.mul m (Nat.pow 256 l))) fun nm=>.val (.str lk nm) h nx
  |false=>.fail
 |.eql=>fB (xR l n k m)
 |.neq=>fB (!(xR l n k m))
 |.lss=>fB (DT l n k m)
 |.leq=>fB (DT l n k m || xR l n k m)
 |.gtr=>fB (!(DT l n k m || xR l n k m))
 |.geq=>fB (!(DT l n k m))
 |_=>.fail
def zJg (hk:Ok G σ h nx w)(t:TypeId)(op:BinOp){l n k m:Nat}(h1:n<256 ^ l)(h2:m<256 ^ k):
  RV P G σ h nx w (binOp op t (.string (bK l n)) (.string (bK k m))) (zD op l n k m h nx):=by
 have fB:∀{m:Sem Value} {c:Bool},m=Pure.pure (.bool c)→RV P G σ h nx w m (match c with |true=>.val (.bool true) h nx |false=>.val (.bool false) h nx):=by
  intro m c e;subst e;cases c <;> exact SV.pure hk rfl (by simp[av])
 have heq:=zyv h1 h2;have ay:=zTv l n k m;rw[← LQ,← LQ]at ay;unfold zD;cases op <;> try trivial
 ·simp only;cases e:Nat.ble (Nat.add l k) 1000000000 with
  |false=>trivial
  |true=>
   have hle:l+k≤1000000000:=ai e;simp only[fN_eq];refine SV.pure hk (V:=.string (bK (l+k) (n+m * 256 ^ l))) ?_ ?_
   ·have AM:¬(((bK l n).size+(bK k m).size:Nat):Int) > IntKind.i64.max:=by
     rw[uq,uq];have:IntKind.i64.max=9223372036854775807:=by decide
     rw[this];omega
    simp only[binOp,Op.stringOp,if_neg AM,zRd h1];rfl
   ·simp only[av];exact⟨zKe h1 h2,rfl⟩
 ·exact fB (by simp only[binOp,Op.stringOp,heq])
 ·exact fB (by simp only[binOp,Op.stringOp,heq])
 ·exact fB (by simp only[binOp,Op.stringOp,ay])
 ·exact fB (by simp only[binOp,Op.stringOp,ay,heq])
 ·exact fB (by simp only[binOp,Op.stringOp,ay,heq])
 ·exact fB (by simp only[binOp,Op.stringOp,ay])
def jg (op:BinOp)(a b:ByteArray)(h:Tr ABlk) (nx:Nat):R:=
 match op with
 |.add=>match Nat.ble (Nat.add a.size b.size) 9223372036854775807 with
  |true=>.val (.bs (a++b)) h nx
  |false=>.fail
 |.eql=>.val (.bool (decide (a=b))) h nx
 |.neq=>.val (.bool (!(decide (a=b)))) h nx
 |.lss=>.val (.bool (Op.bytesLess a.toList b.toList)) h nx
 |.leq=>.val (.bool (Op.bytesLess a.toList b.toList || decide (a=b))) h nx
 |.gtr=>.val (.bool (!(Op.bytesLess a.toList b.toList || decide (a=b)))) h nx
 |.geq=>.val (.bool (!(Op.bytesLess a.toList b.toList))) h nx
 |_=>.fail
def zM7 (hk:Ok G σ h nx w)(t:TypeId)(op:BinOp)(a b:ByteArray):RV P G σ h nx w (binOp op t (.string a) (.string b)) (jg op a b h nx):=by
 have fB:∀{m:Sem Value} {c:Bool},m=Pure.pure (.bool c)→RV P G σ h nx w m (.val (.bool c) h nx):=by
  intro m c e;subst e;exact SV.pure hk rfl (by simp[av])
 have dX:(a.toList == b.toList)=decide (a=b):=by
  by_cases he:a=b
  ·subst he;simp
  ·have:¬a.toList=b.toList:=fun e=>he (by
    cases a;cases b;rw[ByteArray.toList_mk,ByteArray.toList_mk]at e
    congr 1
    exact Array.ext' e)
   simp[he,this]
 unfold jg;cases op <;> try trivial
 ·simp only;cases e:Nat.ble (Nat.add a.size b.size) 9223372036854775807 with
  |false=>trivial
  |true=>
   have hle:a.size+b.size≤9223372036854775807:=ai e;refine SV.pure hk (V:=.string (a++b)) ?_ (by simp only[av]);have AM:¬((a.size+b.size:Nat):Int) > IntKind.i64.max:=by
    have:IntKind.i64.max=9223372036854775807:=(by decide);rw[this];omega
   simp only[binOp,Op.stringOp,if_neg AM];rfl
 ·exact fB (by simp only[binOp,Op.stringOp,dX])
 ·exact fB (by simp only[binOp,Op.stringOp,dX])
 ·exact fB (by simp only[binOp,Op.stringOp])
 ·exact fB (by simp only[binOp,Op.stringOp,dX])
 ·exact fB (by simp only[binOp,Op.stringOp,dX])
 ·exact fB (by simp only[binOp,Op.stringOp])
def vQ (op:UnOp)(v:AV)(h:Tr ABlk) (nx:Nat):R:=
 match op with
 |.not=>match v with |.bool b=>.val (.bool (Bool.rec true false b)) h nx |_=>.fail
 |.neg=>match v with |.int k n=>fI (oD k (Int.sub 0 n)) fun z=>.val (.int k z) h nx |_=>.fail
 |_=>.fail
def zG0 (hk:Ok G σ h nx w)(op:UnOp){v:AV}{V:Value}(hv:av σ v V):RV P G σ h nx w (Op.unary op V) (vQ op v h nx):=by
 unfold vQ;cases op <;> try trivial
 ·cases v <;> try trivial
  rename_i k n;simp only[av]at hv;subst hv;simp only[fI_eq];exact SV.pure hk (V:=.int k (oD k (Int.sub 0 n))) (by rw[qu];rfl) (by simp only[av])
 ·cases v <;> try trivial
  rename_i b;simp only[av]at hv;subst hv;cases b with
  |true=>exact SV.pure hk (V:=.bool false) rfl (by simp only[av])
  |false=>exact SV.pure hk (V:=.bool true) rfl (by simp only[av])
def TF.size {t:TypeId}{s:Nat}{b:Bool}(ht:TF P t s b)(w:World):(sizeOf t).run P w=.ok s w:=by
 obtain⟨⟨i,hi,hs⟩,_⟩:=ht;rw[oA hi,hs]
def TF.agg {t:TypeId}{s:Nat}{b:Bool}(ht:TF P t s b)(w:World):(isAgg t).run P w=.ok b w:=by
 obtain⟨_,d,hd,hb⟩:=ht;rw[Ei hd,hb]
def xy (ti:TI)(a:AV) (k:Nat)(h:Tr ABlk) (nx:Nat):R:=
 match ti with
 |.mk d _ _ _ fs=>match d with
  |.struct _=>match fs[k]? with
   |some (o,s,_)=>match Nat.beq s 0 with
    |true=>.fail
    |false=>match a with
     |.ptr i p=>fN (Nat.add p o) fun q=>.val (.ptr i q) h nx
     |.ip cs=>.val (.ip (cs.drop o)) h nx
     |_=>.fail
   |none=>.fail
  |_=>.fail
def av.ip_drop {cs:List AV}{b p:Nat}(ha:av σ (.ip cs) (.pointer (some ⟨b,p,none⟩))) (o:Nat):av σ (.ip (cs.drop o)) (.pointer (some ⟨b,p+o,none⟩)):=by
 simp only[av]at ha ⊢;obtain⟨b',o',C,L,e,h1,h2,h3⟩:=ha;cases e;refine⟨b,p+o,C,L.drop o,rfl,h1,h2.drop o,?_⟩;have e3:=congrArg (List.drop o) h3;rw[List.drop_take,List.drop_drop]at e3;rw[List.length_drop];exact e3
def gH.get {es:Nat}:∀{L D:List Value}{n:Nat}{X:Value},gH es L D→L[n]?=some X→X.cells.toList=(D.drop (n * es)).take es∧X.cells.size=es
 |[],D,n,X,_,hn=>by simp at hn
 |Y::L,D,0,X,h,hn=>by
  simp at hn;subst hn;simp only[gH]at h;simpa using ⟨h.1,h.2.1⟩
 |Y::L,D,n+1,X,h,hn=>by
  simp only[gH]at h;have:=gH.get h.2.2 (by simpa using hn);rw[List.drop_drop]at this;rw[show (n+1) * es=es+n * es by rw[Nat.succ_mul,Nat.add_comm]];exact this
def av.fz_at {es n:Nat}{full:Bool}{xs:List AV}{x:AV}{A:Value}(ha:av σ (.fz es full xs) A)(hn:xs[n]?=some x):
  ∃b o cap,A=.slice (some ⟨b,o,none⟩) xs.length cap∧av σ (.ip x.cells) (.pointer (some ⟨b,o+n * es,none⟩)):=by
 simp only[av]at ha;obtain⟨a,cap,e,h1,h2,h4,h3⟩:=ha;have ay:n<xs.length:=(List.getElem?_eq_some_iff.1 hn).1;obtain⟨b,o,C,L,e1,i1,i2,i3⟩:=h3 (by omega);subst e1;refine⟨b,o,cap,e,?_⟩;obtain⟨X,hX,hr⟩:=i2.get hn;obtain⟨c1,c2⟩:=i3.get hX;simp only[av];refine⟨b,o+n * es,C,X.cells.toList,rfl,i1,hr.cells,?_⟩;rw[List.drop_drop]at c1;rw[Array.length_toList,c2];exact c1
def zHc (hk:Ok G σ h nx w)(t:TypeId){ti:TI}(ht:cT P t ti){a:AV}{A:Value}(ha:av σ a A) (k:Nat):RV P G σ h nx w (Instr.fieldAt t A k) (xy ti a k h nx):=by
 cases ti with
 |mk d size bytes zero fs=>
 obtain⟨hu,inf,hi,hs,oe,fu,hf,tl,nC⟩:=ht;unfold xy;cases d <;> try trivial
 rename_i fields;simp only;split
 ·rename_i o s b wA;obtain⟨fl,ij,ho,ef⟩:=hf fields rfl k o s b wA;cases e0:Nat.beq s 0 with
  |true=>trivial
  |false=>
   have pV:¬s=0:=fun e=>by subst e;simp at e0
   cases a <;> try trivial
   case ip cs=>
    have qM:=ha;simp only[av]at qM;obtain⟨bb,p,_,_,e,_⟩:=qM;subst e;refine SV.pure hk (V:=.pointer (some ⟨bb,p+o,none⟩)) ?_ (ha.ip_drop o);simp[Instr.fieldAt,run_underlying hu,ij,Instr.sureAddr,fieldPlace,ef.size,pV,ho,jo]
   rename_i i p;simp only[av]at ha;obtain⟨bb,hb,e⟩:=ha;subst e;simp only[fN_eq];refine SV.pure hk (V:=.pointer (some ⟨bb,p+o,none⟩)) ?_ ?_
   ·simp[Instr.fieldAt,run_underlying hu,ij,Instr.sureAddr,fieldPlace,ef.size,pV,ho,jo]
   ·simp only[av];exact⟨bb,hb,rfl⟩
 ·trivial
def BV (l:List AV) (o s:Nat)(b:Bool):Option AV:=
 match b with
 |true=>match Nat.ble (Nat.add o s) l.length with
  |true=>some (.agg ((l.drop o).take s))
  |false=>none
 |false=>l[o]?
def zzq {t:TypeId}{s:Nat}{b:Bool}(ht:TF P t s b){l:List AV}{L:List Value}(hl:aC σ l L){o:Nat}{v:AV}(hp:BV l o s b=some v)(w:World):
  ∃V,(part t L.toArray o).run P w=.ok V w∧av σ v V:=by
 unfold BV at hp;cases b with
 |false=>
  simp only at hp;obtain⟨V,h1,h2⟩:=hl.get hp;exact⟨V,by simp[part,ht.agg,h1],h2⟩
 |true=>
  simp only at hp;split at hp
  ·rename_i hle;have nH:o+s≤l.length:=ai hle;cases hp;refine⟨.agg ((L.drop o).take s).toArray,?_,?_⟩
   ·simp[part,ht.agg,ht.size]
   ·simp only[av];refine⟨_,rfl,aC.of_get (by simp[hl.length]) fun k v V h1 h2=>?_⟩;have mM:k<s:=by
     rcases Nat.lt_or_ge k s with h3 |h3
     ·exact h3
     ·rw[List.getElem?_eq_none (by simp;omega)]at h1;cases h1
    rw[List.getElem?_take_of_lt mM,List.getElem?_drop]at h1 h2;obtain⟨V',e1,e2⟩:=hl.get h1;rw[h2]at e1;cases e1;exact e2
  ·cases hp
def xD (ti:TI)(a:AV) (k:Nat)(h:Tr ABlk) (nx:Nat):R:=
 match ti with
 |.mk d _ _ _ fs=>match d with
  |.struct _=>match fs[k]? with
   |some (o,s,b)=>match a with
    |.agg l=>match BV l o s b with
     |some v=>.val v h nx
     |none=>.fail
    |_=>.fail
   |none=>.fail
  |_=>.fail
def zNh (hk:Ok G σ h nx w)(t:TypeId){ti:TI}(ht:cT P t ti){a:AV}{A:Value}(ha:av σ a A) (k:Nat):RV P G σ h nx w (Instr.field t A k) (xD ti a k h nx):=by
 cases ti with
 |mk d size bytes zero fs=>
 obtain⟨hu,inf,hi,hs,oe,fu,hf,tl,nC⟩:=ht;unfold xD;cases d <;> try trivial
 rename_i fields;simp only;split
 ·rename_i o s b wA;obtain⟨fl,ij,ho,ef⟩:=hf fields rfl k o s b wA;cases a <;> try trivial
  rename_i l;simp only[av]at ha;obtain⟨L,e,hl⟩:=ha;subst e;simp only;cases hp:BV l o s b with
  |none=>trivial
  |some v=>
   obtain⟨V,hV,hr⟩:=zzq ef hl hp w;refine SV.pure hk (V:=V) ?_ hr;simp[Instr.field,run_underlying hu,ij,asAgg,ho,hV]
 ·trivial
def ox:AV→Option Nat
 |.int _ (.ofNat n)=>some n
 |_=>none
def BS {v:AV}{V:Value}{n:Nat}(hv:av σ v V)(hi:ox v=some n):∃k,V=.int k (n:Int):=by
 cases v <;> try (simp[ox]at hi;done)
 rename_i k m;cases m with
 |negSucc m=>simp[ox]at hi
 |ofNat m=>
  simp only[ox,Option.some.injEq]at hi;subst hi;simp only[av]at hv;exact⟨k,hv⟩
def kh (ti:TI)(a ix:AV)(h:Tr ABlk) (nx:Nat):R:=
 match ti with
 |.mk d _ _ _ fs=>match ox ix with
  |none=>.fail
  |some n=>match fs with
   |[]=>.fail
   |(_,s,_)::_=>match d with
    |.slice _=>match a with
     |.sl i o l _ _=>match Nat.ble (Nat.succ n) l with
      |true=>fN (Nat.add o (Nat.mul n s)) fun q=>.val (.ptr i q) h nx
      |false=>.fail
     |.fz es _ xs=>match Nat.beq es s with
      |true=>match xs[n]? with
       |some x=>.val (.ip x.cells) h nx
       |none=>.fail
      |false=>.fail
     |_=>.fail
    |.array l _=>match a with
     |.ptr i o=>match Nat.ble (Nat.succ n) l with
      |true=>fN (Nat.add o (Nat.mul n s)) fun q=>.val (.ptr i q) h nx
      |false=>.fail
     |.ip cs=>match Nat.ble (Nat.succ n) l with
      |true=>.val (.ip (cs.drop (Nat.mul n s))) h nx
      |false=>.fail
     |_=>.fail
    |_=>.fail
def zM6 (hk:Ok G σ h nx w)(t:TypeId){ti:TI}(ht:cT P t ti){a ix:AV}{A I:Value}(ha:av σ a A)(jW:av σ ix I):RV P G σ h nx w (Instr.indexAt t A I) (kh ti a ix h nx):=by
 cases ti with
 |mk d size bytes zero fs=>
 obtain⟨hu,inf,hi,hs,oe,fu,NW,tl,he⟩:=ht;unfold kh;simp only;cases hn:ox ix with
 |none=>trivial
 |some n=>
 obtain⟨k,e⟩:=BS jW hn;subst e;cases fs with
 |nil=>trivial
 |cons p fs=>
 obtain⟨o0,s,b0⟩:=p;cases d <;> try trivial
 ·rename_i elem;have ef:=he elem (.inl rfl) o0 s b0 rfl;cases a <;> try trivial
  case fz es full xs=>
   simp only;cases oT:Nat.beq es s with
   |false=>trivial
   |true=>
    simp only;cases hx:xs[n]? with
    |none=>trivial
    |some x=>
     have Ar:=ad oT;subst Ar;obtain⟨b,o,cap,e,hr⟩:=ha.fz_at hx;subst e;have ay:n<xs.length:=(List.getElem?_eq_some_iff.1 hx).1;refine SV.pure hk (V:=.pointer (some ⟨b,o+n * es,none⟩)) ?_ hr;have h1:(0:Int)≤n∧(n:Int)<xs.length:=(by omega);simp[Instr.indexAt,asIntOf,run_underlying hu,h1,ef.size,jo,ay]
  rename_i i o l c opn;simp only[av]at ha;obtain⟨bb,hb,e,_⟩:=ha;subst e;simp only;cases hle:Nat.ble (Nat.succ n) l with
  |false=>trivial
  |true=>
   have ay:n<l:=ai hle;simp only[fN_eq];refine SV.pure hk (V:=.pointer (some ⟨bb,o+n * s,none⟩)) ?_ ?_
   ·have h1:(0:Int)≤n∧(n:Int)<l:=(by omega);simp[Instr.indexAt,asIntOf,run_underlying hu,h1,ef.size,jo,ay]
   ·simp only[av];exact⟨bb,hb,rfl⟩
 ·rename_i l elem;have ef:=he elem (.inr (.inl ⟨l,rfl⟩)) o0 s b0 rfl;cases a <;> try trivial
  case ip cs=>
   simp only;cases hle:Nat.ble (Nat.succ n) l with
   |false=>trivial
   |true=>
    have ay:n<l:=ai hle;have qM:=ha;simp only[av]at qM;obtain⟨bb,p,_,_,e,_⟩:=qM;subst e;refine SV.pure hk (V:=.pointer (some ⟨bb,p+n * s,none⟩)) ?_ (ha.ip_drop _);have h1:(0:Int)≤n∧(n:Int)<l:=(by omega);simp[Instr.indexAt,asIntOf,run_underlying hu,Instr.sureAddr,h1,ef.size,jo,ay]
  rename_i i o;simp only[av]at ha;obtain⟨bb,hb,e⟩:=ha;subst e;simp only;cases hle:Nat.ble (Nat.succ n) l with
  |false=>trivial
  |true=>
   have ay:n<l:=ai hle;simp only[fN_eq];refine SV.pure hk (V:=.pointer (some ⟨bb,o+n * s,none⟩)) ?_ ?_
   ·have h1:(0:Int)≤n∧(n:Int)<l:=(by omega);simp[Instr.indexAt,asIntOf,run_underlying hu,Instr.sureAddr,h1,ef.size,jo,ay]
   ·simp only[av];exact⟨bb,hb,rfl⟩
def uy (ti:TI)(a ix:AV)(h:Tr ABlk) (nx:Nat):R:=
 match ti with
 |.mk d _ _ _ fs=>match ox ix with
  |none=>.fail
  |some n=>match d with
   |.string=>match a with
    |.str l m=>match Nat.ble (Nat.succ n) l with
     |true=>fN (Nat.mod (Nat.div m (Nat.pow 256 n)) 256) fun z=>.val (.int .u8 (Int.ofNat z)) h nx
     |false=>.fail
    |.bs b=>match b[n]? with
     |some c=>.val (.int .u8 (Int.ofNat c.toNat)) h nx
     |none=>.fail
    |_=>.fail
   |.array len _=>match fs with
    |[]=>.fail
    |(_,s,b)::_=>match a with
     |.agg l=>match Nat.ble (Nat.succ n) len with
      |true=>match BV l (Nat.mul n s) s b with
       |some v=>.val v h nx
       |none=>.fail
      |false=>.fail
     |_=>.fail
   |_=>.fail
def zSs (hk:Ok G σ h nx w)(t:TypeId){ti:TI}(ht:cT P t ti){a ix:AV}{A I:Value}(ha:av σ a A)(jW:av σ ix I):RV P G σ h nx w (Instr.index t A I) (uy ti a ix h nx):=by
 cases ti with
 |mk d size bytes zero fs=>
 obtain⟨hu,inf,hi,hs,oe,fu,NW,tl,he⟩:=ht;unfold uy;simp only;cases hn:ox ix with
 |none=>trivial
 |some n=>
 obtain⟨k,e⟩:=BS jW hn;subst e;cases d <;> try trivial
 ·cases a <;> try trivial
  case bs b=>
   simp only[av]at ha;subst ha;simp only;cases hb:b[n]? with
   |none=>trivial
   |some z=>
    refine SV.pure hk (V:=.int .u8 (Int.ofNat z.toNat)) ?_ (by simp only[av]);have h1:(0:Int)≤n:=by omega
    simp[Instr.index,asIntOf,run_underlying hu,hb]
  rename_i l m;simp only[av]at ha;obtain⟨hm,e⟩:=ha;subst e;simp only;cases hle:Nat.ble (Nat.succ n) l with
  |false=>trivial
  |true=>
   have ay:n<l:=ai hle;simp only[fN_eq];refine SV.pure hk (V:=.int .u8 (Int.ofNat (m / 256 ^ n % 256))) ?_ ?_
   ·have h1:(0:Int)≤n:=(by omega);have h2:(UInt8.ofNat (m / 256 ^ n % 256)).toNat=m / 256 ^ n % 256:=u8 (Nat.mod_lt _ (by decide));simp[Instr.index,asIntOf,run_underlying hu,zI8 ay,h2]
   ·simp only[av];rfl
 ·rename_i len elem;cases fs with
  |nil=>trivial
  |cons p fs=>
  obtain⟨o0,s,b0⟩:=p;have ef:=he elem (.inr (.inl ⟨len,rfl⟩)) o0 s b0 rfl;cases a <;> try trivial
  rename_i l;simp only[av]at ha;obtain⟨L,e,hl⟩:=ha;subst e;simp only;cases hle:Nat.ble (Nat.succ n) len with
  |false=>trivial
  |true=>
   have ay:n<len:=ai hle;simp only;cases hp:BV l (Nat.mul n s) s b0 with
   |none=>trivial
   |some v=>
    obtain⟨V,hV,hr⟩:=zzq ef hl hp w;refine SV.pure hk (V:=V) ?_ hr;have h1:(0:Int)≤n∧(n:Int)<len:=by omega
    have hV':(part elem L.toArray (n * s)).run P w=.ok V w:=hV;simp[Instr.index,asIntOf,run_underlying hu,h1,ef.size,ay,hV']
def xK (a:AV) (k:Nat)(h:Tr ABlk) (nx:Nat):R:=
 match a with
 |.tup l=>match l[k]? with
  |some v=>.val v h nx
  |none=>.fail
 |_=>.fail
def zQ2 (hk:Ok G σ h nx w){a:AV}{A:Value}(ha:av σ a A) (k:Nat):RV P G σ h nx w (Instr.extract A k) (xK a k h nx):=by
 unfold xK;cases a <;> try trivial
 rename_i l;simp only[av]at ha;obtain⟨L,e,hl⟩:=ha;subst e;simp only;cases hv:l[k]? with
 |none=>trivial
 |some v=>
  obtain⟨V,h1,h2⟩:=hl.get hv;exact SV.pure hk (V:=V) (by simp[Instr.extract,h1]) h2
def xH (ti:TI)(t:TypeId)(v:AV)(h:Tr ABlk) (nx:Nat):R:=
 match ti with
 |.mk d _ _ _ _=>match d with
  |.interface _=>.fail
  |_=>.val (.iface t v) h nx
def zJ0 (hk:Ok G σ h nx w)(t:TypeId){ti:TI}(ht:cT P t ti){v:AV}{V:Value}(hv:av σ v V):RV P G σ h nx w (Instr.makeInterface t V) (xH ti t v h nx):=by
 cases ti with
 |mk d size bytes zero fs=>
 obtain⟨hu,_⟩:=ht;have hr:av σ (.iface t v) (.iface t V):=by simp only[av];exact⟨V,rfl,hv⟩
 unfold xH;cases d <;> first
  |trivial
  |exact SV.pure hk (V:=.iface t V) (by simp[Instr.makeInterface,run_underlying hu]) hr
def Lv (h:Tr ABlk) (nx:Nat):R:=
 h.putK (some (.map [] 0)) nx fun h'=>fN (Nat.succ nx) fun ax=>.val (.map nx) h' ax
def zM1 (hk:Ok G σ h nx w)(t:TypeId):RV P G σ h nx w (Instr.makeMap t none) (Lv h nx):=by
 simp only[Lv,Tr.putK_eq,fN_eq];refine⟨.map (some w.heap.size),_,_,?_,?_,Post.alloc hk 0 (.map [] 0) (.map #[] 0) ?_⟩
 ·simp[Instr.makeMap,newObj,Sem.run]
 ·simp only[av];exact⟨w.heap.size,by simp[Sg.add],rfl⟩
 ·simp only[cq];exact⟨[],rfl,by simp only[dC]⟩
def xV (cap m:Nat):Option Value→Prop
 |none=>m=cap
 |some V=>(∃k,V=.int k (m:Int))∧m≤cap
def zk (len hh m:Nat)(MX:Option Value):Option Value→Prop
 |none=>hh=len∧MX=none
 |some V=>(∃k,V=.int k (hh:Int))∧hh≤m
def xP (l hh:Nat):Option Value→Prop
 |none=>l=0
 |some V=>(∃k,V=.int k (l:Int))∧l≤hh
def vC (Ew:Bool) (len cap:Nat){lo hi mx:Option Value}{l hh m:Nat}
  (hm:xV cap m mx) (Aw:zk len hh m mx hi) (eE:xP l hh lo) (w:World):
  (Instr.sliceBounds Ew len cap lo hi mx).run P w=.ok (l,hh,m) w:=by
 have sb:∀(k:IntKind) (n y:Nat) (c:BoundsCode),n≤y→(Instr.sliceBound (.int k (n:Int)) y c).run P w=.ok n w:=by
  intro k n y c hle;have h1:(0:Int)≤n∧(n:Int)≤y:=by omega
  simp[Instr.sliceBound,asIntOf,hle]
 unfold Instr.sliceBounds;cases mx with
 |none=>
  simp only[xV]at hm;subst hm;cases hi with
  |none=>
   simp only[zk]at Aw;obtain⟨e,_⟩:=Aw;subst e;cases lo with
   |none=>simp only[xP]at eE;subst eE;simp
   |some V=>
    simp only[xP]at eE;obtain⟨⟨k,e⟩,hle⟩:=eE;subst e;simp[sb _ _ _ _ hle]
  |some V=>
   simp only[zk]at Aw;obtain⟨⟨k,e⟩,hle⟩:=Aw;subst e;cases lo with
   |none=>simp only[xP]at eE;subst eE;simp[sb _ _ _ _ hle]
   |some V=>
    simp only[xP]at eE;obtain⟨⟨k,e⟩,AI⟩:=eE;subst e;simp[sb _ _ _ _ hle,sb _ _ _ _ AI]
 |some M=>
  simp only[xV]at hm;obtain⟨⟨k0,e⟩,wI⟩:=hm;subst e;cases hi with
  |none=>simp[zk]at Aw
  |some V=>
   simp only[zk]at Aw;obtain⟨⟨k,e⟩,hle⟩:=Aw;subst e;cases lo with
   |none=>simp only[xP]at eE;subst eE;simp[sb _ _ _ _ hle,sb _ _ _ _ wI]
   |some V=>
    simp only[xP]at eE;obtain⟨⟨k,e⟩,AI⟩:=eE;subst e;simp[sb _ _ _ _ hle,sb _ _ _ _ AI,sb _ _ _ _ wI]
def uA (d:Nat):Option AV→Option Nat
 |none=>some d
 |some v=>ox v
def nW (σ:Sg):Option AV→Option Value→Prop
 |none,none=>True
 |some v,some V=>av σ v V
 |_,_=>False
def kV (len cap:Nat)(lo hi mx:Option AV):Option (Nat×Nat×Nat):=
 match uA cap mx with
 |none=>none
 |some m=>match Nat.ble m cap with
  |false=>none
  |true=>match uA len hi with
   |none=>none
   |some hh=>match Nat.ble hh m with
    |false=>none
    |true=>match uA 0 lo with
     |none=>none
     |some l=>match Nat.ble l hh with
      |false=>none
      |true=>match mx,hi with
       |some _,none=>none
       |_,_=>some (l,hh,m)
def xu {len cap:Nat}{lo hi mx:Option AV}{LO HI MX:Option Value}(h1:nW σ lo LO)(h2:nW σ hi HI)(h3:nW σ mx MX){l hh m:Nat}(hb:kV len cap lo hi mx=some (l,hh,m)):
  l≤hh∧hh≤m∧m≤cap∧(mx=none→m=cap)∧xV cap m MX∧zk len hh m MX HI∧xP l hh LO:=by
 unfold kV at hb;split at hb
 ·cases hb
 ·rename_i m' hm;split at hb
  ·cases hb
  ·rename_i Af;have e1:=ai Af;split at hb
   ·cases hb
   ·rename_i qQ U3;split at hb
    ·cases hb
    ·rename_i FI;have e2:=ai FI;split at hb
     ·cases hb
     ·rename_i l' hl;split at hb
      ·cases hb
      ·rename_i FJ;have e3:=ai FJ;have fin:(l',qQ,m')=(l,hh,m)∧¬(mx.isSome=true∧hi=none):=by
        cases mx <;> cases hi <;> first |(cases hb;done) |(cases hb;exact⟨rfl,by simp⟩)
       obtain⟨fin,gE⟩:=fin;cases fin;refine⟨e3,e2,e1,?_,?_,?_,?_⟩
       ·intro e;subst e;simpa[uA]using hm.symm
       ·cases mx <;> cases MX <;> simp only[nW]at h3
        ·simpa[uA,xV]using hm.symm
        ·exact⟨BS h3 (by simpa[uA]using hm),e1⟩
       ·cases hi <;> cases HI <;> simp only[nW]at h2
        ·refine⟨by simpa[uA]using U3.symm,?_⟩;cases mx with
         |none=>cases MX with |none=>rfl |some V=>simp only[nW]at h3
         |some v=>simp at gE
        ·exact⟨BS h2 (by simpa[uA]using U3),e2⟩
       ·cases lo <;> cases LO <;> simp only[nW]at h1
        ·simpa[uA,xP]using hl.symm
        ·exact⟨BS h1 (by simpa[uA]using hl),e3⟩
def xO (ti:TI)(a:AV)(lo hi mx:Option AV)(h:Tr ABlk) (nx:Nat):R:=
 match ti with
 |.mk d _ _ _ fs=>match d with
  |.string=>match a with
   |.str len n=>match mx with
    |some _=>.fail
    |none=>match kV len len lo hi none with
     |some (l,hh,_)=>fN (Nat.sub hh l) fun k=>fN (Nat.mod (Nat.div n (Nat.pow 256 l)) (Nat.pow 256 k)) fun m=>.val (.str k m) h nx
     |none=>.fail
   |.bs b=>match mx with
    |some _=>.fail
    |none=>match kV b.size b.size lo hi none with
     |some (l,hh,_)=>.val (.bs (b.extract l hh)) h nx
     |none=>.fail
   |_=>.fail
  |.slice _=>match fs with
   |[]=>.fail
   |(_,s,_)::_=>match a with
    |.sl0=>match kV 0 0 lo hi mx with
     |some (_,_,_)=>.val .sl0 h nx
     |none=>.fail
    |.fz es full xs=>match Nat.beq es s with
     |false=>.fail
     |true=>match mx with
      |some _=>match kV xs.length xs.length lo hi mx with
       |some (l,hh,m)=>.val (.fz es (Nat.beq hh m) ((xs.drop l).take (Nat.sub hh l))) h nx
       |none=>.fail
      |none=>match kV xs.length xs.length lo hi none with
       |some (l,hh,_)=>.val (.fz es (match full with |true=>Nat.beq hh xs.length |false=>false) ((xs.drop l).take (Nat.sub hh l))) h nx
       |none=>.fail
    |.sl i o len c false=>match kV len c lo hi mx with
     |some (l,hh,m)=>fN (Nat.sub hh l) fun k=>fN (Nat.sub m l) fun c'=>match Nat.beq m l with
      |true=>.val (.sl i o k c' false) h nx
      |false=>fN (Nat.add o (Nat.mul l s)) fun o'=>.val (.sl i o' k c' false) h nx
     |none=>.fail
    |.sl i o len c true=>match mx with
     |some _=>match kV len len lo hi mx with
      |some (l,hh,m)=>fN (Nat.sub hh l) fun k=>fN (Nat.sub m l) fun c'=>match Nat.beq m l with
       |true=>.val (.sl i o k c' false) h nx
       |false=>fN (Nat.add o (Nat.mul l s)) fun o'=>.val (.sl i o' k c' false) h nx
      |none=>.fail
     |none=>match kV len len lo hi none with
      |some (l,hh,_)=>fN (Nat.sub hh l) fun k=>fN (Nat.add c l) fun c'=>match Nat.beq l 0 with
       |true=>.val (.sl i o k c' true) h nx
       |false=>match Nat.ble (Nat.succ l) len with
        |true=>fN (Nat.add o (Nat.mul l s)) fun o'=>.val (.sl i o' k c' true) h nx
        |false=>.fail
      |none=>.fail
    |_=>.fail
  |.array n _=>match fs with
   |[]=>.fail
   |(_,s,_)::_=>match a with
    |.ptr i o=>match kV n n lo hi mx with
     |some (l,hh,m)=>fN (Nat.sub hh l) fun k=>fN (Nat.sub m l) fun c'=>match Nat.beq m l with
      |true=>.val (.sl i o k c' false) h nx
      |false=>fN (Nat.add o (Nat.mul l s)) fun o'=>.val (.sl i o' k c' false) h nx
     |none=>.fail
    |_=>.fail
  |_=>.fail
def nU {a b:Nat}(e:Nat.beq a b=false):a≠b:=fun e'=>by subst e';simp at e
def gH.drop {es:Nat}:∀{L D:List Value}(n:Nat),gH es L D→gH es (L.drop n) (D.drop (n * es))
 |L,D,0,h=>by simpa using h
 |[],D,n+1,h=>by simp[gH]
 |Y::L,D,n+1,h=>by
  simp only[gH]at h;have:=gH.drop n h.2.2;rw[List.drop_drop]at this;rw[show (n+1) * es=es+n * es by rw[Nat.succ_mul,Nat.add_comm]];exact this
def gH.take {es:Nat}:∀{L D:List Value}(n:Nat),gH es L D→gH es (L.take n) D
 |L,D,0,h=>by simp[gH]
 |[],D,n+1,h=>by simp[gH]
 |Y::L,D,n+1,h=>by
  simp only[gH,List.take_succ_cons]at h ⊢;exact⟨h.1,h.2.1,h.2.2.take n⟩
def av.fz_part {es:Nat}{full:Bool}{xs:List AV}{a:Option Addr}{n cap:Nat}(ha:av σ (.fz es full xs) (.slice a n cap)){l hh m:Nat}(e1:l≤hh)(e2:hh≤xs.length)(e3:hh≤m)(yg:Bool)(hf:yg=true→hh=m)(a':Option Addr)
  (e4:l<hh→a'=a.map (·.add (l * es))) (e5:a'=none→m=l):av σ (.fz es yg ((xs.drop l).take (hh-l))) (.slice a' (hh-l) (m-l)):=by
 simp only[av]at ha ⊢;obtain⟨a0,qac,e,h1,h2,h4,h3⟩:=ha;cases e;have hlen:((xs.drop l).take (hh-l)).length=hh-l:=by simp;omega
 refine⟨a',m-l,by rw[hlen],by rw[hlen];omega,fun h=>by rw[hlen,hf h],fun h=>by rw[e5 h];omega,fun h=>?_⟩
 ·rw[hlen]at h;obtain⟨b,o,C,L,ea,i1,i2,i3⟩:=h3 (by omega);subst ea;have e4:=e4 (by omega);simp only[Option.map_some,jo]at e4;refine⟨b,o+l * es,C,(L.drop l).take (hh-l),e4,i1,(i2.drop l).take _,?_⟩;have:=(i3.drop l).take (hh-l);rw[List.drop_drop]at this;exact this
def zRi (hk:Ok G σ h nx w)(t:TypeId){ti:TI}(ht:cT P t ti){a:AV}{A:Value}(ha:av σ a A){lo hi mx:Option AV}{LO HI MX:Option Value}
  (h1:nW σ lo LO) (h2:nW σ hi HI) (h3:nW σ mx MX):RV P G σ h nx w (Instr.sliceAt t A LO HI MX) (xO ti a lo hi mx h nx):=by
 cases ti with
 |mk d size bytes zero fs=>
 obtain⟨hu,inf,hi',hs,oe,fu,NW,tl,he⟩:=ht;unfold xO;cases d <;> try trivial
 ·
  cases a <;> try trivial
  case bs b=>
   simp only[av]at ha;subst ha;cases mx with
   |some v=>trivial
   |none=>
    simp only;cases hb:kV b.size b.size lo hi none with
    |none=>trivial
    |some p=>
     obtain⟨l,hh,m⟩:=p;obtain⟨e1,e2,e3,e4,q1,q2,q3⟩:=xu h1 h2 h3 hb;have wP:MX=none:=by cases MX with |none=>rfl |some V=>simp only[nW]at h3
     subst wP;have fK:=vC (P:=P) false b.size b.size q1 q2 q3 w;refine SV.pure hk (V:=.string (b.extract l hh)) ?_ (by simp only[av]);simp[Instr.sliceAt,run_underlying hu,Instr.slice,fK]
  rename_i len n;simp only[av]at ha;obtain⟨hn,e⟩:=ha;subst e;cases mx with
  |some v=>trivial
  |none=>
   simp only;cases hb:kV len len lo hi none with
   |none=>trivial
   |some p=>
    obtain⟨l,hh,m⟩:=p;obtain⟨e1,e2,e3,e4,q1,q2,q3⟩:=xu h1 h2 h3 hb;have wP:MX=none:=by cases MX with |none=>rfl |some V=>simp only[nW]at h3
    subst wP;simp only[fN_eq];have fK:=vC (P:=P) false len len q1 q2 q3 w;refine SV.pure hk (V:=.string (bK (hh-l) (n / 256 ^ l % 256 ^ (hh-l)))) ?_ ?_
    ·simp[Instr.sliceAt,run_underlying hu,Instr.slice,uq,fK,zxa (show hh≤len by omega)]
    ·simp only[av];exact⟨Nat.mod_lt _ (Nat.pow_pos (by decide)),rfl⟩
 ·
  rename_i elem;cases fs with
  |nil=>trivial
  |cons p fs=>
  obtain⟨o0,s,b0⟩:=p;have ef:=he elem (.inl rfl) o0 s b0 rfl;cases a <;> try trivial
  case fz es full xs=>
   simp only;cases oT:Nat.beq es s with
   |false=>trivial
   |true=>
    have Ar:=ad oT;subst Ar;have qM:=ha;simp only[av]at qM;obtain⟨a,cap,e,g1,g2,g4,_⟩:=qM;subst e;simp only;cases mx with
    |some v=>
     simp only;cases hb:kV xs.length xs.length lo hi (some v) with
     |none=>trivial
     |some p=>
      obtain⟨l,hh,m⟩:=p;obtain⟨e1,e2,e3,e4,q1,q2,q3⟩:=xu h1 h2 h3 hb;have PC:xV cap m MX:=by
       cases MX with
       |none=>simp only[nW]at h3
       |some V=>exact⟨q1.1,by omega⟩
      have fK:=vC (P:=P) true xs.length cap PC q2 q3 w;refine SV.pure hk (V:=.slice (if m=l then a else a.map (·.add (l * es))) (hh-l) (m-l)) ?_ ?_
      ·by_cases gC:m=l
       ·subst gC;simp[Instr.sliceAt,run_underlying hu,Instr.slice,fK,ef.size]
       ·cases a with
        |none=>exact absurd (g4 rfl) (by omega)
        |some a=>simp[Instr.sliceAt,run_underlying hu,Instr.slice,fK,ef.size,gC]
      ·refine ha.fz_part e1 (by omega) (by omega) _ (fun h=>ad h) _ (fun hl=>?_) (fun hn=>?_)
       ·rw[if_neg (by omega)]
       ·by_cases gC:m=l
        ·exact gC
        ·rw[if_neg gC]at hn;cases a with
         |none=>exact absurd (g4 rfl) (by omega)
         |some a=>simp at hn
    |none=>
     simp only;cases hb:kV xs.length xs.length lo hi none with
     |none=>trivial
     |some p=>
      obtain⟨l,hh,m⟩:=p;obtain⟨e1,e2,e3,e4,q1,q2,q3⟩:=xu h1 h2 h3 hb;have wP:MX=none:=by cases MX with |none=>rfl |some V=>simp only[nW]at h3
      subst wP;have qf:zk xs.length hh cap none HI:=by
       cases HI with
       |none=>exact q2
       |some V=>exact⟨q2.1,by omega⟩
      have fK:=vC (P:=P) true xs.length cap (mx:=none) (m:=cap) (show xV _ _ none from rfl) qf q3 w;refine SV.pure hk (V:=.slice (if cap=l then a else a.map (·.add (l * es))) (hh-l) (cap-l)) ?_ ?_
      ·by_cases gC:cap=l
       ·subst gC;simp[Instr.sliceAt,run_underlying hu,Instr.slice,fK,ef.size]
       ·cases a with
        |none=>exact absurd (g4 rfl) (by omega)
        |some a=>simp[Instr.sliceAt,run_underlying hu,Instr.slice,fK,ef.size,gC]
      ·refine ha.fz_part e1 (by omega) (by omega) _ (fun h=>?_) _ (fun hl=>?_) (fun hn=>?_)
       ·cases full with
        |false=>simp at h
        |true=>
         have:=ad h;rw[g2 rfl,this]
       ·rw[if_neg (by omega)]
       ·by_cases gC:cap=l
        ·exact gC
        ·rw[if_neg gC]at hn;cases a with
         |none=>exact absurd (g4 rfl) (by omega)
         |some a=>simp at hn
  ·simp only[av]at ha;subst ha;simp only;cases hb:kV 0 0 lo hi mx with
   |none=>trivial
   |some p=>
    obtain⟨l,hh,m⟩:=p;obtain⟨e1,e2,e3,e4,q1,q2,q3⟩:=xu h1 h2 h3 hb;have fK:=vC (P:=P) true 0 0 q1 q2 q3 w;have z1:l=0:=by omega
    have z2:hh=0:=(by omega);have z3:m=0:=(by omega);refine SV.pure hk (V:=.slice none 0 0) ?_ (by simp only[av]);simp[Instr.sliceAt,run_underlying hu,Instr.slice,fK,ef.size,z1,z2,z3]
  ·rename_i i o len c opn;simp only[av]at ha;obtain⟨bb,gw,e,dE⟩:=ha;subst e;cases opn with
   |false=>
    simp only[Bool.false_eq_true,if_false]at dE ⊢;cases hb:kV len c lo hi mx with
    |none=>trivial
    |some p=>
     obtain⟨l,hh,m⟩:=p;obtain⟨e1,e2,e3,e4,q1,q2,q3⟩:=xu h1 h2 h3 hb;have fK:=vC (P:=P) true len c q1 q2 q3 w;simp only[fN_eq];cases gC:Nat.beq m l with
     |true=>
      have:=ad gC;subst this;refine SV.pure hk (V:=.slice (some ⟨bb,o,none⟩) (hh-m) (m-m)) ?_ ?_
      ·simp[Instr.sliceAt,run_underlying hu,Instr.slice,fK,ef.size]
      ·simp only[av,Bool.false_eq_true,if_false];exact⟨bb,gw,rfl,Nat.sub_le_sub_right e2 _⟩
     |false=>
      have aT:=nU gC;refine SV.pure hk (V:=.slice (some ⟨bb,o+l * s,none⟩) (hh-l) (m-l)) ?_ ?_
      ·simp[Instr.sliceAt,run_underlying hu,Instr.slice,fK,ef.size,aT,jo]
      ·simp only[av,Bool.false_eq_true,if_false];exact⟨bb,gw,rfl,Nat.sub_le_sub_right e2 _⟩
   |true=>
    simp only[if_true]at dE ⊢;cases mx with
    |some v=>
     simp only;cases hb:kV len len lo hi (some v) with
     |none=>trivial
     |some p=>
      obtain⟨l,hh,m⟩:=p;obtain⟨e1,e2,e3,e4,q1,q2,q3⟩:=xu h1 h2 h3 hb;have PC:xV (σ.cap i-c) m MX:=by
       cases MX with
       |none=>simp only[nW]at h3
       |some V=>exact⟨q1.1,by omega⟩
      have fK:=vC (P:=P) true len (σ.cap i-c) PC q2 q3 w;simp only[fN_eq];cases gC:Nat.beq m l with
      |true=>
       have:=ad gC;subst this;refine SV.pure hk (V:=.slice (some ⟨bb,o,none⟩) (hh-m) (m-m)) ?_ ?_
       ·simp[Instr.sliceAt,run_underlying hu,Instr.slice,fK,ef.size]
       ·simp only[av,Bool.false_eq_true,if_false];exact⟨bb,gw,rfl,Nat.sub_le_sub_right e2 _⟩
      |false=>
       have aT:=nU gC;refine SV.pure hk (V:=.slice (some ⟨bb,o+l * s,none⟩) (hh-l) (m-l)) ?_ ?_
       ·simp[Instr.sliceAt,run_underlying hu,Instr.slice,fK,ef.size,aT,jo]
       ·simp only[av,Bool.false_eq_true,if_false];exact⟨bb,gw,rfl,Nat.sub_le_sub_right e2 _⟩
    |none=>
     have wP:MX=none:=by cases MX with |none=>rfl |some V=>simp only[nW]at h3
     subst wP;simp only;cases hb:kV len len lo hi none with
     |none=>trivial
     |some p=>
      obtain⟨l,hh,m⟩:=p;obtain⟨e1,e2,e3,e4,q1,q2,q3⟩:=xu h1 h2 h3 hb;have qf:zk len hh (σ.cap i-c) none HI:=by
       cases HI with
       |none=>exact q2
       |some V=>exact⟨q2.1,by omega⟩
      have fK:=vC (P:=P) true len (σ.cap i-c) (mx:=none) (m:=σ.cap i-c) (show xV _ _ none from rfl) qf q3 w;simp only[fN_eq];cases mN:Nat.beq l 0 with
      |true=>
       have:=ad mN;subst this;refine SV.pure hk (V:=.slice (some ⟨bb,o,none⟩) (hh-0) (σ.cap i-c-0)) ?_ ?_
       ·simp[Instr.sliceAt,run_underlying hu,Instr.slice,fK,ef.size,jo]
       ·simp only[av,if_true];exact⟨bb,gw,by simp,by show hh-0≤σ.cap i-(c+0);omega⟩
      |false=>
       simp only;cases Jg:Nat.ble (Nat.succ l) len with
       |false=>trivial
       |true=>
        have ay:l<len:=ai Jg;have aT:¬σ.cap i-c=l:=(by omega);refine SV.pure hk (V:=.slice (some ⟨bb,o+l * s,none⟩) (hh-l) (σ.cap i-c-l)) ?_ ?_
        ·simp[Instr.sliceAt,run_underlying hu,Instr.slice,fK,ef.size,aT,jo]
        ·simp only[av,if_true];exact⟨bb,gw,by rw[Nat.sub_sub];rfl,by show hh-l≤σ.cap i-(c+l);omega⟩
 ·
  rename_i n elem;cases fs with
  |nil=>trivial
  |cons p fs=>
  obtain⟨o0,s,b0⟩:=p;have ef:=he elem (.inr (.inl ⟨n,rfl⟩)) o0 s b0 rfl;cases a <;> try trivial
  rename_i i o;simp only[av]at ha;obtain⟨bb,gw,e⟩:=ha;subst e;simp only;cases hb:kV n n lo hi mx with
  |none=>trivial
  |some p=>
   obtain⟨l,hh,m⟩:=p;obtain⟨e1,e2,e3,e4,q1,q2,q3⟩:=xu h1 h2 h3 hb;have fK:=vC (P:=P) false n n q1 q2 q3 w;simp only[fN_eq];cases gC:Nat.beq m l with
   |true=>
    have:=ad gC;subst this;refine SV.pure hk (V:=.slice (some ⟨bb,o,none⟩) (hh-m) (m-m)) ?_ ?_
    ·simp[Instr.sliceAt,run_underlying hu,Instr.sureAddr,fK,ef.size]
    ·simp only[av,Bool.false_eq_true,if_false];exact⟨bb,gw,rfl,Nat.sub_le_sub_right e2 _⟩
   |false=>
    have aT:=nU gC;refine SV.pure hk (V:=.slice (some ⟨bb,o+l * s,none⟩) (hh-l) (m-l)) ?_ ?_
    ·simp[Instr.sliceAt,run_underlying hu,Instr.sureAddr,fK,ef.size,aT,jo]
    ·simp only[av,Bool.false_eq_true,if_false];exact⟨bb,gw,rfl,Nat.sub_le_sub_right e2 _⟩
end
end
end Go.Ev
