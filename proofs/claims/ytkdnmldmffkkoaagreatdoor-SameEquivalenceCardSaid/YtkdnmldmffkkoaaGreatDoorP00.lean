/- Texts. -/
import Derived.Tactics
import Derived.Orders
import Derived.Laws.AppendOwn
set_option linter.unusedSimpArgs false
set_option linter.unusedVariables false
set_option maxRecDepth 100000
namespace Go.Ev
theorem al (a b:Bool):((a&&b)=true)=(a=true∧b=true):=Bool.and_eq_true a b
theorem aj {α:Type _} {i:Nat} {l:List α} (h:i<l.length):List.drop i l=l[i]::List.drop (i+1) l:=List.drop_eq_getElem_cons h
theorem aq {α:Type _} {i:Nat} {l:List α} (h:l.length≤i):List.drop i l=[]:=List.drop_of_length_le h
theorem au {α:Type _} {l:List α}:l.length=0→l=[]:=List.eq_nil_of_length_eq_zero
theorem an {α:Type _} {l:List α} {i:Nat} {a:α}:l.getD i a=l[i]?.getD a:=List.getD_eq_getElem?_getD
theorem aa {α:Type _} {l:List α} {i:Nat} (h:i<l.length):l[i]?=some l[i]:=List.getElem?_eq_getElem h
theorem ai {α:Type _} {l:List α} {n:Nat} (h:n<l.length):l[n]∈l:=List.getElem_mem h
theorem ak {α:Type _} (y:α) {a:α} {l:List α}:a∈l→a∈y::l:=List.mem_cons_of_mem y
theorem ao {α:Type _} {a:α} {l:List α}:a∈a::l:=List.mem_cons_self
theorem ar {α:Type _} {i:Nat} {l:List α} (h:l.length≤i):List.take i l=l:=List.take_of_length_le h
theorem ad {n m:Nat}:n.beq m=true→n=m:=Nat.eq_of_beq_eq_true
theorem ah {n m:Nat} (h:n.ble m=true):n≤m:=Nat.le_of_ble_eq_true h
theorem ae (n:Nat):n≤n:=Nat.le_refl n
end Go.Ev
namespace Go.Ev
inductive Tr (α:Type) where
 |nil
 |node (l:Tr α) (v:Option α) (r:Tr α)
noncomputable section
def pathF (f:Nat):Nat→List Bool:=
 Nat.rec (motive:=fun _=>Nat→List Bool) (fun _=>[]) (fun _ ih n=>Bool.rec (Bool.rec (false::ih (Nat.sub (Nat.div n 2) 1)) (true::ih (Nat.div n 2)) (Nat.beq (Nat.mod n 2) 1)) [] (Nat.beq n 0)) f
def path (n:Nat):List Bool:=pathF (Nat.succ n) n
def unpath:List Bool→Nat
 |[]=>0
 |true::p=>2 * unpath p+1
 |false::p=>2 * unpath p+2
theorem unpath_pathF:∀(f n:Nat),n<f→unpath (pathF f n)=n:=by
 intro f
 induction f with
 |zero=>intro n h;omega
 |succ f ih=>
  intro n h;show unpath (Bool.rec (Bool.rec (false::pathF f (n / 2-1)) (true::pathF f (n / 2)) (Nat.beq (n % 2) 1)) [] (Nat.beq n 0))=n
  by_cases h0:n=0
  ·subst h0;rfl
  ·have h1:Nat.beq n 0=false:=by cases n with |zero=>exact absurd rfl h0 |succ n=>rfl
   rw[h1]
   by_cases h2:n % 2=1
   ·rw[h2];show unpath (true::pathF f (n / 2))=n;rw[unpath,ih _ (by omega)];omega
   ·have h3:Nat.beq (n % 2) 1=false:=by
     have:n % 2=0:=by omega
     rw[this];rfl
    rw[h3];show unpath (false::pathF f (n / 2-1))=n;rw[unpath,ih _ (by omega)];omega
theorem path_inj {n m:Nat}(h:path n=path m):n=m:=by
 rw[← unpath_pathF (n+1) n (by omega),← unpath_pathF (m+1) m (by omega)];exact congrArg unpath h
namespace Tr
variable {α : Type} {β : Type}
def getP (t:Tr α):List Bool→Option α:=
 Tr.rec (motive:=fun _=>List Bool→Option α) (fun _=>none)
  (fun _ v _ gl gr p=>List.rec (motive:=fun _=>Option α) v (fun b q _=>Bool.rec (gr q) (gl q) b) p) t
def get (t:Tr α) (n:Nat):Option α:=getP t (path n)
def newP (x:Option α)(p:List Bool):Tr α:=
 List.rec (motive:=fun _=>Tr α) (.node .nil x .nil) (fun b _ ih=>Bool.rec (.node .nil none ih) (.node ih none .nil) b) p
def newK (x:Option α)(p:List Bool):(Tr α→β)→β:=
 List.rec (motive:=fun _=>(Tr α→β)→β) (fun k=>k (.node .nil x .nil)) (fun b _ ih k=>Bool.rec (ih fun t=>k (.node .nil none t)) (ih fun t=>k (.node t none .nil)) b) p
def putPK (t:Tr α)(x:Option α):List Bool→(Tr α→β)→β:=
 Tr.rec (motive:=fun _=>List Bool→(Tr α→β)→β) (fun p k=>newK x p k)
  (fun l v r sl sr p k=>List.rec (motive:=fun _=>β) (k (.node l x r)) (fun b q _=>Bool.rec (sr q fun r'=>k (.node l v r')) (sl q fun l'=>k (.node l' v r)) b) p) t
def putK (t:Tr α)(x:Option α) (n:Nat)(k:Tr α→β):β:=putPK t x (path n) k
def putP (t:Tr α)(p:List Bool)(x:Option α):Tr α:=putPK t x p id
def put (t:Tr α) (n:Nat)(x:Option α):Tr α:=putP t (path n) x
theorem get_nil (n:Nat):(Tr.nil:Tr α).get n=none:=rfl
theorem newK_eq (x:Option α):∀(p:List Bool)(β:Type)(k:Tr α→β),newK x p k=k (newP x p)
 |[],β,k=>rfl
 |true::p,β,k=>by show newK x p (fun t=>k (.node t none .nil))=_;rw[newK_eq];rfl
 |false::p,β,k=>by show newK x p (fun t=>k (.node .nil none t))=_;rw[newK_eq];rfl
theorem putPK_eq (x:Option α):∀(t:Tr α)(β:Type)(p:List Bool)(k:Tr α→β),putPK t x p k=k (t.putP p x):=by
 intro t
 induction t with
 |nil=>intro β p k;show newK x p k=k (newK x p id);rw[newK_eq,newK_eq];rfl
 |node l v r IQ IS=>
  intro β p k
  match p with
  |[]=>rfl
  |true::q=>show putPK l x q (fun l'=>k (.node l' v r))=k (putPK l x q (fun l'=>id (Tr.node l' v r)));rw[IQ,IQ];rfl
  |false::q=>show putPK r x q (fun r'=>k (.node l v r'))=k (putPK r x q (fun r'=>id (Tr.node l v r')));rw[IS,IS];rfl
theorem putK_eq (x:Option α)(t:Tr α)(β:Type) (n:Nat)(k:Tr α→β):putK t x n k=k (t.put n x):=putPK_eq x t β (path n) k
theorem getP_newP (x:Option α):∀(p q:List Bool),(newP x p).getP q=if q=p then x else none
 |[],[]=>rfl
 |[],true::q=>rfl
 |[],false::q=>rfl
 |true::p,[]=>rfl
 |true::p,true::q=>by show (newP x p).getP q=_;rw[getP_newP];simp
 |true::p,false::q=>by show (Tr.nil:Tr α).getP q=_;simp;rfl
 |false::p,[]=>rfl
 |false::p,true::q=>by show (Tr.nil:Tr α).getP q=_;simp;rfl
 |false::p,false::q=>by show (newP x p).getP q=_;rw[getP_newP];simp
theorem getP_putP (x:Option α):∀(t:Tr α)(p q:List Bool),(t.putP p x).getP q=if q=p then x else t.getP q:=by
 intro t
 induction t with
 |nil=>intro p q;show (newK x p id).getP q=_;rw[newK_eq];exact getP_newP x p q
 |node l v r IQ IS=>
  intro p q
  match p,q with
  |[],[]=>rfl
  |[],true::q=>rfl
  |[],false::q=>rfl
  |true::p,[]=>show (putPK l x p (fun l'=>id (Tr.node l' v r))).getP []=_;rw[putPK_eq];rfl
  |true::p,true::q=>
   show (putPK l x p (fun l'=>id (Tr.node l' v r))).getP (true::q)=_;rw[putPK_eq];show (l.putP p x).getP q=_;rw[IQ];show _=if true::q=true::p then x else l.getP q
   simp
  |true::p,false::q=>
   show (putPK l x p (fun l'=>id (Tr.node l' v r))).getP (false::q)=_;rw[putPK_eq];show r.getP q=if false::q=true::p then x else r.getP q
   simp
  |false::p,[]=>show (putPK r x p (fun r'=>id (Tr.node l v r'))).getP []=_;rw[putPK_eq];rfl
  |false::p,true::q=>
   show (putPK r x p (fun r'=>id (Tr.node l v r'))).getP (true::q)=_;rw[putPK_eq];show l.getP q=if true::q=false::p then x else l.getP q
   simp
  |false::p,false::q=>
   show (putPK r x p (fun r'=>id (Tr.node l v r'))).getP (false::q)=_;rw[putPK_eq];show (r.putP p x).getP q=_;rw[IS];show _=if false::q=false::p then x else r.getP q
   simp
theorem get_put (x:Option α)(t:Tr α) (n m:Nat):(t.put n x).get m=if m=n then x else t.get m:=by
 unfold get put;rw[getP_putP]
 by_cases h:m=n
 ·subst h;simp
 ·rw[if_neg h,if_neg fun e=>h (path_inj e)]
end Tr
def fN {β:Type}(n:Nat)(k:Nat→β):β:=Nat.rec (motive:=fun _=>β) (k 0) (fun m _=>k (Nat.succ m)) n
theorem fN_eq {β:Type}(n:Nat)(k:Nat→β):fN n k=k n:=by cases n <;> rfl
def fI {β:Type}(n:Int)(k:Int→β):β:=Int.rec (motive:=fun _=>β) (fun a=>fN a fun a=>k (Int.ofNat a)) (fun a=>fN a fun a=>k (Int.negSucc a)) n
theorem fI_eq {β:Type}(n:Int)(k:Int→β):fI n k=k n:=by
 cases n with
 |ofNat a=>exact fN_eq a fun a=>k (Int.ofNat a)
 |negSucc a=>exact fN_eq a fun a=>k (Int.negSucc a)
end
inductive AV where
 |bool (b:Bool)
 |int (k:IntKind) (n:Int)
 |str (len n:Nat)
 |bs (b:ByteArray)
 |ptr0
 |ptr (i o:Nat)
 |ip (cs:List AV)
 |sl0
 |sl (i o len cap:Nat) (opn:Bool)
 |fz (es:Nat) (full:Bool) (xs:List AV)
 |map0
 |map (i:Nat)
 |func (fn:FuncId) (first captured:List AV)
 |nilFunc
 |iface (t:TypeId) (v:AV)
 |nilIface
 |agg (l:List AV)
 |tup (l:List AV)
 |opq (n:Nat)
 |yld (i:Nat)
structure Sg where
 blk:Nat→Option Nat
 cap:Nat→Nat
 opq:Nat→Value
 imm:Nat→Option (List Value)
def cC (len n:Nat):List UInt8:=(List.range len).map fun i=>UInt8.ofNat (n / 256 ^ i % 256)
def bE (len n:Nat):ByteArray:=⟨(cC len n).toArray⟩
def fL (es:Nat):List Value→List Value→Prop
 |[],_=>True
 |X::L,C=>X.cells.toList=C.take es∧X.cells.size=es∧fL es L (C.drop es)
mutual
def av (σ:Sg):AV→Value→Prop
 |.bool b,V=>V=.bool b
 |.int k n,V=>V=.int k n
 |.str l n,V=>n<256 ^ l∧V=.string (bE l n)
 |.bs b,V=>V=.string b
 |.ptr0,V=>V=.pointer none
 |.ip cs,V=>∃b o C L,V=.pointer (some ⟨b,o,none⟩)∧σ.imm b=some C∧aC σ cs L∧L=(C.drop o).take L.length
 |.ptr i o,V=>∃b,σ.blk i=some b∧V=.pointer (some ⟨b,o,none⟩)
 |.sl0,V=>V=.slice none 0 0
 |.sl i o l c opn,V=>∃b,σ.blk i=some b∧V=.slice (some ⟨b,o,none⟩) l (if opn then σ.cap i-c else c)∧l≤(if opn then σ.cap i-c else c)
 |.fz es full xs,V=>∃a cap,V=.slice a xs.length cap∧xs.length≤cap∧(full=true→cap=xs.length)∧(a=none→cap=0)∧(0<xs.length→∃b o C L,a=some ⟨b,o,none⟩∧σ.imm b=some C∧aC σ xs L∧fL es L (C.drop o))
 |.map0,V=>V=.map none
 |.map i,V=>∃b,σ.blk i=some b∧V=.map (some b)
 |.yld i,V=>∃b,σ.blk i=some b∧V=.func (.yield b) #[] #[]
 |.func f a c,V=>∃A C,V=.func (.func f) (List.toArray A) (List.toArray C)∧aC σ a A∧aC σ c C
 |.nilFunc,V=>V=.nilFunc
 |.iface t v,V=>∃U,V=.iface t U∧av σ v U
 |.nilIface,V=>V=.nilIface
 |.agg l,V=>∃L,V=.agg (List.toArray L)∧aC σ l L
 |.tup l,V=>∃L,V=.tuple (List.toArray L)∧aC σ l L
 |.opq n,V=>V=σ.opq n∧V.oneCell'=true∧(n=0→∃m,V=.int .i64 m)
def aC (σ:Sg):List AV→List Value→Prop
 |[],L=>L=[]
 |a::l,L=>∃V L',L=V::L'∧av σ a V∧aC σ l L'
end
structure Sg.Le (σ τ:Sg):Prop where
 blk:∀i b,σ.blk i=some b→τ.blk i=some b∧τ.cap i=σ.cap i
 opq:τ.opq=σ.opq
 imm:∀b C,σ.imm b=some C→τ.imm b=some C
theorem Sg.Le.refl (σ:Sg):σ.Le σ:=⟨fun _ _ h=>⟨h,rfl⟩,rfl,fun _ _ h=>h⟩
theorem Sg.Le.trans {σ τ υ:Sg}(h:σ.Le τ)(g:τ.Le υ):σ.Le υ:=
 ⟨fun i b e=>⟨(g.blk i b (h.blk i b e).1).1,(g.blk i b (h.blk i b e).1).2.trans (h.blk i b e).2⟩,g.opq.trans h.opq,fun b C e=>g.imm b C (h.imm b C e)⟩
mutual
theorem av.mono {σ τ:Sg}(hl:σ.Le τ):∀(v:AV)(V:Value),av σ v V→av τ v V
 |.bool b,V,h=>by simpa only[av]using h
 |.int k n,V,h=>by simpa only[av]using h
 |.str l n,V,h=>by simpa only[av]using h
 |.bs b,V,h=>by simpa only[av]using h
 |.ptr0,V,h=>by simpa only[av]using h
 |.ip cs,V,h=>by
  simp only[av]at h ⊢;obtain⟨b,o,C,L,e,h1,h2,h3⟩:=h;exact⟨b,o,C,L,e,hl.imm b C h1,aC.mono hl cs L h2,h3⟩
 |.fz es full xs,V,h=>by
  simp only[av]at h ⊢;obtain⟨a,cap,e,h1,h2,h4,h3⟩:=h;refine⟨a,cap,e,h1,h2,h4,fun hx=>?_⟩;obtain⟨b,o,C,L,e1,h1,h2,h3⟩:=h3 hx;exact⟨b,o,C,L,e1,hl.imm b C h1,aC.mono hl xs L h2,h3⟩
 |.yld i,V,h=>by
  simp only[av]at h ⊢;obtain⟨b,hb,e⟩:=h;exact⟨b,(hl.blk i b hb).1,e⟩
 |.ptr i o,V,h=>by
  simp only[av]at h ⊢;obtain⟨b,hb,e⟩:=h;exact⟨b,(hl.blk i b hb).1,e⟩
 |.sl0,V,h=>by simpa only[av]using h
 |.sl i o l c opn,V,h=>by
  simp only[av]at h ⊢;obtain⟨b,hb,e⟩:=h;exact⟨b,(hl.blk i b hb).1,by rw[(hl.blk i b hb).2];exact e⟩
 |.map0,V,h=>by simpa only[av]using h
 |.map i,V,h=>by
  simp only[av]at h ⊢;obtain⟨b,hb,e⟩:=h;exact⟨b,(hl.blk i b hb).1,e⟩
 |.func f a c,V,h=>by
  simp only[av]at h ⊢;obtain⟨A,C,e,ha,hc⟩:=h;exact⟨A,C,e,aC.mono hl a A ha,aC.mono hl c C hc⟩
 |.nilFunc,V,h=>by simpa only[av]using h
 |.iface t v,V,h=>by
  simp only[av]at h ⊢;obtain⟨U,e,hu⟩:=h;exact⟨U,e,av.mono hl v U hu⟩
 |.nilIface,V,h=>by simpa only[av]using h
 |.agg l,V,h=>by
  simp only[av]at h ⊢;obtain⟨L,e,hc⟩:=h;exact⟨L,e,aC.mono hl l L hc⟩
 |.tup l,V,h=>by
  simp only[av]at h ⊢;obtain⟨L,e,hc⟩:=h;exact⟨L,e,aC.mono hl l L hc⟩
 |.opq n,V,h=>by
  simp only[av]at h ⊢;rw[hl.opq];exact h
theorem aC.mono {σ τ:Sg}(hl:σ.Le τ):∀(l:List AV)(L:List Value),aC σ l L→aC τ l L
 |[],L,h=>by simpa only[aC]using h
 |a::l,L,h=>by
  simp only[aC]at h ⊢;obtain⟨V,L',e,h1,h2⟩:=h;exact⟨V,L',e,av.mono hl a V h1,aC.mono hl l L' h2⟩
end
theorem aC.length {σ:Sg}:∀{l:List AV}{L:List Value},aC σ l L→L.length=l.length
 |[],L,h=>by simp only[aC]at h;subst h;rfl
 |a::l,L,h=>by
  simp only[aC]at h;obtain⟨V,L',e,_,h2⟩:=h;subst e;simp[h2.length]
theorem aC.get {σ:Sg}:∀{l:List AV}{L:List Value}{k:Nat}{v:AV},aC σ l L→l[k]?=some v→∃V,L[k]?=some V∧av σ v V
 |[],L,k,v,_,h=>by simp at h
 |a::l,L,k,v,h,hk=>by
  simp only[aC]at h;obtain⟨V,L',e,h1,h2⟩:=h;subst e;cases k with
  |zero=>simp at hk;subst hk;exact⟨V,rfl,h1⟩
  |succ k=>simpa using h2.get (by simpa using hk)
theorem aC.append {σ:Sg}:∀{l m:List AV}{L M:List Value},aC σ l L→aC σ m M→aC σ (l++m) (L++M)
 |[],m,L,M,h,g=>by simp only[aC]at h;subst h;exact g
 |a::l,m,L,M,h,g=>by
  simp only[aC]at h;obtain⟨V,L',e,h1,h2⟩:=h;subst e;show aC σ (a::(l++m)) (V::L'++M);simp only[aC];exact⟨V,L'++M,rfl,h1,h2.append g⟩
theorem aC.take {σ:Sg}:∀{l:List AV}{L:List Value},aC σ l L→∀n,aC σ (l.take n) (L.take n)
 |[],L,h,n=>by simp only[aC]at h;subst h;simp only[List.take_nil,aC]
 |a::l,L,h,0=>by simp only[List.take_zero,aC]
 |a::l,L,h,n+1=>by
  simp only[aC]at h;obtain⟨V,L',e,h1,h2⟩:=h;subst e;simp only[List.take_succ_cons,aC];exact⟨V,_,rfl,h1,h2.take n⟩
theorem aC.drop {σ:Sg}:∀{l:List AV}{L:List Value},aC σ l L→∀n,aC σ (l.drop n) (L.drop n)
 |[],L,h,n=>by simp only[aC]at h;subst h;simp only[List.drop_nil,aC]
 |a::l,L,h,0=>by simpa only[List.drop_zero]using h
 |a::l,L,h,n+1=>by
  simp only[aC]at h;obtain⟨V,L',e,h1,h2⟩:=h;subst e;simp only[List.drop_succ_cons];exact h2.drop n
theorem aC.of_get {σ:Sg}:∀{l:List AV}{L:List Value},L.length=l.length→(∀(k:Nat) v V,l[k]?=some v→L[k]?=some V→av σ v V)→aC σ l L
 |[],L,e,_=>by simp only[aC];exact au (by simpa using e)
 |a::l,L,e,h=>by
  cases L with
  |nil=>simp at e
  |cons V L'=>
   simp only[aC];exact⟨V,L',rfl,h 0 a V rfl rfl,aC.of_get (by simpa using e) fun k v V h1 h2=>h (k+1) v V (by simpa using h1) (by simpa using h2)⟩
inductive ABlk where
 |cells (elem:TypeId) (n:Nat) (c:Tr AV) (opn:Bool) (esz:Nat)
 |map (es:List (AV×AV×Nat)) (clock:Nat)
 |loop (st:LoopState) (bh:Option Code) (fn:FuncId) (sz:Nat) (tm:Tr AV) (ps:Array Tmp) (assign body:Code) (db:Nat)
 |dfr
 |miter (i since:Nat) (seen:List Nat) (jg:Nat)
 |siter (s:ByteArray) (pos:Nat)
def di (σ:Sg):List (AV×AV×Nat)→List MapEntry→Prop
 |[],E=>E=[]
 |(k,v,n)::l,E=>∃K V E',E=⟨K,V,n⟩::E'∧av σ k K∧av σ v V∧di σ l E'
theorem di.mono {σ τ:Sg}(hl:σ.Le τ):∀{l E},di σ l E→di τ l E
 |[],E,h=>h
 |(k,v,n)::l,E,h=>by
  simp only[di]at h ⊢;obtain⟨K,V,E',e,h1,h2,h3⟩:=h;exact⟨K,V,E',e,h1.mono hl,h2.mono hl,h3.mono hl⟩
def bX (σ:Sg) (i:Nat):ABlk→Obj→Prop
 |.cells e n c opn esz,o=>∃C fr,o=.cells C e fr∧(∀k,k<n→∃v V,c.get k=some v∧C[k]?=some V∧av σ v V)∧
   (∀k,k<C.size→¬(fr.1≤k∧k<fr.2))∧(if opn then n≤C.size∧C.size=σ.cap i * esz else C.size=n)
 |.map es cl,o=>∃E,o=.map (List.toArray E) cl∧di σ es E
 |.loop st bh _ sz tm ps assign body db,o=>∃T d fn,o=.loop ⟨st,bh,fn,T,ps,assign,body,d⟩∧T.size=sz∧(∀t v,tm.get t=some v→av σ v (T.getD t undef))∧σ.blk db=some d
 |.dfr,o=>o=.deferred (some [])
 |.miter i since seen jg,o=>∃b,σ.blk i=some b∧o=.mapIter (some b) since seen.toArray jg
 |.siter s pos,o=>o=.stringIter s pos
theorem bX.mono {σ τ:Sg}(hl:σ.Le τ){i b:Nat}(hb:σ.blk i=some b):∀{B o},bX σ i B o→bX τ i B o
 |.cells e n c opn esz,o,h=>by
  simp only[bX]at h ⊢;obtain⟨C,fr,e,h1,h2,h3⟩:=h;refine⟨C,fr,e,fun k hk=>?_,h2,?_⟩
  ·obtain⟨v,V,e1,e2,e3⟩:=h1 k hk;exact⟨v,V,e1,e2,e3.mono hl⟩
  ·rw[(hl.blk i b hb).2];exact h3
 |.map es cl,o,h=>by
  simp only[bX]at h ⊢;obtain⟨E,e,h1⟩:=h;exact⟨E,e,h1.mono hl⟩
 |.loop st bh fn sz tm ps assign body db,o,h=>by
  simp only[bX]at h ⊢;obtain⟨T,d,nV,e,h1,h2,h3⟩:=h;exact⟨T,d,nV,e,h1,fun t v ht=>(h2 t v ht).mono hl,(hl.blk db d h3).1⟩
 |.dfr,o,h=>by simpa only[bX]using h
 |.miter i since seen jg,o,h=>by
  simp only[bX]at h ⊢;obtain⟨b,h1,h2⟩:=h;exact⟨b,(hl.blk i b h1).1,h2⟩
 |.siter s pos,o,h=>by simpa only[bX]using h
structure Gl where
 n:Nat
 sym:Bool
 tab:Nat→Option (List AV)
structure Ok (G:Gl)(σ:Sg)(h:Tr ABlk) (nx:Nat)(w:World):Prop where
 glob:∀g,g<G.n→σ.blk g=some g
 le:G.n≤nx
 fresh:∀i,nx≤i→σ.blk i=none
 inj:∀i j b B B',h.get i=some B→h.get j=some B'→σ.blk i=some b→σ.blk j=some b→i=j
 blk:∀i B,h.get i=some B→∃b o,σ.blk i=some b∧w.heap[b]?=some o∧bX σ i B o
 imm:∀b C,σ.imm b=some C→(∃t fr,w.heap[b]?=some (.cells C.toArray t fr))∧∀i B,h.get i=some B→σ.blk i≠some b
 gl:∀g cs,G.tab g=some cs→av σ (.ip cs) (.pointer (some ⟨g,0,none⟩))
structure Fr (σ:Sg)(h:Tr ABlk)(w:World)(τ:Sg)(g:Tr ABlk)(x:World):Prop where
 os:x.os=w.os
 tape:x.tape=w.tape
 output:x.output=w.output
 size:w.heap.size≤x.heap.size
 keep:∀b,b<w.heap.size→(∀i B,h.get i=some B→σ.blk i≠some b)→x.heap[b]?=w.heap[b]?
 own:∀i B b,g.get i=some B→τ.blk i=some b→w.heap.size≤b∨∃j B',h.get j=some B'∧σ.blk j=some b
 imm:∀b C,τ.imm b=some C→σ.imm b=some C∨w.heap.size≤b∨∃j B',h.get j=some B'∧σ.blk j=some b
structure Post (G:Gl)(σ:Sg)(h:Tr ABlk) (nx:Nat)(w:World)(τ:Sg)(g:Tr ABlk) (ny:Nat)(x:World):Prop where
 ok:Ok G τ g ny x
 le:σ.Le τ
 fr:Fr σ h w τ g x
 nx:nx≤ny
variable {G : Gl} {σ τ υ : Sg} {h g f : Tr ABlk} {nx ny nz : Nat} {w x y : World}
theorem Post.refl (hk:Ok G σ h nx w):Post G σ h nx w σ h nx w:=
 ⟨hk,.refl σ,⟨rfl,rfl,rfl,ae _,fun _ _ _=>rfl,fun i B b h1 h2=>.inr ⟨i,B,h1,h2⟩,fun _ _ h=>.inl h⟩,ae _⟩
theorem Post.trans (p:Post G σ h nx w τ g ny x)(q:Post G τ g ny x υ f nz y):Post G σ h nx w υ f nz y:=by
 refine⟨q.ok,p.le.trans q.le,⟨q.fr.os.trans p.fr.os,q.fr.tape.trans p.fr.tape,q.fr.output.trans p.fr.output,Nat.le_trans p.fr.size q.fr.size,?_,?_,?_⟩,Nat.le_trans p.nx q.nx⟩
 ·intro b hb hn;rw[q.fr.keep b (Nat.lt_of_lt_of_le hb p.fr.size) ?_]
  ·exact p.fr.keep b hb hn
  ·intro i B hi EK
   rcases p.fr.own i B b hi EK with h1 |⟨j,B',hj,EM⟩
   ·omega
   ·exact hn j B' hj EM
 ·intro i B b hi EK
  rcases q.fr.own i B b hi EK with h1 |⟨j,B',hj,EM⟩
  ·exact .inl (Nat.le_trans p.fr.size h1)
  ·exact p.fr.own j B' b hj EM
 ·intro b C hb
  rcases q.fr.imm b C hb with h1 |h1 |⟨j,B',hj,EM⟩
  ·exact p.fr.imm b C h1
  ·exact .inr (.inl (Nat.le_trans p.fr.size h1))
  ·exact .inr (p.fr.own j B' b hj EM)
theorem Bq {b:Nat}{o:Obj}(h:w.heap[b]?=some o):b<w.heap.size:=by
 rcases Nat.lt_or_ge b w.heap.size with h1 |h1
 ·exact h1
 ·rw[Array.getElem?_eq_none h1]at h;cases h
theorem Ok.lt (hk:Ok G σ h nx w){i:Nat}{B:ABlk}(hi:h.get i=some B):i<nx:=by
 obtain⟨b,o,hb,_⟩:=hk.blk i B hi
 rcases Nat.lt_or_ge i nx with h1 |h1
 ·exact h1
 ·rw[hk.fresh i h1]at hb;cases hb
theorem Ok.blt (hk:Ok G σ h nx w){i b:Nat}{B:ABlk}(hi:h.get i=some B)(hb:σ.blk i=some b):b<w.heap.size:=by
 obtain⟨b',o,aS,ho,_⟩:=hk.blk i B hi;rw[hb]at aS;cases aS
 rcases Nat.lt_or_ge b w.heap.size with h1 |h1
 ·exact h1
 ·rw[Array.getElem?_eq_none h1]at ho;cases ho
def Sg.add (σ:Sg) (i b c:Nat):Sg:={ σ with blk:=fun k=>if k=i then some b else σ.blk k,cap:=fun k=>if k=i then c else σ.cap k }
theorem Sg.add_le {i b c:Nat}(hn:σ.blk i=none):σ.Le (σ.add i b c):=by
 refine⟨fun k b' hk=>?_,rfl,fun _ _ h=>h⟩;have:k≠i:=fun e=>by rw[e,hn]at hk;cases hk
 simp[Sg.add,this,hk]
theorem Post.drawn (hk:Ok G σ h nx w) (n:Nat):Post G σ h nx w σ h nx { w with drawn:=n }:=
 ⟨⟨hk.glob,hk.le,hk.fresh,hk.inj,hk.blk,hk.imm,hk.gl⟩,.refl σ,⟨rfl,rfl,rfl,ae _,fun _ _ _=>rfl,fun i B b h1 h2=>.inr ⟨i,B,h1,h2⟩,fun _ _ h=>.inl h⟩,ae _⟩
theorem Post.erase (hk:Ok G σ h nx w) (i:Nat):Post G σ h nx w σ (h.put i none) nx w:=by
 have hs:∀j B,(h.put i none).get j=some B→h.get j=some B:=by
  intro j B hj;rw[Tr.get_put]at hj;split at hj
  ·cases hj
  ·exact hj
 exact⟨⟨hk.glob,hk.le,hk.fresh,fun a b c B B' h1 h2=>hk.inj a b c B B' (hs _ _ h1) (hs _ _ h2),fun a B h1=>hk.blk a B (hs _ _ h1),fun b C hb=>⟨(hk.imm b C hb).1,fun j B hj=>(hk.imm b C hb).2 j B (hs _ _ hj)⟩,hk.gl⟩,.refl σ,
  ⟨rfl,rfl,rfl,ae _,fun _ _ _=>rfl,fun a B b h1 h2=>.inr ⟨a,B,hs _ _ h1,h2⟩,fun _ _ h=>.inl h⟩,ae _⟩
theorem Post.alloc (hk:Ok G σ h nx w) (c:Nat)(B:ABlk)(o:Obj)(hB:bX (σ.add nx w.heap.size c) nx B o):
  Post G σ h nx w (σ.add nx w.heap.size c) (h.put nx (some B)) (nx+1) { w with heap:=w.heap.push o }:=by
 have hle:σ.Le (σ.add nx w.heap.size c):=Sg.add_le (hk.fresh nx (ae _));have cB:∀i B',h.get i=some B'→i≠nx:=fun i B' hi e=>by have:=hk.lt hi;omega
 refine⟨⟨fun a ha=>?_,by have:=hk.le;omega,fun i hi=>?_,fun i j b B1 B2 h1 h2 h3 h4=>?_,fun i B1 h1=>?_,fun b C hb=>?_,fun g cs hg=>(hk.gl g cs hg).mono hle⟩,hle,⟨rfl,rfl,rfl,by simp,fun b hb _=>?_,fun i B1 b h1 h2=>?_,fun _ _ h=>.inl h⟩,by omega⟩
 ·have:a≠nx:=by have:=hk.le;omega
  simp[Sg.add,this,hk.glob a ha]
 ·have:i≠nx:=by omega
  simp[Sg.add,this,hk.fresh i (by omega)]
 ·rw[Tr.get_put]at h1 h2;have fJ:∀k B',(if k=nx then some B else h.get k)=some B'→k≠nx→(σ.add nx w.heap.size c).blk k=some b→h.get k=some B'∧σ.blk k=some b∧b<w.heap.size:=by
   intro k B' hh aQ hb;rw[if_neg aQ]at hh;have aS:σ.blk k=some b:=by simpa[Sg.add,aQ]using hb
   exact⟨hh,aS,hk.blt hh aS⟩
  by_cases e1:i=nx <;> by_cases e2:j=nx
  ·omega
  ·obtain⟨_,_,az⟩:=fJ j B2 h2 e2 h4;have:b=w.heap.size:=by subst e1;simpa[Sg.add]using h3.symm
   omega
  ·obtain⟨_,_,az⟩:=fJ i B1 h1 e1 h3;have:b=w.heap.size:=by subst e2;simpa[Sg.add]using h4.symm
   omega
  ·obtain⟨a1,a2,_⟩:=fJ i B1 h1 e1 h3;obtain⟨c1,c2,_⟩:=fJ j B2 h2 e2 h4;exact hk.inj i j b B1 B2 a1 c1 a2 c2
 ·rw[Tr.get_put]at h1
  by_cases e:i=nx
  ·rw[if_pos e]at h1;cases h1;subst e;exact⟨w.heap.size,o,by simp[Sg.add],by simp,hB⟩
  ·rw[if_neg e]at h1;obtain⟨b,o',hb,ho,hr⟩:=hk.blk i B1 h1;refine⟨b,o',(hle.blk i b hb).1,?_,hr.mono hle hb⟩;have:=hk.blt h1 hb;rw[Array.getElem?_push_lt this];rw[Array.getElem?_eq_getElem this]at ho;exact ho
 ·obtain⟨⟨t,fr,h1⟩,h2⟩:=hk.imm b C hb;have az:b<w.heap.size:=Bq h1;refine⟨⟨t,fr,?_⟩,fun i B' hi e=>?_⟩
  ·rw[Array.getElem?_push_lt az,← Array.getElem?_eq_getElem az];exact h1
  ·rw[Tr.get_put]at hi
   by_cases e':i=nx
   ·subst e';have:b=w.heap.size:=by simpa[Sg.add]using e.symm
    omega
   ·rw[if_neg e']at hi;exact h2 i B' hi (by simpa[Sg.add,e']using e)
 ·rw[Array.getElem?_push_lt hb,Array.getElem?_eq_getElem hb]
 ·rw[Tr.get_put]at h1
  by_cases e:i=nx
  ·subst e;have:b=w.heap.size:=by simpa[Sg.add]using h2.symm
   exact .inl (by omega)
  ·rw[if_neg e]at h1;exact .inr ⟨i,B1,h1,by simpa[Sg.add,e]using h2⟩
theorem Post.set (hk:Ok G σ h nx w){i b:Nat}{B0:ABlk}(hi:h.get i=some B0)(hb:σ.blk i=some b)(B:ABlk)(o:Obj)(hB:bX σ i B o):
  Post G σ h nx w σ (h.put i (some B)) nx { w with heap:=w.heap.setIfInBounds b o }:=by
 have az:=hk.blt hi hb;have hs:∀j B',(h.put i (some B)).get j=some B'→∃B'',h.get j=some B'':=by
  intro j B' hj;rw[Tr.get_put]at hj
  by_cases e:j=i
  ·subst e;exact⟨B0,hi⟩
  ·rw[if_neg e]at hj;exact⟨B',hj⟩
 refine⟨⟨hk.glob,hk.le,hk.fresh,fun a c d B1 B2 h1 h2 h3 h4=>?_,fun a B1 h1=>?_,fun d C hd=>⟨?_,fun a B1 h1 e=>?_⟩,hk.gl⟩,.refl σ,⟨rfl,rfl,rfl,by simp,fun c hc hn=>?_,fun a B1 c h1 h2=>?_,fun _ _ h=>.inl h⟩,ae _⟩
 ·obtain⟨C1,g1⟩:=hs a B1 h1;obtain⟨C2,g2⟩:=hs c B2 h2;exact hk.inj a c d C1 C2 g1 g2 h3 h4
 ·rw[Tr.get_put]at h1
  by_cases e:a=i
  ·rw[if_pos e]at h1;cases h1;subst e;exact⟨b,o,hb,by simp[az],hB⟩
  ·rw[if_neg e]at h1;obtain⟨b',o',aS,ho,hr⟩:=hk.blk a B1 h1;refine⟨b',o',aS,?_,hr⟩;have aQ:b≠b':=fun e'=>e (hk.inj a i b B1 B0 h1 hi (e' ▸ aS) hb);simp only[Array.getElem?_setIfInBounds];rw[if_neg aQ];exact ho
 ·obtain⟨⟨t,fr,h1⟩,h2⟩:=hk.imm d C hd;refine⟨t,fr,?_⟩;have aQ:b≠d:=fun e=>h2 i B0 hi (e ▸ hb);simp only[Array.getElem?_setIfInBounds];rw[if_neg aQ];exact h1
 ·obtain⟨C1,g1⟩:=hs a B1 h1;exact(hk.imm d C hd).2 a C1 g1 e
 ·have:b≠c:=fun e=>hn i B0 hi (e ▸ hb);simp only[Array.getElem?_setIfInBounds];rw[if_neg this]
 ·obtain⟨C1,g1⟩:=hs a B1 h1;exact .inr ⟨a,C1,g1,h2⟩
theorem Post.rename (hk:Ok G σ h nx w){i b:Nat}{B0:ABlk}(hi:h.get i=some B0)(hb:σ.blk i=some b)(B:ABlk)(o:Obj)(e9:w.heap[b]?=some o)(hB:bX (σ.add nx b (σ.cap i)) nx B o):
  Post G σ h nx w (σ.add nx b (σ.cap i)) ((h.put i none).put nx (some B)) (nx+1) w:=by
 have hle:σ.Le (σ.add nx b (σ.cap i)):=Sg.add_le (hk.fresh nx (ae _));have az:=hk.lt hi;have hs:∀j B',((h.put i none).put nx (some B)).get j=some B'→j≠nx→j≠i∧h.get j=some B':=by
  intro j B' hj hn;rw[Tr.get_put,if_neg hn,Tr.get_put]at hj;split at hj
  ·cases hj
  ·exact⟨by assumption,hj⟩
 have hold:∀k d,k≠nx→(σ.add nx b (σ.cap i)).blk k=some d→σ.blk k=some d:=fun k d hn hh=>by simpa[Sg.add,hn]using hh
 refine⟨⟨fun a ha=>?_,by have:=hk.le;omega,fun a ha=>?_,fun a c d B1 B2 h1 h2 h3 h4=>?_,fun a B1 h1=>?_,fun d C hd=>⟨(hk.imm d C hd).1,fun a B1 h1 e=>?_⟩,fun g cs hg=>(hk.gl g cs hg).mono hle⟩,hle,⟨rfl,rfl,rfl,ae _,fun _ _ _=>rfl,fun a B1 c h1 h2=>?_,fun _ _ h=>.inl h⟩,by omega⟩
 ·have:a≠nx:=by have:=hk.le;omega
  simp[Sg.add,this,hk.glob a ha]
 ·have:a≠nx:=by omega
  simp[Sg.add,this,hk.fresh a (by omega)]
 ·by_cases e1:a=nx <;> by_cases e2:c=nx
  ·omega
  ·obtain⟨n1,n2⟩:=hs c B2 h2 e2;have hd:d=b:=by subst e1;simpa[Sg.add]using h3.symm
   exact absurd (hk.inj c i b B2 B0 n2 hi (hd ▸ hold c d e2 h4) hb) n1
  ·obtain⟨n1,n2⟩:=hs a B1 h1 e1;have hd:d=b:=by subst e2;simpa[Sg.add]using h4.symm
   exact absurd (hk.inj a i b B1 B0 n2 hi (hd ▸ hold a d e1 h3) hb) n1
  ·exact hk.inj a c d B1 B2 (hs a B1 h1 e1).2 (hs c B2 h2 e2).2 (hold a d e1 h3) (hold c d e2 h4)
 ·by_cases e:a=nx
  ·subst e;rw[Tr.get_put,if_pos rfl]at h1;cases h1;exact⟨b,o,by simp[Sg.add],e9,hB⟩
  ·obtain⟨n1,n2⟩:=hs a B1 h1 e;obtain⟨b',o',aS,ho,hr⟩:=hk.blk a B1 n2;exact⟨b',o',(hle.blk a b' aS).1,ho,hr.mono hle aS⟩
 ·by_cases e':a=nx
  ·subst e';have:d=b:=by simpa[Sg.add]using e.symm
   exact(hk.imm d C hd).2 i B0 hi (this ▸ hb)
  ·exact(hk.imm d C hd).2 a B1 (hs a B1 h1 e').2 (hold a d e' e)
 ·by_cases e:a=nx
  ·subst e;have:c=b:=by simpa[Sg.add]using h2.symm
   exact .inr ⟨i,B0,hi,this ▸ hb⟩
  ·exact .inr ⟨a,B1,(hs a B1 h1 e).2,hold a c e h2⟩
end Go.Ev
namespace Go.Ev
variable {P : Program} {G : Gl} {σ τ υ : Sg} {h g f : Tr ABlk} {nx ny nz : Nat} {w x y : World}
theorem XQ {t:TypeId}{i:TypeInfo}(hi:P.info? t=some i)(w:World):(typeInfo t).run P w=.ok i w:=by simp[typeInfo,hi]
theorem nN {t:TypeId}{i:TypeInfo}(hi:P.info? t=some i)(w:World):(sizeOf t).run P w=.ok i.size w:=by simp[sizeOf,XQ hi]
theorem yP {t:TypeId}{i:TypeInfo}{z:Value}(hi:P.info? t=some i)(hz:i.zero=some z)(w:World):(zeroValue t).run P w=.ok z w:=by simp[zeroValue,XQ hi,hz]
theorem iM (b o n:Nat):(⟨b,o,none⟩:Addr).add n=⟨b,o+n,none⟩:=by
 unfold Addr.add;split
 ·rename_i e;subst e;rfl
 ·rfl
theorem Ok.cells (hk:Ok G σ h nx w){i n esz:Nat}{e:TypeId}{c:Tr AV}{opn:Bool}(hi:h.get i=some (.cells e n c opn esz)):
  ∃b C fr,σ.blk i=some b∧w.heap[b]?=some (.cells C e fr)∧(∀k,k<n→∃v V,c.get k=some v∧C[k]?=some V∧av σ v V)∧
   (∀k,k<C.size→¬(fr.1≤k∧k<fr.2))∧(if opn then n≤C.size∧C.size=σ.cap i * esz else C.size=n):=by
 obtain⟨b,o,hb,ho,hr⟩:=hk.blk i _ hi;simp only[bX]at hr;obtain⟨C,fr,e,h1,h2,h3⟩:=hr;subst e;exact⟨b,C,fr,hb,ho,h1,h2,h3⟩
theorem nO {b k:Nat}{C:Array Value}{e:TypeId}{fr:Nat×Nat}(hb:w.heap[b]?=some (.cells C e fr)):w.cell? ⟨b,k,none⟩=C[k]?:=by
 simp[World.cell?,hb]
noncomputable section
def iI (c:Tr AV) (n:Nat):Nat→Option (List AV):=
 Nat.rec (motive:=fun _=>Nat→Option (List AV)) (fun _=>some [])
  (fun _ ih o=>match c.get o with
   |some v=>fN (Nat.succ o) fun o'=>(match ih o' with |some l=>some (v::l) |none=>none)
   |none=>none) n
theorem Ql (c:Tr AV):∀(n o:Nat)(l:List AV),iI c n o=some l→l.length=n∧∀k,k<n→c.get (o+k)=l[k]?:=by
 intro n
 induction n with
 |zero=>intro o l e;cases e;exact⟨rfl,fun k hk=>by omega⟩
 |succ n ih=>
  intro o l e
  change (match c.get o with
   |some v=>fN (Nat.succ o) fun o'=>(match iI c n o' with |some l=>some (v::l) |none=>none)
   |none=>none)=some l at e
  cases hv:c.get o with
  |none=>rw[hv]at e;cases e
  |some v=>
   rw[hv]at e;simp only[fN_eq]at e;cases hl:iI c n (Nat.succ o) with
   |none=>rw[hl]at e;cases e
   |some l'=>
    rw[hl]at e;cases e;obtain⟨h1,h2⟩:=ih _ _ hl;refine⟨by simp[h1],fun k hk=>?_⟩;cases k with
    |zero=>simpa using hv
    |succ k=>
     have:=h2 k (by omega);rw[show o+(k+1)=Nat.succ o+k by omega,this];simp
def qV {β:Type}(l:List AV):Tr AV→Nat→(Tr AV→β)→β:=
 List.rec (motive:=fun _=>Tr AV→Nat→(Tr AV→β)→β) (fun c _ k=>k c)
  (fun v _ ih c o k=>c.putK (some v) o fun c'=>fN (Nat.succ o) fun o'=>ih c' o' k) l
def ef:List AV→Tr AV→Nat→Tr AV
 |[],c,_=>c
 |v::l,c,o=>ef l (c.put o (some v)) (o+1)
theorem kY {β:Type}:∀(l:List AV)(c:Tr AV) (o:Nat)(k:Tr AV→β),qV l c o k=k (ef l c o)
 |[],c,o,k=>rfl
 |v::l,c,o,k=>by
  show (c.putK (some v) o fun c'=>fN (Nat.succ o) fun o'=>qV l c' o' k)=_;rw[Tr.putK_eq,fN_eq,kY];rfl
theorem pz:∀(l:List AV)(c:Tr AV) (o k:Nat),(ef l c o).get k=if o≤k∧k<o+l.length then l[k-o]? else c.get k
 |[],c,o,k=>by simp[ef];omega
 |v::l,c,o,k=>by
  rw[ef,pz]
  by_cases h1:o+1≤k∧k<o+1+l.length
  ·rw[if_pos h1,if_pos (by simp;omega)];rw[show k-o=(k-(o+1))+1 by omega];simp
  ·rw[if_neg h1,Tr.get_put]
   by_cases h2:k=o
   ·subst h2;rw[if_pos rfl,if_pos (by simp)];simp
   ·rw[if_neg h2,if_neg (by simp;omega)]
end
def oH:List Value→Array Value→Nat→Array Value
 |[],C,_=>C
 |v::l,C,o=>oH l (C.setIfInBounds o v) (o+1)
theorem CW:∀(l:List Value)(C:Array Value) (o:Nat),(oH l C o).size=C.size
 |[],C,o=>rfl
 |v::l,C,o=>by rw[oH,CW];simp
theorem Lg:∀(l:List Value)(C:Array Value) (o k:Nat),o+l.length≤C.size→(oH l C o)[k]?=if o≤k∧k<o+l.length then l[k-o]? else C[k]?
 |[],C,o,k,hs=>by simp[oH];omega
 |v::l,C,o,k,hs=>by
  simp at hs;rw[oH,Lg _ _ _ _ (by simp;omega)]
  by_cases h1:o+1≤k∧k<o+1+l.length
  ·rw[if_pos h1,if_pos (by simp;omega)];rw[show k-o=(k-(o+1))+1 by omega];simp
  ·rw[if_neg h1,Array.getElem?_setIfInBounds]
   by_cases h2:k=o
   ·subst h2;have:k<C.size:=by omega
    simp[this]
   ·rw[if_neg (fun e=>h2 e.symm),if_neg (by simp;omega)]
def gT (w:World) (b:Nat)(o:Obj):World:={ w with heap:=w.heap.setIfInBounds b o }
theorem zTs (w:World) (b:Nat)(o p:Obj):gT (gT w b o) b p=gT w b p:=by
 simp[gT]
theorem zGa {b:Nat}{o p:Obj}(hb:w.heap[b]?=some p):(gT w b o).heap[b]?=some o:=by
 have:b<w.heap.size:=by
  rcases Nat.lt_or_ge b w.heap.size with h1 |h1
  ·exact h1
  ·rw[Array.getElem?_eq_none h1]at hb;cases hb
 simp[gT,this]
theorem zSh {b:Nat}{o:Obj}(hb:w.heap[b]?=some o):gT w b o=w:=by
 have az:b<w.heap.size:=by
  rcases Nat.lt_or_ge b w.heap.size with h1 |h1
  ·exact h1
  ·rw[Array.getElem?_eq_none h1]at hb;cases hb
 have:w.heap.setIfInBounds b o=w.heap:=by
  apply Array.ext_getElem?;intro k;rw[Array.getElem?_setIfInBounds];split
  ·rename_i e;subst e;rw[hb]
  ·rfl
 simp[gT,this]
theorem zLf {b k:Nat}{C:Array Value}{e:TypeId}{fr:Nat×Nat}{V:Value}(hb:w.heap[b]?=some (.cells C e fr))(hk:k<C.size)(hf:¬(fr.1≤k∧k<fr.2))(h1:V.oneCell'=true):
  (store ⟨b,k,none⟩ V).run P w=.ok () (gT w b (.cells (C.setIfInBounds k V) e fr)):=by
 rw[run_store P w _ V .plain h1];have hc:w.cell? ⟨b,k,none⟩=some C[k]:=by rw[nO hb];simp[hk]
 have M6:w.frozen? ⟨b,k,none⟩=false:=by
  simp only[World.frozen?,hb];simp only[not_and,Nat.not_lt]at hf;cases e1:decide (fr.1≤k) with
  |false=>simp
  |true=>simp[hf (of_decide_eq_true e1)]
 simp only[hc,M6];have az:b<w.heap.size:=by
  rcases Nat.lt_or_ge b w.heap.size with h1 |h1
  ·exact h1
  ·rw[Array.getElem?_eq_none h1]at hb;cases hb
 have bW:w.setCell ⟨b,k,none⟩ V=gT w b (.cells (C.setIfInBounds k V) e fr):=by
  unfold World.setCell gT
  congr 1
  apply Array.ext_getElem?;intro j;rw[Array.getElem?_modify,Array.getElem?_setIfInBounds]
  by_cases ej:b=j
  ·subst ej;rw[if_pos rfl,if_pos rfl,if_pos az,hb];simp
  ·rw[if_neg ej,if_neg ej]
 simp[bW]
theorem Kl {b o:Nat}{e:TypeId}{fr:Nat×Nat}:∀(vs:List Value) (i:Nat)(C:Array Value)(w:World),w.heap[b]?=some (.cells C e fr)→o+i+vs.length≤C.size→
  (∀k,k<C.size→¬(fr.1≤k∧k<fr.2))→(∀v∈vs,v.oneCell'=true)→(storeCells ⟨b,o,none⟩ vs i).run P w=.ok () (gT w b (.cells (oH vs C (o+i)) e fr))
 |[],i,C,w,hb,_,_,_=>by simp[storeCells,oH,zSh hb]
 |v::vs,i,C,w,hb,hs,hf,h1=>by
  simp only[List.length_cons]at hs;rw[storeCells,Sem.run_bind,iM,zLf hb (by omega) (hf _ (by omega)) (h1 v (by simp))];show (storeCells ⟨b,o,none⟩ vs (i+1)).run P _=_;rw[Kl vs (i+1) (C.setIfInBounds (o+i) v) _ (zGa hb) (by simp;omega) (by simpa using hf) fun u hu=>h1 u (by simp[hu]),zTs];rfl
end Go.Ev
