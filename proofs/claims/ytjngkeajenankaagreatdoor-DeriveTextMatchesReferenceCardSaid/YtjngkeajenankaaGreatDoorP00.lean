/- Texts T V H M O1 S. -/
import Derived.Tactics
import Derived.Orders
import Derived.Laws.AppendOwn
import Derived.Laws.Strings
set_option linter.unusedSimpArgs false
set_option linter.unusedVariables false
set_option maxRecDepth 100000
namespace Go.Ev
inductive Tr (α:Type) where
 |nil
 |node (l:Tr α) (v:Option α) (r:Tr α)
noncomputable section
def pathF (f:Nat):Nat→List Bool:=
 Nat.rec (motive:=fun _=>Nat→List Bool) (fun _=>[]) (fun _ ih n=>Bool.rec (Bool.rec (false::ih (Nat.sub (Nat.div n 2) 1)) (true::ih (Nat.div n 2)) (Nat.beq (Nat.mod n 2) 1)) [] (Nat.beq n 0)) f
def path (n:Nat):List Bool:=pathF (Nat.succ n) n
def unpath:List Bool→Nat
 |[]=>0
 |true::p=>2 * unpath p+1
 |false::p=>2 * unpath p+2
theorem unpath_pathF:∀(f n:Nat),n<f→unpath (pathF f n)=n:=by
 intro f
 induction f with
 |zero=>intro n h;omega
 |succ f ih=>
  intro n h
  show unpath (Bool.rec (Bool.rec (false::pathF f (n / 2-1)) (true::pathF f (n / 2)) (Nat.beq (n % 2) 1)) [] (Nat.beq n 0))=n
  by_cases h0:n=0
  ·subst h0;rfl
  ·have h1:Nat.beq n 0=false:=by cases n with |zero=>exact absurd rfl h0 |succ n=>rfl
   rw[h1]
   by_cases h2:n % 2=1
   ·rw[h2]
    show unpath (true::pathF f (n / 2))=n
    rw[unpath,ih _ (by omega)]
    omega
   ·have h3:Nat.beq (n % 2) 1=false:=by
     have:n % 2=0:=by omega
     rw[this];rfl
    rw[h3]
    show unpath (false::pathF f (n / 2-1))=n
    rw[unpath,ih _ (by omega)]
    omega
theorem path_inj {n m:Nat}(h:path n=path m):n=m:=by
 rw[← unpath_pathF (n+1) n (by omega),← unpath_pathF (m+1) m (by omega)]
 exact congrArg unpath h
namespace Tr
variable {α : Type} {β : Type}
def getP (t:Tr α):List Bool→Option α:=
 Tr.rec (motive:=fun _=>List Bool→Option α) (fun _=>none)
  (fun _ v _ gl gr p=>List.rec (motive:=fun _=>Option α) v (fun b q _=>Bool.rec (gr q) (gl q) b) p) t
def get (t:Tr α) (n:Nat):Option α:=getP t (path n)
def newP (x:Option α)(p:List Bool):Tr α:=
 List.rec (motive:=fun _=>Tr α) (.node .nil x .nil) (fun b _ ih=>Bool.rec (.node .nil none ih) (.node ih none .nil) b) p
def newK (x:Option α)(p:List Bool):(Tr α→β)→β:=
 List.rec (motive:=fun _=>(Tr α→β)→β) (fun k=>k (.node .nil x .nil)) (fun b _ ih k=>Bool.rec (ih fun t=>k (.node .nil none t)) (ih fun t=>k (.node t none .nil)) b) p
def putPK (t:Tr α)(x:Option α):List Bool→(Tr α→β)→β:=
 Tr.rec (motive:=fun _=>List Bool→(Tr α→β)→β) (fun p k=>newK x p k)
  (fun l v r sl sr p k=>List.rec (motive:=fun _=>β) (k (.node l x r)) (fun b q _=>Bool.rec (sr q fun r'=>k (.node l v r')) (sl q fun l'=>k (.node l' v r)) b) p) t
def putK (t:Tr α)(x:Option α) (n:Nat)(k:Tr α→β):β:=putPK t x (path n) k
def putP (t:Tr α)(p:List Bool)(x:Option α):Tr α:=putPK t x p id
def put (t:Tr α) (n:Nat)(x:Option α):Tr α:=putP t (path n) x
theorem get_nil (n:Nat):(Tr.nil:Tr α).get n=none:=rfl
theorem newK_eq (x:Option α):∀(p:List Bool)(β:Type)(k:Tr α→β),newK x p k=k (newP x p)
 |[],β,k=>rfl
 |true::p,β,k=>by show newK x p (fun t=>k (.node t none .nil))=_;rw[newK_eq];rfl
 |false::p,β,k=>by show newK x p (fun t=>k (.node .nil none t))=_;rw[newK_eq];rfl
theorem putPK_eq (x:Option α):∀(t:Tr α)(β:Type)(p:List Bool)(k:Tr α→β),putPK t x p k=k (t.putP p x):=by
 intro t
 induction t with
 |nil=>intro β p k;show newK x p k=k (newK x p id);rw[newK_eq,newK_eq];rfl
 |node l v r ihl ihr=>
  intro β p k
  match p with
  |[]=>rfl
  |true::q=>show putPK l x q (fun l'=>k (.node l' v r))=k (putPK l x q (fun l'=>id (Tr.node l' v r)));rw[ihl,ihl];rfl
  |false::q=>show putPK r x q (fun r'=>k (.node l v r'))=k (putPK r x q (fun r'=>id (Tr.node l v r')));rw[ihr,ihr];rfl
theorem putK_eq (x:Option α)(t:Tr α)(β:Type) (n:Nat)(k:Tr α→β):putK t x n k=k (t.put n x):=putPK_eq x t β (path n) k
theorem getP_newP (x:Option α):∀(p q:List Bool),(newP x p).getP q=if q=p then x else none
 |[],[]=>rfl
 |[],true::q=>rfl
 |[],false::q=>rfl
 |true::p,[]=>rfl
 |true::p,true::q=>by show (newP x p).getP q=_;rw[getP_newP];simp
 |true::p,false::q=>by show (Tr.nil:Tr α).getP q=_;simp;rfl
 |false::p,[]=>rfl
 |false::p,true::q=>by show (Tr.nil:Tr α).getP q=_;simp;rfl
 |false::p,false::q=>by show (newP x p).getP q=_;rw[getP_newP];simp
theorem getP_putP (x:Option α):∀(t:Tr α)(p q:List Bool),(t.putP p x).getP q=if q=p then x else t.getP q:=by
 intro t
 induction t with
 |nil=>intro p q;show (newK x p id).getP q=_;rw[newK_eq];exact getP_newP x p q
 |node l v r ihl ihr=>
  intro p q
  match p,q with
  |[],[]=>rfl
  |[],true::q=>rfl
  |[],false::q=>rfl
  |true::p,[]=>show (putPK l x p (fun l'=>id (Tr.node l' v r))).getP []=_;rw[putPK_eq];rfl
  |true::p,true::q=>
   show (putPK l x p (fun l'=>id (Tr.node l' v r))).getP (true::q)=_
   rw[putPK_eq]
   show (l.putP p x).getP q=_
   rw[ihl]
   show _=if true::q=true::p then x else l.getP q
   simp
  |true::p,false::q=>
   show (putPK l x p (fun l'=>id (Tr.node l' v r))).getP (false::q)=_
   rw[putPK_eq]
   show r.getP q=if false::q=true::p then x else r.getP q
   simp
  |false::p,[]=>show (putPK r x p (fun r'=>id (Tr.node l v r'))).getP []=_;rw[putPK_eq];rfl
  |false::p,true::q=>
   show (putPK r x p (fun r'=>id (Tr.node l v r'))).getP (true::q)=_
   rw[putPK_eq]
   show l.getP q=if true::q=false::p then x else l.getP q
   simp
  |false::p,false::q=>
   show (putPK r x p (fun r'=>id (Tr.node l v r'))).getP (false::q)=_
   rw[putPK_eq]
   show (r.putP p x).getP q=_
   rw[ihr]
   show _=if false::q=false::p then x else r.getP q
   simp
theorem get_put (x:Option α)(t:Tr α) (n m:Nat):(t.put n x).get m=if m=n then x else t.get m:=by
 unfold get put
 rw[getP_putP]
 by_cases h:m=n
 ·subst h;simp
 ·rw[if_neg h,if_neg fun e=>h (path_inj e)]
end Tr
def fN {β:Type}(n:Nat)(k:Nat→β):β:=Nat.rec (motive:=fun _=>β) (k 0) (fun m _=>k (Nat.succ m)) n
theorem fN_eq {β:Type}(n:Nat)(k:Nat→β):fN n k=k n:=by cases n <;> rfl
def fI {β:Type}(n:Int)(k:Int→β):β:=Int.rec (motive:=fun _=>β) (fun a=>fN a fun a=>k (Int.ofNat a)) (fun a=>fN a fun a=>k (Int.negSucc a)) n
theorem fI_eq {β:Type}(n:Int)(k:Int→β):fI n k=k n:=by
 cases n with
 |ofNat a=>exact fN_eq a fun a=>k (Int.ofNat a)
 |negSucc a=>exact fN_eq a fun a=>k (Int.negSucc a)
end
end Go.Ev
namespace Go.Ev
inductive AV where
 |bool (b:Bool)
 |int (k:IntKind) (n:Int)
 |str (len n:Nat)
 |bs (b:ByteArray)
 |ptr0
 |ptr (i o:Nat)
 |ip (cs:List AV)
 |sl0
 |sl (i o len cap:Nat) (opn:Bool)
 |fz (es:Nat) (full:Bool) (xs:List AV)
 |map0
 |map (i:Nat)
 |func (fn:FuncId) (first captured:List AV)
 |nilFunc
 |iface (t:TypeId) (v:AV)
 |nilIface
 |agg (l:List AV)
 |tup (l:List AV)
 |opq (n:Nat)
 |yld (i:Nat)
structure Sg where
 blk:Nat→Option Nat
 cap:Nat→Nat
 opq:Nat→Value
 imm:Nat→Option (List Value)
def strL (len n:Nat):List UInt8:=(List.range len).map fun i=>UInt8.ofNat (n / 256 ^ i % 256)
def strB (len n:Nat):ByteArray:=⟨(strL len n).toArray⟩
def Rows (es:Nat):List Value→List Value→Prop
 |[],_=>True
 |X::L,C=>X.cells.toList=C.take es∧X.cells.size=es∧Rows es L (C.drop es)
mutual
def Rel (σ:Sg):AV→Value→Prop
 |.bool b,V=>V=.bool b
 |.int k n,V=>V=.int k n
 |.str l n,V=>n<256 ^ l∧V=.string (strB l n)
 |.bs b,V=>V=.string b
 |.ptr0,V=>V=.pointer none
 |.ip cs,V=>∃b o C L,V=.pointer (some ⟨b,o,none⟩)∧σ.imm b=some C∧RelL σ cs L∧L=(C.drop o).take L.length
 |.ptr i o,V=>∃b,σ.blk i=some b∧V=.pointer (some ⟨b,o,none⟩)
 |.sl0,V=>V=.slice none 0 0
 |.sl i o l c opn,V=>∃b,σ.blk i=some b∧V=.slice (some ⟨b,o,none⟩) l (if opn then σ.cap i-c else c)∧l≤(if opn then σ.cap i-c else c)
 |.fz es full xs,V=>∃a cap,V=.slice a xs.length cap∧xs.length≤cap∧(full=true→cap=xs.length)∧(a=none→cap=0)∧(0<xs.length→∃b o C L,a=some ⟨b,o,none⟩∧σ.imm b=some C∧RelL σ xs L∧Rows es L (C.drop o))
 |.map0,V=>V=.map none
 |.map i,V=>∃b,σ.blk i=some b∧V=.map (some b)
 |.yld i,V=>∃b,σ.blk i=some b∧V=.func (.yield b) #[] #[]
 |.func f a c,V=>∃A C,V=.func (.func f) (List.toArray A) (List.toArray C)∧RelL σ a A∧RelL σ c C
 |.nilFunc,V=>V=.nilFunc
 |.iface t v,V=>∃U,V=.iface t U∧Rel σ v U
 |.nilIface,V=>V=.nilIface
 |.agg l,V=>∃L,V=.agg (List.toArray L)∧RelL σ l L
 |.tup l,V=>∃L,V=.tuple (List.toArray L)∧RelL σ l L
 |.opq n,V=>V=σ.opq n∧V.oneCell'=true∧(n=0→∃m,V=.int .i64 m)
def RelL (σ:Sg):List AV→List Value→Prop
 |[],L=>L=[]
 |a::l,L=>∃V L',L=V::L'∧Rel σ a V∧RelL σ l L'
end
structure Sg.Le (σ τ:Sg):Prop where
 blk:∀i b,σ.blk i=some b→τ.blk i=some b∧τ.cap i=σ.cap i
 opq:τ.opq=σ.opq
 imm:∀b C,σ.imm b=some C→τ.imm b=some C
theorem Sg.Le.refl (σ:Sg):σ.Le σ:=⟨fun _ _ h=>⟨h,rfl⟩,rfl,fun _ _ h=>h⟩
theorem Sg.Le.trans {σ τ υ:Sg}(h:σ.Le τ)(g:τ.Le υ):σ.Le υ:=
 ⟨fun i b e=>⟨(g.blk i b (h.blk i b e).1).1,(g.blk i b (h.blk i b e).1).2.trans (h.blk i b e).2⟩,g.opq.trans h.opq,fun b C e=>g.imm b C (h.imm b C e)⟩
mutual
theorem Rel.mono {σ τ:Sg}(hl:σ.Le τ):∀(v:AV)(V:Value),Rel σ v V→Rel τ v V
 |.bool b,V,h=>by simpa only[Rel]using h
 |.int k n,V,h=>by simpa only[Rel]using h
 |.str l n,V,h=>by simpa only[Rel]using h
 |.bs b,V,h=>by simpa only[Rel]using h
 |.ptr0,V,h=>by simpa only[Rel]using h
 |.ip cs,V,h=>by
  simp only[Rel]at h ⊢
  obtain⟨b,o,C,L,e,h1,h2,h3⟩:=h
  exact⟨b,o,C,L,e,hl.imm b C h1,RelL.mono hl cs L h2,h3⟩
 |.fz es full xs,V,h=>by
  simp only[Rel]at h ⊢
  obtain⟨a,cap,e,h1,h2,h4,h3⟩:=h
  refine⟨a,cap,e,h1,h2,h4,fun hx=>?_⟩
  obtain⟨b,o,C,L,e1,h1,h2,h3⟩:=h3 hx
  exact⟨b,o,C,L,e1,hl.imm b C h1,RelL.mono hl xs L h2,h3⟩
 |.yld i,V,h=>by
  simp only[Rel]at h ⊢
  obtain⟨b,hb,e⟩:=h
  exact⟨b,(hl.blk i b hb).1,e⟩
 |.ptr i o,V,h=>by
  simp only[Rel]at h ⊢
  obtain⟨b,hb,e⟩:=h
  exact⟨b,(hl.blk i b hb).1,e⟩
 |.sl0,V,h=>by simpa only[Rel]using h
 |.sl i o l c opn,V,h=>by
  simp only[Rel]at h ⊢
  obtain⟨b,hb,e⟩:=h
  exact⟨b,(hl.blk i b hb).1,by rw[(hl.blk i b hb).2];exact e⟩
 |.map0,V,h=>by simpa only[Rel]using h
 |.map i,V,h=>by
  simp only[Rel]at h ⊢
  obtain⟨b,hb,e⟩:=h
  exact⟨b,(hl.blk i b hb).1,e⟩
 |.func f a c,V,h=>by
  simp only[Rel]at h ⊢
  obtain⟨A,C,e,ha,hc⟩:=h
  exact⟨A,C,e,RelL.mono hl a A ha,RelL.mono hl c C hc⟩
 |.nilFunc,V,h=>by simpa only[Rel]using h
 |.iface t v,V,h=>by
  simp only[Rel]at h ⊢
  obtain⟨U,e,hu⟩:=h
  exact⟨U,e,Rel.mono hl v U hu⟩
 |.nilIface,V,h=>by simpa only[Rel]using h
 |.agg l,V,h=>by
  simp only[Rel]at h ⊢
  obtain⟨L,e,hc⟩:=h
  exact⟨L,e,RelL.mono hl l L hc⟩
 |.tup l,V,h=>by
  simp only[Rel]at h ⊢
  obtain⟨L,e,hc⟩:=h
  exact⟨L,e,RelL.mono hl l L hc⟩
 |.opq n,V,h=>by
  simp only[Rel]at h ⊢
  rw[hl.opq];exact h
theorem RelL.mono {σ τ:Sg}(hl:σ.Le τ):∀(l:List AV)(L:List Value),RelL σ l L→RelL τ l L
 |[],L,h=>by simpa only[RelL]using h
 |a::l,L,h=>by
  simp only[RelL]at h ⊢
  obtain⟨V,L',e,h1,h2⟩:=h
  exact⟨V,L',e,Rel.mono hl a V h1,RelL.mono hl l L' h2⟩
end
theorem RelL.length {σ:Sg}:∀{l:List AV}{L:List Value},RelL σ l L→L.length=l.length
 |[],L,h=>by simp only[RelL]at h;subst h;rfl
 |a::l,L,h=>by
  simp only[RelL]at h
  obtain⟨V,L',e,_,h2⟩:=h
  subst e
  simp[h2.length]
theorem RelL.get {σ:Sg}:∀{l:List AV}{L:List Value}{k:Nat}{v:AV},RelL σ l L→l[k]?=some v→∃V,L[k]?=some V∧Rel σ v V
 |[],L,k,v,_,h=>by simp at h
 |a::l,L,k,v,h,hk=>by
  simp only[RelL]at h
  obtain⟨V,L',e,h1,h2⟩:=h
  subst e
  cases k with
  |zero=>simp at hk;subst hk;exact⟨V,rfl,h1⟩
  |succ k=>simpa using h2.get (by simpa using hk)
theorem RelL.append {σ:Sg}:∀{l m:List AV}{L M:List Value},RelL σ l L→RelL σ m M→RelL σ (l++m) (L++M)
 |[],m,L,M,h,g=>by simp only[RelL]at h;subst h;exact g
 |a::l,m,L,M,h,g=>by
  simp only[RelL]at h
  obtain⟨V,L',e,h1,h2⟩:=h
  subst e
  show RelL σ (a::(l++m)) (V::L'++M)
  simp only[RelL]
  exact⟨V,L'++M,rfl,h1,h2.append g⟩
theorem RelL.take {σ:Sg}:∀{l:List AV}{L:List Value},RelL σ l L→∀n,RelL σ (l.take n) (L.take n)
 |[],L,h,n=>by simp only[RelL]at h;subst h;simp only[List.take_nil,RelL]
 |a::l,L,h,0=>by simp only[List.take_zero,RelL]
 |a::l,L,h,n+1=>by
  simp only[RelL]at h
  obtain⟨V,L',e,h1,h2⟩:=h
  subst e
  simp only[List.take_succ_cons,RelL]
  exact⟨V,_,rfl,h1,h2.take n⟩
theorem RelL.drop {σ:Sg}:∀{l:List AV}{L:List Value},RelL σ l L→∀n,RelL σ (l.drop n) (L.drop n)
 |[],L,h,n=>by simp only[RelL]at h;subst h;simp only[List.drop_nil,RelL]
 |a::l,L,h,0=>by simpa only[List.drop_zero]using h
 |a::l,L,h,n+1=>by
  simp only[RelL]at h
  obtain⟨V,L',e,h1,h2⟩:=h
  subst e
  simp only[List.drop_succ_cons]
  exact h2.drop n
theorem RelL.of_get {σ:Sg}:∀{l:List AV}{L:List Value},L.length=l.length→(∀(k:Nat) v V,l[k]?=some v→L[k]?=some V→Rel σ v V)→RelL σ l L
 |[],L,e,_=>by simp only[RelL];exact List.eq_nil_of_length_eq_zero (by simpa using e)
 |a::l,L,e,h=>by
  cases L with
  |nil=>simp at e
  |cons V L'=>
   simp only[RelL]
   exact⟨V,L',rfl,h 0 a V rfl rfl,RelL.of_get (by simpa using e) fun k v V h1 h2=>h (k+1) v V (by simpa using h1) (by simpa using h2)⟩
end Go.Ev
namespace Go.Ev
inductive ABlk where
 |cells (elem:TypeId) (n:Nat) (c:Tr AV) (opn:Bool) (esz:Nat)
 |map (es:List (AV×AV×Nat)) (clock:Nat)
 |loop (st:LoopState) (pend:Option Code) (fn:FuncId) (sz:Nat) (tm:Tr AV) (ps:Array Tmp) (assign body:Code) (db:Nat)
 |dfr
 |miter (i since:Nat) (seen:List Nat) (stepped:Nat)
 |siter (s:ByteArray) (pos:Nat)
def RelE (σ:Sg):List (AV×AV×Nat)→List MapEntry→Prop
 |[],E=>E=[]
 |(k,v,n)::l,E=>∃K V E',E=⟨K,V,n⟩::E'∧Rel σ k K∧Rel σ v V∧RelE σ l E'
theorem RelE.mono {σ τ:Sg}(hl:σ.Le τ):∀{l E},RelE σ l E→RelE τ l E
 |[],E,h=>h
 |(k,v,n)::l,E,h=>by
  simp only[RelE]at h ⊢
  obtain⟨K,V,E',e,h1,h2,h3⟩:=h
  exact⟨K,V,E',e,h1.mono hl,h2.mono hl,h3.mono hl⟩
def RelB (σ:Sg) (i:Nat):ABlk→Obj→Prop
 |.cells e n c opn esz,o=>∃C fr,o=.cells C e fr∧(∀k,k<n→∃v V,c.get k=some v∧C[k]?=some V∧Rel σ v V)∧
   (∀k,k<C.size→¬(fr.1≤k∧k<fr.2))∧(if opn then n≤C.size∧C.size=σ.cap i * esz else C.size=n)
 |.map es cl,o=>∃E,o=.map (List.toArray E) cl∧RelE σ es E
 |.loop st pend _ sz tm ps assign body db,o=>∃T d fn,o=.loop ⟨st,pend,fn,T,ps,assign,body,d⟩∧T.size=sz∧(∀t v,tm.get t=some v→Rel σ v (T.getD t undef))∧σ.blk db=some d
 |.dfr,o=>o=.deferred (some [])
 |.miter i since seen stepped,o=>∃b,σ.blk i=some b∧o=.mapIter (some b) since seen.toArray stepped
 |.siter s pos,o=>o=.stringIter s pos
theorem RelB.mono {σ τ:Sg}(hl:σ.Le τ){i b:Nat}(hb:σ.blk i=some b):∀{B o},RelB σ i B o→RelB τ i B o
 |.cells e n c opn esz,o,h=>by
  simp only[RelB]at h ⊢
  obtain⟨C,fr,e,h1,h2,h3⟩:=h
  refine⟨C,fr,e,fun k hk=>?_,h2,?_⟩
  ·obtain⟨v,V,e1,e2,e3⟩:=h1 k hk
   exact⟨v,V,e1,e2,e3.mono hl⟩
  ·rw[(hl.blk i b hb).2];exact h3
 |.map es cl,o,h=>by
  simp only[RelB]at h ⊢
  obtain⟨E,e,h1⟩:=h
  exact⟨E,e,h1.mono hl⟩
 |.loop st pend fn sz tm ps assign body db,o,h=>by
  simp only[RelB]at h ⊢
  obtain⟨T,d,fn',e,h1,h2,h3⟩:=h
  exact⟨T,d,fn',e,h1,fun t v ht=>(h2 t v ht).mono hl,(hl.blk db d h3).1⟩
 |.dfr,o,h=>by simpa only[RelB]using h
 |.miter i since seen stepped,o,h=>by
  simp only[RelB]at h ⊢
  obtain⟨b,h1,h2⟩:=h
  exact⟨b,(hl.blk i b h1).1,h2⟩
 |.siter s pos,o,h=>by simpa only[RelB]using h
structure Gl where
 n:Nat
 sym:Bool
 tab:Nat→Option (List AV)
structure Ok (G:Gl)(σ:Sg)(h:Tr ABlk) (nx:Nat)(w:World):Prop where
 glob:∀g,g<G.n→σ.blk g=some g
 le:G.n≤nx
 fresh:∀i,nx≤i→σ.blk i=none
 inj:∀i j b B B',h.get i=some B→h.get j=some B'→σ.blk i=some b→σ.blk j=some b→i=j
 blk:∀i B,h.get i=some B→∃b o,σ.blk i=some b∧w.heap[b]?=some o∧RelB σ i B o
 imm:∀b C,σ.imm b=some C→(∃t fr,w.heap[b]?=some (.cells C.toArray t fr))∧∀i B,h.get i=some B→σ.blk i≠some b
 gl:∀g cs,G.tab g=some cs→Rel σ (.ip cs) (.pointer (some ⟨g,0,none⟩))
structure Fr (σ:Sg)(h:Tr ABlk)(w:World)(τ:Sg)(g:Tr ABlk)(x:World):Prop where
 os:x.os=w.os
 tape:x.tape=w.tape
 output:x.output=w.output
 size:w.heap.size≤x.heap.size
 keep:∀b,b<w.heap.size→(∀i B,h.get i=some B→σ.blk i≠some b)→x.heap[b]?=w.heap[b]?
 own:∀i B b,g.get i=some B→τ.blk i=some b→w.heap.size≤b∨∃j B',h.get j=some B'∧σ.blk j=some b
 imm:∀b C,τ.imm b=some C→σ.imm b=some C∨w.heap.size≤b∨∃j B',h.get j=some B'∧σ.blk j=some b
structure Post (G:Gl)(σ:Sg)(h:Tr ABlk) (nx:Nat)(w:World)(τ:Sg)(g:Tr ABlk) (ny:Nat)(x:World):Prop where
 ok:Ok G τ g ny x
 le:σ.Le τ
 fr:Fr σ h w τ g x
 nx:nx≤ny
variable {G : Gl} {σ τ υ : Sg} {h g f : Tr ABlk} {nx ny nz : Nat} {w x y : World}
theorem Post.refl (hk:Ok G σ h nx w):Post G σ h nx w σ h nx w:=
 ⟨hk,.refl σ,⟨rfl,rfl,rfl,Nat.le_refl _,fun _ _ _=>rfl,fun i B b h1 h2=>.inr ⟨i,B,h1,h2⟩,fun _ _ h=>.inl h⟩,Nat.le_refl _⟩
theorem Post.trans (p:Post G σ h nx w τ g ny x)(q:Post G τ g ny x υ f nz y):Post G σ h nx w υ f nz y:=by
 refine⟨q.ok,p.le.trans q.le,⟨q.fr.os.trans p.fr.os,q.fr.tape.trans p.fr.tape,q.fr.output.trans p.fr.output,Nat.le_trans p.fr.size q.fr.size,?_,?_,?_⟩,Nat.le_trans p.nx q.nx⟩
 ·intro b hb hn
  rw[q.fr.keep b (Nat.lt_of_lt_of_le hb p.fr.size) ?_]
  ·exact p.fr.keep b hb hn
  ·intro i B hi hbi
   rcases p.fr.own i B b hi hbi with h1 |⟨j,B',hj,hbj⟩
   ·omega
   ·exact hn j B' hj hbj
 ·intro i B b hi hbi
  rcases q.fr.own i B b hi hbi with h1 |⟨j,B',hj,hbj⟩
  ·exact .inl (Nat.le_trans p.fr.size h1)
  ·exact p.fr.own j B' b hj hbj
 ·intro b C hb
  rcases q.fr.imm b C hb with h1 |h1 |⟨j,B',hj,hbj⟩
  ·exact p.fr.imm b C h1
  ·exact .inr (.inl (Nat.le_trans p.fr.size h1))
  ·exact .inr (p.fr.own j B' b hj hbj)
theorem lt_of_heap {b:Nat}{o:Obj}(h:w.heap[b]?=some o):b<w.heap.size:=by
 rcases Nat.lt_or_ge b w.heap.size with h1 |h1
 ·exact h1
 ·rw[Array.getElem?_eq_none h1]at h;cases h
theorem Ok.lt (hk:Ok G σ h nx w){i:Nat}{B:ABlk}(hi:h.get i=some B):i<nx:=by
 obtain⟨b,o,hb,_⟩:=hk.blk i B hi
 rcases Nat.lt_or_ge i nx with h1 |h1
 ·exact h1
 ·rw[hk.fresh i h1]at hb;cases hb
theorem Ok.blt (hk:Ok G σ h nx w){i b:Nat}{B:ABlk}(hi:h.get i=some B)(hb:σ.blk i=some b):b<w.heap.size:=by
 obtain⟨b',o,hb',ho,_⟩:=hk.blk i B hi
 rw[hb]at hb'
 cases hb'
 rcases Nat.lt_or_ge b w.heap.size with h1 |h1
 ·exact h1
 ·rw[Array.getElem?_eq_none h1]at ho;cases ho
def Sg.add (σ:Sg) (i b c:Nat):Sg:={ σ with blk:=fun k=>if k=i then some b else σ.blk k,cap:=fun k=>if k=i then c else σ.cap k }
theorem Sg.add_le {i b c:Nat}(hn:σ.blk i=none):σ.Le (σ.add i b c):=by
 refine⟨fun k b' hk=>?_,rfl,fun _ _ h=>h⟩
 have:k≠i:=fun e=>by rw[e,hn]at hk;cases hk
 simp[Sg.add,this,hk]
theorem Post.drawn (hk:Ok G σ h nx w) (n:Nat):Post G σ h nx w σ h nx { w with drawn:=n }:=
 ⟨⟨hk.glob,hk.le,hk.fresh,hk.inj,hk.blk,hk.imm,hk.gl⟩,.refl σ,⟨rfl,rfl,rfl,Nat.le_refl _,fun _ _ _=>rfl,fun i B b h1 h2=>.inr ⟨i,B,h1,h2⟩,fun _ _ h=>.inl h⟩,Nat.le_refl _⟩
theorem Post.erase (hk:Ok G σ h nx w) (i:Nat):Post G σ h nx w σ (h.put i none) nx w:=by
 have hs:∀j B,(h.put i none).get j=some B→h.get j=some B:=by
  intro j B hj
  rw[Tr.get_put]at hj
  split at hj
  ·cases hj
  ·exact hj
 exact⟨⟨hk.glob,hk.le,hk.fresh,fun a b c B B' h1 h2=>hk.inj a b c B B' (hs _ _ h1) (hs _ _ h2),fun a B h1=>hk.blk a B (hs _ _ h1),fun b C hb=>⟨(hk.imm b C hb).1,fun j B hj=>(hk.imm b C hb).2 j B (hs _ _ hj)⟩,hk.gl⟩,.refl σ,
  ⟨rfl,rfl,rfl,Nat.le_refl _,fun _ _ _=>rfl,fun a B b h1 h2=>.inr ⟨a,B,hs _ _ h1,h2⟩,fun _ _ h=>.inl h⟩,Nat.le_refl _⟩
theorem Post.alloc (hk:Ok G σ h nx w) (c:Nat)(B:ABlk)(o:Obj)(hB:RelB (σ.add nx w.heap.size c) nx B o):
  Post G σ h nx w (σ.add nx w.heap.size c) (h.put nx (some B)) (nx+1) { w with heap:=w.heap.push o }:=by
 have hle:σ.Le (σ.add nx w.heap.size c):=Sg.add_le (hk.fresh nx (Nat.le_refl _))
 have hin:∀i B',h.get i=some B'→i≠nx:=fun i B' hi e=>by have:=hk.lt hi;omega
 refine⟨⟨fun a ha=>?_,by have:=hk.le;omega,fun i hi=>?_,fun i j b B1 B2 h1 h2 h3 h4=>?_,fun i B1 h1=>?_,fun b C hb=>?_,fun g cs hg=>(hk.gl g cs hg).mono hle⟩,hle,⟨rfl,rfl,rfl,by simp,fun b hb _=>?_,fun i B1 b h1 h2=>?_,fun _ _ h=>.inl h⟩,by omega⟩
 ·have:a≠nx:=by have:=hk.le;omega
  simp[Sg.add,this,hk.glob a ha]
 ·have:i≠nx:=by omega
  simp[Sg.add,this,hk.fresh i (by omega)]
 ·rw[Tr.get_put]at h1 h2
  have hnew:∀k B',(if k=nx then some B else h.get k)=some B'→k≠nx→(σ.add nx w.heap.size c).blk k=some b→h.get k=some B'∧σ.blk k=some b∧b<w.heap.size:=by
   intro k B' hh hne hb
   rw[if_neg hne]at hh
   have hb':σ.blk k=some b:=by simpa[Sg.add,hne]using hb
   exact⟨hh,hb',hk.blt hh hb'⟩
  by_cases e1:i=nx <;> by_cases e2:j=nx
  ·omega
  ·obtain⟨_,_,hlt⟩:=hnew j B2 h2 e2 h4
   have:b=w.heap.size:=by subst e1;simpa[Sg.add]using h3.symm
   omega
  ·obtain⟨_,_,hlt⟩:=hnew i B1 h1 e1 h3
   have:b=w.heap.size:=by subst e2;simpa[Sg.add]using h4.symm
   omega
  ·obtain⟨a1,a2,_⟩:=hnew i B1 h1 e1 h3
   obtain⟨c1,c2,_⟩:=hnew j B2 h2 e2 h4
   exact hk.inj i j b B1 B2 a1 c1 a2 c2
 ·rw[Tr.get_put]at h1
  by_cases e:i=nx
  ·rw[if_pos e]at h1
   cases h1
   subst e
   exact⟨w.heap.size,o,by simp[Sg.add],by simp,hB⟩
  ·rw[if_neg e]at h1
   obtain⟨b,o',hb,ho,hr⟩:=hk.blk i B1 h1
   refine⟨b,o',(hle.blk i b hb).1,?_,hr.mono hle hb⟩
   have:=hk.blt h1 hb
   rw[Array.getElem?_push_lt this]
   rw[Array.getElem?_eq_getElem this]at ho
   exact ho
 ·obtain⟨⟨t,fr,h1⟩,h2⟩:=hk.imm b C hb
  have hlt:b<w.heap.size:=lt_of_heap h1
  refine⟨⟨t,fr,?_⟩,fun i B' hi e=>?_⟩
  ·rw[Array.getElem?_push_lt hlt,← Array.getElem?_eq_getElem hlt];exact h1
  ·rw[Tr.get_put]at hi
   by_cases e':i=nx
   ·subst e'
    have:b=w.heap.size:=by simpa[Sg.add]using e.symm
    omega
   ·rw[if_neg e']at hi
    exact h2 i B' hi (by simpa[Sg.add,e']using e)
 ·rw[Array.getElem?_push_lt hb,Array.getElem?_eq_getElem hb]
 ·rw[Tr.get_put]at h1
  by_cases e:i=nx
  ·subst e
   have:b=w.heap.size:=by simpa[Sg.add]using h2.symm
   exact .inl (by omega)
  ·rw[if_neg e]at h1
   exact .inr ⟨i,B1,h1,by simpa[Sg.add,e]using h2⟩
theorem Post.set (hk:Ok G σ h nx w){i b:Nat}{B0:ABlk}(hi:h.get i=some B0)(hb:σ.blk i=some b)(B:ABlk)(o:Obj)(hB:RelB σ i B o):
  Post G σ h nx w σ (h.put i (some B)) nx { w with heap:=w.heap.setIfInBounds b o }:=by
 have hlt:=hk.blt hi hb
 have hs:∀j B',(h.put i (some B)).get j=some B'→∃B'',h.get j=some B'':=by
  intro j B' hj
  rw[Tr.get_put]at hj
  by_cases e:j=i
  ·subst e;exact⟨B0,hi⟩
  ·rw[if_neg e]at hj;exact⟨B',hj⟩
 refine⟨⟨hk.glob,hk.le,hk.fresh,fun a c d B1 B2 h1 h2 h3 h4=>?_,fun a B1 h1=>?_,fun d C hd=>⟨?_,fun a B1 h1 e=>?_⟩,hk.gl⟩,.refl σ,⟨rfl,rfl,rfl,by simp,fun c hc hn=>?_,fun a B1 c h1 h2=>?_,fun _ _ h=>.inl h⟩,Nat.le_refl _⟩
 ·obtain⟨C1,g1⟩:=hs a B1 h1
  obtain⟨C2,g2⟩:=hs c B2 h2
  exact hk.inj a c d C1 C2 g1 g2 h3 h4
 ·rw[Tr.get_put]at h1
  by_cases e:a=i
  ·rw[if_pos e]at h1
   cases h1
   subst e
   exact⟨b,o,hb,by simp[hlt],hB⟩
  ·rw[if_neg e]at h1
   obtain⟨b',o',hb',ho,hr⟩:=hk.blk a B1 h1
   refine⟨b',o',hb',?_,hr⟩
   have hne:b≠b':=fun e'=>e (hk.inj a i b B1 B0 h1 hi (e' ▸ hb') hb)
   simp only[Array.getElem?_setIfInBounds]
   rw[if_neg hne];exact ho
 ·obtain⟨⟨t,fr,h1⟩,h2⟩:=hk.imm d C hd
  refine⟨t,fr,?_⟩
  have hne:b≠d:=fun e=>h2 i B0 hi (e ▸ hb)
  simp only[Array.getElem?_setIfInBounds]
  rw[if_neg hne];exact h1
 ·obtain⟨C1,g1⟩:=hs a B1 h1
  exact(hk.imm d C hd).2 a C1 g1 e
 ·have:b≠c:=fun e=>hn i B0 hi (e ▸ hb)
  simp only[Array.getElem?_setIfInBounds]
  rw[if_neg this]
 ·obtain⟨C1,g1⟩:=hs a B1 h1
  exact .inr ⟨a,C1,g1,h2⟩
theorem Post.rename (hk:Ok G σ h nx w){i b:Nat}{B0:ABlk}(hi:h.get i=some B0)(hb:σ.blk i=some b)(B:ABlk)(o:Obj)(ho':w.heap[b]?=some o)(hB:RelB (σ.add nx b (σ.cap i)) nx B o):
  Post G σ h nx w (σ.add nx b (σ.cap i)) ((h.put i none).put nx (some B)) (nx+1) w:=by
 have hle:σ.Le (σ.add nx b (σ.cap i)):=Sg.add_le (hk.fresh nx (Nat.le_refl _))
 have hlt:=hk.lt hi
 have hs:∀j B',((h.put i none).put nx (some B)).get j=some B'→j≠nx→j≠i∧h.get j=some B':=by
  intro j B' hj hn
  rw[Tr.get_put,if_neg hn,Tr.get_put]at hj
  split at hj
  ·cases hj
  ·exact⟨by assumption,hj⟩
 have hold:∀k d,k≠nx→(σ.add nx b (σ.cap i)).blk k=some d→σ.blk k=some d:=fun k d hn hh=>by simpa[Sg.add,hn]using hh
 refine⟨⟨fun a ha=>?_,by have:=hk.le;omega,fun a ha=>?_,fun a c d B1 B2 h1 h2 h3 h4=>?_,fun a B1 h1=>?_,fun d C hd=>⟨(hk.imm d C hd).1,fun a B1 h1 e=>?_⟩,fun g cs hg=>(hk.gl g cs hg).mono hle⟩,hle,⟨rfl,rfl,rfl,Nat.le_refl _,fun _ _ _=>rfl,fun a B1 c h1 h2=>?_,fun _ _ h=>.inl h⟩,by omega⟩
 ·have:a≠nx:=by have:=hk.le;omega
  simp[Sg.add,this,hk.glob a ha]
 ·have:a≠nx:=by omega
  simp[Sg.add,this,hk.fresh a (by omega)]
 ·by_cases e1:a=nx <;> by_cases e2:c=nx
  ·omega
  ·obtain⟨n1,n2⟩:=hs c B2 h2 e2
   have hd:d=b:=by subst e1;simpa[Sg.add]using h3.symm
   exact absurd (hk.inj c i b B2 B0 n2 hi (hd ▸ hold c d e2 h4) hb) n1
  ·obtain⟨n1,n2⟩:=hs a B1 h1 e1
   have hd:d=b:=by subst e2;simpa[Sg.add]using h4.symm
   exact absurd (hk.inj a i b B1 B0 n2 hi (hd ▸ hold a d e1 h3) hb) n1
  ·exact hk.inj a c d B1 B2 (hs a B1 h1 e1).2 (hs c B2 h2 e2).2 (hold a d e1 h3) (hold c d e2 h4)
 ·by_cases e:a=nx
  ·subst e
   rw[Tr.get_put,if_pos rfl]at h1
   cases h1
   exact⟨b,o,by simp[Sg.add],ho',hB⟩
  ·obtain⟨n1,n2⟩:=hs a B1 h1 e
   obtain⟨b',o',hb',ho,hr⟩:=hk.blk a B1 n2
   exact⟨b',o',(hle.blk a b' hb').1,ho,hr.mono hle hb'⟩
 ·by_cases e':a=nx
  ·subst e'
   have:d=b:=by simpa[Sg.add]using e.symm
   exact(hk.imm d C hd).2 i B0 hi (this ▸ hb)
  ·exact(hk.imm d C hd).2 a B1 (hs a B1 h1 e').2 (hold a d e' e)
 ·by_cases e:a=nx
  ·subst e
   have:c=b:=by simpa[Sg.add]using h2.symm
   exact .inr ⟨i,B0,hi,this ▸ hb⟩
  ·exact .inr ⟨a,B1,(hs a B1 h1 e).2,hold a c e h2⟩
end Go.Ev
namespace Go.Ev
variable {P : Program} {G : Gl} {σ τ υ : Sg} {h g f : Tr ABlk} {nx ny nz : Nat} {w x y : World}
theorem run_ti {t:TypeId}{i:TypeInfo}(hi:P.info? t=some i)(w:World):(typeInfo t).run P w=.ok i w:=by simp[typeInfo,hi]
theorem run_size {t:TypeId}{i:TypeInfo}(hi:P.info? t=some i)(w:World):(sizeOf t).run P w=.ok i.size w:=by simp[sizeOf,run_ti hi]
theorem run_zero {t:TypeId}{i:TypeInfo}{z:Value}(hi:P.info? t=some i)(hz:i.zero=some z)(w:World):(zeroValue t).run P w=.ok z w:=by simp[zeroValue,run_ti hi,hz]
theorem addr_add (b o n:Nat):(⟨b,o,none⟩:Addr).add n=⟨b,o+n,none⟩:=by
 unfold Addr.add
 split
 ·rename_i e;subst e;rfl
 ·rfl
theorem Ok.cells (hk:Ok G σ h nx w){i n esz:Nat}{e:TypeId}{c:Tr AV}{opn:Bool}(hi:h.get i=some (.cells e n c opn esz)):
  ∃b C fr,σ.blk i=some b∧w.heap[b]?=some (.cells C e fr)∧(∀k,k<n→∃v V,c.get k=some v∧C[k]?=some V∧Rel σ v V)∧
   (∀k,k<C.size→¬(fr.1≤k∧k<fr.2))∧(if opn then n≤C.size∧C.size=σ.cap i * esz else C.size=n):=by
 obtain⟨b,o,hb,ho,hr⟩:=hk.blk i _ hi
 simp only[RelB]at hr
 obtain⟨C,fr,e,h1,h2,h3⟩:=hr
 subst e
 exact⟨b,C,fr,hb,ho,h1,h2,h3⟩
theorem cell_at {b k:Nat}{C:Array Value}{e:TypeId}{fr:Nat×Nat}(hb:w.heap[b]?=some (.cells C e fr)):w.cell? ⟨b,k,none⟩=C[k]?:=by
 simp[World.cell?,hb]
noncomputable section
def getN (c:Tr AV) (n:Nat):Nat→Option (List AV):=
 Nat.rec (motive:=fun _=>Nat→Option (List AV)) (fun _=>some [])
  (fun _ ih o=>match c.get o with
   |some v=>fN (Nat.succ o) fun o'=>(match ih o' with |some l=>some (v::l) |none=>none)
   |none=>none) n
theorem getN_spec (c:Tr AV):∀(n o:Nat)(l:List AV),getN c n o=some l→l.length=n∧∀k,k<n→c.get (o+k)=l[k]?:=by
 intro n
 induction n with
 |zero=>intro o l e;cases e;exact⟨rfl,fun k hk=>by omega⟩
 |succ n ih=>
  intro o l e
  change (match c.get o with
   |some v=>fN (Nat.succ o) fun o'=>(match getN c n o' with |some l=>some (v::l) |none=>none)
   |none=>none)=some l at e
  cases hv:c.get o with
  |none=>rw[hv]at e;cases e
  |some v=>
   rw[hv]at e
   simp only[fN_eq]at e
   cases hl:getN c n (Nat.succ o) with
   |none=>rw[hl]at e;cases e
   |some l'=>
    rw[hl]at e
    cases e
    obtain⟨h1,h2⟩:=ih _ _ hl
    refine⟨by simp[h1],fun k hk=>?_⟩
    cases k with
    |zero=>simpa using hv
    |succ k=>
     have:=h2 k (by omega)
     rw[show o+(k+1)=Nat.succ o+k by omega,this]
     simp
def putNK {β:Type}(l:List AV):Tr AV→Nat→(Tr AV→β)→β:=
 List.rec (motive:=fun _=>Tr AV→Nat→(Tr AV→β)→β) (fun c _ k=>k c)
  (fun v _ ih c o k=>c.putK (some v) o fun c'=>fN (Nat.succ o) fun o'=>ih c' o' k) l
def putN:List AV→Tr AV→Nat→Tr AV
 |[],c,_=>c
 |v::l,c,o=>putN l (c.put o (some v)) (o+1)
theorem putNK_eq {β:Type}:∀(l:List AV)(c:Tr AV) (o:Nat)(k:Tr AV→β),putNK l c o k=k (putN l c o)
 |[],c,o,k=>rfl
 |v::l,c,o,k=>by
  show (c.putK (some v) o fun c'=>fN (Nat.succ o) fun o'=>putNK l c' o' k)=_
  rw[Tr.putK_eq,fN_eq,putNK_eq]
  rfl
theorem get_putN:∀(l:List AV)(c:Tr AV) (o k:Nat),(putN l c o).get k=if o≤k∧k<o+l.length then l[k-o]? else c.get k
 |[],c,o,k=>by simp[putN];omega
 |v::l,c,o,k=>by
  rw[putN,get_putN]
  by_cases h1:o+1≤k∧k<o+1+l.length
  ·rw[if_pos h1,if_pos (by simp;omega)]
   rw[show k-o=(k-(o+1))+1 by omega]
   simp
  ·rw[if_neg h1,Tr.get_put]
   by_cases h2:k=o
   ·subst h2
    rw[if_pos rfl,if_pos (by simp)]
    simp
   ·rw[if_neg h2,if_neg (by simp;omega)]
end
def setN:List Value→Array Value→Nat→Array Value
 |[],C,_=>C
 |v::l,C,o=>setN l (C.setIfInBounds o v) (o+1)
theorem setN_size:∀(l:List Value)(C:Array Value) (o:Nat),(setN l C o).size=C.size
 |[],C,o=>rfl
 |v::l,C,o=>by rw[setN,setN_size];simp
theorem get_setN:∀(l:List Value)(C:Array Value) (o k:Nat),o+l.length≤C.size→(setN l C o)[k]?=if o≤k∧k<o+l.length then l[k-o]? else C[k]?
 |[],C,o,k,hs=>by simp[setN];omega
 |v::l,C,o,k,hs=>by
  simp at hs
  rw[setN,get_setN _ _ _ _ (by simp;omega)]
  by_cases h1:o+1≤k∧k<o+1+l.length
  ·rw[if_pos h1,if_pos (by simp;omega)]
   rw[show k-o=(k-(o+1))+1 by omega]
   simp
  ·rw[if_neg h1,Array.getElem?_setIfInBounds]
   by_cases h2:k=o
   ·subst h2
    have:k<C.size:=by omega
    simp[this]
   ·rw[if_neg (fun e=>h2 e.symm),if_neg (by simp;omega)]
def wset (w:World) (b:Nat)(o:Obj):World:={ w with heap:=w.heap.setIfInBounds b o }
theorem wset_wset (w:World) (b:Nat)(o p:Obj):wset (wset w b o) b p=wset w b p:=by
 simp[wset]
theorem wset_get {b:Nat}{o p:Obj}(hb:w.heap[b]?=some p):(wset w b o).heap[b]?=some o:=by
 have:b<w.heap.size:=by
  rcases Nat.lt_or_ge b w.heap.size with h1 |h1
  ·exact h1
  ·rw[Array.getElem?_eq_none h1]at hb;cases hb
 simp[wset,this]
theorem wset_same {b:Nat}{o:Obj}(hb:w.heap[b]?=some o):wset w b o=w:=by
 have hlt:b<w.heap.size:=by
  rcases Nat.lt_or_ge b w.heap.size with h1 |h1
  ·exact h1
  ·rw[Array.getElem?_eq_none h1]at hb;cases hb
 have:w.heap.setIfInBounds b o=w.heap:=by
  apply Array.ext_getElem?
  intro k
  rw[Array.getElem?_setIfInBounds]
  split
  ·rename_i e;subst e;rw[hb]
  ·rfl
 simp[wset,this]
theorem run_store1 {b k:Nat}{C:Array Value}{e:TypeId}{fr:Nat×Nat}{V:Value}(hb:w.heap[b]?=some (.cells C e fr))(hk:k<C.size)(hf:¬(fr.1≤k∧k<fr.2))(h1:V.oneCell'=true):
  (store ⟨b,k,none⟩ V).run P w=.ok () (wset w b (.cells (C.setIfInBounds k V) e fr)):=by
 rw[run_store P w _ V .plain h1]
 have hc:w.cell? ⟨b,k,none⟩=some C[k]:=by rw[cell_at hb];simp[hk]
 have hfz:w.frozen? ⟨b,k,none⟩=false:=by
  simp only[World.frozen?,hb]
  simp only[not_and,Nat.not_lt]at hf
  cases e1:decide (fr.1≤k) with
  |false=>simp
  |true=>simp[hf (of_decide_eq_true e1)]
 simp only[hc,hfz]
 have hlt:b<w.heap.size:=by
  rcases Nat.lt_or_ge b w.heap.size with h1 |h1
  ·exact h1
  ·rw[Array.getElem?_eq_none h1]at hb;cases hb
 have hset:w.setCell ⟨b,k,none⟩ V=wset w b (.cells (C.setIfInBounds k V) e fr):=by
  unfold World.setCell wset
  congr 1
  apply Array.ext_getElem?
  intro j
  rw[Array.getElem?_modify,Array.getElem?_setIfInBounds]
  by_cases ej:b=j
  ·subst ej
   rw[if_pos rfl,if_pos rfl,if_pos hlt,hb]
   simp
  ·rw[if_neg ej,if_neg ej]
 simp[hset]
theorem run_storeN {b o:Nat}{e:TypeId}{fr:Nat×Nat}:∀(vs:List Value) (i:Nat)(C:Array Value)(w:World),w.heap[b]?=some (.cells C e fr)→o+i+vs.length≤C.size→
  (∀k,k<C.size→¬(fr.1≤k∧k<fr.2))→(∀v∈vs,v.oneCell'=true)→(storeCells ⟨b,o,none⟩ vs i).run P w=.ok () (wset w b (.cells (setN vs C (o+i)) e fr))
 |[],i,C,w,hb,_,_,_=>by simp[storeCells,setN,wset_same hb]
 |v::vs,i,C,w,hb,hs,hf,h1=>by
  simp only[List.length_cons]at hs
  rw[storeCells,Sem.run_bind,addr_add,run_store1 hb (by omega) (hf _ (by omega)) (h1 v (by simp))]
  show (storeCells ⟨b,o,none⟩ vs (i+1)).run P _=_
  rw[run_storeN vs (i+1) (C.setIfInBounds (o+i) v) _ (wset_get hb) (by simp;omega) (by simpa using hf) fun u hu=>h1 u (by simp[hu]),wset_wset]
  rfl
end Go.Ev
namespace Go.Ev
inductive TI where
 |mk (d:TypeDesc) (size bytes:Nat) (zero:Option AV) (fs:List (Nat×Nat×Bool))
def isA:TypeDesc→Bool
 |.struct _=>true
 |.array _ _=>true
 |_=>false
def TF (P:Program)(t:TypeId) (s:Nat)(b:Bool):Prop:=(∃i,P.info? t=some i∧i.size=s)∧∃d,P.underlying t=some d∧isA d=b
def TIok (P:Program)(t:TypeId):TI→Prop
 |.mk d size bytes zero fs=>P.underlying t=some d∧∃i,P.info? t=some i∧i.size=size∧i.bytes=bytes∧
   (∀z,zero=some z→∃Z,i.zero=some Z∧(∀σ,Rel σ z Z)∧Z.cells.size=size)∧
   (∀fields:Array Field,d=.struct fields→∀(k o s:Nat) (b:Bool),fs[k]?=some (o,s,b)→∃f:Field,fields[k]?=some f∧f.offset=o∧TF P f.type s b)∧
   (∀fields:Array Field,d=.struct fields→fs.length=fields.size)∧
   (∀e,(d=.slice e∨(∃n,d=.array n e)∨d=.pointer e)→∀o s b,fs[0]?=some (o,s,b)→TF P e s b)
inductive R where
 |val (v:AV) (h:Tr ABlk) (nx:Nat)
 |unit (h:Tr ABlk) (nx:Nat)
 |fail
theorem run_agg {P:Program}{t:TypeId}{d:TypeDesc}(hd:P.underlying t=some d)(w:World):(isAgg t).run P w=.ok (isA d) w:=by
 cases d <;> simp[isAgg,run_underlying hd,isA]
section
variable (P : Program) (G : Gl) (σ : Sg) (h : Tr ABlk) (nx : Nat) (w : World)
def SV (m:Sem Value)(v:AV)(g:Tr ABlk) (ny:Nat):Prop:=∃V τ x,m.run P w=.ok V x∧Rel τ v V∧Post G σ h nx w τ g ny x
def SU (m:Sem Unit)(g:Tr ABlk) (ny:Nat):Prop:=∃τ x,m.run P w=.ok () x∧Post G σ h nx w τ g ny x
def RV (m:Sem Value):R→Prop
 |.val v g ny=>SV P G σ h nx w m v g ny
 |.unit _ _=>False
 |.fail=>True
def RU (m:Sem Unit):R→Prop
 |.val _ _ _=>False
 |.unit g ny=>SU P G σ h nx w m g ny
 |.fail=>True
end
variable {P : Program} {G : Gl} {σ τ υ : Sg} {h g f : Tr ABlk} {nx ny nz : Nat} {w x y : World}
theorem SV.pure (hk:Ok G σ h nx w){m:Sem Value}{v:AV}{V:Value}(hm:m.run P w=.ok V w)(hr:Rel σ v V):SV P G σ h nx w m v h nx:=
 ⟨V,σ,w,hm,hr,.refl hk⟩
def AV.cells:AV→List AV
 |.agg l=>l
 |v=>[v]
theorem Rel.cells {v:AV}{V:Value}(hr:Rel σ v V):RelL σ v.cells V.cells.toList:=by
 have one:∀{v:AV} {V:Value},Rel σ v V→V.cells=#[V]→RelL σ [v] V.cells.toList:=by
  intro v V hr e
  rw[e]
  simp only[RelL]
  exact⟨V,[],rfl,hr,rfl⟩
 cases v with
 |agg l=>
  simp only[Rel]at hr
  obtain⟨L,e,hl⟩:=hr
  subst e
  exact hl
 |opq n=>
  have h2:=hr
  simp only[Rel]at h2
  refine one hr ?_
  cases V <;> first |rfl |(exfalso;have:=h2.2.1;simp[Value.oneCell']at this)
 |_=>
  refine one hr ?_
  simp only[Rel]at hr
  first
   |(subst hr;rfl)
   |(obtain⟨_,e⟩:=hr;subst e;rfl)
   |(obtain⟨_,_,e⟩:=hr;subst e;rfl)
   |(obtain⟨_,e,_⟩:=hr;subst e;rfl)
   |(obtain⟨_,_,e,_⟩:=hr;subst e;rfl)
   |(obtain⟨_,_,_,_,e,_⟩:=hr;subst e;rfl)
def AV.one:AV→Bool
 |.agg _=>false
 |.tup _=>false
 |_=>true
theorem Rel.one {v:AV}{V:Value}(hr:Rel σ v V)(h1:v.one=true):V.oneCell'=true:=by
 cases v with
 |agg l=>simp[AV.one]at h1
 |tup l=>simp[AV.one]at h1
 |opq n=>simp only[Rel]at hr;exact hr.2.1
 |_=>
  simp only[Rel]at hr
  first
   |(subst hr;rfl)
   |(obtain⟨_,e⟩:=hr;subst e;rfl)
   |(obtain⟨_,_,e⟩:=hr;subst e;rfl)
   |(obtain⟨_,e,_⟩:=hr;subst e;rfl)
   |(obtain⟨_,_,e,_⟩:=hr;subst e;rfl)
   |(obtain⟨_,_,_,_,e,_⟩:=hr;subst e;rfl)
noncomputable section
def allOne (l:List AV):Bool:=List.rec (motive:=fun _=>Bool) true (fun v _ ih=>match v.one with |true=>ih |false=>false) l
theorem allOne_spec:∀{l:List AV}{L:List Value},allOne l=true→RelL σ l L→∀V∈L,V.oneCell'=true
 |[],L,_,hr,V,hV=>by simp only[RelL]at hr;subst hr;cases hV
 |v::l,L,ha,hr,V,hV=>by
  change (match v.one with |true=>allOne l |false=>false)=true at ha
  simp only[RelL]at hr
  obtain⟨U,L',e,h1,h2⟩:=hr
  subst e
  cases hv:v.one with
  |false=>rw[hv]at ha;cases ha
  |true=>
   rw[hv]at ha
   rcases List.mem_cons.1 hV with e |e
   ·subst e;exact h1.one hv
   ·exact allOne_spec ha h2 V e
def newK (t:TypeId)(l:List AV)(h:Tr ABlk) (nx:Nat)(mk:Nat→AV):R:=
 putNK l .nil 0 fun c=>fN l.length fun n=>h.putK (some (.cells t n c false 0)) nx fun h'=>fN (Nat.succ nx) fun nx'=>.val (mk nx) h' nx'
theorem new_ok (hk:Ok G σ h nx w)(t:TypeId){l:List AV}{L:List Value}(hl:RelL σ l L):
  Post G σ h nx w (σ.add nx w.heap.size 0) (h.put nx (some (.cells t l.length (putN l .nil 0) false 0))) (nx+1) { w with heap:=w.heap.push (.cells L.toArray t) }:=by
 refine Post.alloc hk 0 _ _ ?_
 have hle:σ.Le (σ.add nx w.heap.size 0):=Sg.add_le (hk.fresh nx (Nat.le_refl _))
 simp only[RelB]
 refine⟨L.toArray,(0,0),rfl,fun k hk'=>?_,fun k _=>by omega,?_⟩
 ·obtain⟨v,hv⟩:∃v,l[k]?=some v:=⟨l[k],by simp[hk']⟩
  obtain⟨V,h1,h2⟩:=hl.get hv
  refine⟨v,V,?_,by simpa using h1,h2.mono hle⟩
  rw[get_putN,if_pos (by omega)]
  simpa using hv
 ·simp[hl.length]
theorem newK_ok (hk:Ok G σ h nx w)(t:TypeId){l:List AV}{L:List Value}(hl:RelL σ l L){mk:Nat→AV}{m:Sem Value}{V:Value}
  (hm:m.run P w=.ok V { w with heap:=w.heap.push (.cells L.toArray t) }) (hr:Rel (σ.add nx w.heap.size 0) (mk nx) V):RV P G σ h nx w m (newK t l h nx mk):=by
 simp only[newK,putNK_eq,fN_eq,Tr.putK_eq,RV]
 exact⟨V,_,_,hm,hr,new_ok hk t hl⟩
def evBox (t:TypeId)(v:AV)(h:Tr ABlk) (nx:Nat):R:=newK t v.cells h nx fun i=>.ptr i 0
theorem evBox_ok (hk:Ok G σ h nx w)(t:TypeId){v:AV}{V:Value}(hr:Rel σ v V):RV P G σ h nx w (Instr.box t V) (evBox t v h nx):=by
 refine newK_ok hk t hr.cells (V:=.pointer (some ⟨w.heap.size,0,none⟩)) ?_ ?_
 ·simp[Instr.box,newVar,newRow,newObj,Sem.run]
 ·simp only[Rel]
  exact⟨w.heap.size,by simp[Sg.add],rfl⟩
def evAlloc (ti:TI)(t:TypeId)(h:Tr ABlk) (nx:Nat):R:=
 match ti with
 |.mk _ _ _ (some z) _=>newK t z.cells h nx fun i=>.ptr i 0
 |_=>.fail
theorem evAlloc_ok (hk:Ok G σ h nx w)(t:TypeId){ti:TI}(ht:TIok P t ti):RV P G σ h nx w (Instr.alloc t true (.tuple #[])) (evAlloc ti t h nx):=by
 cases ti with
 |mk d size bytes zero fs=>
  cases zero with
  |none=>trivial
  |some z=>
   obtain⟨hu,i,hi,_,_,hz,_⟩:=ht
   obtain⟨Z,hZ,hzr,_⟩:=hz z rfl
   show RV P G σ h nx w _ (newK t z.cells h nx fun i=>.ptr i 0)
   refine newK_ok hk t (hzr σ).cells (V:=.pointer (some ⟨w.heap.size,0,none⟩)) ?_ ?_
   ·simp[Instr.alloc,run_zero hi hZ,newVar,newRow,newObj,Sem.run]
   ·simp only[Rel]
    exact⟨w.heap.size,by simp[Sg.add],rfl⟩
def evLoad (ti:TI)(a:AV)(h:Tr ABlk) (nx:Nat):R:=
 match ti with
 |.mk d size _ _ _=>
  match a with
  |.ptr i o=>
   match h.get i with
   |some (.cells _ n c _ _)=>
    match isA d with
    |true=>
     match Nat.ble (Nat.add o size) n with
     |true=>match getN c size o with |some l=>.val (.agg l) h nx |none=>.fail
     |false=>.fail
    |false=>match Nat.ble (Nat.succ o) n with
     |true=>match c.get o with |some v=>.val v h nx |none=>.fail
     |false=>.fail
   |_=>.fail
  |.ip cs=>match isA d with
   |true=>match Nat.ble size cs.length with
    |true=>.val (.agg (cs.take size)) h nx
    |false=>.fail
   |false=>match cs with |v::_=>.val v h nx |[]=>.fail
  |_=>.fail
theorem Ok.ip (hk:Ok G σ h nx w){cs:List AV}{A:Value}(ha:Rel σ (.ip cs) A):∃b o L,A=.pointer (some ⟨b,o,none⟩)∧RelL σ cs L∧∀(k:Nat) V,L[k]?=some V→w.cell? ⟨b,o+k,none⟩=some V:=by
 simp only[Rel]at ha
 obtain⟨b,o,C,L,e,h1,h2,h3⟩:=ha
 refine⟨b,o,L,e,h2,fun k V hk'=>?_⟩
 obtain⟨⟨t,fr,hh⟩,_⟩:=hk.imm b C h1
 rw[cell_at hh]
 rw[h3,List.getElem?_take]at hk'
 split at hk'
 ·rw[List.getElem?_drop]at hk'
  simpa using hk'
 ·cases hk'
def RL (P:Program)(σ:Sg)(h:Tr ABlk) (nx:Nat)(w:World)(m:Sem Value):R→Prop
 |.val v g ny=>g=h∧ny=nx∧∃V,m.run P w=.ok V w∧Rel σ v V
 |.unit _ _=>False
 |.fail=>True
theorem RL.mk {m:Sem Value}{v:AV}{V:Value}(hm:m.run P w=.ok V w)(hr:Rel σ v V):RL P σ h nx w m (.val v h nx):=⟨rfl,rfl,V,hm,hr⟩
theorem RL.ok (hk:Ok G σ h nx w){m:Sem Value}{r:R}(hm:RL P σ h nx w m r):RV P G σ h nx w m r:=by
 cases r with
 |fail=>trivial
 |unit _ _=>exact hm.elim
 |val v g ny=>
  obtain⟨e1,e2,V,h1,h2⟩:=hm
  subst e1
  subst e2
  exact SV.pure hk h1 h2
theorem evLoad_run (hk:Ok G σ h nx w)(t:TypeId){ti:TI}(ht:TIok P t ti){a:AV}{A:Value}(ha:Rel σ a A):RL P σ h nx w (Instr.loadAt t A) (evLoad ti a h nx):=by
 cases ti with
 |mk d size bytes zero fs=>
 obtain⟨hu,inf,hi,hs,_⟩:=ht
 unfold evLoad
 cases a <;> try trivial
 case ip cs=>
  obtain⟨b,o,L,e,hL,hc⟩:=hk.ip ha
  subst e
  simp only
  split
  ·rename_i hA
   split
   ·rename_i hle
    have hle':size≤cs.length:=Nat.le_of_ble_eq_true hle
    have hlen:=hL.length
    refine RL.mk (V:=.agg (L.take size).toArray) ?_ ?_
    ·have hl2:(loadCells ⟨b,o,none⟩ (L.take size).length).run P w=.ok (L.take size).toArray w:=by
      refine run_loadCells_list w _ _ fun j v hj=>?_
      rw[addr_add]
      refine hc j v ?_
      rw[List.getElem?_take]at hj
      split at hj
      ·exact hj
      ·cases hj
     rw[List.length_take,Nat.min_eq_left (by omega)]at hl2
     simp[Instr.loadAt,Instr.sureAddr,loadVar,run_agg hu,hA,run_size hi,hs,hl2]
    ·simp only[Rel]
     exact⟨_,rfl,hL.take size⟩
   ·trivial
  ·rename_i hA
   cases cs with
   |nil=>trivial
   |cons v cs=>
    simp only[RelL]at hL
    obtain⟨V,L',e1,h1,h2⟩:=hL
    refine RL.mk (V:=V) ?_ h1
    have hc0:w.cell? ⟨b,o,none⟩=some V:=by simpa using hc 0 V (by rw[e1];rfl)
    simp[Instr.loadAt,Instr.sureAddr,loadVar,run_agg hu,hA,hc0]
 rename_i i o
 simp only[Rel]at ha
 obtain⟨b,hb,e⟩:=ha
 subst e
 simp only
 split
 ·rename_i e n c opn esz hg
  obtain⟨b',C,fr,hb',hheap,hcell,_,_⟩:=hk.cells hg
  rw[hb]at hb'
  cases hb'
  split
  ·rename_i hA
   split
   ·rename_i hle
    have hle':o+size≤n:=Nat.le_of_ble_eq_true hle
    split
    ·rename_i l hl
     obtain⟨hlen,hget⟩:=getN_spec c size o l hl
     have hex:∃L:List Value,L.length=size∧∀k,k<size→∃v V,l[k]?=some v∧L[k]?=some V∧C[o+k]?=some V∧Rel σ v V:=by
      refine⟨(List.range size).map fun k=>C.getD (o+k) undef,by simp,fun k hk'=>?_⟩
      obtain⟨v,V,h1,h2,h3⟩:=hcell (o+k) (by omega)
      refine⟨v,V,(hget k hk').symm.trans h1,?_,h2,h3⟩
      simp[hk',Array.getD_eq_getD_getElem?,h2]
     obtain⟨L,hL,hLk⟩:=hex
     refine RL.mk (V:=.agg L.toArray) ?_ ?_
     ·have hl2:(loadCells ⟨b,o,none⟩ L.length).run P w=.ok L.toArray w:=by
       refine run_loadCells_list w _ L fun j v hj=>?_
       have hj':j<size:=by
        rcases Nat.lt_or_ge j L.length with h1 |h1
        ·omega
        ·rw[List.getElem?_eq_none h1]at hj;cases hj
       obtain⟨_,V,_,h2,h3,_⟩:=hLk j hj'
       rw[addr_add,cell_at hheap,h3,← h2,hj]
      rw[hL]at hl2
      simp[Instr.loadAt,Instr.sureAddr,loadVar,run_agg hu,hA,run_size hi,hs,hl2]
     ·simp only[Rel]
      refine⟨L,rfl,RelL.of_get (by omega) fun k v V h1 h2=>?_⟩
      have hk':k<size:=by
       rcases Nat.lt_or_ge k l.length with h3 |h3
       ·omega
       ·rw[List.getElem?_eq_none h3]at h1;cases h1
      obtain⟨v',V',e1,e2,_,e4⟩:=hLk k hk'
      rw[h1]at e1
      rw[h2]at e2
      cases e1
      cases e2
      exact e4
    ·trivial
   ·trivial
  ·rename_i hA
   split
   ·rename_i hle
    have hle':o<n:=Nat.le_of_ble_eq_true hle
    split
    ·rename_i v hv
     obtain⟨v',V,h1,h2,h3⟩:=hcell o hle'
     rw[hv]at h1
     cases h1
     refine RL.mk (V:=V) ?_ h3
     have hc:w.cell? ⟨b,o,none⟩=some V:=by rw[cell_at hheap,h2]
     simp[Instr.loadAt,Instr.sureAddr,loadVar,run_agg hu,hA,hc]
    ·trivial
   ·trivial
 ·trivial
theorem evLoad_ok (hk:Ok G σ h nx w)(t:TypeId){ti:TI}(ht:TIok P t ti){a:AV}{A:Value}(ha:Rel σ a A):RV P G σ h nx w (Instr.loadAt t A) (evLoad ti a h nx):=
 (evLoad_run hk t ht ha).ok hk
def evStore (ti:TI)(a v:AV)(h:Tr ABlk) (nx:Nat):R:=
 match ti with
 |.mk _ size _ _ _=>
  match a with
  |.ptr i o=>
   match h.get i with
   |some (.cells e n c opn esz)=>
    match allOne v.cells with
    |true=>match Nat.beq v.cells.length size with
     |true=>match Nat.ble (Nat.add o size) n with
      |true=>putNK v.cells c o fun c'=>h.putK (some (.cells e n c' opn esz)) i fun h'=>.unit h' nx
      |false=>.fail
     |false=>.fail
    |false=>.fail
   |_=>.fail
  |_=>.fail
theorem store_ok (hk:Ok G σ h nx w){i n esz:Nat}{e:TypeId}{c:Tr AV}{opn:Bool}(hg:h.get i=some (.cells e n c opn esz)){o:Nat}{l:List AV}{L:List Value}
  (hl:RelL σ l L) (hle:o+l.length≤n) {b:Nat} {C:Array Value} {fr:Nat×Nat} (hb:σ.blk i=some b) (hheap:w.heap[b]?=some (.cells C e fr)):
  Post G σ h nx w σ (h.put i (some (.cells e n (putN l c o) opn esz))) nx (wset w b (.cells (setN L C o) e fr)):=by
 obtain⟨b',C',fr',hb',hheap',hcell,hfr,hsz⟩:=hk.cells hg
 rw[hb]at hb'
 cases hb'
 rw[hheap]at hheap'
 cases hheap'
 have hn:n≤C.size:=by split at hsz <;> omega
 refine Post.set hk hg hb _ _ ?_
 simp only[RelB]
 refine⟨setN L C o,fr,rfl,fun k hk'=>?_,by rw[setN_size];exact hfr,by rw[setN_size];exact hsz⟩
 rw[get_putN,get_setN _ _ _ _ (by rw[hl.length];omega),hl.length]
 by_cases hin:o≤k∧k<o+l.length
 ·rw[if_pos hin,if_pos hin]
  obtain⟨v,hv⟩:∃v,l[k-o]?=some v:=⟨l[k-o]'(by omega),by simp[show k-o<l.length by omega]⟩
  obtain⟨V,h1,h2⟩:=hl.get hv
  exact⟨v,V,hv,h1,h2⟩
 ·rw[if_neg hin,if_neg hin]
  exact hcell k hk'
theorem evStore_ok (hk:Ok G σ h nx w)(t:TypeId){ti:TI}(ht:TIok P t ti){a v:AV}{A V:Value}(ha:Rel σ a A)(hv:Rel σ v V):RU P G σ h nx w (Instr.storeAt t A V) (evStore ti a v h nx):=by
 cases ti with
 |mk d size bytes zero fs=>
 obtain⟨hu,inf,hi,hs,_⟩:=ht
 unfold evStore
 cases a <;> try trivial
 rename_i i o
 simp only[Rel]at ha
 obtain⟨b,hb,e⟩:=ha
 subst e
 simp only[putNK_eq,Tr.putK_eq]
 split
 ·rename_i e n c opn esz hg
  obtain⟨b',C,fr,hb',hheap,hcell,hfr,hsz⟩:=hk.cells hg
  rw[hb]at hb'
  cases hb'
  split
  ·rename_i hone
   split
   ·rename_i hlen
    have hlen':v.cells.length=size:=Nat.eq_of_beq_eq_true hlen
    split
    ·rename_i hle
     have hle':o+size≤n:=Nat.le_of_ble_eq_true hle
     have hn:n≤C.size:=by split at hsz <;> omega
     have hrl:=hv.cells
     have hL:=hrl.length
     refine⟨σ,_,?_,store_ok hk hg hrl (by omega) hb hheap⟩
     have hst:=run_storeN (P:=P) (b:=b) (o:=o) (e:=e) (fr:=fr) V.cells.toList 0 C w hheap (by omega) hfr (allOne_spec hone hrl)
     have hc:V.cells.size=size:=by rw[← hlen',← hL];simp
     simp only[Nat.add_zero]at hst
     simp[Instr.storeAt,Instr.sureAddr,storeVar,run_size hi,hs,hc,hst]
    ·trivial
   ·trivial
  ·trivial
 ·trivial
end
end Go.Ev
namespace Go.Ev
theorem strL_length (l n:Nat):(strL l n).length=l:=by simp[strL]
theorem strB_size (l n:Nat):(strB l n).size=l:=by simp[strB,ByteArray.size,strL_length]
theorem strB_list (l n:Nat):(strB l n).toList=strL l n:=ByteArray.toList_mk _
theorem strL_get {l n k:Nat}(hk:k<l):(strL l n)[k]?=some (UInt8.ofNat (n / 256 ^ k % 256)):=by simp[strL,hk]
theorem u8 {n:Nat}(h:n<256):(UInt8.ofNat n).toNat=n:=by simp;omega
theorem strL_inj:∀(l:Nat){n m:Nat},n<256 ^ l→m<256 ^ l→strL l n=strL l m→n=m:=by
 intro l
 induction l with
 |zero=>intro n m h1 h2 _;simp at h1 h2;omega
 |succ l ih=>
  intro n m h1 h2 e
  have e0:n % 256=m % 256:=by
   have:=congrArg (fun s=>s[0]?) e
   simp only[strL_get (Nat.succ_pos l),Option.some.injEq]at this
   have:=congrArg UInt8.toNat this
   rw[u8 (Nat.mod_lt _ (by decide)),u8 (Nat.mod_lt _ (by decide))]at this
   simpa using this
  have e1:n / 256=m / 256:=by
   refine ih (by rw[Nat.div_lt_iff_lt_mul (by decide)];rwa [← Nat.pow_succ]) (by rw[Nat.div_lt_iff_lt_mul (by decide)];rwa [← Nat.pow_succ]) ?_
   apply List.ext_getElem?
   intro k
   by_cases hk:k<l
   ·rw[strL_get hk,strL_get hk]
    have:=congrArg (fun s=>s[k+1]?) e
    simp only[strL_get (Nat.succ_lt_succ hk)]at this
    rw[Nat.pow_succ,Nat.mul_comm,← Nat.div_div_eq_div_mul,← Nat.div_div_eq_div_mul]at this
    exact this
   ·rw[List.getElem?_eq_none (by rw[strL_length];omega),List.getElem?_eq_none (by rw[strL_length];omega)]
  have a1:=Nat.div_add_mod n 256
  have a2:=Nat.div_add_mod m 256
  omega
def strEq (l n k m:Nat):Bool:=match Nat.beq l k with |true=>Nat.beq n m |false=>false
theorem strEq_spec {l n k m:Nat}(h1:n<256 ^ l)(h2:m<256 ^ k):((strB l n).toList == (strB k m).toList)=strEq l n k m:=by
 rw[strB_list,strB_list]
 unfold strEq
 cases e:Nat.beq l k with
 |false=>
  have hne:l≠k:=fun e'=>by subst e';simp at e
  simp only
  apply beq_eq_false_iff_ne.2
  intro e'
  have:=congrArg List.length e'
  rw[strL_length,strL_length]at this
  exact hne this
 |true=>
  have:=Nat.eq_of_beq_eq_true e
  subst this
  simp only
  by_cases h:n=m
  ·subst h;simp
  ·have:Nat.beq n m=false:=by
    cases hb:Nat.beq n m with
    |false=>rfl
    |true=>exact absurd (Nat.eq_of_beq_eq_true hb) h
   rw[this]
   exact beq_eq_false_iff_ne.2 fun e'=>h (strL_inj l h1 h2 e')
theorem strL_append {l n k m:Nat}(h1:n<256 ^ l):strL l n++strL k m=strL (l+k) (n+m * 256 ^ l):=by
 apply List.ext_getElem?
 intro j
 by_cases hj:j<l
 ·rw[List.getElem?_append_left (by rw[strL_length];exact hj),strL_get hj,strL_get (by omega)]
  congr 2
  have e:256 ^ l=256 ^ j * (256 * 256 ^ (l-j-1)):=by
   rw[← Nat.pow_succ',← Nat.pow_add];congr 1;omega
  rw[e,show m * (256 ^ j * (256 * 256 ^ (l-j-1)))=256 ^ j * (256 * (m * 256 ^ (l-j-1))) by ac_rfl]
  rw[Nat.add_mul_div_left _ _ (Nat.pos_of_ne_zero (by simp)),Nat.add_mul_mod_self_left]
 ·rw[List.getElem?_append_right (by rw[strL_length];omega),strL_length]
  by_cases hj2:j<l+k
  ·rw[strL_get (by omega),strL_get hj2]
   congr 3
   have e:256 ^ j=256 ^ l * 256 ^ (j-l):=by rw[← Nat.pow_add];congr 1;omega
   rw[e,← Nat.div_div_eq_div_mul,Nat.mul_comm m,Nat.add_mul_div_left _ _ (Nat.pos_of_ne_zero (by simp)),Nat.div_eq_of_lt h1,Nat.zero_add]
  ·rw[List.getElem?_eq_none (by rw[strL_length];omega),List.getElem?_eq_none (by rw[strL_length];omega)]
theorem strB_append {l n k m:Nat}(h1:n<256 ^ l):strB l n++strB k m=strB (l+k) (n+m * 256 ^ l):=by
 apply ByteArray.ext
 rw[ByteArray.data_append]
 show (strL l n).toArray++(strL k m).toArray=_
 rw[List.append_toArray,strL_append h1]
 rfl
theorem str_append_lt {l n k m:Nat}(h1:n<256 ^ l)(h2:m<256 ^ k):n+m * 256 ^ l<256 ^ (l+k):=by
 rw[Nat.pow_add,Nat.mul_comm (256 ^ l)]
 calc n+m * 256 ^ l<256 ^ l+m * 256 ^ l:=by omega
  _=(m+1) * 256 ^ l:=by rw[Nat.add_mul];omega
  _≤256 ^ k * 256 ^ l:=Nat.mul_le_mul_right _ h2
theorem strL_extract {l n a b:Nat}(h2:b≤l):((strL l n).drop a).take (b-a)=strL (b-a) (n / 256 ^ a % 256 ^ (b-a)):=by
 apply List.ext_getElem?
 intro j
 by_cases hj:j<b-a
 ·rw[List.getElem?_take_of_lt hj,List.getElem?_drop,strL_get (by omega),strL_get hj]
  congr 2
  rw[Nat.pow_add,← Nat.div_div_eq_div_mul]
  have e:256 ^ (b-a)=256 ^ j * (256 * 256 ^ (b-a-j-1)):=by
   rw[← Nat.pow_succ',← Nat.pow_add];congr 1;omega
  rw[e,Nat.mod_mul_right_div_self,Nat.mod_mul_right_mod]
 ·rw[List.getElem?_eq_none (by simp[strL_length];omega),List.getElem?_eq_none (by rw[strL_length];omega)]
theorem strB_extract {l n a b:Nat}(h2:b≤l):(strB l n).extract a b=strB (b-a) (n / 256 ^ a % 256 ^ (b-a)):=by
 apply ByteArray.ext
 rw[ByteArray.data_extract]
 show (strL l n).toArray.extract a b=(strL _ _).toArray
 rw[← strL_extract h2,List.extract_toArray]
theorem strB_get {l n k:Nat}(hk:k<l):(strB l n)[k]?=some (UInt8.ofNat (n / 256 ^ k % 256)):=by
 have:k<(strB l n).size:=by rw[strB_size];exact hk
 have h0:(strB l n)[k]?=some ((strB l n)[k]'this):=getElem?_pos (strB l n) k this
 rw[h0]
 have h2:=strL_get (n:=n) hk
 rw[List.getElem?_eq_getElem (by rw[strL_length];exact hk)]at h2
 rw[← h2]
 rfl
noncomputable section
def strLess (l:Nat):Nat→Nat→Nat→Bool:=
 Nat.rec (motive:=fun _=>Nat→Nat→Nat→Bool) (fun _ k _=>Nat.ble 1 k)
  (fun _ ih n k m=>match k with
   |0=>false
   |Nat.succ k'=>match Nat.beq (Nat.mod n 256) (Nat.mod m 256) with
    |true=>ih (Nat.div n 256) k' (Nat.div m 256)
    |false=>Nat.ble (Nat.succ (Nat.mod n 256)) (Nat.mod m 256)) l
theorem strL_succ (l n:Nat):strL (l+1) n=UInt8.ofNat (n % 256)::strL l (n / 256):=by
 apply List.ext_getElem?
 intro j
 cases j with
 |zero=>rw[strL_get (Nat.succ_pos l)];simp
 |succ j=>
  by_cases hj:j<l
  ·rw[strL_get (by omega),List.getElem?_cons_succ,strL_get hj,Nat.pow_succ,Nat.mul_comm,← Nat.div_div_eq_div_mul]
  ·rw[List.getElem?_eq_none (by rw[strL_length];omega),List.getElem?_cons_succ,List.getElem?_eq_none (by rw[strL_length];omega)]
theorem strLess_spec:∀(l n k m:Nat),Op.bytesLess (strL l n) (strL k m)=strLess l n k m:=by
 intro l
 induction l with
 |zero=>
  intro n k m
  cases k with
  |zero=>rfl
  |succ k=>rw[strL_succ];rfl
 |succ l ih=>
  intro n k m
  cases k with
  |zero=>simp[strL,Op.bytesLess];rfl
  |succ k=>
   rw[strL_succ,strL_succ,Op.bytesLess,ih]
   show _=(match Nat.beq (n % 256) (m % 256) with
    |true=>strLess l (n / 256) k (m / 256)
    |false=>Nat.ble (Nat.succ (n % 256)) (m % 256))
   have a1:n % 256<256:=Nat.mod_lt _ (by decide)
   have a2:m % 256<256:=Nat.mod_lt _ (by decide)
   cases e:Nat.beq (n % 256) (m % 256) with
   |true=>
    have:=Nat.eq_of_beq_eq_true e
    rw[this]
    simp
   |false=>
    have hne:n % 256≠m % 256:=fun e'=>by rw[e']at e;simp at e
    have hb:(UInt8.ofNat (n % 256) == UInt8.ofNat (m % 256))=false:=by
     apply beq_eq_false_iff_ne.2
     intro e'
     have:=congrArg UInt8.toNat e'
     rw[u8 a1,u8 a2]at this
     exact hne this
    rw[hb]
    simp only[Bool.false_and,Bool.or_false]
    have:(UInt8.ofNat (n % 256)<UInt8.ofNat (m % 256))↔n % 256<m % 256:=by
     rw[UInt8.lt_iff_toNat_lt,u8 a1,u8 a2]
    cases e2:Nat.ble (Nat.succ (n % 256)) (m % 256) with
    |true=>have h9:n % 256<m % 256:=Nat.le_of_ble_eq_true e2;simp[this,h9]
    |false=>
     have:¬n % 256<m % 256:=fun hh=>by rw[Nat.ble_eq_true_of_le hh]at e2;cases e2
     simp_all
def ofL (l:List UInt8):Nat:=List.rec (motive:=fun _=>Nat) 0 (fun b _ ih=>Nat.add b.toNat (Nat.mul 256 ih)) l
theorem ofL_spec:∀(l:List UInt8),ofL l<256 ^ l.length∧strL l.length (ofL l)=l
 |[]=>by simp[ofL,strL]
 |b::l=>by
  obtain⟨h1,h2⟩:=ofL_spec l
  have hb:b.toNat<256:=b.toNat_lt
  have e:ofL (b::l)=b.toNat+256 * ofL l:=rfl
  rw[e]
  refine⟨?_,?_⟩
  ·rw[List.length_cons,Nat.pow_succ];omega
  ·rw[List.length_cons,strL_succ,show (b.toNat+256 * ofL l) % 256=b.toNat by omega,show (b.toNat+256 * ofL l) / 256=ofL l by omega,h2]
   simp
end
end Go.Ev
