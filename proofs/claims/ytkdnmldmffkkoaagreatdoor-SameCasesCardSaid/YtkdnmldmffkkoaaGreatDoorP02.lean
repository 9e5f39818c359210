/- Texts. -/
import Derived.Lib.UnsafeStr
import Derived.LoopN
import Derived.TacticsIn
import Derived.RangeFuncRecord
import Derived.Maps.RangeRun
import Derived.Test.YtkdnmldmffkkoaaGreatDoorP01
set_option linter.all false
set_option maxRecDepth 100000
set_option maxHeartbeats 8000000
namespace Go.Ev
noncomputable section
section
variable {P : Program} {G : Gl} {σ τ υ : Sg} {h g f : Tr ABlk} {nx ny nz : Nat} {w x y : World}
def Post.freeze (hk:Ok G σ h nx w){i b:Nat}{B:ABlk}(hi:h.get i=some B)(hb:σ.blk i=some b) (n:Nat):Post G σ h nx w σ (h.put i none) nx (w.freeze ⟨b,0,none⟩ n):=by
 have hs:∀j B',(h.put i none).get j=some B'→j≠i∧h.get j=some B':=by
  intro j B' hj;rw[Tr.get_put]at hj;split at hj
  ·cases hj
  ·exact⟨by assumption,hj⟩
 have aE:∀k,k≠b→(w.freeze ⟨b,0,none⟩ n).heap[k]?=w.heap[k]?:=by
  intro k aW;unfold World.freeze;split
  ·rfl
  ·simp only[Array.getElem?_modify];rw[if_neg (fun e=>aW e.symm)]
 have bC:(w.freeze ⟨b,0,none⟩ n).heap.size=w.heap.size:=by unfold World.freeze;split <;> simp
 have OY:(w.freeze ⟨b,0,none⟩ n).os=w.os∧(w.freeze ⟨b,0,none⟩ n).tape=w.tape∧(w.freeze ⟨b,0,none⟩ n).output=w.output:=by unfold World.freeze;split <;> exact⟨rfl,rfl,rfl⟩
 refine⟨⟨hk.glob,hk.le,hk.fresh,fun a c d B1 B2 h1 h2=>hk.inj a c d B1 B2 (hs _ _ h1).2 (hs _ _ h2).2,fun a B1 h1=>?_,fun d C hd=>⟨?_,fun a B1 h1=>(hk.imm d C hd).2 a B1 (hs _ _ h1).2⟩,hk.gl⟩,.refl σ,⟨OY.1,OY.2.1,OY.2.2,by rw[bC];exact ae _,fun d hd hn=>aE d fun e=>hn i B hi (e ▸ hb),fun a B1 d h1 h2=>.inr ⟨a,B1,(hs _ _ h1).2,h2⟩,fun _ _ h=>.inl h⟩,ae _⟩
 ·obtain⟨n1,n2⟩:=hs a B1 h1;obtain⟨b',o,aV,ho,hr⟩:=hk.blk a B1 n2;refine⟨b',o,aV,?_,hr⟩;rw[aE b' fun e=>n1 (hk.inj a i b B1 B n2 hi (e ▸ aV) hb)];exact ho
 ·obtain⟨⟨t,fr,h1⟩,h2⟩:=hk.imm d C hd;refine⟨t,fr,?_⟩;rw[aE d fun e=>h2 i B hi (e ▸ hb)];exact h1
def ZY:∀{l:List AV}{L:List Value}{n:Nat},aC σ l L→qv l=some n→∀(j:Nat) U,L[j]?=some U→∃b,b≤255∧U=.int .u8 (Int.ofNat b)
 |[],L,n,hr,_,j,U,hU=>by simp only[aC]at hr;subst hr;simp at hU
 |v::l,L,n,hr,hn,j,U,hU=>by
  simp only[aC]at hr;obtain⟨V,L',e,h1,h2⟩:=hr;subst e;rw[Rw]at hn;cases Ai:vt v with
  |none=>rw[Ai]at hn;cases hn
  |some b=>
   rw[Ai]at hn;cases ei:qv l with
   |none=>rw[ei]at hn;cases hn
   |some n'=>
    cases j with
    |zero=>simp at hU;subst hU;exact⟨b,Tb h1 Ai⟩
    |succ j=>exact ZY h2 ei j U (by simpa using hU)
noncomputable section
def Q1 (v:AV)(h:Tr ABlk) (nx:Nat):R:=
 match v with
 |.sl0=>.val .ptr0 h nx
 |.sl i o l c opn=>match (match opn with |true=>Nat.ble 1 l |false=>Nat.ble 1 c) with
  |true=>.val (.ptr i o) h nx
  |false=>.fail
 |_=>.fail
def zJp (hk:Ok G σ h nx w)(ts:Array TypeId)(ty:TypeId){v:AV}{V:Value}(hv:av σ v V):RV P G σ h nx w (Builtin.unsafeSliceData_ ts ty #[V]) (Q1 v h nx):=by
 unfold Q1;cases v <;> try trivial
 ·simp only[av]at hv;subst hv;exact SV.pure hk (V:=.pointer none) rfl (by simp only[av])
 ·rename_i i o l c opn;simp only[av]at hv;obtain⟨b,hb,e,dE⟩:=hv;subst e;simp only;cases hq:(match opn with |true=>Nat.ble 1 l |false=>Nat.ble 1 c) with
  |false=>trivial
  |true=>
   have aT:¬(if opn=true then σ.cap i-c else c)=0:=by
    cases opn with
    |true=>
     have:=ai (show Nat.ble 1 l=true from hq);simp only[if_true]at dE ⊢;omega
    |false=>
     have:=ai (show Nat.ble 1 c=true from hq);simp only[Bool.false_eq_true,if_false];omega
   refine SV.pure hk (V:=.pointer (some ⟨b,o,none⟩)) ?_ (by simp only[av];exact⟨b,hb,rfl⟩);generalize (if opn=true then σ.cap i-c else c)=cc at aT;have wu:Builtin.unsafeSliceData_ ts ty #[.slice (some ⟨b,o,none⟩) l cc]=(if cc≠0 then pure (.pointer (some ⟨b,o,none⟩)) else do
     if (← viewAt b).isSome then pure (.pointer (some ⟨b,o,none⟩)) else pure (.pointer (some ⟨← newObj (.view ⟨b,o,none⟩ (← elemOf ty)),0,none⟩))):=rfl
   rw[wu,if_pos aT];rfl
def H6 (tp:TI)(p n:AV)(h:Tr ABlk) (nx:Nat):R:=
 match tp with
 |.mk (.pointer e) _ _ _ ((_,s,_)::_)=>match Nat.beq s 1 with
  |false=>.fail
  |true=>match n with
   |.int .i64 (.ofNat n)=>match p with
    |.ptr0=>match Nat.beq n 0 with
     |true=>.val (.str 0 0) h nx
     |false=>.fail
    |.ptr i o=>match Nat.beq n 0 with
     |true=>.val (.str 0 0) h nx
     |false=>match h.get i with
      |some (.cells e' m c _ _)=>match Nat.beq e' e && Nat.beq o 0 && Nat.ble n m && Nat.ble n 4611686018427387904 with
       |false=>.fail
       |true=>match ji c n 0 with
        |none=>.fail
        |some l=>match qv l with
         |none=>.fail
         |some z=>fN z fun z=>h.putK none i fun h'=>.val (.str n z) h' nx
      |_=>.fail
    |_=>.fail
   |_=>.fail
 |_=>.fail
def zU5 (hk:Ok G σ h nx w){pt:TypeId}{tp:TI}(ht:cT P pt tp)(it ty:TypeId){p n:AV}{A N:Value}(hp:av σ p A)(hn:av σ n N):RV P G σ h nx w (Builtin.unsafeString_ #[pt,it] ty #[A,N]) (H6 tp p n h nx):=by
 unfold H6;split
 ·rename_i e q1 q2 q3 o0 s0 b0 fs;obtain⟨hu,inf,hi,hs,oe,fu,hf,ij,nC⟩:=ht;have ef:=nC e (.inr (.inr rfl)) o0 s0 b0 rfl;obtain⟨⟨ie,Oc,Od⟩,_⟩:=ef;cases A7:Nat.beq s0 1 with
  |false=>trivial
  |true=>
  have O5:=ad A7;have NO:P.cellsOf e=1:=by simp[Program.cellsOf,Oc,Od,O5]
  simp only;split
  ·rename_i k;simp only[av]at hn;subst hn;have h0:∀q:Option Addr,k=0→RV P G σ h nx w (Builtin.unsafeString_ #[pt,it] ty #[.pointer q,.int .i64 (Int.ofNat k)]) (.val (.str 0 0) h nx):=by
    intro q eY;subst eY;exact SV.pure hk (V:=.string .empty) (Lib.run_unsafeString_none w pt it ty q) (by simp only[av];exact⟨by simp,rfl⟩)
   split
   ·simp only[av]at hp;subst hp;split
    ·rename_i hb;exact h0 none (ad hb)
    ·trivial
   ·rename_i i o;simp only[av]at hp;obtain⟨b,hb,e1⟩:=hp;subst e1;split
    ·rename_i gw;exact h0 _ (ad gw)
    ·rename_i gw;have eY:=nU gw;split
     ·rename_i e' m c opn esz hg;split
      ·trivial
      ·rename_i aQ;simp only[ao]at aQ;obtain⟨⟨⟨a1,a2⟩,a3⟩,a4⟩:=aQ;have oM:=ad a1;have Cu:=ad a2;have TP:=ai a3;have TQ:=ai a4;subst oM;subst Cu;split
       ·trivial
       ·rename_i l hl;split
        ·trivial
        ·rename_i z hz;simp only[fN_eq,Tr.putK_eq];obtain⟨b',C,fr,aV,aE,aJ,_,lY⟩:=hk.cells hg;rw[hb]at aV;cases aV;have hmC:m≤C.size:=by split at lY <;> omega
         obtain⟨hlen,L,ju,_,dD⟩:=BX (P:=P) (o:=0) aE aJ (by omega) hl;obtain⟨GY,ns,hL,oW⟩:=KW ju hz;rw[hlen]at GY oW;have lI:(cJ k z).length=k:=mV k z;have Aj:∀(j:Nat) (u:UInt8),(cJ k z)[j]?=some u→w.cell? ((⟨b,0,none⟩:Addr).add j)=some (.int .u8 u.toNat):=by
          intro j u hj;rw[← oW,List.getElem?_map]at hj;cases hq:ns[j]? with
          |none=>rw[hq]at hj;cases hj
          |some q=>
           rw[hq]at hj;have UE:L[j]?=some (.int .u8 q):=by rw[hL,List.getElem?_map,hq];rfl
           obtain⟨bb,CZ,hU⟩:=ZY ju hz j _ UE;have Vk:q=Int.ofNat bb:=by cases hU;rfl
           rw[dD j _ UE];have hu8:u=UInt8.ofNat bb:=by
            rw[Vk]at hj;simpa using hj.symm
           rw[hu8,u8 (by omega),Vk];rfl
         have aR:=Lib.run_unsafeString_row (P:=P) w pt it ty e' hu NO b C.size (by simp[World.shape?,aE]) (cJ k z) (by intro e;rw[e]at lI;simp at lI;omega) (by rw[lI];omega) (by rw[lI];omega) Aj;rw[lI]at aR;exact⟨.string (bK k z),σ,_,aR,by simp only[av];exact⟨GY,trivial⟩,Post.freeze hk hg hb k⟩
     ·trivial
   ·trivial
  ·trivial
 ·trivial
end
end
inductive Cx where
 |mk (tt:Tr TI) (eq:Tr (List (Nat×TypeDesc))) (ft:Tr Func) (G:Gl) (lies:TypeId→Nat→Nat→TypeId→Bool)
def Cx.tt:Cx→Tr TI |.mk t _ _ _ _=>t
def Cx.eq:Cx→Tr (List (Nat×TypeDesc)) |.mk _ e _ _ _=>e
def Cx.ft:Cx→Tr Func |.mk _ _ f _ _=>f
def Cx.G:Cx→Gl |.mk _ _ _ g _=>g
def Cx.lies:Cx→TypeId→Nat→Nat→TypeId→Bool |.mk _ _ _ _ l=>l
structure CxOk (P:Program)(c:Cx):Prop where
 tt:∀t ti,c.tt.get t=some ti→cT P t ti
 eq:∀t,J8 P t (c.eq.get t)
 lies:∀e k o u,c.lies e k o u=true→liesAt P P.depth e k o u 1=true
 ft:∀f fn,c.ft.get f=some fn→P.funcs[f]?=some fn∧∀args w,(callFunc f args).run P w=.ok (.enter f args) w
noncomputable section
def xM:Value→Option AV
 |.bool b=>some (.bool b)
 |.int k n=>some (.int k n)
 |.string s=>some (.str s.data.toList.length (xa s.data.toList))
 |.pointer none=>some .ptr0
 |.slice none 0 0=>some .sl0
 |.map none=>some .map0
 |.nilFunc=>some .nilFunc
 |.nilIface=>some .nilIface
 |_=>none
def Cd (l:List Value):Option (List AV):=List.rec (motive:=fun _=>Option (List AV)) (some []) (fun v _ ih=>match xM v with
 |some a=>match ih with
  |some l=>some (a::l)
  |none=>none
 |none=>none) l
def ofV:Value→Option AV
 |.agg cs=>match Cd cs.toList with
  |some l=>some (.agg l)
  |none=>none
 |.tuple cs=>match Cd cs.toList with
  |some l=>some (.tup l)
  |none=>none
 |.iface t v=>match xM v with
  |some a=>some (.iface t a)
  |none=>none
 |v=>xM v
def Kj {v:Value}{a:AV}(h:xM v=some a)(σ:Sg):av σ a v:=by
 unfold xM at h;split at h <;> first
  |(cases h;simp only[av];done)
  |(cases h;done)
  |skip
 rename_i s;cases h;simp only[av];obtain⟨h1,h2⟩:=YO s.data.toList;refine⟨h1,?_⟩
 congr 1
 apply ByteArray.ext;show _=(cJ _ _).toArray;rw[h2]
def SG (σ:Sg):∀{l:List Value}{as:List AV},Cd l=some as→aC σ as l
 |[],as,h=>by cases h;simp only[aC]
 |v::l,as,h=>by
  change (match xM v with
   |some a=>match Cd l with
    |some l=>some (a::l)
    |none=>none
   |none=>none)=some as at h
  cases h1:xM v with
  |none=>rw[h1]at h;cases h
  |some a=>
   rw[h1]at h;cases h2:Cd l with
   |none=>rw[h2]at h;cases h
   |some l'=>
    rw[h2]at h;cases h;simp only[aC];exact⟨v,l,rfl,Kj h1 σ,SG σ h2⟩
def zEt {v:Value}{a:AV}(h:ofV v=some a)(σ:Sg):av σ a v:=by
 unfold ofV at h;split at h
 ·rename_i cs;cases hl:Cd cs.toList with
  |none=>rw[hl]at h;cases h
  |some l=>
   rw[hl]at h;cases h;simp only[av];exact⟨cs.toList,by simp,SG σ hl⟩
 ·rename_i cs;cases hl:Cd cs.toList with
  |none=>rw[hl]at h;cases h
  |some l=>
   rw[hl]at h;cases h;simp only[av];exact⟨cs.toList,by simp,SG σ hl⟩
 ·rename_i t v;cases hl:xM v with
  |none=>rw[hl]at h;cases h
  |some l=>
   rw[hl]at h;cases h;simp only[av];exact⟨v,rfl,Kj hl σ⟩
 ·exact Kj h σ
def Ij (v:Value):Option AV:=
 match v with
 |.string s=>some (.bs s)
 |v=>xM v
def D4:List Value→Option (List AV)
 |[]=>some []
 |v::l=>match Ij v with
  |some a=>match D4 l with
   |some l=>some (a::l)
   |none=>none
  |none=>none
def qp (v:Value):Option AV:=
 match v with
 |.agg cs=>match D4 cs.toList with
  |some l=>some (.agg l)
  |none=>none
 |v=>Ij v
def zFj {v:Value}{a:AV}(h:Ij v=some a)(σ:Sg):av σ a v:=by
 unfold Ij at h;split at h
 ·cases h;simp only[av]
 ·exact Kj h σ
def zFc (σ:Sg):∀{l:List Value}{as:List AV},D4 l=some as→aC σ as l
 |[],as,h=>by cases h;simp only[aC]
 |v::l,as,h=>by
  simp only[D4]at h;cases h1:Ij v with
  |none=>rw[h1]at h;cases h
  |some a=>
   rw[h1]at h;cases h2:D4 l with
   |none=>rw[h2]at h;cases h
   |some l'=>
    rw[h2]at h;cases h;simp only[aC];exact⟨v,l,rfl,zFj h1 σ,zFc σ h2⟩
def ZS {v:Value}{a:AV}(h:qp v=some a)(σ:Sg):av σ a v:=by
 unfold qp at h;split at h
 ·rename_i cs;cases hl:D4 cs.toList with
  |none=>rw[hl]at h;cases h
  |some l=>
   rw[hl]at h;cases h;simp only[av];exact⟨cs.toList,by simp,zFc σ hl⟩
 ·exact zFj h σ
def aL (G:Gl)(tm:Tr AV)(o:Operand):Option AV:=
 match o with
 |.tmp t=>tm.get t
 |.const v=>match G.sym with
  |false=>ofV v
  |true=>qp v
 |.global g=>match G.tab g with
  |some cs=>some (.ip cs)
  |none=>match Nat.ble (Nat.succ g) G.n with
   |true=>some (.ptr g 0)
   |false=>none
 |.func f=>some (.func f [] [])
def kE (σ:Sg)(tm:Tr AV)(a:Act):Prop:=∀t v,tm.get t=some v→av σ v (a.tmps.getD t undef)
def kH {G:Gl}{σ:Sg}{h:Tr ABlk}{nx:Nat}{w:World}(hk:Ok G σ h nx w){tm:Tr AV}{a:Act}(ht:kE σ tm a){o:Operand}{v:AV}(he:aL G tm o=some v):av σ v (a.eval o):=by
 unfold aL at he;cases o with
 |tmp t=>exact ht t v he
 |const c=>
  simp only at he;split at he
  ·exact zEt he σ
  ·exact ZS he σ
 |global g=>
  simp only at he;split at he
  ·rename_i cs dD;cases he;exact hk.gl g cs dD
  ·split at he
   ·rename_i hle;cases he;simp only[av,Act.eval];exact⟨g,hk.glob g (ai hle),rfl⟩
   ·cases he
 |func f=>
  cases he;simp only[av,Act.eval];exact⟨[],[],rfl,by simp only[aC],by simp only[aC]⟩
def dz (G:Gl)(tm:Tr AV)(l:List Operand):Option (List AV):=List.rec (motive:=fun _=>Option (List AV)) (some []) (fun o _ ih=>match aL G tm o with
 |some a=>match ih with
  |some l=>some (a::l)
  |none=>none
 |none=>none) l
def uv {G:Gl}{σ:Sg}{h:Tr ABlk}{nx:Nat}{w:World}(hk:Ok G σ h nx w){tm:Tr AV}{a:Act}(ht:kE σ tm a):∀{l:List Operand}{vs:List AV},dz G tm l=some vs→aC σ vs (l.map a.eval)
 |[],vs,h=>by cases h;simp only[aC,List.map_nil]
 |o::l,vs,h=>by
  change (match aL G tm o with
   |some a=>match dz G tm l with
    |some l=>some (a::l)
    |none=>none
   |none=>none)=some vs at h
  cases h1:aL G tm o with
  |none=>rw[h1]at h;cases h
  |some v=>
   rw[h1]at h;cases h2:dz G tm l with
   |none=>rw[h2]at h;cases h
   |some l'=>
    rw[h2]at h;cases h;simp only[aC,List.map_cons];exact⟨_,_,rfl,kH hk ht h1,uv hk ht h2⟩
def mT (G:Gl)(tm:Tr AV)(l:List (Nat×Operand)):Option (List (Nat×AV)):=List.rec (motive:=fun _=>Option (List (Nat×AV))) (some []) (fun p _ ih=>match p with
 |(i,o)=>match aL G tm o with
  |some a=>match ih with
   |some l=>some ((i,a)::l)
   |none=>none
  |none=>none) l
def LJ {G:Gl}{σ:Sg}{h:Tr ABlk}{nx:Nat}{w:World}(hk:Ok G σ h nx w){tm:Tr AV}{a:Act}(ht:kE σ tm a):∀{l:List (Nat×Operand)}{vs:List (Nat×AV)},mT G tm l=some vs→sg σ vs (l.map fun p=>(p.1,a.eval p.2))
 |[],vs,h=>by cases h;simp only[sg,List.map_nil]
 |(i,o)::l,vs,h=>by
  change (match aL G tm o with
   |some a=>match mT G tm l with
    |some l=>some ((i,a)::l)
    |none=>none
   |none=>none)=some vs at h
  cases h1:aL G tm o with
  |none=>rw[h1]at h;cases h
  |some v=>
   rw[h1]at h;cases h2:mT G tm l with
   |none=>rw[h2]at h;cases h
   |some l'=>
    rw[h2]at h;cases h;simp only[sg,List.map_cons];exact⟨_,_,rfl,kH hk ht h1,LJ hk ht h2⟩
def vx (G:Gl)(tm:Tr AV)(o:Option Operand):Option (Option AV):=
 match o with
 |none=>some none
 |some o=>match aL G tm o with
  |some v=>some (some v)
  |none=>none
def Tw {G:Gl}{σ:Sg}{h:Tr ABlk}{nx:Nat}{w:World}(hk:Ok G σ h nx w){tm:Tr AV}{a:Act}(ht:kE σ tm a){o:Option Operand}{v:Option AV}(he:vx G tm o=some v):nW σ v (o.map a.eval):=by
 unfold vx at he;cases o with
 |none=>cases he;trivial
 |some o=>
  simp only at he;cases h1:aL G tm o with
  |none=>rw[h1]at he;cases he
  |some v'=>
   rw[h1]at he;cases he;exact kH hk ht h1
def bR {α:Type}(o:Option α)(k:α→R):R:=match o with |some a=>k a |none=>.fail
def kW:TI→TypeId
 |.mk (.slice e) _ _ _ _=>e
 |_=>0
def Hq:TI→TypeId
 |.mk (.map k _) _ _ _ _=>k
 |_=>0
def RP:TI→TypeId
 |.mk (.map _ v) _ _ _ _=>v
 |_=>0
def xY (ts td:TI):TypeId:=
 match td with
 |.mk (.slice e) _ _ _ _=>e
 |_=>kW ts
section
variable (c : Cx)
def kX (x:Operand)(tm:Tr AV)(h:Tr ABlk) (nx:Nat):R:=bR (aL c.G tm x) fun v=>.val v h nx
def dN (x a b:Operand)(tm:Tr AV)(h:Tr ABlk) (nx:Nat):R:=bR (aL c.G tm x) fun v=>match v with
  |.bool true=>kX c a tm h nx
  |.bool false=>kX c b tm h nx
  |_=>.fail
def KX (e:TypeId)(_:Tr AV)(h:Tr ABlk) (nx:Nat):R:=bR (c.tt.get e) fun ti=>QZ ti e h nx
def BL (e:TypeId)(x:Operand)(tm:Tr AV)(h:Tr ABlk) (nx:Nat):R:=bR (aL c.G tm x) fun v=>SB e v h nx
def Ks (t:TypeId)(ps:Array (Nat×Operand))(tm:Tr AV)(h:Tr ABlk) (nx:Nat):R:=bR (c.tt.get t) fun ti=>bR (mT c.G tm ps.toList) fun l=>uz ti l h nx
def Lg (t:TypeId) (n:Nat)(ps:Array (Nat×Operand))(tm:Tr AV)(h:Tr ABlk) (nx:Nat):R:=bR (c.tt.get t) fun ti=>bR (mT c.G tm ps.toList) fun l=>DY ti (c.tt.get (kW ti)) (kW ti) n l h nx
def Cb (t:TypeId)(x:Operand)(tm:Tr AV)(h:Tr ABlk) (nx:Nat):R:=bR (c.tt.get t) fun ti=>bR (aL c.G tm x) fun a=>jN ti a h nx
def K9 (t:TypeId)(x y:Operand)(tm:Tr AV)(h:Tr ABlk) (nx:Nat):R:=bR (c.tt.get t) fun ti=>bR (aL c.G tm x) fun a=>bR (aL c.G tm y) fun v=>KD ti a v h nx
def BD (x:Operand)(tm:Tr AV)(h:Tr ABlk) (nx:Nat):R:=bR (aL c.G tm x) fun v=>match v with
  |.ptr i o=>.val (.ptr i o) h nx
  |.func f a b=>.val (.func f a b) h nx
  |.ip cs=>.val (.ip cs) h nx
  |_=>.fail
def BW (op:BinOp)(t:TypeId)(x y:Operand)(tm:Tr AV)(h:Tr ABlk) (nx:Nat):R:=bR (c.tt.get t) fun ti=>bR (aL c.G tm x) fun a=>bR (aL c.G tm y) fun b=>xU ti (c.eq.get t) (oC x || oC y) op a b h nx
def Bp (op:UnOp)(x:Operand)(tm:Tr AV)(h:Tr ABlk) (nx:Nat):R:=bR (aL c.G tm x) fun a=>vQ op a h nx
def Bf:TI→Bool
 |.mk .unsafePointer _ _ _ _=>true
 |_=>false
def DZ (ts:TI)(v:AV)(h:Tr ABlk) (nx:Nat):R:=
 match ts with
 |.mk (.pointer _) _ _ _ ((_,s,_)::_)=>match Nat.beq s 0 with
  |true=>.fail
  |false=>match v with
   |.ptr0=>.val .ptr0 h nx
   |.ptr i o=>match h.get i with
    |some (.cells _ n _ _ _)=>match Nat.ble (Nat.succ o) n with
     |true=>.val (.ptr i o) h nx
     |false=>.fail
    |_=>.fail
   |_=>.fail
 |_=>.fail
def H2 (d:TypeId)(td:TI)(v:AV)(h:Tr ABlk) (nx:Nat):R:=
 match td with
 |.mk (.pointer u) _ _ _ (_::_)=>match v with
  |.ptr0=>.val .ptr0 h nx
  |.ptr i o=>match h.get i with
   |some (.cells e n _ false _)=>match c.tt.get e with
    |some (.mk _ se _ _ _)=>match c.lies e (Nat.div n se) o u with
     |true=>.val (.ptr i o) h nx
     |false=>.fail
    |none=>.fail
   |_=>.fail
  |_=>.fail
 |_=>.fail
def HF (s d:TypeId)(x:Operand)(tm:Tr AV)(h:Tr ABlk) (nx:Nat):R:=bR (c.tt.get s) fun ts=>bR (c.tt.get d) fun td=>bR (aL c.G tm x) fun a=>match c.G.sym with
 |false=>Eh ts td (c.tt.get (xY ts td)) (xY ts td) a h nx
 |true=>fC ts td (c.tt.get (xY ts td)) (xY ts td) a h nx
def sd (s d:TypeId)(x:Operand)(tm:Tr AV)(h:Tr ABlk) (nx:Nat):R:=bR (c.tt.get s) fun ts=>bR (c.tt.get d) fun td=>match Bf td,Bf ts with
 |false,false=>HF c s d x tm h nx
 |true,false=>bR (aL c.G tm x) fun a=>DZ ts a h nx
 |false,true=>bR (aL c.G tm x) fun a=>H2 c d td a h nx
 |true,true=>.fail
def K4 (t:TypeId)(x:Operand)(tm:Tr AV)(h:Tr ABlk) (nx:Nat):R:=bR (c.tt.get t) fun ti=>bR (aL c.G tm x) fun a=>xH ti t a h nx
def xE (fn:Fn)(first cap:Array Operand)(tm:Tr AV)(h:Tr ABlk) (nx:Nat):R:=match fn with
  |.func f=>bR (dz c.G tm first.toList) fun a=>bR (dz c.G tm cap.toList) fun b=>.val (.func f a b) h nx
  |_=>.fail
def Lk (r:Option Operand)(_:Tr AV)(h:Tr ABlk) (nx:Nat):R:=match r with
  |none=>Lv h nx
  |some _=>.fail
def Eb (t:TypeId)(l cp:Operand)(tm:Tr AV)(h:Tr ABlk) (nx:Nat):R:=bR (c.tt.get t) fun ti=>bR (aL c.G tm l) fun a=>bR (aL c.G tm cp) fun b=>H5 ti (c.tt.get (kW ti)) (kW ti) a b h nx
def Cj (t:TypeId)(x:Operand)(lo hi mx:Option Operand)(tm:Tr AV)(h:Tr ABlk) (nx:Nat):R:=bR (c.tt.get t) fun ti=>bR (aL c.G tm x) fun a=>bR (vx c.G tm lo) fun lo=>bR (vx c.G tm hi) fun hi=>bR (vx c.G tm mx) fun mx=>xO ti a lo hi mx h nx
def BN (t:TypeId)(x:Operand) (k:Nat)(tm:Tr AV)(h:Tr ABlk) (nx:Nat):R:=bR (c.tt.get t) fun ti=>bR (aL c.G tm x) fun a=>xy ti a k h nx
def BT (t:TypeId)(x:Operand) (k:Nat)(tm:Tr AV)(h:Tr ABlk) (nx:Nat):R:=bR (c.tt.get t) fun ti=>bR (aL c.G tm x) fun a=>xD ti a k h nx
def Cg (t:TypeId)(x i:Operand)(tm:Tr AV)(h:Tr ABlk) (nx:Nat):R:=bR (c.tt.get t) fun ti=>bR (aL c.G tm x) fun a=>bR (aL c.G tm i) fun b=>kh ti a b h nx
def Ce (t:TypeId)(x i:Operand)(tm:Tr AV)(h:Tr ABlk) (nx:Nat):R:=bR (c.tt.get t) fun ti=>bR (aL c.G tm x) fun a=>bR (aL c.G tm i) fun b=>uy ti a b h nx
def B8 (t:TypeId)(m k:Operand)(ok:Bool)(tm:Tr AV)(h:Tr ABlk) (nx:Nat):R:=bR (c.tt.get t) fun ti=>bR (aL c.G tm m) fun a=>bR (aL c.G tm k) fun b=>xv ti (c.tt.get (Hq ti)) (c.tt.get (RP ti)) (Hq ti) (RP ti) ok a b h nx
def um (t:TypeId)(m k v:Operand)(tm:Tr AV)(h:Tr ABlk) (nx:Nat):R:=bR (c.tt.get t) fun ti=>bR (aL c.G tm m) fun a=>bR (aL c.G tm k) fun b=>bR (aL c.G tm v) fun d=>KO ti (c.tt.get (Hq ti)) (Hq ti) a b d h nx
def JF (x:Operand)(ta:TypeId)(ok:Bool)(tm:Tr AV)(h:Tr ABlk) (nx:Nat):R:=bR (c.tt.get ta) fun ti=>bR (aL c.G tm x) fun a=>zA ti ta ok a h nx
def B3 (x:Operand) (k:Nat)(tm:Tr AV)(h:Tr ABlk) (nx:Nat):R:=bR (aL c.G tm x) fun a=>xK a k h nx
def zxj (argTypes:Array TypeId)(l:List AV)(h:Tr ABlk) (nx:Nat):R:=bR argTypes.toList.head? fun t=>bR (c.tt.get t) fun ti=>match l with
   |[a]=>k8 ti a h nx
   |_=>.fail
def zNm (argTypes:Array TypeId)(l:List AV)(h:Tr ABlk) (nx:Nat):R:=bR argTypes.toList.head? fun t=>bR (c.tt.get t) fun ti=>match l with
   |[a]=>zp ti a h nx
   |_=>.fail
def R7 (argTypes:Array TypeId)(l:List AV)(h:Tr ABlk) (nx:Nat):R:=match argTypes.toList with
   |[t,u]=>bR (c.tt.get t) fun ti=>bR (c.tt.get u) fun tu=>match l with
    |[a,b]=>Mh ti tu (c.tt.get (kW ti)) (kW ti) a b h nx
    |_=>.fail
   |_=>.fail
def zP2 (argTypes:Array TypeId)(l:List AV)(h:Tr ABlk) (nx:Nat):R:=bR argTypes.toList.head? fun t=>bR (c.tt.get t) fun ti=>match l with
   |[a,b]=>Rf ti (c.tt.get (kW ti)) (kW ti) a b h nx
   |_=>.fail
def ID (l:List AV)(h:Tr ABlk) (nx:Nat):R:=match l with
   |[a]=>Q1 a h nx
   |_=>.fail
def IE (argTypes:Array TypeId)(l:List AV)(h:Tr ABlk) (nx:Nat):R:=match argTypes.toList with
   |[t,_]=>bR (c.tt.get t) fun ti=>match l with
    |[a,b]=>H6 ti a b h nx
    |_=>.fail
   |_=>.fail
def IC (b:Builtin)(argTypes:Array TypeId):List AV→Tr ABlk→Nat→R:=match b with
  |.len=>zxj c argTypes
  |.cap=>zNm c argTypes
  |.append=>R7 c argTypes
  |.copy=>zP2 c argTypes
  |.max=>qs true
  |.min=>qs false
  |.unsafeSliceData=>ID
  |.unsafeString=>IE c argTypes
  |_=>fun _ _ _=>.fail
def XQ (_:Tr AV)(_:Tr ABlk) (_:Nat):R:=.fail
def BI (b:Builtin)(args:Array Operand)(argTypes:Array TypeId)(tm:Tr AV)(h:Tr ABlk) (nx:Nat):R:=bR (dz c.G tm args.toList) fun l=>IC c b argTypes l h nx
def Lq (cl:Call):Tr AV→Tr ABlk→Nat→R:=match cl.callee with
  |.builtin b=>BI c b cl.args cl.argTypes
  |_=>XQ
def k7 (op:Op):Tr AV→Tr ABlk→Nat→R:=
 match op with
 |.move x=>kX c x
 |.assign x=>kX c x
 |.pick x a b=>dN c x a b
 |.alloc e=>KX c e
 |.box e x=>BL c e x
 |.build t ps=>Ks c t ps
 |.buildSlice t n ps=>Lg c t n ps
 |.load t x=>Cb c t x
 |.store t x y=>K9 c t x y
 |.nilCheck x=>BD c x
 |.binOp op t x y _=>BW c op t x y
 |.unOp op _ x=>Bp c op x
 |.convert s d x=>sd c s d x
 |.makeInterface t x=>K4 c t x
 |.makeFunc fn first cap=>xE c fn first cap
 |.makeMap _ r=>Lk r
 |.makeSlice t l cp=>Eb c t l cp
 |.slice t x lo hi mx=>Cj c t x lo hi mx
 |.fieldAddr t x k=>BN c t x k
 |.field t x k=>BT c t x k
 |.indexAddr t x i=>Cg c t x i
 |.index t x i=>Ce c t x i
 |.lookup t m k ok=>B8 c t m k ok
 |.mapUpdate t m k v=>um c t m k v
 |.insert t m k v=>um c t m k v
 |.typeAssert x _ ta ok=>JF c x ta ok
 |.extract x k=>B3 c x k
 |.call cl=>Lq c cl
 |_=>XQ
end
end
section
variable {P : Program} {σ τ υ : Sg} {h g f : Tr ABlk} {nx ny nz : Nat} {w x y : World}
def RO (P:Program)(G:Gl)(σ:Sg)(h:Tr ABlk) (nx:Nat)(w:World)(m:Sem Next):R→Prop
 |.val v g ny=>∃V τ x,m.run P w=.ok (.value V) x∧av τ v V∧Post G σ h nx w τ g ny x
 |.unit g ny=>∃τ x,m.run P w=.ok .skip x∧Post G σ h nx w τ g ny x
 |.fail=>True
def RO.ofV {G:Gl}{m:Sem Value}{r:R}(hm:RV P G σ h nx w m r):RO P G σ h nx w (do pure (.value (← m))) r:=by
 cases r with
 |fail=>trivial
 |unit _ _=>exact hm.elim
 |val v g ny=>
  obtain⟨V,τ,x,h1,h2,h3⟩:=hm;exact⟨V,τ,x,by simp[h1],h2,h3⟩
def RO.ofU {G:Gl}{m:Sem Unit}{r:R}(hm:RU P G σ h nx w m r):RO P G σ h nx w (do m;pure .skip) r:=by
 cases r with
 |fail=>trivial
 |val _ _ _=>exact hm.elim
 |unit g ny=>
  obtain⟨τ,x,h1,h2⟩:=hm;exact⟨τ,x,by simp[h1],h2⟩
def RO.pure {G:Gl}(hk:Ok G σ h nx w){m:Sem Next}{V:Value}{v:AV}(hm:m.run P w=.ok (.value V) w)(hr:av σ v V):RO P G σ h nx w m (.val v h nx):=
 ⟨V,σ,w,hm,hr,.refl hk⟩
def bo {G:Gl}{α:Type}{m:Sem Next}{o:Option α}{k:α→R}(hh:∀v,o=some v→RO P G σ h nx w m (k v)):RO P G σ h nx w m (bR o k):=by
 cases o with
 |none=>trivial
 |some v=>exact hh v rfl
variable {c : Cx} {tm : Tr AV} {a : Act}
def zz0 {G:Gl}{i n esz:Nat}{e:TypeId}{cc:Tr AV}{opn:Bool}(hk:Ok G σ h nx w)(hg:h.get i=some (.cells e n cc opn esz)){b:Nat}(hb:σ.blk i=some b):
  ∃m,n≤m∧(opn=false→m=n)∧w.shape? b=some (e,m):=by
 obtain⟨b',C,fr,aV,aE,_,_,bC⟩:=hk.cells hg;rw[hb]at aV;cases aV;refine⟨C.size,by split at bC <;> omega,fun e1=>by subst e1;simpa using bC,by simp[World.shape?,aE]⟩
def XK {b o m:Nat}{e:TypeId}(hs:w.shape? b=some (e,m)):(Conv.seenAt ⟨b,o,none⟩).run P w=.ok ⟨b,o,none⟩ w:=by
 simp[Conv.seenAt,viewAt,shape,Sem.run,hs]
def zSr {G:Gl}(hk:Ok G σ h nx w){s d:TypeId}{ts td:TI}(e9:cT P s ts)(nM:cT P d td)(hu:Bf td=true){v:AV}{V:Value}(hv:av σ v V):RV P G σ h nx w (convert s d V) (DZ ts v h nx):=by
 cases td with
 |mk dd d1 d2 d3 d4=>
 cases dd <;> try (cases hu;done)
 obtain⟨lJ,_⟩:=nM;unfold DZ;split
 ·rename_i t' q1 q2 q3 o0 s0 b0 fs;obtain⟨lK,inf,hi,A7,oe,fu,hf,ij,nC⟩:=e9;have ef:=nC t' (.inr (.inr rfl)) o0 s0 b0 rfl;obtain⟨⟨it,hit,Oh⟩,_⟩:=ef;cases pV:Nat.beq s0 0 with
  |true=>trivial
  |false=>
   have tK:=nU pV;cases v <;> try trivial
   ·simp only[av]at hv;subst hv;refine SV.pure hk (V:=.pointer none) ?_ (by simp only[av]);simp[convert,run_underlying lK,run_underlying lJ,Conv.unsafePointer]
   ·rename_i i o;have bM:=hv;simp only[av]at hv;obtain⟨b,hb,e⟩:=hv;subst e;simp only;split
    ·rename_i e n cc opn esz hg;cases hle:Nat.ble (Nat.succ o) n with
     |false=>trivial
     |true=>
      have ay:o<n:=ai hle;obtain⟨m,hm,_,tO⟩:=zz0 hk hg hb;have gE:¬m≤o:=(by omega);refine SV.pure hk (V:=.pointer (some ⟨b,o,none⟩)) ?_ bM;simp[convert,run_underlying lK,run_underlying lJ,Conv.unsafePointer,XK tO,cellsIn,shape,Sem.run,tO,oA hit,Oh,tK,gE]
    ·trivial
 ·trivial
def zSj (hc:CxOk P c)(hk:Ok c.G σ h nx w){s d:TypeId}{ts td:TI}(e9:cT P s ts)(nM:cT P d td)(hu:Bf ts=true){v:AV}{V:Value}(hv:av σ v V):RV P c.G σ h nx w (convert s d V) (H2 c d td v h nx):=by
 cases ts with
 |mk ds d1 d2 d3 d4=>
 cases ds <;> try (cases hu;done)
 obtain⟨lK,_⟩:=e9;unfold H2;split
 ·rename_i u q1 q2 q3 p0 q4;obtain⟨o0,su,b0⟩:=p0;obtain⟨lJ,qat,_,_,_,_,_,_,nC⟩:=nM;have ef:=nC u (.inr (.inr rfl)) o0 su b0 rfl;obtain⟨⟨iu,hiu,qai⟩,_⟩:=ef;cases v <;> try trivial
  ·simp only[av]at hv;subst hv;refine SV.pure hk (V:=.pointer none) ?_ (by simp only[av]);simp[convert,run_underlying lK,run_underlying lJ,Conv.unsafePointer]
  ·rename_i i o;have bM:=hv;simp only[av]at hv;obtain⟨b,hb,e⟩:=hv;subst e;simp only;split
   ·rename_i e n cc esz hg;split
    ·rename_i de se b1 b2 b3 jb;obtain⟨_,ie,Oc,tL,_⟩:=hc.tt e _ jb;cases hl:c.lies e (Nat.div n se) o u with
     |false=>trivial
     |true=>
      have Gi:=hc.lies e (Nat.div n se) o u hl;obtain⟨m,_,hm,tO⟩:=zz0 hk hg hb;have wK:=hm rfl;subst wK;have NO:P.cellsOf e=se:=by simp[Program.cellsOf,Oc,tL]
      have Df:(variablesAt ⟨b,o,none⟩ u 1).run P w=.ok true w:=by
       have AJ:liesAt P P.depth e (m / se) o u 1=true:=Gi;simp[variablesAt,shape,Sem.run,tO,NO,AJ]
      refine SV.pure hk (V:=.pointer (some ⟨b,o,none⟩)) ?_ bM;simp[convert,run_underlying lK,run_underlying lJ,Conv.unsafePointer,XK tO,oA hiu,Df]
    ·trivial
   ·trivial
 ·trivial
def Si (hc:CxOk P c)(hk:Ok c.G σ h nx w)(ht:kE σ tm a)(o:Oper):RO P c.G σ h nx w (execOp a.eval o) (k7 c o.op tm h nx):=by
 obtain⟨dst,op,type,pos,after,guard⟩:=o;have he:∀{x v},aL c.G tm x=some v→av σ v (a.eval x):=fun e=>kH hk ht e;have hT:∀(t:TypeId) (ti:TI),c.tt.get t=some ti→cT P t ti:=hc.tt;show RO P c.G σ h nx w (execOp a.eval _) (k7 c op tm h nx);unfold k7;cases op <;> try trivial
 ·exact bo fun v e=>RO.pure hk rfl (he e)
 ·exact bo fun v e=>RO.pure hk rfl (he e)
 ·rename_i x b d;refine bo fun v e=>?_;have hv:=he e;split
  ·simp only[av]at hv;exact bo fun v e=>RO.pure hk (by simp[execOp,hv,asBool]) (he e)
  ·simp only[av]at hv;exact bo fun v e=>RO.pure hk (by simp[execOp,hv,asBool]) (he e)
  ·trivial
 ·exact bo fun ti e=>RO.ofV (zJd hk _ (hT _ _ e))
 ·exact bo fun v e=>RO.ofV (zP4 hk _ (he e))
 ·refine bo fun ti e=>bo fun l e2=>RO.ofV (zRm hk _ (hT _ _ e) ?_);have:=LJ hk ht e2;simpa using this
 ·refine bo fun ti e=>bo fun l e2=>RO.ofV (zEl hk _ (hT _ _ e) (hT _) _ ?_);have:=LJ hk ht e2;simpa using this
 ·exact bo fun ti e=>bo fun m e1=>bo fun k e2=>bo fun v e3=>RO.ofU (zF7 hk _ (hT _ _ e) (hT _) (he e1) (he e2) (he e3))
 ·exact bo fun ti e=>bo fun v e1=>RO.ofV (zSc hk _ (hT _ _ e) (he e1))
 ·exact bo fun ti e=>bo fun v e1=>bo fun u e2=>RO.ofU (Yw hk _ (hT _ _ e) (he e1) (he e2))
 ·refine bo fun v e=>?_;have hv:=he e;split
  ·have bM:=hv;simp only[av]at hv;obtain⟨b,_,e1⟩:=hv;exact RO.pure hk (by simp[execOp,e1]) bM
  ·have bM:=hv;simp only[av]at hv;obtain⟨A,C,e1,_⟩:=hv;exact RO.pure hk (by simp[execOp,e1]) bM
  ·have bM:=hv;simp only[av]at hv;obtain⟨b,_,_,_,e1,_⟩:=hv;exact RO.pure hk (by simp[execOp,e1]) bM
  ·trivial
 ·exact bo fun ti e=>bo fun v e1=>bo fun u e2=>RO.ofV (zQ5 hk _ (hT _ _ e) (hc.eq _) _ (he e1) (he e2) _ _)
 ·exact bo fun v e=>RO.ofV (zG0 hk _ (he e))
 ·refine bo fun ts e=>bo fun td e1=>?_;split
  ·refine bo fun ts' e'=>bo fun td' jF=>bo fun v e2=>?_;split
   ·exact RO.ofV (zUg hk (hT _ _ e') (hT _ _ jF) (hT _) (he e2))
   ·exact RO.ofV (zU2 hk (hT _ _ e') (hT _ _ jF) (hT _) (he e2))
  ·rename_i Vr kz;exact bo fun v e2=>RO.ofV (zSr hk (hT _ _ e) (hT _ _ e1) Vr (he e2))
  ·rename_i Vr kz;exact bo fun v e2=>RO.ofV (zSj hc hk (hT _ _ e) (hT _ _ e1) kz (he e2))
  ·trivial
 ·exact bo fun ti e=>bo fun v e1=>RO.ofV (zJ0 hk _ (hT _ _ e) (he e1))
 ·rename_i fn first cap
  cases fn <;> try trivial
  refine bo fun l e=>bo fun l2 e2=>RO.pure hk rfl ?_;simp only[av];exact⟨first.toList.map a.eval,cap.toList.map a.eval,by
   have EK:∀(q:Array Operand),q.map a.eval=(q.toList.map a.eval).toArray:=fun q=>by apply Array.ext';simp
   rw[← EK,← EK],uv hk ht e,uv hk ht e2⟩
 ·rename_i t r;cases r with
  |some x=>trivial
  |none=>exact RO.ofV (zM1 hk t)
 ·exact bo fun ti e=>bo fun v e1=>bo fun u e2=>RO.ofV (zNr hk _ (hT _ _ e) (hT _) (he e1) (he e2))
 ·exact bo fun ti e=>bo fun v e1=>bo fun lo e2=>bo fun hi e3=>bo fun mx e4=>RO.ofV (zRi hk _ (hT _ _ e) (he e1) (Tw hk ht e2) (Tw hk ht e3) (Tw hk ht e4))
 ·exact bo fun ti e=>bo fun v e1=>RO.ofV (zHc hk _ (hT _ _ e) (he e1) _)
 ·exact bo fun ti e=>bo fun v e1=>RO.ofV (zNh hk _ (hT _ _ e) (he e1) _)
 ·exact bo fun ti e=>bo fun v e1=>bo fun u e2=>RO.ofV (zM6 hk _ (hT _ _ e) (he e1) (he e2))
 ·exact bo fun ti e=>bo fun v e1=>bo fun u e2=>RO.ofV (zSs hk _ (hT _ _ e) (he e1) (he e2))
 ·exact bo fun ti e=>bo fun v e1=>bo fun u e2=>RO.ofV (zJa hk _ (hT _ _ e) (hT _) (hT _) _ (he e1) (he e2))
 ·exact bo fun ti e=>bo fun m e1=>bo fun k e2=>bo fun v e3=>RO.ofU (zF7 hk _ (hT _ _ e) (hT _) (he e1) (he e2) (he e3))
 ·exact bo fun ti e=>bo fun v e1=>RO.ofV (zTg hk _ _ (hT _ _ e) _ (he e1))
 ·exact bo fun v e=>RO.ofV (zQ2 hk (he e) _)
 ·rename_i cl;obtain⟨callee,args,argTypes⟩:=cl;cases callee <;> try trivial
  rename_i b;show RO P c.G σ h nx w _ (BI c b args argTypes tm h nx);refine bo fun l e=>?_;have hl:=uv hk ht e;have hx:∀r,RO P c.G σ h nx w (builtin b argTypes type (args.map fun |.const _=>true |_=>false) (args.map a.eval)) r→RO P c.G σ h nx w (execOp a.eval ⟨dst,.call ⟨.builtin b,args,argTypes⟩,type,pos,after,guard⟩) r:=fun r hr=>by
   have e1:execOp a.eval ⟨dst,.call ⟨.builtin b,args,argTypes⟩,type,pos,after,guard⟩=builtin b argTypes type (args.map fun |.const _=>true |_=>false) (args.map a.eval):=by
    rfl
   rw[e1];exact hr
  have Pd:∀t,argTypes.toList.head?=some t→argTypes[0]?=some t:=fun t e=>by
   rw[← Array.getElem?_toList,← List.head?_eq_getElem?];exact e
  have one:∀{A:AV},aC σ [A] (args.toList.map a.eval)→∃V,args.map a.eval=#[V]∧av σ A V:=fun {A} hr=>by
   simp only[aC]at hr;obtain⟨V,L,e1,e2,e3⟩:=hr;subst e3;refine⟨V,?_,e2⟩;apply Array.ext';simpa using e1
  have two:∀{A B:AV},aC σ [A,B] (args.toList.map a.eval)→∃V U,args.map a.eval=#[V,U]∧av σ A V∧av σ B U:=fun {A B} hr=>by
   simp only[aC]at hr;obtain⟨V,L,e1,e2,U,L2,e3,e4,e5⟩:=hr;subst e5;subst e3;refine⟨V,U,?_,e2,e4⟩;apply Array.ext';simpa using e1
  have arr:args.map a.eval=(args.toList.map a.eval).toArray:=by
   apply Array.ext';simp
  cases b <;> try trivial
  ·
   show RO P c.G σ h nx w _ (R7 c argTypes l h nx);unfold R7;split
   ·rename_i t u e9;refine bo fun ti e1=>bo fun tu e2=>?_;split
    ·rename_i A B;obtain⟨V,U,e3,r1,r2⟩:=two hl;have tR:argTypes=#[t,u]:=by apply Array.ext';simpa using e9
     refine hx _ (RO.ofV ?_);rw[e3,tR];exact XE hk t u type (hT _ _ e1) (hT _ _ e2) (hT _) r1 r2
    ·trivial
   ·trivial
  ·
   refine bo fun t e1=>bo fun ti e2=>?_;split
   ·obtain⟨V,e3,r1⟩:=one hl;refine hx _ (RO.ofV ?_);rw[e3];exact zQu hk (hT _ _ e2) r1 argTypes (Pd _ e1) type
   ·trivial
  ·
   refine bo fun t e1=>bo fun ti e2=>?_;split
   ·obtain⟨V,U,e3,r1,r2⟩:=two hl;refine hx _ (RO.ofV ?_);rw[e3];exact zGz hk t (hT _ _ e2) (hT _) argTypes (Pd _ e1) type r1 r2
   ·trivial
  ·
   refine bo fun t e1=>bo fun ti e2=>?_;split
   ·obtain⟨V,e3,r1⟩:=one hl;refine hx _ (RO.ofV ?_);rw[e3];exact zL0 hk (hT _ _ e2) r1 argTypes (Pd _ e1) type
   ·trivial
  ·refine hx _ (RO.ofV ?_);rw[arr];exact zxw hk true argTypes type hl
  ·refine hx _ (RO.ofV ?_);rw[arr];exact zxw hk false argTypes type hl
  ·
   show RO P c.G σ h nx w _ (ID l h nx);unfold ID;split
   ·obtain⟨V,e3,r1⟩:=one hl;refine hx _ (RO.ofV ?_);rw[e3];exact zJp hk argTypes type r1
   ·trivial
  ·
   show RO P c.G σ h nx w _ (IE c argTypes l h nx);unfold IE;split
   ·rename_i t u e9;refine bo fun ti e1=>?_;split
    ·obtain⟨V,U,e3,r1,r2⟩:=two hl;have tR:argTypes=#[t,u]:=by apply Array.ext';simpa using e9
     refine hx _ (RO.ofV ?_);rw[e3,tR];exact zU5 hk (hT _ _ e1) u type r1 r2
    ·trivial
   ·trivial
end
section
variable {P : Program} {G : Gl} {c : Cx} {σ τ υ : Sg} {h g f : Tr ABlk} {nx ny nz : Nat} {w x y : World} {tm : Tr AV} {a : Act}
def toL (c:Tr AV) (n:Nat):List AV:=(List.range n).map fun k=>(c.get k).getD (.tup [])
def bx (t:TypeId)(l:List AV)(opn:Bool) (esz:Nat):ABlk:=.cells t l.length (eu l .nil 0) opn esz
def fX (l:List AV) (k:Nat):(eu l .nil 0).get k=l[k]?:=by
 rw[qo];split
 ·simp
 ·rw[List.getElem?_eq_none (by omega)];rfl
def zKg (l:List AV):toL (eu l .nil 0) l.length=l:=by
 apply List.ext_getElem?;intro k;simp only[toL,List.getElem?_map,fX]
 by_cases hk:k<l.length
 ·simp[hk]
 ·simp[Nat.not_lt.1 hk]
def vr (c:Tr AV) (n:Nat):(toL c n).length=n:=by simp[toL]
def BE:ABlk→ABlk→Prop
 |.cells e n c opn esz,B=>∃c',B=.cells e n c' opn esz∧∀k,k<n→c'.get k=c.get k
 |A,B=>A=B
def BE.refl (A:ABlk):BE A A:=by cases A <;> first |rfl |exact⟨_,rfl,fun _ _=>rfl⟩
def cq.be {i:Nat}{A B:ABlk}{o:Obj}(hb:BE A B)(hr:cq σ i A o):cq σ i B o:=by
 cases A <;> try (cases hb;exact hr)
 rename_i e n c opn esz;obtain⟨c',e1,h1⟩:=hb;subst e1;simp only[cq]at hr ⊢;obtain⟨C,fr,e2,h2,h3,h4⟩:=hr;refine⟨C,fr,e2,fun k hk=>?_,h3,h4⟩;obtain⟨v,V,q1,q2,q3⟩:=h2 k hk;exact⟨v,V,by rw[h1 k hk];exact q1,q2,q3⟩
def HE (h g:Tr ABlk):Prop:=∀i B,g.get i=some B→∃A,h.get i=some A∧BE A B
def Ok.he (hk:Ok G σ h nx w)(he:HE h g):Ok G σ g nx w:=by
 refine⟨hk.glob,hk.le,hk.fresh,fun i j b B B' h1 h2 h3 h4=>?_,fun i B h1=>?_,fun b C hb=>⟨(hk.imm b C hb).1,fun i B h1=>?_⟩,hk.gl⟩
 ·obtain⟨A,a1,_⟩:=he i B h1;obtain⟨A',a2,_⟩:=he j B' h2;exact hk.inj i j b A A' a1 a2 h3 h4
 ·obtain⟨A,a1,a2⟩:=he i B h1;obtain⟨b,o,q1,q2,q3⟩:=hk.blk i A a1;exact⟨b,o,q1,q2,q3.be a2⟩
 ·obtain⟨A,a1,a2⟩:=he i B h1;exact(hk.imm b C hb).2 i A a1
def Post.he (p:Post G σ h nx w τ g ny x)(he:HE g f):Post G σ h nx w τ f ny x:=by
 refine⟨p.ok.he he,p.le,⟨p.fr.os,p.fr.tape,p.fr.output,p.fr.size,p.fr.keep,fun i B b h1 h2=>?_,p.fr.imm⟩,p.nx⟩;obtain⟨A,a1,_⟩:=he i B h1;exact p.fr.own i A b a1 h2
def HE.put {h:Tr ABlk}{i:Nat}{A B:ABlk}(hb:BE A B):HE (h.put i (some A)) (h.put i (some B)):=by
 intro j B' hj;rw[Tr.get_put]at hj ⊢
 by_cases e:j=i
 ·rw[if_pos e]at hj ⊢;cases hj;exact⟨A,rfl,hb⟩
 ·rw[if_neg e]at hj ⊢;exact⟨B',hj,.refl B'⟩
def KY (ti:TI)(a v:AV)(h:Tr ABlk) (nx:Nat):R:=
 match ti with
 |.mk _ size _ _ _=>
  match a with
  |.ptr i o=>
   match h.get i with
   |some (.cells e n c opn esz)=>
    match dS v.cells && Nat.beq v.cells.length size && Nat.ble (Nat.add o size) n with
    |true=>.unit (h.put i (some (bx e (aI (toL c n) o v.cells) opn esz))) nx
    |false=>.fail
   |_=>.fail
  |_=>.fail
def zGw (hk:Ok G σ h nx w)(t:TypeId){ti:TI}(ht:cT P t ti){a v:AV}{A V:Value}(ha:av σ a A)(hv:av σ v V):RU P G σ h nx w (Instr.storeAt t A V) (KY ti a v h nx):=by
 have h0:=Yw hk t ht ha hv;cases ti with
 |mk d size bytes zero fs=>
 unfold KY;cases a <;> try trivial
 rename_i i o;simp only;split
 ·rename_i e n c opn esz hg;split
  ·rename_i hb;simp only[ao]at hb;obtain⟨⟨b1,b2⟩,b3⟩:=hb;unfold KD at h0;simp only[hg,b1,b2,b3,lP,Tr.putK_eq]at h0;obtain⟨τ,x,q1,q2⟩:=h0;refine⟨τ,x,q1,q2.he (HE.put ?_)⟩;have e2:=ad b2;have e3:o+size≤n:=ai b3;have hlen:(aI (toL c n) o v.cells).length=n:=by rw[Q8 (by rw[vr];omega),vr]
   refine⟨eu (aI (toL c n) o v.cells) .nil 0,by rw[bx,hlen],fun k aW=>?_⟩;obtain⟨b',C,fr,_,_,aJ,_,_⟩:=hk.cells hg;rw[fX,Y2 (by rw[vr];omega),qo];split
   ·rfl
   ·obtain⟨u,_,hu,_⟩:=aJ k aW;rw[hu];simp[toL,aW,hu]
  ·trivial
 ·trivial
def HX (ti tu:TI)(te:Option TI)(et:TypeId)(s x:AV)(h:Tr ABlk) (nx:Nat):R:=
 match ti,tu,te with
 |.mk d _ _ _ _,.mk du _ _ _ _,some (.mk _ size bytes (some _) _)=>match d with
  |.slice e=>match Nat.beq e et && zx du && Nat.ble bytes 65536 && Nat.ble 1 size with
   |false=>.fail
   |true=>match rB size x h with
    |none=>.fail
    |some (m,news)=>match dS news with
     |false=>.fail
     |true=>match s with
      |.sl0=>match Nat.beq m 0 with
       |true=>.val .sl0 h nx
       |false=>match Nat.ble m 16777216 with
        |true=>.val (.sl nx 0 m 0 true) (h.put nx (some (bx e news true size))) (nx+1)
        |false=>.fail
      |.fz es full xs=>match Nat.beq es size && full with
       |false=>.fail
       |true=>match Nat.beq m 0 with
        |true=>.val (.fz es true xs) h nx
        |false=>match Nat.ble (Nat.add xs.length m) 16777216 with
         |true=>.val (.sl nx 0 (xs.length+m) 0 true) (h.put nx (some (bx e (xs.flatMap AV.cells++news) true size))) (nx+1)
         |false=>.fail
      |.sl i o len cp opn=>match h.get i with
       |some (.cells e' n cs bD esz)=>match Nat.ble (Nat.add len m) 16777216 with
        |false=>.fail
        |true=>match opn with
         |true=>match Nat.beq o 0 && Nat.beq cp 0 && bD && Nat.beq esz size && Nat.beq e' e && Nat.beq (Nat.mul len size) n with
          |true=>.val (.sl nx 0 (len+m) 0 true) ((h.put i none).put nx (some (bx e (toL cs n++news) true size))) (nx+1)
          |false=>.fail
         |false=>match Nat.beq cp len && Nat.ble (Nat.add o (Nat.mul len size)) n with
          |false=>.fail
          |true=>match Nat.beq m 0 with
           |true=>.val (.sl i o len cp false) h nx
           |false=>.val (.sl nx 0 (len+m) 0 true) (h.put nx (some (bx e (((toL cs n).drop o).take (Nat.mul len size)++news) true size))) (nx+1)
       |_=>.fail
      |_=>.fail
  |_=>.fail
 |_,_,_=>.fail
def zOd {c:Tr AV}{n k:Nat}{v:AV}(hk:k<n)(hv:c.get k=some v):(toL c n)[k]?=some v:=by simp[toL,hk,hv]
def R8 {c:Tr AV}:∀{n o:Nat}{l:List AV},l.length=n→(∀k,k<n→c.get (o+k)=l[k]?)→ji c n o=some l
 |0,o,l,e,_=>by
  have:l=[]:=au e;subst this;rfl
 |n+1,o,l,e,h=>by
  cases l with
  |nil=>simp at e
  |cons v l=>
   have h0:=h 0 (by omega);have ih:=R8 (c:=c) (n:=n) (o:=o+1) (l:=l) (by simpa using e) fun k hk=>by
    have:=h (k+1) (by omega);rw[show o+(k+1)=o+1+k by omega]at this;simpa using this
   show (match c.get o with
    |some v=>fN (Nat.succ o) fun o'=>(match ji c n o' with |some l=>some (v::l) |none=>none)
    |none=>none)=_
   simp only[Nat.add_zero,List.getElem?_cons_zero]at h0;rw[h0];simp only[fN_eq];rw[show Nat.succ o=o+1 from rfl,ih]
def SV.he {m:Sem Value}{v:AV}(hs:SV P G σ h nx w m v g ny)(he:HE g f):SV P G σ h nx w m v f ny:=by
 obtain⟨V,τ,x,q1,q2,q3⟩:=hs;exact⟨V,τ,x,q1,q2,q3.he he⟩
def Ro {a b:Nat}(h:b<a):Nat.ble a b=false:=by
 cases e:Nat.ble a b with
 |false=>rfl
 |true=>have:=ai e;omega
def zKl (hk:Ok G σ h nx w)(t u ty:TypeId){ti tu:TI}(ht:cT P t ti)(Jr:cT P u tu){te:Option TI}{et:TypeId}(jb:∀ti,te=some ti→cT P et ti){s x:AV}{S X:Value}(hs:av σ s S)(hx:av σ x X):
  RV P G σ h nx w (Builtin.append_ #[t,u] ty #[S,X]) (HX ti tu te et s x h nx):=by
 have h0:=XE hk t u ty ht Jr jb hs hx;unfold HX;split
 ·rename_i d q1 q2 q3 q4 du q5 q6 q7 q8 de size bytes z PE;clear ht Jr jb;cases d <;> try trivial
  rename_i e;simp only;split
  ·trivial
  ·rename_i hb;simp only[ao]at hb;obtain⟨⟨⟨b1,b2⟩,b3⟩,b4⟩:=hb;have ye:1≤size:=ai b4;unfold Mh at h0;simp only[b1,b2,b3]at h0;split
   ·trivial
   ·rename_i m news wV;obtain⟨NL,cS,dt,_⟩:=Zr (P:=P) hk hx wV;simp only[wV]at h0;split
    ·trivial
    ·rename_i mj;simp only[mj]at h0;cases s <;> try trivial
     ·
      simp only at h0 ⊢;split
      ·rename_i hm;simp only[hm]at h0;exact h0
      ·rename_i hm;simp only[hm]at h0;split
       ·rename_i qW;simp only[qW,zd,lP,fN_eq,Tr.putK_eq]at h0;have e1:Nat.mul m size=news.length:=dt.symm;rw[e1]at h0;exact h0
       ·trivial
     ·
      rename_i i o len cp opn;simp only at h0 ⊢;split
      ·rename_i e' n cs bD esz hg;obtain⟨b',C,fr,aV,aE,aJ,_,_⟩:=hk.cells hg;have Jq:∀k,k<n→cs.get k=(toL cs n)[k]?:=by
        intro k aW;obtain⟨v,_,hv,_⟩:=aJ k aW;rw[hv,zOd aW hv]
       split
       ·trivial
       ·rename_i tD;simp only[tD,hg]at h0;cases opn with
        |true=>
         simp only at h0 ⊢;split
         ·rename_i aQ;simp only[ao]at aQ;obtain⟨⟨⟨⟨⟨a1,a2⟩,a3⟩,a4⟩,a5⟩,a6⟩:=aQ;have oM:=ad a1;have Cu:=ad a2;have TQ:=ad a4;have a5':=ad a5;have TR:len * size=n:=ad a6;subst oM;subst Cu;subst a3;subst TQ;subst a5';have wI:Nat.ble (Nat.add 0 (Nat.mul len esz)) n=true:=Nat.ble_eq_true_of_le (by show 0+len * esz≤n;omega);simp only[wI,Nat.beq_refl,Bool.and_self,b4]at h0
          by_cases hm:m=0
          ·subst hm;have tE:news=[]:=au (by rw[dt];simp);subst tE;have bG:Nat.ble (Nat.mul (Nat.add len 0) esz) n=true:=Nat.ble_eq_true_of_le (by show (len+0) * esz≤n;simp;omega);simp only[bG,lP,Tr.putK_eq,fN_eq,eu]at h0;obtain⟨V,τ,y,r1,r2,r3⟩:=h0;have U2:((h.put i (some (ABlk.cells e' n cs true esz))).get i)=some (.cells e' n cs true esz):=by rw[Tr.get_put,if_pos rfl]
           simp only[av]at r2;obtain⟨bb,CZ,eV,hle⟩:=r2;obtain⟨bb',oo,wt,hoo,Vn⟩:=r3.ok.blk i _ U2;rw[CZ]at wt;cases wt;have ay:i<nx:=hk.lt hg;have O3:cq (τ.add nx bb (τ.cap i)) nx (.cells e' n cs true esz) oo:=by
            have nH:τ.Le (τ.add nx bb (τ.cap i)):=Sg.add_le (r3.ok.fresh nx (ae _));simp only[cq]at Vn ⊢;obtain⟨C2,fr2,e2,k1,k2,k3⟩:=Vn;refine⟨C2,fr2,e2,fun k aW=>?_,k2,?_⟩
            ·obtain⟨v,V',w1,w2,w3⟩:=k1 k aW;exact⟨v,V',w1,w2,w3.mono nH⟩
            ·simpa[Sg.add]using k3
           have hr:=Post.rename r3.ok U2 CZ (.cells e' n cs true esz) oo hoo O3;refine⟨V,_,y,r1,?_,(r3.trans hr).he ?_⟩
           ·simp only[av,if_true]at eV hle ⊢;refine⟨bb,by simp[Sg.add],?_,?_⟩
            ·simpa[Sg.add]using eV
            ·simpa[Sg.add]using hle
           ·intro j B hj;rw[Tr.get_put]at hj ⊢
            by_cases ej:j=nx
            ·rw[if_pos ej]at hj ⊢;cases hj;refine⟨_,rfl,eu (toL cs n++[]) .nil 0,?_,fun k aW=>?_⟩
             ·simp[bx,vr]
             ·rw[fX,List.append_nil];exact(Jq k aW).symm
            ·rw[if_neg ej]at hj ⊢;rw[Tr.get_put]at hj ⊢;split at hj
             ·cases hj
             ·rename_i eX;refine⟨B,?_,.refl B⟩;rw[if_neg eX,Tr.get_put,if_neg eX];exact hj
          ·have bG:Nat.ble (Nat.mul (Nat.add len m) esz) n=false:=Ro (by
            show n<(len+m) * esz;rw[Nat.add_mul];have:1 * 1≤m * esz:=Nat.mul_le_mul (by omega) ye;omega)
           simp only[bG,lP,Tr.putK_eq,fN_eq]at h0;refine SV.he h0 (HE.put ?_);have pR:Nat.mul (Nat.add len m) esz=n+news.length:=by
            show (len+m) * esz=_;rw[Nat.add_mul,dt,TR]
           refine⟨eu (toL cs n++news) .nil 0,by simp only[bx,List.length_append,vr,pR],fun k aW=>?_⟩;rw[pR]at aW;rw[fX,qo];have hmul:Nat.mul len esz=n:=TR;rw[hmul]
           by_cases Gd:k<n
           ·rw[if_neg (by omega),List.getElem?_append_left (by rw[vr];exact Gd),Jq k Gd]
           ·rw[if_pos (by omega),List.getElem?_append_right (by rw[vr];omega),vr]
         ·trivial
        |false=>
         simp only at h0 ⊢;split
         ·trivial
         ·rename_i aQ;simp only[ao]at aQ;obtain⟨a1,a2⟩:=aQ;have oM:=ad a1;subst oM;have Cu:o+cp * size≤n:=ai a2;simp only[a2]at h0
          by_cases hm:m=0
          ·subst hm;have tE:news=[]:=au (by rw[dt];simp);subst tE;have cA:Nat.ble (Nat.add cp 0) cp=true:=Nat.ble_eq_true_of_le (ae _);have bG:Nat.ble (Nat.add o (Nat.mul (Nat.add cp 0) size)) n=true:=a2;simp only[cA,bG,lP,Tr.putK_eq,fN_eq,eu]at h0;simp only[];refine SV.he h0 fun j B hj=>?_;rw[Tr.get_put]
           by_cases ej:j=i
           ·subst ej;rw[hg]at hj;cases hj;exact⟨_,by rw[if_pos rfl],.refl _⟩
           ·rw[if_neg ej];exact⟨B,hj,.refl B⟩
          ·have cA:Nat.ble (Nat.add cp m) cp=false:=Ro (by show cp<cp+m;omega);have wL:Nat.beq m 0=false:=by
            cases e0:Nat.beq m 0 with
            |false=>rfl
            |true=>exact absurd (ad e0) hm
           have F8:ji cs (Nat.mul cp size) o=some (((toL cs n).drop o).take (Nat.mul cp size)):=by
            have hmul:Nat.mul cp size=cp * size:=rfl;refine R8 (by simp[vr];omega) fun k aW=>?_;rw[hmul]at aW;rw[Jq (o+k) (by omega),List.getElem?_take,if_pos (by rw[hmul];exact aW),List.getElem?_drop]
           simp only[cA,F8,zd,lP,Tr.putK_eq,fN_eq]at h0;simp only[wL];have pR:Nat.mul (Nat.add cp m) size=(((toL cs n).drop o).take (Nat.mul cp size)++news).length:=by
            have hmul:Nat.mul cp size=cp * size:=rfl;rw[List.length_append,List.length_take,List.length_drop,vr,dt,hmul,Nat.min_eq_left (by omega)];show (cp+m) * size=_;rw[Nat.add_mul]
           rw[pR]at h0;exact h0
      ·trivial
     ·
      rename_i es full xs;simp only at h0 ⊢;split
      ·trivial
      ·rename_i aQ;simp only[ao]at aQ;obtain⟨a1,a2⟩:=aQ;subst a2;simp only[a1]at h0;split
       ·rename_i hm;simp only[hm]at h0;exact h0
       ·rename_i hm;simp only[hm]at h0;split
        ·rename_i qW;simp only[qW,zd,lP,fN_eq,Tr.putK_eq]at h0;obtain⟨_,_,_,_,_,g2,_⟩:=hk.fz (P:=P) hs;have e0:=ad a1;have e1:Nat.mul (Nat.add xs.length m) size=(xs.flatMap AV.cells++news).length:=by
          rw[List.length_append,g2,dt,← e0];show (xs.length+m) * es=_;rw[Nat.add_mul,e0]
         rw[e1]at h0;exact h0
        ·trivial
 ·trivial
end
section
variable {P : Program} {c : Cx} {σ τ υ : Sg} {h g f : Tr ABlk} {nx ny nz : Nat} {w x y : World} {tm : Tr AV} {a : Act}
def BY (c:Cx)(t:TypeId)(x y:Operand)(tm:Tr AV)(h:Tr ABlk) (nx:Nat):R:=bR (c.tt.get t) fun ti=>bR (aL c.G tm x) fun a=>bR (aL c.G tm y) fun v=>KY ti a v h nx
def xl (c:Cx)(argTypes:List TypeId)(args:List Operand)(tm:Tr AV)(h:Tr ABlk) (nx:Nat):R:=match argTypes with
 |[t,u]=>bR (c.tt.get t) fun ti=>bR (c.tt.get u) fun tu=>match args with
  |[x,y]=>bR (aL c.G tm x) fun a=>bR (aL c.G tm y) fun b=>HX ti tu (c.tt.get (kW ti)) (kW ti) a b h nx
  |_=>.fail
 |_=>.fail
def Ls:Call→Bool
 |⟨.builtin .append,_,_⟩=>true
 |_=>false
def jq (c:Cx)(op:Op):Tr AV→Tr ABlk→Nat→R:=
 match op with
 |.store t x y=>BY c t x y
 |.call cl=>match Ls cl with
  |true=>xl c cl.argTypes.toList cl.args.toList
  |false=>Lq c cl
 |op=>k7 c op
def Rp (hc:CxOk P c)(hk:Ok c.G σ h nx w)(ht:kE σ tm a)(o:Oper):RO P c.G σ h nx w (execOp a.eval o) (jq c o.op tm h nx):=by
 have h0:=Si hc hk ht o;have he:∀{x v},aL c.G tm x=some v→av σ v (a.eval x):=fun e=>kH hk ht e;have hT:∀(t:TypeId) (ti:TI),c.tt.get t=some ti→cT P t ti:=hc.tt;obtain⟨dst,op,type,pos,after,guard⟩:=o;cases op <;> try exact h0
 ·exact bo fun ti e=>bo fun v e1=>bo fun u e2=>RO.ofU (zGw hk _ (hT _ _ e) (he e1) (he e2))
 ·rename_i cl;obtain⟨callee,args,argTypes⟩:=cl;cases callee <;> try exact h0
  rename_i b;cases b <;> try exact h0
  clear h0;show RO P c.G σ h nx w _ (xl c argTypes.toList args.toList tm h nx);unfold xl;split
  ·rename_i t u e9;refine bo fun ti e1=>bo fun tu e2=>?_;split
   ·rename_i x y hxy;refine bo fun A e3=>bo fun B e4=>?_;have tR:argTypes=#[t,u]:=by apply Array.ext';simpa using e9
    have lz:args=#[x,y]:=by apply Array.ext';simpa using hxy
    have e5:execOp a.eval ⟨dst,.call ⟨.builtin .append,args,argTypes⟩,type,pos,after,guard⟩=builtin .append argTypes type (args.map fun |.const _=>true |_=>false) (args.map a.eval):=rfl;rw[e5];refine RO.ofV ?_;have e6:args.map a.eval=#[a.eval x,a.eval y]:=by rw[lz];simp
    rw[e6,tR];exact zKl hk t u type (hT _ _ e1) (hT _ _ e2) (hT _) (he e3) (he e4)
   ·trivial
  ·trivial
end
def dT (r:Option Nat):Fence:={ Fence.wide with round:=r }
def HU {r:Option Nat}{n:Nat}{P:Program}{f:FuncId}{A:Array Value}{w:World}{R:Ending→World→Prop}(h:Calls P f A w R):CallsIn (dT r) n P f A w R:=by
 have:=(callsIn_wide (n:=n)).2 h;exact this
inductive AX where
 |norm
 |exit (id:Nat)
 |ret
def AX.ex:AX→Exit
 |.norm=>.normal
 |.exit id=>.exit id
 |.ret=>.ret
inductive DE where
 |mark (i:Nat)
 |fn (f:FuncId) (first cap:List AV)
inductive AS where
 |mk (tm:Tr AV) (h:Tr ABlk) (nx:Nat) (ds:List DE)
def AS.tm:AS→Tr AV |.mk t _ _ _=>t
def AS.h:AS→Tr ABlk |.mk _ h _ _=>h
def AS.nx:AS→Nat |.mk _ _ n _=>n
def AS.ds:AS→List DE |.mk _ _ _ d=>d
def zy (σ:Sg):List DE→List Deferred→Prop
 |[],D=>D=[]
 |.mark i::l,D=>∃b D',D={ target:=.collected b,args:=#[] }::D'∧σ.blk i=some b∧zy σ l D'
 |.fn f first cap::l,D=>∃F C D',D={ target:=.fn (.func f) C.toArray,args:=F.toArray }::D'∧aC σ first F∧aC σ cap C∧zy σ l D'
def zy.mono {σ τ:Sg}(hl:σ.Le τ):∀{l D},zy σ l D→zy τ l D
 |[],D,h=>h
 |.mark i::l,D,h=>by
  obtain⟨b,D',e,h1,h2⟩:=h;exact⟨b,D',e,(hl.blk i b h1).1,h2.mono hl⟩
 |.fn f a b::l,D,h=>by
  obtain⟨F,C,D',e,h1,h2,h3⟩:=h;exact⟨F,C,D',e,h1.mono hl,h2.mono hl,h3.mono hl⟩
structure St (σ:Sg)(tm:Tr AV)(a:Act) (sz:Nat)(ds:List DE):Prop where
 tm:kE σ tm a
 size:a.tmps.size=sz
 defers:zy σ ds a.defers
variable {P : Program} {c : Cx} {σ τ υ : Sg} {h g f : Tr ABlk} {nx ny nz sz : Nat} {ds : List DE} {w x y : World} {tm : Tr AV} {a : Act}
def kE.mono (hl:σ.Le τ)(ht:kE σ tm a):kE τ tm a:=fun t v e=>(ht t v e).mono hl
def St.mono (hl:σ.Le τ)(ht:St σ tm a sz ds):St τ tm a sz ds:=⟨ht.tm.mono hl,ht.size,ht.defers.mono hl⟩
def St.put (ht:St σ tm a sz ds){d:Nat}(hd:d<sz){v:AV}{V:Value}(hv:av σ v V):St σ (tm.put d (some v)) (a.put (some d) V) sz ds:=by
 refine⟨fun t u e=>?_,by simpa[Act.put]using ht.size,ht.defers⟩;rw[Tr.get_put]at e;have hs:d<a.tmps.size:=by rw[ht.size];exact hd
 by_cases h1:t=d
 ·subst h1;rw[if_pos rfl]at e;cases e;simpa[Act.put,Array.getD_eq_getD_getElem?,hs]using hv
 ·rw[if_neg h1]at e;have:=ht.tm t u e;simpa[Act.put,Array.getD_eq_getD_getElem?,Array.getElem?_setIfInBounds,Ne.symm h1]using this
def AQ (G:Gl)(σ:Sg)(h:Tr ABlk) (nx:Nat)(w:World) (sz:Nat)(Q:AX→AS→Prop)(e:Exit)(a:Act)(x:World):Prop:=
 ∃k tm g ny ds τ,AX.ex k=e∧Post G σ h nx w τ g ny x∧St τ tm a sz ds∧Q k (.mk tm g ny ds)
def AQ.trans {G:Gl}{Q:AX→AS→Prop}{e:Exit}(p:Post G σ h nx w τ g ny x)(q:AQ G τ g ny x sz Q e a y):AQ G σ h nx w sz Q e a y:=by
 obtain⟨k,tm,g',pc,ds,υ,e1,q1,q2,q3⟩:=q;exact⟨k,tm,g',pc,ds,υ,e1,p.trans q1,q2,q3⟩
def AQ.mono {G:Gl}{Q R:AX→AS→Prop}{e:Exit}(q:AQ G σ h nx w sz Q e a y)(hr:∀k s,Q k s→R k s):AQ G σ h nx w sz R e a y:=by
 obtain⟨k,tm,g',pc,ds,υ,e1,q1,q2,q3⟩:=q;exact⟨k,tm,g',pc,ds,υ,e1,q1,q2,hr _ _ q3⟩
def CR (P:Program)(f:FuncId)(A:Array Value)(w:World)(Q:Value→World→Prop):Prop:=
 match (callFunc f A).run P w with
 |.ok (.enter f' A') w'=>Calls P f' A' w' fun e x=>match e with |.returned v=>Q v x |_=>False
 |.ok (.value v) w'=>Q v w'
 |_=>False
def CR.mono {f:FuncId}{A:Array Value}{Q R:Value→World→Prop}(h:CR P f A w Q)(hr:∀v x,Q v x→R v x):CR P f A w R:=by
 unfold CR at *;split
 ·rename_i f' A' w' e;rw[e]at h;exact Calls.mono h fun e x q=>by cases e <;> first |exact hr _ _ q |exact q.elim
 ·rename_i v w' e;rw[e]at h;exact hr _ _ h
 ·rename_i h1 h2;split at h
  ·rename_i f' A' w' e;exact absurd e (h1 _ _ _)
  ·rename_i v w' e;exact absurd e (h2 _ _)
  ·exact h
def bf (P:Program)(c:Cx)(f:FuncId)(args:List AV)(h:Tr ABlk) (nx:Nat)(R:AV→Tr ABlk→Nat→Prop):Prop:=
 ∀(σ:Sg) (w:World) (A:List Value),Ok c.G σ h nx w→aC σ args A→CR P f A.toArray w fun V x=>∃τ v g ny,av τ v V∧Post c.G σ h nx w τ g ny x∧R v g ny
def bf.mono {f:FuncId}{args:List AV}{R S:AV→Tr ABlk→Nat→Prop}(hc:bf P c f args h nx R)(hr:∀v g ny,R v g ny→S v g ny):bf P c f args h nx S:=
 fun σ w A ok hA=>(hc σ w A ok hA).mono fun V x ⟨τ,v,g,ny,h1,h2,h3⟩=>⟨τ,v,g,ny,h1,h2,hr _ _ _ h3⟩
def ui (P:Program)(c:Cx) (i:Nat)(args:List AV)(h:Tr ABlk) (nx:Nat)(R:AV→Tr ABlk→Nat→Prop):Prop:=
 ∀(σ:Sg) (w:World) (A:List Value) (l:Nat),Ok c.G σ h nx w→aC σ args A→σ.blk i=some l→∃fn tmps assign body,(Instr.yield l A.toArray).run P w=.ok (.round l fn tmps assign body) w∧
  RoundIn Fence.wide 0 P l fn tmps assign body w fun e x=>match e with
   |.returned V=>∃τ v g ny,av τ v V∧Post c.G σ h nx w τ g ny x∧R v g ny
   |_=>False
def ui.mono {i:Nat}{args:List AV}{R S:AV→Tr ABlk→Nat→Prop}(hc:ui P c i args h nx R)(hr:∀v g ny,R v g ny→S v g ny):ui P c i args h nx S:=
 fun σ w A l ok hA hb=>by
  obtain⟨fn,tmps,assign,body,h1,h2⟩:=hc σ w A l ok hA hb;refine⟨fn,tmps,assign,body,h1,h2.mono fun e x q=>?_⟩;cases e with
  |returned V=>
   obtain⟨τ,v,g,ny,h1,h2,h3⟩:=q;exact⟨τ,v,g,ny,h1,h2,hr _ _ _ h3⟩
  |panicked ch=>exact q
  |outgrown=>exact q
def Sc {r:Option Nat}{P:Program}{l:Nat}{f:FuncId}{T:Array Value}{x y:Code}{w:World}{R:Ending→World→Prop}(h:RoundIn Fence.wide 0 P l f T x y w R):RoundIn (dT r) 0 P l f T x y w R:=h
def AW (P:Program)(c:Cx)(inr:Bool) (sz:Nat)(code:Code)(Q:AX→AS→Prop)(s:AS):Prop:=
 ∀r:Option Nat,(inr=false→r=none)→∀(σ:Sg) (a:Act) (w:World),Ok c.G σ s.h s.nx w→St σ s.tm a sz s.ds→code.wpIn (dT r) 0 P (AQ c.G σ s.h s.nx w sz Q) a w
section rules
variable {inr : Bool} {Q : AX → AS → Prop} {s : AS}
def AW.mono {code:Code}{R:AX→AS→Prop}(h:AW P c inr sz code Q s)(hr:∀k s,Q k s→R k s):AW P c inr sz code R s:=
 fun r hi σ a w ok st=>wpIn_mono (h r hi σ a w ok st) fun _ _ _ q=>q.mono hr
def AQ.mk {G:Gl}(ok:Ok G σ s.h s.nx w)(st:St σ s.tm a sz s.ds){k:AX}(hq:Q k s):AQ G σ s.h s.nx w sz Q k.ex a w:=by
 cases s;exact⟨k,_,_,_,_,σ,rfl,.refl ok,st,hq⟩
def Yr (hq:Q .norm s):AW P c inr sz .skip Q s:=fun _ _ _ _ _ ok st=>wpIn_skip (AQ.mk (k:=.norm) ok st hq)
def XT {l:Nat}(hq:Q .norm s):AW P c inr sz (.label l) Q s:=fun _ _ _ _ _ ok st=>wpIn_label (AQ.mk (k:=.norm) ok st hq)
def ZA {id:Nat}(hq:Q (.exit id) s):AW P c inr sz (.exit id) Q s:=fun _ _ _ _ _ ok st=>wpIn_exit (AQ.mk (k:=.exit id) ok st hq)
def Yh (hq:Q .ret s):AW P c inr sz .ret Q s:=fun _ _ _ _ _ ok st=>wpIn_ret (AQ.mk (k:=.ret) ok st hq)
def zl (K:AS→Prop)(Q:AX→AS→Prop):AX→AS→Prop
 |.norm,s=>K s
 |.exit id,s=>Q (.exit id) s
 |.ret,s=>Q .ret s
def SR {x y:Code}(hx:AW P c inr sz x (zl (AW P c inr sz y Q) Q) s):AW P c inr sz (.seq x y) Q s:=by
 intro r hi σ a w ok st;refine wpIn_seq (wpIn_mono (hx r hi σ a w ok st) fun e a' w' q=>?_);obtain⟨k,tm,g,ny,ds,τ,e1,q1,q2,q3⟩:=q;cases k with
 |norm=>
  subst e1;exact wpIn_mono (q3 r hi τ a' w' q1.ok q2) fun _ _ _ q=>q.trans q1
 |exit id=>subst e1;exact⟨.exit id,tm,g,ny,ds,τ,rfl,q1,q2,q3⟩
 |ret=>subst e1;exact⟨.ret,tm,g,ny,ds,τ,rfl,q1,q2,q3⟩
def Rz {o:Operand}{x y:Code}{t:Bool}(ho:aL c.G s.tm o=some (.bool t))(hx:t=true→AW P c inr sz x Q s)(hy:t=false→AW P c inr sz y Q s):AW P c inr sz (.cond o x y) Q s:=by
 intro r hi σ a w ok st;have hb:a.eval o=.bool t:=by simpa only[av]using kH ok st.tm ho
 exact wpIn_cond_split hb (fun e=>hx e r hi σ a w ok st) (fun e=>hy e r hi σ a w ok st)
def xm (id:Nat)(Q:AX→AS→Prop):AX→AS→Prop
 |.norm,s=>Q .norm s
 |.exit iD,s=>if iD=id then Q .norm s else Q (.exit iD) s
 |.ret,s=>Q .ret s
def X6 {id:Nat}{x:Code}(hx:AW P c inr sz x (xm id Q) s):AW P c inr sz (.block id x) Q s:=by
 intro r hi σ a w ok st;refine wpIn_block (wpIn_mono (hx r hi σ a w ok st) fun e a' w' q=>?_);obtain⟨k,tm,g,ny,ds,τ,e1,q1,q2,q3⟩:=q;cases k with
 |norm=>subst e1;exact⟨.norm,tm,g,ny,ds,τ,rfl,q1,q2,q3⟩
 |ret=>subst e1;exact⟨.ret,tm,g,ny,ds,τ,rfl,q1,q2,q3⟩
 |exit iD=>
  subst e1;simp only[AX.ex,Exit.inBlock];simp only[xm]at q3;split
  ·rename_i hid;rw[if_pos hid]at q3;exact⟨.norm,tm,g,ny,ds,τ,rfl,q1,q2,q3⟩
  ·rename_i hid;rw[if_neg hid]at q3;exact⟨.exit iD,tm,g,ny,ds,τ,rfl,q1,q2,q3⟩
def Q7 {p:Nat→Prop}(h:∃n,p n):∃n,p n∧∀m,p m→n≤m:=by
 obtain⟨n,hn⟩:=h
 induction n using Nat.strongRecOn with
 |_ n ih=>
  by_cases hm:∃m,m<n∧p m
  ·obtain⟨m,h1,h2⟩:=hm;exact ih m h1 h2
  ·refine⟨n,hn,fun m hp=>?_⟩
   rcases Nat.lt_or_ge m n with h1 |h1
   ·exact absurd ⟨m,h1,hp⟩ hm
   ·exact h1
open Classical in
noncomputable def KI (p:Nat→Prop):Nat:=if h:∃n,p n then (Q7 h).choose else 0
def zFd {p:Nat→Prop}(h:∃n,p n):p (KI p)∧∀m,p m→KI p≤m:=by
 unfold KI;rw[dif_pos h];exact(Q7 h).choose_spec
def zH7 {x:Code}(I:Nat→AS→Prop){n:Nat}(h0:I n s)(hx:∀n s,I n s→AW P c inr sz x (zl (fun s'=>∃m,m<n∧I m s') Q) s):AW P c inr sz (.loop x) Q s:=by
 intro r hi σ a w ok st
 let J:Act→World→Nat→Prop:=fun a' w' m=>∃s' τ,I m s'∧Post c.G σ s.h s.nx w τ s'.h s'.nx w'∧St τ s'.tm a' sz s'.ds
 refine wpIn_loop (fun a' w'=>∃m,J a' w' m) (fun a' w'=>KI (J a' w')) ⟨n,s,σ,h0,.refl ok,st⟩ fun a' w' hJ=>?_;obtain⟨⟨s',τ,h1,h2,h3⟩,nI⟩:=zFd hJ;refine wpIn_mono (hx _ s' h1 r hi τ a' w' h2.ok h3) fun e a2 w2 q=>?_;obtain⟨k,tm,g,ny,ds,υ,e1,q1,q2,q3⟩:=q;cases k with
 |norm=>
  subst e1;obtain⟨m,hm,hI⟩:=q3;have oQ:J a2 w2 m:=⟨.mk tm g ny ds,υ,hI,h2.trans q1,q2⟩;exact⟨⟨m,oQ⟩,Nat.lt_of_le_of_lt ((zFd ⟨m,oQ⟩).2 m oQ) hm⟩
 |exit id=>subst e1;exact⟨.exit id,tm,g,ny,ds,υ,rfl,h2.trans q1,q2,q3⟩
 |ret=>subst e1;exact⟨.ret,tm,g,ny,ds,υ,rfl,h2.trans q1,q2,q3⟩
def bF {x:Code}(I:Nat→AS→Prop)(h0:∃n,I n s)(hx:∀n s,I n s→∀J:AS→Prop,(∀m s',m<n→I m s'→J s')→AW P c inr sz x (zl J Q) s):AW P c inr sz (.loop x) Q s:=by
 obtain⟨n,h0⟩:=h0;exact zH7 I h0 fun n s hI=>hx n s hI _ fun m s' h1 h2=>⟨m,h1,h2⟩
end rules
end
end Go.Ev
namespace Go.Ev
section
variable {P : Program} {F : Fence} {n : Nat} {b : Frame} {a : Act} {k : List Item} {cs : List Frame} {w : World} {Q : Exit → Act → World → Prop}
def Ec {c:Code}:step P (lone (b.atR a (.code (.scope c)::k)) cs w)=.next (lone (b.atR a (.code c::.inScope c::k)) cs w):=
 step_lone_go (by simp[stepG,stepG.exec,Frame.atR])
def zUn {c:Code}:step P (lone (b.atR a (.inScope c::k)) cs w)=.next (lone (b.atR a k) cs w):=
 step_lone_go (by simp[stepG,stepG.exec,Frame.atR])
def zTh {c:Code}(h:c.wpIn F n P (fun e a w=>match e with |.goto _=>False |e=>Q e a w) a w):(Code.scope c).wpIn F n P Q a w:=by
 intro b k cs hro hb hr;have h0:(lone (b.atR a (.code (.scope c)::k)) cs w).fenced P F:=fenced_calm hb hr rfl;obtain⟨e,a₁,w₁,hq,nu⟩:=h b (.inScope c::k) cs hro hb hr;cases e with
 |normal=>exact⟨.normal,a₁,w₁,hq,.head h0 Ec (StepsIn.trans nu (.one (fenced_calm hb hr rfl) zUn))⟩
 |exit iD=>
  have hx:exitTo iD (.inScope c::k)=exitTo iD k:=by simp[exitTo]
  exact⟨.exit iD,a₁,w₁,hq,fun k' hk=>.head h0 Ec (nu.1 k' (by rw[hx];exact hk)),
   fun A6 hk=>let ⟨k₁,h1,h2⟩:=nu.2 A6 (by rw[hx];exact hk);⟨k₁,h1,.head h0 Ec h2⟩⟩
 |goto l=>exact hq.elim
 |ret=>exact⟨_,a₁,w₁,hq,.of_steps (.one h0 Ec) nu⟩
 |panic ch=>exact⟨_,a₁,w₁,hq,.of_steps (.one h0 Ec) nu⟩
 |outgrown=>exact⟨_,a₁,w₁,hq,.of_steps (.one h0 Ec) nu⟩
end
def XX {P:Program}{c:Cx}{inr:Bool}{sz:Nat}{code:Code}{Q:AX→AS→Prop}{s:AS}(h:AW P c inr sz code Q s):AW P c inr sz (.scope code) Q s:=by
 intro r hi σ a w ok st;refine zTh (wpIn_mono (h r hi σ a w ok st) fun e a' w' q=>?_);obtain⟨k,tm,g,ny,ds,τ,e1,q1,q2,q3⟩:=q;subst e1;cases k <;> exact⟨_,tm,g,ny,ds,τ,rfl,q1,q2,q3⟩
end Go.Ev
namespace Go.Ev
noncomputable section
section
variable {P : Program} {c : Cx} {G : Gl} {σ τ υ : Sg} {h g f : Tr ABlk} {nx ny nz : Nat} {w x y : World}
def ZO:TypeDesc→Bool
 |.array _ _=>true
 |_=>false
def vM (c:Cx)(t:TypeId):Bool:=match c.tt.get t with
 |some (.mk (.map kt _) _ _ _ _)=>match c.tt.get kt with
  |some (.mk d _ _ _ _)=>ZO d
  |none=>false
 |_=>false
def ry:AV→AV→Option Bool
 |.agg [.int .i64 a,.int .i64 b],.agg [.int .i64 a',.int .i64 b']=>some (decide (a=a'∧b=b'))
 |_,_=>none
def sk (k:AV):List (AV×AV×Nat)→Nat→Option (Option (Nat×AV))
 |[],_=>some none
 |(k',v,_)::es,i=>match ry k k' with
  |some true=>some (some (i,v))
  |some false=>sk k es (i+1)
  |none=>none
structure KeyOk (P:Program)(kt el:TypeId):Prop where
 un:P.underlying kt=some (.array 2 el)
 ue:∃k,P.underlying el=some (.int k)
 sz:∃i,P.info? el=some i∧i.size=1
def zSl {k k':AV}{b:Bool}(h:ry k k'=some b):∃a d a' d',k=.agg [.int .i64 a,.int .i64 d]∧k'=.agg [.int .i64 a',.int .i64 d']∧b=decide (a=a'∧d=d'):=by
 unfold ry at h;split at h
 ·cases h;exact⟨_,_,_,_,rfl,rfl,rfl⟩
 ·cases h
def zxd {a d:Int}{K:Value}(h:av σ (.agg [.int .i64 a,.int .i64 d]) K):K=.agg #[.int .i64 a,.int .i64 d]:=by
 simp only[av,aC]at h;obtain⟨L,e,v,t,e1,h1,v2,t2,e2,h2,e3⟩:=h;subst e3;subst h2;subst e2;subst h1;subst e1;exact e
def KeyOk.part {kt el:TypeId}(hk:KeyOk P kt el) (a d:Int)(w:World):(Go.part el #[.int .i64 a,.int .i64 d] 0).run P w=.ok (.int .i64 a) w∧(Go.part el #[.int .i64 a,.int .i64 d] 1).run P w=.ok (.int .i64 d) w:=by
 obtain⟨k,hu⟩:=hk.ue;constructor <;> simp[Go.part,Ei hu,kB]
def KeyOk.check {kt el:TypeId}(hk:KeyOk P kt el)(e:Bool) (a d:Int)(w:World):(Instr.checkKey e 10000 kt (.agg #[.int .i64 a,.int .i64 d])).run P w=.ok () w:=by
 obtain⟨k,hu⟩:=hk.ue;obtain⟨i,hi,hs⟩:=hk.sz;obtain⟨p0,p1⟩:=hk.part a d w;have hc:∀v:Value,(Instr.checkKey e 9999 el v).run P w=.ok () w:=fun v=>Te hu rfl e 9998 v w;rw[show (10000:Nat)=9999+1 from rfl,Instr.checkKey];simp only[Sem.run_bind,run_underlying hk.un,Result.andThen];simp[Std.Legacy.Range.forIn_eq_forIn_range',Std.Legacy.Range.size,List.range',oA hi,hs,p0,p1,hc]
def KeyOk.equal {kt el:TypeId}(hk:KeyOk P kt el) (a d a' d':Int)(w:World):(Op.equal kt (.agg #[.int .i64 a,.int .i64 d]) (.agg #[.int .i64 a',.int .i64 d'])).run P w=.ok (decide (a=a'∧d=d')) w:=by
 obtain⟨k,hu⟩:=hk.ue;obtain⟨i,hi,hs⟩:=hk.sz;obtain⟨p0,p1⟩:=hk.part a d w;obtain⟨q0,q1⟩:=hk.part a' d' w;have he:∀p q:Int,(Op.equalIn 9999 el (.int .i64 p) (.int .i64 q)).run P w=.ok (p == q) w:=fun p q=>by
  rw[show (9999:Nat)=9998+1 from rfl,Op.equalIn];simp[run_underlying hu]
 unfold Op.equal;rw[show Op.maxDepth=9999+1 from rfl,Op.equalIn];simp only[Sem.run_bind,run_underlying hk.un,Result.andThen];simp[Std.Legacy.Range.forIn_eq_forIn_range',Std.Legacy.Range.size,List.range',oA hi,hs,p0,p1,q0,q1,he]
 by_cases e1:a=a' <;> by_cases e2:d=d' <;> simp[e1,e2]
def Ih {kt el:TypeId}(hk:KeyOk P kt el){k k':AV}{b:Bool}(he:ry k k'=some b){K K':Value}(h1:av σ k K)(h2:av σ k' K'):(∀w,(Op.equal kt K K').run P w=.ok b w)∧(∀n m,Instr.sameNow (.array n m) K K'=none)∧(∀e w,(Instr.checkKey e 10000 kt K).run P w=.ok () w)∧(b=true→Instr.sameBits 10000 K' K=true):=by
 obtain⟨a,d,a',d',rfl,rfl,rfl⟩:=zSl he;have:=zxd h1;subst this;have:=zxd h2;subst this;refine⟨fun w=>hk.equal a d a' d' w,fun n m=>rfl,fun e w=>hk.check e a d w,fun hb=>?_⟩;have:a=a'∧d=d':=by simpa using hb
 obtain⟨rfl,rfl⟩:=this;rw[show (10000:Nat)=9999+1 from rfl,Instr.sameBits];simp[Instr.sameBits]
def XR {kt el:TypeId}(fV:KeyOk P kt el){k:AV}{K:Value}(hk:av σ k K):∀{es:List (AV×AV×Nat)}{E:List MapEntry}{i:Nat}{r:Option (Nat×AV)},dC σ es E→sk k es i=some r→
  ∃R,(∀w,(Instr.findAsking kt K E i).run P w=.ok R w)∧r8 σ r R∧∀j v,r=some (j,v)→i≤j∧j<i+es.length∧∃k',(es[j-i]?).map (·.1)=some k'∧ry k k'=some true
 |[],E,i,r,he,hf=>by
  cases hf;simp only[dC]at he;subst he;exact⟨none,fun w=>rfl,rfl,fun j v e=>by cases e⟩
 |(k',v,n)::es,E,i,r,he,hf=>by
  simp only[dC]at he;obtain⟨K',V,E',e,h1,h2,h3⟩:=he;subst e;rw[sk]at hf;cases hs:ry k k' with
  |none=>rw[hs]at hf;cases hf
  |some b=>
   have mO:=(Ih fV hs hk h1).1;rw[hs]at hf;cases b with
   |true=>
    cases hf;refine⟨some (i,V),fun w=>?_,⟨V,rfl,h2⟩,fun j v' e=>?_⟩
    ·simp[Instr.findAsking,mO]
    ·cases e;exact⟨ae _,by simp,k',by simp,hs⟩
   |false=>
    simp only at hf;obtain⟨R,a1,a2,a3⟩:=XR fV hk h3 hf;refine⟨R,fun w=>?_,a2,fun j v' e=>?_⟩
    ·simp[Instr.findAsking,mO,a1]
    ·obtain⟨b1,b2,k2,b3,b4⟩:=a3 j v' e;refine⟨by omega,by simp at b2 ⊢;omega,k2,?_,b4⟩;rw[show j-i=(j-(i+1))+1 by omega];simpa using b3
def zx8 {kt el:TypeId}(fV:KeyOk P kt el){k:AV}{K:Value}(hk:av σ k K){es:List (AV×AV×Nat)}{E:List MapEntry}{r:Option (Nat×AV)}(hE:dC σ es E)(hf:sk k es 0=some r):
  ∃R,(∀w,(Instr.findKey kt K E).run P w=.ok R w)∧r8 σ r R∧∀j v,r=some (j,v)→j<es.length∧∃k',(es[j]?).map (·.1)=some k'∧ry k k'=some true:=by
 obtain⟨R,a1,a2,a3⟩:=XR fV hk hE hf;refine⟨R,fun w=>?_,a2,fun j v e=>?_⟩
 ·have OR:Instr.findNow (.array 2 el) K E 0=none∨(Instr.findNow (.array 2 el) K E 0=some none∧R=none):=by
   cases es with
   |nil=>
    simp only[dC]at hE;subst hE;right;refine⟨rfl,?_⟩;have:=a1 default;simp[Instr.findAsking]at this;exact this.symm
   |cons p es=>
    obtain⟨k',v,n⟩:=p;simp only[dC]at hE;obtain⟨K',V,E',e,h1,h2,h3⟩:=hE;subst e;left;rw[sk]at hf;cases hs:ry k k' with
    |none=>rw[hs]at hf;cases hf
    |some b=>
     have:=(Ih fV hs hk h1).2.1 2 el;simp[Instr.findNow,this]
  unfold Instr.findKey;simp only[Sem.run_bind,run_underlying fV.un,Result.andThen]
  rcases OR with q |⟨q,q2⟩
  ·rw[q];exact a1 w
  ·rw[q,q2];rfl
 ·obtain⟨_,b2,k2,b3,b4⟩:=a3 j v e;exact⟨by omega,k2,by simpa using b3,b4⟩
def Iq (c:Cx)(t:TypeId):Option (TypeId×AV):=match c.tt.get t with
 |some (.mk (.map kt et) _ _ _ _)=>match c.tt.get kt with
  |some (.mk (.array n el) _ _ _ _)=>match c.tt.get el,c.tt.get et with
   |some (.mk (.int _) sz _ _ _),some (.mk _ _ _ (some z) _)=>match Nat.beq n 2 && Nat.beq sz 1 with
    |true=>some (kt,z)
    |false=>none
   |_,_=>none
  |_=>none
 |_=>none
def YL (hc:CxOk P c){t kt:TypeId}{z:AV}(hi:Iq c t=some (kt,z)):∃el et,P.underlying t=some (.map kt et)∧KeyOk P kt el∧∃Z,(∀w,(zeroValue et).run P w=.ok Z w)∧∀σ,av σ z Z:=by
 unfold Iq at hi;split at hi
 ·rename_i Bi et q1 q2 q3 q4 h1;split at hi
  ·rename_i n el q5 q6 q7 q8 h2;split at hi
   ·rename_i ki sz q9 PD PE d q12 q13 z' q14 h3 h4;cases hb:(Nat.beq n 2 && Nat.beq sz 1) with
    |false=>rw[hb]at hi;cases hi
    |true=>
     rw[hb]at hi;cases hi;rw[ao]at hb;have e1:=ad hb.1;have e2:=ad hb.2;subst e1;subst e2;obtain⟨u1,_⟩:=hc.tt _ _ h1;obtain⟨u2,_⟩:=hc.tt _ _ h2;obtain⟨u3,i3,wD,Vp,_⟩:=hc.tt _ _ h3;obtain⟨u4,i4,hi4,hs4,UW,yN,_⟩:=hc.tt _ _ h4;obtain⟨Z,hZ,kA,_⟩:=yN z rfl;exact⟨el,et,u1,⟨u2,⟨_,u3⟩,⟨i3,wD,Vp⟩⟩,Z,fun w=>zw hi4 hZ w,kA⟩
   ·cases hi
  ·cases hi
 ·cases hi
def D3 (c:Cx)(t:TypeId)(ok:Bool)(m k:Option AV)(h:Tr ABlk) (nx:Nat):R:=
 match Iq c t,m,k with
 |some (_,z),some (.map i),some k=>match h.get i,ry k k with
  |some (.map es _),some _=>match sk k es 0 with
   |some r=>bX ok z r h nx
   |none=>.fail
  |_,_=>.fail
 |_,_,_=>.fail
def zGe (hc:CxOk P c)(hk:Ok c.G σ h nx w)(t:TypeId)(ok:Bool){m k:Option AV}{M K:Value}(hm:∀v,m=some v→av σ v M)(fV:∀v,k=some v→av σ v K):RV P c.G σ h nx w (Instr.lookup t M K ok) (D3 c t ok m k h nx):=by
 unfold D3;split
 ·rename_i kt z i k q1;obtain⟨el,et,hu,hK,Z,hZ,kA⟩:=YL hc q1;have wM:=hm _ rfl;have dB:=fV _ rfl;simp only[av]at wM;obtain⟨b,hb,e⟩:=wM;subst e;split
  ·rename_i es cl b0 hg Ow;obtain⟨b',E,aV,aE,hE⟩:=hk.map hg;rw[hb]at aV;cases aV;cases hf:sk k es 0 with
   |none=>trivial
   |some r=>
    obtain⟨R,a1,a2,_⟩:=zx8 hK dB hE hf;have eB:=(Ih hK Ow dB dB).2.2.1;have fj:(getObj b).run P w=.ok (.map (List.toArray E) cl) w:=by simp[getObj,Sem.run,aE]
    have oM:=a1 w;cases r with
    |none=>
     simp only[r8]at a2;subst a2;cases ok with
     |true=>
      refine SV.pure hk (V:=.tuple #[Z,.bool false]) ?_ ?_
      ·unfold Instr.lookup;simp[Sem.run_bind,run_underlying hu,Result.andThen,fj,eB,oM,hZ]
      ·simp only[av];exact⟨[Z,.bool false],rfl,by simp only[aC,av];exact⟨_,_,rfl,kA σ,_,_,rfl,rfl,rfl⟩⟩
     |false=>
      refine SV.pure hk (V:=Z) ?_ (kA σ);unfold Instr.lookup;simp[Sem.run_bind,run_underlying hu,Result.andThen,fj,eB,oM,hZ]
    |some p=>
     obtain⟨j,v⟩:=p;simp only[r8]at a2;obtain⟨V,e,hv⟩:=a2;subst e;cases ok with
     |true=>
      refine SV.pure hk (V:=.tuple #[V,.bool true]) ?_ ?_
      ·unfold Instr.lookup;simp[Sem.run_bind,run_underlying hu,Result.andThen,Sem.run_pure,fj,eB,oM]
      ·simp only[av];exact⟨[V,.bool true],rfl,by simp only[aC,av];exact⟨_,_,rfl,hv,_,_,rfl,rfl,rfl⟩⟩
     |false=>
      refine SV.pure hk (V:=V) ?_ hv;unfold Instr.lookup;simp[Sem.run_bind,run_underlying hu,Result.andThen,Sem.run_pure,fj,eB,oM]
  ·trivial
 ·trivial
def DX (c:Cx)(t:TypeId)(m k v:Option AV)(h:Tr ABlk) (nx:Nat):R:=
 match Iq c t,m,k,v with
 |some _,some (.map i),some k,some v=>match h.get i,ry k k with
  |some (.map es cl),some _=>match sk k es 0 with
   |some (some (j,_))=>.unit (h.put i (some (.map (es.modify j (fun e=>match e with |(_,_,n)=>(k,v,n))) cl))) nx
   |some none=>.unit (h.put i (some (.map (es++[(k,v,cl)]) (cl+1)))) nx
   |none=>.fail
  |_,_=>.fail
 |_,_,_,_=>.fail
def zIu (hc:CxOk P c)(hk:Ok c.G σ h nx w)(t:TypeId){m k v:Option AV}{M K V:Value}(hm:∀x,m=some x→av σ x M)(fV:∀x,k=some x→av σ x K)(hv:∀x,v=some x→av σ x V):RU P c.G σ h nx w (Instr.mapUpdate t M K V) (DX c t m k v h nx):=by
 unfold DX;split
 ·rename_i q0 i k v q1;obtain⟨kt,z⟩:=q0;obtain⟨el,et,hu,hK,Z,hZ,kA⟩:=YL hc q1;have wM:=hm _ rfl;have dB:=fV _ rfl;have aF:=hv _ rfl;simp only[av]at wM;obtain⟨b,hb,e⟩:=wM;subst e;split
  ·rename_i es cl b0 hg Ow;obtain⟨b',E,aV,aE,hE⟩:=hk.map hg;rw[hb]at aV;cases aV;cases hf:sk k es 0 with
   |none=>trivial
   |some r=>
    obtain⟨R,a1,a2,a3⟩:=zx8 hK dB hE hf;have eB:=(Ih hK Ow dB dB).2.2.1;have fj:(getObj b).run P w=.ok (.map (List.toArray E) cl) w:=by simp[getObj,Sem.run,aE]
    have rj:∀o:Obj,(setObj b o).run P w=.ok () (iE w b o):=fun o=>by simp[setObj,Sem.run,aE,iE]
    have oM:=a1 w;cases r with
    |none=>
     simp only[r8]at a2;subst a2;refine⟨σ,_,?_,Post.set hk hg hb (.map (es++[(k,v,cl)]) (cl+1)) (.map (List.toArray (E++[⟨K,V,cl⟩])) (cl+1)) ?_⟩
     ·unfold Instr.mapUpdate;simp only[Sem.run_bind,run_underlying hu,Result.andThen,fj,eB,oM];rw[rj];simp[iE]
     ·simp only[cq];refine⟨_,rfl,dC.of_get (by simp[hE.length]) fun k0 a b n e=>?_⟩
      by_cases h1:k0<es.length
      ·rw[List.getElem?_append_left h1]at e;obtain⟨A,B,e1,e2,e3⟩:=hE.get e;exact⟨A,B,by rw[List.getElem?_append_left (by rw[hE.length];exact h1)];exact e1,e2,e3⟩
      ·rw[List.getElem?_append_right (by omega)]at e;cases h2:k0-es.length with
       |succ q=>rw[h2]at e;simp at e
       |zero=>
        rw[h2]at e;simp at e;obtain⟨e1,e2,e3⟩:=e;subst e1;subst e2;subst e3;refine⟨K,V,?_,dB,aF⟩;rw[List.getElem?_append_right (by rw[hE.length];omega),hE.length,h2];rfl
    |some p=>
     obtain⟨j,v0⟩:=p;simp only[r8]at a2;obtain⟨V0,e,_⟩:=a2;subst e;obtain⟨hj,k',aW,tL⟩:=a3 j v0 rfl;obtain⟨⟨ka,va,na⟩,wz⟩:∃p,es[j]?=some p:=⟨es[j]'hj,by simp[hj]⟩;rw[wz]at aW;simp at aW;subst aW;obtain⟨KA,VA,e1,e2,e3⟩:=hE.get wz;have mM:(Instr.keyThatStays KA K).run P w=.ok K w:=by simp[Instr.keyThatStays,(Ih hK tL dB e2).2.2.2 rfl]
     refine⟨σ,_,?_,Post.set hk hg hb (.map (es.modify j (fun e=>match e with |(_,_,n)=>(k,v,n))) cl) (.map (List.toArray (E.modify j fun e=>{ e with key:=K,val:=V })) cl) ?_⟩
     ·unfold Instr.mapUpdate;have tx:(((List.toArray E)[j]?).map (·.key)).getD K=KA:=by simp[e1]
      simp only[Sem.run_bind,run_underlying hu,Result.andThen,fj,eB,oM,tx,mM];rw[rj];simp[iE]
     ·simp only[cq];refine⟨_,rfl,dC.of_get (by simp[hE.length]) fun k0 a b n e=>?_⟩;rw[List.getElem?_modify]at e ⊢
      by_cases h1:j=k0
      ·subst h1;rw[wz]at e;simp at e;obtain⟨q1,q2,q3⟩:=e;subst q1;subst q2;subst q3;exact⟨K,V,by rw[e1];simp,dB,aF⟩
      ·simp only[h1,if_false]at e ⊢;simp at e;obtain⟨A,B,c1,c2,c3⟩:=hE.get e;exact⟨A,B,by simpa using c1,c2,c3⟩
  ·trivial
 ·trivial
end
section
variable {P : Program} {c : Cx} {σ τ υ : Sg} {h g f : Tr ABlk} {nx ny nz sz : Nat} {ds : List DE} {w x y : World} {tm : Tr AV} {a : Act}
def gU (ops:List Oper)(tm:Tr AV)(o:Oper):Option Bool:=
 match o.guard with
 |none=>some true
 |some (j,want)=>match ops[j]? with
  |none=>some false
  |some oj=>match oj.dst with
   |none=>some false
   |some d=>match tm.get d with
    |some (.bool b)=>some (match b with |true=>want |false=>!want)
    |some (.tup _)=>some false
    |_=>none
def av.bool {b:Bool}{V:Value}(hr:av σ (.bool b) V):V=.bool b:=by simpa only[av]using hr
def zm {ops:Array Oper}(ht:kE σ tm a){o:Oper}{b:Bool}(hw:gU ops.toList tm o=some b):Region.wanted o (yielded ops a.tmps)=b:=by
 unfold gU at hw;unfold Region.wanted;cases hg:o.guard with
 |none=>rw[hg]at hw;cases hw;rfl
 |some p=>
  obtain⟨j,want⟩:=p;rw[hg]at hw;simp only at hw ⊢;rw[Array.getElem?_toList]at hw;unfold yielded;cases hj:ops[j]? with
  |none=>
   rw[hj]at hw;cases hw;simp
  |some oj=>
   rw[hj]at hw;simp only[Option.bind_some]at hw ⊢;cases hd:oj.dst with
   |none=>
    rw[hd]at hw;cases hw;simp
   |some d=>
    rw[hd]at hw;simp only[Option.bind_some]at hw ⊢;cases hv:tm.get d with
    |none=>rw[hv]at hw;cases hw
    |some v=>
     rw[hv]at hw;have hr:=ht d v hv;cases v <;> try (cases hw;done)
     ·rename_i q;cases hw;have hb:=hr.bool;have:a.tmps[d]?=some (.bool q):=by
       cases Jp:a.tmps[d]? with
       |none=>rw[Array.getD_eq_getD_getElem?,Jp]at hb;cases hb
       |some V=>rw[Array.getD_eq_getD_getElem?,Jp]at hb;simp at hb;rw[hb]
      rw[this];cases q <;> cases want <;> rfl
     ·cases hw;simp only[av]at hr;obtain⟨L,e,_⟩:=hr;cases Jp:a.tmps[d]? with
      |none=>simp
      |some V=>
       rw[Array.getD_eq_getD_getElem?,Jp]at e;simp at e;subst e;simp
def kZ (op:Op):Option (Operand×Array Operand):=
 match op with
 |.call cl=>match cl.callee with
  |.value f=>some (f,cl.args)
  |_=>none
 |_=>none
def dj (sz:Nat)(d:Option Tmp)(v:AV)(s:AS)(K:AS→Prop):Prop:=
 match d with
 |none=>K s
 |some d=>d<sz∧K (match s with |.mk tm h nx ds=>.mk (tm.put d (some v)) h nx ds)
def rC {d:Option Tmp}{v:AV}{s:AS}{K:AS→Prop}(hp:dj sz d v s K){τ:Sg}(ht:St τ s.tm a sz s.ds){V:Value}(hv:av τ v V):∃tm',K (.mk tm' s.h s.nx s.ds)∧St τ tm' (a.put d V) sz s.ds:=by
 cases s with
 |mk tm h nx ds=>
 cases d with
 |none=>exact⟨tm,hp,ht⟩
 |some d=>exact⟨_,hp.2,ht.put hp.1 hv⟩
def vJ:av σ (.tup []) undef:=by
 simp only[av];exact⟨[],rfl,by simp only[aC]⟩
def dF (sz:Nat)(d:Option Tmp)(tm:Tr AV)(ds:List DE)(K:AS→Prop)(r:R):Prop:=
 match r with
 |.val v h nx=>dj sz d v (.mk tm h nx ds) K
 |.unit h nx=>dj sz d (.tup []) (.mk tm h nx ds) K
 |.fail=>False
def uu (P:Program)(c:Cx) (sz:Nat)(d:Option Tmp)(tm:Tr AV)(h:Tr ABlk) (nx:Nat)(ds:List DE)(K:AS→Prop)(f:Option AV)(l:Option (List AV)):Prop:=
 match f with
 |some (.func fid first cap)=>match l with
  |some l=>bf P c fid (first++(l++cap)) h nx fun v h nx=>dj sz d v (.mk tm h nx ds) K
  |none=>False
 |some (.yld i)=>match l with
  |some l=>ui P c i l h nx fun v h nx=>dj sz d v (.mk tm h nx ds) K
  |none=>False
 |_=>False
def Yz (P:Program)(c:Cx) (sz:Nat)(ops:List Oper)(o:Oper)(K:AS→Prop)(s:AS):Prop:=
 match s with
 |.mk tm h nx ds=>match gU ops tm o with
  |none=>False
  |some false=>dj sz o.dst (.tup []) (.mk tm h nx ds) K
  |some true=>match kZ o.op with
   |some (f,args)=>uu P c sz o.dst tm h nx ds K (aL c.G tm f) (dz c.G tm args.toList)
   |none=>dF sz o.dst tm ds K (jq c o.op tm h nx)
def kG {o:Oper}{r:Option Nat}{a:Act}{next:Act→World→Prop}{Q:Exit→Act→World→Prop}(hd:∀cl,o.op≠.defer cl)
  (hu:o.uponIn (dT r) 0 P a next Q ((execOp a.eval o).run P w)):o.wpIn (dT r) 0 P a w next Q:=
 ⟨fun _ _=>trivial,by rw[Oper.semAt_eq _ _ _ hd];exact hu⟩
def rA:Op→Bool
 |.defer _=>true
 |_=>false
def QG (hc:CxOk P c){ops:Array Oper}{o:Oper}{K:AS→Prop}{s:AS}(hs:Yz P c sz ops.toList o K s){r:Option Nat}(hk:Ok c.G σ s.h s.nx w)(ht:St σ s.tm a sz s.ds)(Q:Exit→Act→World→Prop)(L:Act→World→Prop)
  (hK:∀τ aZ V w1 h1 tV,K (.mk aZ h1 tV s.ds)→Post c.G σ s.h s.nx w τ h1 tV w1→St τ aZ (a.put o.dst V) sz s.ds→L (a.put o.dst V) w1):
  if Region.wanted o (yielded ops a.tmps) then o.wpIn (dT r) 0 P a w L Q else (∀f,o.about P w a.eval=some f→(dT r).fn f)∧L (a.put o.dst undef) w:=by
 cases s with
 |mk tm h nx ds=>
 simp only[AS.h,AS.nx,AS.tm,AS.ds]at hk ht hK;unfold Yz at hs;simp only at hs;cases hw:gU ops.toList tm o with
 |none=>rw[hw]at hs;exact hs.elim
 |some b=>
  rw[zm ht.tm hw];rw[hw]at hs;cases b with
  |false=>
   simp only[Bool.false_eq_true,if_false];obtain⟨tm',e1,e2⟩:=rC (a:=a) (s:=.mk tm h nx ds) hs ht vJ;exact⟨fun _ _=>trivial,hK σ tm' _ w h nx e1 (.refl hk) e2⟩
  |true=>
   simp only[if_true];simp only at hs;have plain:rA o.op=false→dF sz o.dst tm ds K (jq c o.op tm h nx)→o.wpIn (dT r) 0 P a w L Q:=by
    intro jt he;have hd:∀cl,o.op≠.defer cl:=fun cl e=>by rw[e]at jt;cases jt
    have hp:=Rp hc hk ht.tm o;cases hv:jq c o.op tm h nx with
    |fail=>rw[hv]at he;exact he.elim
    |val v g ny=>
     rw[hv]at he hp;obtain⟨V,τ,x,h1,h2,h3⟩:=hp;obtain⟨tm',e1,e2⟩:=rC (a:=a) (s:=.mk tm g ny ds) he (ht.mono h3.le) h2;refine kG hd ?_;rw[h1];exact hK τ tm' _ x g ny e1 h3 e2
    |unit g ny=>
     rw[hv]at he hp;obtain⟨τ,x,h1,h3⟩:=hp;obtain⟨tm',e1,e2⟩:=rC (a:=a) (s:=.mk tm g ny ds) he (ht.mono h3.le) vJ;refine kG hd ?_;rw[h1];exact hK τ tm' _ x g ny e1 h3 e2
   obtain⟨dst,op,type,pos,after,guard⟩:=o;cases op <;> try exact plain rfl hs
   case defer cl=>exact(show False from hs).elim
   rename_i cl;obtain⟨callee,args,argTypes⟩:=cl;cases callee <;> try exact plain rfl hs
   rename_i fo;clear plain
   replace hs:uu P c sz dst tm h nx ds K (aL c.G tm fo) (dz c.G tm args.toList):=hs
   unfold uu at hs;cases hf:aL c.G tm fo with
   |none=>rw[hf]at hs;exact hs.elim
   |some fv=>
    rw[hf]at hs;have lD:=kH hk ht.tm hf;cases fv <;> try exact hs.elim
    case yld i=>
     cases hl:dz c.G tm args.toList with
     |none=>rw[hl]at hs;exact hs.elim
     |some l=>
      rw[hl]at hs;simp only at hs;have qV:=uv hk ht.tm hl;simp only[av]at lD;obtain⟨lb,uZ,e1⟩:=lD;obtain⟨fn,tmps,assign,body,GW,GX⟩:=hs σ w (args.toList.map a.eval) lb hk qV uZ;have hex:(execOp a.eval ⟨dst,.call ⟨.value fo,args,argTypes⟩,type,pos,after,guard⟩).run P w=(Instr.yield lb (args.toList.map a.eval).toArray).run P w:=by
       have e2:execOp a.eval ⟨dst,.call ⟨.value fo,args,argTypes⟩,type,pos,after,guard⟩=(do let d ← Deferred.ofValue (a.eval fo) (args.map a.eval);invoke d.target d.args):=rfl;rw[e2,e1];show (Instr.yield lb (#[]++args.map a.eval)).run P w=_
       congr 2
       apply Array.ext';simp
      refine kG (fun _ e=>by cases e) ?_;rw[hex,GW];refine⟨fun hh=>by simp[dT,Fence.wide]at hh,Sc (GX.mono fun e x q=>?_)⟩;cases e with
      |returned V=>
       obtain⟨τ,v,g,ny,q1,q2,q3⟩:=q;obtain⟨tm',k1,k2⟩:=rC (a:=a) (s:=.mk tm g ny ds) q3 (ht.mono q2.le) q1;exact hK τ tm' _ x g ny k1 q2 k2
      |panicked ch=>exact q.elim
      |outgrown=>exact q.elim
    rename_i fid first cap
    cases hl:dz c.G tm args.toList with
    |none=>rw[hl]at hs;exact hs.elim
    |some l=>
     rw[hl]at hs;simp only at hs;have qV:=uv hk ht.tm hl;simp only[av]at lD;obtain⟨F,C,e1,r1,r2⟩:=lD;have gB:=hs σ w (F++(args.toList.map a.eval++C)) hk (r1.append (qV.append r2));have hex:(execOp a.eval ⟨dst,.call ⟨.value fo,args,argTypes⟩,type,pos,after,guard⟩).run P w=(callFunc fid (F++(args.toList.map a.eval++C)).toArray).run P w:=by
      have e2:execOp a.eval ⟨dst,.call ⟨.value fo,args,argTypes⟩,type,pos,after,guard⟩=(do let d ← Deferred.ofValue (a.eval fo) (args.map a.eval);invoke d.target d.args):=rfl;rw[e2,e1];show (callFunc fid (F.toArray++args.map a.eval++C.toArray)).run P w=_
      congr 2
      apply Array.ext';simp
     refine kG (fun _ e=>by cases e) ?_;rw[hex];unfold CR at gB;cases aR:(callFunc fid (F++(args.toList.map a.eval++C)).toArray).run P w with
     |halt hh w'=>rw[aR]at gB;exact gB.elim
     |ok Bo w'=>
      rw[aR]at gB;cases Bo <;> try exact gB.elim
      ·rename_i V;obtain⟨τ,v,g,ny,q1,q2,q3⟩:=gB;obtain⟨tm',k1,k2⟩:=rC (a:=a) (s:=.mk tm g ny ds) q3 (ht.mono q2.le) q1;exact hK τ tm' _ _ g ny k1 q2 k2
      ·rename_i f' A';refine⟨fun hh=>by simp[dT,Fence.wide]at hh,HU (Calls.mono gB fun e x q=>?_)⟩;cases e with
       |returned V=>
        obtain⟨τ,v,g,ny,q1,q2,q3⟩:=q;obtain⟨tm',k1,k2⟩:=rC (a:=a) (s:=.mk tm g ny ds) q3 (ht.mono q2.le) q1;exact hK τ tm' _ x g ny k1 q2 k2
       |panicked ch=>exact q.elim
       |outgrown=>exact q.elim
def Zm (c:Cx) (sz:Nat)(dst:Option Tmp)(t:TypeId)(x:Operand)(tm:Tr AV)(h:Tr ABlk) (nx:Nat)(ds:List DE)(K:AS→Prop):Prop:=
 ∃m es cl k e q1 q2 q3 q4,aL c.G tm x=some (.map m)∧h.get m=some (.map es cl)∧c.tt.get t=some (.mk (.map k e) q1 q2 q3 q4)∧dj sz dst (.ptr nx 0) (.mk tm (h.put nx (some (.miter m cl [] cl))) (nx+1) ds) K
def XV (c:Cx) (sz:Nat)(dst:Option Tmp)(x:Operand)(tm:Tr AV)(h:Tr ABlk) (nx:Nat)(ds:List DE)(K:AS→Prop):Prop:=
 ∃it m since seen st es cl,aL c.G tm x=some (.ptr it 0)∧h.get it=some (.miter m since seen st)∧h.get m=some (.map es cl)∧(∀e∈es,e.2.2<since)∧since≤st∧
  ((∀e∈es,e.2.2∈seen)→dj sz dst (.tup [.bool false]) (.mk tm h nx ds) K)∧
  (∀e∈es,¬e.2.2∈seen→dj sz dst (.tup [.bool true,e.1,e.2.1]) (.mk tm (h.put it (some (.miter m since (seen++[e.2.2]) cl))) nx ds) K)
def Y4 (c:Cx) (sz:Nat)(dst:Option Tmp)(x:Operand)(tm:Tr AV)(h:Tr ABlk) (nx:Nat)(ds:List DE)(K:AS→Prop):Prop:=
 ∃it m since seen es cl e,aL c.G tm x=some (.ptr it 0)∧h.get it=some (.miter m since (seen++[e.2.2]) cl)∧h.get m=some (.map es cl)∧e∈es∧(es.map (fun e=>e.2.2)).Nodup∧dj sz dst (.tup [e.1,e.2.1]) (.mk tm h nx ds) K
def tW (P:Program)(c:Cx) (sz:Nat)(op:Op)(dst:Option Tmp)(tm:Tr AV)(h:Tr ABlk) (nx:Nat)(ds:List DE)(K:AS→Prop):Prop:=
 match op with
 |.range t x=>Zm c sz dst t x tm h nx ds K
 |.next x b=>match b with
  |true=>False
  |false=>XV c sz dst x tm h nx ds K
 |.entry x=>Y4 c sz dst x tm h nx ds K
 |.lookup t x k ok=>dF sz dst tm ds K (match vM c t with |true=>D3 c t ok (aL c.G tm x) (aL c.G tm k) h nx |false=>jq c (.lookup t x k ok) tm h nx)
 |.mapUpdate t x k v=>dF sz dst tm ds K (match vM c t with |true=>DX c t (aL c.G tm x) (aL c.G tm k) (aL c.G tm v) h nx |false=>jq c (.mapUpdate t x k v) tm h nx)
 |op=>match kZ op with
  |some (f,args)=>uu P c sz dst tm h nx ds K (aL c.G tm f) (dz c.G tm args.toList)
  |none=>dF sz dst tm ds K (jq c op tm h nx)
def cI (P:Program)(c:Cx) (sz:Nat)(ops:List Oper)(o:Oper)(K:AS→Prop)(s:AS):Prop:=
 match s with
 |.mk tm h nx ds=>match gU ops tm o with
  |none=>False
  |some false=>dj sz o.dst (.tup []) (.mk tm h nx ds) K
  |some true=>tW P c sz o.op o.dst tm h nx ds K
def gZ (P:Program)(c:Cx) (sz:Nat)(ops:List Oper)(K:AS→Prop):List Oper→AS→Prop
 |[]=>K
 |o::l=>cI P c sz ops o (gZ P c sz ops K l)
def dC.toL {σ:Sg}:∀{l:List (AV×AV×Nat)}{E:List MapEntry},dC σ l E→E.map (·.born)=l.map (fun e=>e.2.2)∧(∀X∈E,∃e∈l,X.born=e.2.2∧av σ e.1 X.key∧av σ e.2.1 X.val)∧∀e∈l,∃X∈E,X.born=e.2.2∧av σ e.1 X.key∧av σ e.2.1 X.val
 |[],E,h=>by
  have:E=[]:=h;subst this;exact⟨rfl,(fun X hX=>by cases hX),(fun e he=>by cases he)⟩
 |(k,v,n)::l,E,h=>by
  obtain⟨K,V,E',e,h1,h2,h3⟩:=h;subst e;obtain⟨q1,q2,q3⟩:=h3.toL;refine⟨by simp[q1],fun X hX=>?_,fun e he=>?_⟩
  ·rcases List.mem_cons.1 hX with h4 |h4
   ·subst h4;exact⟨(k,v,n),aq,rfl,h1,h2⟩
   ·obtain⟨e,e1,e2⟩:=q2 X h4;exact⟨e,an _ e1,e2⟩
  ·rcases List.mem_cons.1 he with h4 |h4
   ·subst h4;exact⟨⟨K,V,n⟩,aq,rfl,h1,h2⟩
   ·obtain⟨X,e1,e2⟩:=q3 e h4;exact⟨X,an _ e1,e2⟩
def Ok.mapB {G:Gl}(hk:Ok G σ h nx w){m es cl}(hm:h.get m=some (.map es cl)):∃b E,σ.blk m=some b∧w.heap[b]?=some (.map (List.toArray E) cl)∧dC σ es E:=by
 obtain⟨b,o,hb,ho,hr⟩:=hk.blk m _ hm;simp only[cq]at hr;obtain⟨E,e,h1⟩:=hr;subst e;exact⟨b,E,hb,ho,h1⟩
def Ok.iterB {G:Gl}(hk:Ok G σ h nx w){it m since seen st}(hm:h.get it=some (.miter m since seen st)):∃r b,σ.blk it=some r∧σ.blk m=some b∧w.heap[r]?=some (.mapIter (some b) since seen.toArray st):=by
 obtain⟨r,o,hb,ho,hr⟩:=hk.blk it _ hm;simp only[cq]at hr;obtain⟨b,h1,e⟩:=hr;subst e;exact⟨r,b,hb,h1,ho⟩
def J7 (hc:CxOk P c){ops:Array Oper}{o:Oper}{K:AS→Prop}{s:AS}(hs:cI P c sz ops.toList o K s){r:Option Nat}(hk:Ok c.G σ s.h s.nx w)(ht:St σ s.tm a sz s.ds)(Q:Exit→Act→World→Prop)(L:Act→World→Prop)
  (hK:∀τ aZ V w1 h1 tV,K (.mk aZ h1 tV s.ds)→Post c.G σ s.h s.nx w τ h1 tV w1→St τ aZ (a.put o.dst V) sz s.ds→L (a.put o.dst V) w1):
  if Region.wanted o (yielded ops a.tmps) then o.wpIn (dT r) 0 P a w L Q else (∀f,o.about P w a.eval=some f→(dT r).fn f)∧L (a.put o.dst undef) w:=by
 cases s with
 |mk tm h nx ds=>
 have pre:(tW P c sz o.op o.dst tm h nx ds K→o.wpIn (dT r) 0 P a w L Q)→if Region.wanted o (yielded ops a.tmps) then o.wpIn (dT r) 0 P a w L Q else (∀f,o.about P w a.eval=some f→(dT r).fn f)∧L (a.put o.dst undef) w:=by
  intro hp;simp only[AS.h,AS.nx,AS.tm,AS.ds]at hk ht hK;unfold cI at hs;simp only at hs;cases hw:gU ops.toList tm o with
  |none=>rw[hw]at hs;exact hs.elim
  |some b=>
  rw[zm ht.tm hw];rw[hw]at hs;cases b with
  |false=>
   simp only[Bool.false_eq_true,if_false];obtain⟨tm',e1,e2⟩:=rC (a:=a) (s:=.mk tm h nx ds) hs ht vJ;exact⟨fun _ _=>trivial,hK σ tm' _ w h nx e1 (.refl hk) e2⟩
  |true=>
   simp only[if_true];exact hp hs
 simp only[AS.h,AS.nx,AS.tm,AS.ds]at hk ht hK;obtain⟨dst,op,type,pos,after,guard⟩:=o;cases op <;> try exact QG hc (s:=.mk tm h nx ds) hs hk ht Q L hK
 case lookup t x kk ok=>
  cases Gf:vM c t with
  |false=>
   refine QG hc (s:=.mk tm h nx ds) ?_ hk ht Q L hK;unfold cI tW at hs;simp only[Gf]at hs;exact hs
  |true=>
   refine pre fun hs=>?_;unfold tW at hs;simp only[Gf]at hs;have hp:=zGe hc hk t ok (fun v e=>kH hk ht.tm e) (fun v e=>kH hk ht.tm e) (m:=aL c.G tm x) (k:=aL c.G tm kk) (M:=a.eval x) (K:=a.eval kk);refine kG (fun _ e=>by cases e) ?_;have hex:(execOp a.eval ⟨dst,.lookup t x kk ok,type,pos,after,guard⟩).run P w=((Instr.lookup t (a.eval x) (a.eval kk) ok).run P w).andThen fun v w'=>.ok (.value v) w':=by
    show (do pure (.value (← Instr.lookup t (a.eval x) (a.eval kk) ok)):Sem Next).run P w=_;simp only[Sem.run_bind,Sem.run_pure]
   rw[hex];cases hv:D3 c t ok (aL c.G tm x) (aL c.G tm kk) h nx with
   |fail=>rw[hv]at hs;exact hs.elim
   |unit g ny=>rw[hv]at hp;exact hp.elim
   |val v g ny=>
    rw[hv]at hs hp;obtain⟨V,τ,x,h1,h2,h3⟩:=hp;obtain⟨tm',e1,e2⟩:=rC (a:=a) (s:=.mk tm g ny ds) hs (ht.mono h3.le) h2;rw[h1];exact hK τ tm' _ x g ny e1 h3 e2
 case mapUpdate t x kk vv=>
  cases Gf:vM c t with
  |false=>
   refine QG hc (s:=.mk tm h nx ds) ?_ hk ht Q L hK;unfold cI tW at hs;simp only[Gf]at hs;exact hs
  |true=>
   refine pre fun hs=>?_;unfold tW at hs;simp only[Gf]at hs;have hp:=zIu hc hk t (fun v e=>kH hk ht.tm e) (fun v e=>kH hk ht.tm e) (fun v e=>kH hk ht.tm e) (m:=aL c.G tm x) (k:=aL c.G tm kk) (v:=aL c.G tm vv) (M:=a.eval x) (K:=a.eval kk) (V:=a.eval vv);refine kG (fun _ e=>by cases e) ?_;have hex:(execOp a.eval ⟨dst,.mapUpdate t x kk vv,type,pos,after,guard⟩).run P w=((Instr.mapUpdate t (a.eval x) (a.eval kk) (a.eval vv)).run P w).andThen fun _ w'=>.ok .skip w':=by
    show (do Instr.mapUpdate t (a.eval x) (a.eval kk) (a.eval vv);pure .skip:Sem Next).run P w=_;simp only[Sem.run_bind,Sem.run_pure]
   rw[hex];cases hv:DX c t (aL c.G tm x) (aL c.G tm kk) (aL c.G tm vv) h nx with
   |fail=>rw[hv]at hs;exact hs.elim
   |val v g ny=>rw[hv]at hp;exact hp.elim
   |unit g ny=>
    rw[hv]at hs hp;obtain⟨τ,x,h1,h3⟩:=hp;obtain⟨tm',e1,e2⟩:=rC (a:=a) (s:=.mk tm g ny ds) hs (ht.mono h3.le) vJ;rw[h1];exact hK τ tm' _ x g ny e1 h3 e2
 case range t x=>
  refine pre fun hs=>?_;obtain⟨m,es,cl,k,e,q1,q2,q3,q4,e1,e2,e3,e4⟩:=hs;have hx:=kH hk ht.tm e1;simp only[av]at hx;obtain⟨b,hb,ex⟩:=hx;obtain⟨b',E,aV,ho,hE⟩:=hk.mapB e2;rw[hb]at aV;cases aV;have hu:P.underlying t=some (.map k e):=(hc.tt t _ e3).1;have pa:=Post.alloc hk 0 (.miter m cl [] cl) (.mapIter (some b) cl #[] cl) (by
   simp only[cq];refine⟨b,?_,rfl⟩;have:m≠nx:=by have:=hk.lt e2;omega
   simp[Sg.add,this,hb])
  have hv:av (σ.add nx w.heap.size 0) (.ptr nx 0) (.pointer (some ⟨w.heap.size,0,none⟩)):=by
   simp only[av];exact⟨w.heap.size,by simp[Sg.add],rfl⟩
  obtain⟨tm',k1,k2⟩:=rC (a:=a) e4 (ht.mono pa.le) hv;refine kG (fun _ e=>by cases e) ?_;have aR:(execOp a.eval ⟨dst,.range t x,type,pos,after,guard⟩).run P w=.ok (.value (.pointer (some ⟨w.heap.size,0,none⟩))) (w.alloc (.mapIter (some b) cl #[] cl)):=by
   show (do pure (.value (← Instr.range t (a.eval x))):Sem Next).run P w=_;rw[ex];simp[run_range_map w t k e b E.toArray cl hu ho]
  rw[aR];exact hK _ tm' _ _ _ _ k1 pa k2
 case next x isS=>
  refine pre fun hs=>?_;cases isS with
  |true=>exact hs.elim
  |false=>
  obtain⟨it,m,since,seen,st,es,cl,e1,e2,e3,e4,e5,e6,e7⟩:=hs;have hx:=kH hk ht.tm e1;simp only[av]at hx;obtain⟨r,hr,ex⟩:=hx;obtain⟨r',b,A6,hb,ho⟩:=hk.iterB e2;rw[hr]at A6;cases A6;obtain⟨b',E,aV,Db,hE⟩:=hk.mapB e3;rw[hb]at aV;cases aV;obtain⟨t1,t2,t3⟩:=hE.toL;have hold:∀X∈E.toArray.toList,X.born<since:=fun X hX=>by
   obtain⟨e,q1,q2,_⟩:=t2 X (by simpa using hX);rw[q2];exact e4 e q1
  refine kG (fun _ e=>by cases e) ?_;have hex:(execOp a.eval ⟨dst,.next x false,type,pos,after,guard⟩).run P w=((Instr.next (.pointer (some ⟨r,0,none⟩)) false type).run P w).andThen fun v w'=>.ok (.value v) w':=by
   show (do pure (.value (← Instr.next (a.eval x) false type)):Sem Next).run P w=_;rw[ex];simp only[Sem.run_bind,Sem.run_pure]
  rw[hex]
  rcases run_next_at (P:=P) w type r b since st seen.toArray E.toArray cl ho Db hold e5 with⟨h1,h2⟩ |⟨X,hX,w1,mr,h2⟩
  ·have aQ:∀e∈es,e.2.2∈seen:=by
    intro e he;obtain⟨X,x1,x2,_⟩:=t3 e he;have:leftOf E.toArray seen.toArray=#[]:=Array.eq_empty_of_size_eq_zero h1;unfold leftOf at this;rw[Array.filter_eq_empty_iff]at this;have:=this X (by simpa using x1);simpa[x2]using this
   rw[h2];obtain⟨tm',k1,k2⟩:=rC (a:=a) (V:=.tuple #[.bool false]) (e6 aQ) ht (by simp only[av];exact⟨[.bool false],rfl,by simp only[aC,av];exact⟨_,[],rfl,rfl,rfl⟩⟩);exact hK _ tm' _ _ _ _ k1 (.refl hk) k2
  ·have UT:X∈E∧¬X.born∈seen:=by
    unfold leftOf at hX;simpa using hX
   obtain⟨e,q1,q2,q3,q4⟩:=t2 X UT.1;have oW:¬e.2.2∈seen:=by rw[← q2];exact UT.2
   have p1:Post c.G σ h nx w σ h nx w1:=by
    rcases mr with h3 |h3
    ·rw[h3];exact .refl hk
    ·rw[h3];exact Post.drawn hk _
   have hh:w1.heap=w.heap:=by
    rcases mr with h3 |h3
    ·rw[h3]
    ·rw[h3];rfl
   have p2:=Post.set p1.ok e2 hr (.miter m since (seen++[e.2.2]) cl) (.mapIter (some b) since (seen.toArray.push X.born) cl) (by
    simp only[cq];exact⟨b,hb,by rw[q2];simp⟩)
   rw[h2];have hv:av σ (.tup [.bool true,e.1,e.2.1]) (.tuple #[.bool true,X.key,X.val]):=by
    simp only[av];exact⟨[.bool true,X.key,X.val],rfl,by simp only[aC,av];exact⟨_,_,rfl,rfl,_,_,rfl,q3,_,_,rfl,q4,rfl⟩⟩
   obtain⟨tm',k1,k2⟩:=rC (a:=a) (e7 e q1 oW) ht hv;exact hK _ tm' _ _ _ _ k1 (p1.trans p2) k2
 case entry x=>
  refine pre fun hs=>?_;obtain⟨it,m,since,seen,es,cl,e,e1,e2,e3,e4,e5,e6⟩:=hs;have hx:=kH hk ht.tm e1;simp only[av]at hx;obtain⟨r,hr,ex⟩:=hx;obtain⟨r',b,A6,hb,ho⟩:=hk.iterB e2;rw[hr]at A6;cases A6;obtain⟨b',E,aV,Db,hE⟩:=hk.mapB e3;rw[hb]at aV;cases aV;obtain⟨t1,t2,t3⟩:=hE.toL;obtain⟨X,x1,x2,x3,x4⟩:=t3 e e4;refine kG (fun _ e=>by cases e) ?_;have aR:=run_entry_at (P:=P) w r b since seen.toArray E.toArray cl X (by rw[x2];simpa using ho) Db (by simpa using x1) (by simpa[t1]using e5);have hex:(execOp a.eval ⟨dst,.entry x,type,pos,after,guard⟩).run P w=.ok (.value (.tuple #[X.key,X.val])) w:=by
   show (do pure (.value (← Instr.entry (a.eval x))):Sem Next).run P w=_;rw[ex];simp[aR]
  rw[hex];have hv:av σ (.tup [e.1,e.2.1]) (.tuple #[X.key,X.val]):=by
   simp only[av];exact⟨[X.key,X.val],rfl,by simp only[aC];exact⟨_,_,rfl,x3,_,_,rfl,x4,rfl⟩⟩
  obtain⟨tm',k1,k2⟩:=rC (a:=a) e6 ht hv;exact hK _ tm' _ _ _ _ k1 (.refl hk) k2
def Y9 (hc:CxOk P c){ops:Array Oper}{K:AS→Prop}{r:Option Nat}{Q:AX→AS→Prop}(UB:∀s,K s→Q .norm s)(Q0:Exit→Act→World→Prop):∀(l:List Oper){s:AS},gZ P c sz ops.toList K l s→∀{σ:Sg}{a:Act}{w:World},Ok c.G σ s.h s.nx w→St σ s.tm a sz s.ds→
  (∀e a' w',AQ c.G σ s.h s.nx w sz Q e a' w'→Q0 e a' w')→wpListIn (dT r) 0 P ops Q0 l a w
 |[],s,hs,σ,a,w,ok,st,hq=>hq _ _ _ (AQ.mk (k:=.norm) ok st (UB s hs))
 |o::l,s,hs,σ,a,w,ok,st,hq=>by
  unfold wpListIn;refine J7 hc (K:=gZ P c sz ops.toList K l) hs ok st _ _ fun τ aZ a1 w1 h1 tV k1 p1 s1=>?_;exact Y9 hc UB Q0 l (s:=.mk aZ h1 tV s.ds) k1 p1.ok s1 fun e a' w' q=>hq e a' w' (q.trans p1)
def aw (P:Program)(c:Cx)(inr:Bool) (sz:Nat):Code→(AX→AS→Prop)→AS→Prop
 |.skip,Q,s=>Q .norm s
 |.label _,Q,s=>Q .norm s
 |.region id ops draw,Q,s=>match draw with
  |false=>gZ P c sz ops.toList (Q .norm) ops.toList s
  |true=>AW P c inr sz (.region id ops true) Q s
 |.seq a b,Q,s=>aw P c inr sz a (zl (aw P c inr sz b Q) Q) s
 |.cond x a b,Q,s=>match aL c.G s.tm x with
  |some (.bool t)=>(t=true→aw P c inr sz a Q s)∧(t=false→aw P c inr sz b Q s)
  |_=>False
 |.block id a,Q,s=>aw P c inr sz a (xm id Q) s
 |.loop a,Q,s=>AW P c inr sz (.loop a) Q s
 |.rangeFunc f ps x y,Q,s=>AW P c inr sz (.rangeFunc f ps x y) Q s
 |.exit id,Q,s=>Q (.exit id) s
 |.ret,Q,s=>Q .ret s
 |.scope a,Q,s=>aw P c inr sz a Q s
 |.goto _,_,_=>False
 |.refuse _,_,_=>False
def yU (hc:CxOk P c){inr:Bool}:∀(code:Code){Q:AX→AS→Prop}{s:AS},aw P c inr sz code Q s→AW P c inr sz code Q s
 |.skip,Q,s,h=>Yr h
 |.label _,Q,s,h=>XT h
 |.region id ops draw,Q,s,h=>by
  cases draw with
  |true=>exact h
  |false=>exact fun r hi σ a w ok st=>wpIn_region_list (Y9 hc (K:=Q .norm) (Q:=Q) (fun s h=>h) _ ops.toList h ok st fun _ _ _ q=>q)
 |.seq a b,Q,s,h=>SR ((yU hc a h).mono fun k s q=>by
   cases k with
   |norm=>exact yU hc b q
   |exit id=>exact q
   |ret=>exact q)
 |.cond x a b,Q,s,h=>by
  unfold aw at h;split at h
  ·rename_i t ht;exact Rz ht (fun e=>yU hc a (h.1 e)) (fun e=>yU hc b (h.2 e))
  ·exact h.elim
 |.block id a,Q,s,h=>X6 (yU hc a h)
 |.loop a,Q,s,h=>h
 |.rangeFunc f ps x y,Q,s,h=>h
 |.exit id,Q,s,h=>ZA h
 |.ret,Q,s,h=>Yh h
 |.scope a,Q,s,h=>XX (yU hc a h)
 |.goto _,Q,s,h=>h.elim
 |.refuse _,Q,s,h=>h.elim
end
end
end Go.Ev
