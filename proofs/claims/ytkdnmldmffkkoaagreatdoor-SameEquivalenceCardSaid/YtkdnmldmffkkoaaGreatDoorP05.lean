/- Texts. -/
import Derived.Lib.UnsafeStr
import Derived.LoopN
import Derived.Test.YtkdnmldmffkkoaaGreatDoorP04
set_option linter.unusedSimpArgs false
set_option linter.unusedVariables false
set_option maxRecDepth 100000
namespace Go.Ev
variable {P : Program} {G : Gl} {σ τ υ : Sg} {h g f : Tr ABlk} {nx ny nz : Nat} {w x y : World}
theorem di.get {σ:Sg}:∀{l:List (AV×AV×Nat)}{E:List MapEntry}{k:Nat}{a b:AV}{n:Nat},di σ l E→l[k]?=some (a,b,n)→∃A B,E[k]?=some ⟨A,B,n⟩∧av σ a A∧av σ b B
 |[],E,k,a,b,n,_,h=>by simp at h
 |(a0,b0,n0)::l,E,k,a,b,n,h,hk=>by
  simp only[di]at h;obtain⟨A,B,E',e,h1,h2,h3⟩:=h;subst e;cases k with
  |zero=>simp at hk;obtain⟨e1,e2,e3⟩:=hk;subst e1;subst e2;subst e3;exact⟨A,B,rfl,h1,h2⟩
  |succ k=>simpa using h3.get (by simpa using hk)
theorem di.of_get {σ:Sg}:∀{l:List (AV×AV×Nat)}{E:List MapEntry},E.length=l.length→(∀(k:Nat) a b n,l[k]?=some (a,b,n)→∃A B,E[k]?=some ⟨A,B,n⟩∧av σ a A∧av σ b B)→di σ l E
 |[],E,e,_=>by simp only[di];exact au (by simpa using e)
 |(a0,b0,n0)::l,E,e,h=>by
  cases E with
  |nil=>simp at e
  |cons V E'=>
   obtain⟨A,B,h1,h2,h3⟩:=h 0 a0 b0 n0 rfl;simp at h1;subst h1;simp only[di];exact⟨A,B,E',rfl,h2,h3,di.of_get (by simpa using e) fun k a b n hk=>by simpa using h (k+1) a b n (by simpa using hk)⟩
noncomputable section
def Rx {α β:Type}(l:List α)(x:α):(List α→β)→β:=List.rec (motive:=fun _=>(List α→β)→β) (fun k=>k [x]) (fun e _ ih k=>ih fun l'=>k (e::l')) l
theorem R0 {α:Type}:∀(l:List α)(x:α)(β:Type)(k:List α→β),Rx l x k=k (l++[x])
 |[],x,β,k=>rfl
 |e::l,x,β,k=>by
  show Rx l x (fun l'=>k (e::l'))=_;rw[R0];rfl
def RZ {α β:Type}(l:List α)(g:α→α):Nat→(List α→β)→β:=List.rec (motive:=fun _=>Nat→(List α→β)→β) (fun _ k=>k [])
 (fun e l ih i k=>match i with |0=>k (g e::l) |Nat.succ i=>ih i fun l'=>k (e::l')) l
theorem Rh {α:Type}(g:α→α):∀(l:List α) (i:Nat)(β:Type)(k:List α→β),RZ l g i k=k (l.modify i g)
 |[],i,β,k=>by cases i <;> rfl
 |e::l,0,β,k=>by show k (g e::l)=_;rfl
 |e::l,i+1,β,k=>by
  show RZ l g i (fun l'=>k (e::l'))=_;rw[Rh];rfl
def JY (ti:TI)(tk:Option TI)(kt:TypeId)(m k v:AV)(h:Tr ABlk) (nx:Nat):R:=
 match ti,tk with
 |.mk (.map AB _) _ _ _ _,some (.mk dk _ _ _ _)=>match Nat.beq kt AB && scal dk with
  |false=>.fail
  |true=>match m with
   |.map i=>match h.get i with
    |some (.map es cl)=>match mj dk k es 0 with
     |some (some (j,_))=>RZ es (fun e=>match e with |(_,_,n)=>(k,v,n)) j fun LA=>h.putK (some (.map LA cl)) i fun h'=>.unit h' nx
     |some none=>Rx es (k,v,cl) fun LA=>fN (Nat.succ cl) fun cl'=>h.putK (some (.map LA cl')) i fun h'=>.unit h' nx
     |none=>.fail
    |_=>.fail
   |_=>.fail
 |_,_=>.fail
theorem zUu {d:TypeDesc}{k k':AV}{K K':Value}(hk:av σ k K)(aU:av σ k' K')(he:lR d k k'=some true) (n:Nat):Instr.sameBits n K' K=true:=by
 unfold lR at he;cases d <;> try (cases he;done)
 ·cases k <;> cases k' <;> try (cases he;done)
  rename_i a c;simp only[av]at hk aU;subst hk;subst aU;cases a <;> cases c <;> first |(cases he;done) |(cases n <;> rfl)
 ·cases k <;> cases k' <;> try (cases he;done)
  rename_i j a j' c;simp only at he;cases hj:uE j j' with
  |false=>rw[hj]at he;cases he
  |true=>
   rw[hj]at he;have:=K4 hj;subst this;have ub:qR a c=true:=by simpa using he
   rw[rC]at ub;have:=eq_of_beq ub;subst this;simp only[av]at hk aU;subst hk;subst aU;cases n <;> simp[Instr.sameBits]
 ·cases k <;> cases k' <;> try (cases he;done)
  case bs.bs a c=>
   simp only[av]at hk aU;subst hk;subst aU;have ub:a=c:=by simpa using he
   subst ub;have:(a == a)=true:=by rw[PM];simp
   cases n <;> simp[Instr.sameBits,this]
  rename_i l1 n1 l2 n2;simp only[av]at hk aU;obtain⟨h1,e1⟩:=hk;obtain⟨h2,e2⟩:=aU;subst e1;subst e2;have hs:xc l1 n1 l2 n2=true:=by simpa using he
  rw[← SF h1 h2]at hs;have l8:(bE l2 n2 == bE l1 n1)=true:=by
   have hd:((bE l1 n1).data == (bE l2 n2).data)=true:=hs;have:=eq_of_beq hd;show ((bE l2 n2).data == (bE l1 n1).data)=true;rw[this];exact beq_self_eq_true _
  cases n <;> simp[Instr.sameBits,l8]
theorem Zt (hk:Ok G σ h nx w)(t:TypeId){ti:TI}(ht:cJ P t ti){tk:Option TI}{kt:TypeId}(dM:∀ti,tk=some ti→cJ P kt ti){m k v:AV}{M K V:Value}(hm:av σ m M)(fq:av σ k K)(hv:av σ v V):
  RU P G σ h nx w (Instr.mapUpdate t M K V) (JY ti tk kt m k v h nx):=by
 unfold JY;split
 ·rename_i AB LB q1 q2 q3 q4 dk q5 q6 q7 q8;obtain⟨hu,_⟩:=ht;obtain⟨F0,_⟩:=dM _ rfl;cases aR:(Nat.beq kt AB && scal dk) with
  |false=>trivial
  |true=>
   rw[al]at aR;have:=ad aR.1;subst this;cases m <;> try trivial
   rename_i i;simp only[av]at hm;obtain⟨b,hb,e⟩:=hm;subst e;simp only;cases hg:h.get i with
   |none=>trivial
   |some B=>
    cases B with
    |cells _ _ _ _ _=>trivial
    |loop _ _ _ _ _ _ _ _ _=>trivial
    |dfr=>trivial
    |miter _ _ _ _=>trivial
    |siter _ _=>trivial
    |map es cl=>
     simp only;obtain⟨b',E,aS,aF,hE⟩:=hk.map hg;rw[hb]at aS;cases aS;cases hf:mj dk k es 0 with
     |none=>trivial
     |some r=>
      obtain⟨R,a1,a2,a3⟩:=Kv fq hE hf;have dT:=Sh (P:=P) F0 aR.2 false 9999 K w;have vB:(Instr.findKey kt K E).run P w=.ok R w:=by simp[Instr.findKey,run_underlying F0,a1]
      have fE:(getObj b).run P w=.ok (.map (List.toArray E) cl) w:=by simp[getObj,Sem.run,aF]
      have qq:∀o:Obj,(setObj b o).run P w=.ok () (gT w b o):=fun o=>by simp[setObj,Sem.run,aF,gT]
      cases r with
      |none=>
       simp only[qX]at a2;subst a2;simp only[R0,fN_eq,Tr.putK_eq];refine⟨σ,_,?_,Post.set hk hg hb (.map (es++[(k,v,cl)]) (cl+1)) (.map (List.toArray (E++[⟨K,V,cl⟩])) (cl+1)) ?_⟩
       ·unfold Instr.mapUpdate;simp only[Sem.run_bind,run_underlying hu,Result.andThen,fE,dT,vB];rw[qq];simp[gT]
       ·simp only[bX];refine⟨_,rfl,di.of_get (by simp[hE.length]) fun k0 a b n e=>?_⟩
        by_cases h1:k0<es.length
        ·rw[List.getElem?_append_left h1]at e;obtain⟨A,B,e1,e2,e3⟩:=hE.get e;exact⟨A,B,by rw[List.getElem?_append_left (by rw[hE.length];exact h1)];exact e1,e2,e3⟩
        ·rw[List.getElem?_append_right (by omega)]at e;cases h2:k0-es.length with
         |succ q=>rw[h2]at e;simp at e
         |zero=>
          rw[h2]at e;simp at e;obtain⟨e1,e2,e3⟩:=e;subst e1;subst e2;subst e3;refine⟨K,V,?_,fq,hv⟩;rw[List.getElem?_append_right (by rw[hE.length];omega),hE.length,h2];rfl
      |some p=>
       obtain⟨j,v0⟩:=p;simp only[qX]at a2;obtain⟨V0,e,_⟩:=a2;subst e;obtain⟨_,hj,k',aU,sM⟩:=a3 j v0 rfl;simp only[Nat.sub_zero]at aU;obtain⟨⟨ka,va,na⟩,zD⟩:∃p,es[j]?=some p:=⟨es[j]'(by omega),by simp[show j<es.length by omega]⟩;rw[zD]at aU;simp at aU;subst aU;obtain⟨KA,VA,e1,e2,e3⟩:=hE.get zD;simp only[Rh,Tr.putK_eq];have l6:(Instr.keyThatStays KA K).run P w=.ok K w:=by simp[Instr.keyThatStays,zUu fq e2 sM]
       refine⟨σ,_,?_,Post.set hk hg hb (.map (es.modify j (fun e=>match e with |(_,_,n)=>(k,v,n))) cl) (.map (List.toArray (E.modify j fun e=>{ e with key:=K,val:=V })) cl) ?_⟩
       ·unfold Instr.mapUpdate;have sq:(((List.toArray E)[j]?).map (·.key)).getD K=KA:=by simp[e1]
        simp only[Sem.run_bind,run_underlying hu,Result.andThen,fE,dT,vB,sq,l6];rw[qq];simp[gT]
       ·simp only[bX];refine⟨_,rfl,di.of_get (by simp[hE.length]) fun k0 a b n e=>?_⟩;rw[List.getElem?_modify]at e ⊢
        by_cases h1:j=k0
        ·subst h1;rw[zD]at e;simp at e;obtain⟨q1,q2,q3⟩:=e;subst q1;subst q2;subst q3;exact⟨K,V,by rw[e1];simp,fq,hv⟩
        ·simp only[h1,if_false]at e ⊢;simp at e;obtain⟨A,B,c1,c2,c3⟩:=hE.get e;exact⟨A,B,by simpa using c1,c2,c3⟩
 ·trivial
def pC (mx:Bool)(l:List AV)(h:Tr ABlk) (nx:Nat):R:=
 match l with
 |[.int k a,.int k' b]=>match mx with
  |true=>match qs a b with
   |true=>.val (.int k b) h nx
   |false=>.val (.int k a) h nx
  |false=>match qs b a with
   |true=>.val (.int k b) h nx
   |false=>.val (.int k a) h nx
 |_=>.fail
end
end Go.Ev
namespace Go.Ev
variable {P : Program} {G : Gl} {σ τ υ : Sg} {h g f : Tr ABlk} {nx ny nz : Nat} {w x y : World}
noncomputable section
theorem zxw (hk:Ok G σ h nx w)(mx:Bool)(ts:Array TypeId)(ty:TypeId){l:List AV}{L:List Value}(hl:aC σ l L):
  RV P G σ h nx w (match mx with |true=>Builtin.max_ ts ty L.toArray |false=>Builtin.min_ ts ty L.toArray) (pC mx l h nx):=by
 have key:∀(k k':IntKind) (a b:Int),aC σ [.int k a,.int k' b] L→L=[.int k a,.int k' b]:=by
  intro k k' a b hl;simp only[aC,av]at hl;obtain⟨V,L',e,e1,V2,L2,e2,e3,e4⟩:=hl;subst e4;subst e3;subst e2;subst e1;exact e
 cases mx with
 |true=>
  show RV P G σ h nx w (Builtin.max_ ts ty L.toArray) _;unfold pC;simp only;split
  ·rename_i k a k' b;rw[key _ _ _ _ hl];have e:=rp a b;cases hb:qs a b with
   |true=>
    rw[hb]at e;have:a<b:=of_decide_eq_true e.symm;exact SV.pure hk (V:=.int k b) (by simp[Builtin.max_,Builtin.max2,this]) (by simp only[av])
   |false=>
    rw[hb]at e;have:¬a<b:=of_decide_eq_false e.symm;exact SV.pure hk (V:=.int k a) (by simp[Builtin.max_,Builtin.max2,this]) (by simp only[av])
  ·trivial
 |false=>
  show RV P G σ h nx w (Builtin.min_ ts ty L.toArray) _;unfold pC;simp only;split
  ·rename_i k a k' b;rw[key _ _ _ _ hl];have e:=rp b a;cases hb:qs b a with
   |true=>
    rw[hb]at e;have:b<a:=of_decide_eq_true e.symm;exact SV.pure hk (V:=.int k b) (by simp[Builtin.min_,Builtin.min2,this]) (by simp only[av])
   |false=>
    rw[hb]at e;have:¬b<a:=of_decide_eq_false e.symm;exact SV.pure hk (V:=.int k a) (by simp[Builtin.min_,Builtin.min2,this]) (by simp only[av])
  ·trivial
def KQ (size n:Nat)(v:AV)(h:Tr ABlk):Option (List AV):=
 match v with
 |.sl0=>match Nat.beq n 0 with |true=>some [] |false=>none
 |.sl i o m _ _=>match Nat.ble n m with
  |false=>none
  |true=>match h.get i with
   |some (.cells _ k c _ _)=>match Nat.ble (Nat.add o (Nat.mul n size)) k with
    |true=>iI c (Nat.mul n size) o
    |false=>none
   |_=>none
 |.str l s=>match Nat.beq size 1 && Nat.ble n l with
  |true=>some (uZ n (Nat.mod s (Nat.pow 256 n)))
  |false=>none
 |_=>none
theorem zPm (hk:Ok G σ h nx w){size n:Nat}{v:AV}{V:Value}(hv:av σ v V){l:List AV}(hs:KQ size n v h=some l):
  ∃L,aC σ l L∧l.length=n * size∧(Builtin.firstCells size n V).run P w=.ok L.toArray w:=by
 unfold KQ at hs;cases v <;> try (cases hs;done)
 ·rename_i sl sn;simp only[av]at hv;obtain⟨hn,e⟩:=hv;subst e;simp only at hs;split at hs
  ·rename_i hb;rw[al]at hb;have:=ad hb.1;subst this;have hle:=ah hb.2;cases hs;refine⟨(cC n (sn % 256 ^ n)).map fun b=>.int .u8 b.toNat,JN _ _,by rw[JB];omega,?_⟩;simp only[Builtin.firstCells,Sem.run_pure];rw[Z1 hle]
   congr 1
   simp only[Nat.sub_zero,Nat.pow_zero,Nat.div_one];show Array.map _ (cC n (sn % 256 ^ n)).toArray=_;simp
  ·cases hs
 ·simp only[av]at hv;subst hv;simp only at hs;split at hs
  ·rename_i hb;have:=ad hb;subst this;cases hs;exact⟨[],by simp only[aC],by simp,by simp[Builtin.firstCells]⟩
  ·cases hs
 ·rename_i i o m c opn;simp only[av]at hv;obtain⟨b,hb,e,_⟩:=hv;subst e;simp only at hs;split at hs
  ·cases hs
  ·split at hs
   ·rename_i e' k c' bu esz hg;split at hs
    ·rename_i hle;obtain⟨b',C,fr,aS,aF,aK,_,_⟩:=hk.cells hg;rw[hb]at aS;cases aS;obtain⟨hlen,L,iR,kM,_⟩:=Bo (P:=P) aF aK (ah hle) hs;exact⟨L,iR,hlen,by simpa[Builtin.firstCells]using kM⟩
    ·cases hs
   ·cases hs
def JR:AV→Option Nat
 |.sl0=>some 0
 |.sl _ _ m _ _=>some m
 |.str l _=>some l
 |_=>none
theorem zGd {v:AV}{V:Value}(hv:av σ v V){n:Nat}(hn:JR v=some n)(w:World):(Builtin.lenOf V).run P w=.ok n w:=by
 unfold JR at hn;cases v <;> try (cases hn;done)
 ·cases hn;simp only[av]at hv;obtain⟨_,e⟩:=hv;subst e;simp[Builtin.lenOf,tw]
 ·cases hn;simp only[av]at hv;subst hv;simp[Builtin.lenOf]
 ·cases hn;simp only[av]at hv;obtain⟨b,_,e,_⟩:=hv;subst e;simp[Builtin.lenOf]
def Qf (ti:TI)(te:Option TI)(et:TypeId)(dst src:AV)(h:Tr ABlk) (nx:Nat):R:=
 match ti,te with
 |.mk (.slice e) _ _ _ _,some (.mk _ size _ _ _)=>match Nat.beq e et with
  |false=>.fail
  |true=>match JR src with
   |none=>.fail
   |some m=>match dst with
    |.sl0=>vInt 0 h nx
    |.sl i o len _ _=>match KQ size (Nat.min m len) src h with
     |none=>.fail
     |some l=>match dB l with
      |false=>.fail
      |true=>match h.get i with
       |some (.cells e' n c opn esz)=>match Nat.ble (Nat.add o (Nat.mul (Nat.min m len) size)) n with
        |true=>qV l c o fun c'=>h.putK (some (.cells e' n c' opn esz)) i fun h'=>vInt (Nat.min m len) h' nx
        |false=>.fail
       |_=>.fail
    |_=>.fail
 |_,_=>.fail
theorem zGz (hk:Ok G σ h nx w)(t:TypeId){ti:TI}(ht:cJ P t ti){te:Option TI}{et:TypeId}(iG:∀ti,te=some ti→cJ P et ti)(ts:Array TypeId)(eG:ts[0]?=some t)(ty:TypeId){dst src:AV}{D S:Value}(hd:av σ dst D)(hs:av σ src S):
  RV P G σ h nx w (Builtin.copy_ ts ty #[D,S]) (Qf ti te et dst src h nx):=by
 unfold Qf;split
 ·rename_i e q1 q2 q3 q4 de size q5 q6 q7;obtain⟨hu,jL⟩:=ht;clear jL;obtain⟨nH,inf,hi,bI,Om⟩:=iG _ rfl;clear Om;cases dG:Nat.beq e et with
  |false=>trivial
  |true=>
  have:=ad dG;subst this;simp only;cases hm:JR src with
  |none=>trivial
  |some m=>
  have hlen:=zGd (P:=P) hs hm w;simp only;cases dst <;> try trivial
  ·simp only[av]at hd;subst hd;refine wH hk ?_;have hf:∃L:Array Value,(Builtin.firstCells size 0 S).run P w=.ok L w:=by
    cases src <;> try (cases hm;done)
    ·simp only[av]at hs;obtain⟨_,e1⟩:=hs;subst e1;exact⟨#[],by simp[Builtin.firstCells]⟩
    ·simp only[av]at hs;subst hs;exact⟨#[],by simp[Builtin.firstCells]⟩
    ·simp only[av]at hs;obtain⟨b,_,e1,_⟩:=hs;subst e1;exact⟨#[],by simp[Builtin.firstCells,loadCells,loadCellsFrom]⟩
   obtain⟨L,hf⟩:=hf;simp[Builtin.copy_,eG,run_underlying hu,hlen,nN hi,bI,hf]
  ·rename_i i o len c opn;simp only[av]at hd;obtain⟨b,hb,e1,_⟩:=hd;subst e1;simp only;cases l9:KQ size (Nat.min m len) src h with
   |none=>trivial
   |some l=>
   simp only;cases lI:dB l with
   |false=>trivial
   |true=>
   simp only;cases hg:h.get i with
   |none=>trivial
   |some B=>
   cases B with
   |map _ _=>trivial
   |loop _ _ _ _ _ _ _ _ _=>trivial
   |dfr=>trivial
   |miter _ _ _ _=>trivial
   |siter _ _=>trivial
   |cells e' n c' bu esz=>
   simp only;cases hle:Nat.ble (Nat.add o (Nat.mul (Nat.min m len) size)) n with
   |false=>trivial
   |true=>
   have mJ:o+(Nat.min m len) * size≤n:=ah hle;obtain⟨L,iR,Ix,xP⟩:=zPm (P:=P) hk hs l9;obtain⟨b',C,fr,aS,aF,aK,oR,ll⟩:=hk.cells hg;rw[hb]at aS;cases aS;have hnC:n≤C.size:=by split at ll <;> omega
   have hL:L.length=(Nat.min m len) * size:=by rw[iR.length];exact Ix
   simp only[kY,Tr.putK_eq,vInt,fN_eq];have aW:=Kl (P:=P) (b:=b) (o:=o) L 0 C w aF (by omega) oR (K5 lI iR);simp only[Nat.add_zero]at aW;refine⟨goInt (Nat.min m len),σ,_,?_,by simp only[av];rfl,Lm hk hg iR (by omega) hb aF⟩;simp[Builtin.copy_,eG,run_underlying hu,hlen,nN hi,bI,xP,aW]
 ·trivial
end
end Go.Ev
namespace Go.Ev
variable {P : Program} {G : Gl} {σ τ υ : Sg} {h g f : Tr ABlk} {nx ny nz : Nat} {w x y : World}
theorem Post.freeze (hk:Ok G σ h nx w){i b:Nat}{B:ABlk}(hi:h.get i=some B)(hb:σ.blk i=some b) (n:Nat):Post G σ h nx w σ (h.put i none) nx (w.freeze ⟨b,0,none⟩ n):=by
 have hs:∀j B',(h.put i none).get j=some B'→j≠i∧h.get j=some B':=by
  intro j B' hj;rw[Tr.get_put]at hj;split at hj
  ·cases hj
  ·exact⟨by assumption,hj⟩
 have aF:∀k,k≠b→(w.freeze ⟨b,0,none⟩ n).heap[k]?=w.heap[k]?:=by
  intro k aU;unfold World.freeze;split
  ·rfl
  ·simp only[Array.getElem?_modify];rw[if_neg (fun e=>aU e.symm)]
 have bI:(w.freeze ⟨b,0,none⟩ n).heap.size=w.heap.size:=by unfold World.freeze;split <;> simp
 have NW:(w.freeze ⟨b,0,none⟩ n).os=w.os∧(w.freeze ⟨b,0,none⟩ n).tape=w.tape∧(w.freeze ⟨b,0,none⟩ n).output=w.output:=by unfold World.freeze;split <;> exact⟨rfl,rfl,rfl⟩
 refine⟨⟨hk.glob,hk.le,hk.fresh,fun a c d B1 B2 h1 h2=>hk.inj a c d B1 B2 (hs _ _ h1).2 (hs _ _ h2).2,fun a B1 h1=>?_,fun d C hd=>⟨?_,fun a B1 h1=>(hk.imm d C hd).2 a B1 (hs _ _ h1).2⟩,hk.gl⟩,.refl σ,⟨NW.1,NW.2.1,NW.2.2,by rw[bI];exact ae _,fun d hd hn=>aF d fun e=>hn i B hi (e ▸ hb),fun a B1 d h1 h2=>.inr ⟨a,B1,(hs _ _ h1).2,h2⟩,fun _ _ h=>.inl h⟩,ae _⟩
 ·obtain⟨n1,n2⟩:=hs a B1 h1;obtain⟨b',o,aS,ho,hr⟩:=hk.blk a B1 n2;refine⟨b',o,aS,?_,hr⟩;rw[aF b' fun e=>n1 (hk.inj a i b B1 B n2 hi (e ▸ aS) hb)];exact ho
 ·obtain⟨⟨t,fr,h1⟩,h2⟩:=hk.imm d C hd;refine⟨t,fr,?_⟩;rw[aF d fun e=>h2 i B hi (e ▸ hb)];exact h1
theorem YX:∀{l:List AV}{L:List Value}{n:Nat},aC σ l L→pF l=some n→∀(j:Nat) U,L[j]?=some U→∃b,b≤255∧U=.int .u8 (Int.ofNat b)
 |[],L,n,hr,_,j,U,hU=>by simp only[aC]at hr;subst hr;simp at hU
 |v::l,L,n,hr,hn,j,U,hU=>by
  simp only[aC]at hr;obtain⟨V,L',e,h1,h2⟩:=hr;subst e;rw[Qx]at hn;cases zx:uD v with
  |none=>rw[zx]at hn;cases hn
  |some b=>
   rw[zx]at hn;cases dK:pF l with
   |none=>rw[dK]at hn;cases hn
   |some n'=>
    cases j with
    |zero=>simp at hU;subst hU;exact⟨b,Sc h1 zx⟩
    |succ j=>exact YX h2 dK j U (by simpa using hU)
noncomputable section
def P2 (v:AV)(h:Tr ABlk) (nx:Nat):R:=
 match v with
 |.sl0=>.val .ptr0 h nx
 |.sl i o l c opn=>match (match opn with |true=>Nat.ble 1 l |false=>Nat.ble 1 c) with
  |true=>.val (.ptr i o) h nx
  |false=>.fail
 |_=>.fail
theorem zJp (hk:Ok G σ h nx w)(ts:Array TypeId)(ty:TypeId){v:AV}{V:Value}(hv:av σ v V):RV P G σ h nx w (Builtin.unsafeSliceData_ ts ty #[V]) (P2 v h nx):=by
 unfold P2;cases v <;> try trivial
 ·simp only[av]at hv;subst hv;exact SV.pure hk (V:=.pointer none) rfl (by simp only[av])
 ·rename_i i o l c opn;simp only[av]at hv;obtain⟨b,hb,e,gP⟩:=hv;subst e;simp only;cases hq:(match opn with |true=>Nat.ble 1 l |false=>Nat.ble 1 c) with
  |false=>trivial
  |true=>
   have aQ:¬(if opn=true then σ.cap i-c else c)=0:=by
    cases opn with
    |true=>
     have:=ah (show Nat.ble 1 l=true from hq);simp only[if_true]at gP ⊢;omega
    |false=>
     have:=ah (show Nat.ble 1 c=true from hq);simp only[Bool.false_eq_true,if_false];omega
   refine SV.pure hk (V:=.pointer (some ⟨b,o,none⟩)) ?_ (by simp only[av];exact⟨b,hb,rfl⟩);generalize (if opn=true then σ.cap i-c else c)=cc at aQ;have vz:Builtin.unsafeSliceData_ ts ty #[.slice (some ⟨b,o,none⟩) l cc]=(if cc≠0 then pure (.pointer (some ⟨b,o,none⟩)) else do
     if (← viewAt b).isSome then pure (.pointer (some ⟨b,o,none⟩)) else pure (.pointer (some ⟨← newObj (.view ⟨b,o,none⟩ (← elemOf ty)),0,none⟩))):=rfl
   rw[vz,if_pos aQ];rfl
def Hd (tp:TI)(p n:AV)(h:Tr ABlk) (nx:Nat):R:=
 match tp with
 |.mk (.pointer e) _ _ _ ((_,s,_)::_)=>match Nat.beq s 1 with
  |false=>.fail
  |true=>match n with
   |.int .i64 (.ofNat n)=>match p with
    |.ptr0=>match Nat.beq n 0 with
     |true=>.val (.str 0 0) h nx
     |false=>.fail
    |.ptr i o=>match Nat.beq n 0 with
     |true=>.val (.str 0 0) h nx
     |false=>match h.get i with
      |some (.cells e' m c _ _)=>match Nat.beq e' e && Nat.beq o 0 && Nat.ble n m && Nat.ble n 4611686018427387904 with
       |false=>.fail
       |true=>match iI c n 0 with
        |none=>.fail
        |some l=>match pF l with
         |none=>.fail
         |some z=>fN z fun z=>h.putK none i fun h'=>.val (.str n z) h' nx
      |_=>.fail
    |_=>.fail
   |_=>.fail
 |_=>.fail
theorem zU5 (hk:Ok G σ h nx w){pt:TypeId}{tp:TI}(ht:cJ P pt tp)(it ty:TypeId){p n:AV}{A N:Value}(hp:av σ p A)(hn:av σ n N):RV P G σ h nx w (Builtin.unsafeString_ #[pt,it] ty #[A,N]) (Hd tp p n h nx):=by
 unfold Hd;split
 ·rename_i e q1 q2 q3 o0 s0 b0 fs;obtain⟨hu,inf,hi,hs,nB,eN,hf,gE,mG⟩:=ht;have dL:=mG e (.inr (.inr rfl)) o0 s0 b0 rfl;obtain⟨⟨ie,Cg,Nf⟩,_⟩:=dL;cases Aq:Nat.beq s0 1 with
  |false=>trivial
  |true=>
  have N1:=ad Aq;have MQ:P.cellsOf e=1:=by simp[Program.cellsOf,Cg,Nf,N1]
  simp only;split
  ·rename_i k;simp only[av]at hn;subst hn;have h0:∀q:Option Addr,k=0→RV P G σ h nx w (Builtin.unsafeString_ #[pt,it] ty #[.pointer q,.int .i64 (Int.ofNat k)]) (.val (.str 0 0) h nx):=by
    intro q fV;subst fV;exact SV.pure hk (V:=.string .empty) (Lib.run_unsafeString_none w pt it ty q) (by simp only[av];exact⟨by simp,rfl⟩)
   split
   ·simp only[av]at hp;subst hp;split
    ·rename_i hb;exact h0 none (ad hb)
    ·trivial
   ·rename_i i o;simp only[av]at hp;obtain⟨b,hb,e1⟩:=hp;subst e1;split
    ·rename_i fC;exact h0 _ (ad fC)
    ·rename_i fC;have fV:=mX fC;split
     ·rename_i e' m c opn esz hg;split
      ·trivial
      ·rename_i aR;simp only[al]at aR;obtain⟨⟨⟨a1,a2⟩,a3⟩,a4⟩:=aR;have nU:=ad a1;have BR:=ad a2;have SN:=ah a3;have SO:=ah a4;subst nU;subst BR;split
       ·trivial
       ·rename_i l hl;split
        ·trivial
        ·rename_i z hz;simp only[fN_eq,Tr.putK_eq];obtain⟨b',C,fr,aS,aF,aK,_,ll⟩:=hk.cells hg;rw[hb]at aS;cases aS;have hmC:m≤C.size:=by split at ll <;> omega
         obtain⟨hlen,L,iR,_,eh⟩:=Bo (P:=P) (o:=0) aF aK (by omega) hl;obtain⟨F7,ns,hL,ot⟩:=J8 iR hz;rw[hlen]at F7 ot;have kP:(cC k z).length=k:=ml k z;have zy:∀(j:Nat) (u:UInt8),(cC k z)[j]?=some u→w.cell? ((⟨b,0,none⟩:Addr).add j)=some (.int .u8 u.toNat):=by
          intro j u hj;rw[← ot,List.getElem?_map]at hj;cases hq:ns[j]? with
          |none=>rw[hq]at hj;cases hj
          |some q=>
           rw[hq]at hj;have TP:L[j]?=some (.int .u8 q):=by rw[hL,List.getElem?_map,hq];rfl
           obtain⟨bb,Cd,hU⟩:=YX iR hz j _ TP;have Uv:q=Int.ofNat bb:=by cases hU;rfl
           rw[eh j _ TP];have hu8:u=UInt8.ofNat bb:=by
            rw[Uv]at hj;simpa using hj.symm
           rw[hu8,u8 (by omega),Uv];rfl
         have aO:=Lib.run_unsafeString_row (P:=P) w pt it ty e' hu MQ b C.size (by simp[World.shape?,aF]) (cC k z) (by intro e;rw[e]at kP;simp at kP;omega) (by rw[kP];omega) (by rw[kP];omega) zy;rw[kP]at aO;exact⟨.string (bE k z),σ,_,aO,by simp only[av];exact⟨F7,trivial⟩,Post.freeze hk hg hb k⟩
     ·trivial
   ·trivial
  ·trivial
 ·trivial
end
end Go.Ev
namespace Go.Ev
inductive Cx where
 |mk (tt:Tr TI) (eq:Tr (List (Nat×TypeDesc))) (ft:Tr Func) (G:Gl) (lies:TypeId→Nat→Nat→TypeId→Bool)
def Cx.tt:Cx→Tr TI |.mk t _ _ _ _=>t
def Cx.eq:Cx→Tr (List (Nat×TypeDesc)) |.mk _ e _ _ _=>e
def Cx.ft:Cx→Tr Func |.mk _ _ f _ _=>f
def Cx.G:Cx→Gl |.mk _ _ _ g _=>g
def Cx.lies:Cx→TypeId→Nat→Nat→TypeId→Bool |.mk _ _ _ _ l=>l
structure CxOk (P:Program)(c:Cx):Prop where
 tt:∀t ti,c.tt.get t=some ti→cJ P t ti
 eq:∀t,Ji P t (c.eq.get t)
 lies:∀e k o u,c.lies e k o u=true→liesAt P P.depth e k o u 1=true
 ft:∀f fn,c.ft.get f=some fn→P.funcs[f]?=some fn∧∀args w,(callFunc f args).run P w=.ok (.enter f args) w
noncomputable section
def w7:Value→Option AV
 |.bool b=>some (.bool b)
 |.int k n=>some (.int k n)
 |.string s=>some (.str s.data.toList.length (wj s.data.toList))
 |.pointer none=>some .ptr0
 |.slice none 0 0=>some .sl0
 |.map none=>some .map0
 |.nilFunc=>some .nilFunc
 |.nilIface=>some .nilIface
 |_=>none
def Bz (l:List Value):Option (List AV):=List.rec (motive:=fun _=>Option (List AV)) (some []) (fun v _ ih=>match w7 v with
 |some a=>match ih with
  |some l=>some (a::l)
  |none=>none
 |none=>none) l
def ofV:Value→Option AV
 |.agg cs=>match Bz cs.toList with
  |some l=>some (.agg l)
  |none=>none
 |.tuple cs=>match Bz cs.toList with
  |some l=>some (.tup l)
  |none=>none
 |.iface t v=>match w7 v with
  |some a=>some (.iface t a)
  |none=>none
 |v=>w7 v
theorem Js {v:Value}{a:AV}(h:w7 v=some a)(σ:Sg):av σ a v:=by
 unfold w7 at h;split at h <;> first
  |(cases h;simp only[av];done)
  |(cases h;done)
  |skip
 rename_i s;cases h;simp only[av];obtain⟨h1,h2⟩:=XL s.data.toList;refine⟨h1,?_⟩
 congr 1
 apply ByteArray.ext;show _=(cC _ _).toArray;rw[h2]
theorem Rz (σ:Sg):∀{l:List Value}{as:List AV},Bz l=some as→aC σ as l
 |[],as,h=>by cases h;simp only[aC]
 |v::l,as,h=>by
  change (match w7 v with
   |some a=>match Bz l with
    |some l=>some (a::l)
    |none=>none
   |none=>none)=some as at h
  cases h1:w7 v with
  |none=>rw[h1]at h;cases h
  |some a=>
   rw[h1]at h;cases h2:Bz l with
   |none=>rw[h2]at h;cases h
   |some l'=>
    rw[h2]at h;cases h;simp only[aC];exact⟨v,l,rfl,Js h1 σ,Rz σ h2⟩
theorem Zg {v:Value}{a:AV}(h:ofV v=some a)(σ:Sg):av σ a v:=by
 unfold ofV at h;split at h
 ·rename_i cs;cases hl:Bz cs.toList with
  |none=>rw[hl]at h;cases h
  |some l=>
   rw[hl]at h;cases h;simp only[av];exact⟨cs.toList,by simp,Rz σ hl⟩
 ·rename_i cs;cases hl:Bz cs.toList with
  |none=>rw[hl]at h;cases h
  |some l=>
   rw[hl]at h;cases h;simp only[av];exact⟨cs.toList,by simp,Rz σ hl⟩
 ·rename_i t v;cases hl:w7 v with
  |none=>rw[hl]at h;cases h
  |some l=>
   rw[hl]at h;cases h;simp only[av];exact⟨v,rfl,Js hl σ⟩
 ·exact Js h σ
def Hp (v:Value):Option AV:=
 match v with
 |.string s=>some (.bs s)
 |v=>w7 v
def Dk:List Value→Option (List AV)
 |[]=>some []
 |v::l=>match Hp v with
  |some a=>match Dk l with
   |some l=>some (a::l)
   |none=>none
  |none=>none
def pA (v:Value):Option AV:=
 match v with
 |.agg cs=>match Dk cs.toList with
  |some l=>some (.agg l)
  |none=>none
 |v=>Hp v
theorem ZF {v:Value}{a:AV}(h:Hp v=some a)(σ:Sg):av σ a v:=by
 unfold Hp at h;split at h
 ·cases h;simp only[av]
 ·exact Js h σ
theorem Zy (σ:Sg):∀{l:List Value}{as:List AV},Dk l=some as→aC σ as l
 |[],as,h=>by cases h;simp only[aC]
 |v::l,as,h=>by
  simp only[Dk]at h;cases h1:Hp v with
  |none=>rw[h1]at h;cases h
  |some a=>
   rw[h1]at h;cases h2:Dk l with
   |none=>rw[h2]at h;cases h
   |some l'=>
    rw[h2]at h;cases h;simp only[aC];exact⟨v,l,rfl,ZF h1 σ,Zy σ h2⟩
theorem YQ {v:Value}{a:AV}(h:pA v=some a)(σ:Sg):av σ a v:=by
 unfold pA at h;split at h
 ·rename_i cs;cases hl:Dk cs.toList with
  |none=>rw[hl]at h;cases h
  |some l=>
   rw[hl]at h;cases h;simp only[av];exact⟨cs.toList,by simp,Zy σ hl⟩
 ·exact ZF h σ
def aM (G:Gl)(tm:Tr AV)(o:Operand):Option AV:=
 match o with
 |.tmp t=>tm.get t
 |.const v=>match G.sym with
  |false=>ofV v
  |true=>pA v
 |.global g=>match G.tab g with
  |some cs=>some (.ip cs)
  |none=>match Nat.ble (Nat.succ g) G.n with
   |true=>some (.ptr g 0)
   |false=>none
 |.func f=>some (.func f [] [])
def jQ (σ:Sg)(tm:Tr AV)(a:Act):Prop:=∀t v,tm.get t=some v→av σ v (a.tmps.getD t undef)
theorem jT {G:Gl}{σ:Sg}{h:Tr ABlk}{nx:Nat}{w:World}(hk:Ok G σ h nx w){tm:Tr AV}{a:Act}(ht:jQ σ tm a){o:Operand}{v:AV}(he:aM G tm o=some v):av σ v (a.eval o):=by
 unfold aM at he;cases o with
 |tmp t=>exact ht t v he
 |const c=>
  simp only at he;split at he
  ·exact Zg he σ
  ·exact YQ he σ
 |global g=>
  simp only at he;split at he
  ·rename_i cs eh;cases he;exact hk.gl g cs eh
  ·split at he
   ·rename_i hle;cases he;simp only[av,Act.eval];exact⟨g,hk.glob g (ah hle),rfl⟩
   ·cases he
 |func f=>
  cases he;simp only[av,Act.eval];exact⟨[],[],rfl,by simp only[aC],by simp only[aC]⟩
def cZ (G:Gl)(tm:Tr AV)(l:List Operand):Option (List AV):=List.rec (motive:=fun _=>Option (List AV)) (some []) (fun o _ ih=>match aM G tm o with
 |some a=>match ih with
  |some l=>some (a::l)
  |none=>none
 |none=>none) l
theorem tB {G:Gl}{σ:Sg}{h:Tr ABlk}{nx:Nat}{w:World}(hk:Ok G σ h nx w){tm:Tr AV}{a:Act}(ht:jQ σ tm a):∀{l:List Operand}{vs:List AV},cZ G tm l=some vs→aC σ vs (l.map a.eval)
 |[],vs,h=>by cases h;simp only[aC,List.map_nil]
 |o::l,vs,h=>by
  change (match aM G tm o with
   |some a=>match cZ G tm l with
    |some l=>some (a::l)
    |none=>none
   |none=>none)=some vs at h
  cases h1:aM G tm o with
  |none=>rw[h1]at h;cases h
  |some v=>
   rw[h1]at h;cases h2:cZ G tm l with
   |none=>rw[h2]at h;cases h
   |some l'=>
    rw[h2]at h;cases h;simp only[aC,List.map_cons];exact⟨_,_,rfl,jT hk ht h1,tB hk ht h2⟩
def mi (G:Gl)(tm:Tr AV)(l:List (Nat×Operand)):Option (List (Nat×AV)):=List.rec (motive:=fun _=>Option (List (Nat×AV))) (some []) (fun p _ ih=>match p with
 |(i,o)=>match aM G tm o with
  |some a=>match ih with
   |some l=>some ((i,a)::l)
   |none=>none
  |none=>none) l
theorem KV {G:Gl}{σ:Sg}{h:Tr ABlk}{nx:Nat}{w:World}(hk:Ok G σ h nx w){tm:Tr AV}{a:Act}(ht:jQ σ tm a):∀{l:List (Nat×Operand)}{vs:List (Nat×AV)},mi G tm l=some vs→rf σ vs (l.map fun p=>(p.1,a.eval p.2))
 |[],vs,h=>by cases h;simp only[rf,List.map_nil]
 |(i,o)::l,vs,h=>by
  change (match aM G tm o with
   |some a=>match mi G tm l with
    |some l=>some ((i,a)::l)
    |none=>none
   |none=>none)=some vs at h
  cases h1:aM G tm o with
  |none=>rw[h1]at h;cases h
  |some v=>
   rw[h1]at h;cases h2:mi G tm l with
   |none=>rw[h2]at h;cases h
   |some l'=>
    rw[h2]at h;cases h;simp only[rf,List.map_cons];exact⟨_,_,rfl,jT hk ht h1,KV hk ht h2⟩
def uH (G:Gl)(tm:Tr AV)(o:Option Operand):Option (Option AV):=
 match o with
 |none=>some none
 |some o=>match aM G tm o with
  |some v=>some (some v)
  |none=>none
theorem Sz {G:Gl}{σ:Sg}{h:Tr ABlk}{nx:Nat}{w:World}(hk:Ok G σ h nx w){tm:Tr AV}{a:Act}(ht:jQ σ tm a){o:Option Operand}{v:Option AV}(he:uH G tm o=some v):mZ σ v (o.map a.eval):=by
 unfold uH at he;cases o with
 |none=>cases he;trivial
 |some o=>
  simp only at he;cases h1:aM G tm o with
  |none=>rw[h1]at he;cases he
  |some v'=>
   rw[h1]at he;cases he;exact jT hk ht h1
def bR {α:Type}(o:Option α)(k:α→R):R:=match o with |some a=>k a |none=>.fail
def kr:TI→TypeId
 |.mk (.slice e) _ _ _ _=>e
 |_=>0
def GA:TI→TypeId
 |.mk (.map k _) _ _ _ _=>k
 |_=>0
def QM:TI→TypeId
 |.mk (.map _ v) _ _ _ _=>v
 |_=>0
def xl (ts td:TI):TypeId:=
 match td with
 |.mk (.slice e) _ _ _ _=>e
 |_=>kr ts
section
variable (c : Cx)
def ku (x:Operand)(tm:Tr AV)(h:Tr ABlk) (nx:Nat):R:=bR (aM c.G tm x) fun v=>.val v h nx
def dw (x a b:Operand)(tm:Tr AV)(h:Tr ABlk) (nx:Nat):R:=bR (aM c.G tm x) fun v=>match v with
  |.bool true=>ku c a tm h nx
  |.bool false=>ku c b tm h nx
  |_=>.fail
def J9 (e:TypeId)(_:Tr AV)(h:Tr ABlk) (nx:Nat):R:=bR (c.tt.get e) fun ti=>P1 ti e h nx
def Bb (e:TypeId)(x:Operand)(tm:Tr AV)(h:Tr ABlk) (nx:Nat):R:=bR (aM c.G tm x) fun v=>Ru e v h nx
def JA (t:TypeId)(ps:Array (Nat×Operand))(tm:Tr AV)(h:Tr ABlk) (nx:Nat):R:=bR (c.tt.get t) fun ti=>bR (mi c.G tm ps.toList) fun l=>tF ti l h nx
def Ko (t:TypeId) (n:Nat)(ps:Array (Nat×Operand))(tm:Tr AV)(h:Tr ABlk) (nx:Nat):R:=bR (c.tt.get t) fun ti=>bR (mi c.G tm ps.toList) fun l=>Dg ti (c.tt.get (kr ti)) (kr ti) n l h nx
def By (t:TypeId)(x:Operand)(tm:Tr AV)(h:Tr ABlk) (nx:Nat):R:=bR (c.tt.get t) fun ti=>bR (aM c.G tm x) fun a=>jm ti a h nx
def Kj (t:TypeId)(x y:Operand)(tm:Tr AV)(h:Tr ABlk) (nx:Nat):R:=bR (c.tt.get t) fun ti=>bR (aM c.G tm x) fun a=>bR (aM c.G tm y) fun v=>JO ti a v h nx
def A4 (x:Operand)(tm:Tr AV)(h:Tr ABlk) (nx:Nat):R:=bR (aM c.G tm x) fun v=>match v with
  |.ptr i o=>.val (.ptr i o) h nx
  |.func f a b=>.val (.func f a b) h nx
  |.ip cs=>.val (.ip cs) h nx
  |_=>.fail
def Bn (op:BinOp)(t:TypeId)(x y:Operand)(tm:Tr AV)(h:Tr ABlk) (nx:Nat):R:=bR (c.tt.get t) fun ti=>bR (aM c.G tm x) fun a=>bR (aM c.G tm y) fun b=>xf ti (c.eq.get t) (nP x || nP y) op a b h nx
def AH (op:UnOp)(x:Operand)(tm:Tr AV)(h:Tr ABlk) (nx:Nat):R:=bR (aM c.G tm x) fun a=>uY op a h nx
def Ay:TI→Bool
 |.mk .unsafePointer _ _ _ _=>true
 |_=>false
def Dh (ts:TI)(v:AV)(h:Tr ABlk) (nx:Nat):R:=
 match ts with
 |.mk (.pointer _) _ _ _ ((_,s,_)::_)=>match Nat.beq s 0 with
  |true=>.fail
  |false=>match v with
   |.ptr0=>.val .ptr0 h nx
   |.ptr i o=>match h.get i with
    |some (.cells _ n _ _ _)=>match Nat.ble (Nat.succ o) n with
     |true=>.val (.ptr i o) h nx
     |false=>.fail
    |_=>.fail
   |_=>.fail
 |_=>.fail
def G9 (d:TypeId)(td:TI)(v:AV)(h:Tr ABlk) (nx:Nat):R:=
 match td with
 |.mk (.pointer u) _ _ _ (_::_)=>match v with
  |.ptr0=>.val .ptr0 h nx
  |.ptr i o=>match h.get i with
   |some (.cells e n _ false _)=>match c.tt.get e with
    |some (.mk _ se _ _ _)=>match c.lies e (Nat.div n se) o u with
     |true=>.val (.ptr i o) h nx
     |false=>.fail
    |none=>.fail
   |_=>.fail
  |_=>.fail
 |_=>.fail
def GP (s d:TypeId)(x:Operand)(tm:Tr AV)(h:Tr ABlk) (nx:Nat):R:=bR (c.tt.get s) fun ts=>bR (c.tt.get d) fun td=>bR (aM c.G tm x) fun a=>match c.G.sym with
 |false=>Dy ts td (c.tt.get (xl ts td)) (xl ts td) a h nx
 |true=>ep ts td (c.tt.get (xl ts td)) (xl ts td) a h nx
def ra (s d:TypeId)(x:Operand)(tm:Tr AV)(h:Tr ABlk) (nx:Nat):R:=bR (c.tt.get s) fun ts=>bR (c.tt.get d) fun td=>match Ay td,Ay ts with
 |false,false=>GP c s d x tm h nx
 |true,false=>bR (aM c.G tm x) fun a=>Dh ts a h nx
 |false,true=>bR (aM c.G tm x) fun a=>G9 c d td a h nx
 |true,true=>.fail
def Kd (t:TypeId)(x:Operand)(tm:Tr AV)(h:Tr ABlk) (nx:Nat):R:=bR (c.tt.get t) fun ti=>bR (aM c.G tm x) fun a=>wW ti t a h nx
def wS (fn:Fn)(first cap:Array Operand)(tm:Tr AV)(h:Tr ABlk) (nx:Nat):R:=match fn with
  |.func f=>bR (cZ c.G tm first.toList) fun a=>bR (cZ c.G tm cap.toList) fun b=>.val (.func f a b) h nx
  |_=>.fail
def Kt (r:Option Operand)(_:Tr AV)(h:Tr ABlk) (nx:Nat):R:=match r with
  |none=>KF h nx
  |some _=>.fail
def Dt (t:TypeId)(l cp:Operand)(tm:Tr AV)(h:Tr ABlk) (nx:Nat):R:=bR (c.tt.get t) fun ti=>bR (aM c.G tm l) fun a=>bR (aM c.G tm cp) fun b=>Hc ti (c.tt.get (kr ti)) (kr ti) a b h nx
def BG (t:TypeId)(x:Operand)(lo hi mx:Option Operand)(tm:Tr AV)(h:Tr ABlk) (nx:Nat):R:=bR (c.tt.get t) fun ti=>bR (aM c.G tm x) fun a=>bR (uH c.G tm lo) fun lo=>bR (uH c.G tm hi) fun hi=>bR (uH c.G tm mx) fun mx=>w9 ti a lo hi mx h nx
def Bd (t:TypeId)(x:Operand) (k:Nat)(tm:Tr AV)(h:Tr ABlk) (nx:Nat):R:=bR (c.tt.get t) fun ti=>bR (aM c.G tm x) fun a=>wM ti a k h nx
def Bk (t:TypeId)(x:Operand) (k:Nat)(tm:Tr AV)(h:Tr ABlk) (nx:Nat):R:=bR (c.tt.get t) fun ti=>bR (aM c.G tm x) fun a=>wR ti a k h nx
def BC (t:TypeId)(x i:Operand)(tm:Tr AV)(h:Tr ABlk) (nx:Nat):R:=bR (c.tt.get t) fun ti=>bR (aM c.G tm x) fun a=>bR (aM c.G tm i) fun b=>jE ti a b h nx
def BA (t:TypeId)(x i:Operand)(tm:Tr AV)(h:Tr ABlk) (nx:Nat):R:=bR (c.tt.get t) fun ti=>bR (aM c.G tm x) fun a=>bR (aM c.G tm i) fun b=>tE ti a b h nx
def Bw (t:TypeId)(m k:Operand)(ok:Bool)(tm:Tr AV)(h:Tr ABlk) (nx:Nat):R:=bR (c.tt.get t) fun ti=>bR (aM c.G tm m) fun a=>bR (aM c.G tm k) fun b=>wJ ti (c.tt.get (GA ti)) (c.tt.get (QM ti)) (GA ti) (QM ti) ok a b h nx
def tr (t:TypeId)(m k v:Operand)(tm:Tr AV)(h:Tr ABlk) (nx:Nat):R:=bR (c.tt.get t) fun ti=>bR (aM c.G tm m) fun a=>bR (aM c.G tm k) fun b=>bR (aM c.G tm v) fun d=>JY ti (c.tt.get (GA ti)) (GA ti) a b d h nx
def IX (x:Operand)(ta:TypeId)(ok:Bool)(tm:Tr AV)(h:Tr ABlk) (nx:Nat):R:=bR (c.tt.get ta) fun ti=>bR (aM c.G tm x) fun a=>yU ti ta ok a h nx
def Br (x:Operand) (k:Nat)(tm:Tr AV)(h:Tr ABlk) (nx:Nat):R:=bR (aM c.G tm x) fun a=>wZ a k h nx
def zxj (argTypes:Array TypeId)(l:List AV)(h:Tr ABlk) (nx:Nat):R:=bR argTypes.toList.head? fun t=>bR (c.tt.get t) fun ti=>match l with
   |[a]=>lP ti a h nx
   |_=>.fail
def zNm (argTypes:Array TypeId)(l:List AV)(h:Tr ABlk) (nx:Nat):R:=bR argTypes.toList.head? fun t=>bR (c.tt.get t) fun ti=>match l with
   |[a]=>yG ti a h nx
   |_=>.fail
def QZ (argTypes:Array TypeId)(l:List AV)(h:Tr ABlk) (nx:Nat):R:=match argTypes.toList with
   |[t,u]=>bR (c.tt.get t) fun ti=>bR (c.tt.get u) fun tu=>match l with
    |[a,b]=>Ll ti tu (c.tt.get (kr ti)) (kr ti) a b h nx
    |_=>.fail
   |_=>.fail
def zP2 (argTypes:Array TypeId)(l:List AV)(h:Tr ABlk) (nx:Nat):R:=bR argTypes.toList.head? fun t=>bR (c.tt.get t) fun ti=>match l with
   |[a,b]=>Qf ti (c.tt.get (kr ti)) (kr ti) a b h nx
   |_=>.fail
def HL (l:List AV)(h:Tr ABlk) (nx:Nat):R:=match l with
   |[a]=>P2 a h nx
   |_=>.fail
def HO (argTypes:Array TypeId)(l:List AV)(h:Tr ABlk) (nx:Nat):R:=match argTypes.toList with
   |[t,_]=>bR (c.tt.get t) fun ti=>match l with
    |[a,b]=>Hd ti a b h nx
    |_=>.fail
   |_=>.fail
def HK (b:Builtin)(argTypes:Array TypeId):List AV→Tr ABlk→Nat→R:=match b with
  |.len=>zxj c argTypes
  |.cap=>zNm c argTypes
  |.append=>QZ c argTypes
  |.copy=>zP2 c argTypes
  |.max=>pC true
  |.min=>pC false
  |.unsafeSliceData=>HL
  |.unsafeString=>HO c argTypes
  |_=>fun _ _ _=>.fail
def WG (_:Tr AV)(_:Tr ABlk) (_:Nat):R:=.fail
def A8 (b:Builtin)(args:Array Operand)(argTypes:Array TypeId)(tm:Tr AV)(h:Tr ABlk) (nx:Nat):R:=bR (cZ c.G tm args.toList) fun l=>HK c b argTypes l h nx
def Kz (cl:Call):Tr AV→Tr ABlk→Nat→R:=match cl.callee with
  |.builtin b=>A8 c b cl.args cl.argTypes
  |_=>WG
def jF (op:Op):Tr AV→Tr ABlk→Nat→R:=
 match op with
 |.move x=>ku c x
 |.assign x=>ku c x
 |.pick x a b=>dw c x a b
 |.alloc e=>J9 c e
 |.box e x=>Bb c e x
 |.build t ps=>JA c t ps
 |.buildSlice t n ps=>Ko c t n ps
 |.load t x=>By c t x
 |.store t x y=>Kj c t x y
 |.nilCheck x=>A4 c x
 |.binOp op t x y _=>Bn c op t x y
 |.unOp op _ x=>AH c op x
 |.convert s d x=>ra c s d x
 |.makeInterface t x=>Kd c t x
 |.makeFunc fn first cap=>wS c fn first cap
 |.makeMap _ r=>Kt r
 |.makeSlice t l cp=>Dt c t l cp
 |.slice t x lo hi mx=>BG c t x lo hi mx
 |.fieldAddr t x k=>Bd c t x k
 |.field t x k=>Bk c t x k
 |.indexAddr t x i=>BC c t x i
 |.index t x i=>BA c t x i
 |.lookup t m k ok=>Bw c t m k ok
 |.mapUpdate t m k v=>tr c t m k v
 |.insert t m k v=>tr c t m k v
 |.typeAssert x _ ta ok=>IX c x ta ok
 |.extract x k=>Br c x k
 |.call cl=>Kz c cl
 |_=>WG
end
end
end Go.Ev
