/- Texts O9 O10 U E. -/
import Derived.Lib.UnsafeStr
import Derived.LoopN
import Derived.Test.YtkdnmldmffkkoaaGreatDoorP04
set_option linter.unusedSimpArgs false
set_option linter.unusedVariables false
set_option maxRecDepth 100000
namespace Go.Ev
variable {P : Program} {G : Gl} {σ τ υ : Sg} {h g f : Tr ABlk} {nx ny nz : Nat} {w x y : World}
theorem zb4.get {σ:Sg}:∀{l:List (AV×AV×Nat)}{E:List MapEntry}{k:Nat}{a b:AV}{n:Nat},zb4 σ l E→l[k]?=some (a,b,n)→∃A B,E[k]?=some ⟨A,B,n⟩∧Rel σ a A∧Rel σ b B
 |[],E,k,a,b,n,_,h=>by simp at h
 |(a0,b0,n0)::l,E,k,a,b,n,h,hk=>by
  simp only[zb4]at h
  obtain⟨A,B,E',e,h1,h2,h3⟩:=h
  subst e
  cases k with
  |zero=>simp at hk;obtain⟨e1,e2,e3⟩:=hk;subst e1;subst e2;subst e3;exact⟨A,B,rfl,h1,h2⟩
  |succ k=>simpa using h3.get (by simpa using hk)
theorem zb4.of_get {σ:Sg}:∀{l:List (AV×AV×Nat)}{E:List MapEntry},E.length=l.length→(∀(k:Nat) a b n,l[k]?=some (a,b,n)→∃A B,E[k]?=some ⟨A,B,n⟩∧Rel σ a A∧Rel σ b B)→zb4 σ l E
 |[],E,e,_=>by simp only[zb4];exact List.eq_nil_of_length_eq_zero (by simpa using e)
 |(a0,b0,n0)::l,E,e,h=>by
  cases E with
  |nil=>simp at e
  |cons V E'=>
   obtain⟨A,B,h1,h2,h3⟩:=h 0 a0 b0 n0 rfl
   simp at h1
   subst h1
   simp only[zb4]
   exact⟨A,B,E',rfl,h2,h3,zb4.of_get (by simpa using e) fun k a b n hk=>by simpa using h (k+1) a b n (by simpa using hk)⟩
noncomputable section
def zvn {α β:Type}(l:List α)(x:α):(List α→β)→β:=List.rec (motive:=fun _=>(List α→β)→β) (fun k=>k [x]) (fun e _ ih k=>ih fun l'=>k (e::l')) l
theorem zw7 {α:Type}:∀(l:List α)(x:α)(β:Type)(k:List α→β),zvn l x k=k (l++[x])
 |[],x,β,k=>rfl
 |e::l,x,β,k=>by
  show zvn l x (fun l'=>k (e::l'))=_
  rw[zw7]
  rfl
def zw6 {α β:Type}(l:List α)(g:α→α):Nat→(List α→β)→β:=List.rec (motive:=fun _=>Nat→(List α→β)→β) (fun _ k=>k [])
 (fun e l ih i k=>match i with |0=>k (g e::l) |Nat.succ i=>ih i fun l'=>k (e::l')) l
theorem zv7 {α:Type}(g:α→α):∀(l:List α) (i:Nat)(β:Type)(k:List α→β),zw6 l g i k=k (l.modify i g)
 |[],i,β,k=>by cases i <;> rfl
 |e::l,0,β,k=>by show k (g e::l)=_;rfl
 |e::l,i+1,β,k=>by
  show zw6 l g i (fun l'=>k (e::l'))=_
  rw[zv7]
  rfl
def zpr (ti:TI)(tk:Option TI)(kt:TypeId)(m k v:AV)(h:Tr ABlk) (nx:Nat):R:=
 match ti,tk with
 |.mk (.map kt' _) _ _ _ _,some (.mk dk _ _ _ _)=>match Nat.beq kt kt' && scal dk with
  |false=>.fail
  |true=>match m with
   |.map i=>match h.get i with
    |some (.map es cl)=>match ze8 dk k es 0 with
     |some (some (j,_))=>zw6 es (fun e=>match e with |(_,_,n)=>(k,v,n)) j fun es'=>h.putK (some (.map es' cl)) i fun h'=>.unit h' nx
     |some none=>zvn es (k,v,cl) fun es'=>fN (Nat.succ cl) fun cl'=>h.putK (some (.map es' cl')) i fun h'=>.unit h' nx
     |none=>.fail
    |_=>.fail
   |_=>.fail
 |_,_=>.fail
theorem zUu {d:TypeDesc}{k k':AV}{K K':Value}(hk:Rel σ k K)(hk':Rel σ k' K')(he:zdz d k k'=some true) (n:Nat):Instr.sameBits n K' K=true:=by
 unfold zdz at he
 cases d <;> try (cases he;done)
 ·cases k <;> cases k' <;> try (cases he;done)
  rename_i a c
  simp only[Rel]at hk hk'
  subst hk
  subst hk'
  cases a <;> cases c <;> first |(cases he;done) |(cases n <;> rfl)
 ·cases k <;> cases k' <;> try (cases he;done)
  rename_i j a j' c
  simp only at he
  cases hj:zha j j' with
  |false=>rw[hj]at he;cases he
  |true=>
   rw[hj]at he
   have:=zrj hj
   subst this
   have hac:ieq a c=true:=by simpa using he
   rw[zgi]at hac
   have:=eq_of_beq hac
   subst this
   simp only[Rel]at hk hk'
   subst hk
   subst hk'
   cases n <;> simp[Instr.sameBits]
 ·cases k <;> cases k' <;> try (cases he;done)
  case bs.bs a c=>
   simp only[Rel]at hk hk'
   subst hk
   subst hk'
   have hac:a=c:=by simpa using he
   subst hac
   have:(a == a)=true:=by rw[zsj];simp
   cases n <;> simp[Instr.sameBits,this]
  rename_i l1 n1 l2 n2
  simp only[Rel]at hk hk'
  obtain⟨h1,e1⟩:=hk
  obtain⟨h2,e2⟩:=hk'
  subst e1
  subst e2
  have hs:zj0 l1 n1 l2 n2=true:=by simpa using he
  rw[← zx7 h1 h2]at hs
  have hs2:(zai l2 n2 == zai l1 n1)=true:=by
   have hd:((zai l1 n1).data == (zai l2 n2).data)=true:=hs
   have:=eq_of_beq hd
   show ((zai l2 n2).data == (zai l1 n1).data)=true
   rw[this]
   exact beq_self_eq_true _
  cases n <;> simp[Instr.sameBits,hs2]
theorem zF7 (hk:Ok G σ h nx w)(t:TypeId){ti:TI}(ht:zav P t ti){tk:Option TI}{kt:TypeId}(htk:∀ti,tk=some ti→zav P kt ti){m k v:AV}{M K V:Value}(hm:Rel σ m M)(hkk:Rel σ k K)(hv:Rel σ v V):
  RU P G σ h nx w (Instr.mapUpdate t M K V) (zpr ti tk kt m k v h nx):=by
 unfold zpr
 split
 ·rename_i kt' et' q1 q2 q3 q4 dk q5 q6 q7 q8
  obtain⟨hu,_⟩:=ht
  obtain⟨huk,_⟩:=htk _ rfl
  cases hall:(Nat.beq kt kt' && scal dk) with
  |false=>trivial
  |true=>
   rw[Bool.and_eq_true]at hall
   have:=Nat.eq_of_beq_eq_true hall.1
   subst this
   cases m <;> try trivial
   rename_i i
   simp only[Rel]at hm
   obtain⟨b,hb,e⟩:=hm
   subst e
   simp only
   cases hg:h.get i with
   |none=>trivial
   |some B=>
    cases B with
    |cells _ _ _ _ _=>trivial
    |loop _ _ _ _ _ _ _ _ _=>trivial
    |dfr=>trivial
    |miter _ _ _ _=>trivial
    |siter _ _=>trivial
    |map es cl=>
     simp only
     obtain⟨b',E,hb',hheap,hE⟩:=hk.map hg
     rw[hb]at hb'
     cases hb'
     cases hf:ze8 dk k es 0 with
     |none=>trivial
     |some r=>
      obtain⟨R,a1,a2,a3⟩:=zqq hkk hE hf
      have hck:=zwi (P:=P) huk hall.2 false 9999 K w
      have hfk:(Instr.findKey kt K E).run P w=.ok R w:=by simp[Instr.findKey,run_underlying huk,a1]
      have hgo:(getObj b).run P w=.ok (.map (List.toArray E) cl) w:=by simp[getObj,Sem.run,hheap]
      have hso:∀o:Obj,(setObj b o).run P w=.ok () (zc7 w b o):=fun o=>by simp[setObj,Sem.run,hheap,zc7]
      cases r with
      |none=>
       simp only[zfw]at a2
       subst a2
       simp only[zw7,fN_eq,Tr.putK_eq]
       refine⟨σ,_,?_,Post.set hk hg hb (.map (es++[(k,v,cl)]) (cl+1)) (.map (List.toArray (E++[⟨K,V,cl⟩])) (cl+1)) ?_⟩
       ·unfold Instr.mapUpdate
        simp only[Sem.run_bind,run_underlying hu,Result.andThen,hgo,hck,hfk]
        rw[hso]
        simp[zc7]
       ·simp only[zao]
        refine⟨_,rfl,zb4.of_get (by simp[hE.length]) fun k0 a b n e=>?_⟩
        by_cases h1:k0<es.length
        ·rw[List.getElem?_append_left h1]at e
         obtain⟨A,B,e1,e2,e3⟩:=hE.get e
         exact⟨A,B,by rw[List.getElem?_append_left (by rw[hE.length];exact h1)];exact e1,e2,e3⟩
        ·rw[List.getElem?_append_right (by omega)]at e
         cases h2:k0-es.length with
         |succ q=>rw[h2]at e;simp at e
         |zero=>
          rw[h2]at e
          simp at e
          obtain⟨e1,e2,e3⟩:=e
          subst e1
          subst e2
          subst e3
          refine⟨K,V,?_,hkk,hv⟩
          rw[List.getElem?_append_right (by rw[hE.length];omega),hE.length,h2]
          rfl
      |some p=>
       obtain⟨j,v0⟩:=p
       simp only[zfw]at a2
       obtain⟨V0,e,_⟩:=a2
       subst e
       obtain⟨_,hj,k',hk',hse⟩:=a3 j v0 rfl
       simp only[Nat.sub_zero]at hk'
       obtain⟨⟨ka,va,na⟩,hej⟩:∃p,es[j]?=some p:=⟨es[j]'(by omega),by simp[show j<es.length by omega]⟩
       rw[hej]at hk'
       simp at hk'
       subst hk'
       obtain⟨KA,VA,e1,e2,e3⟩:=hE.get hej
       simp only[zv7,Tr.putK_eq]
       have hks:(Instr.keyThatStays KA K).run P w=.ok K w:=by simp[Instr.keyThatStays,zUu hkk e2 hse]
       refine⟨σ,_,?_,Post.set hk hg hb (.map (es.modify j (fun e=>match e with |(_,_,n)=>(k,v,n))) cl) (.map (List.toArray (E.modify j fun e=>{ e with key:=K,val:=V })) cl) ?_⟩
       ·unfold Instr.mapUpdate
        have hkey:(((List.toArray E)[j]?).map (·.key)).getD K=KA:=by simp[e1]
        simp only[Sem.run_bind,run_underlying hu,Result.andThen,hgo,hck,hfk,hkey,hks]
        rw[hso]
        simp[zc7]
       ·simp only[zao]
        refine⟨_,rfl,zb4.of_get (by simp[hE.length]) fun k0 a b n e=>?_⟩
        rw[List.getElem?_modify]at e ⊢
        by_cases h1:j=k0
        ·subst h1
         rw[hej]at e
         simp at e
         obtain⟨q1,q2,q3⟩:=e
         subst q1
         subst q2
         subst q3
         exact⟨K,V,by rw[e1];simp,hkk,hv⟩
        ·simp only[h1,if_false]at e ⊢
         simp at e
         obtain⟨A,B,c1,c2,c3⟩:=hE.get e
         exact⟨A,B,by simpa using c1,c2,c3⟩
 ·trivial
def zfb (mx:Bool)(l:List AV)(h:Tr ABlk) (nx:Nat):R:=
 match l with
 |[.int k a,.int k' b]=>match mx with
  |true=>match ilt a b with
   |true=>.val (.int k b) h nx
   |false=>.val (.int k a) h nx
  |false=>match ilt b a with
   |true=>.val (.int k b) h nx
   |false=>.val (.int k a) h nx
 |_=>.fail
end
end Go.Ev
namespace Go.Ev
variable {P : Program} {G : Gl} {σ τ υ : Sg} {h g f : Tr ABlk} {nx ny nz : Nat} {w x y : World}
noncomputable section
theorem zxw (hk:Ok G σ h nx w)(mx:Bool)(ts:Array TypeId)(ty:TypeId){l:List AV}{L:List Value}(hl:za1 σ l L):
  RV P G σ h nx w (match mx with |true=>Builtin.max_ ts ty L.toArray |false=>Builtin.min_ ts ty L.toArray) (zfb mx l h nx):=by
 have key:∀(k k':IntKind) (a b:Int),za1 σ [.int k a,.int k' b] L→L=[.int k a,.int k' b]:=by
  intro k k' a b hl
  simp only[za1,Rel]at hl
  obtain⟨V,L',e,e1,V2,L2,e2,e3,e4⟩:=hl
  subst e4
  subst e3
  subst e2
  subst e1
  exact e
 cases mx with
 |true=>
  show RV P G σ h nx w (Builtin.max_ ts ty L.toArray) _
  unfold zfb
  simp only
  split
  ·rename_i k a k' b
   rw[key _ _ _ _ hl]
   have e:=zg9 a b
   cases hb:ilt a b with
   |true=>
    rw[hb]at e
    have:a<b:=of_decide_eq_true e.symm
    exact SV.pure hk (V:=.int k b) (by simp[Builtin.max_,Builtin.max2,this]) (by simp only[Rel])
   |false=>
    rw[hb]at e
    have:¬a<b:=of_decide_eq_false e.symm
    exact SV.pure hk (V:=.int k a) (by simp[Builtin.max_,Builtin.max2,this]) (by simp only[Rel])
  ·trivial
 |false=>
  show RV P G σ h nx w (Builtin.min_ ts ty L.toArray) _
  unfold zfb
  simp only
  split
  ·rename_i k a k' b
   rw[key _ _ _ _ hl]
   have e:=zg9 b a
   cases hb:ilt b a with
   |true=>
    rw[hb]at e
    have:b<a:=of_decide_eq_true e.symm
    exact SV.pure hk (V:=.int k b) (by simp[Builtin.min_,Builtin.min2,this]) (by simp only[Rel])
   |false=>
    rw[hb]at e
    have:¬b<a:=of_decide_eq_false e.symm
    exact SV.pure hk (V:=.int k a) (by simp[Builtin.min_,Builtin.min2,this]) (by simp only[Rel])
  ·trivial
def zr8 (size n:Nat)(v:AV)(h:Tr ABlk):Option (List AV):=
 match v with
 |.sl0=>match Nat.beq n 0 with |true=>some [] |false=>none
 |.sl i o m _ _=>match Nat.ble n m with
  |false=>none
  |true=>match h.get i with
   |some (.cells _ k c _ _)=>match Nat.ble (Nat.add o (Nat.mul n size)) k with
    |true=>zci c (Nat.mul n size) o
    |false=>none
   |_=>none
 |.str l s=>match Nat.beq size 1 && Nat.ble n l with
  |true=>some (zhz n (Nat.mod s (Nat.pow 256 n)))
  |false=>none
 |_=>none
theorem zPm (hk:Ok G σ h nx w){size n:Nat}{v:AV}{V:Value}(hv:Rel σ v V){l:List AV}(hs:zr8 size n v h=some l):
  ∃L,za1 σ l L∧l.length=n * size∧(Builtin.firstCells size n V).run P w=.ok L.toArray w:=by
 unfold zr8 at hs
 cases v <;> try (cases hs;done)
 ·rename_i sl sn
  simp only[Rel]at hv
  obtain⟨hn,e⟩:=hv
  subst e
  simp only at hs
  split at hs
  ·rename_i hb
   rw[Bool.and_eq_true]at hb
   have:=Nat.eq_of_beq_eq_true hb.1
   subst this
   have hle:=Nat.le_of_ble_eq_true hb.2
   cases hs
   refine⟨(zar n (sn % 256 ^ n)).map fun b=>.int .u8 b.toNat,zph _ _,by rw[zp9];omega,?_⟩
   simp only[Builtin.firstCells,Sem.run_pure]
   rw[zxa hle]
   congr 1
   simp only[Nat.sub_zero,Nat.pow_zero,Nat.div_one]
   show Array.map _ (zar n (sn % 256 ^ n)).toArray=_
   simp
  ·cases hs
 ·simp only[Rel]at hv
  subst hv
  simp only at hs
  split at hs
  ·rename_i hb
   have:=Nat.eq_of_beq_eq_true hb
   subst this
   cases hs
   exact⟨[],by simp only[za1],by simp,by simp[Builtin.firstCells]⟩
  ·cases hs
 ·rename_i i o m c opn
  simp only[Rel]at hv
  obtain⟨b,hb,e,_⟩:=hv
  subst e
  simp only at hs
  split at hs
  ·cases hs
  ·split at hs
   ·rename_i e' k c' opn' esz hg
    split at hs
    ·rename_i hle
     obtain⟨b',C,fr,hb',hheap,hcell,_,_⟩:=hk.cells hg
     rw[hb]at hb'
     cases hb'
     obtain⟨hlen,L,hrl,hload,_⟩:=zkz (P:=P) hheap hcell (Nat.le_of_ble_eq_true hle) hs
     exact⟨L,hrl,hlen,by simpa[Builtin.firstCells]using hload⟩
    ·cases hs
   ·cases hs
def zpl:AV→Option Nat
 |.sl0=>some 0
 |.sl _ _ m _ _=>some m
 |.str l _=>some l
 |_=>none
theorem zGd {v:AV}{V:Value}(hv:Rel σ v V){n:Nat}(hn:zpl v=some n)(w:World):(Builtin.lenOf V).run P w=.ok n w:=by
 unfold zpl at hn
 cases v <;> try (cases hn;done)
 ·cases hn
  simp only[Rel]at hv
  obtain⟨_,e⟩:=hv
  subst e
  simp[Builtin.lenOf,zgw]
 ·cases hn
  simp only[Rel]at hv
  subst hv
  simp[Builtin.lenOf]
 ·cases hn
  simp only[Rel]at hv
  obtain⟨b,_,e,_⟩:=hv
  subst e
  simp[Builtin.lenOf]
def ztb (ti:TI)(te:Option TI)(et:TypeId)(dst src:AV)(h:Tr ABlk) (nx:Nat):R:=
 match ti,te with
 |.mk (.slice e) _ _ _ _,some (.mk _ size _ _ _)=>match Nat.beq e et with
  |false=>.fail
  |true=>match zpl src with
   |none=>.fail
   |some m=>match dst with
    |.sl0=>vInt 0 h nx
    |.sl i o len _ _=>match zr8 size (Nat.min m len) src h with
     |none=>.fail
     |some l=>match zba l with
      |false=>.fail
      |true=>match h.get i with
       |some (.cells e' n c opn esz)=>match Nat.ble (Nat.add o (Nat.mul (Nat.min m len) size)) n with
        |true=>zft l c o fun c'=>h.putK (some (.cells e' n c' opn esz)) i fun h'=>vInt (Nat.min m len) h' nx
        |false=>.fail
       |_=>.fail
    |_=>.fail
 |_,_=>.fail
theorem zGz (hk:Ok G σ h nx w)(t:TypeId){ti:TI}(ht:zav P t ti){te:Option TI}{et:TypeId}(hte:∀ti,te=some ti→zav P et ti)(ts:Array TypeId)(hts:ts[0]?=some t)(ty:TypeId){dst src:AV}{D S:Value}(hd:Rel σ dst D)(hs:Rel σ src S):
  RV P G σ h nx w (Builtin.copy_ ts ty #[D,S]) (ztb ti te et dst src h nx):=by
 unfold ztb
 split
 ·rename_i e q1 q2 q3 q4 de size q5 q6 q7
  obtain⟨hu,hu2⟩:=ht
  clear hu2
  obtain⟨hue,inf,hi,hsz,hze⟩:=hte _ rfl
  clear hze
  cases hbe:Nat.beq e et with
  |false=>trivial
  |true=>
  have:=Nat.eq_of_beq_eq_true hbe
  subst this
  simp only
  cases hm:zpl src with
  |none=>trivial
  |some m=>
  have hlen:=zGd (P:=P) hs hm w
  simp only
  cases dst <;> try trivial
  ·simp only[Rel]at hd
   subst hd
   refine zia hk ?_
   have hf:∃L:Array Value,(Builtin.firstCells size 0 S).run P w=.ok L w:=by
    cases src <;> try (cases hm;done)
    ·simp only[Rel]at hs
     obtain⟨_,e1⟩:=hs
     subst e1
     exact⟨#[],by simp[Builtin.firstCells]⟩
    ·simp only[Rel]at hs
     subst hs
     exact⟨#[],by simp[Builtin.firstCells]⟩
    ·simp only[Rel]at hs
     obtain⟨b,_,e1,_⟩:=hs
     subst e1
     exact⟨#[],by simp[Builtin.firstCells,loadCells,loadCellsFrom]⟩
   obtain⟨L,hf⟩:=hf
   simp[Builtin.copy_,hts,run_underlying hu,hlen,zem hi,hsz,hf]
  ·rename_i i o len c opn
   simp only[Rel]at hd
   obtain⟨b,hb,e1,_⟩:=hd
   subst e1
   simp only
   cases hsn:zr8 size (Nat.min m len) src h with
   |none=>trivial
   |some l=>
   simp only
   cases hone:zba l with
   |false=>trivial
   |true=>
   simp only
   cases hg:h.get i with
   |none=>trivial
   |some B=>
   cases B with
   |map _ _=>trivial
   |loop _ _ _ _ _ _ _ _ _=>trivial
   |dfr=>trivial
   |miter _ _ _ _=>trivial
   |siter _ _=>trivial
   |cells e' n c' opn' esz=>
   simp only
   cases hle:Nat.ble (Nat.add o (Nat.mul (Nat.min m len) size)) n with
   |false=>trivial
   |true=>
   have hle':o+(Nat.min m len) * size≤n:=Nat.le_of_ble_eq_true hle
   obtain⟨L,hrl,hll,hfc⟩:=zPm (P:=P) hk hs hsn
   obtain⟨b',C,fr,hb',hheap,hcell,hfr,hCsz⟩:=hk.cells hg
   rw[hb]at hb'
   cases hb'
   have hnC:n≤C.size:=by split at hCsz <;> omega
   have hL:L.length=(Nat.min m len) * size:=by rw[hrl.length];exact hll
   simp only[zdr,Tr.putK_eq,vInt,fN_eq]
   have hst:=zqh (P:=P) (b:=b) (o:=o) L 0 C w hheap (by omega) hfr (zrk hone hrl)
   simp only[Nat.add_zero]at hst
   refine⟨goInt (Nat.min m len),σ,_,?_,by simp only[Rel];rfl,zs6 hk hg hrl (by omega) hb hheap⟩
   simp[Builtin.copy_,hts,run_underlying hu,hlen,zem hi,hsz,hfc,hst]
 ·trivial
end
end Go.Ev
namespace Go.Ev
variable {P : Program} {G : Gl} {σ τ υ : Sg} {h g f : Tr ABlk} {nx ny nz : Nat} {w x y : World}
theorem Post.freeze (hk:Ok G σ h nx w){i b:Nat}{B:ABlk}(hi:h.get i=some B)(hb:σ.blk i=some b) (n:Nat):Post G σ h nx w σ (h.put i none) nx (w.freeze ⟨b,0,none⟩ n):=by
 have hs:∀j B',(h.put i none).get j=some B'→j≠i∧h.get j=some B':=by
  intro j B' hj
  rw[Tr.get_put]at hj
  split at hj
  ·cases hj
  ·exact⟨by assumption,hj⟩
 have hheap:∀k,k≠b→(w.freeze ⟨b,0,none⟩ n).heap[k]?=w.heap[k]?:=by
  intro k hk'
  unfold World.freeze
  split
  ·rfl
  ·simp only[Array.getElem?_modify]
   rw[if_neg (fun e=>hk' e.symm)]
 have hsz:(w.freeze ⟨b,0,none⟩ n).heap.size=w.heap.size:=by unfold World.freeze;split <;> simp
 have hos:(w.freeze ⟨b,0,none⟩ n).os=w.os∧(w.freeze ⟨b,0,none⟩ n).tape=w.tape∧(w.freeze ⟨b,0,none⟩ n).output=w.output:=by unfold World.freeze;split <;> exact⟨rfl,rfl,rfl⟩
 refine⟨⟨hk.glob,hk.le,hk.fresh,fun a c d B1 B2 h1 h2=>hk.inj a c d B1 B2 (hs _ _ h1).2 (hs _ _ h2).2,fun a B1 h1=>?_,fun d C hd=>⟨?_,fun a B1 h1=>(hk.imm d C hd).2 a B1 (hs _ _ h1).2⟩,hk.gl⟩,.refl σ,⟨hos.1,hos.2.1,hos.2.2,by rw[hsz];exact Nat.le_refl _,fun d hd hn=>hheap d fun e=>hn i B hi (e ▸ hb),fun a B1 d h1 h2=>.inr ⟨a,B1,(hs _ _ h1).2,h2⟩,fun _ _ h=>.inl h⟩,Nat.le_refl _⟩
 ·obtain⟨n1,n2⟩:=hs a B1 h1
  obtain⟨b',o,hb',ho,hr⟩:=hk.blk a B1 n2
  refine⟨b',o,hb',?_,hr⟩
  rw[hheap b' fun e=>n1 (hk.inj a i b B1 B n2 hi (e ▸ hb') hb)]
  exact ho
 ·obtain⟨⟨t,fr,h1⟩,h2⟩:=hk.imm d C hd
  refine⟨t,fr,?_⟩
  rw[hheap d fun e=>h2 i B hi (e ▸ hb)]
  exact h1
theorem zE9:∀{l:List AV}{L:List Value}{n:Nat},za1 σ l L→zfe l=some n→∀(j:Nat) U,L[j]?=some U→∃b,b≤255∧U=.int .u8 (Int.ofNat b)
 |[],L,n,hr,_,j,U,hU=>by simp only[za1]at hr;subst hr;simp at hU
 |v::l,L,n,hr,hn,j,U,hU=>by
  simp only[za1]at hr
  obtain⟨V,L',e,h1,h2⟩:=hr
  subst e
  rw[ztu]at hn
  cases hbv:zh9 v with
  |none=>rw[hbv]at hn;cases hn
  |some b=>
   rw[hbv]at hn
   cases hn':zfe l with
   |none=>rw[hn']at hn;cases hn
   |some n'=>
    cases j with
    |zero=>simp at hU;subst hU;exact⟨b,zwe h1 hbv⟩
    |succ j=>exact zE9 h2 hn' j U (by simpa using hU)
noncomputable section
def zsw (v:AV)(h:Tr ABlk) (nx:Nat):R:=
 match v with
 |.sl0=>.val .ptr0 h nx
 |.sl i o l c opn=>match (match opn with |true=>Nat.ble 1 l |false=>Nat.ble 1 c) with
  |true=>.val (.ptr i o) h nx
  |false=>.fail
 |_=>.fail
theorem zJp (hk:Ok G σ h nx w)(ts:Array TypeId)(ty:TypeId){v:AV}{V:Value}(hv:Rel σ v V):RV P G σ h nx w (Builtin.unsafeSliceData_ ts ty #[V]) (zsw v h nx):=by
 unfold zsw
 cases v <;> try trivial
 ·simp only[Rel]at hv
  subst hv
  exact SV.pure hk (V:=.pointer none) rfl (by simp only[Rel])
 ·rename_i i o l c opn
  simp only[Rel]at hv
  obtain⟨b,hb,e,hlc⟩:=hv
  subst e
  simp only
  cases hq:(match opn with |true=>Nat.ble 1 l |false=>Nat.ble 1 c) with
  |false=>trivial
  |true=>
   have hne:¬(if opn=true then σ.cap i-c else c)=0:=by
    cases opn with
    |true=>
     have:=Nat.le_of_ble_eq_true (show Nat.ble 1 l=true from hq)
     simp only[if_true]at hlc ⊢
     omega
    |false=>
     have:=Nat.le_of_ble_eq_true (show Nat.ble 1 c=true from hq)
     simp only[Bool.false_eq_true,if_false]
     omega
   refine SV.pure hk (V:=.pointer (some ⟨b,o,none⟩)) ?_ (by simp only[Rel];exact⟨b,hb,rfl⟩)
   generalize (if opn=true then σ.cap i-c else c)=cc at hne
   have hdef:Builtin.unsafeSliceData_ ts ty #[.slice (some ⟨b,o,none⟩) l cc]=(if cc≠0 then pure (.pointer (some ⟨b,o,none⟩)) else do
     if (← viewAt b).isSome then pure (.pointer (some ⟨b,o,none⟩)) else pure (.pointer (some ⟨← newObj (.view ⟨b,o,none⟩ (← elemOf ty)),0,none⟩))):=rfl
   rw[hdef,if_pos hne]
   rfl
def zo5 (tp:TI)(p n:AV)(h:Tr ABlk) (nx:Nat):R:=
 match tp with
 |.mk (.pointer e) _ _ _ ((_,s,_)::_)=>match Nat.beq s 1 with
  |false=>.fail
  |true=>match n with
   |.int .i64 (.ofNat n)=>match p with
    |.ptr0=>match Nat.beq n 0 with
     |true=>.val (.str 0 0) h nx
     |false=>.fail
    |.ptr i o=>match Nat.beq n 0 with
     |true=>.val (.str 0 0) h nx
     |false=>match h.get i with
      |some (.cells e' m c _ _)=>match Nat.beq e' e && Nat.beq o 0 && Nat.ble n m && Nat.ble n 4611686018427387904 with
       |false=>.fail
       |true=>match zci c n 0 with
        |none=>.fail
        |some l=>match zfe l with
         |none=>.fail
         |some z=>fN z fun z=>h.putK none i fun h'=>.val (.str n z) h' nx
      |_=>.fail
    |_=>.fail
   |_=>.fail
 |_=>.fail
theorem zU5 (hk:Ok G σ h nx w){pt:TypeId}{tp:TI}(ht:zav P pt tp)(it ty:TypeId){p n:AV}{A N:Value}(hp:Rel σ p A)(hn:Rel σ n N):RV P G σ h nx w (Builtin.unsafeString_ #[pt,it] ty #[A,N]) (zo5 tp p n h nx):=by
 unfold zo5
 split
 ·rename_i e q1 q2 q3 o0 s0 b0 fs
  obtain⟨hu,inf,hi,hs,hby,hzz,hf,hfl,hel⟩:=ht
  have htf:=hel e (.inr (.inr rfl)) o0 s0 b0 rfl
  obtain⟨⟨ie,hie,hies⟩,_⟩:=htf
  cases hs1:Nat.beq s0 1 with
  |false=>trivial
  |true=>
  have hs1':=Nat.eq_of_beq_eq_true hs1
  have hco:P.cellsOf e=1:=by simp[Program.cellsOf,hie,hies,hs1']
  simp only
  split
  ·rename_i k
   simp only[Rel]at hn
   subst hn
   have h0:∀q:Option Addr,k=0→RV P G σ h nx w (Builtin.unsafeString_ #[pt,it] ty #[.pointer q,.int .i64 (Int.ofNat k)]) (.val (.str 0 0) h nx):=by
    intro q hk0
    subst hk0
    exact SV.pure hk (V:=.string .empty) (Lib.run_unsafeString_none w pt it ty q) (by simp only[Rel];exact⟨by simp,rfl⟩)
   split
   ·simp only[Rel]at hp
    subst hp
    split
    ·rename_i hb
     exact h0 none (Nat.eq_of_beq_eq_true hb)
    ·trivial
   ·rename_i i o
    simp only[Rel]at hp
    obtain⟨b,hb,e1⟩:=hp
    subst e1
    split
    ·rename_i hb0
     exact h0 _ (Nat.eq_of_beq_eq_true hb0)
    ·rename_i hb0
     have hk0:=zea hb0
     split
     ·rename_i e' m c opn esz hg
      split
      ·trivial
      ·rename_i hall
       simp only[Bool.and_eq_true]at hall
       obtain⟨⟨⟨a1,a2⟩,a3⟩,a4⟩:=hall
       have a1':=Nat.eq_of_beq_eq_true a1
       have a2':=Nat.eq_of_beq_eq_true a2
       have a3':=Nat.le_of_ble_eq_true a3
       have a4':=Nat.le_of_ble_eq_true a4
       subst a1'
       subst a2'
       split
       ·trivial
       ·rename_i l hl
        split
        ·trivial
        ·rename_i z hz
         simp only[fN_eq,Tr.putK_eq]
         obtain⟨b',C,fr,hb',hheap,hcell,_,hCsz⟩:=hk.cells hg
         rw[hb]at hb'
         cases hb'
         have hmC:m≤C.size:=by split at hCsz <;> omega
         obtain⟨hlen,L,hrl,_,hcs⟩:=zkz (P:=P) (o:=0) hheap hcell (by omega) hl
         obtain⟨hzlt,ns,hL,hns⟩:=zq3 hrl hz
         rw[hlen]at hzlt hns
         have hsl:(zar k z).length=k:=ze9 k z
         have hcell2:∀(j:Nat) (u:UInt8),(zar k z)[j]?=some u→w.cell? ((⟨b,0,none⟩:Addr).add j)=some (.int .u8 u.toNat):=by
          intro j u hj
          rw[← hns,List.getElem?_map]at hj
          cases hq:ns[j]? with
          |none=>rw[hq]at hj;cases hj
          |some q=>
           rw[hq]at hj
           have hLj:L[j]?=some (.int .u8 q):=by rw[hL,List.getElem?_map,hq];rfl
           obtain⟨bb,hbb,hU⟩:=zE9 hrl hz j _ hLj
           have hqb:q=Int.ofNat bb:=by cases hU;rfl
           rw[hcs j _ hLj]
           have hu8:u=UInt8.ofNat bb:=by
            rw[hqb]at hj
            simpa using hj.symm
           rw[hu8,u8 (by omega),hqb]
           rfl
         have hrun:=Lib.run_unsafeString_row (P:=P) w pt it ty e' hu hco b C.size (by simp[World.shape?,hheap]) (zar k z) (by intro e;rw[e]at hsl;simp at hsl;omega) (by rw[hsl];omega) (by rw[hsl];omega) hcell2
         rw[hsl]at hrun
         exact⟨.string (zai k z),σ,_,hrun,by simp only[Rel];exact⟨hzlt,trivial⟩,Post.freeze hk hg hb k⟩
     ·trivial
   ·trivial
  ·trivial
 ·trivial
end
end Go.Ev
namespace Go.Ev
inductive Cx where
 |mk (tt:Tr TI) (eq:Tr (List (Nat×TypeDesc))) (ft:Tr Func) (G:Gl) (lies:TypeId→Nat→Nat→TypeId→Bool)
def Cx.tt:Cx→Tr TI |.mk t _ _ _ _=>t
def Cx.eq:Cx→Tr (List (Nat×TypeDesc)) |.mk _ e _ _ _=>e
def Cx.ft:Cx→Tr Func |.mk _ _ f _ _=>f
def Cx.G:Cx→Gl |.mk _ _ _ g _=>g
def Cx.lies:Cx→TypeId→Nat→Nat→TypeId→Bool |.mk _ _ _ _ l=>l
structure CxOk (P:Program)(c:Cx):Prop where
 tt:∀t ti,c.tt.get t=some ti→zav P t ti
 eq:∀t,zop P t (c.eq.get t)
 lies:∀e k o u,c.lies e k o u=true→liesAt P P.depth e k o u 1=true
 ft:∀f fn,c.ft.get f=some fn→P.funcs[f]?=some fn∧∀args w,(callFunc f args).run P w=.ok (.enter f args) w
noncomputable section
def ziw:Value→Option AV
 |.bool b=>some (.bool b)
 |.int k n=>some (.int k n)
 |.string s=>some (.str s.data.toList.length (ofL s.data.toList))
 |.pointer none=>some .ptr0
 |.slice none 0 0=>some .sl0
 |.map none=>some .map0
 |.nilFunc=>some .nilFunc
 |.nilIface=>some .nilIface
 |_=>none
def zld (l:List Value):Option (List AV):=List.rec (motive:=fun _=>Option (List AV)) (some []) (fun v _ ih=>match ziw v with
 |some a=>match ih with
  |some l=>some (a::l)
  |none=>none
 |none=>none) l
def ofV:Value→Option AV
 |.agg cs=>match zld cs.toList with
  |some l=>some (.agg l)
  |none=>none
 |.tuple cs=>match zld cs.toList with
  |some l=>some (.tup l)
  |none=>none
 |.iface t v=>match ziw v with
  |some a=>some (.iface t a)
  |none=>none
 |v=>ziw v
theorem zoz {v:Value}{a:AV}(h:ziw v=some a)(σ:Sg):Rel σ a v:=by
 unfold ziw at h
 split at h <;> first
  |(cases h;simp only[Rel];done)
  |(cases h;done)
  |skip
 rename_i s
 cases h
 simp only[Rel]
 obtain⟨h1,h2⟩:=zC4 s.data.toList
 refine⟨h1,?_⟩
 congr 1
 apply ByteArray.ext
 show _=(zar _ _).toArray
 rw[h2]
theorem zvq (σ:Sg):∀{l:List Value}{as:List AV},zld l=some as→za1 σ as l
 |[],as,h=>by cases h;simp only[za1]
 |v::l,as,h=>by
  change (match ziw v with
   |some a=>match zld l with
    |some l=>some (a::l)
    |none=>none
   |none=>none)=some as at h
  cases h1:ziw v with
  |none=>rw[h1]at h;cases h
  |some a=>
   rw[h1]at h
   cases h2:zld l with
   |none=>rw[h2]at h;cases h
   |some l'=>
    rw[h2]at h
    cases h
    simp only[za1]
    exact⟨v,l,rfl,zoz h1 σ,zvq σ h2⟩
theorem zEt {v:Value}{a:AV}(h:ofV v=some a)(σ:Sg):Rel σ a v:=by
 unfold ofV at h
 split at h
 ·rename_i cs
  cases hl:zld cs.toList with
  |none=>rw[hl]at h;cases h
  |some l=>
   rw[hl]at h
   cases h
   simp only[Rel]
   exact⟨cs.toList,by simp,zvq σ hl⟩
 ·rename_i cs
  cases hl:zld cs.toList with
  |none=>rw[hl]at h;cases h
  |some l=>
   rw[hl]at h
   cases h
   simp only[Rel]
   exact⟨cs.toList,by simp,zvq σ hl⟩
 ·rename_i t v
  cases hl:ziw v with
  |none=>rw[hl]at h;cases h
  |some l=>
   rw[hl]at h
   cases h
   simp only[Rel]
   exact⟨v,rfl,zoz hl σ⟩
 ·exact zoz h σ
def zoh (v:Value):Option AV:=
 match v with
 |.string s=>some (.bs s)
 |v=>ziw v
def zma:List Value→Option (List AV)
 |[]=>some []
 |v::l=>match zoh v with
  |some a=>match zma l with
   |some l=>some (a::l)
   |none=>none
  |none=>none
def zf8 (v:Value):Option AV:=
 match v with
 |.agg cs=>match zma cs.toList with
  |some l=>some (.agg l)
  |none=>none
 |v=>zoh v
theorem zFj {v:Value}{a:AV}(h:zoh v=some a)(σ:Sg):Rel σ a v:=by
 unfold zoh at h
 split at h
 ·cases h;simp only[Rel]
 ·exact zoz h σ
theorem zFc (σ:Sg):∀{l:List Value}{as:List AV},zma l=some as→za1 σ as l
 |[],as,h=>by cases h;simp only[za1]
 |v::l,as,h=>by
  simp only[zma]at h
  cases h1:zoh v with
  |none=>rw[h1]at h;cases h
  |some a=>
   rw[h1]at h
   cases h2:zma l with
   |none=>rw[h2]at h;cases h
   |some l'=>
    rw[h2]at h
    cases h
    simp only[za1]
    exact⟨v,l,rfl,zFj h1 σ,zFc σ h2⟩
theorem zE2 {v:Value}{a:AV}(h:zf8 v=some a)(σ:Sg):Rel σ a v:=by
 unfold zf8 at h
 split at h
 ·rename_i cs
  cases hl:zma cs.toList with
  |none=>rw[hl]at h;cases h
  |some l=>
   rw[hl]at h
   cases h
   simp only[Rel]
   exact⟨cs.toList,by simp,zFc σ hl⟩
 ·exact zFj h σ
def evO (G:Gl)(tm:Tr AV)(o:Operand):Option AV:=
 match o with
 |.tmp t=>tm.get t
 |.const v=>match G.sym with
  |false=>ofV v
  |true=>zf8 v
 |.global g=>match G.tab g with
  |some cs=>some (.ip cs)
  |none=>match Nat.ble (Nat.succ g) G.n with
   |true=>some (.ptr g 0)
   |false=>none
 |.func f=>some (.func f [] [])
def zd8 (σ:Sg)(tm:Tr AV)(a:Act):Prop:=∀t v,tm.get t=some v→Rel σ v (a.tmps.getD t undef)
theorem zde {G:Gl}{σ:Sg}{h:Tr ABlk}{nx:Nat}{w:World}(hk:Ok G σ h nx w){tm:Tr AV}{a:Act}(ht:zd8 σ tm a){o:Operand}{v:AV}(he:evO G tm o=some v):Rel σ v (a.eval o):=by
 unfold evO at he
 cases o with
 |tmp t=>exact ht t v he
 |const c=>
  simp only at he
  split at he
  ·exact zEt he σ
  ·exact zE2 he σ
 |global g=>
  simp only at he
  split at he
  ·rename_i cs hcs
   cases he
   exact hk.gl g cs hcs
  ·split at he
   ·rename_i hle
    cases he
    simp only[Rel,Act.eval]
    exact⟨g,hk.glob g (Nat.le_of_ble_eq_true hle),rfl⟩
   ·cases he
 |func f=>
  cases he
  simp only[Rel,Act.eval]
  exact⟨[],[],rfl,by simp only[za1],by simp only[za1]⟩
def zb2 (G:Gl)(tm:Tr AV)(l:List Operand):Option (List AV):=List.rec (motive:=fun _=>Option (List AV)) (some []) (fun o _ ih=>match evO G tm o with
 |some a=>match ih with
  |some l=>some (a::l)
  |none=>none
 |none=>none) l
theorem zh1 {G:Gl}{σ:Sg}{h:Tr ABlk}{nx:Nat}{w:World}(hk:Ok G σ h nx w){tm:Tr AV}{a:Act}(ht:zd8 σ tm a):∀{l:List Operand}{vs:List AV},zb2 G tm l=some vs→za1 σ vs (l.map a.eval)
 |[],vs,h=>by cases h;simp only[za1,List.map_nil]
 |o::l,vs,h=>by
  change (match evO G tm o with
   |some a=>match zb2 G tm l with
    |some l=>some (a::l)
    |none=>none
   |none=>none)=some vs at h
  cases h1:evO G tm o with
  |none=>rw[h1]at h;cases h
  |some v=>
   rw[h1]at h
   cases h2:zb2 G tm l with
   |none=>rw[h2]at h;cases h
   |some l'=>
    rw[h2]at h
    cases h
    simp only[za1,List.map_cons]
    exact⟨_,_,rfl,zde hk ht h1,zh1 hk ht h2⟩
def ze7 (G:Gl)(tm:Tr AV)(l:List (Nat×Operand)):Option (List (Nat×AV)):=List.rec (motive:=fun _=>Option (List (Nat×AV))) (some []) (fun p _ ih=>match p with
 |(i,o)=>match evO G tm o with
  |some a=>match ih with
   |some l=>some ((i,a)::l)
   |none=>none
  |none=>none) l
theorem zrd {G:Gl}{σ:Sg}{h:Tr ABlk}{nx:Nat}{w:World}(hk:Ok G σ h nx w){tm:Tr AV}{a:Act}(ht:zd8 σ tm a):∀{l:List (Nat×Operand)}{vs:List (Nat×AV)},ze7 G tm l=some vs→zg1 σ vs (l.map fun p=>(p.1,a.eval p.2))
 |[],vs,h=>by cases h;simp only[zg1,List.map_nil]
 |(i,o)::l,vs,h=>by
  change (match evO G tm o with
   |some a=>match ze7 G tm l with
    |some l=>some ((i,a)::l)
    |none=>none
   |none=>none)=some vs at h
  cases h1:evO G tm o with
  |none=>rw[h1]at h;cases h
  |some v=>
   rw[h1]at h
   cases h2:ze7 G tm l with
   |none=>rw[h2]at h;cases h
   |some l'=>
    rw[h2]at h
    cases h
    simp only[zg1,List.map_cons]
    exact⟨_,_,rfl,zde hk ht h1,zrd hk ht h2⟩
def zhd (G:Gl)(tm:Tr AV)(o:Option Operand):Option (Option AV):=
 match o with
 |none=>some none
 |some o=>match evO G tm o with
  |some v=>some (some v)
  |none=>none
theorem zx1 {G:Gl}{σ:Sg}{h:Tr ABlk}{nx:Nat}{w:World}(hk:Ok G σ h nx w){tm:Tr AV}{a:Act}(ht:zd8 σ tm a){o:Option Operand}{v:Option AV}(he:zhd G tm o=some v):zef σ v (o.map a.eval):=by
 unfold zhd at he
 cases o with
 |none=>cases he;trivial
 |some o=>
  simp only at he
  cases h1:evO G tm o with
  |none=>rw[h1]at he;cases he
  |some v'=>
   rw[h1]at he
   cases he
   exact zde hk ht h1
def bR {α:Type}(o:Option α)(k:α→R):R:=match o with |some a=>k a |none=>.fail
def zdk:TI→TypeId
 |.mk (.slice e) _ _ _ _=>e
 |_=>0
def zna:TI→TypeId
 |.mk (.map k _) _ _ _ _=>k
 |_=>0
def zu8:TI→TypeId
 |.mk (.map _ v) _ _ _ _=>v
 |_=>0
def zj7 (ts td:TI):TypeId:=
 match td with
 |.mk (.slice e) _ _ _ _=>e
 |_=>zdk ts
section
variable (c : Cx)
def zdl (x:Operand)(tm:Tr AV)(h:Tr ABlk) (nx:Nat):R:=bR (evO c.G tm x) fun v=>.val v h nx
def zaf (x a b:Operand)(tm:Tr AV)(h:Tr ABlk) (nx:Nat):R:=bR (evO c.G tm x) fun v=>match v with
  |.bool true=>zdl c a tm h nx
  |.bool false=>zdl c b tm h nx
  |_=>.fail
def zq6 (e:TypeId)(_:Tr AV)(h:Tr ABlk) (nx:Nat):R:=bR (c.tt.get e) fun ti=>zsv ti e h nx
def zkl (e:TypeId)(x:Operand)(tm:Tr AV)(h:Tr ABlk) (nx:Nat):R:=bR (evO c.G tm x) fun v=>zvk e v h nx
def zp8 (t:TypeId)(ps:Array (Nat×Operand))(tm:Tr AV)(h:Tr ABlk) (nx:Nat):R:=bR (c.tt.get t) fun ti=>bR (ze7 c.G tm ps.toList) fun l=>zh5 ti l h nx
def zqk (t:TypeId) (n:Nat)(ps:Array (Nat×Operand))(tm:Tr AV)(h:Tr ABlk) (nx:Nat):R:=bR (c.tt.get t) fun ti=>bR (ze7 c.G tm ps.toList) fun l=>zm5 ti (c.tt.get (zdk ti)) (zdk ti) n l h nx
def zlc (t:TypeId)(x:Operand)(tm:Tr AV)(h:Tr ABlk) (nx:Nat):R:=bR (c.tt.get t) fun ti=>bR (evO c.G tm x) fun a=>zcv ti a h nx
def zqf (t:TypeId)(x y:Operand)(tm:Tr AV)(h:Tr ABlk) (nx:Nat):R:=bR (c.tt.get t) fun ti=>bR (evO c.G tm x) fun a=>bR (evO c.G tm y) fun v=>zpi ti a v h nx
def zkd (x:Operand)(tm:Tr AV)(h:Tr ABlk) (nx:Nat):R:=bR (evO c.G tm x) fun v=>match v with
  |.ptr i o=>.val (.ptr i o) h nx
  |.func f a b=>.val (.func f a b) h nx
  |.ip cs=>.val (.ip cs) h nx
  |_=>.fail
def zky (op:BinOp)(t:TypeId)(x y:Operand)(tm:Tr AV)(h:Tr ABlk) (nx:Nat):R:=bR (c.tt.get t) fun ti=>bR (evO c.G tm x) fun a=>bR (evO c.G tm y) fun b=>zj3 ti (c.eq.get t) (zep x || zep y) op a b h nx
def pUn (op:UnOp)(x:Operand)(tm:Tr AV)(h:Tr ABlk) (nx:Nat):R:=bR (evO c.G tm x) fun a=>zhy op a h nx
def isU:TI→Bool
 |.mk .unsafePointer _ _ _ _=>true
 |_=>false
def zm7 (ts:TI)(v:AV)(h:Tr ABlk) (nx:Nat):R:=
 match ts with
 |.mk (.pointer _) _ _ _ ((_,s,_)::_)=>match Nat.beq s 0 with
  |true=>.fail
  |false=>match v with
   |.ptr0=>.val .ptr0 h nx
   |.ptr i o=>match h.get i with
    |some (.cells _ n _ _ _)=>match Nat.ble (Nat.succ o) n with
     |true=>.val (.ptr i o) h nx
     |false=>.fail
    |_=>.fail
   |_=>.fail
 |_=>.fail
def zo1 (d:TypeId)(td:TI)(v:AV)(h:Tr ABlk) (nx:Nat):R:=
 match td with
 |.mk (.pointer u) _ _ _ (_::_)=>match v with
  |.ptr0=>.val .ptr0 h nx
  |.ptr i o=>match h.get i with
   |some (.cells e n _ false _)=>match c.tt.get e with
    |some (.mk _ se _ _ _)=>match c.lies e (Nat.div n se) o u with
     |true=>.val (.ptr i o) h nx
     |false=>.fail
    |none=>.fail
   |_=>.fail
  |_=>.fail
 |_=>.fail
def zno (s d:TypeId)(x:Operand)(tm:Tr AV)(h:Tr ABlk) (nx:Nat):R:=bR (c.tt.get s) fun ts=>bR (c.tt.get d) fun td=>bR (evO c.G tm x) fun a=>match c.G.sym with
 |false=>zmm ts td (c.tt.get (zj7 ts td)) (zj7 ts td) a h nx
 |true=>zay ts td (c.tt.get (zj7 ts td)) (zj7 ts td) a h nx
def zfz (s d:TypeId)(x:Operand)(tm:Tr AV)(h:Tr ABlk) (nx:Nat):R:=bR (c.tt.get s) fun ts=>bR (c.tt.get d) fun td=>match isU td,isU ts with
 |false,false=>zno c s d x tm h nx
 |true,false=>bR (evO c.G tm x) fun a=>zm7 ts a h nx
 |false,true=>bR (evO c.G tm x) fun a=>zo1 c d td a h nx
 |true,true=>.fail
def zqa (t:TypeId)(x:Operand)(tm:Tr AV)(h:Tr ABlk) (nx:Nat):R:=bR (c.tt.get t) fun ti=>bR (evO c.G tm x) fun a=>zir ti t a h nx
def zin (fn:Fn)(first cap:Array Operand)(tm:Tr AV)(h:Tr ABlk) (nx:Nat):R:=match fn with
  |.func f=>bR (zb2 c.G tm first.toList) fun a=>bR (zb2 c.G tm cap.toList) fun b=>.val (.func f a b) h nx
  |_=>.fail
def zqo (r:Option Operand)(_:Tr AV)(h:Tr ABlk) (nx:Nat):R:=match r with
  |none=>zr0 h nx
  |some _=>.fail
def zmh (t:TypeId)(l cp:Operand)(tm:Tr AV)(h:Tr ABlk) (nx:Nat):R:=bR (c.tt.get t) fun ti=>bR (evO c.G tm l) fun a=>bR (evO c.G tm cp) fun b=>zo4 ti (c.tt.get (zdk ti)) (zdk ti) a b h nx
def zlj (t:TypeId)(x:Operand)(lo hi mx:Option Operand)(tm:Tr AV)(h:Tr ABlk) (nx:Nat):R:=bR (c.tt.get t) fun ti=>bR (evO c.G tm x) fun a=>bR (zhd c.G tm lo) fun lo=>bR (zhd c.G tm hi) fun hi=>bR (zhd c.G tm mx) fun mx=>zix ti a lo hi mx h nx
def zkn (t:TypeId)(x:Operand) (k:Nat)(tm:Tr AV)(h:Tr ABlk) (nx:Nat):R:=bR (c.tt.get t) fun ti=>bR (evO c.G tm x) fun a=>zif ti a k h nx
def zkv (t:TypeId)(x:Operand) (k:Nat)(tm:Tr AV)(h:Tr ABlk) (nx:Nat):R:=bR (c.tt.get t) fun ti=>bR (evO c.G tm x) fun a=>zim ti a k h nx
def zlg (t:TypeId)(x i:Operand)(tm:Tr AV)(h:Tr ABlk) (nx:Nat):R:=bR (c.tt.get t) fun ti=>bR (evO c.G tm x) fun a=>bR (evO c.G tm i) fun b=>zd3 ti a b h nx
def zle (t:TypeId)(x i:Operand)(tm:Tr AV)(h:Tr ABlk) (nx:Nat):R:=bR (c.tt.get t) fun ti=>bR (evO c.G tm x) fun a=>bR (evO c.G tm i) fun b=>zh4 ti a b h nx
def zl9 (t:TypeId)(m k:Operand)(ok:Bool)(tm:Tr AV)(h:Tr ABlk) (nx:Nat):R:=bR (c.tt.get t) fun ti=>bR (evO c.G tm m) fun a=>bR (evO c.G tm k) fun b=>zic ti (c.tt.get (zna ti)) (c.tt.get (zu8 ti)) (zna ti) (zu8 ti) ok a b h nx
def zgt (t:TypeId)(m k v:Operand)(tm:Tr AV)(h:Tr ABlk) (nx:Nat):R:=bR (c.tt.get t) fun ti=>bR (evO c.G tm m) fun a=>bR (evO c.G tm k) fun b=>bR (evO c.G tm v) fun d=>zpr ti (c.tt.get (zna ti)) (zna ti) a b d h nx
def pTA (x:Operand)(ta:TypeId)(ok:Bool)(tm:Tr AV)(h:Tr ABlk) (nx:Nat):R:=bR (c.tt.get ta) fun ti=>bR (evO c.G tm x) fun a=>zk5 ti ta ok a h nx
def zl2 (x:Operand) (k:Nat)(tm:Tr AV)(h:Tr ABlk) (nx:Nat):R:=bR (evO c.G tm x) fun a=>ziu a k h nx
def zxj (argTypes:Array TypeId)(l:List AV)(h:Tr ABlk) (nx:Nat):R:=bR argTypes.toList.head? fun t=>bR (c.tt.get t) fun ti=>match l with
   |[a]=>zdu ti a h nx
   |_=>.fail
def zNm (argTypes:Array TypeId)(l:List AV)(h:Tr ABlk) (nx:Nat):R:=bR argTypes.toList.head? fun t=>bR (c.tt.get t) fun ti=>match l with
   |[a]=>zjr ti a h nx
   |_=>.fail
def zup (argTypes:Array TypeId)(l:List AV)(h:Tr ABlk) (nx:Nat):R:=match argTypes.toList with
   |[t,u]=>bR (c.tt.get t) fun ti=>bR (c.tt.get u) fun tu=>match l with
    |[a,b]=>zs4 ti tu (c.tt.get (zdk ti)) (zdk ti) a b h nx
    |_=>.fail
   |_=>.fail
def zP2 (argTypes:Array TypeId)(l:List AV)(h:Tr ABlk) (nx:Nat):R:=bR argTypes.toList.head? fun t=>bR (c.tt.get t) fun ti=>match l with
   |[a,b]=>ztb ti (c.tt.get (zdk ti)) (zdk ti) a b h nx
   |_=>.fail
def bSD (l:List AV)(h:Tr ABlk) (nx:Nat):R:=match l with
   |[a]=>zsw a h nx
   |_=>.fail
def bUS (argTypes:Array TypeId)(l:List AV)(h:Tr ABlk) (nx:Nat):R:=match argTypes.toList with
   |[t,_]=>bR (c.tt.get t) fun ti=>match l with
    |[a,b]=>zo5 ti a b h nx
    |_=>.fail
   |_=>.fail
def bOf (b:Builtin)(argTypes:Array TypeId):List AV→Tr ABlk→Nat→R:=match b with
  |.len=>zxj c argTypes
  |.cap=>zNm c argTypes
  |.append=>zup c argTypes
  |.copy=>zP2 c argTypes
  |.max=>zfb true
  |.min=>zfb false
  |.unsafeSliceData=>bSD
  |.unsafeString=>bUS c argTypes
  |_=>fun _ _ _=>.fail
def zAc (_:Tr AV)(_:Tr ABlk) (_:Nat):R:=.fail
def zki (b:Builtin)(args:Array Operand)(argTypes:Array TypeId)(tm:Tr AV)(h:Tr ABlk) (nx:Nat):R:=bR (zb2 c.G tm args.toList) fun l=>bOf c b argTypes l h nx
def zqv (cl:Call):Tr AV→Tr ABlk→Nat→R:=match cl.callee with
  |.builtin b=>zki c b cl.args cl.argTypes
  |_=>zAc
def zdp (op:Op):Tr AV→Tr ABlk→Nat→R:=
 match op with
 |.move x=>zdl c x
 |.assign x=>zdl c x
 |.pick x a b=>zaf c x a b
 |.alloc e=>zq6 c e
 |.box e x=>zkl c e x
 |.build t ps=>zp8 c t ps
 |.buildSlice t n ps=>zqk c t n ps
 |.load t x=>zlc c t x
 |.store t x y=>zqf c t x y
 |.nilCheck x=>zkd c x
 |.binOp op t x y _=>zky c op t x y
 |.unOp op _ x=>pUn c op x
 |.convert s d x=>zfz c s d x
 |.makeInterface t x=>zqa c t x
 |.makeFunc fn first cap=>zin c fn first cap
 |.makeMap _ r=>zqo r
 |.makeSlice t l cp=>zmh c t l cp
 |.slice t x lo hi mx=>zlj c t x lo hi mx
 |.fieldAddr t x k=>zkn c t x k
 |.field t x k=>zkv c t x k
 |.indexAddr t x i=>zlg c t x i
 |.index t x i=>zle c t x i
 |.lookup t m k ok=>zl9 c t m k ok
 |.mapUpdate t m k v=>zgt c t m k v
 |.insert t m k v=>zgt c t m k v
 |.typeAssert x _ ta ok=>pTA c x ta ok
 |.extract x k=>zl2 c x k
 |.call cl=>zqv c cl
 |_=>zAc
end
end
end Go.Ev
