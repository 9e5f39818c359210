/- Texts O10 U E E2 S1. -/
import Derived.Lib.UnsafeStr
import Derived.LoopN
import Derived.Test.YtjngkeajenankaaGreatDoorP03
set_option linter.unusedSimpArgs false
set_option linter.unusedVariables false
set_option maxRecDepth 100000
namespace Go.Ev
variable {P : Program} {G : Gl} {σ τ υ : Sg} {h g f : Tr ABlk} {nx ny nz : Nat} {w x y : World}
noncomputable section
theorem evMM_ok (hk:Ok G σ h nx w)(mx:Bool)(ts:Array TypeId)(ty:TypeId){l:List AV}{L:List Value}(hl:RelL σ l L):
  RV P G σ h nx w (match mx with |true=>Builtin.max_ ts ty L.toArray |false=>Builtin.min_ ts ty L.toArray) (evMM mx l h nx):=by
 have key:∀(k k':IntKind) (a b:Int),RelL σ [.int k a,.int k' b] L→L=[.int k a,.int k' b]:=by
  intro k k' a b hl
  simp only[RelL,Rel]at hl
  obtain⟨V,L',e,e1,V2,L2,e2,e3,e4⟩:=hl
  subst e4
  subst e3
  subst e2
  subst e1
  exact e
 cases mx with
 |true=>
  show RV P G σ h nx w (Builtin.max_ ts ty L.toArray) _
  unfold evMM
  simp only
  split
  ·rename_i k a k' b
   rw[key _ _ _ _ hl]
   have e:=ilt_eq a b
   cases hb:ilt a b with
   |true=>
    rw[hb]at e
    have:a<b:=of_decide_eq_true e.symm
    exact SV.pure hk (V:=.int k b) (by simp[Builtin.max_,Builtin.max2,this]) (by simp only[Rel])
   |false=>
    rw[hb]at e
    have:¬a<b:=of_decide_eq_false e.symm
    exact SV.pure hk (V:=.int k a) (by simp[Builtin.max_,Builtin.max2,this]) (by simp only[Rel])
  ·trivial
 |false=>
  show RV P G σ h nx w (Builtin.min_ ts ty L.toArray) _
  unfold evMM
  simp only
  split
  ·rename_i k a k' b
   rw[key _ _ _ _ hl]
   have e:=ilt_eq b a
   cases hb:ilt b a with
   |true=>
    rw[hb]at e
    have:b<a:=of_decide_eq_true e.symm
    exact SV.pure hk (V:=.int k b) (by simp[Builtin.min_,Builtin.min2,this]) (by simp only[Rel])
   |false=>
    rw[hb]at e
    have:¬b<a:=of_decide_eq_false e.symm
    exact SV.pure hk (V:=.int k a) (by simp[Builtin.min_,Builtin.min2,this]) (by simp only[Rel])
  ·trivial
def srcN (size n:Nat)(v:AV)(h:Tr ABlk):Option (List AV):=
 match v with
 |.sl0=>match Nat.beq n 0 with |true=>some [] |false=>none
 |.sl i o m _ _=>match Nat.ble n m with
  |false=>none
  |true=>match h.get i with
   |some (.cells _ k c _ _)=>match Nat.ble (Nat.add o (Nat.mul n size)) k with
    |true=>getN c (Nat.mul n size) o
    |false=>none
   |_=>none
 |.str l s=>match Nat.beq size 1 && Nat.ble n l with
  |true=>some (bytesL n (Nat.mod s (Nat.pow 256 n)))
  |false=>none
 |.fz es full xs=>match Nat.beq n xs.length with
  |true=>match srcL size (.fz es full xs) h with
   |some p=>some p.2
   |none=>none
  |false=>none
 |_=>none
theorem srcN_ok (hk:Ok G σ h nx w){size n:Nat}{v:AV}{V:Value}(hv:Rel σ v V){l:List AV}(hs:srcN size n v h=some l):
  ∃L,RelL σ l L∧l.length=n * size∧(Builtin.firstCells size n V).run P w=.ok L.toArray w:=by
 unfold srcN at hs
 cases v <;> try (cases hs;done)
 ·rename_i sl sn
  simp only[Rel]at hv
  obtain⟨hn,e⟩:=hv
  subst e
  simp only at hs
  split at hs
  ·rename_i hb
   rw[Bool.and_eq_true]at hb
   have:=Nat.eq_of_beq_eq_true hb.1
   subst this
   have hle:=Nat.le_of_ble_eq_true hb.2
   cases hs
   refine⟨(strL n (sn % 256 ^ n)).map fun b=>.int .u8 b.toNat,bytesL_spec _ _,by rw[bytesL_length];omega,?_⟩
   simp only[Builtin.firstCells,Sem.run_pure]
   rw[strB_extract hle]
   congr 1
   simp only[Nat.sub_zero,Nat.pow_zero,Nat.div_one]
   show Array.map _ (strL n (sn % 256 ^ n)).toArray=_
   simp
  ·cases hs
 ·simp only[Rel]at hv
  subst hv
  simp only at hs
  split at hs
  ·rename_i hb
   have:=Nat.eq_of_beq_eq_true hb
   subst this
   cases hs
   exact⟨[],by simp only[RelL],by simp,by simp[Builtin.firstCells]⟩
  ·cases hs
 ·rename_i i o m c opn
  simp only[Rel]at hv
  obtain⟨b,hb,e,_⟩:=hv
  subst e
  simp only at hs
  split at hs
  ·cases hs
  ·split at hs
   ·rename_i e' k c' opn' esz hg
    split at hs
    ·rename_i hle
     obtain⟨b',C,fr,hb',hheap,hcell,_,_⟩:=hk.cells hg
     rw[hb]at hb'
     cases hb'
     obtain⟨hlen,L,hrl,hload,_⟩:=cells_read (P:=P) hheap hcell (Nat.le_of_ble_eq_true hle) hs
     exact⟨L,hrl,hlen,by simpa[Builtin.firstCells]using hload⟩
    ·cases hs
   ·cases hs
 ·rename_i es full xs
  simp only at hs
  cases hb:Nat.beq n xs.length with
  |false=>rw[hb]at hs;cases hs
  |true=>
   rw[hb]at hs
   simp only at hs
   cases hq:srcL size (.fz es full xs) h with
   |none=>rw[hq]at hs;cases hs
   |some p=>
    rw[hq]at hs
    cases hs
    obtain⟨m,l⟩:=p
    have hm:m=xs.length:=by
     unfold srcL at hq
     simp only at hq
     cases hc:Nat.beq es size with
     |false=>rw[hc]at hq;cases hq
     |true=>rw[hc]at hq;cases hq;rfl
    obtain⟨L,q1,q2,_,q4⟩:=srcL_ok (P:=P) hk hv hq
    have hn:=Nat.eq_of_beq_eq_true hb
    rw[hn]
    rw[hm]at q2 q4
    exact⟨L,q1,q2,q4 w rfl⟩
def lenA:AV→Option Nat
 |.sl0=>some 0
 |.sl _ _ m _ _=>some m
 |.str l _=>some l
 |.fz _ _ xs=>some xs.length
 |_=>none
theorem lenA_ok {v:AV}{V:Value}(hv:Rel σ v V){n:Nat}(hn:lenA v=some n)(w:World):(Builtin.lenOf V).run P w=.ok n w:=by
 unfold lenA at hn
 cases v <;> try (cases hn;done)
 ·cases hn
  simp only[Rel]at hv
  obtain⟨_,e⟩:=hv
  subst e
  simp[Builtin.lenOf,strB_size]
 ·cases hn
  simp only[Rel]at hv
  subst hv
  simp[Builtin.lenOf]
 ·cases hn
  simp only[Rel]at hv
  obtain⟨b,_,e,_⟩:=hv
  subst e
  simp[Builtin.lenOf]
 ·cases hn
  simp only[Rel]at hv
  obtain⟨a,cap,e,_⟩:=hv
  subst e
  simp[Builtin.lenOf]
def evCopy (ti:TI)(te:Option TI)(et:TypeId)(dst src:AV)(h:Tr ABlk) (nx:Nat):R:=
 match ti,te with
 |.mk (.slice e) _ _ _ _,some (.mk _ size _ _ _)=>match Nat.beq e et with
  |false=>.fail
  |true=>match lenA src with
   |none=>.fail
   |some m=>match dst with
    |.sl0=>vInt 0 h nx
    |.sl i o len _ _=>match srcN size (Nat.min m len) src h with
     |none=>.fail
     |some l=>match allOne l with
      |false=>.fail
      |true=>match h.get i with
       |some (.cells e' n c opn esz)=>match Nat.ble (Nat.add o (Nat.mul (Nat.min m len) size)) n with
        |true=>putNK l c o fun c'=>h.putK (some (.cells e' n c' opn esz)) i fun h'=>vInt (Nat.min m len) h' nx
        |false=>.fail
       |_=>.fail
    |_=>.fail
 |_,_=>.fail
theorem evCopy_ok (hk:Ok G σ h nx w)(t:TypeId){ti:TI}(ht:TIok P t ti){te:Option TI}{et:TypeId}(hte:∀ti,te=some ti→TIok P et ti)(ts:Array TypeId)(hts:ts[0]?=some t)(ty:TypeId){dst src:AV}{D S:Value}(hd:Rel σ dst D)(hs:Rel σ src S):
  RV P G σ h nx w (Builtin.copy_ ts ty #[D,S]) (evCopy ti te et dst src h nx):=by
 unfold evCopy
 split
 ·rename_i e q1 q2 q3 q4 de size q5 q6 q7
  obtain⟨hu,hu2⟩:=ht
  clear hu2
  obtain⟨hue,inf,hi,hsz,hze⟩:=hte _ rfl
  clear hze
  cases hbe:Nat.beq e et with
  |false=>trivial
  |true=>
  have:=Nat.eq_of_beq_eq_true hbe
  subst this
  simp only
  cases hm:lenA src with
  |none=>trivial
  |some m=>
  have hlen:=lenA_ok (P:=P) hs hm w
  simp only
  cases dst <;> try trivial
  ·simp only[Rel]at hd
   subst hd
   refine vInt_ok hk ?_
   have hf:∃L:Array Value,(Builtin.firstCells size 0 S).run P w=.ok L w:=by
    cases src <;> try (cases hm;done)
    ·simp only[Rel]at hs
     obtain⟨_,e1⟩:=hs
     subst e1
     exact⟨#[],by simp[Builtin.firstCells]⟩
    ·simp only[Rel]at hs
     subst hs
     exact⟨#[],by simp[Builtin.firstCells]⟩
    ·simp only[Rel]at hs
     obtain⟨b,_,e1,_⟩:=hs
     subst e1
     exact⟨#[],by simp[Builtin.firstCells,loadCells,loadCellsFrom]⟩
    ·simp only[Rel]at hs
     obtain⟨a,cap,e1,_⟩:=hs
     subst e1
     cases a with
     |none=>exact⟨#[],by simp[Builtin.firstCells]⟩
     |some a=>exact⟨#[],by simp[Builtin.firstCells,loadCells,loadCellsFrom]⟩
   obtain⟨L,hf⟩:=hf
   simp[Builtin.copy_,hts,run_underlying hu,hlen,run_size hi,hsz,hf]
  ·rename_i i o len c opn
   simp only[Rel]at hd
   obtain⟨b,hb,e1,_⟩:=hd
   subst e1
   simp only
   cases hsn:srcN size (Nat.min m len) src h with
   |none=>trivial
   |some l=>
   simp only
   cases hone:allOne l with
   |false=>trivial
   |true=>
   simp only
   cases hg:h.get i with
   |none=>trivial
   |some B=>
   cases B with
   |map _ _=>trivial
   |loop _ _ _ _ _ _ _ _ _=>trivial
   |dfr=>trivial
   |miter _ _ _ _=>trivial
   |siter _ _=>trivial
   |cells e' n c' opn' esz=>
   simp only
   cases hle:Nat.ble (Nat.add o (Nat.mul (Nat.min m len) size)) n with
   |false=>trivial
   |true=>
   have hle':o+(Nat.min m len) * size≤n:=Nat.le_of_ble_eq_true hle
   obtain⟨L,hrl,hll,hfc⟩:=srcN_ok (P:=P) hk hs hsn
   obtain⟨b',C,fr,hb',hheap,hcell,hfr,hCsz⟩:=hk.cells hg
   rw[hb]at hb'
   cases hb'
   have hnC:n≤C.size:=by split at hCsz <;> omega
   have hL:L.length=(Nat.min m len) * size:=by rw[hrl.length];exact hll
   simp only[putNK_eq,Tr.putK_eq,vInt,fN_eq]
   have hst:=run_storeN (P:=P) (b:=b) (o:=o) L 0 C w hheap (by omega) hfr (allOne_spec hone hrl)
   simp only[Nat.add_zero]at hst
   refine⟨goInt (Nat.min m len),σ,_,?_,by simp only[Rel];rfl,store_ok hk hg hrl (by omega) hb hheap⟩
   simp[Builtin.copy_,hts,run_underlying hu,hlen,run_size hi,hsz,hfc,hst]
 ·trivial
end
end Go.Ev
namespace Go.Ev
variable {P : Program} {G : Gl} {σ τ υ : Sg} {h g f : Tr ABlk} {nx ny nz : Nat} {w x y : World}
theorem Post.freeze (hk:Ok G σ h nx w){i b:Nat}{B:ABlk}(hi:h.get i=some B)(hb:σ.blk i=some b) (n:Nat):Post G σ h nx w σ (h.put i none) nx (w.freeze ⟨b,0,none⟩ n):=by
 have hs:∀j B',(h.put i none).get j=some B'→j≠i∧h.get j=some B':=by
  intro j B' hj
  rw[Tr.get_put]at hj
  split at hj
  ·cases hj
  ·exact⟨by assumption,hj⟩
 have hheap:∀k,k≠b→(w.freeze ⟨b,0,none⟩ n).heap[k]?=w.heap[k]?:=by
  intro k hk'
  unfold World.freeze
  split
  ·rfl
  ·simp only[Array.getElem?_modify]
   rw[if_neg (fun e=>hk' e.symm)]
 have hsz:(w.freeze ⟨b,0,none⟩ n).heap.size=w.heap.size:=by unfold World.freeze;split <;> simp
 have hos:(w.freeze ⟨b,0,none⟩ n).os=w.os∧(w.freeze ⟨b,0,none⟩ n).tape=w.tape∧(w.freeze ⟨b,0,none⟩ n).output=w.output:=by unfold World.freeze;split <;> exact⟨rfl,rfl,rfl⟩
 refine⟨⟨hk.glob,hk.le,hk.fresh,fun a c d B1 B2 h1 h2=>hk.inj a c d B1 B2 (hs _ _ h1).2 (hs _ _ h2).2,fun a B1 h1=>?_,fun d C hd=>⟨?_,fun a B1 h1=>(hk.imm d C hd).2 a B1 (hs _ _ h1).2⟩,hk.gl⟩,.refl σ,⟨hos.1,hos.2.1,hos.2.2,by rw[hsz];exact Nat.le_refl _,fun d hd hn=>hheap d fun e=>hn i B hi (e ▸ hb),fun a B1 d h1 h2=>.inr ⟨a,B1,(hs _ _ h1).2,h2⟩,fun _ _ h=>.inl h⟩,Nat.le_refl _⟩
 ·obtain⟨n1,n2⟩:=hs a B1 h1
  obtain⟨b',o,hb',ho,hr⟩:=hk.blk a B1 n2
  refine⟨b',o,hb',?_,hr⟩
  rw[hheap b' fun e=>n1 (hk.inj a i b B1 B n2 hi (e ▸ hb') hb)]
  exact ho
 ·obtain⟨⟨t,fr,h1⟩,h2⟩:=hk.imm d C hd
  refine⟨t,fr,?_⟩
  rw[hheap d fun e=>h2 i B hi (e ▸ hb)]
  exact h1
theorem cellsN_small:∀{l:List AV}{L:List Value}{n:Nat},RelL σ l L→cellsN l=some n→∀(j:Nat) U,L[j]?=some U→∃b,b≤255∧U=.int .u8 (Int.ofNat b)
 |[],L,n,hr,_,j,U,hU=>by simp only[RelL]at hr;subst hr;simp at hU
 |v::l,L,n,hr,hn,j,U,hU=>by
  simp only[RelL]at hr
  obtain⟨V,L',e,h1,h2⟩:=hr
  subst e
  rw[cellsN_cons]at hn
  cases hbv:byteV v with
  |none=>rw[hbv]at hn;cases hn
  |some b=>
   rw[hbv]at hn
   cases hn':cellsN l with
   |none=>rw[hn']at hn;cases hn
   |some n'=>
    cases j with
    |zero=>simp at hU;subst hU;exact⟨b,byteV_spec h1 hbv⟩
    |succ j=>exact cellsN_small h2 hn' j U (by simpa using hU)
noncomputable section
def evSliceData (v:AV)(h:Tr ABlk) (nx:Nat):R:=
 match v with
 |.sl0=>.val .ptr0 h nx
 |.sl i o l c opn=>match (match opn with |true=>Nat.ble 1 l |false=>Nat.ble 1 c) with
  |true=>.val (.ptr i o) h nx
  |false=>.fail
 |_=>.fail
theorem evSliceData_ok (hk:Ok G σ h nx w)(ts:Array TypeId)(ty:TypeId){v:AV}{V:Value}(hv:Rel σ v V):RV P G σ h nx w (Builtin.unsafeSliceData_ ts ty #[V]) (evSliceData v h nx):=by
 unfold evSliceData
 cases v <;> try trivial
 ·simp only[Rel]at hv
  subst hv
  exact SV.pure hk (V:=.pointer none) rfl (by simp only[Rel])
 ·rename_i i o l c opn
  simp only[Rel]at hv
  obtain⟨b,hb,e,hlc⟩:=hv
  subst e
  simp only
  cases hq:(match opn with |true=>Nat.ble 1 l |false=>Nat.ble 1 c) with
  |false=>trivial
  |true=>
   have hne:¬(if opn=true then σ.cap i-c else c)=0:=by
    cases opn with
    |true=>
     have:=Nat.le_of_ble_eq_true (show Nat.ble 1 l=true from hq)
     simp only[if_true]at hlc ⊢
     omega
    |false=>
     have:=Nat.le_of_ble_eq_true (show Nat.ble 1 c=true from hq)
     simp only[Bool.false_eq_true,if_false]
     omega
   refine SV.pure hk (V:=.pointer (some ⟨b,o,none⟩)) ?_ (by simp only[Rel];exact⟨b,hb,rfl⟩)
   generalize (if opn=true then σ.cap i-c else c)=cc at hne
   have hdef:Builtin.unsafeSliceData_ ts ty #[.slice (some ⟨b,o,none⟩) l cc]=(if cc≠0 then pure (.pointer (some ⟨b,o,none⟩)) else do
     if (← viewAt b).isSome then pure (.pointer (some ⟨b,o,none⟩)) else pure (.pointer (some ⟨← newObj (.view ⟨b,o,none⟩ (← elemOf ty)),0,none⟩))):=rfl
   rw[hdef,if_pos hne]
   rfl
def evUnsafeStr (tp:TI)(p n:AV)(h:Tr ABlk) (nx:Nat):R:=
 match tp with
 |.mk (.pointer e) _ _ _ ((_,s,_)::_)=>match Nat.beq s 1 with
  |false=>.fail
  |true=>match n with
   |.int .i64 (.ofNat n)=>match p with
    |.ptr0=>match Nat.beq n 0 with
     |true=>.val (.str 0 0) h nx
     |false=>.fail
    |.ptr i o=>match Nat.beq n 0 with
     |true=>.val (.str 0 0) h nx
     |false=>match h.get i with
      |some (.cells e' m c _ _)=>match Nat.beq e' e && Nat.beq o 0 && Nat.ble n m && Nat.ble n 4611686018427387904 with
       |false=>.fail
       |true=>match getN c n 0 with
        |none=>.fail
        |some l=>match cellsN l with
         |none=>.fail
         |some z=>fN z fun z=>h.putK none i fun h'=>.val (.str n z) h' nx
      |_=>.fail
    |_=>.fail
   |_=>.fail
 |_=>.fail
theorem evUnsafeStr_ok (hk:Ok G σ h nx w){pt:TypeId}{tp:TI}(ht:TIok P pt tp)(it ty:TypeId){p n:AV}{A N:Value}(hp:Rel σ p A)(hn:Rel σ n N):RV P G σ h nx w (Builtin.unsafeString_ #[pt,it] ty #[A,N]) (evUnsafeStr tp p n h nx):=by
 unfold evUnsafeStr
 split
 ·rename_i e q1 q2 q3 o0 s0 b0 fs
  obtain⟨hu,inf,hi,hs,hby,hzz,hf,hfl,hel⟩:=ht
  have htf:=hel e (.inr (.inr rfl)) o0 s0 b0 rfl
  obtain⟨⟨ie,hie,hies⟩,_⟩:=htf
  cases hs1:Nat.beq s0 1 with
  |false=>trivial
  |true=>
  have hs1':=Nat.eq_of_beq_eq_true hs1
  have hco:P.cellsOf e=1:=by simp[Program.cellsOf,hie,hies,hs1']
  simp only
  split
  ·rename_i k
   simp only[Rel]at hn
   subst hn
   have h0:∀q:Option Addr,k=0→RV P G σ h nx w (Builtin.unsafeString_ #[pt,it] ty #[.pointer q,.int .i64 (Int.ofNat k)]) (.val (.str 0 0) h nx):=by
    intro q hk0
    subst hk0
    exact SV.pure hk (V:=.string .empty) (Lib.run_unsafeString_none w pt it ty q) (by simp only[Rel];exact⟨by simp,rfl⟩)
   split
   ·simp only[Rel]at hp
    subst hp
    split
    ·rename_i hb
     exact h0 none (Nat.eq_of_beq_eq_true hb)
    ·trivial
   ·rename_i i o
    simp only[Rel]at hp
    obtain⟨b,hb,e1⟩:=hp
    subst e1
    split
    ·rename_i hb0
     exact h0 _ (Nat.eq_of_beq_eq_true hb0)
    ·rename_i hb0
     have hk0:=beq_false hb0
     split
     ·rename_i e' m c opn esz hg
      split
      ·trivial
      ·rename_i hall
       simp only[Bool.and_eq_true]at hall
       obtain⟨⟨⟨a1,a2⟩,a3⟩,a4⟩:=hall
       have a1':=Nat.eq_of_beq_eq_true a1
       have a2':=Nat.eq_of_beq_eq_true a2
       have a3':=Nat.le_of_ble_eq_true a3
       have a4':=Nat.le_of_ble_eq_true a4
       subst a1'
       subst a2'
       split
       ·trivial
       ·rename_i l hl
        split
        ·trivial
        ·rename_i z hz
         simp only[fN_eq,Tr.putK_eq]
         obtain⟨b',C,fr,hb',hheap,hcell,_,hCsz⟩:=hk.cells hg
         rw[hb]at hb'
         cases hb'
         have hmC:m≤C.size:=by split at hCsz <;> omega
         obtain⟨hlen,L,hrl,_,hcs⟩:=cells_read (P:=P) (o:=0) hheap hcell (by omega) hl
         obtain⟨hzlt,ns,hL,hns⟩:=cellsN_spec hrl hz
         rw[hlen]at hzlt hns
         have hsl:(strL k z).length=k:=strL_length k z
         have hcell2:∀(j:Nat) (u:UInt8),(strL k z)[j]?=some u→w.cell? ((⟨b,0,none⟩:Addr).add j)=some (.int .u8 u.toNat):=by
          intro j u hj
          rw[← hns,List.getElem?_map]at hj
          cases hq:ns[j]? with
          |none=>rw[hq]at hj;cases hj
          |some q=>
           rw[hq]at hj
           have hLj:L[j]?=some (.int .u8 q):=by rw[hL,List.getElem?_map,hq];rfl
           obtain⟨bb,hbb,hU⟩:=cellsN_small hrl hz j _ hLj
           have hqb:q=Int.ofNat bb:=by cases hU;rfl
           rw[hcs j _ hLj]
           have hu8:u=UInt8.ofNat bb:=by
            rw[hqb]at hj
            simpa using hj.symm
           rw[hu8,u8 (by omega),hqb]
           rfl
         have hrun:=Lib.run_unsafeString_row (P:=P) w pt it ty e' hu hco b C.size (by simp[World.shape?,hheap]) (strL k z) (by intro e;rw[e]at hsl;simp at hsl;omega) (by rw[hsl];omega) (by rw[hsl];omega) hcell2
         rw[hsl]at hrun
         exact⟨.string (strB k z),σ,_,hrun,by simp only[Rel];exact⟨hzlt,trivial⟩,Post.freeze hk hg hb k⟩
     ·trivial
   ·trivial
  ·trivial
 ·trivial
end
end Go.Ev
namespace Go.Ev
inductive Cx where
 |mk (tt:Tr TI) (eq:Tr (List (Nat×TypeDesc))) (ft:Tr Func) (G:Gl) (lies:TypeId→Nat→Nat→TypeId→Bool)
def Cx.tt:Cx→Tr TI |.mk t _ _ _ _=>t
def Cx.eq:Cx→Tr (List (Nat×TypeDesc)) |.mk _ e _ _ _=>e
def Cx.ft:Cx→Tr Func |.mk _ _ f _ _=>f
def Cx.G:Cx→Gl |.mk _ _ _ g _=>g
def Cx.lies:Cx→TypeId→Nat→Nat→TypeId→Bool |.mk _ _ _ _ l=>l
structure CxOk (P:Program)(c:Cx):Prop where
 tt:∀t ti,c.tt.get t=some ti→TIok P t ti
 eq:∀t,EqOk P t (c.eq.get t)
 lies:∀e k o u,c.lies e k o u=true→liesAt P P.depth e k o u 1=true
 ft:∀f fn,c.ft.get f=some fn→P.funcs[f]?=some fn∧∀args w,(callFunc f args).run P w=.ok (.enter f args) w
noncomputable section
def ofV1:Value→Option AV
 |.bool b=>some (.bool b)
 |.int k n=>some (.int k n)
 |.string s=>some (.str s.data.toList.length (ofL s.data.toList))
 |.pointer none=>some .ptr0
 |.slice none 0 0=>some .sl0
 |.map none=>some .map0
 |.nilFunc=>some .nilFunc
 |.nilIface=>some .nilIface
 |_=>none
def ofVL (l:List Value):Option (List AV):=List.rec (motive:=fun _=>Option (List AV)) (some []) (fun v _ ih=>match ofV1 v with
 |some a=>match ih with
  |some l=>some (a::l)
  |none=>none
 |none=>none) l
def ofV:Value→Option AV
 |.agg cs=>match ofVL cs.toList with
  |some l=>some (.agg l)
  |none=>none
 |.tuple cs=>match ofVL cs.toList with
  |some l=>some (.tup l)
  |none=>none
 |.iface t v=>match ofV1 v with
  |some a=>some (.iface t a)
  |none=>none
 |v=>ofV1 v
theorem ofV1_ok {v:Value}{a:AV}(h:ofV1 v=some a)(σ:Sg):Rel σ a v:=by
 unfold ofV1 at h
 split at h <;> first
  |(cases h;simp only[Rel];done)
  |(cases h;done)
  |skip
 rename_i s
 cases h
 simp only[Rel]
 obtain⟨h1,h2⟩:=ofL_spec s.data.toList
 refine⟨h1,?_⟩
 congr 1
 apply ByteArray.ext
 show _=(strL _ _).toArray
 rw[h2]
theorem ofVL_ok (σ:Sg):∀{l:List Value}{as:List AV},ofVL l=some as→RelL σ as l
 |[],as,h=>by cases h;simp only[RelL]
 |v::l,as,h=>by
  change (match ofV1 v with
   |some a=>match ofVL l with
    |some l=>some (a::l)
    |none=>none
   |none=>none)=some as at h
  cases h1:ofV1 v with
  |none=>rw[h1]at h;cases h
  |some a=>
   rw[h1]at h
   cases h2:ofVL l with
   |none=>rw[h2]at h;cases h
   |some l'=>
    rw[h2]at h
    cases h
    simp only[RelL]
    exact⟨v,l,rfl,ofV1_ok h1 σ,ofVL_ok σ h2⟩
theorem ofV_ok {v:Value}{a:AV}(h:ofV v=some a)(σ:Sg):Rel σ a v:=by
 unfold ofV at h
 split at h
 ·rename_i cs
  cases hl:ofVL cs.toList with
  |none=>rw[hl]at h;cases h
  |some l=>
   rw[hl]at h
   cases h
   simp only[Rel]
   exact⟨cs.toList,by simp,ofVL_ok σ hl⟩
 ·rename_i cs
  cases hl:ofVL cs.toList with
  |none=>rw[hl]at h;cases h
  |some l=>
   rw[hl]at h
   cases h
   simp only[Rel]
   exact⟨cs.toList,by simp,ofVL_ok σ hl⟩
 ·rename_i t v
  cases hl:ofV1 v with
  |none=>rw[hl]at h;cases h
  |some l=>
   rw[hl]at h
   cases h
   simp only[Rel]
   exact⟨v,rfl,ofV1_ok hl σ⟩
 ·exact ofV1_ok h σ
def ofVS1 (v:Value):Option AV:=
 match v with
 |.string s=>some (.bs s)
 |v=>ofV1 v
def ofVLS:List Value→Option (List AV)
 |[]=>some []
 |v::l=>match ofVS1 v with
  |some a=>match ofVLS l with
   |some l=>some (a::l)
   |none=>none
  |none=>none
def ofVS (v:Value):Option AV:=
 match v with
 |.agg cs=>match ofVLS cs.toList with
  |some l=>some (.agg l)
  |none=>none
 |v=>ofVS1 v
theorem ofVS1_ok {v:Value}{a:AV}(h:ofVS1 v=some a)(σ:Sg):Rel σ a v:=by
 unfold ofVS1 at h
 split at h
 ·cases h;simp only[Rel]
 ·exact ofV1_ok h σ
theorem ofVLS_ok (σ:Sg):∀{l:List Value}{as:List AV},ofVLS l=some as→RelL σ as l
 |[],as,h=>by cases h;simp only[RelL]
 |v::l,as,h=>by
  simp only[ofVLS]at h
  cases h1:ofVS1 v with
  |none=>rw[h1]at h;cases h
  |some a=>
   rw[h1]at h
   cases h2:ofVLS l with
   |none=>rw[h2]at h;cases h
   |some l'=>
    rw[h2]at h
    cases h
    simp only[RelL]
    exact⟨v,l,rfl,ofVS1_ok h1 σ,ofVLS_ok σ h2⟩
theorem ofVS_ok {v:Value}{a:AV}(h:ofVS v=some a)(σ:Sg):Rel σ a v:=by
 unfold ofVS at h
 split at h
 ·rename_i cs
  cases hl:ofVLS cs.toList with
  |none=>rw[hl]at h;cases h
  |some l=>
   rw[hl]at h
   cases h
   simp only[Rel]
   exact⟨cs.toList,by simp,ofVLS_ok σ hl⟩
 ·exact ofVS1_ok h σ
def evO (G:Gl)(tm:Tr AV)(o:Operand):Option AV:=
 match o with
 |.tmp t=>tm.get t
 |.const v=>match G.sym with
  |false=>ofV v
  |true=>ofVS v
 |.global g=>match G.tab g with
  |some cs=>some (.ip cs)
  |none=>match Nat.ble (Nat.succ g) G.n with
   |true=>some (.ptr g 0)
   |false=>none
 |.func f=>some (.func f [] [])
def TmOk (σ:Sg)(tm:Tr AV)(a:Act):Prop:=∀t v,tm.get t=some v→Rel σ v (a.tmps.getD t undef)
theorem evO_ok {G:Gl}{σ:Sg}{h:Tr ABlk}{nx:Nat}{w:World}(hk:Ok G σ h nx w){tm:Tr AV}{a:Act}(ht:TmOk σ tm a){o:Operand}{v:AV}(he:evO G tm o=some v):Rel σ v (a.eval o):=by
 unfold evO at he
 cases o with
 |tmp t=>exact ht t v he
 |const c=>
  simp only at he
  split at he
  ·exact ofV_ok he σ
  ·exact ofVS_ok he σ
 |global g=>
  simp only at he
  split at he
  ·rename_i cs hcs
   cases he
   exact hk.gl g cs hcs
  ·split at he
   ·rename_i hle
    cases he
    simp only[Rel,Act.eval]
    exact⟨g,hk.glob g (Nat.le_of_ble_eq_true hle),rfl⟩
   ·cases he
 |func f=>
  cases he
  simp only[Rel,Act.eval]
  exact⟨[],[],rfl,by simp only[RelL],by simp only[RelL]⟩
def evOs (G:Gl)(tm:Tr AV)(l:List Operand):Option (List AV):=List.rec (motive:=fun _=>Option (List AV)) (some []) (fun o _ ih=>match evO G tm o with
 |some a=>match ih with
  |some l=>some (a::l)
  |none=>none
 |none=>none) l
theorem evOs_ok {G:Gl}{σ:Sg}{h:Tr ABlk}{nx:Nat}{w:World}(hk:Ok G σ h nx w){tm:Tr AV}{a:Act}(ht:TmOk σ tm a):∀{l:List Operand}{vs:List AV},evOs G tm l=some vs→RelL σ vs (l.map a.eval)
 |[],vs,h=>by cases h;simp only[RelL,List.map_nil]
 |o::l,vs,h=>by
  change (match evO G tm o with
   |some a=>match evOs G tm l with
    |some l=>some (a::l)
    |none=>none
   |none=>none)=some vs at h
  cases h1:evO G tm o with
  |none=>rw[h1]at h;cases h
  |some v=>
   rw[h1]at h
   cases h2:evOs G tm l with
   |none=>rw[h2]at h;cases h
   |some l'=>
    rw[h2]at h
    cases h
    simp only[RelL,List.map_cons]
    exact⟨_,_,rfl,evO_ok hk ht h1,evOs_ok hk ht h2⟩
def evOps2 (G:Gl)(tm:Tr AV)(l:List (Nat×Operand)):Option (List (Nat×AV)):=List.rec (motive:=fun _=>Option (List (Nat×AV))) (some []) (fun p _ ih=>match p with
 |(i,o)=>match evO G tm o with
  |some a=>match ih with
   |some l=>some ((i,a)::l)
   |none=>none
  |none=>none) l
theorem evOps2_ok {G:Gl}{σ:Sg}{h:Tr ABlk}{nx:Nat}{w:World}(hk:Ok G σ h nx w){tm:Tr AV}{a:Act}(ht:TmOk σ tm a):∀{l:List (Nat×Operand)}{vs:List (Nat×AV)},evOps2 G tm l=some vs→RelP σ vs (l.map fun p=>(p.1,a.eval p.2))
 |[],vs,h=>by cases h;simp only[RelP,List.map_nil]
 |(i,o)::l,vs,h=>by
  change (match evO G tm o with
   |some a=>match evOps2 G tm l with
    |some l=>some ((i,a)::l)
    |none=>none
   |none=>none)=some vs at h
  cases h1:evO G tm o with
  |none=>rw[h1]at h;cases h
  |some v=>
   rw[h1]at h
   cases h2:evOps2 G tm l with
   |none=>rw[h2]at h;cases h
   |some l'=>
    rw[h2]at h
    cases h
    simp only[RelP,List.map_cons]
    exact⟨_,_,rfl,evO_ok hk ht h1,evOps2_ok hk ht h2⟩
def evOo (G:Gl)(tm:Tr AV)(o:Option Operand):Option (Option AV):=
 match o with
 |none=>some none
 |some o=>match evO G tm o with
  |some v=>some (some v)
  |none=>none
theorem evOo_ok {G:Gl}{σ:Sg}{h:Tr ABlk}{nx:Nat}{w:World}(hk:Ok G σ h nx w){tm:Tr AV}{a:Act}(ht:TmOk σ tm a){o:Option Operand}{v:Option AV}(he:evOo G tm o=some v):RelO σ v (o.map a.eval):=by
 unfold evOo at he
 cases o with
 |none=>cases he;trivial
 |some o=>
  simp only at he
  cases h1:evO G tm o with
  |none=>rw[h1]at he;cases he
  |some v'=>
   rw[h1]at he
   cases he
   exact evO_ok hk ht h1
def bR {α:Type}(o:Option α)(k:α→R):R:=match o with |some a=>k a |none=>.fail
def elemT:TI→TypeId
 |.mk (.slice e) _ _ _ _=>e
 |_=>0
def keyT:TI→TypeId
 |.mk (.map k _) _ _ _ _=>k
 |_=>0
def valT:TI→TypeId
 |.mk (.map _ v) _ _ _ _=>v
 |_=>0
def convT (ts td:TI):TypeId:=
 match td with
 |.mk (.slice e) _ _ _ _=>e
 |_=>elemT ts
section
variable (c : Cx)
def pMove (x:Operand)(tm:Tr AV)(h:Tr ABlk) (nx:Nat):R:=bR (evO c.G tm x) fun v=>.val v h nx
def pPick (x a b:Operand)(tm:Tr AV)(h:Tr ABlk) (nx:Nat):R:=bR (evO c.G tm x) fun v=>match v with
  |.bool true=>pMove c a tm h nx
  |.bool false=>pMove c b tm h nx
  |_=>.fail
def pAlloc (e:TypeId)(_:Tr AV)(h:Tr ABlk) (nx:Nat):R:=bR (c.tt.get e) fun ti=>evAlloc ti e h nx
def pBox (e:TypeId)(x:Operand)(tm:Tr AV)(h:Tr ABlk) (nx:Nat):R:=bR (evO c.G tm x) fun v=>evBox e v h nx
def pBuild (t:TypeId)(ps:Array (Nat×Operand))(tm:Tr AV)(h:Tr ABlk) (nx:Nat):R:=bR (c.tt.get t) fun ti=>bR (evOps2 c.G tm ps.toList) fun l=>evBuild ti l h nx
def pBuildSlice (t:TypeId) (n:Nat)(ps:Array (Nat×Operand))(tm:Tr AV)(h:Tr ABlk) (nx:Nat):R:=bR (c.tt.get t) fun ti=>bR (evOps2 c.G tm ps.toList) fun l=>evBuildSlice ti (c.tt.get (elemT ti)) (elemT ti) n l h nx
def pLoad (t:TypeId)(x:Operand)(tm:Tr AV)(h:Tr ABlk) (nx:Nat):R:=bR (c.tt.get t) fun ti=>bR (evO c.G tm x) fun a=>evLoad ti a h nx
def pStore (t:TypeId)(x y:Operand)(tm:Tr AV)(h:Tr ABlk) (nx:Nat):R:=bR (c.tt.get t) fun ti=>bR (evO c.G tm x) fun a=>bR (evO c.G tm y) fun v=>evStore ti a v h nx
def pNil (x:Operand)(tm:Tr AV)(h:Tr ABlk) (nx:Nat):R:=bR (evO c.G tm x) fun v=>match v with
  |.ptr i o=>.val (.ptr i o) h nx
  |.func f a b=>.val (.func f a b) h nx
  |.ip cs=>.val (.ip cs) h nx
  |_=>.fail
def pBin (op:BinOp)(t:TypeId)(x y:Operand)(tm:Tr AV)(h:Tr ABlk) (nx:Nat):R:=bR (c.tt.get t) fun ti=>bR (evO c.G tm x) fun a=>bR (evO c.G tm y) fun b=>evBin ti (c.eq.get t) (isConst x || isConst y) op a b h nx
def pUn (op:UnOp)(x:Operand)(tm:Tr AV)(h:Tr ABlk) (nx:Nat):R:=bR (evO c.G tm x) fun a=>evUn op a h nx
def isU:TI→Bool
 |.mk .unsafePointer _ _ _ _=>true
 |_=>false
def evTo (ts:TI)(v:AV)(h:Tr ABlk) (nx:Nat):R:=
 match ts with
 |.mk (.pointer _) _ _ _ ((_,s,_)::_)=>match Nat.beq s 0 with
  |true=>.fail
  |false=>match v with
   |.ptr0=>.val .ptr0 h nx
   |.ptr i o=>match h.get i with
    |some (.cells _ n _ _ _)=>match Nat.ble (Nat.succ o) n with
     |true=>.val (.ptr i o) h nx
     |false=>.fail
    |_=>.fail
   |_=>.fail
 |_=>.fail
def evBack (d:TypeId)(td:TI)(v:AV)(h:Tr ABlk) (nx:Nat):R:=
 match td with
 |.mk (.pointer u) _ _ _ (_::_)=>match v with
  |.ptr0=>.val .ptr0 h nx
  |.ptr i o=>match h.get i with
   |some (.cells e n _ false _)=>match c.tt.get e with
    |some (.mk _ se _ _ _)=>match c.lies e (Nat.div n se) o u with
     |true=>.val (.ptr i o) h nx
     |false=>.fail
    |none=>.fail
   |_=>.fail
  |_=>.fail
 |_=>.fail
def pConv1 (s d:TypeId)(x:Operand)(tm:Tr AV)(h:Tr ABlk) (nx:Nat):R:=bR (c.tt.get s) fun ts=>bR (c.tt.get d) fun td=>bR (evO c.G tm x) fun a=>match c.G.sym with
 |false=>evConv ts td (c.tt.get (convT ts td)) (convT ts td) a h nx
 |true=>evConvS ts td (c.tt.get (convT ts td)) (convT ts td) a h nx
def pConv (s d:TypeId)(x:Operand)(tm:Tr AV)(h:Tr ABlk) (nx:Nat):R:=bR (c.tt.get s) fun ts=>bR (c.tt.get d) fun td=>match isU td,isU ts with
 |false,false=>pConv1 c s d x tm h nx
 |true,false=>bR (evO c.G tm x) fun a=>evTo ts a h nx
 |false,true=>bR (evO c.G tm x) fun a=>evBack c d td a h nx
 |true,true=>.fail
def pIface (t:TypeId)(x:Operand)(tm:Tr AV)(h:Tr ABlk) (nx:Nat):R:=bR (c.tt.get t) fun ti=>bR (evO c.G tm x) fun a=>evIface ti t a h nx
def pFunc (fn:Fn)(first cap:Array Operand)(tm:Tr AV)(h:Tr ABlk) (nx:Nat):R:=match fn with
  |.func f=>bR (evOs c.G tm first.toList) fun a=>bR (evOs c.G tm cap.toList) fun b=>.val (.func f a b) h nx
  |_=>.fail
def pMakeMap (r:Option Operand)(_:Tr AV)(h:Tr ABlk) (nx:Nat):R:=match r with
  |none=>evMakeMap h nx
  |some _=>.fail
def pMakeSlice (t:TypeId)(l cp:Operand)(tm:Tr AV)(h:Tr ABlk) (nx:Nat):R:=bR (c.tt.get t) fun ti=>bR (evO c.G tm l) fun a=>bR (evO c.G tm cp) fun b=>evMakeSlice ti (c.tt.get (elemT ti)) (elemT ti) a b h nx
def pSlice (t:TypeId)(x:Operand)(lo hi mx:Option Operand)(tm:Tr AV)(h:Tr ABlk) (nx:Nat):R:=bR (c.tt.get t) fun ti=>bR (evO c.G tm x) fun a=>bR (evOo c.G tm lo) fun lo=>bR (evOo c.G tm hi) fun hi=>bR (evOo c.G tm mx) fun mx=>evSlice ti a lo hi mx h nx
def pFieldAddr (t:TypeId)(x:Operand) (k:Nat)(tm:Tr AV)(h:Tr ABlk) (nx:Nat):R:=bR (c.tt.get t) fun ti=>bR (evO c.G tm x) fun a=>evFieldAddr ti a k h nx
def pField (t:TypeId)(x:Operand) (k:Nat)(tm:Tr AV)(h:Tr ABlk) (nx:Nat):R:=bR (c.tt.get t) fun ti=>bR (evO c.G tm x) fun a=>evField ti a k h nx
def pIndexAddr (t:TypeId)(x i:Operand)(tm:Tr AV)(h:Tr ABlk) (nx:Nat):R:=bR (c.tt.get t) fun ti=>bR (evO c.G tm x) fun a=>bR (evO c.G tm i) fun b=>evIndexAddr ti a b h nx
def pIndex (t:TypeId)(x i:Operand)(tm:Tr AV)(h:Tr ABlk) (nx:Nat):R:=bR (c.tt.get t) fun ti=>bR (evO c.G tm x) fun a=>bR (evO c.G tm i) fun b=>evIndex ti a b h nx
def pLookup (t:TypeId)(m k:Operand)(ok:Bool)(tm:Tr AV)(h:Tr ABlk) (nx:Nat):R:=bR (c.tt.get t) fun ti=>bR (evO c.G tm m) fun a=>bR (evO c.G tm k) fun b=>evLookup ti (c.tt.get (keyT ti)) (c.tt.get (valT ti)) (keyT ti) (valT ti) ok a b h nx
def pMapSet (t:TypeId)(m k v:Operand)(tm:Tr AV)(h:Tr ABlk) (nx:Nat):R:=bR (c.tt.get t) fun ti=>bR (evO c.G tm m) fun a=>bR (evO c.G tm k) fun b=>bR (evO c.G tm v) fun d=>evMapSet ti (c.tt.get (keyT ti)) (keyT ti) a b d h nx
def pTA (x:Operand)(ta:TypeId)(ok:Bool)(tm:Tr AV)(h:Tr ABlk) (nx:Nat):R:=bR (c.tt.get ta) fun ti=>bR (evO c.G tm x) fun a=>evTA ti ta ok a h nx
def pExtract (x:Operand) (k:Nat)(tm:Tr AV)(h:Tr ABlk) (nx:Nat):R:=bR (evO c.G tm x) fun a=>evExtract a k h nx
def bLen (argTypes:Array TypeId)(l:List AV)(h:Tr ABlk) (nx:Nat):R:=bR argTypes.toList.head? fun t=>bR (c.tt.get t) fun ti=>match l with
   |[a]=>evLen ti a h nx
   |_=>.fail
def bCap (argTypes:Array TypeId)(l:List AV)(h:Tr ABlk) (nx:Nat):R:=bR argTypes.toList.head? fun t=>bR (c.tt.get t) fun ti=>match l with
   |[a]=>evCap ti a h nx
   |_=>.fail
def bAppend (argTypes:Array TypeId)(l:List AV)(h:Tr ABlk) (nx:Nat):R:=match argTypes.toList with
   |[t,u]=>bR (c.tt.get t) fun ti=>bR (c.tt.get u) fun tu=>match l with
    |[a,b]=>evAppend ti tu (c.tt.get (elemT ti)) (elemT ti) a b h nx
    |_=>.fail
   |_=>.fail
def bCopy (argTypes:Array TypeId)(l:List AV)(h:Tr ABlk) (nx:Nat):R:=bR argTypes.toList.head? fun t=>bR (c.tt.get t) fun ti=>match l with
   |[a,b]=>evCopy ti (c.tt.get (elemT ti)) (elemT ti) a b h nx
   |_=>.fail
def bSD (l:List AV)(h:Tr ABlk) (nx:Nat):R:=match l with
   |[a]=>evSliceData a h nx
   |_=>.fail
def bUS (argTypes:Array TypeId)(l:List AV)(h:Tr ABlk) (nx:Nat):R:=match argTypes.toList with
   |[t,_]=>bR (c.tt.get t) fun ti=>match l with
    |[a,b]=>evUnsafeStr ti a b h nx
    |_=>.fail
   |_=>.fail
def bOf (b:Builtin)(argTypes:Array TypeId):List AV→Tr ABlk→Nat→R:=match b with
  |.len=>bLen c argTypes
  |.cap=>bCap c argTypes
  |.append=>bAppend c argTypes
  |.copy=>bCopy c argTypes
  |.max=>evMM true
  |.min=>evMM false
  |.unsafeSliceData=>bSD
  |.unsafeString=>bUS c argTypes
  |_=>fun _ _ _=>.fail
def pFail (_:Tr AV)(_:Tr ABlk) (_:Nat):R:=.fail
def pBuiltin (b:Builtin)(args:Array Operand)(argTypes:Array TypeId)(tm:Tr AV)(h:Tr ABlk) (nx:Nat):R:=bR (evOs c.G tm args.toList) fun l=>bOf c b argTypes l h nx
def pCall (cl:Call):Tr AV→Tr ABlk→Nat→R:=match cl.callee with
  |.builtin b=>pBuiltin c b cl.args cl.argTypes
  |_=>pFail
def evPlain (op:Op):Tr AV→Tr ABlk→Nat→R:=
 match op with
 |.move x=>pMove c x
 |.assign x=>pMove c x
 |.pick x a b=>pPick c x a b
 |.alloc e=>pAlloc c e
 |.box e x=>pBox c e x
 |.build t ps=>pBuild c t ps
 |.buildSlice t n ps=>pBuildSlice c t n ps
 |.load t x=>pLoad c t x
 |.store t x y=>pStore c t x y
 |.nilCheck x=>pNil c x
 |.binOp op t x y _=>pBin c op t x y
 |.unOp op _ x=>pUn c op x
 |.convert s d x=>pConv c s d x
 |.makeInterface t x=>pIface c t x
 |.makeFunc fn first cap=>pFunc c fn first cap
 |.makeMap _ r=>pMakeMap r
 |.makeSlice t l cp=>pMakeSlice c t l cp
 |.slice t x lo hi mx=>pSlice c t x lo hi mx
 |.fieldAddr t x k=>pFieldAddr c t x k
 |.field t x k=>pField c t x k
 |.indexAddr t x i=>pIndexAddr c t x i
 |.index t x i=>pIndex c t x i
 |.lookup t m k ok=>pLookup c t m k ok
 |.mapUpdate t m k v=>pMapSet c t m k v
 |.insert t m k v=>pMapSet c t m k v
 |.typeAssert x _ ta ok=>pTA c x ta ok
 |.extract x k=>pExtract c x k
 |.call cl=>pCall c cl
 |_=>pFail
end
end
end Go.Ev
namespace Go.Ev
variable {P : Program} {σ τ υ : Sg} {h g f : Tr ABlk} {nx ny nz : Nat} {w x y : World}
def RO (P:Program)(G:Gl)(σ:Sg)(h:Tr ABlk) (nx:Nat)(w:World)(m:Sem Next):R→Prop
 |.val v g ny=>∃V τ x,m.run P w=.ok (.value V) x∧Rel τ v V∧Post G σ h nx w τ g ny x
 |.unit g ny=>∃τ x,m.run P w=.ok .skip x∧Post G σ h nx w τ g ny x
 |.fail=>True
theorem RO.ofV {G:Gl}{m:Sem Value}{r:R}(hm:RV P G σ h nx w m r):RO P G σ h nx w (do pure (.value (← m))) r:=by
 cases r with
 |fail=>trivial
 |unit _ _=>exact hm.elim
 |val v g ny=>
  obtain⟨V,τ,x,h1,h2,h3⟩:=hm
  exact⟨V,τ,x,by simp[h1],h2,h3⟩
theorem RO.ofU {G:Gl}{m:Sem Unit}{r:R}(hm:RU P G σ h nx w m r):RO P G σ h nx w (do m;pure .skip) r:=by
 cases r with
 |fail=>trivial
 |val _ _ _=>exact hm.elim
 |unit g ny=>
  obtain⟨τ,x,h1,h2⟩:=hm
  exact⟨τ,x,by simp[h1],h2⟩
theorem RO.pure {G:Gl}(hk:Ok G σ h nx w){m:Sem Next}{V:Value}{v:AV}(hm:m.run P w=.ok (.value V) w)(hr:Rel σ v V):RO P G σ h nx w m (.val v h nx):=
 ⟨V,σ,w,hm,hr,.refl hk⟩
theorem bR_ok {G:Gl}{α:Type}{m:Sem Next}{o:Option α}{k:α→R}(hh:∀v,o=some v→RO P G σ h nx w m (k v)):RO P G σ h nx w m (bR o k):=by
 cases o with
 |none=>trivial
 |some v=>exact hh v rfl
variable {c : Cx} {tm : Tr AV} {a : Act}
theorem run_shape {G:Gl}{i n esz:Nat}{e:TypeId}{cc:Tr AV}{opn:Bool}(hk:Ok G σ h nx w)(hg:h.get i=some (.cells e n cc opn esz)){b:Nat}(hb:σ.blk i=some b):
  ∃m,n≤m∧(opn=false→m=n)∧w.shape? b=some (e,m):=by
 obtain⟨b',C,fr,hb',hheap,_,_,hsz⟩:=hk.cells hg
 rw[hb]at hb'
 cases hb'
 refine⟨C.size,by split at hsz <;> omega,fun e1=>by subst e1;simpa using hsz,by simp[World.shape?,hheap]⟩
theorem run_seenAt {b o m:Nat}{e:TypeId}(hs:w.shape? b=some (e,m)):(Conv.seenAt ⟨b,o,none⟩).run P w=.ok ⟨b,o,none⟩ w:=by
 simp[Conv.seenAt,viewAt,shape,Sem.run,hs]
theorem evTo_ok {G:Gl}(hk:Ok G σ h nx w){s d:TypeId}{ts td:TI}(hts:TIok P s ts)(htd:TIok P d td)(hu:isU td=true){v:AV}{V:Value}(hv:Rel σ v V):RV P G σ h nx w (convert s d V) (evTo ts v h nx):=by
 cases td with
 |mk dd d1 d2 d3 d4=>
 cases dd <;> try (cases hu;done)
 obtain⟨hud,_⟩:=htd
 unfold evTo
 split
 ·rename_i t' q1 q2 q3 o0 s0 b0 fs
  obtain⟨hus,inf,hi,hs1,hby,hzz,hf,hfl,hel⟩:=hts
  have htf:=hel t' (.inr (.inr rfl)) o0 s0 b0 rfl
  obtain⟨⟨it,hit,hits⟩,_⟩:=htf
  cases hs0:Nat.beq s0 0 with
  |true=>trivial
  |false=>
   have hs0':=beq_false hs0
   cases v <;> try trivial
   ·simp only[Rel]at hv
    subst hv
    refine SV.pure hk (V:=.pointer none) ?_ (by simp only[Rel])
    simp[convert,run_underlying hus,run_underlying hud,Conv.unsafePointer]
   ·rename_i i o
    have hv':=hv
    simp only[Rel]at hv
    obtain⟨b,hb,e⟩:=hv
    subst e
    simp only
    split
    ·rename_i e n cc opn esz hg
     cases hle:Nat.ble (Nat.succ o) n with
     |false=>trivial
     |true=>
      have hlt:o<n:=Nat.le_of_ble_eq_true hle
      obtain⟨m,hm,_,hsh⟩:=run_shape hk hg hb
      have hno:¬m≤o:=by omega
      refine SV.pure hk (V:=.pointer (some ⟨b,o,none⟩)) ?_ hv'
      simp[convert,run_underlying hus,run_underlying hud,Conv.unsafePointer,run_seenAt hsh,cellsIn,shape,Sem.run,hsh,run_size hit,hits,hs0',hno]
    ·trivial
 ·trivial
theorem evBack_ok (hc:CxOk P c)(hk:Ok c.G σ h nx w){s d:TypeId}{ts td:TI}(hts:TIok P s ts)(htd:TIok P d td)(hu:isU ts=true){v:AV}{V:Value}(hv:Rel σ v V):RV P c.G σ h nx w (convert s d V) (evBack c d td v h nx):=by
 cases ts with
 |mk ds d1 d2 d3 d4=>
 cases ds <;> try (cases hu;done)
 obtain⟨hus,_⟩:=hts
 unfold evBack
 split
 ·rename_i u q1 q2 q3 p0 q4
  obtain⟨o0,su,b0⟩:=p0
  obtain⟨hud,infd,_,_,_,_,_,_,hel⟩:=htd
  have htf:=hel u (.inr (.inr rfl)) o0 su b0 rfl
  obtain⟨⟨iu,hiu,hius⟩,_⟩:=htf
  cases v <;> try trivial
  ·simp only[Rel]at hv
   subst hv
   refine SV.pure hk (V:=.pointer none) ?_ (by simp only[Rel])
   simp[convert,run_underlying hus,run_underlying hud,Conv.unsafePointer]
  ·rename_i i o
   have hv':=hv
   simp only[Rel]at hv
   obtain⟨b,hb,e⟩:=hv
   subst e
   simp only
   split
   ·rename_i e n cc esz hg
    split
    ·rename_i de se b1 b2 b3 hte
     obtain⟨_,ie,hie,hse,_⟩:=hc.tt e _ hte
     cases hl:c.lies e (Nat.div n se) o u with
     |false=>trivial
     |true=>
      have hlies:=hc.lies e (Nat.div n se) o u hl
      obtain⟨m,_,hm,hsh⟩:=run_shape hk hg hb
      have hm':=hm rfl
      subst hm'
      have hco:P.cellsOf e=se:=by simp[Program.cellsOf,hie,hse]
      have hva:(variablesAt ⟨b,o,none⟩ u 1).run P w=.ok true w:=by
       have hlies':liesAt P P.depth e (m / se) o u 1=true:=hlies
       simp[variablesAt,shape,Sem.run,hsh,hco,hlies']
      refine SV.pure hk (V:=.pointer (some ⟨b,o,none⟩)) ?_ hv'
      simp[convert,run_underlying hus,run_underlying hud,Conv.unsafePointer,run_seenAt hsh,run_size hiu,hva]
    ·trivial
   ·trivial
 ·trivial
set_option maxHeartbeats 4000000 in
theorem evPlain_ok (hc:CxOk P c)(hk:Ok c.G σ h nx w)(ht:TmOk σ tm a)(o:Oper):RO P c.G σ h nx w (execOp a.eval o) (evPlain c o.op tm h nx):=by
 obtain⟨dst,op,type,pos,after,guard⟩:=o
 have he:∀{x v},evO c.G tm x=some v→Rel σ v (a.eval x):=fun e=>evO_ok hk ht e
 have hT:∀(t:TypeId) (ti:TI),c.tt.get t=some ti→TIok P t ti:=hc.tt
 show RO P c.G σ h nx w (execOp a.eval _) (evPlain c op tm h nx)
 unfold evPlain
 cases op <;> try trivial
 ·exact bR_ok fun v e=>RO.pure hk rfl (he e)
 ·exact bR_ok fun v e=>RO.pure hk rfl (he e)
 ·rename_i x b d
  refine bR_ok fun v e=>?_
  have hv:=he e
  split
  ·simp only[Rel]at hv
   exact bR_ok fun v e=>RO.pure hk (by simp[execOp,hv,asBool]) (he e)
  ·simp only[Rel]at hv
   exact bR_ok fun v e=>RO.pure hk (by simp[execOp,hv,asBool]) (he e)
  ·trivial
 ·exact bR_ok fun ti e=>RO.ofV (evAlloc_ok hk _ (hT _ _ e))
 ·exact bR_ok fun v e=>RO.ofV (evBox_ok hk _ (he e))
 ·refine bR_ok fun ti e=>bR_ok fun l e2=>RO.ofV (evBuild_ok hk _ (hT _ _ e) ?_)
  have:=evOps2_ok hk ht e2
  simpa using this
 ·refine bR_ok fun ti e=>bR_ok fun l e2=>RO.ofV (evBuildSlice_ok hk _ (hT _ _ e) (hT _) _ ?_)
  have:=evOps2_ok hk ht e2
  simpa using this
 ·exact bR_ok fun ti e=>bR_ok fun m e1=>bR_ok fun k e2=>bR_ok fun v e3=>RO.ofU (evMapSet_ok hk _ (hT _ _ e) (hT _) (he e1) (he e2) (he e3))
 ·exact bR_ok fun ti e=>bR_ok fun v e1=>RO.ofV (evLoad_ok hk _ (hT _ _ e) (he e1))
 ·exact bR_ok fun ti e=>bR_ok fun v e1=>bR_ok fun u e2=>RO.ofU (evStore_ok hk _ (hT _ _ e) (he e1) (he e2))
 ·refine bR_ok fun v e=>?_
  have hv:=he e
  split
  ·have hv':=hv
   simp only[Rel]at hv
   obtain⟨b,_,e1⟩:=hv
   exact RO.pure hk (by simp[execOp,e1]) hv'
  ·have hv':=hv
   simp only[Rel]at hv
   obtain⟨A,C,e1,_⟩:=hv
   exact RO.pure hk (by simp[execOp,e1]) hv'
  ·have hv':=hv
   simp only[Rel]at hv
   obtain⟨b,_,_,_,e1,_⟩:=hv
   exact RO.pure hk (by simp[execOp,e1]) hv'
  ·trivial
 ·exact bR_ok fun ti e=>bR_ok fun v e1=>bR_ok fun u e2=>RO.ofV (evBin_ok hk _ (hT _ _ e) (hc.eq _) _ (he e1) (he e2) _ _)
 ·exact bR_ok fun v e=>RO.ofV (evUn_ok hk _ (he e))
 ·refine bR_ok fun ts e=>bR_ok fun td e1=>?_
  split
  ·refine bR_ok fun ts' e'=>bR_ok fun td' e1'=>bR_ok fun v e2=>?_
   split
   ·exact RO.ofV (evConv_ok hk (hT _ _ e') (hT _ _ e1') (hT _) (he e2))
   ·exact RO.ofV (evConvS_ok hk (hT _ _ e') (hT _ _ e1') (hT _) (he e2))
  ·rename_i hu1 hu2
   exact bR_ok fun v e2=>RO.ofV (evTo_ok hk (hT _ _ e) (hT _ _ e1) hu1 (he e2))
  ·rename_i hu1 hu2
   exact bR_ok fun v e2=>RO.ofV (evBack_ok hc hk (hT _ _ e) (hT _ _ e1) hu2 (he e2))
  ·trivial
 ·exact bR_ok fun ti e=>bR_ok fun v e1=>RO.ofV (evIface_ok hk _ (hT _ _ e) (he e1))
 ·rename_i fn first cap
  cases fn <;> try trivial
  refine bR_ok fun l e=>bR_ok fun l2 e2=>RO.pure hk rfl ?_
  simp only[Rel]
  exact⟨first.toList.map a.eval,cap.toList.map a.eval,by
   have arrE:∀(q:Array Operand),q.map a.eval=(q.toList.map a.eval).toArray:=fun q=>by apply Array.ext';simp
   rw[← arrE,← arrE],evOs_ok hk ht e,evOs_ok hk ht e2⟩
 ·rename_i t r
  cases r with
  |some x=>trivial
  |none=>exact RO.ofV (evMakeMap_ok hk t)
 ·exact bR_ok fun ti e=>bR_ok fun v e1=>bR_ok fun u e2=>RO.ofV (evMakeSlice_ok hk _ (hT _ _ e) (hT _) (he e1) (he e2))
 ·exact bR_ok fun ti e=>bR_ok fun v e1=>bR_ok fun lo e2=>bR_ok fun hi e3=>bR_ok fun mx e4=>RO.ofV (evSlice_ok hk _ (hT _ _ e) (he e1) (evOo_ok hk ht e2) (evOo_ok hk ht e3) (evOo_ok hk ht e4))
 ·exact bR_ok fun ti e=>bR_ok fun v e1=>RO.ofV (evFieldAddr_ok hk _ (hT _ _ e) (he e1) _)
 ·exact bR_ok fun ti e=>bR_ok fun v e1=>RO.ofV (evField_ok hk _ (hT _ _ e) (he e1) _)
 ·exact bR_ok fun ti e=>bR_ok fun v e1=>bR_ok fun u e2=>RO.ofV (evIndexAddr_ok hk _ (hT _ _ e) (he e1) (he e2))
 ·exact bR_ok fun ti e=>bR_ok fun v e1=>bR_ok fun u e2=>RO.ofV (evIndex_ok hk _ (hT _ _ e) (he e1) (he e2))
 ·exact bR_ok fun ti e=>bR_ok fun v e1=>bR_ok fun u e2=>RO.ofV (evLookup_ok hk _ (hT _ _ e) (hT _) (hT _) _ (he e1) (he e2))
 ·exact bR_ok fun ti e=>bR_ok fun m e1=>bR_ok fun k e2=>bR_ok fun v e3=>RO.ofU (evMapSet_ok hk _ (hT _ _ e) (hT _) (he e1) (he e2) (he e3))
 ·exact bR_ok fun ti e=>bR_ok fun v e1=>RO.ofV (evTA_ok hk _ _ (hT _ _ e) _ (he e1))
 ·exact bR_ok fun v e=>RO.ofV (evExtract_ok hk (he e) _)
 ·rename_i cl
  obtain⟨callee,args,argTypes⟩:=cl
  cases callee <;> try trivial
  rename_i b
  show RO P c.G σ h nx w _ (pBuiltin c b args argTypes tm h nx)
  refine bR_ok fun l e=>?_
  have hl:=evOs_ok hk ht e
  have hx:∀r,RO P c.G σ h nx w (builtin b argTypes type (args.map fun |.const _=>true |_=>false) (args.map a.eval)) r→RO P c.G σ h nx w (execOp a.eval ⟨dst,.call ⟨.builtin b,args,argTypes⟩,type,pos,after,guard⟩) r:=fun r hr=>by
   have e1:execOp a.eval ⟨dst,.call ⟨.builtin b,args,argTypes⟩,type,pos,after,guard⟩=builtin b argTypes type (args.map fun |.const _=>true |_=>false) (args.map a.eval):=by
    rfl
   rw[e1]
   exact hr
  have ht0:∀t,argTypes.toList.head?=some t→argTypes[0]?=some t:=fun t e=>by
   rw[← Array.getElem?_toList,← List.head?_eq_getElem?]
   exact e
  have one:∀{A:AV},RelL σ [A] (args.toList.map a.eval)→∃V,args.map a.eval=#[V]∧Rel σ A V:=fun {A} hr=>by
   simp only[RelL]at hr
   obtain⟨V,L,e1,e2,e3⟩:=hr
   subst e3
   refine⟨V,?_,e2⟩
   apply Array.ext'
   simpa using e1
  have two:∀{A B:AV},RelL σ [A,B] (args.toList.map a.eval)→∃V U,args.map a.eval=#[V,U]∧Rel σ A V∧Rel σ B U:=fun {A B} hr=>by
   simp only[RelL]at hr
   obtain⟨V,L,e1,e2,U,L2,e3,e4,e5⟩:=hr
   subst e5
   subst e3
   refine⟨V,U,?_,e2,e4⟩
   apply Array.ext'
   simpa using e1
  have arr:args.map a.eval=(args.toList.map a.eval).toArray:=by
   apply Array.ext'
   simp
  cases b <;> try trivial
  ·
   show RO P c.G σ h nx w _ (bAppend c argTypes l h nx)
   unfold bAppend
   split
   ·rename_i t u hts
    refine bR_ok fun ti e1=>bR_ok fun tu e2=>?_
    split
    ·rename_i A B
     obtain⟨V,U,e3,r1,r2⟩:=two hl
     have hta:argTypes=#[t,u]:=by apply Array.ext';simpa using hts
     refine hx _ (RO.ofV ?_)
     rw[e3,hta]
     exact evAppend_ok hk t u type (hT _ _ e1) (hT _ _ e2) (hT _) r1 r2
    ·trivial
   ·trivial
  ·
   refine bR_ok fun t e1=>bR_ok fun ti e2=>?_
   split
   ·obtain⟨V,e3,r1⟩:=one hl
    refine hx _ (RO.ofV ?_)
    rw[e3]
    exact evCap_ok hk (hT _ _ e2) r1 argTypes (ht0 _ e1) type
   ·trivial
  ·
   refine bR_ok fun t e1=>bR_ok fun ti e2=>?_
   split
   ·obtain⟨V,U,e3,r1,r2⟩:=two hl
    refine hx _ (RO.ofV ?_)
    rw[e3]
    exact evCopy_ok hk t (hT _ _ e2) (hT _) argTypes (ht0 _ e1) type r1 r2
   ·trivial
  ·
   refine bR_ok fun t e1=>bR_ok fun ti e2=>?_
   split
   ·obtain⟨V,e3,r1⟩:=one hl
    refine hx _ (RO.ofV ?_)
    rw[e3]
    exact evLen_ok hk (hT _ _ e2) r1 argTypes (ht0 _ e1) type
   ·trivial
  ·refine hx _ (RO.ofV ?_)
   rw[arr]
   exact evMM_ok hk true argTypes type hl
  ·refine hx _ (RO.ofV ?_)
   rw[arr]
   exact evMM_ok hk false argTypes type hl
  ·
   show RO P c.G σ h nx w _ (bSD l h nx)
   unfold bSD
   split
   ·obtain⟨V,e3,r1⟩:=one hl
    refine hx _ (RO.ofV ?_)
    rw[e3]
    exact evSliceData_ok hk argTypes type r1
   ·trivial
  ·
   show RO P c.G σ h nx w _ (bUS c argTypes l h nx)
   unfold bUS
   split
   ·rename_i t u hts
    refine bR_ok fun ti e1=>?_
    split
    ·obtain⟨V,U,e3,r1,r2⟩:=two hl
     have hta:argTypes=#[t,u]:=by apply Array.ext';simpa using hts
     refine hx _ (RO.ofV ?_)
     rw[e3,hta]
     exact evUnsafeStr_ok hk (hT _ _ e1) u type r1 r2
    ·trivial
   ·trivial
end Go.Ev
namespace Go.Ev
noncomputable section
variable {P : Program} {G : Gl} {c : Cx} {σ τ υ : Sg} {h g f : Tr ABlk} {nx ny nz : Nat} {w x y : World} {tm : Tr AV} {a : Act}
def toL (c:Tr AV) (n:Nat):List AV:=(List.range n).map fun k=>(c.get k).getD (.tup [])
def bx (t:TypeId)(l:List AV)(opn:Bool) (esz:Nat):ABlk:=.cells t l.length (putN l .nil 0) opn esz
theorem get_putN0 (l:List AV) (k:Nat):(putN l .nil 0).get k=l[k]?:=by
 rw[get_putN]
 split
 ·simp
 ·rw[List.getElem?_eq_none (by omega)];rfl
theorem toL_putN (l:List AV):toL (putN l .nil 0) l.length=l:=by
 apply List.ext_getElem?
 intro k
 simp only[toL,List.getElem?_map,get_putN0]
 by_cases hk:k<l.length
 ·simp[hk]
 ·simp[Nat.not_lt.1 hk]
theorem toL_length (c:Tr AV) (n:Nat):(toL c n).length=n:=by simp[toL]
def BE:ABlk→ABlk→Prop
 |.cells e n c opn esz,B=>∃c',B=.cells e n c' opn esz∧∀k,k<n→c'.get k=c.get k
 |A,B=>A=B
theorem BE.refl (A:ABlk):BE A A:=by cases A <;> first |rfl |exact⟨_,rfl,fun _ _=>rfl⟩
theorem RelB.be {i:Nat}{A B:ABlk}{o:Obj}(hb:BE A B)(hr:RelB σ i A o):RelB σ i B o:=by
 cases A <;> try (cases hb;exact hr)
 rename_i e n c opn esz
 obtain⟨c',e1,h1⟩:=hb
 subst e1
 simp only[RelB]at hr ⊢
 obtain⟨C,fr,e2,h2,h3,h4⟩:=hr
 refine⟨C,fr,e2,fun k hk=>?_,h3,h4⟩
 obtain⟨v,V,q1,q2,q3⟩:=h2 k hk
 exact⟨v,V,by rw[h1 k hk];exact q1,q2,q3⟩
def HE (h g:Tr ABlk):Prop:=∀i B,g.get i=some B→∃A,h.get i=some A∧BE A B
theorem HE.refl (h:Tr ABlk):HE h h:=fun _ B e=>⟨B,e,.refl B⟩
theorem Ok.he (hk:Ok G σ h nx w)(he:HE h g):Ok G σ g nx w:=by
 refine⟨hk.glob,hk.le,hk.fresh,fun i j b B B' h1 h2 h3 h4=>?_,fun i B h1=>?_,fun b C hb=>⟨(hk.imm b C hb).1,fun i B h1=>?_⟩,hk.gl⟩
 ·obtain⟨A,a1,_⟩:=he i B h1
  obtain⟨A',a2,_⟩:=he j B' h2
  exact hk.inj i j b A A' a1 a2 h3 h4
 ·obtain⟨A,a1,a2⟩:=he i B h1
  obtain⟨b,o,q1,q2,q3⟩:=hk.blk i A a1
  exact⟨b,o,q1,q2,q3.be a2⟩
 ·obtain⟨A,a1,a2⟩:=he i B h1
  exact(hk.imm b C hb).2 i A a1
theorem Post.he (p:Post G σ h nx w τ g ny x)(he:HE g f):Post G σ h nx w τ f ny x:=by
 refine⟨p.ok.he he,p.le,⟨p.fr.os,p.fr.tape,p.fr.output,p.fr.size,p.fr.keep,fun i B b h1 h2=>?_,p.fr.imm⟩,p.nx⟩
 obtain⟨A,a1,_⟩:=he i B h1
 exact p.fr.own i A b a1 h2
theorem HE.put {h:Tr ABlk}{i:Nat}{A B:ABlk}(hb:BE A B):HE (h.put i (some A)) (h.put i (some B)):=by
 intro j B' hj
 rw[Tr.get_put]at hj ⊢
 by_cases e:j=i
 ·rw[if_pos e]at hj ⊢;cases hj;exact⟨A,rfl,hb⟩
 ·rw[if_neg e]at hj ⊢;exact⟨B',hj,.refl B'⟩
theorem Post.ofHe (hk:Ok G σ h nx w)(he:HE h g):Post G σ h nx w σ g nx w:=(Post.refl hk).he he
def evStoreS (ti:TI)(a v:AV)(h:Tr ABlk) (nx:Nat):R:=
 match ti with
 |.mk _ size _ _ _=>
  match a with
  |.ptr i o=>
   match h.get i with
   |some (.cells e n c opn esz)=>
    match allOne v.cells && Nat.beq v.cells.length size && Nat.ble (Nat.add o size) n with
    |true=>.unit (h.put i (some (bx e (segL (toL c n) o v.cells) opn esz))) nx
    |false=>.fail
   |_=>.fail
  |_=>.fail
theorem evStoreS_ok (hk:Ok G σ h nx w)(t:TypeId){ti:TI}(ht:TIok P t ti){a v:AV}{A V:Value}(ha:Rel σ a A)(hv:Rel σ v V):RU P G σ h nx w (Instr.storeAt t A V) (evStoreS ti a v h nx):=by
 have h0:=evStore_ok hk t ht ha hv
 cases ti with
 |mk d size bytes zero fs=>
 unfold evStoreS
 cases a <;> try trivial
 rename_i i o
 simp only
 split
 ·rename_i e n c opn esz hg
  split
  ·rename_i hb
   simp only[Bool.and_eq_true]at hb
   obtain⟨⟨b1,b2⟩,b3⟩:=hb
   unfold evStore at h0
   simp only[hg,b1,b2,b3,putNK_eq,Tr.putK_eq]at h0
   obtain⟨τ,x,q1,q2⟩:=h0
   refine⟨τ,x,q1,q2.he (HE.put ?_)⟩
   have e2:=Nat.eq_of_beq_eq_true b2
   have e3:o+size≤n:=Nat.le_of_ble_eq_true b3
   have hlen:(segL (toL c n) o v.cells).length=n:=by rw[segL_length (by rw[toL_length];omega),toL_length]
   refine⟨putN (segL (toL c n) o v.cells) .nil 0,by rw[bx,hlen],fun k hk'=>?_⟩
   obtain⟨b',C,fr,_,_,hcell,_,_⟩:=hk.cells hg
   rw[get_putN0,get_segL (by rw[toL_length];omega),get_putN]
   split
   ·rfl
   ·obtain⟨u,_,hu,_⟩:=hcell k hk'
    rw[hu]
    simp[toL,hk',hu]
  ·trivial
 ·trivial
def zapS (du:TypeDesc) (e et size bytes:Nat)(s x:AV)(h:Tr ABlk) (nx:Nat):R:=match du with
 |.int _=>match s with
  |.sl0=>match x with
   |.int .i64 z=>match z with
    |.ofNat n=>match Nat.beq e et && Nat.ble bytes 65536 && Nat.ble 1 n && Nat.ble n 16777216 && Nat.ble 1 size with
     |true=>.val (.sl nx 0 n 0 true) (h.put nx (some (bx e [] true size))) (nx+1)
     |false=>.fail
    |_=>.fail
   |_=>.fail
  |_=>.fail
 |_=>.fail
def evAppendS (ti tu:TI)(te:Option TI)(et:TypeId)(s x:AV)(h:Tr ABlk) (nx:Nat):R:=
 match ti,tu,te with
 |.mk d _ _ _ _,.mk du _ _ _ _,some (.mk _ size bytes (some _) _)=>match d with
  |.slice e=>match Nat.beq e et && notInt du && Nat.ble bytes 65536 && Nat.ble 1 size with
   |false=>zapS du e et size bytes s x h nx
   |true=>match srcL size x h with
    |none=>.fail
    |some (m,news)=>match allOne news with
     |false=>.fail
     |true=>match s with
      |.sl0=>match Nat.beq m 0 with
       |true=>.val .sl0 h nx
       |false=>match Nat.ble m 16777216 with
        |true=>.val (.sl nx 0 m 0 true) (h.put nx (some (bx e news true size))) (nx+1)
        |false=>.fail
      |.fz es full xs=>match Nat.beq es size && full with
       |false=>.fail
       |true=>match Nat.beq m 0 with
        |true=>.val (.fz es true xs) h nx
        |false=>match Nat.ble (Nat.add xs.length m) 16777216 with
         |true=>.val (.sl nx 0 (xs.length+m) 0 true) (h.put nx (some (bx e (xs.flatMap AV.cells++news) true size))) (nx+1)
         |false=>.fail
      |.sl i o len cp opn=>match h.get i with
       |some (.cells e' n cs opn' esz)=>match Nat.ble (Nat.add len m) 16777216 with
        |false=>.fail
        |true=>match opn with
         |true=>match Nat.beq o 0 && Nat.beq cp 0 && opn' && Nat.beq esz size && Nat.beq e' e && Nat.beq (Nat.mul len size) n with
          |true=>.val (.sl nx 0 (len+m) 0 true) ((h.put i none).put nx (some (bx e (toL cs n++news) true size))) (nx+1)
          |false=>.fail
         |false=>match Nat.beq cp len && Nat.ble (Nat.add o (Nat.mul len size)) n with
          |false=>.fail
          |true=>match Nat.beq m 0 with
           |true=>.val (.sl i o len cp false) h nx
           |false=>.val (.sl nx 0 (len+m) 0 true) (h.put nx (some (bx e (((toL cs n).drop o).take (Nat.mul len size)++news) true size))) (nx+1)
       |_=>.fail
      |_=>.fail
  |_=>.fail
 |_,_,_=>.fail
theorem toL_get {c:Tr AV}{n k:Nat}{v:AV}(hk:k<n)(hv:c.get k=some v):(toL c n)[k]?=some v:=by simp[toL,hk,hv]
end
end Go.Ev
