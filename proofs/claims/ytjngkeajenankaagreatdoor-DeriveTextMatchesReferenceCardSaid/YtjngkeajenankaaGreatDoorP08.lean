/- Texts DW DM RF Tab. -/
import Derived.Test.YtjngkeajenankaaGreatDoorP07
set_option linter.unusedSimpArgs false
set_option linter.unusedVariables false
set_option maxRecDepth 100000
namespace Go.Ev
noncomputable section
variable {P : Program} {c : Cx} {σ τ υ : Sg} {h h' g f : Tr ABlk} {nx nx' ny nz sz : Nat} {w x y : World} {tm tm' : Tr AV} {a : Act} {G : Gl} {r : Option Nat}
def moL (acc:List Nat)(es:List Edge):Nat:=List.rec (motive:=fun _=>Nat) 0 (fun e _ ih=>match Region.binds .any e with
 |true=>Nat.lor (Nat.lor (Nat.pow 2 e.on) (acc.getD e.on 0)) ih
 |false=>ih) es
def mAcc (l:List Oper):List Nat→List Nat:=List.rec (motive:=fun _=>List Nat→List Nat) (fun acc=>acc) (fun o _ ih acc=>ih (acc++[moL acc o.after.toList])) l
def tb (m i:Nat):Bool:=Nat.beq (Nat.mod (Nat.div m (Nat.pow 2 i)) 2) 1
theorem tb_eq (m i:Nat):tb m i=m.testBit i:=by
 rw[Nat.testBit_eq_decide_div_mod_eq]
 unfold tb
 show Nat.beq (m / 2 ^ i % 2) 1=_
 cases h:Nat.beq (m / 2 ^ i % 2) 1 with
 |true=>simp[Nat.eq_of_beq_eq_true h]
 |false=>simp[beq_false h]
def befM (ms:List Nat) (i j:Nat):Bool:=tb (ms.getD j 0) i
def allL {α:Type}(l:List α)(f:α→Bool):Bool:=List.rec (motive:=fun _=>Bool) true (fun a _ ih=>match f a with |true=>ih |false=>false) l
def ordM (ms:List Nat) (i j:Nat):Bool:=match Nat.ble (Nat.succ j) i with
 |true=>befM ms j i
 |false=>befM ms i j
def ordW (ops:List Oper)(Wl:List Nat) (i:Nat):Bool:=allL Wl fun j=>Nat.beq i j || ordM (mAcc ops []) i j
def inL (i:Nat):List Nat→Bool
 |[]=>false
 |a::l=>match Nat.beq i a with
  |true=>true
  |false=>inL i l
def callD (P:Program)(c:Cx)(ops:List Oper)(Wl:List Nat) (i:Nat)(h:Tr ABlk) (nx:Nat)(cl:Option (Operand×Array Operand))(tm:Tr AV)(K:AV→Prop):Prop:=match cl with
 |some (f,args)=>match evO c.G tm f with
  |some (.func fid first cap)=>match evOs c.G tm args.toList with
   |some l=>∃u,(Ret P c fid (first++(l++cap)) u∨(ordW ops Wl i=true∧ACall P c fid (first++(l++cap)) h nx fun v g ny=>v=u∧g=h∧ny=nx))∧K u
   |none=>False
  |_=>False
 |none=>False
def fpv (c:Cx)(ops:List Oper) (j:Nat)(tm:Tr AV):Option AV:=match ops[j]? with
 |some o=>(fpO o.op).bind (evO c.G tm)
 |none=>none
def keepsU (c:Cx)(ops:List Oper) (j:Nat)(tm:Tr AV)(h h':Tr ABlk):List (Nat×Nat)→Prop
 |[]=>True
 |(a,b)::U=>(b=j→a<j→keepsN (fpv c ops a tm) h h')∧keepsU c ops j tm h h' U
def seenU (c:Cx)(ops:List Oper) (i:Nat)(tm:Tr AV)(hs:Nat→Tr ABlk)(h:Tr ABlk):List (Nat×Nat)→Prop
 |[]=>True
 |(a,b)::U=>(a=i→b<i→keepsN (fpv c ops i tm) h (hs b))∧seenU c ops i tm hs h U
theorem keepsU_mem {ops:List Oper}{j:Nat}:∀{U:List (Nat×Nat)},keepsU c ops j tm h h' U→∀a,(a,j)∈U→a<j→keepsN (fpv c ops a tm) h h'
 |[],_,a,hm,_=>by cases hm
 |(a',b)::U,hk,a,hm,hl=>by
  rcases List.mem_cons.1 hm with e |e
  ·cases e;exact hk.1 rfl hl
  ·exact keepsU_mem hk.2 a e hl
theorem seenU_mem {ops:List Oper}{i:Nat}{hs:Nat→Tr ABlk}:∀{U:List (Nat×Nat)},seenU c ops i tm hs h U→∀b,(i,b)∈U→b<i→keepsN (fpv c ops i tm) h (hs b)
 |[],_,b,hm,_=>by cases hm
 |(a',b')::U,hk,b,hm,hl=>by
  rcases List.mem_cons.1 hm with e |e
  ·cases e;exact hk.1 rfl hl
  ·exact seenU_mem hk.2 b e hl
def afterW (c:Cx) (sz:Nat)(ops:List Oper)(U:List (Nat×Nat)) (i:Nat)(d:Option Tmp)(tm:Tr AV)(h:Tr ABlk)(ds:List DE)(K:AS→Prop)(q:R):Prop:=match q with
 |.val v h' nx'=>keepsU c ops i tm h h' U∧putS sz d v (.mk tm h' nx' ds) K
 |.unit h' nx'=>keepsU c ops i tm h h' U∧putS sz d (.tup []) (.mk tm h' nx' ds) K
 |.fail=>False
def afterN (c:Cx) (sz:Nat)(ops:List Oper)(U:List (Nat×Nat)) (i:Nat)(d:Option Tmp)(tm:Tr AV)(h:Tr ABlk) (nx:Nat)(ds:List DE)(hs:Nat→Tr ABlk)(K:AS→Prop)(q:R):Prop:=match q with
 |.val v _ _=>seenU c ops i tm hs h U∧putS sz d v (.mk tm h nx ds) K
 |_=>False
def awDS (P:Program)(c:Cx) (sz:Nat)(ops:List Oper)(Wl Cl:List Nat)(U:List (Nat×Nat)) (i:Nat)(hs:Nat→Tr ABlk)(o:Oper)(K:(Nat→Tr ABlk)→AS→Prop)(s:AS):Prop:=
 match s with
 |.mk tm h nx ds=>match wantA ops tm o with
  |none=>False
  |some false=>putS sz o.dst (.tup []) (.mk tm h nx ds) (K fun j=>if j=i then h else hs j)
  |some true=>match inL i Cl with
   |true=>callD P c ops Wl i h nx (callOf o.op) tm fun u=>putS sz o.dst u (.mk tm h nx ds) (K fun j=>if j=i then h else hs j)
   |false=>match inL i Wl with
    |true=>afterW c sz ops U i o.dst tm h ds (K fun j=>if j=i then h else hs j) (opD c o.op tm h nx)
    |false=>afterN c sz ops U i o.dst tm h nx ds hs (K fun j=>if j=i then h else hs j) (opD c o.op tm h nx)
def awD (P:Program)(c:Cx) (sz:Nat)(ops:List Oper)(Wl Cl:List Nat)(U:List (Nat×Nat))(K:AS→Prop):List Oper→Nat→(Nat→Tr ABlk)→AS→Prop
 |[],_,_,s=>K s
 |o::l,i,hs,s=>awDS P c sz ops Wl Cl U i hs o (awD P c sz ops Wl Cl U K l (i+1)) s
def StepP (P:Program)(c:Cx)(r:Option Nat) (sz:Nat)(ops:Array Oper)(Wl Cl:List Nat)(U:List (Nat×Nat))(S:Nat→Tr AV×Tr ABlk×Nat)(v:Nat→AV) (j:Nat):Prop:=
 ∃o,ops[j]?=some o∧OpY P c r ops o (v j) (rst (looks ops.toList o) (S j).1) (S j).2.1 (S j).2.2 (S (j+1)).2.1 (S (j+1)).2.2∧(∀d,o.dst=some d→d<sz)∧
  (S (j+1)).1=(match o.dst with |none=>(S j).1 |some d=>(S j).1.put d (some (v j)))∧
  (inL j Wl=false→(S (j+1)).2=(S j).2∧((∀h' nx',OpY P c r ops o (v j) (rst (looks ops.toList o) (S j).1) h' nx' h' nx') ∨
   (inL j Cl=false∧(∀h' nx',keepsN (fpv c ops.toList j (S j).1) (S j).2.1 h'→OpY P c r ops o (v j) (rst (looks ops.toList o) (S j).1) h' nx' h' nx')∧∀b,(j,b)∈U→b<j→keepsN (fpv c ops.toList j (S j).1) (S j).2.1 (S b).2.1)∨ordW ops.toList Wl j=true))∧
  (inL j Wl=true→∀a,(a,j)∈U→a<j→keepsN (fpv c ops.toList a (S j).1) (S j).2.1 (S (j+1)).2.1)
theorem keepsN_refl (v:Option AV)(h:Tr ABlk):keepsN v h h:=by
 unfold keepsN
 split
 ·split
  ·rfl
  ·trivial
 ·trivial
def clsOk (c:Cx)(ops:List Oper)(Wl Cl:List Nat):Prop:=∀i o,ops[i]?=some o→inL i Cl=false→isDefer o.op=false∧(inL i Wl=false→isWD c o.op=false)
def awDk (P:Program)(c:Cx) (sz:Nat)(ops:List Oper)(Wl Cl:List Nat)(U:List (Nat×Nat))(K:(Nat→Tr ABlk)→AS→Prop):List Oper→Nat→(Nat→Tr ABlk)→AS→Prop
 |[],_,hs,s=>K hs s
 |o::l,i,hs,s=>awDS P c sz ops Wl Cl U i hs o (awDk P c sz ops Wl Cl U K l (i+1)) s
theorem awD_k {ops:List Oper}{Wl Cl:List Nat}{U:List (Nat×Nat)}{K:AS→Prop}:∀(l:List Oper) (i:Nat),awD P c sz ops Wl Cl U K l i=awDk P c sz ops Wl Cl U (fun _=>K) l i
 |[],i=>rfl
 |o::l,i=>by
  funext hs s
  show awDS P c sz ops Wl Cl U i hs o (awD P c sz ops Wl Cl U K l (i+1)) s=awDS P c sz ops Wl Cl U i hs o (awDk P c sz ops Wl Cl U (fun _=>K) l (i+1)) s
  rw[awD_k l (i+1)]
theorem awDk_trace (hc:CxOk P c)(hG:c.G.sym=true){ops:Array Oper}{Wl Cl:List Nat}{U:List (Nat×Nat)}{K:(Nat→Tr ABlk)→AS→Prop}(hcl:clsOk c ops.toList Wl Cl)(hWC:∀i,inL i Cl=true→inL i Wl=false):∀(l:List Oper) (i:Nat)(hs:Nat→Tr ABlk)(tm:Tr AV)(h:Tr ABlk) (nx:Nat)(ds:List DE),(∀k,k<l.length→l[k]?=ops[i+k]?)→
  awDk P c sz ops.toList Wl Cl U K l i hs (.mk tm h nx ds)→∀(S0:Nat→Tr AV×Tr ABlk×Nat) (v0:Nat→AV),S0 i=(tm,h,nx)→(∀j,j<i→hs j=(S0 j).2.1)→
  ∃(S:Nat→Tr AV×Tr ABlk×Nat) (v:Nat→AV),(∀j,j≤i→S j=S0 j)∧(∀j,j<i→v j=v0 j)∧(∃hs',(∀j,j<i+l.length→hs' j=(S j).2.1)∧K hs' (.mk (S (i+l.length)).1 (S (i+l.length)).2.1 (S (i+l.length)).2.2 ds))∧∀j,i≤j→j<i+l.length→StepP P c r sz ops Wl Cl U S v j:=by
 intro l
 induction l with
 |nil=>
  intro i hs tm h nx ds _ hw S0 v0 hS hh
  refine⟨S0,v0,fun _ _=>rfl,fun _ _=>rfl,⟨hs,fun j hj=>hh j (by simpa using hj),?_⟩,fun j h1 h2=>by simp at h2;omega⟩
  simp only[List.length_nil,Nat.add_zero,hS]
  exact hw
 |cons o l ih=>
  intro i hs tm h nx ds hl hw S0 v0 hS hh
  have ho:ops[i]?=some o:=by simpa using (hl 0 (by simp)).symm
  have hl':∀k,k<l.length→l[k]?=ops[i+1+k]?:=fun k hk=>by
   have:=hl (k+1) (by simpa using hk)
   rw[show i+(k+1)=i+1+k by omega]at this
   simpa using this
  have key:∀(u:AV) (h1:Tr ABlk) (n1:Nat),putS sz o.dst u (.mk tm h1 n1 ds) (awDk P c sz ops.toList Wl Cl U K l (i+1) fun j=>if j=i then h else hs j)→
    (∀(S:Nat→Tr AV×Tr ABlk×Nat) (v:Nat→AV) ,S i=(tm,h,nx)→(S (i+1)).2=(h1,n1)→v i=u→(S (i+1)).1=(match o.dst with |none=>tm |some d=>tm.put d (some u))→(∀j,j<i→hs j=(S j).2.1)→(∀d,o.dst=some d→d<sz)→StepP P c r sz ops Wl Cl U S v i)→
    ∃(S:Nat→Tr AV×Tr ABlk×Nat) (v:Nat→AV),(∀j,j≤i→S j=S0 j)∧(∀j,j<i→v j=v0 j)∧(∃hs',(∀j,j<i+(o::l).length→hs' j=(S j).2.1)∧K hs' (.mk (S (i+(o::l).length)).1 (S (i+(o::l).length)).2.1 (S (i+(o::l).length)).2.2 ds))∧∀j,i≤j→j<i+(o::l).length→StepP P c r sz ops Wl Cl U S v j:=by
   intro u h1 n1 hp hstep
   have hput:∃tm1,tm1=(match o.dst with |none=>tm |some d=>tm.put d (some u))∧(∀d,o.dst=some d→d<sz)∧awDk P c sz ops.toList Wl Cl U K l (i+1) (fun j=>if j=i then h else hs j) (.mk tm1 h1 n1 ds):=by
    unfold putS at hp
    cases hd:o.dst with
    |none=>rw[hd]at hp;exact⟨tm,rfl,(fun d e=>by cases e),hp⟩
    |some d=>rw[hd]at hp;exact⟨_,rfl,(fun d' e=>by cases e;exact hp.1),hp.2⟩
   obtain⟨tm1,e1,e2,e3⟩:=hput
   obtain⟨S,v,q1,q2,q3,q4⟩:=ih (i+1) _ tm1 h1 n1 ds hl' e3 (fun j=>if j≤i then S0 j else (tm1,h1,n1)) (fun j=>if j<i then v0 j else u) (if_neg (by omega)) (fun j hj=>by
    by_cases e:j=i
    ·subst e;simp[hS]
    ·simp only[if_neg e]
     rw[if_pos (by omega)]
     exact hh j (by omega))
   have hSi:S i=(tm,h,nx):=by rw[q1 i (by omega),if_pos (Nat.le_refl _),hS]
   have hSi1:S (i+1)=(tm1,h1,n1):=by rw[q1 (i+1) (Nat.le_refl _),if_neg (by omega)]
   refine⟨S,v,fun j hj=>by rw[q1 j (by omega),if_pos hj],fun j hj=>by rw[q2 j (by omega),if_pos hj],?_,fun j hj1 hj2=>?_⟩
   ·rw[List.length_cons,show i+(l.length+1)=i+1+l.length by omega];exact q3
   ·by_cases e:j=i
    ·subst e
     exact hstep S v hSi (by rw[hSi1]) (by rw[q2 j (by omega),if_neg (by omega)]) (by rw[hSi1];exact e1) (fun b hb=>by rw[hh b hb,q1 b (by omega),if_pos (by omega)]) e2
    ·rw[List.length_cons]at hj2
     exact q4 j (by omega) (by omega)
  change awDS P c sz ops.toList Wl Cl U i hs o (awDk P c sz ops.toList Wl Cl U K l (i+1)) (.mk tm h nx ds) at hw
  unfold awDS at hw
  simp only at hw
  cases hwant:wantA ops.toList tm o with
  |none=>rw[hwant]at hw;exact hw.elim
  |some b=>
   rw[hwant]at hw
   cases b with
   |false=>
    refine key (.tup []) h nx hw fun S v hS1 hS2 hv hS3 hS4 hd=>⟨o,ho,?_,hd,by rw[hS1,hv];exact hS3,fun _=>⟨by rw[hS2,hS1],.inl fun h' nx'=>?_⟩,fun _ a _ _=>?_⟩
    ·rw[hS1,hS2,hv];exact OpY.skip hwant
    ·rw[hS1,hv];exact OpY.skip hwant
    ·rw[hS1,hS2];exact keepsN_refl _ _
   |true=>
    simp only at hw
    cases hC:inL i Cl with
    |true=>
     rw[hC]at hw
     simp only at hw
     unfold callD at hw
     cases hcall:callOf o.op with
     |none=>rw[hcall]at hw;exact hw.elim
     |some p=>
      obtain⟨fo,args⟩:=p
      rw[hcall]at hw
      simp only at hw
      cases hf:evO c.G tm fo with
      |none=>rw[hf]at hw;exact hw.elim
      |some fv=>
       rw[hf]at hw
       cases fv <;> try exact hw.elim
       rename_i fid first cap
       simp only at hw
       cases hla:evOs c.G tm args.toList with
       |none=>rw[hla]at hw;exact hw.elim
       |some la=>
        rw[hla]at hw
        obtain⟨u,hr,hp⟩:=hw
        rcases hr with hr |⟨hor,hr⟩
        ·refine key u h nx hp fun S v hS1 hS2 hv hS3 hS4 hd=>⟨o,ho,?_,hd,by rw[hS1,hv];exact hS3,fun _=>⟨by rw[hS2,hS1],.inl fun h' nx'=>?_⟩,fun hW=>?_⟩
         ·rw[hS1,hS2,hv];exact OpY.call hwant hcall hf hla (hr _ _)
         ·rw[hS1,hv];exact OpY.call hwant hcall hf hla (hr _ _)
         ·rw[hWC i hC]at hW;cases hW
        ·refine key u h nx hp fun S v hS1 hS2 hv hS3 hS4 hd=>⟨o,ho,?_,hd,by rw[hS1,hv];exact hS3,fun _=>⟨by rw[hS2,hS1],.inr (.inr hor)⟩,fun hW=>?_⟩
         ·rw[hS1,hS2,hv];exact OpY.call hwant hcall hf hla hr
         ·rw[hWC i hC]at hW;cases hW
    |false=>
     rw[hC]at hw
     simp only at hw
     obtain⟨hdf,hnw⟩:=hcl i o (by simpa using ho) hC
     cases hWi:inL i Wl with
     |true=>
      rw[hWi]at hw
      simp only at hw
      unfold afterW at hw
      cases hop:opD c o.op tm h nx with
      |fail=>rw[hop]at hw;exact hw.elim
      |val u h1 n1=>
       rw[hop]at hw
       obtain⟨hkU,hp⟩:=hw
       refine key u h1 n1 hp fun S v hS1 hS2 hv hS3 hS4 hd=>⟨o,ho,?_,hd,by rw[hS1,hv];exact hS3,fun hW=>?_,fun _ a ha hlt=>?_⟩
       ·rw[hS1,hS2,hv];exact OpY.val hc hwant hdf hop
       ·rw[hWi]at hW;cases hW
       ·rw[hS1,hS2];exact keepsU_mem hkU a ha hlt
      |unit h1 n1=>
       rw[hop]at hw
       obtain⟨hkU,hp⟩:=hw
       refine key (.tup []) h1 n1 hp fun S v hS1 hS2 hv hS3 hS4 hd=>⟨o,ho,?_,hd,by rw[hS1,hv];exact hS3,fun hW=>?_,fun _ a ha hlt=>?_⟩
       ·rw[hS1,hS2,hv];exact OpY.unit hc hwant hdf hop
       ·rw[hWi]at hW;cases hW
       ·rw[hS1,hS2];exact keepsU_mem hkU a ha hlt
     |false=>
      rw[hWi]at hw
      simp only at hw
      unfold afterN at hw
      have hrem:∀h' nx',keepsN (fpv c ops.toList i tm) h h'→opD c o.op tm h' nx'=(opD c o.op tm h nx).rem h' nx':=fun h' nx' hk=>opD_rem hG _ (hnw hWi) (by
       unfold fpv at hk
       rw[show ops.toList[i]?=some o by simpa using ho]at hk
       exact hk)
      cases hop:opD c o.op tm h nx with
      |fail=>rw[hop]at hw;exact hw.elim
      |unit h1 n1=>rw[hop]at hw;exact hw.elim
      |val u h1 n1=>
       rw[hop]at hw
       obtain⟨hsU,hp⟩:=hw
       have hself:=hrem h nx (keepsN_refl _ _)
       rw[hop]at hself
       have e1:h1=h∧n1=nx:=by
        simp only[R.rem]at hself
        cases hself
        exact⟨rfl,rfl⟩
       obtain⟨e1,e1'⟩:=e1
       subst e1
       subst e1'
       refine key u h1 n1 hp fun S v hS1 hS2 hv hS3 hS4 hd=>⟨o,ho,?_,hd,by rw[hS1,hv];exact hS3,fun _=>⟨by rw[hS2,hS1],.inr (.inl ⟨hC,fun h' nx' hk=>?_,fun b hb hlt=>?_⟩)⟩,fun hW=>?_⟩
       ·rw[hS1,hS2,hv];exact OpY.val hc hwant hdf hop
       ·rw[hS1]at hk ⊢
        rw[hv]
        refine OpY.val hc hwant hdf ?_
        rw[hrem h' nx' hk,hop]
        rfl
       ·rw[hS1,← hS4 b hlt]
        exact seenU_mem hsU b hb hlt
       ·rw[hWi]at hW;cases hW
theorem awD_trace (hc:CxOk P c)(hG:c.G.sym=true){ops:Array Oper}{Wl Cl:List Nat}{U:List (Nat×Nat)}{K:AS→Prop}(hcl:clsOk c ops.toList Wl Cl)(hWC:∀i,inL i Cl=true→inL i Wl=false)(l:List Oper) (i:Nat)(hs:Nat→Tr ABlk)(tm:Tr AV)(h:Tr ABlk) (nx:Nat)(ds:List DE)(hl:∀k,l[k]?=ops[i+k]?)
  (hw:awD P c sz ops.toList Wl Cl U K l i hs (.mk tm h nx ds)) (S0:Nat→Tr AV×Tr ABlk×Nat) (v0:Nat→AV) (hS:S0 i=(tm,h,nx)) (hh:∀j,j<i→hs j=(S0 j).2.1):
  ∃(S:Nat→Tr AV×Tr ABlk×Nat) (v:Nat→AV),(∀j,j≤i→S j=S0 j)∧(∀j,j<i→v j=v0 j)∧K (.mk (S (i+l.length)).1 (S (i+l.length)).2.1 (S (i+l.length)).2.2 ds)∧∀j,i≤j→j<i+l.length→StepP P c r sz ops Wl Cl U S v j:=by
 rw[awD_k]at hw
 obtain⟨S,v,q1,q2,⟨hs',_,q3⟩,q4⟩:=awDk_trace (r:=r) hc hG hcl hWC l i hs tm h nx ds (fun k _=>hl k) hw S0 v0 hS hh
 exact⟨S,v,q1,q2,q3,q4⟩
end
end Go.Ev
namespace Go.Ev
noncomputable section
variable {P : Program} {c : Cx} {σ τ υ : Sg} {h h' g f : Tr ABlk} {nx nx' ny nz sz : Nat} {w x y : World} {tm tm' : Tr AV} {a : Act} {G : Gl} {r : Option Nat}
def MaskOk (ops:Array Oper)(acc:List Nat):Prop:=∀j m,acc[j]?=some m→∀i,m.testBit i=true→∀l:Array Bool,Closed ops l→(∀k,dir ops k j=true→l.getD k false=true)→l.getD i false=true
theorem moL_ok {ops:Array Oper}{acc:List Nat}(ha:MaskOk ops acc)(l:Array Bool)(hl:Closed ops l):∀(es:List Edge),(∀e∈es,Region.binds .any e=true→l.getD e.on false=true)→∀i,(moL acc es).testBit i=true→l.getD i false=true
 |[],_,i,hi=>by simp[moL]at hi
 |e::es,hes,i,hi=>by
  change (match Region.binds .any e with
   |true=>Nat.lor (Nat.lor (Nat.pow 2 e.on) (acc.getD e.on 0)) (moL acc es)
   |false=>moL acc es).testBit i=true at hi
  cases hb:Region.binds .any e with
  |false=>
   rw[hb]at hi
   exact moL_ok ha l hl es (fun e' he'=>hes e' (by simp[he'])) i hi
  |true=>
   rw[hb]at hi
   change ((2 ^ e.on ||| acc.getD e.on 0) ||| moL acc es).testBit i=true at hi
   rw[Nat.testBit_or,Nat.testBit_or,Bool.or_eq_true,Bool.or_eq_true]at hi
   have hon:=hes e (by simp) hb
   rcases hi with (hi |hi) |hi
   ·rw[Nat.testBit_two_pow]at hi
    have:e.on=i:=by simpa using hi
    rw[← this]
    exact hon
   ·cases hm:acc[e.on]? with
    |none=>simp[List.getD,hm]at hi
    |some m=>
     have:acc.getD e.on 0=m:=by simp[List.getD,hm]
     rw[this]at hi
     exact ha e.on m hm i hi l hl fun k hk=>hl e.on hon k hk
   ·exact moL_ok ha l hl es (fun e' he'=>hes e' (by simp[he'])) i hi
theorem mAcc_ok {ops:Array Oper}:∀(l:List Oper)(acc:List Nat),MaskOk ops acc→(∀j,l[j]?=ops[acc.length+j]?)→MaskOk ops (mAcc l acc)
 |[],acc,ha,_=>ha
 |o::l,acc,ha,hl=>by
  refine mAcc_ok l (acc++[moL acc o.after.toList]) ?_ fun j=>?_
  ·intro j m hm i hi L hL hdeps
   by_cases hj:j<acc.length
   ·rw[List.getElem?_append_left hj]at hm
    exact ha j m hm i hi L hL hdeps
   ·rw[List.getElem?_append_right (by omega)]at hm
    have hj0:j-acc.length=0:=by
     cases h0:j-acc.length with
     |zero=>rfl
     |succ q=>rw[h0]at hm;simp at hm
    rw[hj0]at hm
    simp at hm
    subst hm
    have hjj:j=acc.length:=by omega
    have ho:ops[j]?=some o:=by have:=hl 0;simpa[hjj]using this.symm
    refine moL_ok ha L hL _ (fun e he hb=>hdeps e.on ?_) i hi
    unfold dir
    rw[ho]
    simp only[Option.map_some,Option.getD_some,Array.any_eq_true']
    exact⟨e,by simpa using he,by simp[hb]⟩
  ·have:=hl (j+1)
   simpa[Nat.add_assoc,Nat.add_comm 1 j]using this
theorem allL_spec {α:Type}{f:α→Bool}:∀{l:List α},allL l f=true→∀x∈l,f x=true
 |[],_,x,hx=>by cases hx
 |a::l,h,x,hx=>by
  change (match f a with |true=>allL l f |false=>false)=true at h
  cases hf:f a with
  |false=>rw[hf]at h;cases h
  |true=>
   rw[hf]at h
   rcases List.mem_cons.1 hx with e |e
   ·subst e;exact hf
   ·exact allL_spec h x e
def upTo (n:Nat):List Nat:=List.range n
def memN (d:Nat)(l:List Nat):Bool:=List.rec (motive:=fun _=>Bool) false (fun a _ ih=>match Nat.beq a d with |true=>true |false=>ih) l
theorem memN_spec {d:Nat}:∀{l:List Nat},d∈l→memN d l=true
 |[],h=>by cases h
 |a::l,h=>by
  show (match Nat.beq a d with |true=>true |false=>memN d l)=true
  cases hb:Nat.beq a d with
  |true=>rfl
  |false=>
   rcases List.mem_cons.1 h with e |e
   ·exact absurd e.symm (beq_false hb)
   ·exact memN_spec e
def inU (i j:Nat):List (Nat×Nat)→Bool
 |[]=>false
 |(a,b)::U=>match Nat.beq i a && Nat.beq j b with
  |true=>true
  |false=>inU i j U
theorem inU_spec {i j:Nat}:∀{U:List (Nat×Nat)},inU i j U=true→(i,j)∈U
 |[],e=>by cases e
 |(a,b)::U,e=>by
  simp only[inU]at e
  split at e
  ·rename_i hb
   rw[Bool.and_eq_true]at hb
   rw[Nat.eq_of_beq_eq_true hb.1,Nat.eq_of_beq_eq_true hb.2]
   exact List.mem_cons_self
  ·exact List.mem_cons_of_mem _ (inU_spec e)
def pairD (ms:List Nat)(Wl Cl:List Nat)(U:List (Nat×Nat)) (i j:Nat)(li:List Tmp)(oi oj:Oper):Bool:=
 match Nat.beq i j with
 |true=>true
 |false=>
  match (match inL i Wl with |true=>inL j Wl |false=>false) with
  |true=>ordM ms i j
  |false=>match (match oj.dst with
    |none=>true
    |some d=>match memN d (li++oi.dst.toList) with
     |true=>ordM ms i j
     |false=>true) with
   |false=>false
   |true=>match inL i Wl || inL i Cl || !(inL j Wl) || (fpO oi.op).isNone with
    |true=>true
    |false=>match ordM ms i j with
     |true=>true
     |false=>match inU i j U with
      |false=>false
      |true=>true
def stayD (ops:List Oper) (a j:Nat)(la:List Tmp):Bool:=
 allL (upTo ops.length) fun k=>match Nat.ble a k && Nat.ble (Nat.succ k) j with
  |false=>true
  |true=>match ops[k]? with
   |none=>true
   |some ok=>match ok.dst with
    |none=>true
    |some d=>!(memN d la)
def statD (c:Cx)(ops:List Oper)(ms:List Nat)(Wl Cl:List Nat)(U:List (Nat×Nat)):Bool:=
 allL (upTo ops.length) (fun i=>match ops[i]? with
  |none=>true
  |some oi=>match allL oi.after.toList (fun e=>match Region.binds .any e with |true=>Nat.ble (Nat.succ e.on) i |false=>true) with
   |false=>false
   |true=>match (match inL i Cl with |true=>!(inL i Wl) |false=>!(isDefer oi.op) && (inL i Wl || !(isWD c oi.op))) with
    |false=>false
    |true=>allL (upTo ops.length) fun j=>match ops[j]? with
     |none=>true
     |some oj=>pairD ms Wl Cl U i j (looks ops oi) oi oj) &&
 allL U (fun p=>match Nat.ble (Nat.succ p.1) p.2 with
  |false=>true
  |true=>match ops[p.1]? with
   |none=>true
   |some oa=>stayD ops p.1 p.2 (looks ops oa)) && allL Cl (fun i=>!(inL i Wl))
theorem ordM_lt {ms:List Nat}{i j:Nat}(hlt:i<j)(ho:ordM ms i j=true):befM ms i j=true:=by
 unfold ordM at ho
 have:Nat.ble (Nat.succ j) i=false:=ble_ff (by omega)
 rw[this]at ho
 exact ho
theorem ordM_gt {ms:List Nat}{i j:Nat}(hlt:j<i)(ho:ordM ms i j=true):befM ms j i=true:=by
 unfold ordM at ho
 have:Nat.ble (Nat.succ j) i=true:=Nat.ble_eq_true_of_le (by omega)
 rw[this]at ho
 exact ho
structure PairD (ms:List Nat)(Wl Cl:List Nat)(U:List (Nat×Nat)) (i j:Nat)(li:List Tmp)(oi oj:Oper):Prop where
 ww:inL i Wl=true→inL j Wl=true→ordM ms i j=true
 dst:∀d,oj.dst=some d→(d∈li∨oi.dst=some d)→ordM ms i j=true
 rw:inL i Wl=false→inL i Cl=false→inL j Wl=true→(fpO oi.op).isNone=false→ordM ms i j=true∨(i,j)∈U
theorem pairD_spec {ms:List Nat}{Wl Cl:List Nat}{U:List (Nat×Nat)}{i j:Nat}{li:List Tmp}{oi oj:Oper}(hne:i≠j)(hp:pairD ms Wl Cl U i j li oi oj=true):PairD ms Wl Cl U i j li oi oj:=by
 unfold pairD at hp
 have hb:Nat.beq i j=false:=by
  cases e:Nat.beq i j with
  |false=>rfl
  |true=>exact absurd (Nat.eq_of_beq_eq_true e) hne
 rw[hb]at hp
 simp only at hp
 cases hWi:inL i Wl with
 |true=>
  rw[hWi]at hp
  simp only at hp
  cases hWj:inL j Wl with
  |true=>
   rw[hWj]at hp
   simp only at hp
   exact⟨fun _ _=>hp,fun _ _ _=>hp,(fun e=>by simp[hWi]at e)⟩
  |false=>
   rw[hWj]at hp
   simp only at hp
   refine⟨(fun _ e=>by simp[hWj]at e),fun d hd hm=>?_,(fun e=>by simp[hWi]at e)⟩
   rw[hd]at hp
   simp only at hp
   have hmem:memN d (li++oi.dst.toList)=true:=memN_spec (by
    rw[List.mem_append]
    rcases hm with h1 |h1
    ·exact .inl h1
    ·exact .inr (by rw[h1];simp))
   rw[hmem]at hp
   simp only at hp
   cases ho:ordM ms i j with
   |true=>rfl
   |false=>rw[ho]at hp;cases hp
 |false=>
  rw[hWi]at hp
  simp only at hp
  refine⟨(fun e=>by simp[hWi]at e),fun d hd hm=>?_,fun _ hC hWj hf=>?_⟩
  ·rw[hd]at hp
   simp only at hp
   have hmem:memN d (li++oi.dst.toList)=true:=memN_spec (by
    rw[List.mem_append]
    rcases hm with h1 |h1
    ·exact .inl h1
    ·exact .inr (by rw[h1];simp))
   rw[hmem]at hp
   simp only at hp
   cases ho:ordM ms i j with
   |true=>rfl
   |false=>rw[ho]at hp;cases hp
  ·split at hp
   ·cases hp
   ·rw[hC,hWj,hf]at hp
    simp only[Bool.false_or,Bool.not_true]at hp
    cases ho:ordM ms i j with
    |true=>exact .inl rfl
    |false=>
     rw[ho]at hp
     simp only at hp
     cases hu:inU i j U with
     |true=>exact .inr (inU_spec hu)
     |false=>rw[hu]at hp;cases hp
theorem fpv_stay {ops:List Oper}{a:Nat}{o:Oper}(ho:ops[a]?=some o)(hs:∀t∈looks ops o,tm.get t=tm'.get t):fpv c ops a tm=fpv c ops a tm':=by
 unfold fpv
 rw[ho]
 simp only
 cases hf:fpO o.op with
 |none=>rfl
 |some x=>
  show evO c.G tm x=evO c.G tm' x
  have hx:x∈o.op.operands.toList:=by
   cases hop:o.op <;> rw[hop]at hf <;> try (cases hf;done)
   case load=>cases hf;simp[Op.operands]
   case lookup=>cases hf;simp[Op.operands]
   case convert=>cases hf;simp[Op.operands]
   case call cl=>
    have:cl.args.toList.head?=some x:=hf
    have hm:x∈cl.args.toList:=List.mem_of_mem_head? (by rw[this];rfl)
    obtain⟨callee,args,ts⟩:=cl
    simp only[Op.operands,Call.operands]
    cases callee <;> simp at hm ⊢ <;> first |exact hm |exact .inr hm
  refine evO_sees (l:=o.op.operands.toList) (fun t ht=>hs t ?_) hx
  unfold looks
  rw[List.mem_append]
  exact .inl (List.mem_filterMap.2 ⟨.tmp t,ht,rfl⟩)
theorem keepsN_trans {v:Option AV}{h1 h2 h3:Tr ABlk}(a:keepsN v h1 h2)(b:keepsN v h2 h3):keepsN v h1 h3:=by
 unfold keepsN at *
 split
 ·split
  ·rename_i k hk
   simp only[hk]at a b
   exact b.trans a
  ·trivial
 ·trivial
theorem keepsN_none {v:Option AV}(hv:v=none)(h1 h2:Tr ABlk):keepsN v h1 h2:=by subst hv;trivial
theorem cls_of_stat {l:List Oper}{Wl Cl:List Nat}{U:List (Nat×Nat)}{ms:List Nat}(hstat:statD c l ms Wl Cl U=true):clsOk c l Wl Cl∧∀i,inL i Cl=true→inL i Wl=false:=by
 unfold statD at hstat
 rw[Bool.and_eq_true,Bool.and_eq_true]at hstat
 obtain⟨⟨hA,hU⟩,hCW⟩:=hstat
 constructor
 ·intro i oi hoi hC
  have hlt:i<l.length:=(List.getElem?_eq_some_iff.1 hoi).1
  have h1:=allL_spec hA i (by simp[upTo,hlt])
  rw[hoi]at h1
  simp only at h1
  split at h1
  ·cases h1
  ·split at h1
   ·cases h1
   ·rename_i hcls
    rw[hC]at hcls
    simp only[Bool.and_eq_true,Bool.or_eq_true,Bool.not_eq_true']at hcls
    refine⟨hcls.1,fun hW=>?_⟩
    rcases hcls.2 with h3 |h3
    ·rw[hW]at h3;cases h3
    ·exact h3
 ·intro i hi
  have hmem:∀(L:List Nat),inL i L=true→i∈L:=by
   intro L
   induction L with
   |nil=>intro e;cases e
   |cons b L ih=>
    intro e
    simp only[inL]at e
    split at e
    ·rename_i hb;rw[Nat.eq_of_beq_eq_true hb];exact List.mem_cons_self
    ·exact List.mem_cons_of_mem _ (ih e)
  have:=allL_spec hCW i (hmem Cl hi)
  simpa using this
theorem Dr_of_steps {l:List Oper}{Wl Cl:List Nat}{U:List (Nat×Nat)}(hstat:statD c l (mAcc l []) Wl Cl U=true){S:Nat→Tr AV×Tr ABlk×Nat}{v:Nat→AV}{r:Option Nat}(q4:∀j,j<l.length→StepP P c r sz l.toArray Wl Cl U S v j):
  Dr P c r sz l.toArray S v (fun i=>inL i Wl) (befM (mAcc l [])):=by
 unfold statD at hstat
 rw[Bool.and_eq_true,Bool.and_eq_true]at hstat
 obtain⟨⟨hA,hU⟩,hCW⟩:=hstat
 generalize hms:mAcc l []=ms at hA hU
 have hmask:MaskOk l.toArray ms:=by
  rw[← hms]
  refine mAcc_ok l [] (fun j m hj=>by simp at hj) fun j=>by simp
 have hrow:∀i oi,l[i]?=some oi→(∀e∈oi.after.toList,Region.binds .any e=true→e.on<i)∧(inL i Cl=false→isDefer oi.op=false∧(inL i Wl=false→isWD c oi.op=false))∧∀j oj,l[j]?=some oj→i≠j→PairD ms Wl Cl U i j (looks l oi) oi oj:=by
  intro i oi hoi
  have hlt:i<l.length:=(List.getElem?_eq_some_iff.1 hoi).1
  have h1:=allL_spec hA i (by simp[upTo,hlt])
  rw[hoi]at h1
  simp only at h1
  split at h1
  ·cases h1
  ·rename_i hb
   split at h1
   ·cases h1
   ·rename_i hcls
    refine⟨fun e he hbi=>?_,fun hC=>?_,fun j oj hoj hne=>?_⟩
    ·have:=allL_spec hb e he
     rw[hbi]at this
     exact Nat.le_of_ble_eq_true this
    ·rw[hC]at hcls
     simp only[Bool.and_eq_true,Bool.or_eq_true,Bool.not_eq_true']at hcls
     refine⟨hcls.1,fun hW=>?_⟩
     rcases hcls.2 with h3 |h3
     ·rw[hW]at h3;cases h3
     ·exact h3
    ·have hltj:j<l.length:=(List.getElem?_eq_some_iff.1 hoj).1
     have:=allL_spec h1 j (by simp[upTo,hltj])
     rw[hoj]at this
     exact pairD_spec hne this
 have hstep:∀j o,l[j]?=some o→StepP P c r sz l.toArray Wl Cl U S v j:=fun j o ho=>q4 j (List.getElem?_eq_some_iff.1 ho).1
 have hsz:l.toArray.size=l.length:=by simp
 have hget:∀j,l.toArray[j]?=l[j]?:=fun j=>List.getElem?_toArray
 have hstay:∀a j o,(a,j)∈U→a<j→l[a]?=some o→∀k,a≤k→k<j→∀o' d,l[k]?=some o'→o'.dst=some d→d ∉ looks l o:=by
  intro a j o hm' hlt ho k hk1 hk2 o' d ho' hd hmem
  have h1:=allL_spec hU (a,j) hm'
  simp only at h1
  rw[Nat.ble_eq_true_of_le (show Nat.succ a≤j by omega),ho]at h1
  simp only at h1
  unfold stayD at h1
  have hltk:k<l.length:=(List.getElem?_eq_some_iff.1 ho').1
  have h2:=allL_spec h1 k (by simp[upTo,hltk])
  simp only[Nat.ble_eq_true_of_le hk1,Nat.ble_eq_true_of_le (show Nat.succ k≤j by omega),Bool.and_self,ho',hd]at h2
  rw[memN_spec hmem]at h2
  cases h2
 have htmk:∀a j o,(a,j)∈U→a<j→l[a]?=some o→j<l.length→fpv c l a (S j).1=fpv c l a (S a).1:=by
  intro a j o hm' hlt ho hjl
  refine fpv_stay ho fun t ht=>?_
  have key:∀n,a+n≤j→(S (a+n)).1.get t=(S a).1.get t:=by
   intro n
   induction n with
   |zero=>intro _;rfl
   |succ n ih=>
    intro hn
    obtain⟨o',ho'⟩:∃o',l[a+n]?=some o':=⟨_,List.getElem?_eq_getElem (by omega)⟩
    obtain⟨o'',ho'',_,_,e3,_⟩:=hstep (a+n) o' ho'
    rw[hget,ho']at ho''
    cases ho''
    rw[show a+(n+1)=a+n+1 by omega,e3]
    cases hd:o'.dst with
    |none=>exact ih (by omega)
    |some d=>
     simp only
     rw[Tr.get_put,if_neg]
     ·exact ih (by omega)
     ·intro e
      subst e
      exact hstay a j o hm' hlt ho (a+n) (by omega) (by omega) o' t ho' hd ht
  have:=key (j-a) (by omega)
  rw[show a+(j-a)=j by omega]at this
  exact this
 have R:Dr P c r sz l.toArray S v (fun i=>inL i Wl) (befM ms):=by
  have keep:∀i,i<l.toArray.size→inL i Wl=false→(S (i+1)).2=(S i).2:=by
   intro i hi hW
   obtain⟨o,ho⟩:∃o,l[i]?=some o:=⟨_,List.getElem?_eq_getElem (by omega)⟩
   obtain⟨_,_,_,_,_,e4,_⟩:=hstep i o ho
   exact(e4 hW).1
  have same:∀p n,p+n≤l.length→(∀j,p≤j→j<p+n→inL j Wl=false)→(S p).2=(S (p+n)).2:=by
   intro p n
   induction n with
   |zero=>intro _ _;rfl
   |succ n ih=>
    intro hn hw'
    rw[show p+(n+1)=p+n+1 by omega,keep (p+n) (by omega) (hw' _ (by omega) (by omega))]
    exact ih (by omega) fun j h1 h2=>hw' j h1 (by omega)
  refine⟨?_,?_,?_,?_,?_,keep,?_⟩
  ·intro i hi k hk
   obtain⟨o,ho⟩:∃o,l[i]?=some o:=⟨_,List.getElem?_eq_getElem (by omega)⟩
   unfold dir at hk
   rw[hget,ho]at hk
   simp only[Option.map_some,Option.getD_some,Array.any_eq_true']at hk
   obtain⟨e,he,hb⟩:=hk
   rw[Bool.and_eq_true]at hb
   have hon:e.on=k:=by simpa using hb.2
   rw[← hon]
   exact(hrow i o ho).1 e (by simpa using he) hb.1
  ·intro i j hb L hL hdeps
   unfold befM at hb
   rw[tb_eq]at hb
   cases hmj:ms[j]? with
   |none=>simp[List.getD,hmj]at hb
   |some m=>
    have:ms.getD j 0=m:=by simp[List.getD,hmj]
    rw[this]at hb
    exact hmask j m hmj i hb L hL hdeps
  ·intro i j o p d ho hp hne hd hm'
   rw[hget]at ho hp
   have hpr:=(hrow i o ho).2.2 j p hp hne
   have ho':=hpr.dst d hd hm'
   exact⟨fun hlt=>ordM_gt hlt ho',fun hlt=>ordM_lt hlt ho'⟩
  ·intro i j hlt hj hWi hWj
   obtain⟨oi,hoi⟩:∃o,l[i]?=some o:=⟨_,List.getElem?_eq_getElem (by omega)⟩
   obtain⟨oj,hoj⟩:∃o,l[j]?=some o:=⟨_,List.getElem?_eq_getElem (by omega)⟩
   exact ordM_lt hlt (((hrow i oi hoi).2.2 j oj hoj (by omega)).ww hWi hWj)
  ·intro i o ho
   rw[hget]at ho
   obtain⟨o',ho',e1,e2,e3,_⟩:=hstep i o ho
   rw[hget,ho]at ho'
   cases ho'
   exact⟨e1,e2,e3⟩
  ·intro i o ho hW p hp hp0 hval
   rw[hget]at ho
   obtain⟨o',ho',_,_,_,e4,_⟩:=hstep i o ho
   rw[hget,ho]at ho'
   cases ho'
   obtain⟨_,e5⟩:=e4 hW
   rcases e5 with e5 |⟨hCi,e5,e6⟩ |hor
   ·exact e5 _ _
   ·refine e5 _ _ ?_
    by_cases hfp:(fpO o.op).isNone=true
    ·refine keepsN_none ?_ _ _
     unfold fpv
     rw[show l.toArray.toList[i]?=some o from ho]
     simp only
     cases hf:fpO o.op with
     |none=>rfl
     |some x=>rw[hf]at hfp;cases hfp
    have hfp':(fpO o.op).isNone=false:=by cases hh:(fpO o.op).isNone <;> first |rfl |exact absurd hh hfp
    have hltl:i<l.length:=(List.getElem?_eq_some_iff.1 ho).1
    by_cases hpi:p≤i
    ·
     by_cases hex:∃q,p≤q∧q<i∧inL q Wl=true
     ·obtain⟨q,⟨h1,h2,h3⟩,hmin⟩:=least hex
      have hsame:=same p (q-p) (by omega) fun j hj1 hj2=>by
       cases hWj:inL j Wl with
       |false=>rfl
       |true=>have:=hmin j ⟨hj1,by omega,hWj⟩;omega
      rw[show p+(q-p)=q by omega]at hsame
      rw[hsame]
      obtain⟨oq,hoq⟩:∃o,l[q]?=some o:=⟨_,List.getElem?_eq_getElem (by omega)⟩
      have hpr:=((hrow i o ho).2.2 q oq hoq (by omega)).rw hW hCi h3 hfp'
      rcases hpr with hpr |hpr
      ·have:=(hval q (by omega) h3).1 (ordM_gt h2 hpr)
       omega
      ·exact e6 q hpr h2
     ·have hsame:=same p (i-p) (by omega) fun j hj1 hj2=>by
       cases hWj:inL j Wl with
       |false=>rfl
       |true=>exact absurd ⟨j,hj1,by omega,hWj⟩ hex
      rw[show p+(i-p)=i by omega]at hsame
      rw[hsame]
      exact keepsN_refl _ _
    ·
     have key:∀n,i+n≤p→keepsN (fpv c l.toArray.toList i (S i).1) (S i).2.1 (S (i+n)).2.1:=by
      intro n
      induction n with
      |zero=>intro _;exact keepsN_refl _ _
      |succ n ih=>
       intro hn
       have ih:=ih (by omega)
       have hsz':p≤l.length:=by omega
       cases hWm:inL (i+n) Wl with
       |false=>
        rw[show i+(n+1)=i+n+1 by omega,keep (i+n) (by omega) hWm]
        exact ih
       |true=>
        have hne:i≠i+n:=fun e=>by rw[← e]at hWm;rw[hW]at hWm;cases hWm
        obtain⟨om,hom⟩:∃o,l[i+n]?=some o:=⟨_,List.getElem?_eq_getElem (by omega)⟩
        have hpr:=((hrow i o ho).2.2 (i+n) om hom hne).rw hW hCi hWm hfp'
        rcases hpr with hpr |hpr
        ·have:=(hval (i+n) (by omega) hWm).2 (ordM_lt (by omega) hpr)
         omega
        ·obtain⟨_,_,_,_,_,_,e7⟩:=hstep (i+n) om hom
         have h7:=e7 hWm i hpr (by omega)
         have hfe:=htmk i (i+n) o hpr (by omega) ho (by omega)
         have hfe':fpv c l.toArray.toList i (S (i+n)).1=fpv c l.toArray.toList i (S i).1:=hfe
         rw[hfe']at h7
         exact keepsN_trans ih h7
     have:=key (p-i) (by omega)
     rw[show i+(p-i)=p by omega]at this
     exact this
   ·
    have hltl:i<l.length:=(List.getElem?_eq_some_iff.1 ho).1
    have hord:∀q,inL q Wl=true→q≠i→ordM ms i q=true:=by
     intro q hq hne
     have hmem:q∈Wl:=by
      have:∀(L:List Nat),inL q L=true→q∈L:=by
       intro L
       induction L with
       |nil=>intro e;cases e
       |cons b L ih=>
        intro e
        simp only[inL]at e
        split at e
        ·rename_i hb;rw[Nat.eq_of_beq_eq_true hb];exact List.mem_cons_self
        ·exact List.mem_cons_of_mem _ (ih e)
      exact this Wl hq
     unfold ordW at hor
     have h8:=allL_spec hor q hmem
     rw[Bool.or_eq_true]at h8
     rcases h8 with h8 |h8
     ·exact absurd (Nat.eq_of_beq_eq_true h8).symm hne
     ·rw[← hms];exact h8
    have hmem:(S p).2=(S i).2:=by
     by_cases hpi:p≤i
     ·have:=same p (i-p) (by omega) fun j h1 h2=>by
       cases hWj:inL j Wl with
       |false=>rfl
       |true=>
        have:=(hval j (by omega) hWj).1 (ordM_gt (by omega) (hord j hWj (by omega)))
        omega
      rw[show p+(i-p)=i by omega]at this
      exact this
     ·have hsz':p≤l.length:=by omega
      have:=same i (p-i) (by omega) fun j h1 h2=>by
       cases hWj:inL j Wl with
       |false=>rfl
       |true=>
        by_cases e:j=i
        ·subst e;rw[hW]at hWj;cases hWj
        ·have:=(hval j (by omega) hWj).2 (ordM_lt (by omega) (hord j hWj e))
         omega
      rw[show i+(p-i)=p by omega]at this
      exact this.symm
    obtain⟨o'',ho'',e1,_,_,e4',_⟩:=hstep i o ho
    rw[hget,ho]at ho''
    cases ho''
    have e1':=e1
    rw[(e4' hW).1]at e1'
    rw[hmem]
    exact e1'
 exact R
theorem awD_Dr (hc:CxOk P c)(hG:c.G.sym=true){l:List Oper}(Wl Cl:List Nat)(U:List (Nat×Nat))(hstat:statD c l (mAcc l []) Wl Cl U=true){K:AS→Prop}{ds:List DE}(hw:awD P c sz l Wl Cl U K l 0 (fun _=>.nil) (.mk tm h nx ds))(r:Option Nat):
  ∃S v bef,S 0=(tm,h,nx)∧K (.mk (S l.length).1 (S l.length).2.1 (S l.length).2.2 ds)∧Dr P c r sz l.toArray S v (fun i=>inL i Wl) bef:=by
 obtain⟨hcl,hWC⟩:=cls_of_stat hstat
 obtain⟨S,v,q1,_,q3,q4⟩:=awD_trace (r:=r) hc hG (ops:=l.toArray) hcl hWC l 0 (fun _=>.nil) tm h nx ds (fun k=>by simp) (by simpa using hw) (fun _=>(tm,h,nx)) (fun _=>.nilFunc) rfl (fun j hj=>by omega)
 rw[Nat.zero_add]at q3
 exact⟨S,v,_,q1 0 (Nat.le_refl _),q3,Dr_of_steps hstat fun j hj=>q4 j (by omega) (by omega)⟩
theorem AW_draw (hm:P.follows .mixedOrders=true)(hc:CxOk P c)(hG:c.G.sym=true){inr:Bool}{id:Nat}{l:List Oper}(Wl Cl:List Nat)(U:List (Nat×Nat))(hstat:statD c l (mAcc l []) Wl Cl U=true){Q:AX→AS→Prop}{s:AS}
  (hw:awD P c sz l Wl Cl U (Q .norm) l 0 (fun _=>.nil) s):AW P c inr sz (.region id l.toArray true) Q s:=by
 intro r hi σ a w ok st
 cases s with
 |mk tm h nx ds=>
 simp only[AS.tm,AS.h,AS.nx,AS.ds]at ok st ⊢
 obtain⟨S,v,bef,hS0,q3,R⟩:=awD_Dr hc hG Wl Cl U hstat hw r
 have hsz:l.toArray.size=l.length:=by simp
 have hfin:=drawn_ok (ds:=ds) hm R (σ:=σ) (w:=w) (a:=a) (by rw[hS0];exact ok) (by rw[hS0];exact st) id (Q:=Q) (by rw[hsz];exact q3)
 rw[hS0]at hfin
 exact hfin
end
end Go.Ev
namespace Go.Ev
noncomputable section
variable {P : Program} {c : Cx} {σ τ υ : Sg} {h g f : Tr ABlk} {nx ny nz sz : Nat} {ds : List DE} {w x y : World} {tm : Tr AV} {a : Act} {G : Gl}
def putP:List Tmp→List AV→Tr AV→Tr AV
 |t::ps,v::vs,tm=>putP ps vs (tm.put t (some v))
 |_,_,tm=>tm
theorem putP_ok:∀{ps:List Tmp}{vs:List AV}{VS:List Value}{tm:Tr AV}{T:Array Value},RelL σ vs VS→(∀t∈ps,t<T.size)→(∀t v,tm.get t=some v→Rel σ v (T.getD t undef))→
  ((ps.zip VS).foldl (fun T (p:Tmp×Value)=>T.setIfInBounds p.1 p.2) T).size=T.size∧∀t v,(putP ps vs tm).get t=some v→Rel σ v (((ps.zip VS).foldl (fun T (p:Tmp×Value)=>T.setIfInBounds p.1 p.2) T).getD t undef)
 |[],vs,VS,tm,T,_,_,ht=>by
  cases vs <;> exact⟨rfl,ht⟩
 |t::ps,[],VS,tm,T,hr,_,ht=>by
  simp only[RelL]at hr
  subst hr
  exact⟨rfl,ht⟩
 |t::ps,v::vs,VS,tm,T,hr,hs,ht=>by
  simp only[RelL]at hr
  obtain⟨V,VS',e,h1,h2⟩:=hr
  subst e
  have hts:t<T.size:=hs t (by simp)
  have:=putP_ok (ps:=ps) (tm:=tm.put t (some v)) (T:=T.setIfInBounds t V) h2 (fun u hu=>by simp;exact hs u (by simp[hu])) (fun u z hz=>by
   rw[Tr.get_put]at hz
   by_cases e:u=t
   ·subst e
    rw[if_pos rfl]at hz
    cases hz
    simpa[Array.getD_eq_getD_getElem?,hts]using h1
   ·rw[if_neg e]at hz
    have:=ht u z hz
    simpa[Array.getD_eq_getD_getElem?,Array.getElem?_setIfInBounds,Ne.symm e]using this)
  refine⟨?_,?_⟩
  ·simpa using this.1
  ·simpa[putP]using this.2
def roundQ (i:Nat)(K:AV→Tr ABlk→Nat→Prop):AX→AS→Prop
 |k,.mk _ h nx _=>∃st pend fn sz tm ps x y db,h.get i=some (.loop st pend fn sz tm ps x y db)∧match k with
  |.norm=>K (.bool true) (h.put i (some (.loop .ready none fn sz tm ps x y db))) nx
  |.ret=>K (.bool false) (h.put i (some (.loop .done (some .ret) fn sz tm ps x y db))) nx
  |.exit id=>K (.bool false) (h.put i (some (.loop .done (some (.exit id)) fn sz tm ps x y db))) nx
def asgQ (P:Program)(c:Cx) (sz i:Nat)(body:Code)(K:AV→Tr ABlk→Nat→Prop):AX→AS→Prop
 |.norm,.mk tm h nx ds=>∃pend fn sz' tmR ps x y db,h.get i=some (.loop .ready pend fn sz' tmR ps x y db)∧AW P c true sz body (roundQ i K) (.mk tm (h.put i (some (.loop .busy pend fn sz' tmR ps x y db))) nx ds)
 |_,_=>False
theorem Ok.loop (hk:Ok G σ h nx w){i st pend fn sz tmR ps x y db}(hi:h.get i=some (.loop st pend fn sz tmR ps x y db)):∃b T d fn',σ.blk i=some b∧w.heap[b]?=some (.loop ⟨st,pend,fn',T,ps,x,y,d⟩)∧T.size=sz∧(∀t v,tmR.get t=some v→Rel σ v (T.getD t undef))∧σ.blk db=some d:=by
 obtain⟨b,o,hb,ho,hr⟩:=hk.blk i _ hi
 simp only[RelB]at hr
 obtain⟨T,d,fn',e,h1,h2,h3⟩:=hr
 subst e
 exact⟨b,T,d,fn',hb,ho,h1,h2,h3⟩
theorem Post.setLoop (hk:Ok G σ h nx w){i b st pend fn fn0 sz tmR ps x y db T d}(hi:h.get i=some (.loop st pend fn sz tmR ps x y db))(hb:σ.blk i=some b)(ho:w.heap[b]?=some (.loop ⟨st,pend,fn0,T,ps,x,y,d⟩))(st':LoopState)(pend':Option Code):
  Post G σ h nx w σ (h.put i (some (.loop st' pend' fn sz tmR ps x y db))) nx (w.putObj b (.loop ⟨st',pend',fn0,T,ps,x,y,d⟩)):=by
 refine Post.set hk hi hb _ _ ?_
 obtain⟨b',T',d',fn',hb',ho',h1,h2,h3⟩:=hk.loop hi
 rw[hb]at hb'
 cases hb'
 rw[ho]at ho'
 cases ho'
 simp only[RelB]
 exact⟨T,d,fn0,rfl,h1,h2,h3⟩
theorem AYld_of {i:Nat}{pend fn tmR ps assign body db}(hi:h.get i=some (.loop .ready pend fn sz tmR ps assign body db)){args:List AV}(hlen:args.length=ps.size)(hps:∀t∈ps.toList,t<sz){K:AV→Tr ABlk→Nat→Prop}
  (hw:AW P c true sz assign (asgQ P c sz i body K) (.mk (putP ps.toList args tmR) h nx [])):AYld P c i args h nx K:=by
 intro σ w A l hk hA hl
 obtain⟨b,T,d,fn',hb,ho,hT,hTr,hdb⟩:=hk.loop hi
 rw[hl]at hb
 cases hb
 have hAl:=hA.length
 refine⟨fn',_,assign,body,run_yield ho (by simp;omega),?_⟩
 refine roundIn_of_wpIn (F:=Fence.wide) (n:=0) trivial ?_
 have hz:(Array.zip ps A.toArray).foldl (fun T (p:Tmp×Value)=>T.setIfInBounds p.1 p.2) T=(ps.toList.zip A).foldl (fun T (p:Tmp×Value)=>T.setIfInBounds p.1 p.2) T:=by
  rw[← Array.foldl_toList]
  simp
 obtain⟨p1,p2⟩:=putP_ok (T:=T) (tm:=tmR) hA (fun t ht=>by rw[hT];exact hps t ht) hTr
 have hst:St σ (putP ps.toList args tmR) { tmps:=(Array.zip ps A.toArray).foldl (fun T (p:Tmp×Value)=>T.setIfInBounds p.1 p.2) T,defers:=[] } sz []:=by
  rw[hz]
  exact⟨p2,by rw[p1,hT],rfl⟩
 refine wpIn_mono (hw (some l) (fun e=>by cases e) σ _ w hk hst) fun e a1 w1 q=>?_
 obtain⟨k,tm1,g1,n1,ds1,τ,e1,q1,q2,q3⟩:=q
 cases k <;> try exact q3.elim
 subst e1
 obtain⟨pend1,fn1,sz1,tmR1,ps1,x1,y1,db1,hi1,hbody⟩:=q3
 obtain⟨b1,T1,d1,fn1',hb1,ho1,_,_,_⟩:=q1.ok.loop hi1
 have:b1=l:=by
  have:=(q1.le.blk i l hl).1
  rw[hb1]at this
  cases this
  rfl
 subst this
 refine⟨_,run_beginRound ho1 rfl,?_⟩
 have ps1':=Post.setLoop q1.ok hi1 hb1 ho1 .busy pend1
 refine wpIn_mono (hbody (some b1) (fun e=>by cases e) τ a1 _ ps1'.ok q2) fun e2 a2 w2 q'=>?_
 obtain⟨k2,tm2,g2,n2,ds2,υ,e2',r1,r2,r3⟩:=q'
 obtain⟨st3,pend3,fn3,sz3,tm3,ps3,x3,y3,db3,hi3,hK⟩:=r3
 obtain⟨b3,T3,d3,fn3',hb3,ho3,_,_,_⟩:=r1.ok.loop hi3
 have:b3=b1:=by
  have:=(r1.le.blk i b1 (ps1'.le.blk i b1 hb1).1).1
  rw[hb3]at this
  cases this
  rfl
 subst this
 have tot:=(q1.trans ps1').trans r1
 cases k2 with
 |norm=>
  subst e2'
  have pf:=Post.setLoop r1.ok hi3 hb3 ho3 .ready none
  exact⟨_,_,run_endRound none ho3,υ,.bool true,_,n2,by simp only[Rel];rfl,tot.trans pf,hK⟩
 |ret=>
  subst e2'
  have pf:=Post.setLoop r1.ok hi3 hb3 ho3 .done (some .ret)
  exact⟨_,_,run_endRound (some .ret) ho3,υ,.bool false,_,n2,by simp only[Rel];rfl,tot.trans pf,hK⟩
 |exit id=>
  subst e2'
  have pf:=Post.setLoop r1.ok hi3 hb3 ho3 .done (some (.exit id))
  exact⟨_,_,run_endRound (some (.exit id)) ho3,υ,.bool false,_,n2,by simp only[Rel];rfl,tot.trans pf,hK⟩
def rangeQ (tm:Tr AV)(ds:List DE) (nx:Nat)(Q:AX→AS→Prop):AV→Tr ABlk→Nat→Prop
 |_,g,ny=>∃st pend fn sz tmR ps x y db,g.get (nx+1)=some (.loop st pend fn sz tmR ps x y db)∧st≠.busy∧match pend with
  |none=>Q .norm (.mk tm (g.put (nx+1) none) ny (.mark nx::ds))
  |some .ret=>Q .ret (.mk tm (g.put (nx+1) none) ny (.mark nx::ds))
  |some (.exit id)=>Q (.exit id) (.mk tm (g.put (nx+1) none) ny (.mark nx::ds))
  |_=>False
theorem AW_range (hc:CxOk P c){go:Operand}{ps:Array Tmp}{assign body:Code}{Q:AX→AS→Prop}{fid:FuncId}{first cap:List AV}{fnn:Func}(hft:c.ft.get fid=some fnn)(hg:evO c.G tm go=some (.func fid first cap))
  {fn0:FuncId} (hw:ACall P c fid (first++([.yld (nx+1)]++cap)) ((h.put nx (some .dfr)).put (nx+1) (some (.loop .ready none fn0 sz tm ps assign body nx))) (nx+1+1) (rangeQ tm ds nx Q)):
  AW P c false sz (.rangeFunc go ps assign body) Q (.mk tm h nx ds):=by
 intro r hr σ a w ok st
 obtain rfl:=hr rfl
 simp only[AS.tm,AS.h,AS.nx,AS.ds]at ok st
 obtain⟨_,hcall⟩:=hc.ft fid fnn hft
 refine wpIn_rangeFunc fun fn _=>?_
 have hgv:=evO_ok ok st.tm hg
 simp only[Rel]at hgv
 obtain⟨F,C,e1,r1,r2⟩:=hgv
 have pa:=Post.alloc ok 0 .dfr (.deferred (some [])) (by simp only[RelB])
 have hle1:(σ.add nx w.heap.size 0).blk nx=some w.heap.size:=by simp[Sg.add]
 have pb:=Post.alloc pa.ok 0 (.loop .ready none fn0 sz tm ps assign body nx) (.loop ⟨.ready,none,fn,a.tmps,ps,assign,body,w.heap.size⟩) (by
  simp only[RelB]
  refine⟨a.tmps,w.heap.size,fn,rfl,st.size,fun t v ht=>?_,?_⟩
  ·exact((st.tm t v ht).mono pa.le).mono (Sg.add_le (pa.ok.fresh _ (Nat.le_refl _)))
  ·simp[Sg.add])
 have pp:=pa.trans pb
 have hsz1:({ w with heap:=w.heap.push (.deferred (some [])) }:World).heap.size=w.heap.size+1:=by simp
 have hly:((σ.add nx w.heap.size 0).add (nx+1) (w.heap.size+1) 0).blk (nx+1)=some (w.heap.size+1):=by simp[Sg.add]
 have hln:((σ.add nx w.heap.size 0).add (nx+1) (w.heap.size+1) 0).blk nx=some w.heap.size:=by simp[Sg.add]
 rw[hsz1]at pb pp
 have hyl:Rel ((σ.add nx w.heap.size 0).add (nx+1) (w.heap.size+1) 0) (.yld (nx+1)) (.func (.yield (w.heap.size+1)) #[] #[]):=by
  simp only[Rel]
  exact⟨_,hly,rfl⟩
 have hinv:∀W:World,(invoke (Target.fn (.func fid) C.toArray) (F.toArray++#[.func (.yield (w.heap.size+1)) #[] #[]])).run P W=.ok (.enter fid (F.toArray++#[.func (.yield (w.heap.size+1)) #[] #[]]++C.toArray)) W:=fun W=>hcall _ W
 have hres:∀W:World,(resolve a.eval (rangeCall go (w.heap.size+1)) 0).run P W=.ok { target:=.fn (.func fid) C.toArray,args:=F.toArray++#[.func (.yield (w.heap.size+1)) #[] #[]] } W:=by
  intro W
  show (Deferred.ofValue (a.eval go) (#[Operand.const (.func (.yield (w.heap.size+1)) #[] #[])].map a.eval)).run P _=_
  have hmap:(#[Operand.const (.func (.yield (w.heap.size+1)) #[] #[])]:Array Operand).map a.eval=#[.func (.yield (w.heap.size+1)) #[] #[]]:=by simp[Act.eval]
  rw[e1,hmap]
  rfl
 refine⟨_,_,_,_,_,_,_,_,run_enterLoop_outer fn a.tmps ps assign body,hres _,fun _ _=>trivial,hinv _,fun hh=>by simp[fence,Fence.wide]at hh,?_⟩
 ·have hac:=hw _ _ (F++([.func (.yield (w.heap.size+1)) #[] #[]]++C)) pb.ok ((r1.mono pp.le).append (RelL.append (by simp only[RelL];exact⟨_,[],rfl,hyl,rfl⟩) (r2.mono pp.le)))
  unfold CR at hac
  rw[hcall]at hac
  simp only at hac
  have harr:(F++([Value.func (.yield (w.heap.size+1)) #[] #[]]++C)).toArray=F.toArray++#[Value.func (.yield (w.heap.size+1)) #[] #[]]++C.toArray:=by
   apply Array.ext'
   simp
  rw[harr]at hac
  refine calls_fence (Calls.mono hac fun e x q=>?_)
  cases e with
  |panicked ch=>exact q.elim
  |outgrown=>exact q.elim
  |returned V=>
   obtain⟨τ,v,g',ny',_,q2,st3,pend3,fn3,sz3,tm3,ps3,x3,y3,db3,hi3,hne,hQ⟩:=q
   obtain⟨b3,T3,d3,fn3',hb3,ho3,_,_,_⟩:=q2.ok.loop hi3
   have hb4:b3=w.heap.size+1:=by
    have:=(q2.le.blk (nx+1) _ hly).1
    rw[hb3]at this
    cases this
    rfl
   subst hb4
   refine⟨pend3,_,run_endLoop ho3 hne,?_⟩
   have pk:=Post.kill q2.ok hi3 hb3 (.loop { state:=.exhausted,pending:=pend3,fn:=fn3',tmps:=T3,params:=ps3,assign:=x3,body:=y3,defers:=d3 })
   have tot:=(pp.trans q2).trans pk
   have stf:St τ tm { a with defers:=[{ target:=.collected w.heap.size,args:=#[] }]++a.defers } sz (.mark nx::ds):=by
    have hle:σ.Le τ:=pp.le.trans q2.le
    refine⟨fun t v ht=>(st.tm t v ht).mono hle,st.size,w.heap.size,a.defers,rfl,(q2.le.blk nx _ hln).1,st.defers.mono hle⟩
   cases pend3 with
   |none=>exact⟨.norm,tm,_,ny',.mark nx::ds,τ,rfl,tot,stf,hQ⟩
   |some cd=>
    cases cd <;> try exact hQ.elim
    ·exact wpIn_exit ⟨.exit _,tm,_,ny',.mark nx::ds,τ,rfl,tot,stf,hQ⟩
    ·exact wpIn_ret ⟨.ret,tm,_,ny',.mark nx::ds,τ,rfl,tot,stf,hQ⟩
end
end Go.Ev
namespace Go.Ev
noncomputable section
def sa (P:Program)(t:TypeId):Option (Nat×Bool):=
 match P.underlying t,P.info? t with
 |some d,some i=>some (i.size,isA d)
 |_,_=>none
theorem sa_ok {P:Program}{t:TypeId}{s:Nat}{b:Bool}(h:sa P t=some (s,b)):TF P t s b:=by
 unfold sa at h
 split at h
 ·rename_i d i hd hi
  cases h
  exact⟨⟨i,hi,rfl⟩,d,hd,rfl⟩
 ·cases h
def fsL (P:Program)(l:List Field):Option (List (Nat×Nat×Bool)):=
 List.rec (motive:=fun _=>Option (List (Nat×Nat×Bool))) (some []) (fun f _ ih=>match sa P f.type with
  |some (s,b)=>match ih with
   |some l=>some ((f.offset,s,b)::l)
   |none=>none
  |none=>none) l
theorem fsL_ok {P:Program}:∀{l:List Field}{fs:List (Nat×Nat×Bool)},fsL P l=some fs→fs.length=l.length∧∀(k o s:Nat)(b:Bool),fs[k]?=some (o,s,b)→∃f:Field,l[k]?=some f∧f.offset=o∧TF P f.type s b
 |[],fs,h=>by cases h;exact⟨rfl,fun k o s b e=>by simp at e⟩
 |f::l,fs,h=>by
  change (match sa P f.type with
   |some (s,b)=>match fsL P l with
    |some l=>some ((f.offset,s,b)::l)
    |none=>none
   |none=>none)=some fs at h
  cases h1:sa P f.type with
  |none=>rw[h1]at h;cases h
  |some p=>
   obtain⟨s0,b0⟩:=p
   rw[h1]at h
   cases h2:fsL P l with
   |none=>rw[h2]at h;cases h
   |some l'=>
    rw[h2]at h
    cases h
    obtain⟨e1,e2⟩:=fsL_ok h2
    refine⟨by simp[e1],fun k o s b e=>?_⟩
    cases k with
    |zero=>
     simp at e
     obtain⟨q1,q2,q3⟩:=e
     subst q1
     subst q2
     subst q3
     exact⟨f,rfl,rfl,sa_ok h1⟩
    |succ k=>simpa using e2 k o s b (by simpa using e)
def fsOf (P:Program)(d:TypeDesc):Option (List (Nat×Nat×Bool)):=
 match d with
 |.struct fields=>fsL P fields.toList
 |.slice e=>match sa P e with |some (s,b)=>some [(0,s,b)] |none=>none
 |.array _ e=>match sa P e with |some (s,b)=>some [(0,s,b)] |none=>none
 |.pointer e=>match sa P e with |some (s,b)=>some [(0,s,b)] |none=>none
 |_=>some []
def zeroOf (sym:Bool)(i:TypeInfo):Option AV:=
 match i.zero with
 |none=>none
 |some Z=>match Nat.beq Z.cells.toList.length i.size with
  |true=>match sym with
   |true=>ofVS Z
   |false=>ofV Z
  |false=>none
def tiOf (sym:Bool)(P:Program)(t:TypeId):Option TI:=
 match P.underlying t,P.info? t with
 |some d,some i=>match fsOf P d with
  |some fs=>some (.mk d i.size i.bytes (zeroOf sym i) fs)
  |none=>none
 |_,_=>none
theorem tiOf_ok {sym:Bool}{P:Program}{t:TypeId}{ti:TI}(h:tiOf sym P t=some ti):TIok P t ti:=by
 unfold tiOf at h
 split at h
 ·rename_i d i hd hi
  cases hf:fsOf P d with
  |none=>rw[hf]at h;cases h
  |some fs=>
   rw[hf]at h
   cases h
   refine⟨hd,i,hi,rfl,rfl,fun z hz=>?_,fun fields e k o s b hk=>?_,fun fields e=>?_,fun e he o s b hk=>?_⟩
   ·unfold zeroOf at hz
    cases hz0:i.zero with
    |none=>rw[hz0]at hz;cases hz
    |some Z=>
     rw[hz0]at hz
     simp only at hz
     cases hb:Nat.beq Z.cells.toList.length i.size with
     |false=>rw[hb]at hz;cases hz
     |true=>
      rw[hb]at hz
      have:=Nat.eq_of_beq_eq_true hb
      refine⟨Z,rfl,fun σ=>?_,by simpa using this⟩
      cases sym with
      |true=>exact ofVS_ok hz σ
      |false=>exact ofV_ok hz σ
   ·subst e
    obtain⟨_,e2⟩:=fsL_ok (show fsL P fields.toList=some fs from hf)
    obtain⟨f,f1,f2⟩:=e2 k o s b hk
    exact⟨f,by simpa using f1,f2⟩
   ·subst e
    obtain⟨e1,_⟩:=fsL_ok (show fsL P fields.toList=some fs from hf)
    simpa using e1
   ·have key:∀e,(match sa P e with |some (s,b)=>some [(0,s,b)] |none=>none:Option (List (Nat×Nat×Bool)))=some fs→TF P e s b:=by
     intro e he
     cases hs:sa P e with
     |none=>rw[hs]at he;cases he
     |some p=>
      obtain⟨s0,b0⟩:=p
      rw[hs]at he
      cases he
      simp at hk
      obtain⟨q1,q2,q3⟩:=hk
      subst q2
      subst q3
      exact sa_ok hs
    rcases he with he |⟨n,he⟩ |he
    ·subst he;exact key e hf
    ·subst he;exact key e hf
    ·subst he;exact key e hf
 ·cases h
def tabK {α β:Type}(g:Nat→Option α) (n:Nat):(Tr α→β)→β:=
 Nat.rec (motive:=fun _=>(Tr α→β)→β) (fun k=>k .nil) (fun i ih k=>ih fun t=>t.putK (g i) i k) n
def tab {α:Type}(g:Nat→Option α) (n:Nat):Tr α:=tabK g n id
theorem tabK_eq {α:Type}(g:Nat→Option α):∀(n:Nat)(β:Type)(k:Tr α→β),tabK g n k=k (tab g n)
 |0,β,k=>rfl
 |n+1,β,k=>by
  show tabK g n (fun t=>t.putK (g n) n k)=k (tabK g n fun t=>t.putK (g n) n id)
  rw[tabK_eq g n,tabK_eq g n,Tr.putK_eq,Tr.putK_eq]
  rfl
theorem tab_get {α:Type}(g:Nat→Option α):∀(n t:Nat)(x:α),(tab g n).get t=some x→g t=some x
 |0,t,x,h=>by cases h
 |n+1,t,x,h=>by
  have e:tab g (n+1)=(tab g n).put n (g n):=by
   show tabK g n (fun t=>t.putK (g n) n id)=_
   rw[tabK_eq g n,Tr.putK_eq]
   rfl
  rw[e,Tr.get_put]at h
  by_cases h1:t=n
  ·rw[if_pos h1]at h;rw[h1];exact h
  ·rw[if_neg h1]at h;exact tab_get g n t x h
def fnOf (P:Program) (f:Nat):Option Func:=
 match P.funcs[f]? with
 |some fn=>match fn.body with
  | some _ => match fn.name == "runtime.NumGoroutine" with
   |true=>none
   |false=>some fn
  |none=>none
 |none=>none
theorem fnOf_ok {P:Program}{f:Nat}{fn:Func}(h:fnOf P f=some fn):P.funcs[f]?=some fn∧∀args w,(callFunc f args).run P w=.ok (.enter f args) w:=by
 unfold fnOf at h
 cases hf:P.funcs[f]? with
 |none=>rw[hf]at h;cases h
 |some fn'=>
  rw[hf]at h
  simp only at h
  cases hb:fn'.body with
  |none=>rw[hb]at h;cases h
  |some b=>
   rw[hb]at h
   simp only at h
   cases hn : fn'.name == "runtime.NumGoroutine" with
   |true=>rw[hn]at h;cases h
   |false=>
    rw[hn]at h
    cases h
    refine⟨rfl,fun args w=>?_⟩
    simp[callFunc,hf,hb]
    intro e
    rw[e]at hn
    simp at hn
def liesOf (P:Program)(e:TypeId) (k o:Nat)(u:TypeId):Bool:=liesAt P P.depth e k o u 1
theorem tab_at {α:Type}(g:Nat→Option α):∀(n t:Nat),t<n→(tab g n).get t=g t
 |0,t,h=>by omega
 |n+1,t,h=>by
  have e:tab g (n+1)=(tab g n).put n (g n):=by
   show tabK g n (fun t=>t.putK (g n) n id)=_
   rw[tabK_eq g n,Tr.putK_eq]
   rfl
  rw[e,Tr.get_put]
  by_cases h1:t=n
  ·rw[if_pos h1,h1]
  ·rw[if_neg h1,tab_at g n t (by omega)]
def cxS (P:Program)(G:Gl) (nt nf:Nat):Cx:=.mk (tab (tiOf true P) nt) .nil (tab (fnOf P) nf) G (liesOf P)
theorem cxS_ok (P:Program)(G:Gl) (nt nf:Nat):CxOk P (cxS P G nt nf):=
 ⟨fun t ti h=>tiOf_ok (tab_get _ _ _ _ h),fun t=>trivial,fun e k o u h=>h,fun f fn h=>fnOf_ok (tab_get _ _ _ _ h)⟩
theorem cxS_tt {P:Program}{G:Gl}{nt nf:Nat}{t:TypeId}{ti:TI}(ht:t<nt)(h:tiOf true P t=some ti):(cxS P G nt nf).tt.get t=some ti:=by
 show (tab (tiOf true P) nt).get t=_
 rw[tab_at _ _ _ ht];exact h
theorem cxS_ft {P:Program}{G:Gl}{nt nf:Nat}{f:FuncId}{fn:Func}(hf:f<nf)(h:fnOf P f=some fn):(cxS P G nt nf).ft.get f=some fn:=by
 show (tab (fnOf P) nf).get f=_
 rw[tab_at _ _ _ hf];exact h
end
end Go.Ev
