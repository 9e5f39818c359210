/- Texts RN RC. -/
import Derived.Test.YtjngkeajenankaaGreatDoorP32
import Derived.Test.YtjngkeajenankaaGreatDoorP34
set_option linter.unusedSimpArgs false
set_option linter.unusedVariables false
set_option maxRecDepth 100000
namespace Go.Ev
open Go.Proofs Go.RowKit
noncomputable section
variable {P : Program} {c : Cx} {σ τ υ : Sg} {h g : Tr ABlk} {nx ny : Nat} {w x : World}
def frzL (f:AV→Option AV)(l:List AV):Option (List AV):=
 List.rec (motive:=fun _=>Option (List AV)) (some []) (fun v _ ih=>match f v with
  |some u=>match ih with
   |some m=>some (u::m)
   |none=>none
  |none=>none) l
def chop (s:Nat) (n:Nat):List AV→Option (List AV):=
 Nat.rec (motive:=fun _=>List AV→Option (List AV)) (fun l=>match l with |[]=>some [] |_::_=>none)
  (fun _ ih l=>match Nat.beq s 1 with
   |true=>match l with
    |v::l=>match v.one with
     |true=>match ih l with
      |some m=>some (v::m)
      |none=>none
     |false=>none
    |[]=>none
   |false=>match Nat.beq (l.take s).length s with
    |true=>match ih (l.drop s) with
     |some m=>some (.agg (l.take s)::m)
     |none=>none
    |false=>none) n
theorem chop_succ (s n:Nat)(d:List AV):chop s (n+1) d=(match Nat.beq s 1 with
   |true=>match d with
    |v::l=>match v.one with
     |true=>match chop s n l with
      |some m=>some (v::m)
      |none=>none
     |false=>none
    |[]=>none
   |false=>match Nat.beq (d.take s).length s with
    |true=>match chop s n (d.drop s) with
     |some m=>some (.agg (d.take s)::m)
     |none=>none
    |false=>none):=rfl
theorem chop_ok {s:Nat}:∀(n:Nat)(d xs:List AV),chop s n d=some xs→Chunk s xs d∧xs.length=n
 |0,d,xs,e=>by
  cases d with
  |nil=>cases e;exact⟨rfl,rfl⟩
  |cons _ _=>cases e
 |n+1,d,xs,e=>by
  rw[chop_succ]at e
  cases hs:Nat.beq s 1 with
  |true=>
   rw[hs]at e
   have hs1:=Nat.eq_of_beq_eq_true hs
   cases d with
   |nil=>cases e
   |cons v l=>
    simp only at e
    cases hv:v.one with
    |false=>rw[hv]at e;cases e
    |true=>
     rw[hv]at e
     simp only at e
     cases hm:chop s n l with
     |none=>rw[hm]at e;cases e
     |some m=>
      rw[hm]at e
      cases e
      obtain⟨h1,h2⟩:=chop_ok n l m hm
      refine⟨⟨[v],l,rfl,?_,by rw[hs1];rfl,.inr hv,h1⟩,by simp[h2]⟩
      cases v <;> first |rfl |cases hv
  |false=>
   rw[hs]at e
   simp only at e
   cases hb:Nat.beq (d.take s).length s with
   |false=>rw[hb]at e;cases e
   |true=>
    rw[hb]at e
    simp only at e
    cases hm:chop s n (d.drop s) with
    |none=>rw[hm]at e;cases e
    |some m=>
     rw[hm]at e
     cases e
     obtain⟨h1,h2⟩:=chop_ok n _ m hm
     exact⟨⟨d.take s,d.drop s,(List.take_append_drop s d).symm,rfl,Nat.eq_of_beq_eq_true hb,.inl rfl,h1⟩,by simp[h2]⟩
def frzV (tt:Tr TI)(g:Tr ABlk)(p:Nat→Bool) (k:Nat):AV→Option AV:=
 Nat.rec (motive:=fun _=>AV→Option AV) (fun _=>none) (fun _ ih v=>match plain v with
  |true=>some v
  |false=>match v with
   |.agg l=>match frzL ih l with
    |some m=>some (.agg m)
    |none=>none
   |.tup l=>match frzL ih l with
    |some m=>some (.tup m)
    |none=>none
   |.sl i o len _ _=>match p i with
    |false=>none
    |true=>match g.get i with
     |some (.cells e n c _ _)=>match tt.get e with
      |some (.mk _ s _ _ _)=>match Nat.ble (Nat.add o (Nat.mul len s)) n with
       |false=>none
       |true=>match getN c (Nat.mul len s) o with
        |some cs=>match frzL ih cs with
         |some ds=>match chop s len ds with
          |some xs=>some (.fz s false xs)
          |none=>none
         |none=>none
        |none=>none
      |none=>none
     |_=>none
   |_=>none) k
theorem frzL_ok {f:AV→Option AV}{R:AV→AV→Prop}{RL:List AV→List AV→Prop}(h0:RL [] [])(hc:∀v u l m,R v u→RL l m→RL (v::l) (u::m))(hf:∀v u,f v=some u→R v u):∀(l m:List AV),frzL f l=some m→RL l m
 |[],m,e=>by cases e;exact h0
 |v::l,m,e=>by
  change (match f v with
   |some u=>match frzL f l with
    |some m=>some (u::m)
    |none=>none
   |none=>none)=some m at e
  cases h1:f v with
  |none=>rw[h1]at e;cases e
  |some u=>
   rw[h1]at e
   simp only at e
   cases h2:frzL f l with
   |none=>rw[h2]at e;cases e
   |some m'=>
    rw[h2]at e
    cases e
    exact hc _ _ _ _ (hf v u h1) (frzL_ok h0 hc hf l m' h2)
theorem frzV_succ (tt:Tr TI)(g:Tr ABlk)(p:Nat→Bool) (k:Nat)(v:AV):frzV tt g p (k+1) v=(match plain v with
  |true=>some v
  |false=>match v with
   |.agg l=>match frzL (frzV tt g p k) l with
    |some m=>some (.agg m)
    |none=>none
   |.tup l=>match frzL (frzV tt g p k) l with
    |some m=>some (.tup m)
    |none=>none
   |.sl i o len _ _=>match p i with
    |false=>none
    |true=>match g.get i with
     |some (.cells e n c _ _)=>match tt.get e with
      |some (.mk _ s _ _ _)=>match Nat.ble (Nat.add o (Nat.mul len s)) n with
       |false=>none
       |true=>match getN c (Nat.mul len s) o with
        |some cs=>match frzL (frzV tt g p k) cs with
         |some ds=>match chop s len ds with
          |some xs=>some (.fz s false xs)
          |none=>none
         |none=>none
        |none=>none
      |none=>none
     |_=>none
   |_=>none):=rfl
theorem frzV_gen {tt:Tr TI}{p:Nat→Bool}{R:AV→AV→Prop}{RL:List AV→List AV→Prop}(h0:RL [] [])(hc:∀v u l m,R v u→RL l m→RL (v::l) (u::m))(hp:∀v,plain v=true→R v v)(ha:∀l m,RL l m→R (.agg l) (.agg m))(ht:∀l m,RL l m→R (.tup l) (.tup m))
  (hs:∀i o len cp op e n c opn esz es cs ds xs,p i=true→g.get i=some (.cells e n c opn esz)→o+cs.length≤n→(∀j,j<cs.length→c.get (o+j)=cs[j]?)→RL cs ds→Chunk es xs ds→xs.length=len→R (.sl i o len cp op) (.fz es false xs)):
  ∀(k:Nat) (v u:AV),frzV tt g p k v=some u→R v u
 |0,v,u,e=>by cases e
 |k+1,v,u,e=>by
  have ih:=frzL_ok (f:=frzV tt g p k) h0 hc (frzV_gen (tt:=tt) h0 hc hp ha ht hs k)
  rw[frzV_succ]at e
  cases hpl:plain v with
  |true=>rw[hpl]at e;cases e;exact hp v hpl
  |false=>
   rw[hpl]at e
   cases v <;> try (cases e;done)
   case agg l=>
    simp only at e
    cases h1:frzL (frzV tt g p k) l with
    |none=>rw[h1]at e;cases e
    |some m=>rw[h1]at e;cases e;exact ha _ _ (ih l m h1)
   case tup l=>
    simp only at e
    cases h1:frzL (frzV tt g p k) l with
    |none=>rw[h1]at e;cases e
    |some m=>rw[h1]at e;cases e;exact ht _ _ (ih l m h1)
   case sl i o len cp op=>
    simp only at e
    cases h1:p i with
    |false=>rw[h1]at e;cases e
    |true=>
     rw[h1]at e
     simp only at e
     cases h2:g.get i with
     |none=>rw[h2]at e;cases e
     |some B=>
      rw[h2]at e
      cases B <;> try (cases e;done)
      rename_i te n cc opn esz
      simp only at e
      cases h3:tt.get te with
      |none=>rw[h3]at e;cases e
      |some ti=>
       rw[h3]at e
       cases ti with
       |mk q1 s q3 q4 q5=>
       simp only at e
       cases h4:Nat.ble (Nat.add o (Nat.mul len s)) n with
       |false=>rw[h4]at e;cases e
       |true=>
        rw[h4]at e
        simp only at e
        cases h5:getN cc (Nat.mul len s) o with
        |none=>rw[h5]at e;cases e
        |some cs=>
         rw[h5]at e
         simp only at e
         cases h6:frzL (frzV tt g p k) cs with
         |none=>rw[h6]at e;cases e
         |some ds=>
          rw[h6]at e
          simp only at e
          cases h7:chop s len ds with
          |none=>rw[h7]at e;cases e
          |some xs=>
           rw[h7]at e
           cases e
           obtain⟨r1,r2⟩:=getN_spec _ _ _ _ h5
           obtain⟨r3,r4⟩:=chop_ok _ _ _ h7
           have:=Nat.le_of_ble_eq_true h4
           exact hs i o len cp op te n cc opn esz s cs ds xs h1 h2 (by rw[r1];exact this) (fun j hj=>r2 j (by omega)) (ih _ _ h6) r3 r4
theorem frzV_ok {tt:Tr TI}{p:Nat→Bool}(hp:∀i,p i=true→nx≤i){k:Nat}{v u:AV}(e:frzV tt g p k v=some u):Fz g nx v u:=
 frzV_gen (R:=Fz g nx) (RL:=FzL g nx) .nil .cons Fz.same .agg .tup (fun i o len cp op e n c opn esz es cs ds xs h1 h2 h3 h4 h5 h6 h7=>.slz i o len cp op e n c opn esz es cs ds xs (hp i h1) h2 h3 h4 h5 h6 h7) k v u e
theorem fryV_ok {tt:Tr TI}{p:Nat→Bool}{F:Nat→Prop}(hp:∀i,p i=true→F i){k:Nat}{v u:AV}(e:frzV tt g p k v=some u):Fy g F v u:=
 frzV_gen (R:=Fy g F) (RL:=FyL g F) .nil .cons (fun v _=>.same v) .agg .tup (fun i o len cp op e n c opn esz es cs ds xs h1 h2 h3 h4 h5 h6 h7=>.slz i o len cp op e n c opn esz es cs ds xs (hp i h1) h2 h3 h4 h5 h6 h7) k v u e
theorem fryL_ok {tt:Tr TI}{p:Nat→Bool}{F:Nat→Prop}(hp:∀i,p i=true→F i){k:Nat}{l m:List AV}(e:frzL (frzV tt g p k) l=some m):FyL g F l m:=
 frzL_ok (R:=Fy g F) .nil .cons (fun _ _ h=>fryV_ok hp h) l m e
abbrev HkT:=List (FuncId×List AV×AV)
def HkOk (c:Cx)(l:HkT):Prop:=∀e∈l,Ret Tryz.prog c e.1 e.2.1 e.2.2
def hasH (l:HkT)(f:FuncId):Bool:=List.rec (motive:=fun _=>Bool) false (fun e _ ih=>match Nat.beq e.1 f with |true=>true |false=>ih) l
def findH (l:HkT)(f:FuncId)(args:List AV):Option AV:=
 List.rec (motive:=fun _=>Option AV) none (fun e _ ih=>match Nat.beq e.1 f with
  |true=>match avEqL e.2.1 args with
   |true=>some e.2.2
   |false=>ih
  |false=>ih) l
theorem findH_ok {c:Cx}{f:FuncId}{args:List AV}{u:AV}:∀{l:HkT},HkOk c l→findH l f args=some u→Ret Tryz.prog c f args u
 |[],_,e=>by cases e
 |q::l,hl,e=>by
  change (match Nat.beq q.1 f with
  |true=>match avEqL q.2.1 args with
   |true=>some q.2.2
   |false=>findH l f args
  |false=>findH l f args)=some u at e
  have ih:=findH_ok (f:=f) (args:=args) (u:=u) (l:=l) fun x hx=>hl x (by simp[hx])
  cases h1:Nat.beq q.1 f with
  |false=>rw[h1]at e;exact ih e
  |true=>
   rw[h1]at e
   simp only at e
   cases h2:avEqL q.2.1 args with
   |false=>rw[h2]at e;exact ih e
   |true=>
    rw[h2]at e
    cases e
    have:=hl q (by simp)
    rw[← Nat.eq_of_beq_eq_true h1,← avEqL_ok _ _ h2]
    exact this
def nmF (k:Nat):List AV→List Nat:=
 Nat.rec (motive:=fun _=>List AV→List Nat) (fun _=>[]) (fun _ ih l=>List.rec (motive:=fun _=>List Nat) [] (fun v _ m=>match v with
  |.agg l=>ih l++m
  |.tup l=>ih l++m
  |.sl i _ _ _ _=>i::m
  |_=>m) l) k
def memQ (l:List Nat) (i:Nat):Bool:=List.rec (motive:=fun _=>Bool) false (fun j _ ih=>match Nat.beq j i with |true=>true |false=>ih) l
theorem memQ_ok {i:Nat}:∀{l:List Nat},memQ l i=true→i∈l
 |[],h=>by cases h
 |j::l,h=>by
  change (match Nat.beq j i with |true=>true |false=>memQ l i)=true at h
  cases h1:Nat.beq j i with
  |true=>rw[Nat.eq_of_beq_eq_true h1];simp
  |false=>rw[h1]at h;exact List.mem_cons_of_mem _ (memQ_ok h)
def killK {β:Type}(h:Tr ABlk)(l:List Nat):(Tr ABlk→β)→β:=
 List.rec (motive:=fun _=>(Tr ABlk→β)→β) (fun k=>k h) (fun i _ ih k=>ih fun h'=>h'.putK none i k) l
theorem killK_eq {β:Type}(h:Tr ABlk):∀(l:List Nat)(k:Tr ABlk→β),killK h l k=k (killL h l)
 |[],_=>rfl
 |i::l,k=>by
  show killK h l (fun h'=>h'.putK none i k)=_
  rw[killK_eq h l,Tr.putK_eq]
  rfl
def hFry (l:HkT)(c:Cx)(ca:Ca):Ca:=fun f args h nx=>match hasH l f with
 |false=>ca f args h nx
 |true=>match plainL args with
  |true=>match findH l f args with
   |some v=>.ok v h nx
   |none=>ca f args h nx
  |false=>match frzL (frzV c.tt h (memQ (nmF 6 args)) 12) args with
   |none=>ca f args h nx
   |some m=>match findH l f m with
    |none=>ca f args h nx
    |some v=>killK h (nmF 6 args) fun h'=>.ok v h' nx
theorem hFry_ok {l:HkT}{c:Cx}(hl:HkOk c l){ca:Ca}(hca:CaOk Tryz.prog c ca):CaOk Tryz.prog c (hFry l c ca):=by
 intro f args h nx v g ny he
 unfold hFry at he
 cases h0:hasH l f with
 |false=>rw[h0]at he;exact hca f args h nx v g ny he
 |true=>
  rw[h0]at he
  simp only at he
  cases h1:plainL args with
  |true=>
   rw[h1]at he
   simp only at he
   cases h2:findH l f args with
   |none=>rw[h2]at he;exact hca f args h nx v g ny he
   |some u=>
    rw[h2]at he
    cases he
    exact findH_ok hl h2 h nx
  |false=>
   rw[h1]at he
   simp only at he
   cases h2:frzL (frzV c.tt h (memQ (nmF 6 args)) 12) args with
   |none=>rw[h2]at he;exact hca f args h nx v g ny he
   |some m=>
    rw[h2]at he
    simp only at he
    cases h3:findH l f m with
    |none=>rw[h3]at he;exact hca f args h nx v g ny he
    |some u=>
     rw[h3]at he
     simp only[killK_eq]at he
     cases he
     exact ACall_fry (fun i=>i∈nmF 6 args) (FyH.kill _) (fryL_ok (fun i hi=>memQ_ok hi) h2) (findH_ok hl h3 _ nx)
def cxQ (b:Bool)(P:Program)(G:Gl) (nt nf:Nat):Cx:=.mk (tab (tiOf b P) nt) (eqTab P [46]) (tab (fnOf P) nf) G (liesOf P)
set_option linter.unusedVariables false in
theorem cxQ_ok (b:Bool)(P:Program)(G:Gl) (nt nf:Nat):CxOk P (cxQ b P G nt nf):=
 ⟨fun t ti h=>tiOf_ok (tab_get _ _ _ _ h),fun t=>eqTab_ok _ t,fun e k o u h=>h,fun f fn h=>fnOf_ok (tab_get _ _ _ _ h)⟩
def G2:Gl:=⟨8,false,tabG⟩
def cx2:Cx:=cxQ false Tryz.prog G2 524 436
theorem cx2ok:CxOk Tryz.prog cx2:=cxQ_ok _ _ _ _ _
theorem cx2G:cx2.G=G2:=rfl
def evP (l:HkT)(c:Cx):CY:=ev c (fun ca=>hFry l c (hCont 310 (hSame 86 (hIdx 306 ca)))) (fun ca ya=>edB c ca ya) 100000 60
def hmB (f:FuncId):Bool:=Nat.beq f 140 || Nat.beq f 142
def runCP (l:HkT)(c:Cx) (f:Nat)(args:List AV):CO:=(evP l c).ca f args .nil 8
def runCQ (l:HkT)(c:Cx) (f:Nat)(args:List AV):CO:=runDfr c (evP l c).ca (evP l c).ya (fun ca ya=>edB c ca ya) 100000 20 hmB f args .nil 8
def onCx {α:Type}(k:Cx→α):α:=tabK (tiOf false Tryz.prog) 524 fun tt=>tabK (fnOf Tryz.prog) 436 fun ft=>k (.mk tt (eqTab Tryz.prog [46]) ft G2 (liesOf Tryz.prog))
theorem onCx_eq {α:Type}(k:Cx→α):onCx k=k cx2:=by
 unfold onCx
 rw[tabK_eq]
 show tabK (fnOf Tryz.prog) 436 _=_
 rw[tabK_eq]
 rfl
def fin8 (g:Tr ABlk):Bool:=(g.get 0).isNone && ((g.get 1).isNone && ((g.get 2).isNone && ((g.get 3).isNone && ((g.get 4).isNone && ((g.get 5).isNone && ((g.get 6).isNone && (g.get 7).isNone))))))
theorem fin8_ok {g:Tr ABlk}(h:fin8 g=true) (k:Nat)(hk:k<8):g.get k=none:=by
 unfold fin8 at h
 simp only[Bool.and_eq_true,Option.isNone_iff_eq_none]at h
 obtain⟨a0,a1,a2,a3,a4,a5,a6,a7⟩:=h
 match k,hk with
 |0,_=>exact a0
 |1,_=>exact a1
 |2,_=>exact a2
 |3,_=>exact a3
 |4,_=>exact a4
 |5,_=>exact a5
 |6,_=>exact a6
 |7,_=>exact a7
def frzR (tt:Tr TI)(r:CO):Option AV:=match r with
 |.ok v g _=>match fin8 g with
  |true=>frzV tt g (Nat.ble 8) 12 v
  |false=>none
 |.fail=>none
def runP (l:HkT) (f:Nat)(args:List AV):Option AV:=onCx fun c=>frzR c.tt (runCP l c f args)
def runQ (l:HkT) (f:Nat)(args:List AV):Option AV:=onCx fun c=>frzR c.tt (runCQ l c f args)
theorem cxQ_ft {b:Bool}{P:Program}{G:Gl}{nt nf:Nat}{f:FuncId}{fn:Func}(hf:f<nf)(h:fnOf P f=some fn):(cxQ b P G nt nf).ft.get f=some fn:=by
 show (tab (fnOf P) nf).get f=_
 rw[tab_at _ _ _ hf]
 exact h
theorem ft2_140:cx2.ft.get 140=some Tryz.f140:=cxQ_ft (by decide) (by kernel_rfl)
theorem ft2_142:cx2.ft.get 142=some Tryz.f142:=cxQ_ft (by decide) (by kernel_rfl)
theorem ft2_310:cx2.ft.get 310=some Tryz.f310:=cxQ_ft (by decide) (by kernel_rfl)
theorem xo86:XOk Tryz.prog 86 Extern.AbiNoEscape.same:=xok_of (fn:=Tryz.f86) (by kernel_rfl) (by kernel_rfl) (by kernel_rfl) (by kernel_rfl) (by kernel_rfl)
theorem xo306:XOk Tryz.prog 306 Extern.BytealgIndexByte.indexByte:=xok_of (fn:=Tryz.f306) (by kernel_rfl) (by kernel_rfl) (by kernel_rfl) (by kernel_rfl) (by kernel_rfl)
theorem evP_ok {l:HkT}(hl:HkOk cx2 l):CaOk Tryz.prog cx2 (evP l cx2).ca∧YaOk Tryz.prog cx2 (evP l cx2).ya:=
 ev_ok cx2ok (fun _ hca=>hFry_ok hl (hCont_ok cx2ok ft2_310 rfl (hSame_ok xo86 (hIdx_ok xo306 hca)))) (fun _ _ h1 h2=>edB_ok mixed cx2ok h1 h2) 100000 60
theorem hmB_ok (f:FuncId)(h:hmB f=true):Harm Tryz.prog f∧∃fd,cx2.ft.get f=some fd:=by
 unfold hmB at h
 rcases Bool.or_eq_true _ _ ▸ h with h |h
 ·have:=Nat.eq_of_beq_eq_true h
  subst this
  exact⟨harm140,_,ft2_140⟩
 ·have:=Nat.eq_of_beq_eq_true h
  subst this
  exact⟨harm142,_,ft2_142⟩
theorem frzR_spec {tt:Tr TI}{r:CO}{u:AV}(h:frzR tt r=some u):∃v g ny,r=.ok v g ny∧(∀k,k<8→g.get k=none)∧Fz g 8 v u:=by
 unfold frzR at h
 split at h
 ·rename_i v g ny
  split at h
  ·rename_i hf
   exact⟨v,g,ny,rfl,fin8_ok hf,frzV_ok (fun i hi=>Nat.le_of_ble_eq_true hi) h⟩
  ·cases h
 ·cases h
theorem Ret.of_nilT {P:Program}{c:Cx}(hG:∀g cs,c.G.tab g=some cs→∀(σ τ:Sg) V,(∀b C,σ.imm b=some C→τ.imm b=some C)→σ.opq=τ.opq→Rel σ (.ip cs) V→Rel τ (.ip cs) V){fid:FuncId}{args:List AV}{u:AV}(ha:nfL args=true)(hu:nfV u=true)
  (hc:ACall P c fid args .nil c.G.n fun v g _=>Ext c.G.n .nil g∧Fz g c.G.n v u):Ret P c fid args u:=by
 intro h nx σ w A hk hA
 let σ0:Sg:={ blk:=fun i=>if i<c.G.n then some i else none,cap:=σ.cap,opq:=σ.opq,imm:=σ.imm }
 have hk0:Ok c.G σ0 .nil c.G.n w:=by
  refine⟨fun g hg=>if_pos hg,Nat.le_refl _,fun i hi=>if_neg (by omega),(fun i j b B B' h1=>by cases h1),(fun i B h1=>by cases h1),(fun b C hb=>⟨(hk.imm b C hb).1,(fun i B h1=>by cases h1)⟩),fun g cs hg=>?_⟩
  exact hG g cs hg σ σ0 _ (fun _ _ e=>e) rfl (hk.gl g cs hg)
 refine(hc σ0 w A hk0 (RelL.nf (σ:=σ) (τ:=σ0) (fun _ _ e=>e) args A ha hA)).mono fun V x q=>?_
 obtain⟨τ,v,g,ny,q1,q2,q3,q4⟩:=q
 have p:=Post.frz hk0 q2 q3
 have hV:=q4.rel q2.ok V q1
 let τ':Sg:={ blk:=σ.blk,cap:=σ.cap,opq:=σ.opq,imm:=(τ.frz x g c.G.n).imm }
 have hle:σ.Le τ':=⟨fun _ _ e=>⟨e,rfl⟩,rfl,fun b C hb=>p.le.imm b C hb⟩
 have hkeep:∀b,b<w.heap.size→x.heap[b]?=w.heap[b]?:=fun b hb=>p.fr.keep b hb fun i B hi=>by cases hi
 refine⟨τ',u,h,nx,Rel.nf (σ:=τ.frz x g c.G.n) (τ:=τ') (fun _ _ e=>e) u V hu hV,⟨⟨hk.glob,hk.le,hk.fresh,hk.inj,fun i B h1=>?_,fun b C hb=>⟨(p.ok.imm b C hb).1,fun i B h1 e=>?_⟩,fun i cs hi=>(hk.gl i cs hi).mono hle⟩,hle,⟨p.fr.os,p.fr.tape,p.fr.output,p.fr.size,fun b hb _=>hkeep b hb,fun i B b h1 h2=>.inr ⟨i,B,h1,h2⟩,fun b C hb=>?_⟩,Nat.le_refl _⟩,rfl,rfl,rfl⟩
 ·obtain⟨b,o,r1,r2,r3⟩:=hk.blk i B h1
  exact⟨b,o,r1,by rw[hkeep b (lt_of_heap r2)];exact r2,r3.mono hle r1⟩
 ·rcases p.fr.imm b C hb with h2 |h2 |⟨j,B',hj,_⟩
  ·exact(hk.imm b C h2).2 i B h1 e
  ·have:=hk.blt h1 e
   omega
  ·cases hj
 ·rcases p.fr.imm b C hb with h2 |h2 |⟨j,B',hj,_⟩
  ·exact .inl h2
  ·exact .inr (.inl h2)
  ·cases hj
theorem pow10_nf:nfL pow10L=true:=by kernel_rfl
theorem tabG_nf (g:Nat)(cs:List AV)(h:tabG g=some cs)(σ τ:Sg)(V:Value)(h1:∀b C,σ.imm b=some C→τ.imm b=some C)(h2:σ.opq=τ.opq)(hr:Rel σ (.ip cs) V):Rel τ (.ip cs) V:=by
 unfold tabG at h
 split at h
 ·cases h
  simp only[Rel,RelL]at hr ⊢
  obtain⟨b,o,C,L,e1,e2,⟨U,L',e3,⟨e4,e5⟩,e6⟩,e7⟩:=hr
  exact⟨b,o,C,L,e1,h1 _ _ e2,⟨U,L',e3,⟨by rw[e4,h2],e5⟩,e6⟩,e7⟩
 ·cases h
  exact Rel.nf h1 _ V (by simpa only[nfV]using pow10_nf) hr
 ·cases h
def isR (r:Option AV)(u:AV):Bool:=match r with
 |some v=>avEq v u
 |none=>false
theorem isR_ok {r:Option AV}{u:AV}(h:isR r u=true):r=some u:=by
 cases r with
 |none=>cases h
 |some v=>rw[avEq_ok v u h]
theorem ret_of {f:FuncId}{args:List AV}{u:AV}{r:CO}(hr:∀v g ny,r=.ok v g ny→ACall Tryz.prog cx2 f args .nil 8 (eqQ v g ny))(h:frzR cx2.tt r=some u)(ha:nfL args=true)(hu:nfV u=true):Ret Tryz.prog cx2 f args u:=by
 obtain⟨v,g,ny,e1,e2,e3⟩:=frzR_spec h
 refine Ret.of_nilT (fun g cs h=>tabG_nf g cs (by rw[cx2G]at h;exact h)) ha hu ?_
 rw[cx2G]
 refine ACall.mono (hr v g ny e1) ?_
 rintro v' g' ny' ⟨rfl,rfl,rfl⟩
 exact⟨fun k hk=>e2 k hk,e3⟩
theorem ret_P {l:HkT}(hl:HkOk cx2 l){f:FuncId}{args:List AV}{u:AV}(h:isR (runP l f args) u=true)(ha:nfL args=true)(hu:nfV u=true):Ret Tryz.prog cx2 f args u:=by
 have h1:=isR_ok h
 unfold runP at h1
 rw[onCx_eq]at h1
 exact ret_of (fun v g ny e=>(evP_ok hl).1 _ _ _ _ _ _ _ e) h1 ha hu
theorem ret_Q {l:HkT}(hl:HkOk cx2 l){f:FuncId}{args:List AV}{u:AV}(h:isR (runQ l f args) u=true)(ha:nfL args=true)(hu:nfV u=true):Ret Tryz.prog cx2 f args u:=by
 have h1:=isR_ok h
 unfold runQ at h1
 rw[onCx_eq]at h1
 exact ret_of (fun v g ny e=>runDfr_ok cx2ok (evP_ok hl).1 (evP_ok hl).2 (edB_ok mixed cx2ok (evP_ok hl).1 (evP_ok hl).2) 100000 20 hmB_ok e) h1 ha hu
end
end Go.Ev
namespace Go.Ev
open Go.Proofs Go.RowKit
noncomputable section
def clsC (n:Nat):AV:=.int .u8 (.ofNat n)
def clsLit:List AV:=[clsC 0,clsC 0,clsC 0,clsC 0,clsC 0,clsC 0,clsC 0,clsC 0,clsC 0,clsC 1,clsC 1,clsC 0,clsC 0,clsC 0,clsC 0,clsC 0,clsC 0,clsC 0,clsC 0,clsC 0,clsC 0,clsC 0,clsC 0,clsC 0,clsC 0,clsC 0,clsC 0,clsC 0,clsC 0,clsC 0,clsC 0,clsC 0,clsC 1,clsC 8,clsC 0,clsC 2,clsC 0,clsC 0,clsC 0,clsC 0,clsC 6,clsC 6,clsC 0,clsC 0,clsC 6,clsC 0,clsC 6,clsC 0,clsC 4,clsC 4,clsC 4,clsC 4,clsC 4,clsC 4,clsC 4,clsC 4,clsC 4,clsC 4,clsC 6,clsC 6,clsC 7,clsC 6,clsC 7,clsC 0,clsC 0,clsC 3,clsC 3,clsC 3,clsC 3,clsC 3,clsC 3,clsC 3,clsC 3,clsC 3,clsC 3,clsC 3,clsC 3,clsC 3,clsC 3,clsC 3,clsC 3,clsC 3,clsC 3,clsC 3,clsC 3,clsC 3,clsC 3,clsC 3,clsC 3,clsC 3,clsC 3,clsC 6,clsC 0,clsC 6,clsC 0,clsC 5,clsC 0,clsC 3,clsC 3,clsC 3,clsC 3,clsC 3,clsC 3,clsC 3,clsC 3,clsC 3,clsC 3,clsC 3,clsC 3,clsC 3,clsC 3,clsC 3,clsC 3,clsC 3,clsC 3,clsC 3,clsC 3,clsC 3,clsC 3,clsC 3,clsC 3,clsC 3,clsC 3,clsC 6,clsC 0,clsC 6,clsC 0,clsC 0,clsC 0,clsC 0,clsC 0,clsC 0,clsC 0,clsC 0,clsC 0,clsC 0,clsC 0,clsC 0,clsC 0,clsC 0,clsC 0,clsC 0,clsC 0,clsC 0,clsC 0,clsC 0,clsC 0,clsC 0,clsC 0,clsC 0,clsC 0,clsC 0,clsC 0,clsC 0,clsC 0,clsC 0,clsC 0,clsC 0,clsC 0,clsC 0,clsC 0,clsC 0,clsC 0,clsC 0,clsC 0,clsC 0,clsC 0,clsC 0,clsC 0,clsC 0,clsC 0,clsC 0,clsC 0,clsC 0,clsC 0,clsC 0,clsC 0,clsC 0,clsC 0,clsC 0,clsC 0,clsC 0,clsC 0,clsC 0,clsC 0,clsC 0,clsC 0,clsC 0,clsC 0,clsC 0,clsC 0,clsC 0,clsC 0,clsC 0,clsC 0,clsC 0,clsC 0,clsC 0,clsC 0,clsC 0,clsC 0,clsC 0,clsC 0,clsC 0,clsC 0,clsC 0,clsC 0,clsC 0,clsC 0,clsC 0,clsC 0,clsC 0,clsC 0,clsC 0,clsC 0,clsC 0,clsC 0,clsC 0,clsC 0,clsC 0,clsC 0,clsC 0,clsC 0,clsC 0,clsC 0,clsC 0,clsC 0,clsC 0,clsC 0,clsC 0,clsC 0,clsC 0,clsC 0,clsC 0,clsC 0,clsC 0,clsC 0,clsC 0,clsC 0,clsC 0,clsC 0,clsC 0,clsC 0,clsC 0,clsC 0,clsC 0,clsC 0,clsC 0,clsC 0,clsC 0,clsC 0,clsC 0,clsC 0,clsC 0,clsC 0,clsC 0]
def iz (n:Nat):AV:=.int .i64 (.ofNat n)
def xT1:AV:=.str 24 1133005250850681905824513408309836983308009559820210561889
def xS1:AV:=.str 33 10791025739113343661005965278089766003903512877283247038219938387485675271583089
def xT2:AV:=.str 38 5881407215460022963816903414783755082290809057709481828832409148356627606944891565415621473
def xS2:AV:=.str 58 17341236635483517093360644259124004399962472250429624593819028978547863871738859903119549848769119566012460806458422128913665535291053926519
def xOk (l:List AV):AV:=.tup [.agg l,iz 0,iz 0]
def xP1:List AV:=[.str 2 12656,iz 2,iz 2,.str 3 7889268,iz 5,iz 1,.str 0 0,iz 0,iz 0,.sl0,.sl0,iz 1,.str 0 0,iz 0,.sl0,iz 2,.str 0 0,iz 0,.sl0,iz 2,.str 0 0,iz 0,.sl0]
def xP2:List AV:=[.str 2 12912,iz 2,iz 2,.str 3 7889268,iz 3,iz 3,.str 6 111520694627945,iz 3,iz 2,.sl0,.sl0,iz 1,.str 0 0,iz 0,.sl0,iz 2,.str 0 0,iz 0,.sl0,iz 2,.str 0 0,iz 0,.sl0]
def xI1:AV:=.agg [iz 2,.str 2 12656,.str 0 0,.str 1 49,xT1,xS1,.bool false]
def xI2:AV:=.agg [iz 2,.str 2 12912,.str 0 0,.str 0 0,xT2,xS2,.bool false]
def xC:AV:=.agg [.fz 7 false [xI1,xI2]]
def xD:AV:=.agg [.fz 4 false [.agg [.str 6 111520694627945,iz 2,iz 0,iz 9]]]
def xK0:HkT:=[(136,[],.agg clsLit)]
def xK1:HkT:=(95,[xT1],xOk xP1)::(95,[xT2],xOk xP2)::(96,[xS1],xOk xP1)::(96,[xS2],xOk xP2)::(205,[.sl0,.sl0],.bool true)::xK0
def xN0:AV:=.tup [.agg [iz 0,.sl0],iz 0]
def xK2:HkT:=(97,[.agg xP1,.agg xP1,xD],xN0)::(97,[.agg xP2,.agg xP2,xD],xN0)::xK1
def xL:AV:=.agg [.fz 4 false [.agg [.str 6 111520694627945,iz 2,iz 0,iz 9]],.fz 23 false [.agg xP1,.agg xP2],.fz 1 false [iz 0,iz 0]]
def xq:AV:=.str 3 7889268
def xi (n:Nat):AV:=.fz 1 false [iz n]
def xV:AV:=.fz 1 false [.str 72 90037074543105308038835336752324994571836734798197876340677035917629223702319120505819961029992605033519246235894690033962566636279847804655317899120819757778441345647589937,.str 111 751273769965355499223812807884250287578010592028230767323298333900733544240393600438474360451985502207619851298813416011864439566191818970634638372130309704447571869259735481429241312994400558876089644189769607021601835256804906468544399915536755942103861812344732209]
def xA1:AV:=.agg [iz 1,iz 3,.fz 1 false [.str 2 12912],.fz 1 false [.str 2 12656]]
def xA5:AV:=.agg [iz 1,iz 5,.fz 1 false [.str 2 12656],.sl0]
def xA10:AV:=.agg [iz 0,iz 0,.sl0,.sl0]
def xAr (l:List AV):AV:=.tup [.agg l,.agg [iz 0,.sl0],iz 0]
def xLT:AV:=.tup [xL,.int .i64 (Int.negSucc 0),iz 0]
def xK3:HkT:=(60,[xI1,xD],xAr xP1)::(60,[xI2,xD],xAr xP2)::xK2
def xK4:HkT:=(30,[xC,xD],xLT)::(28,[xC],.bool true)::(29,[xq],.bool true)::(11,[xC],xV)::(31,[xL,xq,xi 1],.tup [xA1,iz 0])::(31,[xL,xq,xi 5],.tup [xA5,iz 0])::(31,[xL,xq,xi 10],.tup [xA10,iz 1])::(66,[xL,xi 1],.tup [.fz 1 false [.str 2 12656,.str 2 12912],iz 0])::xK0
def xRe (k:Nat)(a b:AV):AV:=.agg [iz k,a,b]
def xs1:AV:=.str 2 12656
def xs2:AV:=.str 2 12912
def xs0:AV:=.str 0 0
def xR1:AV:=.fz 3 false [xRe 3 xs1 xs0,xRe 3 xs2 xs0,xRe 4 xs2 xs1,xRe 5 xs2 xs0]
def xR5:AV:=.fz 3 false [xRe 3 xs1 xs0,xRe 1 xs2 xs0,xRe 5 xs1 xs0]
def xRt:AV:=.str 16 74697482151785018809167186526313013813
def xK5:HkT:=(33,[xL,xq,xi 1,xA1],xR1)::(33,[xL,xq,xi 5,xA5],xR5)::(10,[xV],xRt)::xK4
def xJ1:AV:=.agg [iz 2,xs1,xs0,xs0,xT1,xS1,.bool false]
def xJ2:AV:=.agg [iz 2,xs2,xs0,xs0,xT2,xS2,.bool false]
def xM (n:Nat)(r:AV) (k:Nat)(b o:AV):AV:=.agg [xRt,iz 2,xq,xi n,iz 7,.fz 7 false [xJ1,xJ2],r,iz 1,iz k,b,o]
def xM1:AV:=xM 1 xR1 3 (.fz 1 false [xs2]) (.fz 1 false [xs1])
def xM5:AV:=xM 5 xR5 5 (.fz 1 false [xs1]) .sl0
def xM0:AV:=.tup [.agg [xs0,iz 0,xs0,.sl0,iz 0,.sl0,.sl0,iz 0,iz 0,.sl0,.sl0],iz 1]
end
end Go.Ev
