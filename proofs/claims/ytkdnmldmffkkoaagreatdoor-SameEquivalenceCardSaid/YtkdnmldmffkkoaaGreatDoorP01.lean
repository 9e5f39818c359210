/- Texts. -/
import Derived.Laws.Strings
import Derived.Test.YtkdnmldmffkkoaaGreatDoorP00
set_option linter.unusedSimpArgs false
set_option linter.unusedVariables false
set_option maxRecDepth 100000
namespace Go.Ev
inductive TI where
 |mk (d:TypeDesc) (size bytes:Nat) (zero:Option AV) (fs:List (Nat×Nat×Bool))
def jN:TypeDesc→Bool
 |.struct _=>true
 |.array _ _=>true
 |_=>false
def TF (P:Program)(t:TypeId) (s:Nat)(b:Bool):Prop:=(∃i,P.info? t=some i∧i.size=s)∧∃d,P.underlying t=some d∧jN d=b
def cJ (P:Program)(t:TypeId):TI→Prop
 |.mk d size bytes zero fs=>P.underlying t=some d∧∃i,P.info? t=some i∧i.size=size∧i.bytes=bytes∧
   (∀z,zero=some z→∃Z,i.zero=some Z∧(∀σ,av σ z Z)∧Z.cells.size=size)∧
   (∀fields:Array Field,d=.struct fields→∀(k o s:Nat) (b:Bool),fs[k]?=some (o,s,b)→∃f:Field,fields[k]?=some f∧f.offset=o∧TF P f.type s b)∧
   (∀fields:Array Field,d=.struct fields→fs.length=fields.size)∧
   (∀e,(d=.slice e∨(∃n,d=.array n e)∨d=.pointer e)→∀o s b,fs[0]?=some (o,s,b)→TF P e s b)
inductive R where
 |val (v:AV) (h:Tr ABlk) (nx:Nat)
 |unit (h:Tr ABlk) (nx:Nat)
 |fail
theorem Dz {P:Program}{t:TypeId}{d:TypeDesc}(hd:P.underlying t=some d)(w:World):(isAgg t).run P w=.ok (jN d) w:=by
 cases d <;> simp[isAgg,run_underlying hd,jN]
section
variable (P : Program) (G : Gl) (σ : Sg) (h : Tr ABlk) (nx : Nat) (w : World)
def SV (m:Sem Value)(v:AV)(g:Tr ABlk) (ny:Nat):Prop:=∃V τ x,m.run P w=.ok V x∧av τ v V∧Post G σ h nx w τ g ny x
def SU (m:Sem Unit)(g:Tr ABlk) (ny:Nat):Prop:=∃τ x,m.run P w=.ok () x∧Post G σ h nx w τ g ny x
def RV (m:Sem Value):R→Prop
 |.val v g ny=>SV P G σ h nx w m v g ny
 |.unit _ _=>False
 |.fail=>True
def RU (m:Sem Unit):R→Prop
 |.val _ _ _=>False
 |.unit g ny=>SU P G σ h nx w m g ny
 |.fail=>True
end
variable {P : Program} {G : Gl} {σ τ υ : Sg} {h g f : Tr ABlk} {nx ny nz : Nat} {w x y : World}
theorem SV.pure (hk:Ok G σ h nx w){m:Sem Value}{v:AV}{V:Value}(hm:m.run P w=.ok V w)(hr:av σ v V):SV P G σ h nx w m v h nx:=
 ⟨V,σ,w,hm,hr,.refl hk⟩
def AV.cells:AV→List AV
 |.agg l=>l
 |v=>[v]
theorem av.cells {v:AV}{V:Value}(hr:av σ v V):aC σ v.cells V.cells.toList:=by
 have one:∀{v:AV} {V:Value},av σ v V→V.cells=#[V]→aC σ [v] V.cells.toList:=by
  intro v V hr e;rw[e];simp only[aC];exact⟨V,[],rfl,hr,rfl⟩
 cases v with
 |agg l=>
  simp only[av]at hr;obtain⟨L,e,hl⟩:=hr;subst e;exact hl
 |opq n=>
  have h2:=hr;simp only[av]at h2;refine one hr ?_;cases V <;> first |rfl |(exfalso;have:=h2.2.1;simp[Value.oneCell']at this)
 |_=>
  refine one hr ?_;simp only[av]at hr
  first
   |(subst hr;rfl)
   |(obtain⟨_,e⟩:=hr;subst e;rfl)
   |(obtain⟨_,_,e⟩:=hr;subst e;rfl)
   |(obtain⟨_,e,_⟩:=hr;subst e;rfl)
   |(obtain⟨_,_,e,_⟩:=hr;subst e;rfl)
   |(obtain⟨_,_,_,_,e,_⟩:=hr;subst e;rfl)
def AV.one:AV→Bool
 |.agg _=>false
 |.tup _=>false
 |_=>true
theorem av.one {v:AV}{V:Value}(hr:av σ v V)(h1:v.one=true):V.oneCell'=true:=by
 cases v with
 |agg l=>simp[AV.one]at h1
 |tup l=>simp[AV.one]at h1
 |opq n=>simp only[av]at hr;exact hr.2.1
 |_=>
  simp only[av]at hr
  first
   |(subst hr;rfl)
   |(obtain⟨_,e⟩:=hr;subst e;rfl)
   |(obtain⟨_,_,e⟩:=hr;subst e;rfl)
   |(obtain⟨_,e,_⟩:=hr;subst e;rfl)
   |(obtain⟨_,_,e,_⟩:=hr;subst e;rfl)
   |(obtain⟨_,_,_,_,e,_⟩:=hr;subst e;rfl)
noncomputable section
def dB (l:List AV):Bool:=List.rec (motive:=fun _=>Bool) true (fun v _ ih=>match v.one with |true=>ih |false=>false) l
theorem K5:∀{l:List AV}{L:List Value},dB l=true→aC σ l L→∀V∈L,V.oneCell'=true
 |[],L,_,hr,V,hV=>by simp only[aC]at hr;subst hr;cases hV
 |v::l,L,ha,hr,V,hV=>by
  change (match v.one with |true=>dB l |false=>false)=true at ha
  simp only[aC]at hr;obtain⟨U,L',e,h1,h2⟩:=hr;subst e;cases hv:v.one with
  |false=>rw[hv]at ha;cases ha
  |true=>
   rw[hv]at ha
   rcases List.mem_cons.1 hV with e |e
   ·subst e;exact h1.one hv
   ·exact K5 ha h2 V e
def newK (t:TypeId)(l:List AV)(h:Tr ABlk) (nx:Nat)(mk:Nat→AV):R:=
 qV l .nil 0 fun c=>fN l.length fun n=>h.putK (some (.cells t n c false 0)) nx fun h'=>fN (Nat.succ nx) fun ax=>.val (mk nx) h' ax
theorem zFt (hk:Ok G σ h nx w)(t:TypeId){l:List AV}{L:List Value}(hl:aC σ l L):
  Post G σ h nx w (σ.add nx w.heap.size 0) (h.put nx (some (.cells t l.length (ef l .nil 0) false 0))) (nx+1) { w with heap:=w.heap.push (.cells L.toArray t) }:=by
 refine Post.alloc hk 0 _ _ ?_;have hle:σ.Le (σ.add nx w.heap.size 0):=Sg.add_le (hk.fresh nx (ae _));simp only[bX];refine⟨L.toArray,(0,0),rfl,fun k aU=>?_,fun k _=>by omega,?_⟩
 ·obtain⟨v,hv⟩:∃v,l[k]?=some v:=⟨l[k],by simp[aU]⟩;obtain⟨V,h1,h2⟩:=hl.get hv;refine⟨v,V,?_,by simpa using h1,h2.mono hle⟩;rw[pz,if_pos (by omega)];simpa using hv
 ·simp[hl.length]
theorem Jw (hk:Ok G σ h nx w)(t:TypeId){l:List AV}{L:List Value}(hl:aC σ l L){mk:Nat→AV}{m:Sem Value}{V:Value}
  (hm:m.run P w=.ok V { w with heap:=w.heap.push (.cells L.toArray t) }) (hr:av (σ.add nx w.heap.size 0) (mk nx) V):RV P G σ h nx w m (newK t l h nx mk):=by
 simp only[newK,kY,fN_eq,Tr.putK_eq,RV];exact⟨V,_,_,hm,hr,zFt hk t hl⟩
def Ru (t:TypeId)(v:AV)(h:Tr ABlk) (nx:Nat):R:=newK t v.cells h nx fun i=>.ptr i 0
theorem zP4 (hk:Ok G σ h nx w)(t:TypeId){v:AV}{V:Value}(hr:av σ v V):RV P G σ h nx w (Instr.box t V) (Ru t v h nx):=by
 refine Jw hk t hr.cells (V:=.pointer (some ⟨w.heap.size,0,none⟩)) ?_ ?_
 ·simp[Instr.box,newVar,newRow,newObj,Sem.run]
 ·simp only[av];exact⟨w.heap.size,by simp[Sg.add],rfl⟩
def P1 (ti:TI)(t:TypeId)(h:Tr ABlk) (nx:Nat):R:=
 match ti with
 |.mk _ _ _ (some z) _=>newK t z.cells h nx fun i=>.ptr i 0
 |_=>.fail
theorem zJd (hk:Ok G σ h nx w)(t:TypeId){ti:TI}(ht:cJ P t ti):RV P G σ h nx w (Instr.alloc t true (.tuple #[])) (P1 ti t h nx):=by
 cases ti with
 |mk d size bytes zero fs=>
  cases zero with
  |none=>trivial
  |some z=>
   obtain⟨hu,i,hi,_,_,hz,_⟩:=ht;obtain⟨Z,hZ,jM,_⟩:=hz z rfl;show RV P G σ h nx w _ (newK t z.cells h nx fun i=>.ptr i 0);refine Jw hk t (jM σ).cells (V:=.pointer (some ⟨w.heap.size,0,none⟩)) ?_ ?_
   ·simp[Instr.alloc,yP hi hZ,newVar,newRow,newObj,Sem.run]
   ·simp only[av];exact⟨w.heap.size,by simp[Sg.add],rfl⟩
def jm (ti:TI)(a:AV)(h:Tr ABlk) (nx:Nat):R:=
 match ti with
 |.mk d size _ _ _=>
  match a with
  |.ptr i o=>
   match h.get i with
   |some (.cells _ n c _ _)=>
    match jN d with
    |true=>
     match Nat.ble (Nat.add o size) n with
     |true=>match iI c size o with |some l=>.val (.agg l) h nx |none=>.fail
     |false=>.fail
    |false=>match Nat.ble (Nat.succ o) n with
     |true=>match c.get o with |some v=>.val v h nx |none=>.fail
     |false=>.fail
   |_=>.fail
  |.ip cs=>match jN d with
   |true=>match Nat.ble size cs.length with
    |true=>.val (.agg (cs.take size)) h nx
    |false=>.fail
   |false=>match cs with |v::_=>.val v h nx |[]=>.fail
  |_=>.fail
theorem Ok.ip (hk:Ok G σ h nx w){cs:List AV}{A:Value}(ha:av σ (.ip cs) A):∃b o L,A=.pointer (some ⟨b,o,none⟩)∧aC σ cs L∧∀(k:Nat) V,L[k]?=some V→w.cell? ⟨b,o+k,none⟩=some V:=by
 simp only[av]at ha;obtain⟨b,o,C,L,e,h1,h2,h3⟩:=ha;refine⟨b,o,L,e,h2,fun k V aU=>?_⟩;obtain⟨⟨t,fr,hh⟩,_⟩:=hk.imm b C h1;rw[nO hh];rw[h3,List.getElem?_take]at aU;split at aU
 ·rw[List.getElem?_drop]at aU;simpa using aU
 ·cases aU
def RL (P:Program)(σ:Sg)(h:Tr ABlk) (nx:Nat)(w:World)(m:Sem Value):R→Prop
 |.val v g ny=>g=h∧ny=nx∧∃V,m.run P w=.ok V w∧av σ v V
 |.unit _ _=>False
 |.fail=>True
theorem RL.mk {m:Sem Value}{v:AV}{V:Value}(hm:m.run P w=.ok V w)(hr:av σ v V):RL P σ h nx w m (.val v h nx):=⟨rfl,rfl,V,hm,hr⟩
theorem RL.ok (hk:Ok G σ h nx w){m:Sem Value}{r:R}(hm:RL P σ h nx w m r):RV P G σ h nx w m r:=by
 cases r with
 |fail=>trivial
 |unit _ _=>exact hm.elim
 |val v g ny=>
  obtain⟨e1,e2,V,h1,h2⟩:=hm;subst e1;subst e2;exact SV.pure hk h1 h2
theorem Z0 (hk:Ok G σ h nx w)(t:TypeId){ti:TI}(ht:cJ P t ti){a:AV}{A:Value}(ha:av σ a A):RL P σ h nx w (Instr.loadAt t A) (jm ti a h nx):=by
 cases ti with
 |mk d size bytes zero fs=>
 obtain⟨hu,inf,hi,hs,_⟩:=ht;unfold jm;cases a <;> try trivial
 case ip cs=>
  obtain⟨b,o,L,e,hL,hc⟩:=hk.ip ha;subst e;simp only;split
  ·rename_i hA;split
   ·rename_i hle;have mJ:size≤cs.length:=ah hle;have hlen:=hL.length;refine RL.mk (V:=.agg (L.take size).toArray) ?_ ?_
    ·have jd:(loadCells ⟨b,o,none⟩ (L.take size).length).run P w=.ok (L.take size).toArray w:=by
      refine run_loadCells_list w _ _ fun j v hj=>?_;rw[iM];refine hc j v ?_;rw[List.getElem?_take]at hj;split at hj
      ·exact hj
      ·cases hj
     rw[List.length_take,Nat.min_eq_left (by omega)]at jd;simp[Instr.loadAt,Instr.sureAddr,loadVar,Dz hu,hA,nN hi,hs,jd]
    ·simp only[av];exact⟨_,rfl,hL.take size⟩
   ·trivial
  ·rename_i hA;cases cs with
   |nil=>trivial
   |cons v cs=>
    simp only[aC]at hL;obtain⟨V,L',e1,h1,h2⟩:=hL;refine RL.mk (V:=V) ?_ h1;have jJ:w.cell? ⟨b,o,none⟩=some V:=by simpa using hc 0 V (by rw[e1];rfl)
    simp[Instr.loadAt,Instr.sureAddr,loadVar,Dz hu,hA,jJ]
 rename_i i o;simp only[av]at ha;obtain⟨b,hb,e⟩:=ha;subst e;simp only;split
 ·rename_i e n c opn esz hg;obtain⟨b',C,fr,aS,aF,aK,_,_⟩:=hk.cells hg;rw[hb]at aS;cases aS;split
  ·rename_i hA;split
   ·rename_i hle;have mJ:o+size≤n:=ah hle;split
    ·rename_i l hl;obtain⟨hlen,bA⟩:=Ql c size o l hl;have hex:∃L:List Value,L.length=size∧∀k,k<size→∃v V,l[k]?=some v∧L[k]?=some V∧C[o+k]?=some V∧av σ v V:=by
      refine⟨(List.range size).map fun k=>C.getD (o+k) undef,by simp,fun k aU=>?_⟩;obtain⟨v,V,h1,h2,h3⟩:=aK (o+k) (by omega);refine⟨v,V,(bA k aU).symm.trans h1,?_,h2,h3⟩;simp[aU,Array.getD_eq_getD_getElem?,h2]
     obtain⟨L,hL,If⟩:=hex;refine RL.mk (V:=.agg L.toArray) ?_ ?_
     ·have jd:(loadCells ⟨b,o,none⟩ L.length).run P w=.ok L.toArray w:=by
       refine run_loadCells_list w _ L fun j v hj=>?_;have xV:j<size:=by
        rcases Nat.lt_or_ge j L.length with h1 |h1
        ·omega
        ·rw[List.getElem?_eq_none h1]at hj;cases hj
       obtain⟨_,V,_,h2,h3,_⟩:=If j xV;rw[iM,nO aF,h3,← h2,hj]
      rw[hL]at jd;simp[Instr.loadAt,Instr.sureAddr,loadVar,Dz hu,hA,nN hi,hs,jd]
     ·simp only[av];refine⟨L,rfl,aC.of_get (by omega) fun k v V h1 h2=>?_⟩;have aU:k<size:=by
       rcases Nat.lt_or_ge k l.length with h3 |h3
       ·omega
       ·rw[List.getElem?_eq_none h3]at h1;cases h1
      obtain⟨v',V',e1,e2,_,e4⟩:=If k aU;rw[h1]at e1;rw[h2]at e2;cases e1;cases e2;exact e4
    ·trivial
   ·trivial
  ·rename_i hA;split
   ·rename_i hle;have mJ:o<n:=ah hle;split
    ·rename_i v hv;obtain⟨v',V,h1,h2,h3⟩:=aK o mJ;rw[hv]at h1;cases h1;refine RL.mk (V:=V) ?_ h3;have hc:w.cell? ⟨b,o,none⟩=some V:=by rw[nO aF,h2]
     simp[Instr.loadAt,Instr.sureAddr,loadVar,Dz hu,hA,hc]
    ·trivial
   ·trivial
 ·trivial
theorem zSc (hk:Ok G σ h nx w)(t:TypeId){ti:TI}(ht:cJ P t ti){a:AV}{A:Value}(ha:av σ a A):RV P G σ h nx w (Instr.loadAt t A) (jm ti a h nx):=
 (Z0 hk t ht ha).ok hk
def JO (ti:TI)(a v:AV)(h:Tr ABlk) (nx:Nat):R:=
 match ti with
 |.mk _ size _ _ _=>
  match a with
  |.ptr i o=>
   match h.get i with
   |some (.cells e n c opn esz)=>
    match dB v.cells with
    |true=>match Nat.beq v.cells.length size with
     |true=>match Nat.ble (Nat.add o size) n with
      |true=>qV v.cells c o fun c'=>h.putK (some (.cells e n c' opn esz)) i fun h'=>.unit h' nx
      |false=>.fail
     |false=>.fail
    |false=>.fail
   |_=>.fail
  |_=>.fail
theorem Lm (hk:Ok G σ h nx w){i n esz:Nat}{e:TypeId}{c:Tr AV}{opn:Bool}(hg:h.get i=some (.cells e n c opn esz)){o:Nat}{l:List AV}{L:List Value}
  (hl:aC σ l L) (hle:o+l.length≤n) {b:Nat} {C:Array Value} {fr:Nat×Nat} (hb:σ.blk i=some b) (aF:w.heap[b]?=some (.cells C e fr)):
  Post G σ h nx w σ (h.put i (some (.cells e n (ef l c o) opn esz))) nx (gT w b (.cells (oH L C o) e fr)):=by
 obtain⟨b',C',fr',aS,si,aK,oR,bI⟩:=hk.cells hg;rw[hb]at aS;cases aS;rw[aF]at si;cases si;have hn:n≤C.size:=by split at bI <;> omega
 refine Post.set hk hg hb _ _ ?_;simp only[bX];refine⟨oH L C o,fr,rfl,fun k aU=>?_,by rw[CW];exact oR,by rw[CW];exact bI⟩;rw[pz,Lg _ _ _ _ (by rw[hl.length];omega),hl.length]
 by_cases cB:o≤k∧k<o+l.length
 ·rw[if_pos cB,if_pos cB];obtain⟨v,hv⟩:∃v,l[k-o]?=some v:=⟨l[k-o]'(by omega),by simp[show k-o<l.length by omega]⟩;obtain⟨V,h1,h2⟩:=hl.get hv;exact⟨v,V,hv,h1,h2⟩
 ·rw[if_neg cB,if_neg cB];exact aK k aU
theorem Xs (hk:Ok G σ h nx w)(t:TypeId){ti:TI}(ht:cJ P t ti){a v:AV}{A V:Value}(ha:av σ a A)(hv:av σ v V):RU P G σ h nx w (Instr.storeAt t A V) (JO ti a v h nx):=by
 cases ti with
 |mk d size bytes zero fs=>
 obtain⟨hu,inf,hi,hs,_⟩:=ht;unfold JO;cases a <;> try trivial
 rename_i i o;simp only[av]at ha;obtain⟨b,hb,e⟩:=ha;subst e;simp only[kY,Tr.putK_eq];split
 ·rename_i e n c opn esz hg;obtain⟨b',C,fr,aS,aF,aK,oR,bI⟩:=hk.cells hg;rw[hb]at aS;cases aS;split
  ·rename_i lI;split
   ·rename_i hlen;have Ft:v.cells.length=size:=ad hlen;split
    ·rename_i hle;have mJ:o+size≤n:=ah hle;have hn:n≤C.size:=by split at bI <;> omega
     have iR:=hv.cells;have hL:=iR.length;refine⟨σ,_,?_,Lm hk hg iR (by omega) hb aF⟩;have aW:=Kl (P:=P) (b:=b) (o:=o) (e:=e) (fr:=fr) V.cells.toList 0 C w aF (by omega) oR (K5 lI iR);have hc:V.cells.size=size:=by rw[← Ft,← hL];simp
     simp only[Nat.add_zero]at aW;simp[Instr.storeAt,Instr.sureAddr,storeVar,nN hi,hs,hc,aW]
    ·trivial
   ·trivial
  ·trivial
 ·trivial
end
theorem ml (l n:Nat):(cC l n).length=l:=by simp[cC]
theorem tw (l n:Nat):(bE l n).size=l:=by simp[bE,ByteArray.size,ml]
theorem KZ (l n:Nat):(bE l n).toList=cC l n:=ByteArray.toList_mk _
theorem pv {l n k:Nat}(hk:k<l):(cC l n)[k]?=some (UInt8.ofNat (n / 256 ^ k % 256)):=by simp[cC,hk]
theorem u8 {n:Nat}(h:n<256):(UInt8.ofNat n).toNat=n:=by simp;omega
theorem zGg:∀(l:Nat){n m:Nat},n<256 ^ l→m<256 ^ l→cC l n=cC l m→n=m:=by
 intro l
 induction l with
 |zero=>intro n m h1 h2 _;simp at h1 h2;omega
 |succ l ih=>
  intro n m h1 h2 e;have e0:n % 256=m % 256:=by
   have:=congrArg (fun s=>s[0]?) e;simp only[pv (Nat.succ_pos l),Option.some.injEq]at this;have:=congrArg UInt8.toNat this;rw[u8 (Nat.mod_lt _ (by decide)),u8 (Nat.mod_lt _ (by decide))]at this;simpa using this
  have e1:n / 256=m / 256:=by
   refine ih (by rw[Nat.div_lt_iff_lt_mul (by decide)];rwa [← Nat.pow_succ]) (by rw[Nat.div_lt_iff_lt_mul (by decide)];rwa [← Nat.pow_succ]) ?_;apply List.ext_getElem?;intro k
   by_cases hk:k<l
   ·rw[pv hk,pv hk];have:=congrArg (fun s=>s[k+1]?) e;simp only[pv (Nat.succ_lt_succ hk)]at this;rw[Nat.pow_succ,Nat.mul_comm,← Nat.div_div_eq_div_mul,← Nat.div_div_eq_div_mul]at this;exact this
   ·rw[List.getElem?_eq_none (by rw[ml];omega),List.getElem?_eq_none (by rw[ml];omega)]
  have a1:=Nat.div_add_mod n 256;have a2:=Nat.div_add_mod m 256;omega
def xc (l n k m:Nat):Bool:=match Nat.beq l k with |true=>Nat.beq n m |false=>false
theorem zyv {l n k m:Nat}(h1:n<256 ^ l)(h2:m<256 ^ k):((bE l n).toList == (bE k m).toList)=xc l n k m:=by
 rw[KZ,KZ];unfold xc;cases e:Nat.beq l k with
 |false=>
  have aQ:l≠k:=fun e'=>by subst e';simp at e
  simp only;apply beq_eq_false_iff_ne.2;intro e';have:=congrArg List.length e';rw[ml,ml]at this;exact aQ this
 |true=>
  have:=ad e;subst this;simp only
  by_cases h:n=m
  ·subst h;simp
  ·have:Nat.beq n m=false:=by
    cases hb:Nat.beq n m with
    |false=>rfl
    |true=>exact absurd (ad hb) h
   rw[this];exact beq_eq_false_iff_ne.2 fun e'=>h (zGg l h1 h2 e')
theorem zMn {l n k m:Nat}(h1:n<256 ^ l):cC l n++cC k m=cC (l+k) (n+m * 256 ^ l):=by
 apply List.ext_getElem?;intro j
 by_cases hj:j<l
 ·rw[List.getElem?_append_left (by rw[ml];exact hj),pv hj,pv (by omega)]
  congr 2
  have e:256 ^ l=256 ^ j * (256 * 256 ^ (l-j-1)):=by
   rw[← Nat.pow_succ',← Nat.pow_add];congr 1;omega
  rw[e,show m * (256 ^ j * (256 * 256 ^ (l-j-1)))=256 ^ j * (256 * (m * 256 ^ (l-j-1))) by ac_rfl];rw[Nat.add_mul_div_left _ _ (Nat.pos_of_ne_zero (by simp)),Nat.add_mul_mod_self_left]
 ·rw[List.getElem?_append_right (by rw[ml];omega),ml]
  by_cases eK:j<l+k
  ·rw[pv (by omega),pv eK]
   congr 3
   have e:256 ^ j=256 ^ l * 256 ^ (j-l):=by rw[← Nat.pow_add];congr 1;omega
   rw[e,← Nat.div_div_eq_div_mul,Nat.mul_comm m,Nat.add_mul_div_left _ _ (Nat.pos_of_ne_zero (by simp)),Nat.div_eq_of_lt h1,Nat.zero_add]
  ·rw[List.getElem?_eq_none (by rw[ml];omega),List.getElem?_eq_none (by rw[ml];omega)]
theorem zRd {l n k m:Nat}(h1:n<256 ^ l):bE l n++bE k m=bE (l+k) (n+m * 256 ^ l):=by
 apply ByteArray.ext;rw[ByteArray.data_append];show (cC l n).toArray++(cC k m).toArray=_;rw[List.append_toArray,zMn h1];rfl
theorem zKe {l n k m:Nat}(h1:n<256 ^ l)(h2:m<256 ^ k):n+m * 256 ^ l<256 ^ (l+k):=by
 rw[Nat.pow_add,Nat.mul_comm (256 ^ l)]
 calc n+m * 256 ^ l<256 ^ l+m * 256 ^ l:=by omega
  _=(m+1) * 256 ^ l:=by rw[Nat.add_mul];omega
  _≤256 ^ k * 256 ^ l:=Nat.mul_le_mul_right _ h2
theorem zQ1 {l n a b:Nat}(h2:b≤l):((cC l n).drop a).take (b-a)=cC (b-a) (n / 256 ^ a % 256 ^ (b-a)):=by
 apply List.ext_getElem?;intro j
 by_cases hj:j<b-a
 ·rw[List.getElem?_take_of_lt hj,List.getElem?_drop,pv (by omega),pv hj]
  congr 2
  rw[Nat.pow_add,← Nat.div_div_eq_div_mul];have e:256 ^ (b-a)=256 ^ j * (256 * 256 ^ (b-a-j-1)):=by
   rw[← Nat.pow_succ',← Nat.pow_add];congr 1;omega
  rw[e,Nat.mod_mul_right_div_self,Nat.mod_mul_right_mod]
 ·rw[List.getElem?_eq_none (by simp[ml];omega),List.getElem?_eq_none (by rw[ml];omega)]
theorem Z1 {l n a b:Nat}(h2:b≤l):(bE l n).extract a b=bE (b-a) (n / 256 ^ a % 256 ^ (b-a)):=by
 apply ByteArray.ext;rw[ByteArray.data_extract];show (cC l n).toArray.extract a b=(cC _ _).toArray;rw[← zQ1 h2,List.extract_toArray]
theorem zI8 {l n k:Nat}(hk:k<l):(bE l n)[k]?=some (UInt8.ofNat (n / 256 ^ k % 256)):=by
 have:k<(bE l n).size:=by rw[tw];exact hk
 have h0:(bE l n)[k]?=some ((bE l n)[k]'this):=getElem?_pos (bE l n) k this;rw[h0];have h2:=pv (n:=n) hk;rw[aa (by rw[ml];exact hk)]at h2;rw[← h2];rfl
noncomputable section
def Db (l:Nat):Nat→Nat→Nat→Bool:=
 Nat.rec (motive:=fun _=>Nat→Nat→Nat→Bool) (fun _ k _=>Nat.ble 1 k)
  (fun _ ih n k m=>match k with
   |0=>false
   |Nat.succ k'=>match Nat.beq (Nat.mod n 256) (Nat.mod m 256) with
    |true=>ih (Nat.div n 256) k' (Nat.div m 256)
    |false=>Nat.ble (Nat.succ (Nat.mod n 256)) (Nat.mod m 256)) l
theorem qW (l n:Nat):cC (l+1) n=UInt8.ofNat (n % 256)::cC l (n / 256):=by
 apply List.ext_getElem?;intro j;cases j with
 |zero=>rw[pv (Nat.succ_pos l)];simp
 |succ j=>
  by_cases hj:j<l
  ·rw[pv (by omega),List.getElem?_cons_succ,pv hj,Nat.pow_succ,Nat.mul_comm,← Nat.div_div_eq_div_mul]
  ·rw[List.getElem?_eq_none (by rw[ml];omega),List.getElem?_cons_succ,List.getElem?_eq_none (by rw[ml];omega)]
theorem zTv:∀(l n k m:Nat),Op.bytesLess (cC l n) (cC k m)=Db l n k m:=by
 intro l
 induction l with
 |zero=>
  intro n k m;cases k with
  |zero=>rfl
  |succ k=>rw[qW];rfl
 |succ l ih=>
  intro n k m;cases k with
  |zero=>simp[cC,Op.bytesLess];rfl
  |succ k=>
   rw[qW,qW,Op.bytesLess,ih];show _=(match Nat.beq (n % 256) (m % 256) with
    |true=>Db l (n / 256) k (m / 256)
    |false=>Nat.ble (Nat.succ (n % 256)) (m % 256))
   have a1:n % 256<256:=Nat.mod_lt _ (by decide);have a2:m % 256<256:=Nat.mod_lt _ (by decide);cases e:Nat.beq (n % 256) (m % 256) with
   |true=>
    have:=ad e;rw[this];simp
   |false=>
    have aQ:n % 256≠m % 256:=fun e'=>by rw[e']at e;simp at e
    have hb:(UInt8.ofNat (n % 256) == UInt8.ofNat (m % 256))=false:=by
     apply beq_eq_false_iff_ne.2;intro e';have:=congrArg UInt8.toNat e';rw[u8 a1,u8 a2]at this;exact aQ this
    rw[hb];simp only[Bool.false_and,Bool.or_false];have:(UInt8.ofNat (n % 256)<UInt8.ofNat (m % 256))↔n % 256<m % 256:=by
     rw[UInt8.lt_iff_toNat_lt,u8 a1,u8 a2]
    cases e2:Nat.ble (Nat.succ (n % 256)) (m % 256) with
    |true=>have h9:n % 256<m % 256:=ah e2;simp[this,h9]
    |false=>
     have:¬n % 256<m % 256:=fun hh=>by rw[Nat.ble_eq_true_of_le hh]at e2;cases e2
     simp_all
def wj (l:List UInt8):Nat:=List.rec (motive:=fun _=>Nat) 0 (fun b _ ih=>Nat.add b.toNat (Nat.mul 256 ih)) l
theorem XL:∀(l:List UInt8),wj l<256 ^ l.length∧cC l.length (wj l)=l
 |[]=>by simp[wj,cC]
 |b::l=>by
  obtain⟨h1,h2⟩:=XL l;have hb:b.toNat<256:=b.toNat_lt;have e:wj (b::l)=b.toNat+256 * wj l:=rfl;rw[e];refine⟨?_,?_⟩
  ·rw[List.length_cons,Nat.pow_succ];omega
  ·rw[List.length_cons,qW,show (b.toNat+256 * wj l) % 256=b.toNat by omega,show (b.toNat+256 * wj l) / 256=wj l by omega,h2];simp
end
def yq (bits:Nat):Int→Nat
 |.ofNat a=>Nat.mod a (Nat.pow 2 bits)
 |.negSucc a=>Nat.sub (Nat.sub (Nat.pow 2 bits) 1) (Nat.mod a (Nat.pow 2 bits))
theorem zFw (bits:Nat) (n:Int):n % (2 ^ bits:Int)=Int.ofNat (yq bits n):=by
 have Al:0<2 ^ bits:=Nat.pow_pos (by decide);cases n with
 |ofNat a=>
  show ((a:Nat):Int) % (2 ^ bits:Int)=((a % 2 ^ bits:Nat):Int);simp
 |negSucc a=>
  have h1:a % 2 ^ bits<2 ^ bits:=Nat.mod_lt _ Al;have hm:yq bits (.negSucc a)=2 ^ bits-1-a % 2 ^ bits:=rfl;rw[hm];have h2:(Int.ofNat (2 ^ bits-1-a % 2 ^ bits))=(2 ^ bits:Int)-1-(a % 2 ^ bits:Nat):=by
   show ((2 ^ bits-1-a % 2 ^ bits:Nat):Int)=_;rw[Int.natCast_sub (by omega),Int.natCast_sub (by omega)];simp
  have e:(Int.negSucc a)=(Int.ofNat (2 ^ bits-1-a % 2 ^ bits))+(2 ^ bits:Int) * (-(a / 2 ^ bits:Nat)-1):=by
   have:=Nat.div_add_mod a (2 ^ bits);rw[Int.negSucc_eq,h2];have h3:(a:Int)=(2 ^ bits:Int) * (a / 2 ^ bits:Nat)+(a % 2 ^ bits:Nat):=by
    have h4:((2 ^ bits * (a / 2 ^ bits)+a % 2 ^ bits:Nat):Int)=(a:Int):=by rw[this]
    rw[← h4];simp
   rw[Int.mul_sub,Int.mul_neg];omega
  have h5:(Int.ofNat (2 ^ bits-1-a % 2 ^ bits))<(2 ^ bits:Int):=by rw[h2];omega
  have h6:(0:Int)≤Int.ofNat (2 ^ bits-1-a % 2 ^ bits):=Int.natCast_nonneg _;generalize Int.ofNat (2 ^ bits-1-a % 2 ^ bits)=q at e h5 h6;rw[e,Int.add_mul_emod_self_left,Int.emod_eq_of_lt h6 h5]
def nQ (k:IntKind) (n:Int):Int:=
 match k.signed with
 |false=>Int.ofNat (yq k.bits n)
 |true=>match Nat.ble (Nat.pow 2 (Nat.sub k.bits 1)) (yq k.bits n) with
  |true=>Int.negSucc (Nat.sub (Nat.sub (Nat.pow 2 k.bits) 1) (yq k.bits n))
  |false=>Int.ofNat (yq k.bits n)
theorem zUo (bits:Nat) (n:Int):yq bits n<2 ^ bits:=by
 have Al:0<2 ^ bits:=Nat.pow_pos (by decide);cases n with
 |ofNat a=>exact Nat.mod_lt _ Al
 |negSucc a=>show 2 ^ bits-1-a % 2 ^ bits < _;omega
theorem pE (k:IntKind) (n:Int):nQ k n=k.wrap n:=by
 have hm:=zFw k.bits n;have az:=zUo k.bits n;unfold nQ IntKind.wrap;simp only;rw[hm];generalize yq k.bits n=m at az;cases hs:k.signed with
 |false=>simp
 |true=>
  simp only[Bool.true_and];show (match Nat.ble (2 ^ (k.bits-1)) m with
   |true=>Int.negSucc (2 ^ k.bits-1-m)
   |false=>Int.ofNat m)=_
  cases hb:Nat.ble (2 ^ (k.bits-1)) m with
  |true=>
   have h1:2 ^ (k.bits-1)≤m:=ah hb;have h2:((2:Int) ^ (k.bits-1))≤Int.ofNat m:=by
    show ((2:Int) ^ (k.bits-1))≤((m:Nat):Int)
    exact_mod_cast h1
   simp only[ge_iff_le,h2,decide_true,if_true];rw[Int.negSucc_eq];show _=((m:Nat):Int)-2 ^ k.bits;have:((2 ^ k.bits-1-m:Nat):Int)=(2:Int) ^ k.bits-1-m:=by
    rw[Int.natCast_sub (by omega),Int.natCast_sub (by omega)];simp
   rw[this];omega
  |false=>
   have h1:¬2 ^ (k.bits-1)≤m:=fun hh=>by rw[Nat.ble_eq_true_of_le hh]at hb;cases hb
   have h2:¬((2:Int) ^ (k.bits-1))≤Int.ofNat m:=by
    intro hh;apply h1;have pX:((2:Int) ^ (k.bits-1))≤((m:Nat):Int):=hh
    exact_mod_cast pX
   simp only[ge_iff_le,h2,decide_false,Bool.false_eq_true,if_false]
def qs:Int→Int→Bool
 |.ofNat a,.ofNat b=>Nat.ble (Nat.succ a) b
 |.ofNat _,.negSucc _=>false
 |.negSucc _,.ofNat _=>true
 |.negSucc a,.negSucc b=>Nat.ble (Nat.succ b) a
theorem rp (x y:Int):qs x y=decide (x<y):=by
 have nb:∀a b,Nat.ble (Nat.succ a) b=decide (a<b):=fun a b=>by
  cases e:Nat.ble (Nat.succ a) b with
  |true=>have:=ah e;simp;omega
  |false=>
   have:¬a<b:=fun hh=>by rw[Nat.ble_eq_true_of_le hh]at e;cases e
   simp;omega
 cases x with
 |ofNat a=>
  cases y with
  |ofNat b=>rw[qs,nb];congr 1;apply propext;show a<b↔((a:Nat):Int)<((b:Nat):Int);omega
  |negSucc b=>rw[qs];symm;apply decide_eq_false;show ¬((a:Nat):Int)<Int.negSucc b;omega
 |negSucc a=>
  cases y with
  |ofNat b=>rw[qs];symm;apply decide_eq_true;show Int.negSucc a<((b:Nat):Int);omega
  |negSucc b=>rw[qs,nb];congr 1;apply propext;show b<a↔Int.negSucc a<Int.negSucc b;omega
def qR:Int→Int→Bool
 |.ofNat a,.ofNat b=>Nat.beq a b
 |.negSucc a,.negSucc b=>Nat.beq a b
 |_,_=>false
theorem rC (x y:Int):qR x y=(x == y):=by
 have nb:∀a b,Nat.beq a b=decide (a=b):=fun a b=>by
  cases e:Nat.beq a b with
  |true=>have:=ad e;simp[this]
  |false=>
   have:¬a=b:=fun hh=>by subst hh;simp at e
   simp[this]
 cases x <;> cases y <;> simp[qR,nb] <;> first |rfl |(congr 1;apply propext;omega) |omega
end Go.Ev
namespace Go.Ev
variable {P : Program} {G : Gl} {σ τ υ : Sg} {h g f : Tr ABlk} {nx ny nz : Nat} {w x y : World}
noncomputable section
def gK (op:BinOp)(k:IntKind) (a b:Int)(h:Tr ABlk) (nx:Nat):R:=
 let num (z:Int):R:=fI z fun z=>.val (.int k z) h nx
 let eT (c:Bool):R:=match c with |true=>.val (.bool true) h nx |false=>.val (.bool false) h nx
 match op with
 |.add=>num (nQ k (Int.add a b))
 |.sub=>num (nQ k (Int.sub a b))
 |.mul=>num (nQ k (Int.mul a b))
 |.quo=>match qR b 0 with |true=>.fail |false=>num (nQ k (Int.tdiv a b))
 |.rem=>match qR b 0 with |true=>.fail |false=>num (Int.tmod a b)
 |.and=>match a,b with |.ofNat a,.ofNat b=>num (nQ k (Int.ofNat (Nat.land (Nat.mod a (Nat.pow 2 k.bits)) (Nat.mod b (Nat.pow 2 k.bits))))) |_,_=>.fail
 |.or=>match a,b with |.ofNat a,.ofNat b=>num (nQ k (Int.ofNat (Nat.lor (Nat.mod a (Nat.pow 2 k.bits)) (Nat.mod b (Nat.pow 2 k.bits))))) |_,_=>.fail
 |.xor=>match a,b with |.ofNat a,.ofNat b=>num (nQ k (Int.ofNat (Nat.xor (Nat.mod a (Nat.pow 2 k.bits)) (Nat.mod b (Nat.pow 2 k.bits))))) |_,_=>.fail
 |.eql=>eT (qR a b)
 |.neq=>eT (!(qR a b))
 |.lss=>eT (qs a b)
 |.leq=>eT (!(qs b a))
 |.gtr=>eT (qs b a)
 |.geq=>eT (!(qs a b))
 |_=>.fail
theorem zOy (hk:Ok G σ h nx w)(t:TypeId)(op:BinOp)(k:IntKind) (a b:Int):RV P G σ h nx w (binOp op t (.int k a) (.int k b)) (gK op k a b h nx):=by
 have num:∀{m:Sem Value} {z:Int},m=Pure.pure (.int k z)→RV P G σ h nx w m (fI z fun z=>.val (.int k z) h nx):=by
  intro m z e;subst e;rw[fI_eq];exact SV.pure hk rfl (by simp[av])
 have eT:∀{m:Sem Value} {c:Bool},m=Pure.pure (.bool c)→RV P G σ h nx w m (match c with |true=>.val (.bool true) h nx |false=>.val (.bool false) h nx):=by
  intro m c e;subst e;cases c <;> exact SV.pure hk rfl (by simp[av])
 have bv:∀(a:Nat),(BitVec.ofInt k.bits (Int.ofNat a)).toNat=a % 2 ^ k.bits:=by
  intro a;rw[BitVec.toNat_ofInt];show (((a:Nat):Int) % ((2 ^ k.bits:Nat):Int)).toNat=_
  norm_cast
 unfold gK;cases op <;> try trivial
 ·exact num (by simp only[binOp,Op.intArith,pE,ne_eq,not_true,if_false];rfl)
 ·exact num (by simp only[binOp,Op.intArith,pE,ne_eq,not_true,if_false];rfl)
 ·exact num (by simp only[binOp,Op.intArith,pE,ne_eq,not_true,if_false];rfl)
 ·simp only;cases e:qR b 0 with
  |true=>trivial
  |false=>
   have:b≠0:=by intro e';subst e';simp[rC]at e
   exact num (by simp[binOp,Op.intDiv,pE,this])
 ·simp only;cases e:qR b 0 with
  |true=>trivial
  |false=>
   have:b≠0:=by intro e';subst e';simp[rC]at e
   exact num (by simp[binOp,Op.intDiv,this])
 ·cases a <;> cases b <;> try trivial
  refine num ?_;simp only[binOp,Op.intBits,BitVec.toNat_and,bv,pE,ne_eq,not_true,if_false];rfl
 ·cases a <;> cases b <;> try trivial
  refine num ?_;simp only[binOp,Op.intBits,BitVec.toNat_or,bv,pE,ne_eq,not_true,if_false];rfl
 ·cases a <;> cases b <;> try trivial
  refine num ?_;simp only[binOp,Op.intBits,BitVec.toNat_xor,bv,pE,ne_eq,not_true,if_false];rfl
 ·exact eT (by simp only[binOp,Op.intCmp,ne_eq,not_true,if_false,rC])
 ·exact eT (by simp only[binOp,Op.intCmp,ne_eq,not_true,if_false,rC,bne])
 ·exact eT (by simp only[binOp,Op.intCmp,ne_eq,not_true,if_false,rp])
 ·exact eT (by simp only[binOp,Op.intCmp,ne_eq,not_true,if_false,rp,← decide_not,Int.not_lt])
 ·exact eT (by simp only[binOp,Op.intCmp,ne_eq,not_true,if_false,rp,gt_iff_lt])
 ·exact eT (by simp only[binOp,Op.intCmp,ne_eq,not_true,if_false,rp,← decide_not,Int.not_lt,ge_iff_le])
def tz (op:BinOp)(k:IntKind) (a:Int) (b:Int)(h:Tr ABlk) (nx:Nat):R:=
 match b with
 |.negSucc _=>.fail
 |.ofNat n=>
  match op with
  |.shl=>fI (nQ k (Int.mul a (Int.ofNat (Nat.pow 2 (min n k.bits))))) fun z=>.val (.int k z) h nx
  |.shr=>match a with
   |.ofNat a=>fN (Nat.div a (Nat.pow 2 (min n k.bits))) fun z=>.val (.int k (Int.ofNat z)) h nx
   |.negSucc _=>.fail
  |_=>.fail
theorem zFu (hk:Ok G σ h nx w)(t:TypeId)(op:BinOp)(k yk:IntKind) (a b:Int):RV P G σ h nx w (binOp op t (.int k a) (.int yk b)) (tz op k a b h nx):=by
 have pw:∀n:Nat,((2:Int) ^ n)=Int.ofNat (2 ^ n):=fun n=>by show _=((2 ^ n:Nat):Int);simp
 unfold tz;cases b with
 |negSucc n=>trivial
 |ofNat n=>
  have hn:¬(Int.ofNat n<0):=by show ¬((n:Nat):Int)<0;omega
  cases op <;> try trivial
  ·simp only[fI_eq];refine SV.pure hk (V:=.int k (nQ k (a.mul (Int.ofNat (Nat.pow 2 (min n k.bits)))))) ?_ (by simp only[av]);simp only[binOp,Op.shift,if_neg hn,pE,pw];rfl
  ·cases a with
   |negSucc a=>trivial
   |ofNat a=>
    simp only[fN_eq];refine SV.pure hk (V:=.int k (Int.ofNat (a.div (Nat.pow 2 (min n k.bits))))) ?_ (by simp only[av]);have fd:∀a b:Nat,(Int.ofNat a).fdiv (Int.ofNat b)=Int.ofNat (a / b):=by
     intro a b;cases a with
     |zero=>rw[Nat.zero_div];rfl
     |succ a=>rfl
    simp only[binOp,Op.shift,if_neg hn,pw,fd];rfl
def yX (op:BinOp) (l n k m:Nat)(h:Tr ABlk) (nx:Nat):R:=
 let eT (c:Bool):R:=match c with |true=>.val (.bool true) h nx |false=>.val (.bool false) h nx
 match op with
 |.add=>match Nat.ble (Nat.add l k) 1000000000 with
  |true=>fN (Nat.add l k) fun lk=>fN (Nat.add n (Nat.mul m (Nat.pow 256 l))) fun nm=>.val (.str lk nm) h nx
  |false=>.fail
 |.eql=>eT (xc l n k m)
 |.neq=>eT (!(xc l n k m))
 |.lss=>eT (Db l n k m)
 |.leq=>eT (Db l n k m || xc l n k m)
 |.gtr=>eT (!(Db l n k m || xc l n k m))
 |.geq=>eT (!(Db l n k m))
 |_=>.fail
theorem zJg (hk:Ok G σ h nx w)(t:TypeId)(op:BinOp){l n k m:Nat}(h1:n<256 ^ l)(h2:m<256 ^ k):
  RV P G σ h nx w (binOp op t (.string (bE l n)) (.string (bE k m))) (yX op l n k m h nx):=by
 have eT:∀{m:Sem Value} {c:Bool},m=Pure.pure (.bool c)→RV P G σ h nx w m (match c with |true=>.val (.bool true) h nx |false=>.val (.bool false) h nx):=by
  intro m c e;subst e;cases c <;> exact SV.pure hk rfl (by simp[av])
 have heq:=zyv h1 h2;have az:=zTv l n k m;rw[← KZ,← KZ]at az;unfold yX;cases op <;> try trivial
 ·simp only;cases e:Nat.ble (Nat.add l k) 1000000000 with
  |false=>trivial
  |true=>
   have hle:l+k≤1000000000:=ah e;simp only[fN_eq];refine SV.pure hk (V:=.string (bE (l+k) (n+m * 256 ^ l))) ?_ ?_
   ·have Ab:¬(((bE l n).size+(bE k m).size:Nat):Int) > IntKind.i64.max:=by
     rw[tw,tw];have:IntKind.i64.max=9223372036854775807:=by decide
     rw[this];omega
    simp only[binOp,Op.stringOp,if_neg Ab,zRd h1];rfl
   ·simp only[av];exact⟨zKe h1 h2,rfl⟩
 ·exact eT (by simp only[binOp,Op.stringOp,heq])
 ·exact eT (by simp only[binOp,Op.stringOp,heq])
 ·exact eT (by simp only[binOp,Op.stringOp,az])
 ·exact eT (by simp only[binOp,Op.stringOp,az,heq])
 ·exact eT (by simp only[binOp,Op.stringOp,az,heq])
 ·exact eT (by simp only[binOp,Op.stringOp,az])
def gH (op:BinOp)(a b:ByteArray)(h:Tr ABlk) (nx:Nat):R:=
 match op with
 |.add=>match Nat.ble (Nat.add a.size b.size) 9223372036854775807 with
  |true=>.val (.bs (a++b)) h nx
  |false=>.fail
 |.eql=>.val (.bool (decide (a=b))) h nx
 |.neq=>.val (.bool (!(decide (a=b)))) h nx
 |.lss=>.val (.bool (Op.bytesLess a.toList b.toList)) h nx
 |.leq=>.val (.bool (Op.bytesLess a.toList b.toList || decide (a=b))) h nx
 |.gtr=>.val (.bool (!(Op.bytesLess a.toList b.toList || decide (a=b)))) h nx
 |.geq=>.val (.bool (!(Op.bytesLess a.toList b.toList))) h nx
 |_=>.fail
theorem zM7 (hk:Ok G σ h nx w)(t:TypeId)(op:BinOp)(a b:ByteArray):RV P G σ h nx w (binOp op t (.string a) (.string b)) (gH op a b h nx):=by
 have eT:∀{m:Sem Value} {c:Bool},m=Pure.pure (.bool c)→RV P G σ h nx w m (.val (.bool c) h nx):=by
  intro m c e;subst e;exact SV.pure hk rfl (by simp[av])
 have dG:(a.toList == b.toList)=decide (a=b):=by
  by_cases he:a=b
  ·subst he;simp
  ·have:¬a.toList=b.toList:=fun e=>he (by
    cases a;cases b;rw[ByteArray.toList_mk,ByteArray.toList_mk]at e
    congr 1
    exact Array.ext' e)
   simp[he,this]
 unfold gH;cases op <;> try trivial
 ·simp only;cases e:Nat.ble (Nat.add a.size b.size) 9223372036854775807 with
  |false=>trivial
  |true=>
   have hle:a.size+b.size≤9223372036854775807:=ah e;refine SV.pure hk (V:=.string (a++b)) ?_ (by simp only[av]);have Ab:¬((a.size+b.size:Nat):Int) > IntKind.i64.max:=by
    have:IntKind.i64.max=9223372036854775807:=by decide
    rw[this];omega
   simp only[binOp,Op.stringOp,if_neg Ab];rfl
 ·exact eT (by simp only[binOp,Op.stringOp,dG])
 ·exact eT (by simp only[binOp,Op.stringOp,dG])
 ·exact eT (by simp only[binOp,Op.stringOp])
 ·exact eT (by simp only[binOp,Op.stringOp,dG])
 ·exact eT (by simp only[binOp,Op.stringOp,dG])
 ·exact eT (by simp only[binOp,Op.stringOp])
def uY (op:UnOp)(v:AV)(h:Tr ABlk) (nx:Nat):R:=
 match op with
 |.not=>match v with |.bool b=>.val (.bool (Bool.rec true false b)) h nx |_=>.fail
 |.neg=>match v with |.int k n=>fI (nQ k (Int.sub 0 n)) fun z=>.val (.int k z) h nx |_=>.fail
 |_=>.fail
theorem zG0 (hk:Ok G σ h nx w)(op:UnOp){v:AV}{V:Value}(hv:av σ v V):RV P G σ h nx w (Op.unary op V) (uY op v h nx):=by
 unfold uY;cases op <;> try trivial
 ·cases v <;> try trivial
  rename_i k n;simp only[av]at hv;subst hv;simp only[fI_eq];exact SV.pure hk (V:=.int k (nQ k (Int.sub 0 n))) (by rw[pE];rfl) (by simp only[av])
 ·cases v <;> try trivial
  rename_i b;simp only[av]at hv;subst hv;cases b with
  |true=>exact SV.pure hk (V:=.bool false) rfl (by simp only[av])
  |false=>exact SV.pure hk (V:=.bool true) rfl (by simp only[av])
end
end Go.Ev
