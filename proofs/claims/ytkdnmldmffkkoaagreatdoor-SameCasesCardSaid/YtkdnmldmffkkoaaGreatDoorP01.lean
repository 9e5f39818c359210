/- Texts. -/
import Derived.Laws.IdiomStrings
import Derived.Laws.MakeOwn
import Derived.MapKept
import Derived.Test.YtkdnmldmffkkoaaGreatDoorP00
set_option linter.all false
set_option maxRecDepth 100000
set_option maxHeartbeats 8000000
namespace Go.Ev
noncomputable section
variable {P : Program} {G : Gl} {σ τ υ : Sg} {h g f : Tr ABlk} {nx ny nz : Nat} {w x y : World}
section
def vInt (n:Nat)(h:Tr ABlk) (nx:Nat):R:=fN n fun n=>.val (.int .i64 (Int.ofNat n)) h nx
def xr (hk:Ok G σ h nx w){n:Nat}{m:Sem Value}(hm:m.run P w=.ok (goInt n) w):RV P G σ h nx w m (vInt n h nx):=by
 unfold vInt;rw[fN_eq];exact SV.pure hk (V:=goInt n) hm (by simp only[av];rfl)
def dC.length {σ:Sg}:∀{l E},dC σ l E→E.length=l.length
 |[],E,h=>by simp only[dC]at h;subst h;rfl
 |(k,v,n)::l,E,h=>by
  simp only[dC]at h;obtain⟨K,V,E',e,_,_,h3⟩:=h;subst e;simp[h3.length]
def Ok.map (hk:Ok G σ h nx w){i cl:Nat}{es:List (AV×AV×Nat)}(hi:h.get i=some (.map es cl)):
  ∃b E,σ.blk i=some b∧w.heap[b]?=some (.map (List.toArray E) cl)∧dC σ es E:=by
 obtain⟨b,o,hb,ho,hr⟩:=hk.blk i _ hi;simp only[cq]at hr;obtain⟨E,e,h1⟩:=hr;subst e;exact⟨b,E,hb,ho,h1⟩
def k8 (ti:TI)(a:AV)(h:Tr ABlk) (nx:Nat):R:=
 match ti with
 |.mk d _ _ _ _=>match d with
  |.string=>match a with
   |.str l _=>vInt l h nx
   |.bs b=>.val (.int .i64 (Int.ofNat b.size)) h nx
   |_=>.fail
  |.array n _=>vInt n h nx
  |.slice _=>match a with
   |.sl0=>vInt 0 h nx
   |.fz _ _ xs=>.val (.int .i64 (Int.ofNat xs.length)) h nx
   |.sl _ _ l _ _=>vInt l h nx
   |_=>.fail
  |.map _ _=>match a with
   |.map0=>vInt 0 h nx
   |.map i=>match h.get i with
    |some (.map es _)=>vInt es.length h nx
    |_=>.fail
   |_=>.fail
  |_=>.fail
def zL0 (hk:Ok G σ h nx w){t:TypeId}{ti:TI}(ht:cT P t ti){a:AV}{A:Value}(ha:av σ a A)(ts:Array TypeId)(e9:ts[0]?=some t)(ty:TypeId):
  RV P G σ h nx w (Builtin.len_ ts ty #[A]) (k8 ti a h nx):=by
 cases ti with
 |mk d size bytes zero fs=>
 obtain⟨hu,_⟩:=ht;unfold k8;cases d <;> try trivial
 ·cases a <;> try trivial
  case bs b=>
   simp only[av]at ha;subst ha;exact SV.pure hk (V:=goInt b.size) (by simp[Builtin.len_,e9,run_underlying hu]) (by simp only[av];rfl)
  simp only[av]at ha;obtain⟨_,e⟩:=ha;subst e;exact xr hk (by simp[Builtin.len_,e9,run_underlying hu,uq])
 ·cases a <;> try trivial
  case fz es full xs=>
   simp only[av]at ha;obtain⟨a,cap,e,_⟩:=ha;subst e;exact SV.pure hk (V:=goInt xs.length) (by simp[Builtin.len_,e9,run_underlying hu]) (by simp only[av];rfl)
  ·simp only[av]at ha;subst ha;exact xr hk (by simp[Builtin.len_,e9,run_underlying hu])
  ·simp only[av]at ha;obtain⟨b,_,e,_⟩:=ha;subst e;exact xr hk (by simp[Builtin.len_,e9,run_underlying hu])
 ·exact xr hk (by simp[Builtin.len_,e9,run_underlying hu])
 ·cases a <;> try trivial
  ·simp only[av]at ha;subst ha;exact xr hk (by simp[Builtin.len_,e9,run_underlying hu])
  ·rename_i i;simp only[av]at ha;obtain⟨b,hb,e⟩:=ha;subst e;simp only;split
   ·rename_i es cl hg;obtain⟨b',E,aV,hh,hr⟩:=hk.map hg;rw[hb]at aV;cases aV;refine xr hk ?_;simp[Builtin.len_,e9,run_underlying hu,getObj,Sem.run,hh,hr.length]
   ·trivial
def zp (ti:TI)(a:AV)(h:Tr ABlk) (nx:Nat):R:=
 match ti with
 |.mk d _ _ _ _=>match d with
  |.slice _=>match a with
   |.sl0=>vInt 0 h nx
   |.sl _ _ _ c false=>vInt c h nx
   |_=>.fail
  |_=>.fail
def zQu (hk:Ok G σ h nx w){t:TypeId}{ti:TI}(ht:cT P t ti){a:AV}{A:Value}(ha:av σ a A)(ts:Array TypeId)(e9:ts[0]?=some t)(ty:TypeId):
  RV P G σ h nx w (Builtin.cap_ ts ty #[A]) (zp ti a h nx):=by
 cases ti with
 |mk d size bytes zero fs=>
 obtain⟨hu,_⟩:=ht;unfold zp;cases d <;> try trivial
 cases a <;> try trivial
 ·simp only[av]at ha;subst ha;exact xr hk (by simp[Builtin.cap_,e9,run_underlying hu])
 ·rename_i opn;simp only[av]at ha;obtain⟨b,_,e,_⟩:=ha;subst e;cases opn with
  |true=>trivial
  |false=>exact xr hk (by simp[Builtin.cap_,e9,run_underlying hu])
def vR (l:Nat):Nat→List AV:=
 Nat.rec (motive:=fun _=>Nat→List AV) (fun _=>[]) (fun _ ih n=>fN (Nat.mod n 256) fun b=>.int .u8 (Int.ofNat b)::fN (Nat.div n 256) ih) l
def KC:∀(l n:Nat),aC σ (vR l n) ((cJ l n).map fun b=>.int .u8 b.toNat):=by
 intro l
 induction l with
 |zero=>intro n;simp[vR,cJ,aC]
 |succ l ih=>
  intro n;show aC σ (fN (n % 256) fun b=>.int .u8 (Int.ofNat b)::fN (n / 256) (vR l)) _;rw[fN_eq,fN_eq,r7,List.map_cons,u8 (Nat.mod_lt _ (by decide))];simp only[aC,av];exact⟨_,_,rfl,rfl,ih _⟩
def Kt (l n:Nat):(vR l n).length=l:=by
 have:=(KC (σ:=⟨fun _=>none,fun _=>0,fun _=>.nilFunc,fun _=>none⟩) l n).length;simpa[mV]using this.symm
def vt:AV→Option Nat
 |.int .u8 (.ofNat b)=>match Nat.ble b 255 with
  |true=>some b
  |false=>none
 |_=>none
def Tb {v:AV}{V:Value}{b:Nat}(hr:av σ v V)(hb:vt v=some b):b≤255∧V=.int .u8 (Int.ofNat b):=by
 unfold vt at hb;split at hb
 ·split at hb
  ·rename_i b' hle;cases hb;simp only[av]at hr;exact⟨ai hle,hr⟩
  ·cases hb
 ·cases hb
def qv (l:List AV):Option Nat:=
 List.rec (motive:=fun _=>Option Nat) (some 0) (fun v _ ih=>match vt v with
  |some b=>match ih with
   |some n=>some (Nat.add b (Nat.mul 256 n))
   |none=>none
  |none=>none) l
def Rw (v:AV)(l:List AV):qv (v::l)=match vt v with
  |some b=>match qv l with
   |some n=>some (Nat.add b (Nat.mul 256 n))
   |none=>none
  |none=>none:=rfl
def KW:∀{l:List AV}{L:List Value}{n:Nat},aC σ l L→qv l=some n→
  n<256 ^ l.length∧∃ns:List Int,L=ns.map (Value.int .u8)∧ns.map (fun z=>UInt8.ofNat z.toNat)=cJ l.length n
 |[],L,n,hr,hn=>by
  cases hn;simp only[aC]at hr;subst hr;exact⟨by simp,[],rfl,by simp[cJ]⟩
 |v::l,L,n,hr,hn=>by
  simp only[aC]at hr;obtain⟨V,L',e,h1,h2⟩:=hr;subst e;rw[Rw]at hn;cases Ai:vt v with
  |none=>rw[Ai]at hn;cases hn
  |some b=>
   rw[Ai]at hn;obtain⟨hb,e1⟩:=Tb h1 Ai;subst e1;cases ei:qv l with
   |none=>rw[ei]at hn;cases hn
   |some n'=>
    rw[ei]at hn;cases hn;obtain⟨a1,ns,a2,a3⟩:=KW h2 ei;have e1:(b+256 * n') % 256=b:=by omega
    have e2:(b+256 * n') / 256=n':=(by omega);refine⟨?_,Int.ofNat b::ns,by rw[List.map_cons,a2],?_⟩
    ·rw[List.length_cons,Nat.pow_succ];show b+256 * n' < _;omega
    ·rw[List.map_cons,a3,List.length_cons,r7];show _=UInt8.ofNat ((b+256 * n') % 256)::cJ l.length ((b+256 * n') / 256);rw[e1,e2];rfl
def Eh (ts td:TI)(te:Option TI)(et:TypeId)(v:AV)(h:Tr ABlk) (nx:Nat):R:=
 match ts,td with
 |.mk ds _ _ _ _,.mk dd _ _ _ _=>match dd with
  |.int k=>match v with
   |.int _ n=>fI (oD k n) fun z=>.val (.int k z) h nx
   |_=>.fail
  |.string=>match v with
   |.str l n=>.val (.str l n) h nx
   |.bs b=>.val (.bs b) h nx
   |.sl0=>match ds,te with
    |.slice e,some (.mk (.int .u8) _ _ _ _)=>match Nat.beq e et with
     |true=>.val (.str 0 0) h nx
     |false=>.fail
    |_,_=>.fail
   |.sl i o l _ _=>match ds,te with
    |.slice e,some (.mk (.int .u8) _ _ _ _)=>match Nat.beq e et with
     |true=>match h.get i with
      |some (.cells _ n c _ _)=>match Nat.ble (Nat.add o l) n with
       |true=>match ji c l o with
        |some cs=>match qv cs with
         |some m=>fN m fun m=>.val (.str l m) h nx
         |none=>.fail
        |none=>.fail
       |false=>.fail
      |_=>.fail
     |false=>.fail
    |_,_=>.fail
   |_=>.fail
  |.slice e=>match v with
   |.str l n=>match ds,te with
    |.string,some (.mk (.int .u8) _ _ _ _)=>match Nat.beq e et with
     |true=>rZ (vR l n) .nil 0 fun c=>h.putK (some (.cells e l c true 1)) nx fun h'=>fN (Nat.succ nx) fun ax=>.val (.sl nx 0 l 0 true) h' ax
     |false=>.fail
    |_,_=>.fail
   |_=>.fail
  |_=>.fail
def DQ (w:World) (n old:Nat)(e:TypeId):n≤grownCap w n old e:=by
 show n≤n+_ % _;omega
def BX {b o n:Nat}{C:Array Value}{e:TypeId}{fr:Nat×Nat}{c:Tr AV}(aE:w.heap[b]?=some (.cells C e fr))
  (aJ:∀k,k<n→∃v V,c.get k=some v∧C[k]?=some V∧av σ v V) {size:Nat} (hle:o+size≤n) {l:List AV} (hl:ji c size o=some l):
  l.length=size∧∃L:List Value,aC σ l L∧(loadCells ⟨b,o,none⟩ size).run P w=.ok L.toArray w∧∀j u,L[j]?=some u→w.cell? ((⟨b,o,none⟩:Addr).add j)=some u:=by
 obtain⟨hlen,bH⟩:=Rl c size o l hl;refine⟨hlen,(List.range size).map fun k=>C.getD (o+k) undef,?_,?_⟩
 ·refine aC.of_get (by simp[hlen]) fun k v V h1 h2=>?_;have aW:k<size:=by
   rcases Nat.lt_or_ge k l.length with h3 |h3
   ·omega
   ·rw[List.getElem?_eq_none h3]at h1;cases h1
  obtain⟨v',V',e1,e2,e3⟩:=aJ (o+k) (by omega);rw[bH k aW,h1]at e1;cases e1;have:V=V':=by
   simp[aW,Array.getD_eq_getD_getElem?,e2]at h2;exact h2.symm
  subst this;exact e3
 ·have hc:∀j u,((List.range size).map fun k=>C.getD (o+k) undef)[j]?=some u→w.cell? ((⟨b,o,none⟩:Addr).add j)=some u:=by
   intro j u hj;have yD:j<size:=by
    rcases Nat.lt_or_ge j size with h3 |h3
    ·exact h3
    ·rw[List.getElem?_eq_none (by simp;omega)]at hj;cases hj
   obtain⟨v',V',e1,e2,e3⟩:=aJ (o+j) (by omega);rw[jo,oB aE,e2];simp[yD,Array.getD_eq_getD_getElem?,e2]at hj;rw[hj]
  refine⟨?_,hc⟩;have:=run_loadCells_list (P:=P) w ⟨b,o,none⟩ _ hc;simpa using this
def zUg (hk:Ok G σ h nx w){s d:TypeId}{ts td:TI}(e9:cT P s ts)(nM:cT P d td){te:Option TI}{et:TypeId}(jb:∀ti,te=some ti→cT P et ti){v:AV}{V:Value}(hv:av σ v V):
  RV P G σ h nx w (convert s d V) (Eh ts td te et v h nx):=by
 cases ts with
 |mk ds s1 s2 s3 s4=>
 cases td with
 |mk dd d1 d2 d3 d4=>
 obtain⟨lK,A9⟩:=e9;obtain⟨lJ,A8⟩:=nM;clear A9 A8;unfold Eh;cases dd <;> try trivial
 ·
  rename_i k;cases v <;> try trivial
  rename_i k' n;simp only[av]at hv;subst hv;simp only[fI_eq];exact SV.pure hk (V:=.int k (oD k n)) (by simp[convert,run_underlying lK,run_underlying lJ,Conv.intToInt,qu]) (by simp only[av])
 ·
  cases v <;> try trivial
  case bs b=>
   have bM:=hv;simp only[av]at hv;subst hv;exact SV.pure hk (V:=.string b) (by cases ds <;> simp[convert,run_underlying lK,run_underlying lJ]) bM
  ·rename_i l n;have bM:=hv;simp only[av]at hv;obtain⟨hn,e⟩:=hv;subst e;exact SV.pure hk (V:=.string (bK l n)) (by cases ds <;> simp[convert,run_underlying lK,run_underlying lJ]) bM
  ·simp only[av]at hv;subst hv;simp only;split
   ·rename_i e q1 q2 q3 q4;cases dX:Nat.beq e et with
    |false=>trivial
    |true=>
     have:=ad dX;subst this;obtain⟨ou,_⟩:=jb _ rfl;refine SV.pure hk (V:=.string .empty) ?_ (by simp only[av];exact⟨by simp,rfl⟩);rw[run_convert_bytes_string w s d e none 0 0 lK ou lJ];simp[Conv.bytesToString]
   ·trivial
  ·rename_i i o l c opn;simp only[av]at hv;obtain⟨b,hb,e,dE⟩:=hv;subst e;clear dE;generalize (if opn=true then σ.cap i-c else c)=cc;simp only;split
   ·rename_i e q1 q2 q3 q4;cases dX:Nat.beq e et with
    |false=>trivial
    |true=>
     have:=ad dX;subst this;obtain⟨ou,_⟩:=jb _ rfl;simp only;split
     ·rename_i e' n c' bD esz hg;obtain⟨b',C,fr,aV,aE,aJ,_,_⟩:=hk.cells hg;rw[hb]at aV;cases aV;cases hle:Nat.ble (Nat.add o l) n with
      |false=>trivial
      |true=>
       simp only;cases F8:ji c' l o with
       |none=>trivial
       |some cs=>
        simp only;cases tg:qv cs with
        |none=>trivial
        |some m=>
         simp only[fN_eq];obtain⟨hlen,L,ju,lF,_⟩:=BX (P:=P) aE aJ (ai hle) F8;obtain⟨hm,ns,hL,oW⟩:=KW ju tg;rw[hlen]at hm oW;refine SV.pure hk (V:=.string (bK l m)) ?_ (by simp only[av];exact⟨hm,trivial⟩);rw[run_convert_bytes_string w s d e _ _ _ lK ou lJ,run_bytesToString w _ l _ ns (by rw[lF,hL])]
         congr 2
         have hf:∀(ns:List Int) (s:ByteArray),(ns.foldl (fun r n=>r.push (UInt8.ofNat n.toNat)) s).data=s.data++(ns.map fun n=>UInt8.ofNat n.toNat).toArray:=by
          intro ns
          induction ns with
          |nil=>intro s;simp
          |cons z ns ih=>intro s;rw[List.foldl_cons,ih];simp[ByteArray.push]
         apply ByteArray.ext;rw[hf,oW];show #[]++(cJ l m).toArray=(cJ l m).toArray;simp
     ·trivial
   ·trivial
 ·
  rename_i e;cases v <;> try trivial
  rename_i l n;simp only[av]at hv;obtain⟨hn,e1⟩:=hv;subst e1;simp only;split
  ·rename_i q1 q2 q3 q4;cases dX:Nat.beq e et with
   |false=>trivial
   |true=>
    have:=ad dX;subst this;obtain⟨ou,_⟩:=jb _ rfl;simp only[lP,Tr.putK_eq,fN_eq];have aR:=run_bytes_of_string (P:=P) w s d e (bK l n) lK lJ ou;rw[uq]at aR;generalize fh:grownCap w l 0 e=cap at aR;have kP:l≤cap:=fh ▸ DQ w l 0 e;have bC:(bytesRow (bK l n) cap).size=cap:=by
     simp only[bytesRow,Array.size_append,Array.size_map,Array.size_replicate];have:(bK l n).data.size=l:=uq l n;rw[this,uq];omega
    have hd:=Post.drawn hk (w.drawn+1);have ha:=Post.alloc hd.ok cap (.cells e l (eu (vR l n) .nil 0) true 1) (.cells (bytesRow (bK l n) cap) e ((bytesRow (bK l n) cap).size,(bytesRow (bK l n) cap).size+1)) (by
     simp only[cq];refine⟨_,_,rfl,fun k aW=>?_,fun k aW=>by omega,?_⟩
     ·obtain⟨v,hv⟩:∃v,(vR l n)[k]?=some v:=⟨(vR l n)[k]'(by rw[Kt];exact aW),by simp⟩;obtain⟨V,h1,h2⟩:=(KC (σ:=σ.add nx w.heap.size cap) l n).get hv;refine⟨v,V,?_,?_,h2⟩
      ·rw[qo,Kt,if_pos (by omega)];simpa using hv
      ·have FR:(bK l n).data=(cJ l n).toArray:=rfl;rw[bytesRow,Array.getElem?_append_left (by simp[FR,mV];exact aW),FR];simpa using h1
     ·rw[bC];simp[Sg.add];exact kP)
    refine⟨_,_,_,aR,?_,hd.trans ha⟩;simp only[av,if_true];refine⟨w.heap.size,by simp[Sg.add],by simp[Sg.add],by simp[Sg.add];exact kP⟩
  ·trivial
end
section
variable {P : Program} {G : Gl} {σ τ υ : Sg} {h g f : Tr ABlk} {nx ny nz : Nat} {w x y : World}
def HC (v:AV):Option UInt8:=match vt v with |some n=>some (UInt8.ofNat n) |none=>none
def sC:List AV→Option (List UInt8)
 |[]=>some []
 |v::l=>match HC v with
  |some b=>match sC l with
   |some r=>some (b::r)
   |none=>none
  |none=>none
def zPu (b:UInt8):HC (.int .u8 (Int.ofNat b.toNat))=some b:=by
 have:b.toNat<256:=b.toNat_lt;have h2:Nat.ble b.toNat 255=true:=Nat.ble_eq_true_of_le (by omega);simp[HC,vt,h2]
def zy6:∀(l:List UInt8),sC (l.map fun b=>.int .u8 (Int.ofNat b.toNat))=some l
 |[]=>rfl
 |b::l=>by simp only[List.map_cons,sC,zPu,zy6 l]
def Yu:∀{l:List AV}{L:List Value}{r:List UInt8},aC σ l L→sC l=some r→L=r.map (fun b=>.int .u8 (Int.ofNat b.toNat))∧r.length=l.length
 |[],L,r,hr,h=>by cases h;simp only[aC]at hr;exact⟨hr,rfl⟩
 |v::l,L,r,hr,h=>by
  simp only[aC]at hr;obtain⟨V,L',e,h1,h2⟩:=hr;simp only[sC]at h;cases hb:HC v with
  |none=>rw[hb]at h;cases h
  |some b=>
   rw[hb]at h;cases hl:sC l with
   |none=>rw[hl]at h;cases h
   |some r'=>
    rw[hl]at h;cases h;obtain⟨e1,e2⟩:=Yu h2 hl;unfold HC at hb;cases hv:vt v with
    |none=>rw[hv]at hb;cases hb
    |some n=>
     rw[hv]at hb;cases hb;obtain⟨hn,eV⟩:=Tb h1 hv;refine⟨?_,by simp[e2]⟩;rw[e,e1,eV];simp only[List.map_cons];rw[u8 (by omega)]
noncomputable section
def fC (ts td:TI)(te:Option TI)(et:TypeId)(v:AV)(h:Tr ABlk) (nx:Nat):R:=
 match ts,td with
 |.mk ds _ _ _ _,.mk dd _ _ _ _=>match dd with
  |.int k=>match v with
   |.int _ n=>.val (.int k (k.wrap n)) h nx
   |_=>.fail
  |.string=>match v with
   |.bs b=>.val (.bs b) h nx
   |.sl0=>match ds,te with
    |.slice e,some (.mk (.int .u8) _ _ _ _)=>match Nat.beq e et with
     |true=>.val (.bs .empty) h nx
     |false=>.fail
    |_,_=>.fail
   |.sl i o l _ _=>match ds,te with
    |.slice e,some (.mk (.int .u8) _ _ _ _)=>match Nat.beq e et with
     |true=>match h.get i with
      |some (.cells _ n c _ _)=>match Nat.ble (Nat.add o l) n with
       |true=>match ji c l o with
        |some cs=>match sC cs with
         |some r=>.val (.bs ⟨r.toArray⟩) h nx
         |none=>.fail
        |none=>.fail
       |false=>.fail
      |_=>.fail
     |false=>.fail
    |_,_=>.fail
   |_=>.fail
  |.slice e=>match v with
   |.bs b=>match ds,te with
    |.string,some (.mk (.int .u8) _ _ _ _)=>match Nat.beq e et with
     |true=>.val (.sl nx 0 b.size 0 true) (h.put nx (some (.cells e b.size (eu (b.data.toList.map fun z=>.int .u8 (Int.ofNat z.toNat)) .nil 0) true 1))) (nx+1)
     |false=>.fail
    |_,_=>.fail
   |_=>.fail
  |_=>.fail
def zRu (ns:List Int):∀(s:ByteArray),(ns.foldl (fun r n=>r.push (UInt8.ofNat n.toNat)) s).data=s.data++(ns.map fun n=>UInt8.ofNat n.toNat).toArray:=by
 induction ns with
 |nil=>intro s;simp
 |cons z ns ih=>intro s;rw[List.foldl_cons,ih];simp[ByteArray.push]
def zU2 (hk:Ok G σ h nx w){s d:TypeId}{ts td:TI}(e9:cT P s ts)(nM:cT P d td){te:Option TI}{et:TypeId}(jb:∀ti,te=some ti→cT P et ti){v:AV}{V:Value}(hv:av σ v V):
  RV P G σ h nx w (convert s d V) (fC ts td te et v h nx):=by
 cases ts with
 |mk ds s1 s2 s3 s4=>
 cases td with
 |mk dd d1 d2 d3 d4=>
 obtain⟨lK,A9⟩:=e9;obtain⟨lJ,A8⟩:=nM;clear A9 A8;unfold fC;cases dd <;> try trivial
 ·rename_i k;cases v <;> try trivial
  rename_i k' n;simp only[av]at hv;subst hv;exact SV.pure hk (V:=.int k (k.wrap n)) (by simp[convert,run_underlying lK,run_underlying lJ,Conv.intToInt]) (by simp only[av])
 ·cases v <;> try trivial
  case bs b=>
   have bM:=hv;simp only[av]at hv;subst hv;exact SV.pure hk (V:=.string b) (by cases ds <;> simp[convert,run_underlying lK,run_underlying lJ]) bM
  ·simp only[av]at hv;subst hv;simp only;split
   ·rename_i e q1 q2 q3 q4;cases dX:Nat.beq e et with
    |false=>trivial
    |true=>
     have:=ad dX;subst this;obtain⟨ou,_⟩:=jb _ rfl;refine SV.pure hk (V:=.string .empty) ?_ (by simp only[av]);rw[run_convert_bytes_string w s d e none 0 0 lK ou lJ];simp[Conv.bytesToString]
   ·trivial
  ·rename_i i o l c opn;simp only[av]at hv;obtain⟨b,hb,e,dE⟩:=hv;subst e;clear dE;generalize (if opn=true then σ.cap i-c else c)=cc;simp only;split
   ·rename_i e q1 q2 q3 q4;cases dX:Nat.beq e et with
    |false=>trivial
    |true=>
     have:=ad dX;subst this;obtain⟨ou,_⟩:=jb _ rfl;simp only;split
     ·rename_i e' n c' bD esz hg;obtain⟨b',C,fr,aV,aE,aJ,_,_⟩:=hk.cells hg;rw[hb]at aV;cases aV;cases hle:Nat.ble (Nat.add o l) n with
      |false=>trivial
      |true=>
       simp only;cases F8:ji c' l o with
       |none=>trivial
       |some cs=>
        simp only;cases tg:sC cs with
        |none=>trivial
        |some r=>
         obtain⟨hlen,L,ju,lF,_⟩:=BX (P:=P) aE aJ (ai hle) F8;obtain⟨hL,hr⟩:=Yu ju tg;refine SV.pure hk (V:=.string ⟨r.toArray⟩) ?_ (by simp only[av]);rw[run_convert_bytes_string w s d e _ _ _ lK ou lJ,run_bytesToString w _ l _ (r.map fun b=>Int.ofNat b.toNat) (by rw[lF,hL];simp)]
         congr 2
         apply ByteArray.ext;rw[zRu];have hid:(r.map fun b=>Int.ofNat b.toNat).map (fun n=>UInt8.ofNat n.toNat)=r:=by
          rw[List.map_map]
          conv=>rhs;rw[← List.map_id r]
          apply List.map_congr_left;intro b _;simp
         rw[hid];show #[]++r.toArray=r.toArray;simp
     ·trivial
   ·trivial
 ·rename_i e;cases v <;> try trivial
  rename_i b;simp only[av]at hv;subst hv;simp only;split
  ·rename_i q1 q2 q3 q4;cases dX:Nat.beq e et with
   |false=>trivial
   |true=>
    have:=ad dX;subst this;obtain⟨ou,_⟩:=jb _ rfl;have aR:=run_bytes_of_string (P:=P) w s d e b lK lJ ou;generalize fh:grownCap w b.size 0 e=cap at aR;have kP:b.size≤cap:=fh ▸ DQ w b.size 0 e;have UY:b.data.size=b.size:=rfl;have bC:(bytesRow b cap).size=cap:=by
     simp only[bytesRow,Array.size_append,Array.size_map,Array.size_replicate];omega
    have hd:=Post.drawn hk (w.drawn+1);have ha:=Post.alloc hd.ok cap (.cells e b.size (eu (b.data.toList.map fun z=>.int .u8 (Int.ofNat z.toNat)) .nil 0) true 1) (.cells (bytesRow b cap) e ((bytesRow b cap).size,(bytesRow b cap).size+1)) (by
     simp only[cq];refine⟨_,_,rfl,fun k aW=>?_,fun k aW=>by omega,?_⟩
     ·have dK:k<b.data.size:=(by omega);refine⟨.int .u8 (Int.ofNat (b.data[k]).toNat),.int .u8 (Int.ofNat (b.data[k]).toNat),?_,?_,by simp only[av]⟩
      ·rw[qo,if_pos (by simp;omega)];rw[Nat.sub_zero,List.getElem?_map,Array.getElem?_toList,Array.getElem?_eq_getElem dK];rfl
      ·rw[bytesRow,Array.getElem?_append_left (by simp;omega)];rw[Array.getElem?_map,Array.getElem?_eq_getElem dK];rfl
     ·rw[bC];simp[Sg.add];exact kP)
    refine⟨_,_,_,aR,?_,hd.trans ha⟩;simp only[av,if_true];refine⟨w.heap.size,by simp[Sg.add],by simp[Sg.add],by simp[Sg.add];exact kP⟩
  ·trivial
end
end
variable {P : Program} {G : Gl} {σ τ υ : Sg} {h g f : Tr ABlk} {nx ny nz : Nat} {w x y : World}
section
def aI (l:List AV) (o:Nat)(c:List AV):List AV:=l.take o++(c++l.drop (Nat.add o c.length))
def Y2 {l c:List AV}{o:Nat}(hle:o+c.length≤l.length) (k:Nat):(aI l o c)[k]?=if o≤k∧k<o+c.length then c[k-o]? else l[k]?:=by
 unfold aI;have ho:(l.take o).length=o:=by simp;omega
 by_cases h1:k<o
 ·rw[List.getElem?_append_left (by omega),List.getElem?_take_of_lt h1,if_neg (by omega)]
 ·rw[List.getElem?_append_right (by omega),ho]
  by_cases h2:k<o+c.length
  ·rw[List.getElem?_append_left (by omega),if_pos (by omega)]
  ·rw[List.getElem?_append_right (by omega),if_neg (by omega),List.getElem?_drop]
   congr 1
   show o+c.length+(k-o-c.length)=k;omega
def Q8 {l c:List AV}{o:Nat}(hle:o+c.length≤l.length):(aI l o c).length=l.length:=by
 unfold aI;simp only[List.length_append,List.length_take,List.length_drop];show min o l.length+(c.length+(l.length-(o+c.length)))=_;omega
def sF (place:Nat→Option (Nat×Nat))(ps:List (Nat×AV)):List AV→Option (List AV):=
 List.rec (motive:=fun _=>List AV→Option (List AV)) (fun l=>some l) (fun p _ ih l=>match p with
  |(i,v)=>match place i with
   |some (o,s)=>match Nat.beq v.cells.length s with
    |true=>match Nat.ble (Nat.add o s) l.length with
     |true=>ih (aI l o v.cells)
     |false=>none
    |false=>none
   |none=>none) ps
def Sy (place:Nat→Option (Nat×Nat)) (i:Nat)(v:AV)(ps:List (Nat×AV))(l:List AV):sF place ((i,v)::ps) l=match place i with
   |some (o,s)=>match Nat.beq v.cells.length s with
    |true=>match Nat.ble (Nat.add o s) l.length with
     |true=>sF place ps (aI l o v.cells)
     |false=>none
    |false=>none
   |none=>none:=rfl
def sg (σ:Sg):List (Nat×AV)→List (Nat×Value)→Prop
 |[],L=>L=[]
 |(i,a)::l,L=>∃V L',L=(i,V)::L'∧av σ a V∧sg σ l L'
def Y7 (off:Nat):∀(L:List Value) (j:Nat)(C:Array Value),(L.zipIdx j).foldl (fun cs (p:Value×Nat)=>cs.setIfInBounds (off+p.2) p.1) C=py L C (off+j)
 |[],j,C=>rfl
 |v::L,j,C=>by
  rw[List.zipIdx_cons,List.foldl_cons,Y7];rfl
def zSg (off:Nat)(vs C:Array Value):vs.zipIdx.foldl (fun cs (c,j)=>cs.setIfInBounds (off+j) c) C=py vs.toList C off:=by
 rw[← Array.foldl_toList,Array.toList_zipIdx];exact Y7 off vs.toList 0 C
def Kx (place:Nat→Option (Nat×Nat)):∀(ps:List (Nat×AV))(PS:List (Nat×Value))(l:List AV)(C:Array Value)(l':List AV),sg σ ps PS→aC σ l C.toList→sF place ps l=some l'→
  ∃C',Instr.fill place C PS=some C'∧aC σ l' C'.toList
 |[],PS,l,C,l',hp,hl,hf=>by
  cases hf;simp only[sg]at hp;subst hp;exact⟨C,rfl,hl⟩
 |(i,v)::ps,PS,l,C,l',hp,hl,hf=>by
  simp only[sg]at hp;obtain⟨V,L',e,h1,h2⟩:=hp;subst e;rw[Sy]at hf;cases qZ:place i with
  |none=>rw[qZ]at hf;cases hf
  |some q=>
   obtain⟨o,s⟩:=q;rw[qZ]at hf;simp only at hf;cases hb:Nat.beq v.cells.length s with
   |false=>rw[hb]at hf;cases hf
   |true=>
    rw[hb]at hf;simp only at hf;have hs:=ad hb;cases iJ:Nat.ble (Nat.add o s) l.length with
    |false=>rw[iJ]at hf;cases hf
    |true=>
     rw[iJ]at hf;simp only at hf;have hle:o+s≤l.length:=ai iJ;have hc:=h1.cells;have aX:V.cells.size=s:=by rw[← hs,← hc.length];simp
     have hCl:C.size=l.length:=by rw[← hl.length];simp
     have O4:aC σ (aI l o v.cells) (py V.cells.toList C o).toList:=by
      refine aC.of_get (by rw[Q8 (by omega)];simp[DJ,hCl]) fun k a A e1 e2=>?_;rw[Y2 (by omega)]at e1;rw[Array.getElem?_toList,Mc _ _ _ _ (by simp;omega)]at e2;have:V.cells.toList.length=v.cells.length:=hc.length;rw[this]at e2
      by_cases ct:o≤k∧k<o+v.cells.length
      ·rw[if_pos ct]at e1 e2;obtain⟨A',e3,e4⟩:=hc.get e1;rw[e2]at e3;cases e3;exact e4
      ·rw[if_neg ct]at e1 e2;obtain⟨A',e3,e4⟩:=hl.get e1;rw[Array.getElem?_toList]at e3;rw[e2]at e3;cases e3;exact e4
     obtain⟨C',e3,e4⟩:=Kx place ps L' _ _ l' h2 O4 hf;refine⟨C',?_,e4⟩;rw[Instr.fill,qZ];simp only;rw[if_neg (by simp[aX];omega),zSg];exact e3
def zPs {fields:Array Field}{fs:List (Nat×Nat×Bool)}(hlen:fs.length=fields.size)
  (hf:∀(k o s:Nat) (b:Bool),fs[k]?=some (o,s,b)→∃f:Field,fields[k]?=some f∧f.offset=o∧TF P f.type s b) (w:World):
  ∃pl:Array (Nat×Nat),(fields.mapM fun f=>do pure (f.offset,← sizeOf f.type):Sem (Array (Nat×Nat))).run P w=.ok pl w∧∀k:Nat,pl[k]?=(fs[k]?).map (fun (p:Nat×Nat×Bool)=>(p.1,p.2.1)):=by
 have key:∀(fl:List Field) (fs:List (Nat×Nat×Bool)),fs.length=fl.length→(∀(k o s:Nat) (b:Bool),fs[k]?=some (o,s,b)→∃f:Field,fl[k]?=some f∧f.offset=o∧TF P f.type s b)→
   (fl.mapM fun f=>do pure (f.offset,← sizeOf f.type):Sem (List (Nat×Nat))).run P w=.ok (fs.map fun p=>(p.1,p.2.1)) w:=by
  intro fl
  induction fl with
  |nil=>intro fs hl _;cases fs with |nil=>simp |cons _ _=>simp at hl
  |cons f0 fl ih=>
   intro fs hl hf;cases fs with
   |nil=>simp at hl
   |cons p fs=>
    obtain⟨o,s,b⟩:=p;obtain⟨f1,e1,e2,e3⟩:=hf 0 o s b rfl;simp at e1;subst e1;have:=ih fs (by simpa using hl) fun k o s b e=>by
     obtain⟨f2,e4,e5⟩:=hf (k+1) o s b (by simpa using e);exact⟨f2,by simpa using e4,e5⟩
    simp only[List.mapM_cons,Sem.run_bind,e3.size,Result.andThen,Sem.run_pure,this,e2,List.map_cons]
 have:=key fields.toList fs (by simpa using hlen) fun k o s b e=>by
  obtain⟨f2,e4,e5⟩:=hf k o s b e;exact⟨f2,by simpa using e4,e5⟩
 refine⟨(fs.map fun p=>(p.1,p.2.1)).toArray,?_,fun k=>by simp⟩;rw[Array.mapM_eq_mapM_toList,Sem.run_map,this];rfl
def uz (ti:TI)(ps:List (Nat×AV))(h:Tr ABlk) (nx:Nat):R:=
 match ti with
 |.mk d _ _ zero fs=>match zero with
  |none=>.fail
  |some z=>match d with
   |.struct _=>match sF (fun i=>match fs[i]? with |some (o,s,_)=>some (o,s) |none=>none) ps z.cells with
    |some l=>.val (.agg l) h nx
    |none=>.fail
   |.array _ _=>match fs with
    |[]=>.fail
    |(_,s,_)::_=>match sF (fun i=>some (Nat.mul i s,s)) ps z.cells with
     |some l=>.val (.agg l) h nx
     |none=>.fail
   |_=>.fail
def zRm (hk:Ok G σ h nx w)(t:TypeId){ti:TI}(ht:cT P t ti){ps:List (Nat×AV)}{PS:Array (Nat×Value)}(hp:sg σ ps PS.toList):RV P G σ h nx w (Instr.build t PS) (uz ti ps h nx):=by
 cases ti with
 |mk d size bytes zero fs=>
 obtain⟨hu,inf,hi,hs,oe,fu,hf,ij,he⟩:=ht;unfold uz;cases zero with
 |none=>trivial
 |some z=>
  obtain⟨Z,hZ,kA,pX⟩:=fu z rfl;cases d <;> try trivial
  ·rename_i len elem;cases fs with
   |nil=>trivial
   |cons p fs=>
   obtain⟨o0,s,b0⟩:=p;have ef:=he elem (.inr (.inl ⟨len,rfl⟩)) o0 s b0 rfl;simp only;cases ij:sF (fun i=>some (Nat.mul i s,s)) ps z.cells with
   |none=>trivial
   |some l=>
    obtain⟨C',e1,e2⟩:=Kx _ ps PS.toList z.cells Z.cells l hp (kA σ).cells ij;refine SV.pure hk (V:=.agg C') ?_ (by simp only[av];exact⟨C'.toList,by simp,e2⟩);have jF:Instr.fill (fun i=>some (i * s,s)) Z.cells PS.toList=some C':=e1;simp[Instr.build,zw hi hZ,run_underlying hu,ef.size,jF]
  ·rename_i fields;simp only;cases N0:sF (fun i=>match fs[i]? with |some (o,s,_)=>some (o,s) |none=>none) ps z.cells with
   |none=>trivial
   |some l=>
    obtain⟨C',e1,e2⟩:=Kx _ ps PS.toList z.cells Z.cells l hp (kA σ).cells N0;obtain⟨pl,e3,e4⟩:=zPs (ij fields rfl) (hf fields rfl) w;refine SV.pure hk (V:=.agg C') ?_ (by simp only[av];exact⟨C'.toList,by simp,e2⟩);have qZ:(fun i:Nat=>(match fs[i]? with |some (o,s,_)=>some (o,s) |none=>none:Option (Nat×Nat)))=fun i=>pl[i]?:=by
     funext i
     rw[e4];cases fs[i]? <;> rfl
    rw[qZ]at e1;simp only[Instr.build,Sem.run_bind,zw hi hZ,Result.andThen,run_underlying hu,e3,e1,Sem.run_pure]
def kU (z:List AV) (n:Nat):List AV:=Nat.rec (motive:=fun _=>List AV) [] (fun _ ih=>z++ih) n
def Hl (z:List AV):∀n,(kU z n).length=n * z.length
 |0=>by simp only[Nat.zero_mul];rfl
 |n+1=>by
  show (z++kU z n).length=_;rw[List.length_append,Hl,Nat.succ_mul];omega
def zyl (z:List AV):∀n k,k<n * z.length→(kU z n)[k]?=z[k % z.length]?
 |0,k,h=>by simp at h
 |n+1,k,h=>by
  show (z++kU z n)[k]?=_;rw[Nat.succ_mul]at h
  by_cases hk:k<z.length
  ·rw[List.getElem?_append_left hk,Nat.mod_eq_of_lt hk]
  ·rw[List.getElem?_append_right (by omega),zyl z n _ (by omega)]
   congr 1
   rw[Nat.mod_eq_sub_mod (a:=k) (by omega)]
def zzg {z:List AV}{Z:Array Value}(hz:aC σ z Z.toList) (n:Nat):aC σ (kU z n) ((Array.range (n * Z.size)).map (Z[· % Z.size]!)).toList:=by
 have w6:Z.size=z.length:=by rw[← hz.length];simp
 refine aC.of_get (by simp[Hl,w6]) fun k a A e1 e2=>?_;have hk:k<n * z.length:=by
  rcases Nat.lt_or_ge k (n * z.length) with h3 |h3
  ·exact h3
  ·rw[List.getElem?_eq_none (by rw[Hl];exact h3)]at e1;cases e1
 rw[zyl z n k hk]at e1;have cM:0<z.length:=by
  rcases Nat.eq_zero_or_pos z.length with h0 |h0
  ·rw[h0]at hk;omega
  ·exact h0
 obtain⟨A',e3,e4⟩:=hz.get e1;have hm:k % Z.size<Z.size:=Nat.mod_lt _ (by omega);have:A=A':=by
  have dK:k<n * Z.size:=by rw[w6];exact hk
  have e5:((Array.range (n * Z.size)).map (Z[· % Z.size]!)).toList[k]?=some (Z[k % Z.size]!):=by
   rw[Array.getElem?_toList];simp[dK]
  rw[e5]at e2;rw[← w6,Array.getElem?_toList,Array.getElem?_eq_getElem hm]at e3;rw[getElem!_pos Z (k % Z.size) hm]at e2;cases e3;cases e2;rfl
 subst this;exact e4
def DY (ti:TI)(te:Option TI)(et:TypeId) (len:Nat)(ps:List (Nat×AV))(h:Tr ABlk) (nx:Nat):R:=
 match ti,te with
 |.mk d _ _ _ _,some (.mk _ s _ (some z) _)=>match d with
  |.slice e=>match Nat.beq e et with
   |true=>match Nat.ble (Nat.mul len s) 16777216 with
    |true=>match Nat.beq s 0 with
     |true=>.fail
     |false=>match sF (fun i=>some (Nat.mul i s,s)) ps (kU z.cells len) with
      |some l=>newK e l h nx fun i=>.sl i 0 len len false
      |none=>.fail
    |false=>.fail
   |false=>.fail
  |_=>.fail
 |_,_=>.fail
def zEl (hk:Ok G σ h nx w)(t:TypeId){ti:TI}(ht:cT P t ti){te:Option TI}{et:TypeId}(jb:∀ti,te=some ti→cT P et ti) (len:Nat){ps:List (Nat×AV)}{PS:Array (Nat×Value)}(hp:sg σ ps PS.toList):
  RV P G σ h nx w (Instr.buildSlice t len PS) (DY ti te et len ps h nx):=by
 cases ti with
 |mk d size bytes zero fs=>
 obtain⟨hu,kz⟩:=ht;clear kz;unfold DY;split
 ·rename_i dd q1 q2 q3 q4 d2 s q5 z q6 e0;cases e0;obtain⟨ou,inf,hi,hs,oe,fu,hf,ij,he⟩:=jb _ rfl;obtain⟨Z,hZ,kA,pX⟩:=fu z rfl;cases d <;> try trivial
  rename_i e;simp only;cases dX:Nat.beq e et with
  |false=>trivial
  |true=>
  have:=ad dX;subst this;simp only;cases Af:Nat.ble (Nat.mul len s) 16777216 with
  |false=>trivial
  |true=>
  have hle:len * s≤16777216:=ai Af;simp only;cases pV:Nat.beq s 0 with
  |true=>trivial
  |false=>
  have tK:=nU pV;simp only;cases ij:sF (fun i=>some (Nat.mul i s,s)) ps (kU z.cells len) with
  |none=>trivial
  |some l=>
   have hzc:Z.cells.size=s:=pX;obtain⟨C',e1,e2⟩:=Kx _ ps PS.toList _ ((Array.range (len * s)).map (Z.cells[· % Z.cells.size]!)) l hp (by rw[← hzc];exact zzg (kA σ).cells len) ij;have jF:Instr.fill (fun i=>some (i * s,s)) ((Array.range (len * s)).map (Z.cells[· % Z.cells.size]!)) PS.toList=some C':=e1;refine Kn hk e (L:=C'.toList) e2 (V:=.slice (some ⟨w.heap.size,0,none⟩) len len) ?_ ?_
   ·have hn:¬(len * s > 2 ^ 24):=by omega
    by_cases h0:len * s=0
    ·have mN:len=0:=by rcases Nat.mul_eq_zero.1 h0 with h1 |h1;exact h1;exact absurd h1 tK
     subst mN;simp only[Nat.zero_mul,Array.range_zero',Array.map_empty]at jF ⊢;simp[Instr.buildSlice,run_underlying hu,oA hi,hs,Array.range_zero',jF,newRow,newObj,Sem.run]
    ·simp[Instr.buildSlice,run_underlying hu,oA hi,hs,hn,h0,zw hi hZ,jF,newRow,newObj,Sem.run]
   ·simp only[av,Bool.false_eq_true,if_false];exact⟨w.heap.size,by simp[Sg.add],rfl,ae _⟩
 ·trivial
def H5 (ti:TI)(te:Option TI)(et:TypeId)(ln cp:AV)(h:Tr ABlk) (nx:Nat):R:=
 match ti,te with
 |.mk d _ _ _ _,some (.mk _ _ bytes (some z) _)=>match d with
  |.slice e=>match Nat.beq e et with
   |true=>match ox ln with
    |some l=>match ox cp with
     |some c=>match Nat.ble l c with
      |true=>match Nat.ble c 16777216 with
       |true=>match Nat.ble bytes 16777216 with
        |true=>fN l fun l=>fN c fun c=>newK e (kU z.cells c) h nx fun i=>.sl i 0 l c false
        |false=>.fail
       |false=>.fail
      |false=>.fail
     |none=>.fail
    |none=>.fail
   |false=>.fail
  |_=>.fail
 |_,_=>.fail
def zNr (hk:Ok G σ h nx w)(t:TypeId){ti:TI}(ht:cT P t ti){te:Option TI}{et:TypeId}(jb:∀ti,te=some ti→cT P et ti){ln cp:AV}{LN CP:Value}(hl:av σ ln LN)(hc:av σ cp CP):
  RV P G σ h nx w (Instr.makeSlice t LN CP) (H5 ti te et ln cp h nx):=by
 cases ti with
 |mk d size bytes zero fs=>
 obtain⟨hu,kz⟩:=ht;clear kz;unfold H5;split
 ·rename_i dd q1 q2 q3 q4 d2 s MA z q6 e0;cases e0;obtain⟨ou,inf,hi,hs,oe,fu,hf,ij,he⟩:=jb _ rfl;obtain⟨Z,hZ,kA,pX⟩:=fu z rfl;cases d <;> try trivial
  rename_i e;simp only;cases dX:Nat.beq e et with
  |false=>trivial
  |true=>
  have:=ad dX;subst this;simp only;cases qU:ox ln with
  |none=>trivial
  |some l=>
  cases yw:ox cp with
  |none=>trivial
  |some c=>
  simp only;cases tf:Nat.ble l c with
  |false=>trivial
  |true=>
  cases iJ:Nat.ble c 16777216 with
  |false=>trivial
  |true=>
  cases oS:Nat.ble MA 16777216 with
  |false=>trivial
  |true=>
  simp only[fN_eq];obtain⟨k1,e1⟩:=BS hl qU;obtain⟨k2,e2⟩:=BS hc yw;subst e1;subst e2;have n1:=ai tf;have n2:=ai iJ;have n3:=ai oS;have aR:=run_make (P:=P) w t e inf Z hu hi hZ k1 k2 (l:Int) (c:Int) (by omega) (by omega) (by
   rw[oe];have:MA * c≤16777216 * 16777216:=Nat.mul_le_mul n3 n2;have h2:((MA * c:Nat):Int)≤281474976710656:=by omega
   simpa using h2) (by omega)
  refine Kn hk e (zzg (kA σ).cells c) (V:=.slice (some ⟨w.heap.size,0,none⟩) l c) ?_ ?_
  ·rw[aR];have bC:Z.cells.size=inf.size:=by rw[pX,hs]
   simp only[madeCells,Int.toNat_natCast,bC,Array.toArray_toList];rfl
  ·simp only[av,Bool.false_eq_true,if_false];exact⟨w.heap.size,by simp[Sg.add],rfl,n1⟩
 ·trivial
def TC {l n k m:Nat}(h1:n<256 ^ l)(h2:m<256 ^ k):(bK l n == bK k m)=xR l n k m:=by
 rw[← zyv h1 h2,ByteArray.toList_eq,ByteArray.toList_eq];show ((bK l n).data == (bK k m).data)=_;rw[Bool.eq_iff_iff];constructor
 ·intro e;have:=eq_of_beq e;rw[this];exact beq_self_eq_true _
 ·intro e;have e2:=eq_of_beq e;rw[Array.toList_inj.1 e2];exact beq_self_eq_true _
def QO (a b:ByteArray):(a == b)=decide (a=b):=by
 show (a.data == b.data)=_
 by_cases h:a=b
 ·subst h;simp
 ·have:¬a.data=b.data:=fun e=>h (ByteArray.ext e);simp[h,this]
def vu (a b:IntKind):Bool:=Nat.beq a.ctorIdx b.ctorIdx
def LU {a b:IntKind}(e:vu a b=true):a=b:=by
 cases a <;> cases b <;> first |rfl |(exact absurd e (by decide))
def mC (d:TypeDesc)(x y:AV):Option Bool:=
 match d with
 |.int _=>match x,y with
  |.int k a,.int k' b=>match vu k k' with
   |true=>some (rS a b)
   |false=>none
  |_,_=>none
 |.string=>match x,y with
  |.str l n,.str k m=>some (xR l n k m)
  |.bs a,.bs b=>some (decide (a=b))
  |_,_=>none
 |.bool=>match x,y with
  |.bool a,.bool b=>some (match a with |true=>b |false=>!b)
  |_,_=>none
 |_=>none
def Zq {d:TypeDesc}{x y:AV}{X Y:Value}{b:Bool}(hx:av σ x X)(hy:av σ y Y)(he:mC d x y=some b):
  Instr.sameNow d X Y=some b∧∀(n:Nat) (t:TypeId) (w:World),P.underlying t=some d→(Op.equalIn (n+1) t X Y).run P w=.ok b w:=by
 unfold mC at he;cases d <;> try (cases he;done)
 ·cases x <;> cases y <;> try (cases he;done)
  rename_i a c;simp only[av]at hx hy;subst hx;subst hy;cases he;refine⟨?_,fun n t w hu=>?_⟩
  ·cases a <;> cases c <;> rfl
  ·simp[Op.equalIn,run_underlying hu];cases a <;> cases c <;> rfl
 ·cases x <;> cases y <;> try (cases he;done)
  rename_i k a k' c;simp only at he;cases hk:vu k k' with
  |false=>rw[hk]at he;cases he
  |true=>
   rw[hk]at he;cases he;have:=LU hk;subst this;simp only[av]at hx hy;subst hx;subst hy;refine⟨by simp[Instr.sameNow,sE],fun n t w hu=>?_⟩;simp[Op.equalIn,run_underlying hu,sE]
 ·cases x <;> cases y <;> try (cases he;done)
  ·cases he;simp only[av]at hx hy;obtain⟨h1,e1⟩:=hx;obtain⟨h2,e2⟩:=hy;subst e1;subst e2;refine⟨by simp only[Instr.sameNow];rw[TC h1 h2],fun n t w hu=>?_⟩;simp[Op.equalIn,run_underlying hu,TC h1 h2]
  ·rename_i a c;cases he;simp only[av]at hx hy;subst hx;subst hy;refine⟨by simp only[Instr.sameNow];rw[QO],fun n t w hu=>?_⟩;simp[Op.equalIn,run_underlying hu,QO]
def Sa (ks:List (Nat×TypeDesc))(xs ys:List AV):Option Bool:=
 List.rec (motive:=fun _=>Option Bool) (some true) (fun p _ ih=>match p with
  |(o,d)=>match xs[o]?,ys[o]? with
   |some a,some b=>match mC d a b with
    |some true=>ih
    |some false=>match ih with
     |some _=>some false
     |none=>none
    |none=>none
   |_,_=>none) ks
def J8 (P:Program)(t:TypeId):Option (List (Nat×TypeDesc))→Prop
 |none=>True
 |some ks=>P.eqGuardType P.depth t=false∧∀(σ:Sg) (xs ys:List AV) (XS YS:List Value) (b:Bool),aC σ xs XS→aC σ ys YS→Sa ks xs ys=some b→
   ∀w,(Op.equal t (.agg XS.toArray) (.agg YS.toArray)).run P w=.ok b w
def zM (ti:TI)(eqs:Option (List (Nat×TypeDesc)))(c:Bool)(x y:AV):Option Bool:=
 match ti with
 |.mk d _ _ _ fs=>match d with
  |.pointer _=>match x,y with
   |.ptr0,.ptr0=>some true
   |.ptr0,.ptr _ _=>some false
   |.ptr _ _,.ptr0=>some false
   |.ip _,.ptr0=>some false
   |.ptr0,.ip _=>some false
   |.ptr i o,.ptr j p=>match Nat.beq i j with
    |true=>match fs with
     |(_,s,_)::_=>match Nat.beq s 0 with
      |true=>none
      |false=>some (Nat.beq o p)
     |[]=>none
    |false=>none
   |_,_=>none
  |.slice _=>match x,y with
   |.sl0,.sl0=>some true
   |.sl0,.sl _ _ _ _ _=>some false
   |.sl _ _ _ _ _,.sl0=>some false
   |.fz _ _ (_::_),.sl0=>some false
   |_,_=>none
  |.map _ _=>match x,y with
   |.map0,.map0=>some true
   |.map0,.map _=>some false
   |.map _,.map0=>some false
   |_,_=>none
  |.func _ _ _=>match x,y with
   |.nilFunc,.nilFunc=>some true
   |.nilFunc,.func _ _ _=>some false
   |.func _ _ _,.nilFunc=>some false
   |_,_=>none
  |.interface _=>match x,y with
   |.nilIface,.nilIface=>match c with
    |true=>some true
    |false=>none
   |.nilIface,.iface _ _=>some false
   |.iface _ _,.nilIface=>some false
   |.iface t _,.iface u _=>match Nat.beq t u with
    |true=>none
    |false=>some false
   |_,_=>none
  |.struct _=>match x,y with
   |.agg xs,.agg ys=>match eqs with
    |some ks=>Sa ks xs ys
    |none=>none
   |_,_=>none
  |.array _ _=>match x,y with
   |.agg xs,.agg ys=>match eqs with
    |some ks=>Sa ks xs ys
    |none=>none
   |_,_=>none
  |d=>mC d x y
def oC:Operand→Bool
 |.const _=>true
 |_=>false
def kY {t:TypeId}{xo yo:Operand}{X Y:Value}{b:Bool}(hg:∀op,(eqGuard op t xo yo X Y).run P w=.ok () w)
  (dX:binOp .eql t X Y=(do pure (.bool (← Op.equal t X Y)))) (FK:binOp .neq t X Y=(do pure (.bool (!(← Op.equal t X Y))))) (he:∀n,(Op.equalIn (n+1) t X Y).run P w=.ok b w):
  (do eqGuard .eql t xo yo X Y;binOp .eql t X Y:Sem Value).run P w=.ok (.bool b) w∧(do eqGuard .neq t xo yo X Y;binOp .neq t X Y:Sem Value).run P w=.ok (.bool !b) w:=by
 have FY:(Op.equal t X Y).run P w=.ok b w:=he 9999;rw[Sem.run_bind,Sem.run_bind,hg,hg,dX,FK];simp only[Result.andThen,Sem.run_bind,FY,Sem.run_pure];exact⟨trivial,trivial⟩
def zyq (t:TypeId){ti:TI}(ht:cT P t ti){eqs:Option (List (Nat×TypeDesc))}(hq:J8 P t eqs){x y:AV}{X Y:Value}(hx:av σ x X)(hy:av σ y Y)(xo yo:Operand){b:Bool}
  (he:zM ti eqs (oC xo || oC yo) x y=some b) (lH:∀k n,x≠.int k n) (oW:∀l n,x≠.str l n) (AR:∀b,x≠.bs b) (w:World):
  (do eqGuard .eql t xo yo X Y;binOp .eql t X Y:Sem Value).run P w=.ok (.bool b) w∧(do eqGuard .neq t xo yo X Y;binOp .neq t X Y:Sem Value).run P w=.ok (.bool !b) w:=by
 cases ti with
 |mk d size bytes zero fs=>
 obtain⟨hu,inf,hi,hs,oe,fu,hf,ij,nC⟩:=ht;unfold zM at he;simp only at he;cases d <;> try (cases he;done)
 ·
  obtain⟨_,h2⟩:=Zq (P:=P) hx hy he;cases x <;> cases y <;> try (cases he;done)
  simp only[av]at hx hy;subst hx;subst hy;exact kY (fun op=>by cases op <;> simp[eqGuard]) rfl rfl (fun n=>h2 n t w hu)
 ·cases x <;> cases y <;> try (cases he;done)
  exact absurd rfl (lH _ _)
 ·cases x <;> cases y <;> try (cases he;done)
  ·exact absurd rfl (oW _ _)
  ·exact absurd rfl (AR _)
 ·
  rename_i elem;cases x <;> cases y <;> try (cases he;done)
  case ptr0.ip cs=>
   cases he;simp only[av]at hx hy;obtain⟨b1,_,_,_,e1,_⟩:=hy;subst hx;subst e1;exact kY (fun op=>by cases op <;> simp[eqGuard]) rfl rfl (fun n=>by simp[Op.equalIn,run_underlying hu])
  case ip.ptr0 cs=>
   cases he;simp only[av]at hx hy;obtain⟨b1,_,_,_,e1,_⟩:=hx;subst hy;subst e1;exact kY (fun op=>by cases op <;> simp[eqGuard]) rfl rfl (fun n=>by simp[Op.equalIn,run_underlying hu])
  ·cases he;simp only[av]at hx hy;subst hx;subst hy;exact kY (fun op=>by cases op <;> simp[eqGuard]) rfl rfl (fun n=>by simp[Op.equalIn,run_underlying hu])
  ·cases he;simp only[av]at hx hy;obtain⟨b1,_,e1⟩:=hy;subst hx;subst e1;exact kY (fun op=>by cases op <;> simp[eqGuard]) rfl rfl (fun n=>by simp[Op.equalIn,run_underlying hu])
  ·cases he;simp only[av]at hx hy;obtain⟨b1,_,e1⟩:=hx;subst hy;subst e1;exact kY (fun op=>by cases op <;> simp[eqGuard]) rfl rfl (fun n=>by simp[Op.equalIn,run_underlying hu])
  ·rename_i i o j p;simp only at he;cases nD:Nat.beq i j with
   |false=>rw[nD]at he;cases he
   |true=>
    have:=ad nD;subst this;rw[nD]at he;cases fs with
    |nil=>cases he
    |cons q fs=>
     obtain⟨o0,s,b0⟩:=q;have ef:=nC elem (.inr (.inr rfl)) o0 s b0 rfl;simp only at he;cases pV:Nat.beq s 0 with
     |true=>rw[pV]at he;cases he
     |false=>
      rw[pV]at he;cases he;have tK:=nU pV;simp only[av]at hx hy;obtain⟨b1,tf,e1⟩:=hx;obtain⟨b2,iJ,e2⟩:=hy;rw[tf]at iJ;cases iJ;subst e1;subst e2;have hpp:((⟨b1,o,none⟩:Addr) == ⟨b1,p,none⟩)=Nat.beq o p:=by
       cases eZ:Nat.beq o p with
       |true=>rw[ad eZ];simp
       |false=>
        apply beq_eq_false_iff_ne.2;intro e;exact nU eZ (congrArg Addr.off e)
      exact kY (fun op=>by cases op <;> simp[eqGuard]) rfl rfl (fun n=>by simp[Op.equalIn,run_underlying hu,ef.size,tK,sameAddr,hpp])
 ·
  cases x <;> try (cases y <;> cases he;done)
  case fz es full xs=>
   cases xs with
   |nil=>cases y <;> cases he
   |cons z xs=>
    cases y <;> try (cases he;done)
    cases he;simp only[av]at hx hy;obtain⟨a,cap,e,g1,g2,g4,g3⟩:=hx;obtain⟨b1,o1,_,_,e1,_⟩:=g3 (by simp);subst hy;subst e;subst e1;exact kY (fun op=>by cases op <;> simp[eqGuard]) rfl rfl (fun n=>by simp[Op.equalIn,run_underlying hu])
  all_goals cases y <;> try (cases he;done)
  ·cases he;simp only[av]at hx hy;subst hx;subst hy;exact kY (fun op=>by cases op <;> simp[eqGuard]) rfl rfl (fun n=>by simp[Op.equalIn,run_underlying hu])
  ·cases he;simp only[av]at hx hy;obtain⟨b1,_,e1,_⟩:=hy;subst hx;subst e1;exact kY (fun op=>by cases op <;> simp[eqGuard]) rfl rfl (fun n=>by simp[Op.equalIn,run_underlying hu])
  ·cases he;simp only[av]at hx hy;obtain⟨b1,_,e1,_⟩:=hx;subst hy;subst e1;exact kY (fun op=>by cases op <;> simp[eqGuard]) rfl rfl (fun n=>by simp[Op.equalIn,run_underlying hu])
 ·
  rename_i len elem;cases x <;> cases y <;> try (cases he;done)
  rename_i xs ys;cases eqs with
  |none=>cases he
  |some ks=>
   simp only at he;obtain⟨q1,q2⟩:=hq;simp only[av]at hx hy;obtain⟨XS,e1,r1⟩:=hx;obtain⟨YS,e2,r2⟩:=hy;subst e1;subst e2;have q3:=q2 σ xs ys XS YS b r1 r2 he w;have hg:∀op,(eqGuard op t xo yo (.agg XS.toArray) (.agg YS.toArray)).run P w=.ok () w:=fun op=>by cases op <;> simp[eqGuard,q1]
   have dX:binOp .eql t (.agg XS.toArray) (.agg YS.toArray)=(do pure (.bool (← Op.equal t (.agg XS.toArray) (.agg YS.toArray)))):=rfl;have FK:binOp .neq t (.agg XS.toArray) (.agg YS.toArray)=(do pure (.bool (!(← Op.equal t (.agg XS.toArray) (.agg YS.toArray))))):=rfl;rw[Sem.run_bind,Sem.run_bind,hg,hg,dX,FK];simp only[Result.andThen,Sem.run_bind,q3,Sem.run_pure];exact⟨trivial,trivial⟩
 ·
  cases x <;> cases y <;> try (cases he;done)
  ·cases he;simp only[av]at hx hy;subst hx;subst hy;exact kY (fun op=>by cases op <;> simp[eqGuard]) rfl rfl (fun n=>by simp[Op.equalIn,run_underlying hu])
  ·cases he;simp only[av]at hx hy;obtain⟨b1,_,e1⟩:=hy;subst hx;subst e1;exact kY (fun op=>by cases op <;> simp[eqGuard]) rfl rfl (fun n=>by simp[Op.equalIn,run_underlying hu])
  ·cases he;simp only[av]at hx hy;obtain⟨b1,_,e1⟩:=hx;subst hy;subst e1;exact kY (fun op=>by cases op <;> simp[eqGuard]) rfl rfl (fun n=>by simp[Op.equalIn,run_underlying hu])
 ·
  rename_i fields;cases x <;> cases y <;> try (cases he;done)
  rename_i xs ys;cases eqs with
  |none=>cases he
  |some ks=>
   simp only at he;obtain⟨q1,q2⟩:=hq;simp only[av]at hx hy;obtain⟨XS,e1,r1⟩:=hx;obtain⟨YS,e2,r2⟩:=hy;subst e1;subst e2;have q3:=q2 σ xs ys XS YS b r1 r2 he w;have hg:∀op,(eqGuard op t xo yo (.agg XS.toArray) (.agg YS.toArray)).run P w=.ok () w:=fun op=>by cases op <;> simp[eqGuard,q1]
   have dX:binOp .eql t (.agg XS.toArray) (.agg YS.toArray)=(do pure (.bool (← Op.equal t (.agg XS.toArray) (.agg YS.toArray)))):=rfl;have FK:binOp .neq t (.agg XS.toArray) (.agg YS.toArray)=(do pure (.bool (!(← Op.equal t (.agg XS.toArray) (.agg YS.toArray))))):=rfl;rw[Sem.run_bind,Sem.run_bind,hg,hg,dX,FK];simp only[Result.andThen,Sem.run_bind,q3,Sem.run_pure];exact⟨trivial,trivial⟩
 ·
  cases x <;> cases y <;> try (cases he;done)
  ·cases he;simp only[av]at hx hy;obtain⟨A,C,e1,_⟩:=hx;subst hy;subst e1;exact kY (fun op=>by cases op <;> simp[eqGuard]) rfl rfl (fun n=>by simp[Op.equalIn,run_underlying hu])
  ·cases he;simp only[av]at hx hy;obtain⟨A,C,e1,_⟩:=hy;subst hx;subst e1;exact kY (fun op=>by cases op <;> simp[eqGuard]) rfl rfl (fun n=>by simp[Op.equalIn,run_underlying hu])
  ·cases he;simp only[av]at hx hy;subst hx;subst hy;exact kY (fun op=>by cases op <;> simp[eqGuard]) rfl rfl (fun n=>by simp[Op.equalIn,run_underlying hu])
 ·
  cases x <;> cases y <;> try (cases he;done)
  ·rename_i t1 v1 t2 v2;simp only at he;cases GL:Nat.beq t1 t2 with
   |true=>rw[GL]at he;cases he
   |false=>
    rw[GL]at he;cases he;have aT:=nU GL;simp only[av]at hx hy;obtain⟨V1,e1,_⟩:=hx;obtain⟨V2,e2,_⟩:=hy;subst e1;subst e2;exact kY (fun op=>by cases op <;> simp[eqGuard]) rfl rfl (fun n=>by simp[Op.equalIn,run_underlying hu,aT])
  ·cases he;simp only[av]at hx hy;obtain⟨V1,e1,_⟩:=hx;subst hy;subst e1;exact kY (fun op=>by cases op <;> simp[eqGuard]) rfl rfl (fun n=>by simp[Op.equalIn,run_underlying hu])
  ·cases he;simp only[av]at hx hy;obtain⟨V1,e1,_⟩:=hy;subst hx;subst e1;exact kY (fun op=>by cases op <;> simp[eqGuard]) rfl rfl (fun n=>by simp[Op.equalIn,run_underlying hu])
  ·simp only at he;cases hc:(oC xo || oC yo) with
   |false=>rw[hc]at he;cases he
   |true=>
    rw[hc]at he;cases he;simp only[av]at hx hy;subst hx;subst hy;have hg:∀op,(eqGuard op t xo yo .nilIface .nilIface).run P w=.ok () w:=by
     intro op;cases op <;> first |rfl |(cases xo <;> cases yo <;> first |rfl |(exact absurd hc (by simp[oC])))
    exact kY hg rfl rfl (fun n=>by simp[Op.equalIn,run_underlying hu])
def vBool (b:Bool)(h:Tr ABlk) (nx:Nat):R:=match b with |true=>.val (.bool true) h nx |false=>.val (.bool false) h nx
def zzb (hk:Ok G σ h nx w){b:Bool}{m:Sem Value}(hm:m.run P w=.ok (.bool b) w):RV P G σ h nx w m (vBool b h nx):=by
 cases b <;> exact SV.pure hk hm (by simp only[av])
def xI (ti:TI)(eqs:Option (List (Nat×TypeDesc)))(c:Bool)(op:BinOp)(x y:AV)(h:Tr ABlk) (nx:Nat):R:=
 match op with
 |.eql=>match zM ti eqs c x y with
  |some b=>vBool b h nx
  |none=>.fail
 |.neq=>match zM ti eqs c x y with
  |some b=>vBool (!b) h nx
  |none=>.fail
 |_=>.fail
def xU (ti:TI)(eqs:Option (List (Nat×TypeDesc)))(c:Bool)(op:BinOp)(x y:AV)(h:Tr ABlk) (nx:Nat):R:=
 match x with
 |.int k a=>match y with
  |.int k' b=>match op with
   |.shl=>ur .shl k a b h nx
   |.shr=>ur .shr k a b h nx
   |op=>match vu k k' with
    |true=>iR op k a b h nx
    |false=>.fail
  |_=>.fail
 |.str l n=>match y with
  |.str k m=>zD op l n k m h nx
  |_=>.fail
 |.bs a=>match y with
  |.bs b=>jg op a b h nx
  |_=>.fail
 |x=>xI ti eqs c op x y h nx
def RV.guard {m:Sem Value}{r:R}{gd:Sem Unit}(hg:gd.run P w=.ok () w)(hm:RV P G σ h nx w m r):RV P G σ h nx w (do gd;m) r:=by
 cases r with
 |fail=>trivial
 |unit _ _=>exact hm
 |val v g ny=>
  obtain⟨V,τ,x,h1,h2,h3⟩:=hm;exact⟨V,τ,x,by rw[Sem.run_bind,hg];exact h1,h2,h3⟩
def zP0 (hk:Ok G σ h nx w)(t:TypeId){ti:TI}(ht:cT P t ti){eqs:Option (List (Nat×TypeDesc))}(hq:J8 P t eqs)(op:BinOp){x y:AV}{X Y:Value}(hx:av σ x X)(hy:av σ y Y)(xo yo:Operand)
  (lH:∀k n,x≠.int k n) (oW:∀l n,x≠.str l n) (AR:∀b,x≠.bs b):RV P G σ h nx w (do eqGuard op t xo yo X Y;binOp op t X Y) (xI ti eqs (oC xo || oC yo) op x y h nx):=by
 unfold xI;cases op <;> try trivial
 ·simp only;cases he:zM ti eqs (oC xo || oC yo) x y with
  |none=>trivial
  |some b=>exact zzb hk (zyq t ht hq hx hy xo yo he lH oW AR w).1
 ·simp only;cases he:zM ti eqs (oC xo || oC yo) x y with
  |none=>trivial
  |some b=>exact zzb hk (zyq t ht hq hx hy xo yo he lH oW AR w).2
def zQ5 (hk:Ok G σ h nx w)(t:TypeId){ti:TI}(ht:cT P t ti){eqs:Option (List (Nat×TypeDesc))}(hq:J8 P t eqs)(op:BinOp){x y:AV}{X Y:Value}(hx:av σ x X)(hy:av σ y Y)(xo yo:Operand):
  RV P G σ h nx w (do eqGuard op t xo yo X Y;binOp op t X Y) (xU ti eqs (oC xo || oC yo) op x y h nx):=by
 unfold xU;cases x with
 |int k a=>
  cases y <;> try trivial
  rename_i k' b;simp only[av]at hx hy;subst hx;subst hy;refine RV.guard (by cases op <;> rfl) ?_;have tO:RV P G σ h nx w (binOp op t (.int k a) (.int k' b)) (match vu k k' with |true=>iR op k a b h nx |false=>.fail):=by
   cases e:vu k k' with
   |false=>trivial
   |true=>
    have:=LU e;subst this;exact zOy hk t op k a b
  cases op <;> first
   |exact tO
   |exact zFu hk t _ k k' a b
 |str l n=>
  cases y <;> try trivial
  rename_i k m;simp only[av]at hx hy;obtain⟨h1,e1⟩:=hx;obtain⟨h2,e2⟩:=hy;subst e1;subst e2;exact RV.guard (by cases op <;> rfl) (zJg hk t op h1 h2)
 |bs a=>
  cases y <;> try trivial
  rename_i b;simp only[av]at hx hy;subst hx;subst hy;exact RV.guard (by cases op <;> rfl) (zM7 hk t op a b)
 |_=>exact zP0 hk t ht hq op hx hy xo yo (fun _ _=>by simp) (fun _ _=>by simp) (fun _=>by simp)
def VE:TypeDesc→Bool
 |.interface _=>true
 |_=>false
def zA (td:TI)(ta:TypeId)(ok:Bool)(x:AV)(h:Tr ABlk) (nx:Nat):R:=
 match td with
 |.mk d _ _ zero _=>match VE d with
  |true=>.fail
  |false=>match x with
   |.iface t v=>match Nat.beq t ta with
    |true=>match ok with
     |true=>.val (.tup [v,.bool true]) h nx
     |false=>.val v h nx
    |false=>match ok with
     |true=>match zero with
      |some z=>.val (.tup [z,.bool false]) h nx
      |none=>.fail
     |false=>.fail
   |.nilIface=>match ok with
    |true=>match zero with
     |some z=>.val (.tup [z,.bool false]) h nx
     |none=>.fail
    |false=>.fail
   |_=>.fail
def zTg (hk:Ok G σ h nx w)(xt ta:TypeId){td:TI}(ht:cT P ta td)(ok:Bool){x:AV}{X:Value}(hx:av σ x X):RV P G σ h nx w (Instr.typeAssert X xt ta ok) (zA td ta ok x h nx):=by
 cases td with
 |mk d size bytes zero fs=>
 obtain⟨hu,inf,hi,hs,oe,fu,hf,ij,nC⟩:=ht;unfold zA;simp only;cases hid:VE d with
 |true=>trivial
 |false=>
  have hd:¬∃ms,d=.interface ms:=by
   rintro⟨ms,e⟩
   subst e;cases hid
  simp only
  have Pk : ∀ t v, (Instr.typeAssert (.iface t v) xt ta ok).run P w = (if t = ta then (pure (if ok then .tuple #[v, .bool true] else v) : Sem Value) else (if ok then do pure (.tuple #[← zeroValue ta, .bool false]) else runtimePanic (.typeAssertion (some xt) (some t) ta ""))).run P w := by
   intro t v;unfold Instr.typeAssert;simp only[Sem.run_bind,run_underlying hu,Result.andThen];cases d <;> first |rfl |(exact absurd ⟨_,rfl⟩ hd)
  have uk : (Instr.typeAssert .nilIface xt ta ok).run P w = (if ok then do pure (.tuple #[← zeroValue ta, .bool false]) else runtimePanic (.typeAssertion (some xt) none ta "") : Sem Value).run P w := by
   unfold Instr.typeAssert;simp only[Sem.run_bind,run_underlying hu,Result.andThen];cases d <;> first |rfl |(exact absurd ⟨_,rfl⟩ hd)
  cases x <;> try trivial
  ·rename_i t v;simp only[av]at hx;obtain⟨V,e,hv⟩:=hx;subst e;simp only;cases ht:Nat.beq t ta with
   |true=>
    have:=ad ht;subst this;cases ok with
    |true=>
     refine SV.pure hk (V:=.tuple #[V,.bool true]) (by rw[Pk];simp) ?_;simp only[av];exact⟨[V,.bool true],rfl,by simp only[aC,av];exact⟨_,_,rfl,hv,_,_,rfl,rfl,rfl⟩⟩
    |false=>exact SV.pure hk (V:=V) (by rw[Pk];simp) hv
   |false=>
    have aT:=nU ht;cases ok with
    |false=>trivial
    |true=>
     cases zero with
     |none=>trivial
     |some z=>
      obtain⟨Z,hZ,kA,_⟩:=fu z rfl;refine SV.pure hk (V:=.tuple #[Z,.bool false]) (by rw[Pk];simp[aT,zw hi hZ]) ?_;simp only[av];exact⟨[Z,.bool false],rfl,by simp only[aC,av];exact⟨_,_,rfl,kA σ,_,_,rfl,rfl,rfl⟩⟩
  ·simp only[av]at hx;subst hx;cases ok with
   |false=>trivial
   |true=>
    cases zero with
    |none=>trivial
    |some z=>
     obtain⟨Z,hZ,kA,_⟩:=fu z rfl;refine SV.pure hk (V:=.tuple #[Z,.bool false]) (by rw[uk];simp[zw hi hZ]) ?_;simp only[av];exact⟨[Z,.bool false],rfl,by simp only[aC,av];exact⟨_,_,rfl,kA σ,_,_,rfl,rfl,rfl⟩⟩
def scal:TypeDesc→Bool
 |.int _=>true
 |.string=>true
 |.bool=>true
 |_=>false
def Te {kt:TypeId}{d:TypeDesc}(hu:P.underlying kt=some d)(hs:scal d=true)(e:Bool) (n:Nat)(K:Value)(w:World):(Instr.checkKey e (n+1) kt K).run P w=.ok () w:=by
 unfold Instr.checkKey;simp only[Sem.run_bind,run_underlying hu,Result.andThen];cases d <;> first |rfl |(exact absurd hs (by simp[scal]))
def mU (d:TypeDesc)(k:AV)(es:List (AV×AV×Nat)):Nat→Option (Option (Nat×AV)):=
 List.rec (motive:=fun _=>Nat→Option (Option (Nat×AV))) (fun _=>some none) (fun e _ ih i=>match e with
  |(k',v,_)=>match mC d k k' with
   |some true=>some (some (i,v))
   |some false=>fN (Nat.succ i) ih
   |none=>none) es
def Er (d:TypeDesc)(k k' v:AV) (n:Nat)(es:List (AV×AV×Nat)) (i:Nat):mU d k ((k',v,n)::es) i=match mC d k k' with
   |some true=>some (some (i,v))
   |some false=>fN (Nat.succ i) (mU d k es)
   |none=>none:=rfl
def r8 (σ:Sg):Option (Nat×AV)→Option (Nat×Value)→Prop
 |none,R=>R=none
 |some (i,v),R=>∃V,R=some (i,V)∧av σ v V
def Lm {d:TypeDesc}{k:AV}{K:Value}(hk:av σ k K):∀{es:List (AV×AV×Nat)}{E:List MapEntry}{i:Nat}{r:Option (Nat×AV)},dC σ es E→mU d k es i=some r→
  ∃R,Instr.findNow d K E i=some R∧r8 σ r R∧∀j v,r=some (j,v)→i≤j∧j<i+es.length∧∃k',(es[j-i]?).map (·.1)=some k'∧mC d k k'=some true
 |[],E,i,r,he,hf=>by
  cases hf;simp only[dC]at he;subst he;exact⟨none,rfl,rfl,fun j v e=>by cases e⟩
 |(k',v,n)::es,E,i,r,he,hf=>by
  simp only[dC]at he;obtain⟨K',V,E',e,h1,h2,h3⟩:=he;subst e;rw[Er]at hf;cases hs:mC d k k' with
  |none=>rw[hs]at hf;cases hf
  |some b=>
   have mO:=(Zq (P:=default) hk h1 hs).1;rw[hs]at hf;cases b with
   |true=>
    cases hf;refine⟨some (i,V),by simp[Instr.findNow,mO],⟨V,rfl,h2⟩,fun j v' e=>?_⟩;cases e;exact⟨ae _,by simp,k',by simp,hs⟩
   |false=>
    simp only[fN_eq]at hf;obtain⟨R,a1,a2,a3⟩:=Lm hk h3 hf;refine⟨R,by simpa[Instr.findNow,mO]using a1,a2,fun j v' e=>?_⟩;obtain⟨b1,b2,k2,b3,b4⟩:=a3 j v' e;refine⟨by omega,by simp at b2 ⊢;omega,k2,?_,b4⟩;rw[show j-i=(j-Nat.succ i)+1 by omega];simpa using b3
def DW (kt et:TypeId)(K:Value)(E:List MapEntry)(ok:Bool):Sem Value:=do
 Instr.checkKey (List.toArray E).isEmpty 10000 kt K
 let (v,ok') ← match ← Instr.findKey kt K (List.toArray E).toList with
  |some (_,v)=>pure (v,true)
  |none=>pure (← zeroValue et,false)
 pure (if ok then .tuple #[v,.bool ok'] else v)
def bX (ok:Bool)(z:AV)(r:Option (Nat×AV))(h:Tr ABlk) (nx:Nat):R:=
 match r with
 |some (_,v)=>match ok with
  |true=>.val (.tup [v,.bool true]) h nx
  |false=>.val v h nx
 |none=>match ok with
  |true=>.val (.tup [z,.bool false]) h nx
  |false=>.val z h nx
def xv (ti:TI)(tk te:Option TI)(kt et:TypeId)(ok:Bool)(m k:AV)(h:Tr ABlk) (nx:Nat):R:=
 match ti,tk,te with
 |.mk (.map Bi MG) _ _ _ _,some (.mk dk _ _ _ _),some (.mk _ _ _ (some z) _)=>match Nat.beq kt Bi,Nat.beq et MG,scal dk with
  |true,true,true=>
   match (match m with
    |.map0=>some none
    |.map i=>match h.get i with
     |some (.map es _)=>mU dk k es 0
     |_=>none
    |_=>none:Option (Option (Nat×AV))) with
   |some r=>bX ok z r h nx
   |none=>.fail
  |_,_,_=>.fail
 |_,_,_=>.fail
def zJa (hk:Ok G σ h nx w)(t:TypeId){ti:TI}(ht:cT P t ti){tk te:Option TI}{kt et:TypeId}(dR:∀ti,tk=some ti→cT P kt ti)(jb:∀ti,te=some ti→cT P et ti)(ok:Bool){m k:AV}{M K:Value}
  (hm:av σ m M) (fV:av σ k K):RV P G σ h nx w (Instr.lookup t M K ok) (xv ti tk te kt et ok m k h nx):=by
 unfold xv;split
 ·rename_i Bi MG q1 q2 q3 q4 dk q5 q6 q7 q8 dd q9 PD z PE;obtain⟨hu,_⟩:=ht;obtain⟨GN,_⟩:=dR _ rfl;obtain⟨ou,inf,hi,hs,oe,fu,_⟩:=jb _ rfl;obtain⟨Z,hZ,kA,_⟩:=fu z rfl;split
  ·rename_i e1 e2 e3;have jF:=ad e1;have pF:=ad e2;subst jF;subst pF;have main:∀(es:List (AV×AV×Nat)) (E:List MapEntry) (r:Option (Nat×AV)),dC σ es E→mU dk k es 0=some r→
     (DW kt et K E ok).run P w=.ok (match r with |some (j,v)=>(match Instr.findNow dk K E 0 with |some (some (_,V))=>if ok then .tuple #[V,.bool true] else V |_=>.nilFunc) |none=>if ok then .tuple #[Z,.bool false] else Z) w:=by
    intro es E r hE hf;obtain⟨R,a1,a2,_⟩:=Lm fV hE hf;have eB:=Te (P:=P) GN e3 (List.toArray E).isEmpty 9999 K w;have wA:(Instr.findKey kt K E).run P w=.ok R w:=by simp[Instr.findKey,run_underlying GN,a1]
    cases r with
    |none=>
     simp only[r8]at a2;subst a2;simp only[DW,Sem.run_bind,eB,Result.andThen,wA,zw hi hZ,Sem.run_pure]
    |some p=>
     obtain⟨j,v⟩:=p;simp only[r8]at a2;obtain⟨V,e,_⟩:=a2;subst e;simp only[DW,Sem.run_bind,eB,Result.andThen,wA,Sem.run_pure,a1]
   have fin:∀(es:List (AV×AV×Nat)) (E:List MapEntry) (r:Option (Nat×AV)) (mm:Sem Value),dC σ es E→mU dk k es 0=some r→
     mm.run P w=(DW kt et K E ok).run P w→
     RV P G σ h nx w mm (bX ok z r h nx):=by
    intro es E r mm hE hf lG;have aR:=main es E r hE hf;rw[← lG]at aR;obtain⟨R,a1,a2,_⟩:=Lm fV hE hf;cases r with
    |none=>
     cases ok with
     |true=>
      refine SV.pure hk (V:=.tuple #[Z,.bool false]) aR ?_;simp only[av];exact⟨[Z,.bool false],rfl,by simp only[aC,av];exact⟨_,_,rfl,kA σ,_,_,rfl,rfl,rfl⟩⟩
     |false=>exact SV.pure hk (V:=Z) aR (kA σ)
    |some p=>
     obtain⟨j,v⟩:=p;simp only[r8]at a2;obtain⟨V,e,hv⟩:=a2;subst e;rw[a1]at aR;cases ok with
     |true=>
      refine SV.pure hk (V:=.tuple #[V,.bool true]) aR ?_;simp only[av];exact⟨[V,.bool true],rfl,by simp only[aC,av];exact⟨_,_,rfl,hv,_,_,rfl,rfl,rfl⟩⟩
     |false=>exact SV.pure hk (V:=V) aR hv
   cases m <;> try trivial
   ·simp only[av]at hm;subst hm;refine fin [] [] none _ (by simp only[dC]) rfl ?_;unfold Instr.lookup DW;simp only[Sem.run_bind,run_underlying hu,Result.andThen,Sem.run_pure];rfl
   ·rename_i i;simp only[av]at hm;obtain⟨b,hb,e⟩:=hm;subst e;cases hg:h.get i with
    |none=>simp only[hg];trivial
    |some B=>
     cases B with
     |cells _ _ _ _ _=>simp only[hg];trivial
     |loop _ _ _ _ _ _ _ _ _=>simp only[hg];trivial
     |dfr=>simp only[hg];trivial
     |miter _ _ _ _=>simp only[hg];trivial
     |siter _ _=>simp only[hg];trivial
     |map es cl=>
      simp only[hg];obtain⟨b',E,aV,aE,hE⟩:=hk.map hg;rw[hb]at aV;cases aV;cases hf:mU dk k es 0 with
      |none=>trivial
      |some r=>
       refine fin es E r _ hE hf ?_;unfold Instr.lookup DW;have fj:(getObj b).run P w=.ok (.map (List.toArray E) cl) w:=by simp[getObj,Sem.run,aE]
       simp only[Sem.run_bind,run_underlying hu,Result.andThen,Sem.run_pure,fj];rfl
  ·trivial
 ·trivial
end
section
variable {P : Program} {G : Gl} {σ τ υ : Sg} {h g f : Tr ABlk} {nx ny nz : Nat} {w x y : World}
def Post.move (hk:Ok G σ h nx w){i b:Nat}{B0:ABlk}(hi:h.get i=some B0)(hb:σ.blk i=some b)(B:ABlk)(o:Obj)(hB:cq (σ.add nx b (σ.cap i)) nx B o):
  Post G σ h nx w (σ.add nx b (σ.cap i)) ((h.put i none).put nx (some B)) (nx+1) (iE w b o):=by
 have hle:σ.Le (σ.add nx b (σ.cap i)):=Sg.add_le (hk.fresh nx (ae _));have ay:=hk.lt hi;have NH:=hk.blt hi hb;have hs:∀j B',((h.put i none).put nx (some B)).get j=some B'→j≠nx→j≠i∧h.get j=some B':=by
  intro j B' hj hn;rw[Tr.get_put,if_neg hn,Tr.get_put]at hj;split at hj
  ·cases hj
  ·exact⟨by assumption,hj⟩
 have hold:∀k d,k≠nx→(σ.add nx b (σ.cap i)).blk k=some d→σ.blk k=some d:=fun k d hn hh=>by simpa[Sg.add,hn]using hh
 refine⟨⟨fun a ha=>?_,by have:=hk.le;omega,fun a ha=>?_,fun a c d B1 B2 h1 h2 h3 h4=>?_,fun a B1 h1=>?_,fun d C hd=>⟨?_,fun a B1 h1 e=>?_⟩,fun g cs hg=>(hk.gl g cs hg).mono hle⟩,hle,⟨rfl,rfl,rfl,by simp[iE],fun c hc hn=>?_,fun a B1 c h1 h2=>?_,fun _ _ h=>.inl h⟩,by omega⟩
 ·have:a≠nx:=by have:=hk.le;omega
  simp[Sg.add,this,hk.glob a ha]
 ·have:a≠nx:=by omega
  simp[Sg.add,this,hk.fresh a (by omega)]
 ·by_cases e1:a=nx <;> by_cases e2:c=nx
  ·omega
  ·obtain⟨n1,n2⟩:=hs c B2 h2 e2;have hd:d=b:=by subst e1;simpa[Sg.add]using h3.symm
   exact absurd (hk.inj c i b B2 B0 n2 hi (hd ▸ hold c d e2 h4) hb) n1
  ·obtain⟨n1,n2⟩:=hs a B1 h1 e1;have hd:d=b:=by subst e2;simpa[Sg.add]using h4.symm
   exact absurd (hk.inj a i b B1 B0 n2 hi (hd ▸ hold a d e1 h3) hb) n1
  ·exact hk.inj a c d B1 B2 (hs a B1 h1 e1).2 (hs c B2 h2 e2).2 (hold a d e1 h3) (hold c d e2 h4)
 ·by_cases e:a=nx
  ·subst e;rw[Tr.get_put,if_pos rfl]at h1;cases h1;exact⟨b,o,by simp[Sg.add],by simp[iE,NH],hB⟩
  ·obtain⟨n1,n2⟩:=hs a B1 h1 e;obtain⟨b',o',aV,ho,hr⟩:=hk.blk a B1 n2;refine⟨b',o',(hle.blk a b' aV).1,?_,hr.mono hle aV⟩;have aT:b≠b':=fun e'=>n1 (hk.inj a i b B1 B0 n2 hi (e' ▸ aV) hb);simp only[iE,Array.getElem?_setIfInBounds];rw[if_neg aT];exact ho
 ·obtain⟨⟨t,fr,h1⟩,h2⟩:=hk.imm d C hd;refine⟨t,fr,?_⟩;have aT:b≠d:=fun e=>h2 i B0 hi (e ▸ hb);simp only[iE,Array.getElem?_setIfInBounds];rw[if_neg aT];exact h1
 ·by_cases e':a=nx
  ·subst e';have:d=b:=by simpa[Sg.add]using e.symm
   exact(hk.imm d C hd).2 i B0 hi (this ▸ hb)
  ·exact(hk.imm d C hd).2 a B1 (hs a B1 h1 e').2 (hold a d e' e)
 ·have:b≠c:=fun e=>hn i B0 hi (e ▸ hb);simp only[iE,Array.getElem?_setIfInBounds];rw[if_neg this]
 ·by_cases e:a=nx
  ·subst e;have:c=b:=by simpa[Sg.add]using h2.symm
   exact .inr ⟨i,B0,hi,this ▸ hb⟩
  ·exact .inr ⟨a,B1,(hs a B1 h1 e).2,hold a c e h2⟩
def zx:TypeDesc→Bool
 |.int _=>false
 |_=>true
def Sx (t u ty e:TypeId)(i:TypeInfo)(du:TypeDesc)(ht:P.underlying t=some (.slice e))(hu:P.underlying u=some du)(NS:zx du=true)(hi:P.info? e=some i)
  (b off eH kR m:Nat) (X:Value) (news:List Value) (hlen:(Builtin.lenOf X).run P w=.ok m w) (rO:(Builtin.firstCells i.size m X).run P w=.ok news.toArray w)
  (cA:eH+m≤kR) {C:Array Value} {te:TypeId} {fr:Nat×Nat} (hb:w.heap[b]?=some (.cells C te fr)) (bC:off+eH * i.size+news.length≤C.size) (hf:∀k,k<C.size→¬(fr.1≤k∧k<fr.2)) (h1:∀u∈news,u.oneCell'=true):
  (Builtin.append_ #[t,u] ty #[.slice (some ⟨b,off,none⟩) eH kR,X]).run P w=.ok (.slice (some ⟨b,off,none⟩) (eH+m) kR) (iE w b (.cells (py news C (off+eH * i.size)) te fr)):=by
 have aU:=Lb (P:=P) (b:=b) (o:=off+eH * i.size) news 0 C w hb (by omega) hf h1;simp only[Nat.add_zero]at aU;cases du <;> first
  |(cases NS;done)
  |(simp[Builtin.append_,run_underlying ht,run_underlying hu,oA hi,hlen,cA,rO,jo,aU];done)
def Lt (t u ty e:TypeId)(i:TypeInfo)(z:Value)(du:TypeDesc)(ht:P.underlying t=some (.slice e))(hu:P.underlying u=some du)(NS:zx du=true)(hi:P.info? e=some i)(hz:i.zero=some z)
  (S:Value) (base:Option Addr) (eH kR m:Nat) (hS:S=.slice base eH kR) (X:Value) (jZ news:List Value) (hlen:(Builtin.lenOf X).run P w=.ok m w) (yx:(Builtin.firstCells i.size eH S).run P w.drew=.ok jZ.toArray w.drew) (rO:(Builtin.firstCells i.size m X).run P w.drew=.ok news.toArray w.drew)
  (cA:kR<eH+m) (Pa:(eH+m) * i.bytes≤140737488355328) (h63:eH+m≤4611686018427387904):
  (Builtin.append_ #[t,u] ty #[S,X]).run P w=.ok (.slice (some ⟨w.heap.size,0,none⟩) (eH+m) (grownCap w (eH+m) kR e))
   (w.drew.alloc (.cells (jZ.toArray++news.toArray++Builtin.zeroCells z.cells (grownCap w (eH+m) kR e-(eH+m))) e)):=by
 have bG:=growslice_fits cA Pa;have hn:¬(eH+m≤kR):=by omega
 have MW:¬(9223372036854775807<((eH:Int)+(m:Int))):=by omega
 have MV:¬(281474976710656<Builtin.nextslicecap (eH+m) kR * i.bytes):=by omega
 subst hS;cases du <;> first
  |(cases NS;done)
  |(simp[Builtin.append_,run_underlying ht,run_underlying hu,sizeOf,typeInfo,zeroValue,hi,hz,hlen,hn,MW,MV,Question.forced,rO,yx,newRow,grownCap]
    try (congr 2;apply Array.ext';simp[List.append_assoc];done))
def gH.flat {es:Nat}:∀{L D:List Value},gH es L D→L.flatMap (·.cells.toList)=D.take (L.length * es)∧(L.flatMap (·.cells.toList)).length=L.length * es
 |[],D,_=>by simp
 |X::L,D,h=>by
  simp only[gH]at h;obtain⟨h1,h2,h3⟩:=h;obtain⟨i1,i2⟩:=gH.flat h3;have hl:X.cells.toList.length=es:=by simpa using h2
  rw[List.flatMap_cons,i1,List.length_cons,Nat.succ_mul,Nat.add_comm _ es];refine⟨?_,?_⟩
  ·rw[List.take_add,← h1]
  ·rw[← i1,List.length_append,i2,hl]
def aC.flat {σ:Sg}:∀{l:List AV}{L:List Value},aC σ l L→aC σ (l.flatMap AV.cells) (L.flatMap (·.cells.toList))
 |[],L,h=>by simp only[aC]at h;subst h;simp only[List.flatMap_nil,aC]
 |a::l,L,h=>by
  simp only[aC]at h;obtain⟨V,L',e,h1,h2⟩:=h;subst e;simp only[List.flatMap_cons];exact h1.cells.append h2.flat
def Ok.fz (hk:Ok G σ h nx w){es:Nat}{full:Bool}{xs:List AV}{V:Value}(hv:av σ (.fz es full xs) V):
  ∃a cap L,V=.slice a xs.length cap∧aC σ (xs.flatMap AV.cells) L∧(xs.flatMap AV.cells).length=xs.length * es∧∀w':World,w'.heap=w.heap→(Builtin.firstCells es xs.length V).run P w'=.ok L.toArray w':=by
 simp only[av]at hv;obtain⟨a,cap,e,h1,h2,h4,h3⟩:=hv;subst e;cases xs with
 |nil=>
  refine⟨a,cap,[],rfl,by simp only[List.flatMap_nil,aC],by simp,fun w' _=>?_⟩;cases a with
  |none=>simp[Builtin.firstCells]
  |some a=>
   have:=run_loadCells_list (P:=P) w' a [] fun j u hj=>by simp at hj
   simpa[Builtin.firstCells]using this
 |cons z xs=>
  obtain⟨b,o,C,L,ea,i1,i2,i3⟩:=h3 (by simp);subst ea;obtain⟨f1,f2⟩:=i3.flat;have hlen:=i2.flat.length;have U9:=i2.length;refine⟨_,cap,_,rfl,i2.flat,by rw[← hlen,f2,U9],fun w' hw=>?_⟩;obtain⟨⟨t,fr,hh⟩,_⟩:=hk.imm b C i1;have qQ:w'.heap[b]?=some (.cells C.toArray t fr):=by rw[hw];exact hh
  have:=run_loadCells_list (P:=P) w' ⟨b,o,none⟩ (L.flatMap (·.cells.toList)) fun j u hj=>by
   rw[jo,oB qQ];rw[f1,List.getElem?_take]at hj;split at hj
   ·rw[List.getElem?_drop]at hj;simpa using hj
   ·cases hj
  rw[f2,U9]at this;simpa[Builtin.firstCells]using this
noncomputable section
def rB (size:Nat)(v:AV)(h:Tr ABlk):Option (Nat×List AV):=
 match v with
 |.sl0=>some (0,[])
 |.sl i o m _ _=>match h.get i with
  |some (.cells _ n c _ _)=>match Nat.ble (Nat.add o (Nat.mul m size)) n with
   |true=>match ji c (Nat.mul m size) o with
    |some l=>some (m,l)
    |none=>none
   |false=>none
  |_=>none
 |.str l n=>match Nat.beq size 1 with
  |true=>some (l,vR l n)
  |false=>none
 |.bs b=>match Nat.beq size 1 with
  |true=>some (b.size,b.data.toList.map fun z=>.int .u8 (Int.ofNat z.toNat))
  |false=>none
 |.fz es _ xs=>match Nat.beq es size with
  |true=>some (xs.length,xs.flatMap AV.cells)
  |false=>none
 |_=>none
def zxe {σ:Sg}:∀(l:List UInt8),aC σ (l.map fun z=>.int .u8 (Int.ofNat z.toNat)) (l.map fun z=>.int .u8 z.toNat)
 |[]=>by simp only[List.map_nil,aC]
 |z::l=>by
  simp only[List.map_cons,aC,av];exact⟨_,_,rfl,rfl,zxe l⟩
def Zr (hk:Ok G σ h nx w){size:Nat}{v:AV}{V:Value}(hv:av σ v V){m:Nat}{l:List AV}(hs:rB size v h=some (m,l)):
  ∃L,aC σ l L∧l.length=m * size∧(∀w':World,(Builtin.lenOf V).run P w'=.ok m w')∧∀w':World,w'.heap=w.heap→(Builtin.firstCells size m V).run P w'=.ok L.toArray w':=by
 unfold rB at hs;cases v <;> try (cases hs;done)
 case bs b=>
  simp only[av]at hv;subst hv;simp only at hs;cases hb:Nat.beq size 1 with
  |false=>rw[hb]at hs;cases hs
  |true=>
   rw[hb]at hs;cases hs;have:=ad hb;subst this;have UY:b.data.size=b.size:=rfl;refine⟨b.data.toList.map fun z=>.int .u8 z.toNat,zxe _,by simp[UY],fun w'=>by simp[Builtin.lenOf],fun w' _=>?_⟩;simp only[Builtin.firstCells,Sem.run_pure];have hx:b.extract 0 b.size=b:=by
    apply ByteArray.ext;rw[ByteArray.data_extract];exact Array.extract_size
   rw[hx]
   congr 1
   rw[← Array.toList_map]
 case fz es full xs=>
  simp only at hs;cases hb:Nat.beq es size with
  |false=>rw[hb]at hs;cases hs
  |true=>
   rw[hb]at hs;cases hs;have:=ad hb;subst this;obtain⟨a,cap,L,e,g1,g2,g3⟩:=hk.fz (P:=P) hv;subst e;exact⟨L,g1,g2,fun w'=>by simp[Builtin.lenOf],g3⟩
 ·rename_i sl sn;simp only[av]at hv;obtain⟨hn,e⟩:=hv;subst e;simp only at hs;cases hb:Nat.beq size 1 with
  |false=>rw[hb]at hs;cases hs
  |true=>
   rw[hb]at hs;cases hs;have:=ad hb;subst this;refine⟨(cJ m sn).map fun b=>.int .u8 b.toNat,KC m sn,by rw[Kt];omega,fun w'=>by simp[Builtin.lenOf,uq],fun w' _=>?_⟩;simp only[Builtin.firstCells,Sem.run_pure];have hx:(bK m sn).extract 0 m=bK m sn:=by
    apply ByteArray.ext;rw[ByteArray.data_extract];have hx:∀(a:Array UInt8) (n:Nat),a.size=n→a.extract 0 n=a:=by
     intro a n e;subst e;exact Array.extract_size
    exact hx _ _ (uq m sn)
   rw[hx]
   congr 1
   show Array.map _ (cJ m sn).toArray=_;simp
 ·simp only[av]at hv;subst hv;cases hs;exact⟨[],by simp only[aC],by simp,fun w'=>by simp[Builtin.lenOf],fun w' _=>by simp[Builtin.firstCells]⟩
 ·rename_i i o sm c opn;simp only[av]at hv;obtain⟨b,hb,e,_⟩:=hv;subst e;simp only at hs;split at hs
  ·rename_i e' n c' bD esz hg;split at hs
   ·rename_i hle;split at hs
    ·rename_i l' wF;cases hs;obtain⟨b',C,fr,aV,aE,aJ,_,_⟩:=hk.cells hg;rw[hb]at aV;cases aV;obtain⟨hlen,_⟩:=Rl _ _ _ _ wF;obtain⟨_,L,ju,lF,dD⟩:=BX (P:=P) aE aJ (ai hle) wF;refine⟨L,ju,hlen,fun w'=>by simp[Builtin.lenOf],fun w' hw=>?_⟩;have qQ:w'.heap[b]?=some (.cells C e' fr):=by rw[hw];exact aE
     have hL:L.length=m * size:=by rw[ju.length];exact hlen
     have:=run_loadCells_list (P:=P) w' ⟨b,o,none⟩ L fun j u hj=>by
      rw[jo,oB qQ,← oB aE,← jo];exact dD j u hj
     rw[hL]at this;simpa[Builtin.firstCells]using this
    ·cases hs
   ·cases hs
  ·cases hs
def zd (e:TypeId)(l:List AV) (size need:Nat)(h:Tr ABlk) (nx:Nat):R:=
 rZ l .nil 0 fun c=>fN (Nat.mul need size) fun n=>h.putK (some (.cells e n c true size)) nx fun h'=>fN (Nat.succ nx) fun ax=>fN need fun need=>.val (.sl nx 0 need 0 true) h' ax
def Mh (ti tu:TI)(te:Option TI)(et:TypeId)(s x:AV)(h:Tr ABlk) (nx:Nat):R:=
 match ti,tu,te with
 |.mk d _ _ _ _,.mk du _ _ _ _,some (.mk _ size bytes (some _) _)=>match d with
  |.slice e=>match Nat.beq e et with
   |false=>.fail
   |true=>match zx du with
    |false=>.fail
    |true=>match Nat.ble bytes 65536 with
     |false=>.fail
     |true=>match rB size x h with
      |none=>.fail
      |some (m,news)=>match dS news with
       |false=>.fail
       |true=>match s with
        |.sl0=>match Nat.beq m 0 with
         |true=>.val .sl0 h nx
         |false=>match Nat.ble m 16777216 with
          |true=>zd e news size m h nx
          |false=>.fail
        |.fz es full xs=>match Nat.beq es size with
         |false=>.fail
         |true=>match full with
          |false=>.fail
          |true=>match Nat.beq m 0 with
           |true=>.val (.fz es true xs) h nx
           |false=>match Nat.ble (Nat.add xs.length m) 16777216 with
            |true=>zd e (xs.flatMap AV.cells++news) size (Nat.add xs.length m) h nx
            |false=>.fail
        |.sl i o len c opn=>match Nat.ble (Nat.add len m) 16777216 with
         |false=>.fail
         |true=>match h.get i with
          |some (.cells e' n cs bD esz)=>match Nat.ble (Nat.add o (Nat.mul len size)) n with
           |false=>.fail
           |true=>match opn with
            |false=>match Nat.ble (Nat.add len m) c with
             |true=>match Nat.ble (Nat.add o (Nat.mul (Nat.add len m) size)) n with
              |true=>rZ news cs (Nat.add o (Nat.mul len size)) fun jS=>h.putK (some (.cells e' n jS bD esz)) i fun h'=>fN (Nat.add len m) fun l'=>.val (.sl i o l' c false) h' nx
              |false=>.fail
             |false=>match ji cs (Nat.mul len size) o with
              |some jZ=>zd e (jZ++news) size (Nat.add len m) h nx
              |none=>.fail
            |true=>match Nat.beq o 0 && Nat.beq c 0 && bD && Nat.beq esz size && Nat.beq e' e && Nat.ble 1 size with
             |true=>match Nat.ble (Nat.mul (Nat.add len m) size) n with
              |true=>rZ news cs (Nat.mul len size) fun jS=>h.putK (some (.cells e' n jS true esz)) i fun h'=>fN (Nat.add len m) fun l'=>.val (.sl i 0 l' 0 true) h' nx
              |false=>rZ news cs (Nat.mul len size) fun jS=>fN (Nat.mul (Nat.add len m) size) fun n'=>h.putK none i fun h'=>h'.putK (some (.cells e n' jS true size)) nx fun h'=>
                fN (Nat.succ nx) fun ax=>fN (Nat.add len m) fun l'=>.val (.sl nx 0 l' 0 true) h' ax
             |false=>.fail
          |_=>.fail
        |_=>.fail
  |_=>.fail
 |_,_,_=>.fail
end
def zQ0 (hk:Ok G σ h nx w)(e:TypeId){l:List AV}{L:List Value}(hl:aC σ l L){size need cap:Nat}(hlen:l.length=need * size)(fh:need≤cap){Z:Array Value}(hZ:Z.size=size):
  Post G σ h nx w (σ.add nx w.heap.size cap) (h.put nx (some (.cells e (need * size) (eu l .nil 0) true size))) (nx+1) (w.drew.alloc (.cells (L.toArray++Builtin.zeroCells Z (cap-need)) e)):=by
 have hd:=Post.drawn hk (w.drawn+1);have ha:=Post.alloc hd.ok cap (.cells e (need * size) (eu l .nil 0) true size) (.cells (L.toArray++Builtin.zeroCells Z (cap-need)) e) (by
  simp only[cq];refine⟨_,_,rfl,fun k aW=>?_,fun k aW=>by omega,?_⟩
  ·obtain⟨v,hv⟩:∃v,l[k]?=some v:=⟨l[k]'(by omega),by simp[show k<l.length by omega]⟩;obtain⟨V,h1,h2⟩:=hl.get hv;refine⟨v,V,?_,?_,h2.mono (Sg.add_le (hk.fresh nx (ae _)))⟩
   ·rw[qo,if_pos (by omega)];simpa using hv
   ·rw[Array.getElem?_append_left (by simp[hl.length];omega)];simpa using h1
  ·simp only[if_true,Array.size_append,List.size_toArray,hl.length,hlen,size_zeroCells,hZ];have:(σ.add nx w.heap.size cap).cap nx=cap:=by simp[Sg.add]
   refine⟨by omega,?_⟩;show _=(σ.add nx w.heap.size cap).cap nx * size;rw[this,← Nat.add_mul]
   congr 1
   omega)
 exact hd.trans ha
def QV (hk:Ok G σ h nx w)(e:TypeId){l:List AV}{L:List Value}(hl:aC σ l L){size need cap:Nat}(hlen:l.length=need * size)(fh:need≤cap){Z:Array Value}(hZ:Z.size=size){m:Sem Value}
  (hm:m.run P w=.ok (.slice (some ⟨w.heap.size,0,none⟩) need cap) (w.drew.alloc (.cells (L.toArray++Builtin.zeroCells Z (cap-need)) e))):RV P G σ h nx w m (zd e l size need h nx):=by
 simp only[zd,lP,fN_eq,Tr.putK_eq,RV];refine⟨_,_,_,hm,?_,zQ0 hk e hl hlen fh hZ⟩;simp only[av,if_true];exact⟨w.heap.size,by simp[Sg.add],by simp[Sg.add],by simp[Sg.add];exact fh⟩
def XE (hk:Ok G σ h nx w)(t u ty:TypeId){ti tu:TI}(ht:cT P t ti)(Jr:cT P u tu){te:Option TI}{et:TypeId}(jb:∀ti,te=some ti→cT P et ti){s x:AV}{S X:Value}(hs:av σ s S)(hx:av σ x X):
  RV P G σ h nx w (Builtin.append_ #[t,u] ty #[S,X]) (Mh ti tu te et s x h nx):=by
 unfold Mh;split
 ·rename_i d q1 q2 q3 q4 du q5 q6 q7 q8 de size bytes z PE;obtain⟨hu,kz⟩:=ht;obtain⟨nO,Pl⟩:=Jr;clear kz Pl;obtain⟨ou,inf,hi,bC,oe,fu,Pr⟩:=jb _ rfl;clear Pr;obtain⟨Z,hZ,kA,pX⟩:=fu z rfl;clear jb fu;cases d <;> try trivial
  rename_i e;simp only;cases dX:Nat.beq e et with
  |false=>trivial
  |true=>
  have:=ad dX;subst this;simp only;cases lH:zx du with
  |false=>trivial
  |true=>
  cases CZ:Nat.ble bytes 65536 with
  |false=>trivial
  |true=>
  have wt:=ai CZ;simp only;cases wV:rB size x h with
  |none=>trivial
  |some p=>
  obtain⟨m,news⟩:=p;simp only;cases mj:dS news with
  |false=>trivial
  |true=>
  obtain⟨NL,cS,dt,dP,eD⟩:=Zr (P:=P) hk hx wV;have s5:=LV mj cS;have ib:NL.length=m * size:=by rw[cS.length];exact dt
  have ml:∀k,k≤16777216→k * inf.bytes≤140737488355328:=by
   intro k aW;rw[oe];have:=Nat.mul_le_mul aW wt;omega
  simp only;cases s <;> try trivial
  case fz es full xs=>
   simp only;cases oT:Nat.beq es size with
   |false=>trivial
   |true=>
   have:=ad oT;subst this;cases full with
   |false=>trivial
   |true=>
   obtain⟨a,cap,OL,eS,g1,g2,g3⟩:=hk.fz (P:=P) hs;have jJ:=hs;simp only[av]at jJ;obtain⟨a',qab,T2,_,bS,AO,_⟩:=jJ;rw[eS]at T2;cases T2;have fh:=bS trivial;subst fh;simp only;cases wL:Nat.beq m 0 with
   |true=>
    have:=ad wL;subst this;refine SV.pure hk (V:=S) ?_ hs;have UI:NL=[]:=au (by rw[ib];simp);have hf:=eD w rfl;subst eS;cases a with
    |none=>
     cases du <;> first
      |(cases lH;done)
      |(simp[Builtin.append_,run_underlying hu,run_underlying nO,oA hi,bC,dP,hf];done)
    |some a=>
     subst UI;cases du <;> first
      |(cases lH;done)
      |(simp[Builtin.append_,run_underlying hu,run_underlying nO,oA hi,bC,dP,hf,storeCells];done)
   |false=>
    have OB:=nU wL;simp only;cases OC:Nat.ble (Nat.add xs.length m) 16777216 with
    |false=>trivial
    |true=>
    have AN:xs.length+m≤16777216:=ai OC;have aR:=Lt (P:=P) (w:=w) t u ty e inf Z du hu nO lH hi hZ S a xs.length xs.length m eS X OL NL (dP w) (by rw[bC];exact g3 w.drew rfl) (by rw[bC];exact eD w.drew rfl) (by omega) (ml _ AN) (by omega);simp only[List.append_toArray]at aR;exact QV hk e (g1.append cS) (by rw[List.length_append,g2,dt,Nat.add_mul]) (DQ w (xs.length+m) xs.length e) pX aR
  ·
   simp only[av]at hs;subst hs;simp only;cases wL:Nat.beq m 0 with
   |true=>
    have:=ad wL;subst this;refine SV.pure hk (V:=.slice none 0 0) ?_ (by simp only[av]);have UI:NL=[]:=au (by rw[ib];simp);have hf:=eD w rfl;cases du <;> first
     |(cases lH;done)
     |(simp[Builtin.append_,run_underlying hu,run_underlying nO,oA hi,bC,dP,hf];done)
   |false=>
    have OB:=nU wL;simp only;cases OC:Nat.ble m 16777216 with
    |false=>trivial
    |true=>
    have AN:=ai OC;have aR:=Lt (P:=P) (w:=w) t u ty e inf Z du hu nO lH hi hZ (.slice none 0 0) none 0 0 m rfl X [] NL (dP w) (by simp[Builtin.firstCells]) (by rw[bC];exact eD w.drew rfl) (by omega) (by rw[Nat.zero_add];exact ml m AN) (by omega);simp only[Nat.zero_add,List.append_toArray,List.nil_append]at aR;exact QV hk e cS dt (DQ w m 0 e) pX aR
  ·rename_i i o len c opn;simp only[av]at hs;obtain⟨b,hb,eS,dE⟩:=hs;simp only;cases tD:Nat.ble (Nat.add len m) 16777216 with
   |false=>trivial
   |true=>
   have Gj:len+m≤16777216:=ai tD;simp only;split
   ·rename_i e' n cs bD esz hg;obtain⟨b',C,fr,aV,aE,aJ,pN,lY⟩:=hk.cells hg;rw[hb]at aV;cases aV;have hnC:n≤C.size:=by split at lY <;> omega
    cases Da:Nat.ble (Nat.add o (Nat.mul len size)) n with
    |false=>trivial
    |true=>
    have AY:o+len * size≤n:=ai Da;have holds:∃jZ OL,ji cs (Nat.mul len size) o=some jZ→aC σ jZ OL∧jZ.length=len * size∧∀w':World,w'.heap=w.heap→(Builtin.firstCells size len S).run P w'=.ok OL.toArray w':=by
     cases fj:ji cs (Nat.mul len size) o with
     |none=>exact⟨[],[],fun e=>by cases e⟩
     |some jZ=>
      obtain⟨jI,OL,ju,_,dD⟩:=BX (P:=P) aE aJ AY fj;refine⟨jZ,OL,fun _=>⟨ju,jI,fun w' hw=>?_⟩⟩;have qQ:w'.heap[b]?=some (.cells C e' fr):=by rw[hw];exact aE
      have hL:OL.length=len * size:=by rw[ju.length];exact jI
      have:=run_loadCells_list (P:=P) w' ⟨b,o,none⟩ OL fun j u hj=>by
       rw[jo,oB qQ,← oB aE,← jo];exact dD j u hj
      rw[hL]at this;rw[eS];simpa[Builtin.firstCells]using this
    cases opn with
    |false=>
     simp only[Bool.false_eq_true,if_false]at eS dE;simp only;cases cA:Nat.ble (Nat.add len m) c with
     |true=>
      have o8:len+m≤c:=ai cA;simp only;cases bG:Nat.ble (Nat.add o (Nat.mul (Nat.add len m) size)) n with
      |false=>trivial
      |true=>
      have F2:o+(len+m) * size≤n:=ai bG;rw[Nat.add_mul]at F2;simp only[lP,Tr.putK_eq,fN_eq];have aR:=Sx (P:=P) (w:=w) t u ty e inf du hu nO lH hi b o len c m X NL (dP w) (by rw[bC];exact eD w rfl) o8 aE (by rw[bC,ib];omega) pN s5;rw[← eS,bC]at aR;have aU:=Mi hk hg (o:=o+len * size) cS (by rw[dt];omega) hb aE;refine⟨_,_,_,aR,?_,aU⟩;simp only[av,Bool.false_eq_true,if_false];exact⟨b,hb,rfl,o8⟩
     |false=>
      have o8:¬len+m≤c:=fun hh=>by rw[show Nat.ble (Nat.add len m) c=true from Nat.ble_eq_true_of_le hh]at cA;cases cA
      simp only;obtain⟨jZ,OL,qan⟩:=holds;cases fj:ji cs (Nat.mul len size) o with
      |none=>trivial
      |some VL=>
       simp only;obtain⟨jI,EI,ju,_,dD⟩:=BX (P:=P) aE aJ AY fj;have yx:∀w':World,w'.heap=w.heap→(Builtin.firstCells size len S).run P w'=.ok EI.toArray w':=by
        intro w' hw;have qQ:w'.heap[b]?=some (.cells C e' fr):=by rw[hw];exact aE
        have hL:EI.length=len * size:=by rw[ju.length];exact jI
        have:=run_loadCells_list (P:=P) w' ⟨b,o,none⟩ EI fun j u hj=>by
         rw[jo,oB qQ,← oB aE,← jo];exact dD j u hj
        rw[hL]at this;rw[eS];simpa[Builtin.firstCells]using this
       have aR:=Lt (P:=P) (w:=w) t u ty e inf Z du hu nO lH hi hZ S (some ⟨b,o,none⟩) len c m eS X EI NL (dP w) (by rw[bC];exact yx w.drew rfl) (by rw[bC];exact eD w.drew rfl) (by omega) (ml _ Gj) (by omega);rw[List.append_toArray EI NL]at aR;exact QV hk e (ju.append cS) (by rw[List.length_append,jI,dt,← Nat.add_mul]) (DQ w (len+m) c e) pX aR
    |true=>
     simp only[if_true]at eS dE;simp only;cases aQ:(Nat.beq o 0 && Nat.beq c 0 && bD && Nat.beq esz size && Nat.beq e' e && Nat.ble 1 size) with
     |false=>trivial
     |true=>
      simp only[ao]at aQ;obtain⟨⟨⟨⟨⟨e1,e2⟩,e3⟩,e4⟩,e5⟩,e6⟩:=aQ;have jF:=ad e1;have pF:=ad e2;have qz:=ad e4;have IJ:=ad e5;have IK:1≤size:=ai e6;subst jF;subst pF;subst qz;subst IJ;subst e3;simp only[Nat.sub_zero]at eS dE;simp only[if_true]at lY;simp only[Nat.zero_add]at AY;simp only;cases Gy:Nat.ble (Nat.mul (Nat.add len m) esz) n with
      |true=>
       have AZ:(len+m) * esz≤n:=ai Gy;have cA:len+m≤σ.cap i:=by
        have:(len+m) * esz≤σ.cap i * esz:=by rw[← lY.2];omega
        exact Nat.le_of_mul_le_mul_right this IK
       rw[Nat.add_mul]at AZ;simp only[lP,Tr.putK_eq,fN_eq];have aR:=Sx (P:=P) (w:=w) t u ty e' inf du hu nO lH hi b 0 len (σ.cap i) m X NL (dP w) (by rw[bC];exact eD w rfl) cA aE (by rw[bC,ib];omega) pN s5;rw[← eS,bC,Nat.zero_add]at aR;have aU:=Mi hk hg (o:=len * esz) cS (by rw[dt];omega) hb aE;refine⟨_,_,_,aR,?_,aU⟩;simp only[av,if_true,Nat.sub_zero];exact⟨b,hb,rfl,cA⟩
      |false=>
       simp only[lP,Tr.putK_eq,fN_eq]
       by_cases cA:len+m≤σ.cap i
       ·have bG:(len+m) * esz≤C.size:=by rw[lY.2];exact Nat.mul_le_mul_right _ cA
        have F3:=bG;rw[Nat.add_mul]at F3;have aR:=Sx (P:=P) (w:=w) t u ty e' inf du hu nO lH hi b 0 len (σ.cap i) m X NL (dP w) (by rw[bC];exact eD w rfl) cA aE (by rw[bC,ib];omega) pN s5;rw[← eS,bC,Nat.zero_add]at aR;have hle:σ.Le (σ.add nx b (σ.cap i)):=Sg.add_le (hk.fresh nx (ae _));have OG:=Post.move hk hg hb (.cells e' ((len+m) * esz) (eu news cs (len * esz)) true esz) (.cells (py NL C (len * esz)) e' fr) (by
         simp only[cq];refine⟨_,_,rfl,fun k aW=>?_,by rw[DJ];exact pN,?_⟩
         ·rw[qo,Mc _ _ _ _ (by rw[ib];omega),ib,dt];rw[Nat.add_mul]at aW
          by_cases ct:len * esz≤k∧k<len * esz+m * esz
          ·rw[if_pos ct,if_pos ct];obtain⟨v,hv⟩:∃v,news[k-len * esz]?=some v:=⟨news[k-len * esz]'(by omega),by simp[show k-len * esz<news.length by omega]⟩;obtain⟨V,h1,h2⟩:=cS.get hv;exact⟨v,V,hv,h1,h2.mono hle⟩
          ·rw[if_neg ct,if_neg ct];obtain⟨v,V,h1,h2,h3⟩:=aJ k (by omega);exact⟨v,V,h1,h2,h3.mono hle⟩
         ·rw[DJ];simp only[if_true];refine⟨bG,?_⟩;rw[lY.2];simp[Sg.add])
        refine⟨_,_,_,aR,?_,OG⟩;simp only[av,if_true,Nat.sub_zero];exact⟨b,by simp[Sg.add],by simp[Sg.add],by simp[Sg.add];exact cA⟩
       ·have hOL:∃OL:List Value,OL.length=len * esz∧(∀k,k<len * esz→OL[k]?=C[k]?)∧∀w':World,w'.heap=w.heap→(Builtin.firstCells esz len S).run P w'=.ok OL.toArray w':=by
         refine⟨C.toList.take (len * esz),by simp;omega,fun k aW=>by rw[List.getElem?_take_of_lt aW];simp,fun w' hw=>?_⟩;have qQ:w'.heap[b]?=some (.cells C e' fr):=by rw[hw];exact aE
         have hL:(C.toList.take (len * esz)).length=len * esz:=by simp;omega
         have:=run_loadCells_list (P:=P) w' ⟨b,0,none⟩ (C.toList.take (len * esz)) fun j u hj=>by
          rw[jo,oB qQ,Nat.zero_add];have yD:j<len * esz:=by
           rcases Nat.lt_or_ge j (len * esz) with h3 |h3
           ·exact h3
           ·rw[List.getElem?_eq_none (by omega)]at hj;cases hj
          rw[List.getElem?_take_of_lt yD]at hj;simpa using hj
         rw[hL]at this;rw[eS];simpa[Builtin.firstCells]using this
        obtain⟨OL,zY,Nt,yx⟩:=hOL;have aR:=Lt (P:=P) (w:=w) t u ty e' inf Z du hu nO lH hi hZ S (some ⟨b,0,none⟩) len (σ.cap i) m eS X OL NL (dP w) (by rw[bC];exact yx w.drew rfl) (by rw[bC];exact eD w.drew rfl) (by omega) (ml _ Gj) (by omega);rw[List.append_toArray OL NL]at aR;have kP:=DQ w (len+m) (σ.cap i) e';generalize grownCap w (len+m) (σ.cap i) e'=cap at aR kP;have Jl:=Post.erase hk i;have A2:=Post.drawn Jl.ok (w.drawn+1);have hle:σ.Le (σ.add nx w.heap.size cap):=Sg.add_le (hk.fresh nx (ae _));have O0:=Post.alloc A2.ok cap (.cells e' ((len+m) * esz) (eu news cs (len * esz)) true esz) (.cells ((OL++NL).toArray++Builtin.zeroCells Z.cells (cap-(len+m))) e') (by
         simp only[cq];refine⟨_,_,rfl,fun k aW=>?_,fun k _=>by omega,?_⟩
         ·rw[Nat.add_mul]at aW;rw[qo,dt,Array.getElem?_append_left (by simp[zY,ib];omega)]
          by_cases ct:len * esz≤k∧k<len * esz+m * esz
          ·rw[if_pos ct];obtain⟨v,hv⟩:∃v,news[k-len * esz]?=some v:=⟨news[k-len * esz]'(by omega),by simp[show k-len * esz<news.length by omega]⟩;obtain⟨V,h1,h2⟩:=cS.get hv;refine⟨v,V,hv,?_,h2.mono hle⟩;rw[List.getElem?_toArray,List.getElem?_append_right (by omega),zY];exact h1
          ·rw[if_neg ct];have ay:k<len * esz:=by omega
           obtain⟨v,V,h1,h2,h3⟩:=aJ k (by omega);refine⟨v,V,h1,?_,h3.mono hle⟩;rw[List.getElem?_toArray,List.getElem?_append_left (by omega),Nt k ay];exact h2
         ·simp only[if_true,Array.size_append,List.size_toArray,List.length_append,zY,ib,size_zeroCells,pX];have hc:(σ.add nx w.heap.size cap).cap nx=cap:=by simp[Sg.add]
          refine⟨by rw[Nat.add_mul];omega,?_⟩;show _=(σ.add nx w.heap.size cap).cap nx * esz;rw[hc,← Nat.add_mul,← Nat.add_mul]
          congr 1
          omega)
        refine⟨_,_,_,aR,?_,(Jl.trans A2).trans O0⟩;simp only[av,if_true,Nat.sub_zero];exact⟨w.heap.size,by simp[Sg.add],by simp[Sg.add],by simp[Sg.add];exact kP⟩
   ·trivial
 ·trivial
def dC.get {σ:Sg}:∀{l:List (AV×AV×Nat)}{E:List MapEntry}{k:Nat}{a b:AV}{n:Nat},dC σ l E→l[k]?=some (a,b,n)→∃A B,E[k]?=some ⟨A,B,n⟩∧av σ a A∧av σ b B
 |[],E,k,a,b,n,_,h=>by simp at h
 |(a0,b0,n0)::l,E,k,a,b,n,h,hk=>by
  simp only[dC]at h;obtain⟨A,B,E',e,h1,h2,h3⟩:=h;subst e;cases k with
  |zero=>simp at hk;obtain⟨e1,e2,e3⟩:=hk;subst e1;subst e2;subst e3;exact⟨A,B,rfl,h1,h2⟩
  |succ k=>simpa using h3.get (by simpa using hk)
def dC.of_get {σ:Sg}:∀{l:List (AV×AV×Nat)}{E:List MapEntry},E.length=l.length→(∀(k:Nat) a b n,l[k]?=some (a,b,n)→∃A B,E[k]?=some ⟨A,B,n⟩∧av σ a A∧av σ b B)→dC σ l E
 |[],E,e,_=>by simp only[dC];exact au (by simpa using e)
 |(a0,b0,n0)::l,E,e,h=>by
  cases E with
  |nil=>simp at e
  |cons V E'=>
   obtain⟨A,B,h1,h2,h3⟩:=h 0 a0 b0 n0 rfl;simp at h1;subst h1;simp only[dC];exact⟨A,B,E',rfl,h2,h3,dC.of_get (by simpa using e) fun k a b n hk=>by simpa using h (k+1) a b n (by simpa using hk)⟩
noncomputable section
def SE {α β:Type}(l:List α)(x:α):(List α→β)→β:=List.rec (motive:=fun _=>(List α→β)→β) (fun k=>k [x]) (fun e _ ih k=>ih fun l'=>k (e::l')) l
def S4 {α:Type}:∀(l:List α)(x:α)(β:Type)(k:List α→β),SE l x k=k (l++[x])
 |[],x,β,k=>rfl
 |e::l,x,β,k=>by
  show SE l x (fun l'=>k (e::l'))=_;rw[S4];rfl
def S3 {α β:Type}(l:List α)(g:α→α):Nat→(List α→β)→β:=List.rec (motive:=fun _=>Nat→(List α→β)→β) (fun _ k=>k [])
 (fun e l ih i k=>match i with |0=>k (g e::l) |Nat.succ i=>ih i fun l'=>k (e::l')) l
def Sm {α:Type}(g:α→α):∀(l:List α) (i:Nat)(β:Type)(k:List α→β),S3 l g i k=k (l.modify i g)
 |[],i,β,k=>by cases i <;> rfl
 |e::l,0,β,k=>by show k (g e::l)=_;rfl
 |e::l,i+1,β,k=>by
  show S3 l g i (fun l'=>k (e::l'))=_;rw[Sm];rfl
def KO (ti:TI)(tk:Option TI)(kt:TypeId)(m k v:AV)(h:Tr ABlk) (nx:Nat):R:=
 match ti,tk with
 |.mk (.map Bi _) _ _ _ _,some (.mk dk _ _ _ _)=>match Nat.beq kt Bi && scal dk with
  |false=>.fail
  |true=>match m with
   |.map i=>match h.get i with
    |some (.map es cl)=>match mU dk k es 0 with
     |some (some (j,_))=>S3 es (fun e=>match e with |(_,_,n)=>(k,v,n)) j fun MF=>h.putK (some (.map MF cl)) i fun h'=>.unit h' nx
     |some none=>SE es (k,v,cl) fun MF=>fN (Nat.succ cl) fun cl'=>h.putK (some (.map MF cl')) i fun h'=>.unit h' nx
     |none=>.fail
    |_=>.fail
   |_=>.fail
 |_,_=>.fail
def zUu {d:TypeDesc}{k k':AV}{K K':Value}(hk:av σ k K)(aW:av σ k' K')(he:mC d k k'=some true) (n:Nat):Instr.sameBits n K' K=true:=by
 unfold mC at he;cases d <;> try (cases he;done)
 ·cases k <;> cases k' <;> try (cases he;done)
  rename_i a c;simp only[av]at hk aW;subst hk;subst aW;cases a <;> cases c <;> first |(cases he;done) |(cases n <;> rfl)
 ·cases k <;> cases k' <;> try (cases he;done)
  rename_i j a j' c;simp only at he;cases hj:vu j j' with
  |false=>rw[hj]at he;cases he
  |true=>
   rw[hj]at he;have:=LU hj;subst this;have uQ:rS a c=true:=by simpa using he
   rw[sE]at uQ;have:=eq_of_beq uQ;subst this;simp only[av]at hk aW;subst hk;subst aW;cases n <;> simp[Instr.sameBits]
 ·cases k <;> cases k' <;> try (cases he;done)
  case bs.bs a c=>
   simp only[av]at hk aW;subst hk;subst aW;have uQ:a=c:=by simpa using he
   subst uQ;have:(a == a)=true:=by rw[QO];simp
   cases n <;> simp[Instr.sameBits,this]
  rename_i l1 n1 l2 n2;simp only[av]at hk aW;obtain⟨h1,e1⟩:=hk;obtain⟨h2,e2⟩:=aW;subst e1;subst e2;have hs:xR l1 n1 l2 n2=true:=by simpa using he
  rw[← TC h1 h2]at hs;have ku:(bK l2 n2 == bK l1 n1)=true:=by
   have hd:((bK l1 n1).data == (bK l2 n2).data)=true:=hs;have:=eq_of_beq hd;show ((bK l2 n2).data == (bK l1 n1).data)=true;rw[this];exact beq_self_eq_true _
  cases n <;> simp[Instr.sameBits,ku]
def zF7 (hk:Ok G σ h nx w)(t:TypeId){ti:TI}(ht:cT P t ti){tk:Option TI}{kt:TypeId}(dR:∀ti,tk=some ti→cT P kt ti){m k v:AV}{M K V:Value}(hm:av σ m M)(fV:av σ k K)(hv:av σ v V):
  RU P G σ h nx w (Instr.mapUpdate t M K V) (KO ti tk kt m k v h nx):=by
 unfold KO;split
 ·rename_i Bi MG q1 q2 q3 q4 dk q5 q6 q7 q8;obtain⟨hu,_⟩:=ht;obtain⟨GN,_⟩:=dR _ rfl;cases aQ:(Nat.beq kt Bi && scal dk) with
  |false=>trivial
  |true=>
   rw[ao]at aQ;have:=ad aQ.1;subst this;cases m <;> try trivial
   rename_i i;simp only[av]at hm;obtain⟨b,hb,e⟩:=hm;subst e;simp only;cases hg:h.get i with
   |none=>trivial
   |some B=>
    cases B with
    |cells _ _ _ _ _=>trivial
    |loop _ _ _ _ _ _ _ _ _=>trivial
    |dfr=>trivial
    |miter _ _ _ _=>trivial
    |siter _ _=>trivial
    |map es cl=>
     simp only;obtain⟨b',E,aV,aE,hE⟩:=hk.map hg;rw[hb]at aV;cases aV;cases hf:mU dk k es 0 with
     |none=>trivial
     |some r=>
      obtain⟨R,a1,a2,a3⟩:=Lm fV hE hf;have eB:=Te (P:=P) GN aQ.2 false 9999 K w;have wA:(Instr.findKey kt K E).run P w=.ok R w:=by simp[Instr.findKey,run_underlying GN,a1]
      have fj:(getObj b).run P w=.ok (.map (List.toArray E) cl) w:=by simp[getObj,Sem.run,aE]
      have rj:∀o:Obj,(setObj b o).run P w=.ok () (iE w b o):=fun o=>by simp[setObj,Sem.run,aE,iE]
      cases r with
      |none=>
       simp only[r8]at a2;subst a2;simp only[S4,fN_eq,Tr.putK_eq];refine⟨σ,_,?_,Post.set hk hg hb (.map (es++[(k,v,cl)]) (cl+1)) (.map (List.toArray (E++[⟨K,V,cl⟩])) (cl+1)) ?_⟩
       ·unfold Instr.mapUpdate;simp only[Sem.run_bind,run_underlying hu,Result.andThen,fj,eB,wA];rw[rj];simp[iE]
       ·simp only[cq];refine⟨_,rfl,dC.of_get (by simp[hE.length]) fun k0 a b n e=>?_⟩
        by_cases h1:k0<es.length
        ·rw[List.getElem?_append_left h1]at e;obtain⟨A,B,e1,e2,e3⟩:=hE.get e;exact⟨A,B,by rw[List.getElem?_append_left (by rw[hE.length];exact h1)];exact e1,e2,e3⟩
        ·rw[List.getElem?_append_right (by omega)]at e;cases h2:k0-es.length with
         |succ q=>rw[h2]at e;simp at e
         |zero=>
          rw[h2]at e;simp at e;obtain⟨e1,e2,e3⟩:=e;subst e1;subst e2;subst e3;refine⟨K,V,?_,fV,hv⟩;rw[List.getElem?_append_right (by rw[hE.length];omega),hE.length,h2];rfl
      |some p=>
       obtain⟨j,v0⟩:=p;simp only[r8]at a2;obtain⟨V0,e,_⟩:=a2;subst e;obtain⟨_,hj,k',aW,tL⟩:=a3 j v0 rfl;simp only[Nat.sub_zero]at aW;obtain⟨⟨ka,va,na⟩,wz⟩:∃p,es[j]?=some p:=⟨es[j]'(by omega),by simp[show j<es.length by omega]⟩;rw[wz]at aW;simp at aW;subst aW;obtain⟨KA,VA,e1,e2,e3⟩:=hE.get wz;simp only[Sm,Tr.putK_eq];have mM:(Instr.keyThatStays KA K).run P w=.ok K w:=by simp[Instr.keyThatStays,zUu fV e2 tL]
       refine⟨σ,_,?_,Post.set hk hg hb (.map (es.modify j (fun e=>match e with |(_,_,n)=>(k,v,n))) cl) (.map (List.toArray (E.modify j fun e=>{ e with key:=K,val:=V })) cl) ?_⟩
       ·unfold Instr.mapUpdate;have tx:(((List.toArray E)[j]?).map (·.key)).getD K=KA:=by simp[e1]
        simp only[Sem.run_bind,run_underlying hu,Result.andThen,fj,eB,wA,tx,mM];rw[rj];simp[iE]
       ·simp only[cq];refine⟨_,rfl,dC.of_get (by simp[hE.length]) fun k0 a b n e=>?_⟩;rw[List.getElem?_modify]at e ⊢
        by_cases h1:j=k0
        ·subst h1;rw[wz]at e;simp at e;obtain⟨q1,q2,q3⟩:=e;subst q1;subst q2;subst q3;exact⟨K,V,by rw[e1];simp,fV,hv⟩
        ·simp only[h1,if_false]at e ⊢;simp at e;obtain⟨A,B,c1,c2,c3⟩:=hE.get e;exact⟨A,B,by simpa using c1,c2,c3⟩
 ·trivial
def qs (mx:Bool)(l:List AV)(h:Tr ABlk) (nx:Nat):R:=
 match l with
 |[.int k a,.int k' b]=>match mx with
  |true=>match rk a b with
   |true=>.val (.int k b) h nx
   |false=>.val (.int k a) h nx
  |false=>match rk b a with
   |true=>.val (.int k b) h nx
   |false=>.val (.int k a) h nx
 |_=>.fail
end
end
variable {P : Program} {G : Gl} {σ τ υ : Sg} {h g f : Tr ABlk} {nx ny nz : Nat} {w x y : World}
section
def zxw (hk:Ok G σ h nx w)(mx:Bool)(ts:Array TypeId)(ty:TypeId){l:List AV}{L:List Value}(hl:aC σ l L):
  RV P G σ h nx w (match mx with |true=>Builtin.max_ ts ty L.toArray |false=>Builtin.min_ ts ty L.toArray) (qs mx l h nx):=by
 have key:∀(k k':IntKind) (a b:Int),aC σ [.int k a,.int k' b] L→L=[.int k a,.int k' b]:=by
  intro k k' a b hl;simp only[aC,av]at hl;obtain⟨V,L',e,e1,V2,L2,e2,e3,e4⟩:=hl;subst e4;subst e3;subst e2;subst e1;exact e
 cases mx with
 |true=>
  show RV P G σ h nx w (Builtin.max_ ts ty L.toArray) _;unfold qs;simp only;split
  ·rename_i k a k' b;rw[key _ _ _ _ hl];have e:=sv a b;cases hb:rk a b with
   |true=>
    rw[hb]at e;have:a<b:=of_decide_eq_true e.symm;exact SV.pure hk (V:=.int k b) (by simp[Builtin.max_,Builtin.max2,this]) (by simp only[av])
   |false=>
    rw[hb]at e;have:¬a<b:=of_decide_eq_false e.symm;exact SV.pure hk (V:=.int k a) (by simp[Builtin.max_,Builtin.max2,this]) (by simp only[av])
  ·trivial
 |false=>
  show RV P G σ h nx w (Builtin.min_ ts ty L.toArray) _;unfold qs;simp only;split
  ·rename_i k a k' b;rw[key _ _ _ _ hl];have e:=sv b a;cases hb:rk b a with
   |true=>
    rw[hb]at e;have:b<a:=of_decide_eq_true e.symm;exact SV.pure hk (V:=.int k b) (by simp[Builtin.min_,Builtin.min2,this]) (by simp only[av])
   |false=>
    rw[hb]at e;have:¬b<a:=of_decide_eq_false e.symm;exact SV.pure hk (V:=.int k a) (by simp[Builtin.min_,Builtin.min2,this]) (by simp only[av])
  ·trivial
def LC (size n:Nat)(v:AV)(h:Tr ABlk):Option (List AV):=
 match v with
 |.sl0=>match Nat.beq n 0 with |true=>some [] |false=>none
 |.sl i o m _ _=>match Nat.ble n m with
  |false=>none
  |true=>match h.get i with
   |some (.cells _ k c _ _)=>match Nat.ble (Nat.add o (Nat.mul n size)) k with
    |true=>ji c (Nat.mul n size) o
    |false=>none
   |_=>none
 |.str l s=>match Nat.beq size 1 && Nat.ble n l with
  |true=>some (vR n (Nat.mod s (Nat.pow 256 n)))
  |false=>none
 |_=>none
def zPm (hk:Ok G σ h nx w){size n:Nat}{v:AV}{V:Value}(hv:av σ v V){l:List AV}(hs:LC size n v h=some l):
  ∃L,aC σ l L∧l.length=n * size∧(Builtin.firstCells size n V).run P w=.ok L.toArray w:=by
 unfold LC at hs;cases v <;> try (cases hs;done)
 ·rename_i sl sn;simp only[av]at hv;obtain⟨hn,e⟩:=hv;subst e;simp only at hs;split at hs
  ·rename_i hb;rw[ao]at hb;have:=ad hb.1;subst this;have hle:=ai hb.2;cases hs;refine⟨(cJ n (sn % 256 ^ n)).map fun b=>.int .u8 b.toNat,KC _ _,by rw[Kt];omega,?_⟩;simp only[Builtin.firstCells,Sem.run_pure];rw[zxa hle]
   congr 1
   simp only[Nat.sub_zero,Nat.pow_zero,Nat.div_one];show Array.map _ (cJ n (sn % 256 ^ n)).toArray=_;simp
  ·cases hs
 ·simp only[av]at hv;subst hv;simp only at hs;split at hs
  ·rename_i hb;have:=ad hb;subst this;cases hs;exact⟨[],by simp only[aC],by simp,by simp[Builtin.firstCells]⟩
  ·cases hs
 ·rename_i i o m c opn;simp only[av]at hv;obtain⟨b,hb,e,_⟩:=hv;subst e;simp only at hs;split at hs
  ·cases hs
  ·split at hs
   ·rename_i e' k c' bD esz hg;split at hs
    ·rename_i hle;obtain⟨b',C,fr,aV,aE,aJ,_,_⟩:=hk.cells hg;rw[hb]at aV;cases aV;obtain⟨hlen,L,ju,lF,_⟩:=BX (P:=P) aE aJ (ai hle) hs;exact⟨L,ju,hlen,by simpa[Builtin.firstCells]using lF⟩
    ·cases hs
   ·cases hs
def zH:AV→Option Nat
 |.sl0=>some 0
 |.sl _ _ m _ _=>some m
 |.str l _=>some l
 |_=>none
def zGd {v:AV}{V:Value}(hv:av σ v V){n:Nat}(hn:zH v=some n)(w:World):(Builtin.lenOf V).run P w=.ok n w:=by
 unfold zH at hn;cases v <;> try (cases hn;done)
 ·cases hn;simp only[av]at hv;obtain⟨_,e⟩:=hv;subst e;simp[Builtin.lenOf,uq]
 ·cases hn;simp only[av]at hv;subst hv;simp[Builtin.lenOf]
 ·cases hn;simp only[av]at hv;obtain⟨b,_,e,_⟩:=hv;subst e;simp[Builtin.lenOf]
def Rf (ti:TI)(te:Option TI)(et:TypeId)(dst src:AV)(h:Tr ABlk) (nx:Nat):R:=
 match ti,te with
 |.mk (.slice e) _ _ _ _,some (.mk _ size _ _ _)=>match Nat.beq e et with
  |false=>.fail
  |true=>match zH src with
   |none=>.fail
   |some m=>match dst with
    |.sl0=>vInt 0 h nx
    |.sl i o len _ _=>match LC size (Nat.min m len) src h with
     |none=>.fail
     |some l=>match dS l with
      |false=>.fail
      |true=>match h.get i with
       |some (.cells e' n c opn esz)=>match Nat.ble (Nat.add o (Nat.mul (Nat.min m len) size)) n with
        |true=>rZ l c o fun c'=>h.putK (some (.cells e' n c' opn esz)) i fun h'=>vInt (Nat.min m len) h' nx
        |false=>.fail
       |_=>.fail
    |_=>.fail
 |_,_=>.fail
def zGz (hk:Ok G σ h nx w)(t:TypeId){ti:TI}(ht:cT P t ti){te:Option TI}{et:TypeId}(jb:∀ti,te=some ti→cT P et ti)(ts:Array TypeId)(e9:ts[0]?=some t)(ty:TypeId){dst src:AV}{D S:Value}(hd:av σ dst D)(hs:av σ src S):
  RV P G σ h nx w (Builtin.copy_ ts ty #[D,S]) (Rf ti te et dst src h nx):=by
 unfold Rf;split
 ·rename_i e q1 q2 q3 q4 de size q5 q6 q7;obtain⟨hu,kz⟩:=ht;clear kz;obtain⟨ou,inf,hi,bC,Pr⟩:=jb _ rfl;clear Pr;cases dX:Nat.beq e et with
  |false=>trivial
  |true=>
  have:=ad dX;subst this;simp only;cases hm:zH src with
  |none=>trivial
  |some m=>
  have hlen:=zGd (P:=P) hs hm w;simp only;cases dst <;> try trivial
  ·simp only[av]at hd;subst hd;refine xr hk ?_;have hf:∃L:Array Value,(Builtin.firstCells size 0 S).run P w=.ok L w:=by
    cases src <;> try (cases hm;done)
    ·simp only[av]at hs;obtain⟨_,e1⟩:=hs;subst e1;exact⟨#[],by simp[Builtin.firstCells]⟩
    ·simp only[av]at hs;subst hs;exact⟨#[],by simp[Builtin.firstCells]⟩
    ·simp only[av]at hs;obtain⟨b,_,e1,_⟩:=hs;subst e1;exact⟨#[],by simp[Builtin.firstCells,loadCells,loadCellsFrom]⟩
   obtain⟨L,hf⟩:=hf;simp[Builtin.copy_,e9,run_underlying hu,hlen,oA hi,bC,hf]
  ·rename_i i o len c opn;simp only[av]at hd;obtain⟨b,hb,e1,_⟩:=hd;subst e1;simp only;cases mO:LC size (Nat.min m len) src h with
   |none=>trivial
   |some l=>
   simp only;cases mj:dS l with
   |false=>trivial
   |true=>
   simp only;cases hg:h.get i with
   |none=>trivial
   |some B=>
   cases B with
   |map _ _=>trivial
   |loop _ _ _ _ _ _ _ _ _=>trivial
   |dfr=>trivial
   |miter _ _ _ _=>trivial
   |siter _ _=>trivial
   |cells e' n c' bD esz=>
   simp only;cases hle:Nat.ble (Nat.add o (Nat.mul (Nat.min m len) size)) n with
   |false=>trivial
   |true=>
   have nH:o+(Nat.min m len) * size≤n:=ai hle;obtain⟨L,ju,Jg,rO⟩:=zPm (P:=P) hk hs mO;obtain⟨b',C,fr,aV,aE,aJ,pN,lY⟩:=hk.cells hg;rw[hb]at aV;cases aV;have hnC:n≤C.size:=by split at lY <;> omega
   have hL:L.length=(Nat.min m len) * size:=by rw[ju.length];exact Jg
   simp only[lP,Tr.putK_eq,vInt,fN_eq];have aU:=Lb (P:=P) (b:=b) (o:=o) L 0 C w aE (by omega) pN (LV mj ju);simp only[Nat.add_zero]at aU;refine⟨goInt (Nat.min m len),σ,_,?_,by simp only[av];rfl,Mi hk hg ju (by omega) hb aE⟩;simp[Builtin.copy_,e9,run_underlying hu,hlen,oA hi,bC,rO,aU]
 ·trivial
end
end
end Go.Ev
