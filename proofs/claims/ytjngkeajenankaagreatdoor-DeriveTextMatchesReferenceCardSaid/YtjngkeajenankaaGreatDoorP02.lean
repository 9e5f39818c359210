/- Texts O5 O5S O6 O7. -/
import Derived.Laws.IdiomStrings
import Derived.Laws.MakeOwn
import Derived.MapKept
import Derived.Test.YtjngkeajenankaaGreatDoorP01
set_option linter.unusedSimpArgs false
set_option linter.unusedVariables false
set_option maxRecDepth 100000
namespace Go.Ev
variable {P : Program} {G : Gl} {σ τ υ : Sg} {h g f : Tr ABlk} {nx ny nz : Nat} {w x y : World}
noncomputable section
def vInt (n:Nat)(h:Tr ABlk) (nx:Nat):R:=fN n fun n=>.val (.int .i64 (Int.ofNat n)) h nx
theorem vInt_ok (hk:Ok G σ h nx w){n:Nat}{m:Sem Value}(hm:m.run P w=.ok (goInt n) w):RV P G σ h nx w m (vInt n h nx):=by
 unfold vInt
 rw[fN_eq]
 exact SV.pure hk (V:=goInt n) hm (by simp only[Rel];rfl)
theorem RelE.length {σ:Sg}:∀{l E},RelE σ l E→E.length=l.length
 |[],E,h=>by simp only[RelE]at h;subst h;rfl
 |(k,v,n)::l,E,h=>by
  simp only[RelE]at h
  obtain⟨K,V,E',e,_,_,h3⟩:=h
  subst e
  simp[h3.length]
theorem Ok.map (hk:Ok G σ h nx w){i cl:Nat}{es:List (AV×AV×Nat)}(hi:h.get i=some (.map es cl)):
  ∃b E,σ.blk i=some b∧w.heap[b]?=some (.map (List.toArray E) cl)∧RelE σ es E:=by
 obtain⟨b,o,hb,ho,hr⟩:=hk.blk i _ hi
 simp only[RelB]at hr
 obtain⟨E,e,h1⟩:=hr
 subst e
 exact⟨b,E,hb,ho,h1⟩
def evLen (ti:TI)(a:AV)(h:Tr ABlk) (nx:Nat):R:=
 match ti with
 |.mk d _ _ _ _=>match d with
  |.string=>match a with
   |.str l _=>vInt l h nx
   |.bs b=>.val (.int .i64 (Int.ofNat b.size)) h nx
   |_=>.fail
  |.array n _=>vInt n h nx
  |.slice _=>match a with
   |.sl0=>vInt 0 h nx
   |.fz _ _ xs=>.val (.int .i64 (Int.ofNat xs.length)) h nx
   |.sl _ _ l _ _=>vInt l h nx
   |_=>.fail
  |.map _ _=>match a with
   |.map0=>vInt 0 h nx
   |.map i=>match h.get i with
    |some (.map es _)=>vInt es.length h nx
    |_=>.fail
   |_=>.fail
  |_=>.fail
theorem evLen_ok (hk:Ok G σ h nx w){t:TypeId}{ti:TI}(ht:TIok P t ti){a:AV}{A:Value}(ha:Rel σ a A)(ts:Array TypeId)(hts:ts[0]?=some t)(ty:TypeId):
  RV P G σ h nx w (Builtin.len_ ts ty #[A]) (evLen ti a h nx):=by
 cases ti with
 |mk d size bytes zero fs=>
 obtain⟨hu,_⟩:=ht
 unfold evLen
 cases d <;> try trivial
 ·cases a <;> try trivial
  case bs b=>
   simp only[Rel]at ha
   subst ha
   exact SV.pure hk (V:=goInt b.size) (by simp[Builtin.len_,hts,run_underlying hu]) (by simp only[Rel];rfl)
  simp only[Rel]at ha
  obtain⟨_,e⟩:=ha
  subst e
  exact vInt_ok hk (by simp[Builtin.len_,hts,run_underlying hu,strB_size])
 ·cases a <;> try trivial
  case fz es full xs=>
   simp only[Rel]at ha
   obtain⟨a,cap,e,_⟩:=ha
   subst e
   exact SV.pure hk (V:=goInt xs.length) (by simp[Builtin.len_,hts,run_underlying hu]) (by simp only[Rel];rfl)
  ·simp only[Rel]at ha
   subst ha
   exact vInt_ok hk (by simp[Builtin.len_,hts,run_underlying hu])
  ·simp only[Rel]at ha
   obtain⟨b,_,e,_⟩:=ha
   subst e
   exact vInt_ok hk (by simp[Builtin.len_,hts,run_underlying hu])
 ·exact vInt_ok hk (by simp[Builtin.len_,hts,run_underlying hu])
 ·cases a <;> try trivial
  ·simp only[Rel]at ha
   subst ha
   exact vInt_ok hk (by simp[Builtin.len_,hts,run_underlying hu])
  ·rename_i i
   simp only[Rel]at ha
   obtain⟨b,hb,e⟩:=ha
   subst e
   simp only
   split
   ·rename_i es cl hg
    obtain⟨b',E,hb',hh,hr⟩:=hk.map hg
    rw[hb]at hb'
    cases hb'
    refine vInt_ok hk ?_
    simp[Builtin.len_,hts,run_underlying hu,getObj,Sem.run,hh,hr.length]
   ·trivial
def evCap (ti:TI)(a:AV)(h:Tr ABlk) (nx:Nat):R:=
 match ti with
 |.mk d _ _ _ _=>match d with
  |.slice _=>match a with
   |.sl0=>vInt 0 h nx
   |.sl _ _ _ c false=>vInt c h nx
   |_=>.fail
  |_=>.fail
theorem evCap_ok (hk:Ok G σ h nx w){t:TypeId}{ti:TI}(ht:TIok P t ti){a:AV}{A:Value}(ha:Rel σ a A)(ts:Array TypeId)(hts:ts[0]?=some t)(ty:TypeId):
  RV P G σ h nx w (Builtin.cap_ ts ty #[A]) (evCap ti a h nx):=by
 cases ti with
 |mk d size bytes zero fs=>
 obtain⟨hu,_⟩:=ht
 unfold evCap
 cases d <;> try trivial
 cases a <;> try trivial
 ·simp only[Rel]at ha
  subst ha
  exact vInt_ok hk (by simp[Builtin.cap_,hts,run_underlying hu])
 ·rename_i opn
  simp only[Rel]at ha
  obtain⟨b,_,e,_⟩:=ha
  subst e
  cases opn with
  |true=>trivial
  |false=>exact vInt_ok hk (by simp[Builtin.cap_,hts,run_underlying hu])
def bytesL (l:Nat):Nat→List AV:=
 Nat.rec (motive:=fun _=>Nat→List AV) (fun _=>[]) (fun _ ih n=>fN (Nat.mod n 256) fun b=>.int .u8 (Int.ofNat b)::fN (Nat.div n 256) ih) l
theorem bytesL_spec:∀(l n:Nat),RelL σ (bytesL l n) ((strL l n).map fun b=>.int .u8 b.toNat):=by
 intro l
 induction l with
 |zero=>intro n;simp[bytesL,strL,RelL]
 |succ l ih=>
  intro n
  show RelL σ (fN (n % 256) fun b=>.int .u8 (Int.ofNat b)::fN (n / 256) (bytesL l)) _
  rw[fN_eq,fN_eq,strL_succ,List.map_cons,u8 (Nat.mod_lt _ (by decide))]
  simp only[RelL,Rel]
  exact⟨_,_,rfl,rfl,ih _⟩
theorem bytesL_length (l n:Nat):(bytesL l n).length=l:=by
 have:=(bytesL_spec (σ:=⟨fun _=>none,fun _=>0,fun _=>.nilFunc,fun _=>none⟩) l n).length
 simpa[strL_length]using this.symm
def byteV:AV→Option Nat
 |.int .u8 (.ofNat b)=>match Nat.ble b 255 with
  |true=>some b
  |false=>none
 |_=>none
theorem byteV_spec {v:AV}{V:Value}{b:Nat}(hr:Rel σ v V)(hb:byteV v=some b):b≤255∧V=.int .u8 (Int.ofNat b):=by
 unfold byteV at hb
 split at hb
 ·split at hb
  ·rename_i b' hle
   cases hb
   simp only[Rel]at hr
   exact⟨Nat.le_of_ble_eq_true hle,hr⟩
  ·cases hb
 ·cases hb
def cellsN (l:List AV):Option Nat:=
 List.rec (motive:=fun _=>Option Nat) (some 0) (fun v _ ih=>match byteV v with
  |some b=>match ih with
   |some n=>some (Nat.add b (Nat.mul 256 n))
   |none=>none
  |none=>none) l
theorem cellsN_cons (v:AV)(l:List AV):cellsN (v::l)=match byteV v with
  |some b=>match cellsN l with
   |some n=>some (Nat.add b (Nat.mul 256 n))
   |none=>none
  |none=>none:=rfl
theorem cellsN_spec:∀{l:List AV}{L:List Value}{n:Nat},RelL σ l L→cellsN l=some n→
  n<256 ^ l.length∧∃ns:List Int,L=ns.map (Value.int .u8)∧ns.map (fun z=>UInt8.ofNat z.toNat)=strL l.length n
 |[],L,n,hr,hn=>by
  cases hn
  simp only[RelL]at hr
  subst hr
  exact⟨by simp,[],rfl,by simp[strL]⟩
 |v::l,L,n,hr,hn=>by
  simp only[RelL]at hr
  obtain⟨V,L',e,h1,h2⟩:=hr
  subst e
  rw[cellsN_cons]at hn
  cases hbv:byteV v with
  |none=>rw[hbv]at hn;cases hn
  |some b=>
   rw[hbv]at hn
   obtain⟨hb,e1⟩:=byteV_spec h1 hbv
   subst e1
   cases hn':cellsN l with
   |none=>rw[hn']at hn;cases hn
   |some n'=>
    rw[hn']at hn
    cases hn
    obtain⟨a1,ns,a2,a3⟩:=cellsN_spec h2 hn'
    have e1:(b+256 * n') % 256=b:=by omega
    have e2:(b+256 * n') / 256=n':=by omega
    refine⟨?_,Int.ofNat b::ns,by rw[List.map_cons,a2],?_⟩
    ·rw[List.length_cons,Nat.pow_succ]
     show b+256 * n' < _
     omega
    ·rw[List.map_cons,a3,List.length_cons,strL_succ]
     show _=UInt8.ofNat ((b+256 * n') % 256)::strL l.length ((b+256 * n') / 256)
     rw[e1,e2]
     rfl
def evConv (ts td:TI)(te:Option TI)(et:TypeId)(v:AV)(h:Tr ABlk) (nx:Nat):R:=
 match ts,td with
 |.mk ds _ _ _ _,.mk dd _ _ _ _=>match dd with
  |.int k=>match v with
   |.int _ n=>fI (wrapF k n) fun z=>.val (.int k z) h nx
   |_=>.fail
  |.string=>match v with
   |.str l n=>.val (.str l n) h nx
   |.bs b=>.val (.bs b) h nx
   |.sl0=>match ds,te with
    |.slice e,some (.mk (.int .u8) _ _ _ _)=>match Nat.beq e et with
     |true=>.val (.str 0 0) h nx
     |false=>.fail
    |_,_=>.fail
   |.sl i o l _ _=>match ds,te with
    |.slice e,some (.mk (.int .u8) _ _ _ _)=>match Nat.beq e et with
     |true=>match h.get i with
      |some (.cells _ n c _ _)=>match Nat.ble (Nat.add o l) n with
       |true=>match getN c l o with
        |some cs=>match cellsN cs with
         |some m=>fN m fun m=>.val (.str l m) h nx
         |none=>.fail
        |none=>.fail
       |false=>.fail
      |_=>.fail
     |false=>.fail
    |_,_=>.fail
   |_=>.fail
  |.slice e=>match v with
   |.str l n=>match ds,te with
    |.string,some (.mk (.int .u8) _ _ _ _)=>match Nat.beq e et with
     |true=>putNK (bytesL l n) .nil 0 fun c=>h.putK (some (.cells e l c true 1)) nx fun h'=>fN (Nat.succ nx) fun nx'=>.val (.sl nx 0 l 0 true) h' nx'
     |false=>.fail
    |_,_=>.fail
   |_=>.fail
  |_=>.fail
theorem grownCap_le (w:World) (n old:Nat)(e:TypeId):n≤grownCap w n old e:=by
 show n≤n+_ % _
 omega
theorem cells_read {b o n:Nat}{C:Array Value}{e:TypeId}{fr:Nat×Nat}{c:Tr AV}(hheap:w.heap[b]?=some (.cells C e fr))
  (hcell:∀k,k<n→∃v V,c.get k=some v∧C[k]?=some V∧Rel σ v V) {size:Nat} (hle:o+size≤n) {l:List AV} (hl:getN c size o=some l):
  l.length=size∧∃L:List Value,RelL σ l L∧(loadCells ⟨b,o,none⟩ size).run P w=.ok L.toArray w∧∀j u,L[j]?=some u→w.cell? ((⟨b,o,none⟩:Addr).add j)=some u:=by
 obtain⟨hlen,hget⟩:=getN_spec c size o l hl
 refine⟨hlen,(List.range size).map fun k=>C.getD (o+k) undef,?_,?_⟩
 ·refine RelL.of_get (by simp[hlen]) fun k v V h1 h2=>?_
  have hk':k<size:=by
   rcases Nat.lt_or_ge k l.length with h3 |h3
   ·omega
   ·rw[List.getElem?_eq_none h3]at h1;cases h1
  obtain⟨v',V',e1,e2,e3⟩:=hcell (o+k) (by omega)
  rw[hget k hk',h1]at e1
  cases e1
  have:V=V':=by
   simp[hk',Array.getD_eq_getD_getElem?,e2]at h2
   exact h2.symm
  subst this
  exact e3
 ·have hc:∀j u,((List.range size).map fun k=>C.getD (o+k) undef)[j]?=some u→w.cell? ((⟨b,o,none⟩:Addr).add j)=some u:=by
   intro j u hj
   have hj':j<size:=by
    rcases Nat.lt_or_ge j size with h3 |h3
    ·exact h3
    ·rw[List.getElem?_eq_none (by simp;omega)]at hj;cases hj
   obtain⟨v',V',e1,e2,e3⟩:=hcell (o+j) (by omega)
   rw[addr_add,cell_at hheap,e2]
   simp[hj',Array.getD_eq_getD_getElem?,e2]at hj
   rw[hj]
  refine⟨?_,hc⟩
  have:=run_loadCells_list (P:=P) w ⟨b,o,none⟩ _ hc
  simpa using this
theorem evConv_ok (hk:Ok G σ h nx w){s d:TypeId}{ts td:TI}(hts:TIok P s ts)(htd:TIok P d td){te:Option TI}{et:TypeId}(hte:∀ti,te=some ti→TIok P et ti){v:AV}{V:Value}(hv:Rel σ v V):
  RV P G σ h nx w (convert s d V) (evConv ts td te et v h nx):=by
 cases ts with
 |mk ds s1 s2 s3 s4=>
 cases td with
 |mk dd d1 d2 d3 d4=>
 obtain⟨hus,hus2⟩:=hts
 obtain⟨hud,hud2⟩:=htd
 clear hus2 hud2
 unfold evConv
 cases dd <;> try trivial
 ·
  rename_i k
  cases v <;> try trivial
  rename_i k' n
  simp only[Rel]at hv
  subst hv
  simp only[fI_eq]
  exact SV.pure hk (V:=.int k (wrapF k n)) (by simp[convert,run_underlying hus,run_underlying hud,Conv.intToInt,wrapF_eq]) (by simp only[Rel])
 ·
  cases v <;> try trivial
  case bs b=>
   have hv':=hv
   simp only[Rel]at hv
   subst hv
   exact SV.pure hk (V:=.string b) (by cases ds <;> simp[convert,run_underlying hus,run_underlying hud]) hv'
  ·rename_i l n
   have hv':=hv
   simp only[Rel]at hv
   obtain⟨hn,e⟩:=hv
   subst e
   exact SV.pure hk (V:=.string (strB l n)) (by cases ds <;> simp[convert,run_underlying hus,run_underlying hud]) hv'
  ·simp only[Rel]at hv
   subst hv
   simp only
   split
   ·rename_i e q1 q2 q3 q4
    cases hbe:Nat.beq e et with
    |false=>trivial
    |true=>
     have:=Nat.eq_of_beq_eq_true hbe
     subst this
     obtain⟨hue,_⟩:=hte _ rfl
     refine SV.pure hk (V:=.string .empty) ?_ (by simp only[Rel];exact⟨by simp,rfl⟩)
     rw[run_convert_bytes_string w s d e none 0 0 hus hue hud]
     simp[Conv.bytesToString]
   ·trivial
  ·rename_i i o l c opn
   simp only[Rel]at hv
   obtain⟨b,hb,e,hlc⟩:=hv
   subst e
   clear hlc
   generalize (if opn=true then σ.cap i-c else c)=cc
   simp only
   split
   ·rename_i e q1 q2 q3 q4
    cases hbe:Nat.beq e et with
    |false=>trivial
    |true=>
     have:=Nat.eq_of_beq_eq_true hbe
     subst this
     obtain⟨hue,_⟩:=hte _ rfl
     simp only
     split
     ·rename_i e' n c' opn' esz hg
      obtain⟨b',C,fr,hb',hheap,hcell,_,_⟩:=hk.cells hg
      rw[hb]at hb'
      cases hb'
      cases hle:Nat.ble (Nat.add o l) n with
      |false=>trivial
      |true=>
       simp only
       cases hgn:getN c' l o with
       |none=>trivial
       |some cs=>
        simp only
        cases hcn:cellsN cs with
        |none=>trivial
        |some m=>
         simp only[fN_eq]
         obtain⟨hlen,L,hrl,hload,_⟩:=cells_read (P:=P) hheap hcell (Nat.le_of_ble_eq_true hle) hgn
         obtain⟨hm,ns,hL,hns⟩:=cellsN_spec hrl hcn
         rw[hlen]at hm hns
         refine SV.pure hk (V:=.string (strB l m)) ?_ (by simp only[Rel];exact⟨hm,trivial⟩)
         rw[run_convert_bytes_string w s d e _ _ _ hus hue hud,run_bytesToString w _ l _ ns (by rw[hload,hL])]
         congr 2
         have hf:∀(ns:List Int) (s:ByteArray),(ns.foldl (fun r n=>r.push (UInt8.ofNat n.toNat)) s).data=s.data++(ns.map fun n=>UInt8.ofNat n.toNat).toArray:=by
          intro ns
          induction ns with
          |nil=>intro s;simp
          |cons z ns ih=>intro s;rw[List.foldl_cons,ih];simp[ByteArray.push]
         apply ByteArray.ext
         rw[hf,hns]
         show #[]++(strL l m).toArray=(strL l m).toArray
         simp
     ·trivial
   ·trivial
 ·
  rename_i e
  cases v <;> try trivial
  rename_i l n
  simp only[Rel]at hv
  obtain⟨hn,e1⟩:=hv
  subst e1
  simp only
  split
  ·rename_i q1 q2 q3 q4
   cases hbe:Nat.beq e et with
   |false=>trivial
   |true=>
    have:=Nat.eq_of_beq_eq_true hbe
    subst this
    obtain⟨hue,_⟩:=hte _ rfl
    simp only[putNK_eq,Tr.putK_eq,fN_eq]
    have hrun:=run_bytes_of_string (P:=P) w s d e (strB l n) hus hud hue
    rw[strB_size]at hrun
    generalize hcap:grownCap w l 0 e=cap at hrun
    have hge:l≤cap:=hcap ▸ grownCap_le w l 0 e
    have hsz:(bytesRow (strB l n) cap).size=cap:=by
     simp only[bytesRow,Array.size_append,Array.size_map,Array.size_replicate]
     have:(strB l n).data.size=l:=strB_size l n
     rw[this,strB_size]
     omega
    have hd:=Post.drawn hk (w.drawn+1)
    have ha:=Post.alloc hd.ok cap (.cells e l (putN (bytesL l n) .nil 0) true 1) (.cells (bytesRow (strB l n) cap) e ((bytesRow (strB l n) cap).size,(bytesRow (strB l n) cap).size+1)) (by
     simp only[RelB]
     refine⟨_,_,rfl,fun k hk'=>?_,fun k hk'=>by omega,?_⟩
     ·obtain⟨v,hv⟩:∃v,(bytesL l n)[k]?=some v:=⟨(bytesL l n)[k]'(by rw[bytesL_length];exact hk'),by simp⟩
      obtain⟨V,h1,h2⟩:=(bytesL_spec (σ:=σ.add nx w.heap.size cap) l n).get hv
      refine⟨v,V,?_,?_,h2⟩
      ·rw[get_putN,bytesL_length,if_pos (by omega)]
       simpa using hv
      ·have hd2:(strB l n).data=(strL l n).toArray:=rfl
       rw[bytesRow,Array.getElem?_append_left (by simp[hd2,strL_length];exact hk'),hd2]
       simpa using h1
     ·rw[hsz]
      simp[Sg.add]
      exact hge)
    refine⟨_,_,_,hrun,?_,hd.trans ha⟩
    simp only[Rel,if_true]
    refine⟨w.heap.size,by simp[Sg.add],by simp[Sg.add],by simp[Sg.add];exact hge⟩
  ·trivial
end
end Go.Ev
namespace Go.Ev
variable {P : Program} {G : Gl} {σ τ υ : Sg} {h g f : Tr ABlk} {nx ny nz : Nat} {w x y : World}
def byteS (v:AV):Option UInt8:=match byteV v with |some n=>some (UInt8.ofNat n) |none=>none
def bytesS:List AV→Option (List UInt8)
 |[]=>some []
 |v::l=>match byteS v with
  |some b=>match bytesS l with
   |some r=>some (b::r)
   |none=>none
  |none=>none
theorem byteS_int (b:UInt8):byteS (.int .u8 (Int.ofNat b.toNat))=some b:=by
 have:b.toNat<256:=b.toNat_lt
 have h2:Nat.ble b.toNat 255=true:=Nat.ble_eq_true_of_le (by omega)
 simp[byteS,byteV,h2]
theorem bytesS_map:∀(l:List UInt8),bytesS (l.map fun b=>.int .u8 (Int.ofNat b.toNat))=some l
 |[]=>rfl
 |b::l=>by simp only[List.map_cons,bytesS,byteS_int,bytesS_map l]
theorem bytesS_spec:∀{l:List AV}{L:List Value}{r:List UInt8},RelL σ l L→bytesS l=some r→L=r.map (fun b=>.int .u8 (Int.ofNat b.toNat))∧r.length=l.length
 |[],L,r,hr,h=>by cases h;simp only[RelL]at hr;exact⟨hr,rfl⟩
 |v::l,L,r,hr,h=>by
  simp only[RelL]at hr
  obtain⟨V,L',e,h1,h2⟩:=hr
  simp only[bytesS]at h
  cases hb:byteS v with
  |none=>rw[hb]at h;cases h
  |some b=>
   rw[hb]at h
   cases hl:bytesS l with
   |none=>rw[hl]at h;cases h
   |some r'=>
    rw[hl]at h
    cases h
    obtain⟨e1,e2⟩:=bytesS_spec h2 hl
    unfold byteS at hb
    cases hv:byteV v with
    |none=>rw[hv]at hb;cases hb
    |some n=>
     rw[hv]at hb
     cases hb
     obtain⟨hn,eV⟩:=byteV_spec h1 hv
     refine⟨?_,by simp[e2]⟩
     rw[e,e1,eV]
     simp only[List.map_cons]
     rw[u8 (by omega)]
noncomputable section
def evConvS (ts td:TI)(te:Option TI)(et:TypeId)(v:AV)(h:Tr ABlk) (nx:Nat):R:=
 match ts,td with
 |.mk ds _ _ _ _,.mk dd _ _ _ _=>match dd with
  |.int k=>match v with
   |.int _ n=>.val (.int k (k.wrap n)) h nx
   |_=>.fail
  |.string=>match v with
   |.bs b=>.val (.bs b) h nx
   |.sl0=>match ds,te with
    |.slice e,some (.mk (.int .u8) _ _ _ _)=>match Nat.beq e et with
     |true=>.val (.bs .empty) h nx
     |false=>.fail
    |_,_=>.fail
   |.sl i o l _ _=>match ds,te with
    |.slice e,some (.mk (.int .u8) _ _ _ _)=>match Nat.beq e et with
     |true=>match h.get i with
      |some (.cells _ n c _ _)=>match Nat.ble (Nat.add o l) n with
       |true=>match getN c l o with
        |some cs=>match bytesS cs with
         |some r=>.val (.bs ⟨r.toArray⟩) h nx
         |none=>.fail
        |none=>.fail
       |false=>.fail
      |_=>.fail
     |false=>.fail
    |_,_=>.fail
   |_=>.fail
  |.slice e=>match v with
   |.bs b=>match ds,te with
    |.string,some (.mk (.int .u8) _ _ _ _)=>match Nat.beq e et with
     |true=>.val (.sl nx 0 b.size 0 true) (h.put nx (some (.cells e b.size (putN (b.data.toList.map fun z=>.int .u8 (Int.ofNat z.toNat)) .nil 0) true 1))) (nx+1)
     |false=>.fail
    |_,_=>.fail
   |_=>.fail
  |_=>.fail
theorem foldl_push (ns:List Int):∀(s:ByteArray),(ns.foldl (fun r n=>r.push (UInt8.ofNat n.toNat)) s).data=s.data++(ns.map fun n=>UInt8.ofNat n.toNat).toArray:=by
 induction ns with
 |nil=>intro s;simp
 |cons z ns ih=>intro s;rw[List.foldl_cons,ih];simp[ByteArray.push]
theorem evConvS_ok (hk:Ok G σ h nx w){s d:TypeId}{ts td:TI}(hts:TIok P s ts)(htd:TIok P d td){te:Option TI}{et:TypeId}(hte:∀ti,te=some ti→TIok P et ti){v:AV}{V:Value}(hv:Rel σ v V):
  RV P G σ h nx w (convert s d V) (evConvS ts td te et v h nx):=by
 cases ts with
 |mk ds s1 s2 s3 s4=>
 cases td with
 |mk dd d1 d2 d3 d4=>
 obtain⟨hus,hus2⟩:=hts
 obtain⟨hud,hud2⟩:=htd
 clear hus2 hud2
 unfold evConvS
 cases dd <;> try trivial
 ·rename_i k
  cases v <;> try trivial
  rename_i k' n
  simp only[Rel]at hv
  subst hv
  exact SV.pure hk (V:=.int k (k.wrap n)) (by simp[convert,run_underlying hus,run_underlying hud,Conv.intToInt]) (by simp only[Rel])
 ·cases v <;> try trivial
  case bs b=>
   have hv':=hv
   simp only[Rel]at hv
   subst hv
   exact SV.pure hk (V:=.string b) (by cases ds <;> simp[convert,run_underlying hus,run_underlying hud]) hv'
  ·simp only[Rel]at hv
   subst hv
   simp only
   split
   ·rename_i e q1 q2 q3 q4
    cases hbe:Nat.beq e et with
    |false=>trivial
    |true=>
     have:=Nat.eq_of_beq_eq_true hbe
     subst this
     obtain⟨hue,_⟩:=hte _ rfl
     refine SV.pure hk (V:=.string .empty) ?_ (by simp only[Rel])
     rw[run_convert_bytes_string w s d e none 0 0 hus hue hud]
     simp[Conv.bytesToString]
   ·trivial
  ·rename_i i o l c opn
   simp only[Rel]at hv
   obtain⟨b,hb,e,hlc⟩:=hv
   subst e
   clear hlc
   generalize (if opn=true then σ.cap i-c else c)=cc
   simp only
   split
   ·rename_i e q1 q2 q3 q4
    cases hbe:Nat.beq e et with
    |false=>trivial
    |true=>
     have:=Nat.eq_of_beq_eq_true hbe
     subst this
     obtain⟨hue,_⟩:=hte _ rfl
     simp only
     split
     ·rename_i e' n c' opn' esz hg
      obtain⟨b',C,fr,hb',hheap,hcell,_,_⟩:=hk.cells hg
      rw[hb]at hb'
      cases hb'
      cases hle:Nat.ble (Nat.add o l) n with
      |false=>trivial
      |true=>
       simp only
       cases hgn:getN c' l o with
       |none=>trivial
       |some cs=>
        simp only
        cases hcn:bytesS cs with
        |none=>trivial
        |some r=>
         obtain⟨hlen,L,hrl,hload,_⟩:=cells_read (P:=P) hheap hcell (Nat.le_of_ble_eq_true hle) hgn
         obtain⟨hL,hr⟩:=bytesS_spec hrl hcn
         refine SV.pure hk (V:=.string ⟨r.toArray⟩) ?_ (by simp only[Rel])
         rw[run_convert_bytes_string w s d e _ _ _ hus hue hud,run_bytesToString w _ l _ (r.map fun b=>Int.ofNat b.toNat) (by rw[hload,hL];simp)]
         congr 2
         apply ByteArray.ext
         rw[foldl_push]
         have hid:(r.map fun b=>Int.ofNat b.toNat).map (fun n=>UInt8.ofNat n.toNat)=r:=by
          rw[List.map_map]
          conv=>rhs;rw[← List.map_id r]
          apply List.map_congr_left
          intro b _
          simp
         rw[hid]
         show #[]++r.toArray=r.toArray
         simp
     ·trivial
   ·trivial
 ·rename_i e
  cases v <;> try trivial
  rename_i b
  simp only[Rel]at hv
  subst hv
  simp only
  split
  ·rename_i q1 q2 q3 q4
   cases hbe:Nat.beq e et with
   |false=>trivial
   |true=>
    have:=Nat.eq_of_beq_eq_true hbe
    subst this
    obtain⟨hue,_⟩:=hte _ rfl
    have hrun:=run_bytes_of_string (P:=P) w s d e b hus hud hue
    generalize hcap:grownCap w b.size 0 e=cap at hrun
    have hge:b.size≤cap:=hcap ▸ grownCap_le w b.size 0 e
    have hbs:b.data.size=b.size:=rfl
    have hsz:(bytesRow b cap).size=cap:=by
     simp only[bytesRow,Array.size_append,Array.size_map,Array.size_replicate]
     omega
    have hd:=Post.drawn hk (w.drawn+1)
    have ha:=Post.alloc hd.ok cap (.cells e b.size (putN (b.data.toList.map fun z=>.int .u8 (Int.ofNat z.toNat)) .nil 0) true 1) (.cells (bytesRow b cap) e ((bytesRow b cap).size,(bytesRow b cap).size+1)) (by
     simp only[RelB]
     refine⟨_,_,rfl,fun k hk'=>?_,fun k hk'=>by omega,?_⟩
     ·have hk2:k<b.data.size:=by omega
      refine⟨.int .u8 (Int.ofNat (b.data[k]).toNat),.int .u8 (Int.ofNat (b.data[k]).toNat),?_,?_,by simp only[Rel]⟩
      ·rw[get_putN,if_pos (by simp;omega)]
       rw[Nat.sub_zero,List.getElem?_map,Array.getElem?_toList,Array.getElem?_eq_getElem hk2]
       rfl
      ·rw[bytesRow,Array.getElem?_append_left (by simp;omega)]
       rw[Array.getElem?_map,Array.getElem?_eq_getElem hk2]
       rfl
     ·rw[hsz]
      simp[Sg.add]
      exact hge)
    refine⟨_,_,_,hrun,?_,hd.trans ha⟩
    simp only[Rel,if_true]
    refine⟨w.heap.size,by simp[Sg.add],by simp[Sg.add],by simp[Sg.add];exact hge⟩
  ·trivial
end
end Go.Ev
namespace Go.Ev
variable {P : Program} {G : Gl} {σ τ υ : Sg} {h g f : Tr ABlk} {nx ny nz : Nat} {w x y : World}
noncomputable section
def segL (l:List AV) (o:Nat)(c:List AV):List AV:=l.take o++(c++l.drop (Nat.add o c.length))
theorem get_segL {l c:List AV}{o:Nat}(hle:o+c.length≤l.length) (k:Nat):(segL l o c)[k]?=if o≤k∧k<o+c.length then c[k-o]? else l[k]?:=by
 unfold segL
 have ho:(l.take o).length=o:=by simp;omega
 by_cases h1:k<o
 ·rw[List.getElem?_append_left (by omega),List.getElem?_take_of_lt h1,if_neg (by omega)]
 ·rw[List.getElem?_append_right (by omega),ho]
  by_cases h2:k<o+c.length
  ·rw[List.getElem?_append_left (by omega),if_pos (by omega)]
  ·rw[List.getElem?_append_right (by omega),if_neg (by omega),List.getElem?_drop]
   congr 1
   show o+c.length+(k-o-c.length)=k
   omega
theorem segL_length {l c:List AV}{o:Nat}(hle:o+c.length≤l.length):(segL l o c).length=l.length:=by
 unfold segL
 simp only[List.length_append,List.length_take,List.length_drop]
 show min o l.length+(c.length+(l.length-(o+c.length)))=_
 omega
def fillL (place:Nat→Option (Nat×Nat))(ps:List (Nat×AV)):List AV→Option (List AV):=
 List.rec (motive:=fun _=>List AV→Option (List AV)) (fun l=>some l) (fun p _ ih l=>match p with
  |(i,v)=>match place i with
   |some (o,s)=>match Nat.beq v.cells.length s with
    |true=>match Nat.ble (Nat.add o s) l.length with
     |true=>ih (segL l o v.cells)
     |false=>none
    |false=>none
   |none=>none) ps
theorem fillL_cons (place:Nat→Option (Nat×Nat)) (i:Nat)(v:AV)(ps:List (Nat×AV))(l:List AV):fillL place ((i,v)::ps) l=match place i with
   |some (o,s)=>match Nat.beq v.cells.length s with
    |true=>match Nat.ble (Nat.add o s) l.length with
     |true=>fillL place ps (segL l o v.cells)
     |false=>none
    |false=>none
   |none=>none:=rfl
def RelP (σ:Sg):List (Nat×AV)→List (Nat×Value)→Prop
 |[],L=>L=[]
 |(i,a)::l,L=>∃V L',L=(i,V)::L'∧Rel σ a V∧RelP σ l L'
theorem foldl_setN (off:Nat):∀(L:List Value) (j:Nat)(C:Array Value),(L.zipIdx j).foldl (fun cs (p:Value×Nat)=>cs.setIfInBounds (off+p.2) p.1) C=setN L C (off+j)
 |[],j,C=>rfl
 |v::L,j,C=>by
  rw[List.zipIdx_cons,List.foldl_cons,foldl_setN]
  rfl
theorem foldl_setN' (off:Nat)(vs C:Array Value):vs.zipIdx.foldl (fun cs (c,j)=>cs.setIfInBounds (off+j) c) C=setN vs.toList C off:=by
 rw[← Array.foldl_toList,Array.toList_zipIdx]
 exact foldl_setN off vs.toList 0 C
theorem fill_ok (place:Nat→Option (Nat×Nat)):∀(ps:List (Nat×AV))(PS:List (Nat×Value))(l:List AV)(C:Array Value)(l':List AV),RelP σ ps PS→RelL σ l C.toList→fillL place ps l=some l'→
  ∃C',Instr.fill place C PS=some C'∧RelL σ l' C'.toList
 |[],PS,l,C,l',hp,hl,hf=>by
  cases hf
  simp only[RelP]at hp
  subst hp
  exact⟨C,rfl,hl⟩
 |(i,v)::ps,PS,l,C,l',hp,hl,hf=>by
  simp only[RelP]at hp
  obtain⟨V,L',e,h1,h2⟩:=hp
  subst e
  rw[fillL_cons]at hf
  cases hpl:place i with
  |none=>rw[hpl]at hf;cases hf
  |some q=>
   obtain⟨o,s⟩:=q
   rw[hpl]at hf
   simp only at hf
   cases hb:Nat.beq v.cells.length s with
   |false=>rw[hb]at hf;cases hf
   |true=>
    rw[hb]at hf
    simp only at hf
    have hs:=Nat.eq_of_beq_eq_true hb
    cases hb2:Nat.ble (Nat.add o s) l.length with
    |false=>rw[hb2]at hf;cases hf
    |true=>
     rw[hb2]at hf
     simp only at hf
     have hle:o+s≤l.length:=Nat.le_of_ble_eq_true hb2
     have hc:=h1.cells
     have hcl:V.cells.size=s:=by rw[← hs,← hc.length];simp
     have hCl:C.size=l.length:=by rw[← hl.length];simp
     have hrel:RelL σ (segL l o v.cells) (setN V.cells.toList C o).toList:=by
      refine RelL.of_get (by rw[segL_length (by omega)];simp[setN_size,hCl]) fun k a A e1 e2=>?_
      rw[get_segL (by omega)]at e1
      rw[Array.getElem?_toList,get_setN _ _ _ _ (by simp;omega)]at e2
      have:V.cells.toList.length=v.cells.length:=hc.length
      rw[this]at e2
      by_cases hin:o≤k∧k<o+v.cells.length
      ·rw[if_pos hin]at e1 e2
       obtain⟨A',e3,e4⟩:=hc.get e1
       rw[e2]at e3
       cases e3
       exact e4
      ·rw[if_neg hin]at e1 e2
       obtain⟨A',e3,e4⟩:=hl.get e1
       rw[Array.getElem?_toList]at e3
       rw[e2]at e3
       cases e3
       exact e4
     obtain⟨C',e3,e4⟩:=fill_ok place ps L' _ _ l' h2 hrel hf
     refine⟨C',?_,e4⟩
     rw[Instr.fill,hpl]
     simp only
     rw[if_neg (by simp[hcl];omega),foldl_setN']
     exact e3
theorem run_places {fields:Array Field}{fs:List (Nat×Nat×Bool)}(hlen:fs.length=fields.size)
  (hf:∀(k o s:Nat) (b:Bool),fs[k]?=some (o,s,b)→∃f:Field,fields[k]?=some f∧f.offset=o∧TF P f.type s b) (w:World):
  ∃pl:Array (Nat×Nat),(fields.mapM fun f=>do pure (f.offset,← sizeOf f.type):Sem (Array (Nat×Nat))).run P w=.ok pl w∧∀k:Nat,pl[k]?=(fs[k]?).map (fun (p:Nat×Nat×Bool)=>(p.1,p.2.1)):=by
 have key:∀(fl:List Field) (fs:List (Nat×Nat×Bool)),fs.length=fl.length→(∀(k o s:Nat) (b:Bool),fs[k]?=some (o,s,b)→∃f:Field,fl[k]?=some f∧f.offset=o∧TF P f.type s b)→
   (fl.mapM fun f=>do pure (f.offset,← sizeOf f.type):Sem (List (Nat×Nat))).run P w=.ok (fs.map fun p=>(p.1,p.2.1)) w:=by
  intro fl
  induction fl with
  |nil=>intro fs hl _;cases fs with |nil=>simp |cons _ _=>simp at hl
  |cons f0 fl ih=>
   intro fs hl hf
   cases fs with
   |nil=>simp at hl
   |cons p fs=>
    obtain⟨o,s,b⟩:=p
    obtain⟨f1,e1,e2,e3⟩:=hf 0 o s b rfl
    simp at e1
    subst e1
    have:=ih fs (by simpa using hl) fun k o s b e=>by
     obtain⟨f2,e4,e5⟩:=hf (k+1) o s b (by simpa using e)
     exact⟨f2,by simpa using e4,e5⟩
    simp only[List.mapM_cons,Sem.run_bind,e3.size,Result.andThen,Sem.run_pure,this,e2,List.map_cons]
 have:=key fields.toList fs (by simpa using hlen) fun k o s b e=>by
  obtain⟨f2,e4,e5⟩:=hf k o s b e
  exact⟨f2,by simpa using e4,e5⟩
 refine⟨(fs.map fun p=>(p.1,p.2.1)).toArray,?_,fun k=>by simp⟩
 rw[Array.mapM_eq_mapM_toList,Sem.run_map,this]
 rfl
def evBuild (ti:TI)(ps:List (Nat×AV))(h:Tr ABlk) (nx:Nat):R:=
 match ti with
 |.mk d _ _ zero fs=>match zero with
  |none=>.fail
  |some z=>match d with
   |.struct _=>match fillL (fun i=>match fs[i]? with |some (o,s,_)=>some (o,s) |none=>none) ps z.cells with
    |some l=>.val (.agg l) h nx
    |none=>.fail
   |.array _ _=>match fs with
    |[]=>.fail
    |(_,s,_)::_=>match fillL (fun i=>some (Nat.mul i s,s)) ps z.cells with
     |some l=>.val (.agg l) h nx
     |none=>.fail
   |_=>.fail
theorem evBuild_ok (hk:Ok G σ h nx w)(t:TypeId){ti:TI}(ht:TIok P t ti){ps:List (Nat×AV)}{PS:Array (Nat×Value)}(hp:RelP σ ps PS.toList):RV P G σ h nx w (Instr.build t PS) (evBuild ti ps h nx):=by
 cases ti with
 |mk d size bytes zero fs=>
 obtain⟨hu,inf,hi,hs,hby,hzz,hf,hfl,he⟩:=ht
 unfold evBuild
 cases zero with
 |none=>trivial
 |some z=>
  obtain⟨Z,hZ,hzr,hzs⟩:=hzz z rfl
  cases d <;> try trivial
  ·rename_i len elem
   cases fs with
   |nil=>trivial
   |cons p fs=>
   obtain⟨o0,s,b0⟩:=p
   have htf:=he elem (.inr (.inl ⟨len,rfl⟩)) o0 s b0 rfl
   simp only
   cases hfl:fillL (fun i=>some (Nat.mul i s,s)) ps z.cells with
   |none=>trivial
   |some l=>
    obtain⟨C',e1,e2⟩:=fill_ok _ ps PS.toList z.cells Z.cells l hp (hzr σ).cells hfl
    refine SV.pure hk (V:=.agg C') ?_ (by simp only[Rel];exact⟨C'.toList,by simp,e2⟩)
    have e1':Instr.fill (fun i=>some (i * s,s)) Z.cells PS.toList=some C':=e1
    simp[Instr.build,run_zero hi hZ,run_underlying hu,htf.size,e1']
  ·rename_i fields
   simp only
   cases hfl2:fillL (fun i=>match fs[i]? with |some (o,s,_)=>some (o,s) |none=>none) ps z.cells with
   |none=>trivial
   |some l=>
    obtain⟨C',e1,e2⟩:=fill_ok _ ps PS.toList z.cells Z.cells l hp (hzr σ).cells hfl2
    obtain⟨pl,e3,e4⟩:=run_places (hfl fields rfl) (hf fields rfl) w
    refine SV.pure hk (V:=.agg C') ?_ (by simp only[Rel];exact⟨C'.toList,by simp,e2⟩)
    have hpl:(fun i:Nat=>(match fs[i]? with |some (o,s,_)=>some (o,s) |none=>none:Option (Nat×Nat)))=fun i=>pl[i]?:=by
     funext i
     rw[e4]
     cases fs[i]? <;> rfl
    rw[hpl]at e1
    simp only[Instr.build,Sem.run_bind,run_zero hi hZ,Result.andThen,run_underlying hu,e3,e1,Sem.run_pure]
def repL (z:List AV) (n:Nat):List AV:=Nat.rec (motive:=fun _=>List AV) [] (fun _ ih=>z++ih) n
theorem repL_length (z:List AV):∀n,(repL z n).length=n * z.length
 |0=>by simp only[Nat.zero_mul];rfl
 |n+1=>by
  show (z++repL z n).length=_
  rw[List.length_append,repL_length,Nat.succ_mul];omega
theorem repL_get (z:List AV):∀n k,k<n * z.length→(repL z n)[k]?=z[k % z.length]?
 |0,k,h=>by simp at h
 |n+1,k,h=>by
  show (z++repL z n)[k]?=_
  rw[Nat.succ_mul]at h
  by_cases hk:k<z.length
  ·rw[List.getElem?_append_left hk,Nat.mod_eq_of_lt hk]
  ·rw[List.getElem?_append_right (by omega),repL_get z n _ (by omega)]
   congr 1
   rw[Nat.mod_eq_sub_mod (a:=k) (by omega)]
theorem rep_ok {z:List AV}{Z:Array Value}(hz:RelL σ z Z.toList) (n:Nat):RelL σ (repL z n) ((Array.range (n * Z.size)).map (Z[· % Z.size]!)).toList:=by
 have hzl:Z.size=z.length:=by rw[← hz.length];simp
 refine RelL.of_get (by simp[repL_length,hzl]) fun k a A e1 e2=>?_
 have hk:k<n * z.length:=by
  rcases Nat.lt_or_ge k (n * z.length) with h3 |h3
  ·exact h3
  ·rw[List.getElem?_eq_none (by rw[repL_length];exact h3)]at e1;cases e1
 rw[repL_get z n k hk]at e1
 have hpos:0<z.length:=by
  rcases Nat.eq_zero_or_pos z.length with h0 |h0
  ·rw[h0]at hk;omega
  ·exact h0
 obtain⟨A',e3,e4⟩:=hz.get e1
 have hm:k % Z.size<Z.size:=Nat.mod_lt _ (by omega)
 have:A=A':=by
  have hk2:k<n * Z.size:=by rw[hzl];exact hk
  have e5:((Array.range (n * Z.size)).map (Z[· % Z.size]!)).toList[k]?=some (Z[k % Z.size]!):=by
   rw[Array.getElem?_toList]
   simp[hk2]
  rw[e5]at e2
  rw[← hzl,Array.getElem?_toList,Array.getElem?_eq_getElem hm]at e3
  rw[getElem!_pos Z (k % Z.size) hm]at e2
  cases e3
  cases e2
  rfl
 subst this
 exact e4
def evBuildSlice (ti:TI)(te:Option TI)(et:TypeId) (len:Nat)(ps:List (Nat×AV))(h:Tr ABlk) (nx:Nat):R:=
 match ti,te with
 |.mk d _ _ _ _,some (.mk _ s _ (some z) _)=>match d with
  |.slice e=>match Nat.beq e et with
   |true=>match Nat.ble (Nat.mul len s) 16777216 with
    |true=>match Nat.beq s 0 with
     |true=>.fail
     |false=>match fillL (fun i=>some (Nat.mul i s,s)) ps (repL z.cells len) with
      |some l=>newK e l h nx fun i=>.sl i 0 len len false
      |none=>.fail
    |false=>.fail
   |false=>.fail
  |_=>.fail
 |_,_=>.fail
theorem evBuildSlice_ok (hk:Ok G σ h nx w)(t:TypeId){ti:TI}(ht:TIok P t ti){te:Option TI}{et:TypeId}(hte:∀ti,te=some ti→TIok P et ti) (len:Nat){ps:List (Nat×AV)}{PS:Array (Nat×Value)}(hp:RelP σ ps PS.toList):
  RV P G σ h nx w (Instr.buildSlice t len PS) (evBuildSlice ti te et len ps h nx):=by
 cases ti with
 |mk d size bytes zero fs=>
 obtain⟨hu,hu2⟩:=ht
 clear hu2
 unfold evBuildSlice
 split
 ·rename_i dd q1 q2 q3 q4 d2 s q5 z q6 e0
  cases e0
  obtain⟨hue,inf,hi,hs,hby,hzz,hf,hfl,he⟩:=hte _ rfl
  obtain⟨Z,hZ,hzr,hzs⟩:=hzz z rfl
  cases d <;> try trivial
  rename_i e
  simp only
  cases hbe:Nat.beq e et with
  |false=>trivial
  |true=>
  have:=Nat.eq_of_beq_eq_true hbe
  subst this
  simp only
  cases hble:Nat.ble (Nat.mul len s) 16777216 with
  |false=>trivial
  |true=>
  have hle:len * s≤16777216:=Nat.le_of_ble_eq_true hble
  simp only
  cases hs0:Nat.beq s 0 with
  |true=>trivial
  |false=>
  have hs0':=beq_false hs0
  simp only
  cases hfl:fillL (fun i=>some (Nat.mul i s,s)) ps (repL z.cells len) with
  |none=>trivial
  |some l=>
   have hzc:Z.cells.size=s:=hzs
   obtain⟨C',e1,e2⟩:=fill_ok _ ps PS.toList _ ((Array.range (len * s)).map (Z.cells[· % Z.cells.size]!)) l hp (by rw[← hzc];exact rep_ok (hzr σ).cells len) hfl
   have e1':Instr.fill (fun i=>some (i * s,s)) ((Array.range (len * s)).map (Z.cells[· % Z.cells.size]!)) PS.toList=some C':=e1
   refine newK_ok hk e (L:=C'.toList) e2 (V:=.slice (some ⟨w.heap.size,0,none⟩) len len) ?_ ?_
   ·have hn:¬(len * s > 2 ^ 24):=by omega
    by_cases h0:len * s=0
    ·have hl0:len=0:=by rcases Nat.mul_eq_zero.1 h0 with h1 |h1;exact h1;exact absurd h1 hs0'
     subst hl0
     simp only[Nat.zero_mul,Array.range_zero',Array.map_empty]at e1' ⊢
     simp[Instr.buildSlice,run_underlying hu,run_size hi,hs,Array.range_zero',e1',newRow,newObj,Sem.run]
    ·simp[Instr.buildSlice,run_underlying hu,run_size hi,hs,hn,h0,run_zero hi hZ,e1',newRow,newObj,Sem.run]
   ·simp only[Rel,Bool.false_eq_true,if_false]
    exact⟨w.heap.size,by simp[Sg.add],rfl,Nat.le_refl _⟩
 ·trivial
def newO (t:TypeId) (s:Nat)(h:Tr ABlk) (nx:Nat):R:=
 h.putK (some (.cells t 0 .nil true s)) nx fun h'=>fN (Nat.succ nx) fun nx'=>.val (.sl nx 0 0 0 true) h' nx'
def evMakeSlice (ti:TI)(te:Option TI)(et:TypeId)(ln cp:AV)(h:Tr ABlk) (nx:Nat):R:=
 match ti,te with
 |.mk d _ _ _ _,some (.mk _ s bytes (some z) _)=>match d with
  |.slice e=>match Nat.beq e et with
   |true=>match idx ln with
    |some l=>match idx cp with
     |some c=>match Nat.ble l c with
      |true=>match Nat.ble c 16777216 with
       |true=>match Nat.ble bytes 16777216 with
        |true=>match Nat.beq l 0 with
         |true=>newO e s h nx
         |false=>fN l fun l=>fN c fun c=>newK e (repL z.cells c) h nx fun i=>.sl i 0 l c false
        |false=>.fail
       |false=>.fail
      |false=>.fail
     |none=>.fail
    |none=>.fail
   |false=>.fail
  |_=>.fail
 |_,_=>.fail
theorem evMakeSlice_ok (hk:Ok G σ h nx w)(t:TypeId){ti:TI}(ht:TIok P t ti){te:Option TI}{et:TypeId}(hte:∀ti,te=some ti→TIok P et ti){ln cp:AV}{LN CP:Value}(hl:Rel σ ln LN)(hc:Rel σ cp CP):
  RV P G σ h nx w (Instr.makeSlice t LN CP) (evMakeSlice ti te et ln cp h nx):=by
 cases ti with
 |mk d size bytes zero fs=>
 obtain⟨hu,hu2⟩:=ht
 clear hu2
 unfold evMakeSlice
 split
 ·rename_i dd q1 q2 q3 q4 d2 s by' z q6 e0
  cases e0
  obtain⟨hue,inf,hi,hs,hby,hzz,hf,hfl,he⟩:=hte _ rfl
  obtain⟨Z,hZ,hzr,hzs⟩:=hzz z rfl
  cases d <;> try trivial
  rename_i e
  simp only
  cases hbe:Nat.beq e et with
  |false=>trivial
  |true=>
  have:=Nat.eq_of_beq_eq_true hbe
  subst this
  simp only
  cases hln:idx ln with
  |none=>trivial
  |some l=>
  cases hcp:idx cp with
  |none=>trivial
  |some c=>
  simp only
  cases hb1:Nat.ble l c with
  |false=>trivial
  |true=>
  cases hb2:Nat.ble c 16777216 with
  |false=>trivial
  |true=>
  cases hb3:Nat.ble by' 16777216 with
  |false=>trivial
  |true=>
  simp only[fN_eq]
  obtain⟨k1,e1⟩:=idx_ok hl hln
  obtain⟨k2,e2⟩:=idx_ok hc hcp
  subst e1
  subst e2
  have n1:=Nat.le_of_ble_eq_true hb1
  have n2:=Nat.le_of_ble_eq_true hb2
  have n3:=Nat.le_of_ble_eq_true hb3
  have hrun:=run_make (P:=P) w t e inf Z hu hi hZ k1 k2 (l:Int) (c:Int) (by omega) (by omega) (by
   rw[hby]
   have:by' * c≤16777216 * 16777216:=Nat.mul_le_mul n3 n2
   have h2:((by' * c:Nat):Int)≤281474976710656:=by omega
   simpa using h2) (by omega)
  have hsz:Z.cells.size=inf.size:=by rw[hzs,hs]
  cases hz0:Nat.beq l 0 with
  |true=>
   have l0:=Nat.eq_of_beq_eq_true hz0
   subst l0
   simp only[newO,Tr.putK_eq,fN_eq]
   refine⟨_,σ.add nx w.heap.size c,_,hrun,?_,Post.alloc hk c _ _ ?_⟩
   ·simp only[Rel,if_true]
    refine⟨w.heap.size,by simp[Sg.add],?_,Nat.zero_le _⟩
    simp[Sg.add]
   ·simp only[RelB,if_true]
    refine⟨_,(0,0),rfl,fun k hk'=>by omega,fun k _=>by omega,Nat.zero_le _,?_⟩
    simp only[madeCells,Int.toNat_natCast,hsz,Sg.add,if_true]
    simp[hsz,hs]
  |false=>
  refine newK_ok hk e (rep_ok (hzr σ).cells c) (V:=.slice (some ⟨w.heap.size,0,none⟩) l c) ?_ ?_
  ·rw[hrun]
   simp only[madeCells,Int.toNat_natCast,hsz,Array.toArray_toList]
   rfl
  ·simp only[Rel,Bool.false_eq_true,if_false]
   exact⟨w.heap.size,by simp[Sg.add],rfl,n1⟩
 ·trivial
end
end Go.Ev
namespace Go.Ev
variable {P : Program} {G : Gl} {σ τ υ : Sg} {h g f : Tr ABlk} {nx ny nz : Nat} {w x y : World}
noncomputable section
theorem strB_beq {l n k m:Nat}(h1:n<256 ^ l)(h2:m<256 ^ k):(strB l n == strB k m)=strEq l n k m:=by
 rw[← strEq_spec h1 h2,ByteArray.toList_eq,ByteArray.toList_eq]
 show ((strB l n).data == (strB k m).data)=_
 rw[Bool.eq_iff_iff]
 constructor
 ·intro e
  have:=eq_of_beq e
  rw[this]
  exact beq_self_eq_true _
 ·intro e
  have e2:=eq_of_beq e
  rw[Array.toList_inj.1 e2]
  exact beq_self_eq_true _
theorem beqB (a b:ByteArray):(a == b)=decide (a=b):=by
 show (a.data == b.data)=_
 by_cases h:a=b
 ·subst h;simp
 ·have:¬a.data=b.data:=fun e=>h (ByteArray.ext e)
  simp[h,this]
def ikeq (a b:IntKind):Bool:=Nat.beq a.ctorIdx b.ctorIdx
theorem ikeq_spec {a b:IntKind}(e:ikeq a b=true):a=b:=by
 cases a <;> cases b <;> first |rfl |(exact absurd e (by decide))
def scalEq (d:TypeDesc)(x y:AV):Option Bool:=
 match d with
 |.int _=>match x,y with
  |.int k a,.int k' b=>match ikeq k k' with
   |true=>some (ieq a b)
   |false=>none
  |_,_=>none
 |.string=>match x,y with
  |.str l n,.str k m=>some (strEq l n k m)
  |.bs a,.bs b=>some (decide (a=b))
  |_,_=>none
 |.bool=>match x,y with
  |.bool a,.bool b=>some (match a with |true=>b |false=>!b)
  |_,_=>none
 |_=>none
theorem scalEq_ok {d:TypeDesc}{x y:AV}{X Y:Value}{b:Bool}(hx:Rel σ x X)(hy:Rel σ y Y)(he:scalEq d x y=some b):
  Instr.sameNow d X Y=some b∧∀(n:Nat) (t:TypeId) (w:World),P.underlying t=some d→(Op.equalIn (n+1) t X Y).run P w=.ok b w:=by
 unfold scalEq at he
 cases d <;> try (cases he;done)
 ·cases x <;> cases y <;> try (cases he;done)
  rename_i a c
  simp only[Rel]at hx hy
  subst hx
  subst hy
  cases he
  refine⟨?_,fun n t w hu=>?_⟩
  ·cases a <;> cases c <;> rfl
  ·simp[Op.equalIn,run_underlying hu]
   cases a <;> cases c <;> rfl
 ·cases x <;> cases y <;> try (cases he;done)
  rename_i k a k' c
  simp only at he
  cases hk:ikeq k k' with
  |false=>rw[hk]at he;cases he
  |true=>
   rw[hk]at he
   cases he
   have:=ikeq_spec hk
   subst this
   simp only[Rel]at hx hy
   subst hx
   subst hy
   refine⟨by simp[Instr.sameNow,ieq_eq],fun n t w hu=>?_⟩
   simp[Op.equalIn,run_underlying hu,ieq_eq]
 ·cases x <;> cases y <;> try (cases he;done)
  ·cases he
   simp only[Rel]at hx hy
   obtain⟨h1,e1⟩:=hx
   obtain⟨h2,e2⟩:=hy
   subst e1
   subst e2
   refine⟨by simp only[Instr.sameNow];rw[strB_beq h1 h2],fun n t w hu=>?_⟩
   simp[Op.equalIn,run_underlying hu,strB_beq h1 h2]
  ·rename_i a c
   cases he
   simp only[Rel]at hx hy
   subst hx
   subst hy
   refine⟨by simp only[Instr.sameNow];rw[beqB],fun n t w hu=>?_⟩
   simp[Op.equalIn,run_underlying hu,beqB]
def flatEq (ks:List (Nat×TypeDesc))(xs ys:List AV):Option Bool:=
 List.rec (motive:=fun _=>Option Bool) (some true) (fun p _ ih=>match p with
  |(o,d)=>match xs[o]?,ys[o]? with
   |some a,some b=>match scalEq d a b with
    |some true=>ih
    |some false=>match ih with
     |some _=>some false
     |none=>none
    |none=>none
   |_,_=>none) ks
def EqOk (P:Program)(t:TypeId):Option (List (Nat×TypeDesc))→Prop
 |none=>True
 |some ks=>P.eqGuardType P.depth t=false∧∀(σ:Sg) (xs ys:List AV) (XS YS:List Value) (b:Bool),RelL σ xs XS→RelL σ ys YS→flatEq ks xs ys=some b→
   ∀w,(Op.equal t (.agg XS.toArray) (.agg YS.toArray)).run P w=.ok b w
def eqV (ti:TI)(eqs:Option (List (Nat×TypeDesc)))(c:Bool)(x y:AV):Option Bool:=
 match ti with
 |.mk d _ _ _ fs=>match d with
  |.pointer _=>match x,y with
   |.ptr0,.ptr0=>some true
   |.ptr0,.ptr _ _=>some false
   |.ptr _ _,.ptr0=>some false
   |.ip _,.ptr0=>some false
   |.ptr0,.ip _=>some false
   |.ptr i o,.ptr j p=>match Nat.beq i j with
    |true=>match fs with
     |(_,s,_)::_=>match Nat.beq s 0 with
      |true=>none
      |false=>some (Nat.beq o p)
     |[]=>none
    |false=>none
   |_,_=>none
  |.slice _=>match x,y with
   |.sl0,.sl0=>some true
   |.sl0,.sl _ _ _ _ _=>some false
   |.sl _ _ _ _ _,.sl0=>some false
   |.fz _ _ (_::_),.sl0=>some false
   |_,_=>none
  |.map _ _=>match x,y with
   |.map0,.map0=>some true
   |.map0,.map _=>some false
   |.map _,.map0=>some false
   |_,_=>none
  |.func _ _ _=>match x,y with
   |.nilFunc,.nilFunc=>some true
   |.nilFunc,.func _ _ _=>some false
   |.func _ _ _,.nilFunc=>some false
   |_,_=>none
  |.interface _=>match x,y with
   |.nilIface,.nilIface=>match c with
    |true=>some true
    |false=>none
   |.nilIface,.iface _ _=>some false
   |.iface _ _,.nilIface=>some false
   |.iface t _,.iface u _=>match Nat.beq t u with
    |true=>none
    |false=>some false
   |_,_=>none
  |.struct _=>match x,y with
   |.agg xs,.agg ys=>match eqs with
    |some ks=>flatEq ks xs ys
    |none=>none
   |_,_=>none
  |.array _ _=>match x,y with
   |.agg xs,.agg ys=>match eqs with
    |some ks=>flatEq ks xs ys
    |none=>none
   |_,_=>none
  |d=>scalEq d x y
def isConst:Operand→Bool
 |.const _=>true
 |_=>false
theorem eqRun {t:TypeId}{xo yo:Operand}{X Y:Value}{b:Bool}(hg:∀op,(eqGuard op t xo yo X Y).run P w=.ok () w)
  (hbe:binOp .eql t X Y=(do pure (.bool (← Op.equal t X Y)))) (hbn:binOp .neq t X Y=(do pure (.bool (!(← Op.equal t X Y))))) (he:∀n,(Op.equalIn (n+1) t X Y).run P w=.ok b w):
  (do eqGuard .eql t xo yo X Y;binOp .eql t X Y:Sem Value).run P w=.ok (.bool b) w∧(do eqGuard .neq t xo yo X Y;binOp .neq t X Y:Sem Value).run P w=.ok (.bool !b) w:=by
 have he':(Op.equal t X Y).run P w=.ok b w:=he 9999
 rw[Sem.run_bind,Sem.run_bind,hg,hg,hbe,hbn]
 simp only[Result.andThen,Sem.run_bind,he',Sem.run_pure]
 exact⟨trivial,trivial⟩
set_option maxHeartbeats 4000000 in
theorem eqV_ok (t:TypeId){ti:TI}(ht:TIok P t ti){eqs:Option (List (Nat×TypeDesc))}(hq:EqOk P t eqs){x y:AV}{X Y:Value}(hx:Rel σ x X)(hy:Rel σ y Y)(xo yo:Operand){b:Bool}
  (he:eqV ti eqs (isConst xo || isConst yo) x y=some b) (hni:∀k n,x≠.int k n) (hns:∀l n,x≠.str l n) (hnb:∀b,x≠.bs b) (w:World):
  (do eqGuard .eql t xo yo X Y;binOp .eql t X Y:Sem Value).run P w=.ok (.bool b) w∧(do eqGuard .neq t xo yo X Y;binOp .neq t X Y:Sem Value).run P w=.ok (.bool !b) w:=by
 cases ti with
 |mk d size bytes zero fs=>
 obtain⟨hu,inf,hi,hs,hby,hzz,hf,hfl,hel⟩:=ht
 unfold eqV at he
 simp only at he
 cases d <;> try (cases he;done)
 ·
  obtain⟨_,h2⟩:=scalEq_ok (P:=P) hx hy he
  cases x <;> cases y <;> try (cases he;done)
  simp only[Rel]at hx hy
  subst hx
  subst hy
  exact eqRun (fun op=>by cases op <;> simp[eqGuard]) rfl rfl (fun n=>h2 n t w hu)
 ·cases x <;> cases y <;> try (cases he;done)
  exact absurd rfl (hni _ _)
 ·cases x <;> cases y <;> try (cases he;done)
  ·exact absurd rfl (hns _ _)
  ·exact absurd rfl (hnb _)
 ·
  rename_i elem
  cases x <;> cases y <;> try (cases he;done)
  case ptr0.ip cs=>
   cases he
   simp only[Rel]at hx hy
   obtain⟨b1,_,_,_,e1,_⟩:=hy
   subst hx
   subst e1
   exact eqRun (fun op=>by cases op <;> simp[eqGuard]) rfl rfl (fun n=>by simp[Op.equalIn,run_underlying hu])
  case ip.ptr0 cs=>
   cases he
   simp only[Rel]at hx hy
   obtain⟨b1,_,_,_,e1,_⟩:=hx
   subst hy
   subst e1
   exact eqRun (fun op=>by cases op <;> simp[eqGuard]) rfl rfl (fun n=>by simp[Op.equalIn,run_underlying hu])
  ·cases he
   simp only[Rel]at hx hy
   subst hx
   subst hy
   exact eqRun (fun op=>by cases op <;> simp[eqGuard]) rfl rfl (fun n=>by simp[Op.equalIn,run_underlying hu])
  ·cases he
   simp only[Rel]at hx hy
   obtain⟨b1,_,e1⟩:=hy
   subst hx
   subst e1
   exact eqRun (fun op=>by cases op <;> simp[eqGuard]) rfl rfl (fun n=>by simp[Op.equalIn,run_underlying hu])
  ·cases he
   simp only[Rel]at hx hy
   obtain⟨b1,_,e1⟩:=hx
   subst hy
   subst e1
   exact eqRun (fun op=>by cases op <;> simp[eqGuard]) rfl rfl (fun n=>by simp[Op.equalIn,run_underlying hu])
  ·rename_i i o j p
   simp only at he
   cases hij:Nat.beq i j with
   |false=>rw[hij]at he;cases he
   |true=>
    have:=Nat.eq_of_beq_eq_true hij
    subst this
    rw[hij]at he
    cases fs with
    |nil=>cases he
    |cons q fs=>
     obtain⟨o0,s,b0⟩:=q
     have htf:=hel elem (.inr (.inr rfl)) o0 s b0 rfl
     simp only at he
     cases hs0:Nat.beq s 0 with
     |true=>rw[hs0]at he;cases he
     |false=>
      rw[hs0]at he
      cases he
      have hs0':=beq_false hs0
      simp only[Rel]at hx hy
      obtain⟨b1,hb1,e1⟩:=hx
      obtain⟨b2,hb2,e2⟩:=hy
      rw[hb1]at hb2
      cases hb2
      subst e1
      subst e2
      have hpp:((⟨b1,o,none⟩:Addr) == ⟨b1,p,none⟩)=Nat.beq o p:=by
       cases hop:Nat.beq o p with
       |true=>rw[Nat.eq_of_beq_eq_true hop];simp
       |false=>
        apply beq_eq_false_iff_ne.2
        intro e
        exact beq_false hop (congrArg Addr.off e)
      exact eqRun (fun op=>by cases op <;> simp[eqGuard]) rfl rfl (fun n=>by simp[Op.equalIn,run_underlying hu,htf.size,hs0',sameAddr,hpp])
 ·
  cases x <;> try (cases y <;> cases he;done)
  case fz es full xs=>
   cases xs with
   |nil=>cases y <;> cases he
   |cons z xs=>
    cases y <;> try (cases he;done)
    cases he
    simp only[Rel]at hx hy
    obtain⟨a,cap,e,g1,g2,g4,g3⟩:=hx
    obtain⟨b1,o1,_,_,e1,_⟩:=g3 (by simp)
    subst hy
    subst e
    subst e1
    exact eqRun (fun op=>by cases op <;> simp[eqGuard]) rfl rfl (fun n=>by simp[Op.equalIn,run_underlying hu])
  all_goals cases y <;> try (cases he;done)
  ·cases he
   simp only[Rel]at hx hy
   subst hx
   subst hy
   exact eqRun (fun op=>by cases op <;> simp[eqGuard]) rfl rfl (fun n=>by simp[Op.equalIn,run_underlying hu])
  ·cases he
   simp only[Rel]at hx hy
   obtain⟨b1,_,e1,_⟩:=hy
   subst hx
   subst e1
   exact eqRun (fun op=>by cases op <;> simp[eqGuard]) rfl rfl (fun n=>by simp[Op.equalIn,run_underlying hu])
  ·cases he
   simp only[Rel]at hx hy
   obtain⟨b1,_,e1,_⟩:=hx
   subst hy
   subst e1
   exact eqRun (fun op=>by cases op <;> simp[eqGuard]) rfl rfl (fun n=>by simp[Op.equalIn,run_underlying hu])
 ·
  rename_i len elem
  cases x <;> cases y <;> try (cases he;done)
  rename_i xs ys
  cases eqs with
  |none=>cases he
  |some ks=>
   simp only at he
   obtain⟨q1,q2⟩:=hq
   simp only[Rel]at hx hy
   obtain⟨XS,e1,r1⟩:=hx
   obtain⟨YS,e2,r2⟩:=hy
   subst e1
   subst e2
   have q3:=q2 σ xs ys XS YS b r1 r2 he w
   have hg:∀op,(eqGuard op t xo yo (.agg XS.toArray) (.agg YS.toArray)).run P w=.ok () w:=fun op=>by cases op <;> simp[eqGuard,q1]
   have hbe:binOp .eql t (.agg XS.toArray) (.agg YS.toArray)=(do pure (.bool (← Op.equal t (.agg XS.toArray) (.agg YS.toArray)))):=rfl
   have hbn:binOp .neq t (.agg XS.toArray) (.agg YS.toArray)=(do pure (.bool (!(← Op.equal t (.agg XS.toArray) (.agg YS.toArray))))):=rfl
   rw[Sem.run_bind,Sem.run_bind,hg,hg,hbe,hbn]
   simp only[Result.andThen,Sem.run_bind,q3,Sem.run_pure]
   exact⟨trivial,trivial⟩
 ·
  cases x <;> cases y <;> try (cases he;done)
  ·cases he
   simp only[Rel]at hx hy
   subst hx
   subst hy
   exact eqRun (fun op=>by cases op <;> simp[eqGuard]) rfl rfl (fun n=>by simp[Op.equalIn,run_underlying hu])
  ·cases he
   simp only[Rel]at hx hy
   obtain⟨b1,_,e1⟩:=hy
   subst hx
   subst e1
   exact eqRun (fun op=>by cases op <;> simp[eqGuard]) rfl rfl (fun n=>by simp[Op.equalIn,run_underlying hu])
  ·cases he
   simp only[Rel]at hx hy
   obtain⟨b1,_,e1⟩:=hx
   subst hy
   subst e1
   exact eqRun (fun op=>by cases op <;> simp[eqGuard]) rfl rfl (fun n=>by simp[Op.equalIn,run_underlying hu])
 ·
  rename_i fields
  cases x <;> cases y <;> try (cases he;done)
  rename_i xs ys
  cases eqs with
  |none=>cases he
  |some ks=>
   simp only at he
   obtain⟨q1,q2⟩:=hq
   simp only[Rel]at hx hy
   obtain⟨XS,e1,r1⟩:=hx
   obtain⟨YS,e2,r2⟩:=hy
   subst e1
   subst e2
   have q3:=q2 σ xs ys XS YS b r1 r2 he w
   have hg:∀op,(eqGuard op t xo yo (.agg XS.toArray) (.agg YS.toArray)).run P w=.ok () w:=fun op=>by cases op <;> simp[eqGuard,q1]
   have hbe:binOp .eql t (.agg XS.toArray) (.agg YS.toArray)=(do pure (.bool (← Op.equal t (.agg XS.toArray) (.agg YS.toArray)))):=rfl
   have hbn:binOp .neq t (.agg XS.toArray) (.agg YS.toArray)=(do pure (.bool (!(← Op.equal t (.agg XS.toArray) (.agg YS.toArray))))):=rfl
   rw[Sem.run_bind,Sem.run_bind,hg,hg,hbe,hbn]
   simp only[Result.andThen,Sem.run_bind,q3,Sem.run_pure]
   exact⟨trivial,trivial⟩
 ·
  cases x <;> cases y <;> try (cases he;done)
  ·cases he
   simp only[Rel]at hx hy
   obtain⟨A,C,e1,_⟩:=hx
   subst hy
   subst e1
   exact eqRun (fun op=>by cases op <;> simp[eqGuard]) rfl rfl (fun n=>by simp[Op.equalIn,run_underlying hu])
  ·cases he
   simp only[Rel]at hx hy
   obtain⟨A,C,e1,_⟩:=hy
   subst hx
   subst e1
   exact eqRun (fun op=>by cases op <;> simp[eqGuard]) rfl rfl (fun n=>by simp[Op.equalIn,run_underlying hu])
  ·cases he
   simp only[Rel]at hx hy
   subst hx
   subst hy
   exact eqRun (fun op=>by cases op <;> simp[eqGuard]) rfl rfl (fun n=>by simp[Op.equalIn,run_underlying hu])
 ·
  cases x <;> cases y <;> try (cases he;done)
  ·rename_i t1 v1 t2 v2
   simp only at he
   cases htt:Nat.beq t1 t2 with
   |true=>rw[htt]at he;cases he
   |false=>
    rw[htt]at he
    cases he
    have hne:=beq_false htt
    simp only[Rel]at hx hy
    obtain⟨V1,e1,_⟩:=hx
    obtain⟨V2,e2,_⟩:=hy
    subst e1
    subst e2
    exact eqRun (fun op=>by cases op <;> simp[eqGuard]) rfl rfl (fun n=>by simp[Op.equalIn,run_underlying hu,hne])
  ·cases he
   simp only[Rel]at hx hy
   obtain⟨V1,e1,_⟩:=hx
   subst hy
   subst e1
   exact eqRun (fun op=>by cases op <;> simp[eqGuard]) rfl rfl (fun n=>by simp[Op.equalIn,run_underlying hu])
  ·cases he
   simp only[Rel]at hx hy
   obtain⟨V1,e1,_⟩:=hy
   subst hx
   subst e1
   exact eqRun (fun op=>by cases op <;> simp[eqGuard]) rfl rfl (fun n=>by simp[Op.equalIn,run_underlying hu])
  ·simp only at he
   cases hc:(isConst xo || isConst yo) with
   |false=>rw[hc]at he;cases he
   |true=>
    rw[hc]at he
    cases he
    simp only[Rel]at hx hy
    subst hx
    subst hy
    have hg:∀op,(eqGuard op t xo yo .nilIface .nilIface).run P w=.ok () w:=by
     intro op
     cases op <;> first |rfl |(cases xo <;> cases yo <;> first |rfl |(exact absurd hc (by simp[isConst])))
    exact eqRun hg rfl rfl (fun n=>by simp[Op.equalIn,run_underlying hu])
end
end Go.Ev
