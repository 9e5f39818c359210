/- Texts. -/
import Derived.MapKept
import Derived.Test.YtkdnmldmffkkoaaGreatDoorP02
set_option linter.unusedSimpArgs false
set_option linter.unusedVariables false
set_option maxRecDepth 100000
set_option maxHeartbeats 8000000
namespace Go.Ev
variable {P : Program} {G : Gl} {σ τ υ : Sg} {h g f : Tr ABlk} {nx ny nz : Nat} {w x y : World}
def GO (v:AV):Option UInt8:=match uD v with |some n=>some (UInt8.ofNat n) |none=>none
def rz:List AV→Option (List UInt8)
 |[]=>some []
 |v::l=>match GO v with
  |some b=>match rz l with
   |some r=>some (b::r)
   |none=>none
  |none=>none
theorem zPu (b:UInt8):GO (.int .u8 (Int.ofNat b.toNat))=some b:=by
 have:b.toNat<256:=b.toNat_lt;have h2:Nat.ble b.toNat 255=true:=Nat.ble_eq_true_of_le (by omega);simp[GO,uD,h2]
theorem zy6:∀(l:List UInt8),rz (l.map fun b=>.int .u8 (Int.ofNat b.toNat))=some l
 |[]=>rfl
 |b::l=>by simp only[List.map_cons,rz,zPu,zy6 l]
theorem Xq:∀{l:List AV}{L:List Value}{r:List UInt8},aC σ l L→rz l=some r→L=r.map (fun b=>.int .u8 (Int.ofNat b.toNat))∧r.length=l.length
 |[],L,r,hr,h=>by cases h;simp only[aC]at hr;exact⟨hr,rfl⟩
 |v::l,L,r,hr,h=>by
  simp only[aC]at hr;obtain⟨V,L',e,h1,h2⟩:=hr;simp only[rz]at h;cases hb:GO v with
  |none=>rw[hb]at h;cases h
  |some b=>
   rw[hb]at h;cases hl:rz l with
   |none=>rw[hl]at h;cases h
   |some r'=>
    rw[hl]at h;cases h;obtain⟨e1,e2⟩:=Xq h2 hl;unfold GO at hb;cases hv:uD v with
    |none=>rw[hv]at hb;cases hb
    |some n=>
     rw[hv]at hb;cases hb;obtain⟨hn,eV⟩:=Sc h1 hv;refine⟨?_,by simp[e2]⟩;rw[e,e1,eV];simp only[List.map_cons];rw[u8 (by omega)]
noncomputable section
def ep (ts td:TI)(te:Option TI)(et:TypeId)(v:AV)(h:Tr ABlk) (nx:Nat):R:=
 match ts,td with
 |.mk ds _ _ _ _,.mk dd _ _ _ _=>match dd with
  |.int k=>match v with
   |.int _ n=>.val (.int k (k.wrap n)) h nx
   |_=>.fail
  |.string=>match v with
   |.bs b=>.val (.bs b) h nx
   |.sl0=>match ds,te with
    |.slice e,some (.mk (.int .u8) _ _ _ _)=>match Nat.beq e et with
     |true=>.val (.bs .empty) h nx
     |false=>.fail
    |_,_=>.fail
   |.sl i o l _ _=>match ds,te with
    |.slice e,some (.mk (.int .u8) _ _ _ _)=>match Nat.beq e et with
     |true=>match h.get i with
      |some (.cells _ n c _ _)=>match Nat.ble (Nat.add o l) n with
       |true=>match iI c l o with
        |some cs=>match rz cs with
         |some r=>.val (.bs ⟨r.toArray⟩) h nx
         |none=>.fail
        |none=>.fail
       |false=>.fail
      |_=>.fail
     |false=>.fail
    |_,_=>.fail
   |_=>.fail
  |.slice e=>match v with
   |.bs b=>match ds,te with
    |.string,some (.mk (.int .u8) _ _ _ _)=>match Nat.beq e et with
     |true=>.val (.sl nx 0 b.size 0 true) (h.put nx (some (.cells e b.size (ef (b.data.toList.map fun z=>.int .u8 (Int.ofNat z.toNat)) .nil 0) true 1))) (nx+1)
     |false=>.fail
    |_,_=>.fail
   |_=>.fail
  |_=>.fail
theorem zRu (ns:List Int):∀(s:ByteArray),(ns.foldl (fun r n=>r.push (UInt8.ofNat n.toNat)) s).data=s.data++(ns.map fun n=>UInt8.ofNat n.toNat).toArray:=by
 induction ns with
 |nil=>intro s;simp
 |cons z ns ih=>intro s;rw[List.foldl_cons,ih];simp[ByteArray.push]
theorem zU2 (hk:Ok G σ h nx w){s d:TypeId}{ts td:TI}(eG:cJ P s ts)(mO:cJ P d td){te:Option TI}{et:TypeId}(iG:∀ti,te=some ti→cJ P et ti){v:AV}{V:Value}(hv:av σ v V):
  RV P G σ h nx w (convert s d V) (ep ts td te et v h nx):=by
 cases ts with
 |mk ds s1 s2 s3 s4=>
 cases td with
 |mk dd d1 d2 d3 d4=>
 obtain⟨kR,As⟩:=eG;obtain⟨kQ,Ar⟩:=mO;clear As Ar;unfold ep;cases dd <;> try trivial
 ·rename_i k;cases v <;> try trivial
  rename_i k' n;simp only[av]at hv;subst hv;exact SV.pure hk (V:=.int k (k.wrap n)) (by simp[convert,run_underlying kR,run_underlying kQ,Conv.intToInt]) (by simp only[av])
 ·cases v <;> try trivial
  case bs b=>
   have bF:=hv;simp only[av]at hv;subst hv;exact SV.pure hk (V:=.string b) (by cases ds <;> simp[convert,run_underlying kR,run_underlying kQ]) bF
  ·simp only[av]at hv;subst hv;simp only;split
   ·rename_i e q1 q2 q3 q4;cases dG:Nat.beq e et with
    |false=>trivial
    |true=>
     have:=ad dG;subst this;obtain⟨nH,_⟩:=iG _ rfl;refine SV.pure hk (V:=.string .empty) ?_ (by simp only[av]);rw[run_convert_bytes_string w s d e none 0 0 kR nH kQ];simp[Conv.bytesToString]
   ·trivial
  ·rename_i i o l c opn;simp only[av]at hv;obtain⟨b,hb,e,gP⟩:=hv;subst e;clear gP;generalize (if opn=true then σ.cap i-c else c)=cc;simp only;split
   ·rename_i e q1 q2 q3 q4;cases dG:Nat.beq e et with
    |false=>trivial
    |true=>
     have:=ad dG;subst this;obtain⟨nH,_⟩:=iG _ rfl;simp only;split
     ·rename_i e' n c' bu esz hg;obtain⟨b',C,fr,aS,aF,aK,_,_⟩:=hk.cells hg;rw[hb]at aS;cases aS;cases hle:Nat.ble (Nat.add o l) n with
      |false=>trivial
      |true=>
       simp only;cases Fi:iI c' l o with
       |none=>trivial
       |some cs=>
        simp only;cases uc:rz cs with
        |none=>trivial
        |some r=>
         obtain⟨hlen,L,iR,kM,_⟩:=Bo (P:=P) aF aK (ah hle) Fi;obtain⟨hL,hr⟩:=Xq iR uc;refine SV.pure hk (V:=.string ⟨r.toArray⟩) ?_ (by simp only[av]);rw[run_convert_bytes_string w s d e _ _ _ kR nH kQ,run_bytesToString w _ l _ (r.map fun b=>Int.ofNat b.toNat) (by rw[kM,hL];simp)]
         congr 2
         apply ByteArray.ext;rw[zRu];have hid:(r.map fun b=>Int.ofNat b.toNat).map (fun n=>UInt8.ofNat n.toNat)=r:=by
          rw[List.map_map]
          conv=>rhs;rw[← List.map_id r]
          apply List.map_congr_left;intro b _;simp
         rw[hid];show #[]++r.toArray=r.toArray;simp
     ·trivial
   ·trivial
 ·rename_i e;cases v <;> try trivial
  rename_i b;simp only[av]at hv;subst hv;simp only;split
  ·rename_i q1 q2 q3 q4;cases dG:Nat.beq e et with
   |false=>trivial
   |true=>
    have:=ad dG;subst this;obtain⟨nH,_⟩:=iG _ rfl;have aO:=run_bytes_of_string (P:=P) w s d e b kR kQ nH;generalize eJ:grownCap w b.size 0 e=cap at aO;have lD:b.size≤cap:=eJ ▸ C8 w b.size 0 e;have T8:b.data.size=b.size:=rfl;have bI:(bytesRow b cap).size=cap:=by
     simp only[bytesRow,Array.size_append,Array.size_map,Array.size_replicate];omega
    have hd:=Post.drawn hk (w.drawn+1);have ha:=Post.alloc hd.ok cap (.cells e b.size (ef (b.data.toList.map fun z=>.int .u8 (Int.ofNat z.toNat)) .nil 0) true 1) (.cells (bytesRow b cap) e ((bytesRow b cap).size,(bytesRow b cap).size+1)) (by
     simp only[bX];refine⟨_,_,rfl,fun k aU=>?_,fun k aU=>by omega,?_⟩
     ·have ei:k<b.data.size:=by omega
      refine⟨.int .u8 (Int.ofNat (b.data[k]).toNat),.int .u8 (Int.ofNat (b.data[k]).toNat),?_,?_,by simp only[av]⟩
      ·rw[pz,if_pos (by simp;omega)];rw[Nat.sub_zero,List.getElem?_map,Array.getElem?_toList,Array.getElem?_eq_getElem ei];rfl
      ·rw[bytesRow,Array.getElem?_append_left (by simp;omega)];rw[Array.getElem?_map,Array.getElem?_eq_getElem ei];rfl
     ·rw[bI];simp[Sg.add];exact lD)
    refine⟨_,_,_,aO,?_,hd.trans ha⟩;simp only[av,if_true];refine⟨w.heap.size,by simp[Sg.add],by simp[Sg.add],by simp[Sg.add];exact lD⟩
  ·trivial
end
end Go.Ev
namespace Go.Ev
variable {P : Program} {G : Gl} {σ τ υ : Sg} {h g f : Tr ABlk} {nx ny nz : Nat} {w x y : World}
noncomputable section
def aG (l:List AV) (o:Nat)(c:List AV):List AV:=l.take o++(c++l.drop (Nat.add o c.length))
theorem XZ {l c:List AV}{o:Nat}(hle:o+c.length≤l.length) (k:Nat):(aG l o c)[k]?=if o≤k∧k<o+c.length then c[k-o]? else l[k]?:=by
 unfold aG;have ho:(l.take o).length=o:=by simp;omega
 by_cases h1:k<o
 ·rw[List.getElem?_append_left (by omega),List.getElem?_take_of_lt h1,if_neg (by omega)]
 ·rw[List.getElem?_append_right (by omega),ho]
  by_cases h2:k<o+c.length
  ·rw[List.getElem?_append_left (by omega),if_pos (by omega)]
  ·rw[List.getElem?_append_right (by omega),if_neg (by omega),List.getElem?_drop]
   congr 1
   show o+c.length+(k-o-c.length)=k;omega
theorem P9 {l c:List AV}{o:Nat}(hle:o+c.length≤l.length):(aG l o c).length=l.length:=by
 unfold aG;simp only[List.length_append,List.length_take,List.length_drop];show min o l.length+(c.length+(l.length-(o+c.length)))=_;omega
def rD (place:Nat→Option (Nat×Nat))(ps:List (Nat×AV)):List AV→Option (List AV):=
 List.rec (motive:=fun _=>List AV→Option (List AV)) (fun l=>some l) (fun p _ ih l=>match p with
  |(i,v)=>match place i with
   |some (o,s)=>match Nat.beq v.cells.length s with
    |true=>match Nat.ble (Nat.add o s) l.length with
     |true=>ih (aG l o v.cells)
     |false=>none
    |false=>none
   |none=>none) ps
theorem Rr (place:Nat→Option (Nat×Nat)) (i:Nat)(v:AV)(ps:List (Nat×AV))(l:List AV):rD place ((i,v)::ps) l=match place i with
   |some (o,s)=>match Nat.beq v.cells.length s with
    |true=>match Nat.ble (Nat.add o s) l.length with
     |true=>rD place ps (aG l o v.cells)
     |false=>none
    |false=>none
   |none=>none:=rfl
def rf (σ:Sg):List (Nat×AV)→List (Nat×Value)→Prop
 |[],L=>L=[]
 |(i,a)::l,L=>∃V L',L=(i,V)::L'∧av σ a V∧rf σ l L'
theorem X4 (off:Nat):∀(L:List Value) (j:Nat)(C:Array Value),(L.zipIdx j).foldl (fun cs (p:Value×Nat)=>cs.setIfInBounds (off+p.2) p.1) C=oH L C (off+j)
 |[],j,C=>rfl
 |v::L,j,C=>by
  rw[List.zipIdx_cons,List.foldl_cons,X4];rfl
theorem zSg (off:Nat)(vs C:Array Value):vs.zipIdx.foldl (fun cs (c,j)=>cs.setIfInBounds (off+j) c) C=oH vs.toList C off:=by
 rw[← Array.foldl_toList,Array.toList_zipIdx];exact X4 off vs.toList 0 C
theorem JI (place:Nat→Option (Nat×Nat)):∀(ps:List (Nat×AV))(PS:List (Nat×Value))(l:List AV)(C:Array Value)(l':List AV),rf σ ps PS→aC σ l C.toList→rD place ps l=some l'→
  ∃C',Instr.fill place C PS=some C'∧aC σ l' C'.toList
 |[],PS,l,C,l',hp,hl,hf=>by
  cases hf;simp only[rf]at hp;subst hp;exact⟨C,rfl,hl⟩
 |(i,v)::ps,PS,l,C,l',hp,hl,hf=>by
  simp only[rf]at hp;obtain⟨V,L',e,h1,h2⟩:=hp;subst e;rw[Rr]at hf;cases qi:place i with
  |none=>rw[qi]at hf;cases hf
  |some q=>
   obtain⟨o,s⟩:=q;rw[qi]at hf;simp only at hf;cases hb:Nat.beq v.cells.length s with
   |false=>rw[hb]at hf;cases hf
   |true=>
    rw[hb]at hf;simp only at hf;have hs:=ad hb;cases gZ:Nat.ble (Nat.add o s) l.length with
    |false=>rw[gZ]at hf;cases hf
    |true=>
     rw[gZ]at hf;simp only at hf;have hle:o+s≤l.length:=ah gZ;have hc:=h1.cells;have aX:V.cells.size=s:=by rw[← hs,← hc.length];simp
     have hCl:C.size=l.length:=by rw[← hl.length];simp
     have N0:aC σ (aG l o v.cells) (oH V.cells.toList C o).toList:=by
      refine aC.of_get (by rw[P9 (by omega)];simp[CW,hCl]) fun k a A e1 e2=>?_;rw[XZ (by omega)]at e1;rw[Array.getElem?_toList,Lg _ _ _ _ (by simp;omega)]at e2;have:V.cells.toList.length=v.cells.length:=hc.length;rw[this]at e2
      by_cases cB:o≤k∧k<o+v.cells.length
      ·rw[if_pos cB]at e1 e2;obtain⟨A',e3,e4⟩:=hc.get e1;rw[e2]at e3;cases e3;exact e4
      ·rw[if_neg cB]at e1 e2;obtain⟨A',e3,e4⟩:=hl.get e1;rw[Array.getElem?_toList]at e3;rw[e2]at e3;cases e3;exact e4
     obtain⟨C',e3,e4⟩:=JI place ps L' _ _ l' h2 N0 hf;refine⟨C',?_,e4⟩;rw[Instr.fill,qi];simp only;rw[if_neg (by simp[aX];omega),zSg];exact e3
theorem zPs {fields:Array Field}{fs:List (Nat×Nat×Bool)}(hlen:fs.length=fields.size)
  (hf:∀(k o s:Nat) (b:Bool),fs[k]?=some (o,s,b)→∃f:Field,fields[k]?=some f∧f.offset=o∧TF P f.type s b) (w:World):
  ∃pl:Array (Nat×Nat),(fields.mapM fun f=>do pure (f.offset,← sizeOf f.type):Sem (Array (Nat×Nat))).run P w=.ok pl w∧∀k:Nat,pl[k]?=(fs[k]?).map (fun (p:Nat×Nat×Bool)=>(p.1,p.2.1)):=by
 have key:∀(fl:List Field) (fs:List (Nat×Nat×Bool)),fs.length=fl.length→(∀(k o s:Nat) (b:Bool),fs[k]?=some (o,s,b)→∃f:Field,fl[k]?=some f∧f.offset=o∧TF P f.type s b)→
   (fl.mapM fun f=>do pure (f.offset,← sizeOf f.type):Sem (List (Nat×Nat))).run P w=.ok (fs.map fun p=>(p.1,p.2.1)) w:=by
  intro fl
  induction fl with
  |nil=>intro fs hl _;cases fs with |nil=>simp |cons _ _=>simp at hl
  |cons f0 fl ih=>
   intro fs hl hf;cases fs with
   |nil=>simp at hl
   |cons p fs=>
    obtain⟨o,s,b⟩:=p;obtain⟨f1,e1,e2,e3⟩:=hf 0 o s b rfl;simp at e1;subst e1;have:=ih fs (by simpa using hl) fun k o s b e=>by
     obtain⟨f2,e4,e5⟩:=hf (k+1) o s b (by simpa using e);exact⟨f2,by simpa using e4,e5⟩
    simp only[List.mapM_cons,Sem.run_bind,e3.size,Result.andThen,Sem.run_pure,this,e2,List.map_cons]
 have:=key fields.toList fs (by simpa using hlen) fun k o s b e=>by
  obtain⟨f2,e4,e5⟩:=hf k o s b e;exact⟨f2,by simpa using e4,e5⟩
 refine⟨(fs.map fun p=>(p.1,p.2.1)).toArray,?_,fun k=>by simp⟩;rw[Array.mapM_eq_mapM_toList,Sem.run_map,this];rfl
def tF (ti:TI)(ps:List (Nat×AV))(h:Tr ABlk) (nx:Nat):R:=
 match ti with
 |.mk d _ _ zero fs=>match zero with
  |none=>.fail
  |some z=>match d with
   |.struct _=>match rD (fun i=>match fs[i]? with |some (o,s,_)=>some (o,s) |none=>none) ps z.cells with
    |some l=>.val (.agg l) h nx
    |none=>.fail
   |.array _ _=>match fs with
    |[]=>.fail
    |(_,s,_)::_=>match rD (fun i=>some (Nat.mul i s,s)) ps z.cells with
     |some l=>.val (.agg l) h nx
     |none=>.fail
   |_=>.fail
theorem zRm (hk:Ok G σ h nx w)(t:TypeId){ti:TI}(ht:cJ P t ti){ps:List (Nat×AV)}{PS:Array (Nat×Value)}(hp:rf σ ps PS.toList):RV P G σ h nx w (Instr.build t PS) (tF ti ps h nx):=by
 cases ti with
 |mk d size bytes zero fs=>
 obtain⟨hu,inf,hi,hs,nB,eN,hf,gE,he⟩:=ht;unfold tF;cases zero with
 |none=>trivial
 |some z=>
  obtain⟨Z,hZ,jM,oZ⟩:=eN z rfl;cases d <;> try trivial
  ·rename_i len elem;cases fs with
   |nil=>trivial
   |cons p fs=>
   obtain⟨o0,s,b0⟩:=p;have dL:=he elem (.inr (.inl ⟨len,rfl⟩)) o0 s b0 rfl;simp only;cases gE:rD (fun i=>some (Nat.mul i s,s)) ps z.cells with
   |none=>trivial
   |some l=>
    obtain⟨C',e1,e2⟩:=JI _ ps PS.toList z.cells Z.cells l hp (jM σ).cells gE;refine SV.pure hk (V:=.agg C') ?_ (by simp only[av];exact⟨C'.toList,by simp,e2⟩);have jY:Instr.fill (fun i=>some (i * s,s)) Z.cells PS.toList=some C':=e1;simp[Instr.build,yP hi hZ,run_underlying hu,dL.size,jY]
  ·rename_i fields;simp only;cases M4:rD (fun i=>match fs[i]? with |some (o,s,_)=>some (o,s) |none=>none) ps z.cells with
   |none=>trivial
   |some l=>
    obtain⟨C',e1,e2⟩:=JI _ ps PS.toList z.cells Z.cells l hp (jM σ).cells M4;obtain⟨pl,e3,e4⟩:=zPs (gE fields rfl) (hf fields rfl) w;refine SV.pure hk (V:=.agg C') ?_ (by simp only[av];exact⟨C'.toList,by simp,e2⟩);have qi:(fun i:Nat=>(match fs[i]? with |some (o,s,_)=>some (o,s) |none=>none:Option (Nat×Nat)))=fun i=>pl[i]?:=by
     funext i
     rw[e4];cases fs[i]? <;> rfl
    rw[qi]at e1;simp only[Instr.build,Sem.run_bind,yP hi hZ,Result.andThen,run_underlying hu,e3,e1,Sem.run_pure]
def ko (z:List AV) (n:Nat):List AV:=Nat.rec (motive:=fun _=>List AV) [] (fun _ ih=>z++ih) n
theorem Gv (z:List AV):∀n,(ko z n).length=n * z.length
 |0=>by simp only[Nat.zero_mul];rfl
 |n+1=>by
  show (z++ko z n).length=_;rw[List.length_append,Gv,Nat.succ_mul];omega
theorem zyl (z:List AV):∀n k,k<n * z.length→(ko z n)[k]?=z[k % z.length]?
 |0,k,h=>by simp at h
 |n+1,k,h=>by
  show (z++ko z n)[k]?=_;rw[Nat.succ_mul]at h
  by_cases hk:k<z.length
  ·rw[List.getElem?_append_left hk,Nat.mod_eq_of_lt hk]
  ·rw[List.getElem?_append_right (by omega),zyl z n _ (by omega)]
   congr 1
   rw[Nat.mod_eq_sub_mod (a:=k) (by omega)]
theorem zzg {z:List AV}{Z:Array Value}(hz:aC σ z Z.toList) (n:Nat):aC σ (ko z n) ((Array.range (n * Z.size)).map (Z[· % Z.size]!)).toList:=by
 have wg:Z.size=z.length:=by rw[← hz.length];simp
 refine aC.of_get (by simp[Gv,wg]) fun k a A e1 e2=>?_;have hk:k<n * z.length:=by
  rcases Nat.lt_or_ge k (n * z.length) with h3 |h3
  ·exact h3
  ·rw[List.getElem?_eq_none (by rw[Gv];exact h3)]at e1;cases e1
 rw[zyl z n k hk]at e1;have cD:0<z.length:=by
  rcases Nat.eq_zero_or_pos z.length with h0 |h0
  ·rw[h0]at hk;omega
  ·exact h0
 obtain⟨A',e3,e4⟩:=hz.get e1;have hm:k % Z.size<Z.size:=Nat.mod_lt _ (by omega);have:A=A':=by
  have ei:k<n * Z.size:=by rw[wg];exact hk
  have e5:((Array.range (n * Z.size)).map (Z[· % Z.size]!)).toList[k]?=some (Z[k % Z.size]!):=by
   rw[Array.getElem?_toList];simp[ei]
  rw[e5]at e2;rw[← wg,Array.getElem?_toList,Array.getElem?_eq_getElem hm]at e3;rw[getElem!_pos Z (k % Z.size) hm]at e2;cases e3;cases e2;rfl
 subst this;exact e4
def Dg (ti:TI)(te:Option TI)(et:TypeId) (len:Nat)(ps:List (Nat×AV))(h:Tr ABlk) (nx:Nat):R:=
 match ti,te with
 |.mk d _ _ _ _,some (.mk _ s _ (some z) _)=>match d with
  |.slice e=>match Nat.beq e et with
   |true=>match Nat.ble (Nat.mul len s) 16777216 with
    |true=>match Nat.beq s 0 with
     |true=>.fail
     |false=>match rD (fun i=>some (Nat.mul i s,s)) ps (ko z.cells len) with
      |some l=>newK e l h nx fun i=>.sl i 0 len len false
      |none=>.fail
    |false=>.fail
   |false=>.fail
  |_=>.fail
 |_,_=>.fail
theorem Y8 (hk:Ok G σ h nx w)(t:TypeId){ti:TI}(ht:cJ P t ti){te:Option TI}{et:TypeId}(iG:∀ti,te=some ti→cJ P et ti) (len:Nat){ps:List (Nat×AV)}{PS:Array (Nat×Value)}(hp:rf σ ps PS.toList):
  RV P G σ h nx w (Instr.buildSlice t len PS) (Dg ti te et len ps h nx):=by
 cases ti with
 |mk d size bytes zero fs=>
 obtain⟨hu,jL⟩:=ht;clear jL;unfold Dg;split
 ·rename_i dd q1 q2 q3 q4 d2 s q5 z q6 e0;cases e0;obtain⟨nH,inf,hi,hs,nB,eN,hf,gE,he⟩:=iG _ rfl;obtain⟨Z,hZ,jM,oZ⟩:=eN z rfl;cases d <;> try trivial
  rename_i e;simp only;cases dG:Nat.beq e et with
  |false=>trivial
  |true=>
  have:=ad dG;subst this;simp only;cases zu:Nat.ble (Nat.mul len s) 16777216 with
  |false=>trivial
  |true=>
  have hle:len * s≤16777216:=ah zu;simp only;cases oX:Nat.beq s 0 with
  |true=>trivial
  |false=>
  have sL:=mX oX;simp only;cases gE:rD (fun i=>some (Nat.mul i s,s)) ps (ko z.cells len) with
  |none=>trivial
  |some l=>
   have hzc:Z.cells.size=s:=oZ;obtain⟨C',e1,e2⟩:=JI _ ps PS.toList _ ((Array.range (len * s)).map (Z.cells[· % Z.cells.size]!)) l hp (by rw[← hzc];exact zzg (jM σ).cells len) gE;have jY:Instr.fill (fun i=>some (i * s,s)) ((Array.range (len * s)).map (Z.cells[· % Z.cells.size]!)) PS.toList=some C':=e1;refine Jw hk e (L:=C'.toList) e2 (V:=.slice (some ⟨w.heap.size,0,none⟩) len len) ?_ ?_
   ·have hn:¬(len * s > 2 ^ 24):=by omega
    by_cases h0:len * s=0
    ·have l7:len=0:=by rcases Nat.mul_eq_zero.1 h0 with h1 |h1;exact h1;exact absurd h1 sL
     subst l7;simp only[Nat.zero_mul,Array.range_zero',Array.map_empty]at jY ⊢;simp[Instr.buildSlice,run_underlying hu,nN hi,hs,Array.range_zero',jY,newRow,newObj,Sem.run]
    ·simp[Instr.buildSlice,run_underlying hu,nN hi,hs,hn,h0,yP hi hZ,jY,newRow,newObj,Sem.run]
   ·simp only[av,Bool.false_eq_true,if_false];exact⟨w.heap.size,by simp[Sg.add],rfl,ae _⟩
 ·trivial
def Hc (ti:TI)(te:Option TI)(et:TypeId)(ln cp:AV)(h:Tr ABlk) (nx:Nat):R:=
 match ti,te with
 |.mk d _ _ _ _,some (.mk _ _ bytes (some z) _)=>match d with
  |.slice e=>match Nat.beq e et with
   |true=>match nK ln with
    |some l=>match nK cp with
     |some c=>match Nat.ble l c with
      |true=>match Nat.ble c 16777216 with
       |true=>match Nat.ble bytes 16777216 with
        |true=>fN l fun l=>fN c fun c=>newK e (ko z.cells c) h nx fun i=>.sl i 0 l c false
        |false=>.fail
       |false=>.fail
      |false=>.fail
     |none=>.fail
    |none=>.fail
   |false=>.fail
  |_=>.fail
 |_,_=>.fail
theorem zNr (hk:Ok G σ h nx w)(t:TypeId){ti:TI}(ht:cJ P t ti){te:Option TI}{et:TypeId}(iG:∀ti,te=some ti→cJ P et ti){ln cp:AV}{LN CP:Value}(hl:av σ ln LN)(hc:av σ cp CP):
  RV P G σ h nx w (Instr.makeSlice t LN CP) (Hc ti te et ln cp h nx):=by
 cases ti with
 |mk d size bytes zero fs=>
 obtain⟨hu,jL⟩:=ht;clear jL;unfold Hc;split
 ·rename_i dd q1 q2 q3 q4 d2 s Lv z q6 e0;cases e0;obtain⟨nH,inf,hi,hs,nB,eN,hf,gE,he⟩:=iG _ rfl;obtain⟨Z,hZ,jM,oZ⟩:=eN z rfl;cases d <;> try trivial
  rename_i e;simp only;cases dG:Nat.beq e et with
  |false=>trivial
  |true=>
  have:=ad dG;subst this;simp only;cases qe:nK ln with
  |none=>trivial
  |some l=>
  cases xM:nK cp with
  |none=>trivial
  |some c=>
  simp only;cases xL:Nat.ble l c with
  |false=>trivial
  |true=>
  cases gZ:Nat.ble c 16777216 with
  |false=>trivial
  |true=>
  cases od:Nat.ble Lv 16777216 with
  |false=>trivial
  |true=>
  simp only[fN_eq];obtain⟨k1,e1⟩:=Bi hl qe;obtain⟨k2,e2⟩:=Bi hc xM;subst e1;subst e2;have n1:=ah xL;have n2:=ah gZ;have n3:=ah od;have aO:=run_make (P:=P) w t e inf Z hu hi hZ k1 k2 (l:Int) (c:Int) (by omega) (by omega) (by
   rw[nB];have:Lv * c≤16777216 * 16777216:=Nat.mul_le_mul n3 n2;have h2:((Lv * c:Nat):Int)≤281474976710656:=by omega
   simpa using h2) (by omega)
  refine Jw hk e (zzg (jM σ).cells c) (V:=.slice (some ⟨w.heap.size,0,none⟩) l c) ?_ ?_
  ·rw[aO];have bI:Z.cells.size=inf.size:=by rw[oZ,hs]
   simp only[madeCells,Int.toNat_natCast,bI,Array.toArray_toList];rfl
  ·simp only[av,Bool.false_eq_true,if_false];exact⟨w.heap.size,by simp[Sg.add],rfl,n1⟩
 ·trivial
theorem SF {l n k m:Nat}(h1:n<256 ^ l)(h2:m<256 ^ k):(bE l n == bE k m)=xc l n k m:=by
 rw[← zyv h1 h2,ByteArray.toList_eq,ByteArray.toList_eq];show ((bE l n).data == (bE k m).data)=_;rw[Bool.eq_iff_iff];constructor
 ·intro e;have:=eq_of_beq e;rw[this];exact beq_self_eq_true _
 ·intro e;have e2:=eq_of_beq e;rw[Array.toList_inj.1 e2];exact beq_self_eq_true _
theorem PM (a b:ByteArray):(a == b)=decide (a=b):=by
 show (a.data == b.data)=_
 by_cases h:a=b
 ·subst h;simp
 ·have:¬a.data=b.data:=fun e=>h (ByteArray.ext e);simp[h,this]
def uE (a b:IntKind):Bool:=Nat.beq a.ctorIdx b.ctorIdx
theorem K4 {a b:IntKind}(e:uE a b=true):a=b:=by
 cases a <;> cases b <;> first |rfl |(exact absurd e (by decide))
def lR (d:TypeDesc)(x y:AV):Option Bool:=
 match d with
 |.int _=>match x,y with
  |.int k a,.int k' b=>match uE k k' with
   |true=>some (qR a b)
   |false=>none
  |_,_=>none
 |.string=>match x,y with
  |.str l n,.str k m=>some (xc l n k m)
  |.bs a,.bs b=>some (decide (a=b))
  |_,_=>none
 |.bool=>match x,y with
  |.bool a,.bool b=>some (match a with |true=>b |false=>!b)
  |_,_=>none
 |_=>none
theorem Yo {d:TypeDesc}{x y:AV}{X Y:Value}{b:Bool}(hx:av σ x X)(hy:av σ y Y)(he:lR d x y=some b):
  Instr.sameNow d X Y=some b∧∀(n:Nat) (t:TypeId) (w:World),P.underlying t=some d→(Op.equalIn (n+1) t X Y).run P w=.ok b w:=by
 unfold lR at he;cases d <;> try (cases he;done)
 ·cases x <;> cases y <;> try (cases he;done)
  rename_i a c;simp only[av]at hx hy;subst hx;subst hy;cases he;refine⟨?_,fun n t w hu=>?_⟩
  ·cases a <;> cases c <;> rfl
  ·simp[Op.equalIn,run_underlying hu];cases a <;> cases c <;> rfl
 ·cases x <;> cases y <;> try (cases he;done)
  rename_i k a k' c;simp only at he;cases hk:uE k k' with
  |false=>rw[hk]at he;cases he
  |true=>
   rw[hk]at he;cases he;have:=K4 hk;subst this;simp only[av]at hx hy;subst hx;subst hy;refine⟨by simp[Instr.sameNow,rC],fun n t w hu=>?_⟩;simp[Op.equalIn,run_underlying hu,rC]
 ·cases x <;> cases y <;> try (cases he;done)
  ·cases he;simp only[av]at hx hy;obtain⟨h1,e1⟩:=hx;obtain⟨h2,e2⟩:=hy;subst e1;subst e2;refine⟨by simp only[Instr.sameNow];rw[SF h1 h2],fun n t w hu=>?_⟩;simp[Op.equalIn,run_underlying hu,SF h1 h2]
  ·rename_i a c;cases he;simp only[av]at hx hy;subst hx;subst hy;refine⟨by simp only[Instr.sameNow];rw[PM],fun n t w hu=>?_⟩;simp[Op.equalIn,run_underlying hu,PM]
def Q3 (ks:List (Nat×TypeDesc))(xs ys:List AV):Option Bool:=
 List.rec (motive:=fun _=>Option Bool) (some true) (fun p _ ih=>match p with
  |(o,d)=>match xs[o]?,ys[o]? with
   |some a,some b=>match lR d a b with
    |some true=>ih
    |some false=>match ih with
     |some _=>some false
     |none=>none
    |none=>none
   |_,_=>none) ks
def Ji (P:Program)(t:TypeId):Option (List (Nat×TypeDesc))→Prop
 |none=>True
 |some ks=>P.eqGuardType P.depth t=false∧∀(σ:Sg) (xs ys:List AV) (XS YS:List Value) (b:Bool),aC σ xs XS→aC σ ys YS→Q3 ks xs ys=some b→
   ∀w,(Op.equal t (.agg XS.toArray) (.agg YS.toArray)).run P w=.ok b w
def zc (ti:TI)(eqs:Option (List (Nat×TypeDesc)))(c:Bool)(x y:AV):Option Bool:=
 match ti with
 |.mk d _ _ _ fs=>match d with
  |.pointer _=>match x,y with
   |.ptr0,.ptr0=>some true
   |.ptr0,.ptr _ _=>some false
   |.ptr _ _,.ptr0=>some false
   |.ip _,.ptr0=>some false
   |.ptr0,.ip _=>some false
   |.ptr i o,.ptr j p=>match Nat.beq i j with
    |true=>match fs with
     |(_,s,_)::_=>match Nat.beq s 0 with
      |true=>none
      |false=>some (Nat.beq o p)
     |[]=>none
    |false=>none
   |_,_=>none
  |.slice _=>match x,y with
   |.sl0,.sl0=>some true
   |.sl0,.sl _ _ _ _ _=>some false
   |.sl _ _ _ _ _,.sl0=>some false
   |.fz _ _ (_::_),.sl0=>some false
   |_,_=>none
  |.map _ _=>match x,y with
   |.map0,.map0=>some true
   |.map0,.map _=>some false
   |.map _,.map0=>some false
   |_,_=>none
  |.func _ _ _=>match x,y with
   |.nilFunc,.nilFunc=>some true
   |.nilFunc,.func _ _ _=>some false
   |.func _ _ _,.nilFunc=>some false
   |_,_=>none
  |.interface _=>match x,y with
   |.nilIface,.nilIface=>match c with
    |true=>some true
    |false=>none
   |.nilIface,.iface _ _=>some false
   |.iface _ _,.nilIface=>some false
   |.iface t _,.iface u _=>match Nat.beq t u with
    |true=>none
    |false=>some false
   |_,_=>none
  |.struct _=>match x,y with
   |.agg xs,.agg ys=>match eqs with
    |some ks=>Q3 ks xs ys
    |none=>none
   |_,_=>none
  |.array _ _=>match x,y with
   |.agg xs,.agg ys=>match eqs with
    |some ks=>Q3 ks xs ys
    |none=>none
   |_,_=>none
  |d=>lR d x y
def nP:Operand→Bool
 |.const _=>true
 |_=>false
theorem kz {t:TypeId}{xo yo:Operand}{X Y:Value}{b:Bool}(hg:∀op,(eqGuard op t xo yo X Y).run P w=.ok () w)
  (dG:binOp .eql t X Y=(do pure (.bool (← Op.equal t X Y)))) (EP:binOp .neq t X Y=(do pure (.bool (!(← Op.equal t X Y))))) (he:∀n,(Op.equalIn (n+1) t X Y).run P w=.ok b w):
  (do eqGuard .eql t xo yo X Y;binOp .eql t X Y:Sem Value).run P w=.ok (.bool b) w∧(do eqGuard .neq t xo yo X Y;binOp .neq t X Y:Sem Value).run P w=.ok (.bool !b) w:=by
 have E8:(Op.equal t X Y).run P w=.ok b w:=he 9999;rw[Sem.run_bind,Sem.run_bind,hg,hg,dG,EP];simp only[Result.andThen,Sem.run_bind,E8,Sem.run_pure];exact⟨trivial,trivial⟩
theorem zyq (t:TypeId){ti:TI}(ht:cJ P t ti){eqs:Option (List (Nat×TypeDesc))}(hq:Ji P t eqs){x y:AV}{X Y:Value}(hx:av σ x X)(hy:av σ y Y)(xo yo:Operand){b:Bool}
  (he:zc ti eqs (nP xo || nP yo) x y=some b) (kO:∀k n,x≠.int k n) (ot:∀l n,x≠.str l n) (Ae:∀b,x≠.bs b) (w:World):
  (do eqGuard .eql t xo yo X Y;binOp .eql t X Y:Sem Value).run P w=.ok (.bool b) w∧(do eqGuard .neq t xo yo X Y;binOp .neq t X Y:Sem Value).run P w=.ok (.bool !b) w:=by
 cases ti with
 |mk d size bytes zero fs=>
 obtain⟨hu,inf,hi,hs,nB,eN,hf,gE,mG⟩:=ht;unfold zc at he;simp only at he;cases d <;> try (cases he;done)
 ·
  obtain⟨_,h2⟩:=Yo (P:=P) hx hy he;cases x <;> cases y <;> try (cases he;done)
  simp only[av]at hx hy;subst hx;subst hy;exact kz (fun op=>by cases op <;> simp[eqGuard]) rfl rfl (fun n=>h2 n t w hu)
 ·cases x <;> cases y <;> try (cases he;done)
  exact absurd rfl (kO _ _)
 ·cases x <;> cases y <;> try (cases he;done)
  ·exact absurd rfl (ot _ _)
  ·exact absurd rfl (Ae _)
 ·
  rename_i elem;cases x <;> cases y <;> try (cases he;done)
  case ptr0.ip cs=>
   cases he;simp only[av]at hx hy;obtain⟨b1,_,_,_,e1,_⟩:=hy;subst hx;subst e1;exact kz (fun op=>by cases op <;> simp[eqGuard]) rfl rfl (fun n=>by simp[Op.equalIn,run_underlying hu])
  case ip.ptr0 cs=>
   cases he;simp only[av]at hx hy;obtain⟨b1,_,_,_,e1,_⟩:=hx;subst hy;subst e1;exact kz (fun op=>by cases op <;> simp[eqGuard]) rfl rfl (fun n=>by simp[Op.equalIn,run_underlying hu])
  ·cases he;simp only[av]at hx hy;subst hx;subst hy;exact kz (fun op=>by cases op <;> simp[eqGuard]) rfl rfl (fun n=>by simp[Op.equalIn,run_underlying hu])
  ·cases he;simp only[av]at hx hy;obtain⟨b1,_,e1⟩:=hy;subst hx;subst e1;exact kz (fun op=>by cases op <;> simp[eqGuard]) rfl rfl (fun n=>by simp[Op.equalIn,run_underlying hu])
  ·cases he;simp only[av]at hx hy;obtain⟨b1,_,e1⟩:=hx;subst hy;subst e1;exact kz (fun op=>by cases op <;> simp[eqGuard]) rfl rfl (fun n=>by simp[Op.equalIn,run_underlying hu])
  ·rename_i i o j p;simp only at he;cases nE:Nat.beq i j with
   |false=>rw[nE]at he;cases he
   |true=>
    have:=ad nE;subst this;rw[nE]at he;cases fs with
    |nil=>cases he
    |cons q fs=>
     obtain⟨o0,s,b0⟩:=q;have dL:=mG elem (.inr (.inr rfl)) o0 s b0 rfl;simp only at he;cases oX:Nat.beq s 0 with
     |true=>rw[oX]at he;cases he
     |false=>
      rw[oX]at he;cases he;have sL:=mX oX;simp only[av]at hx hy;obtain⟨b1,xL,e1⟩:=hx;obtain⟨b2,gZ,e2⟩:=hy;rw[xL]at gZ;cases gZ;subst e1;subst e2;have hpp:((⟨b1,o,none⟩:Addr) == ⟨b1,p,none⟩)=Nat.beq o p:=by
       cases eF:Nat.beq o p with
       |true=>rw[ad eF];simp
       |false=>
        apply beq_eq_false_iff_ne.2;intro e;exact mX eF (congrArg Addr.off e)
      exact kz (fun op=>by cases op <;> simp[eqGuard]) rfl rfl (fun n=>by simp[Op.equalIn,run_underlying hu,dL.size,sL,sameAddr,hpp])
 ·
  cases x <;> try (cases y <;> cases he;done)
  case fz es full xs=>
   cases xs with
   |nil=>cases y <;> cases he
   |cons z xs=>
    cases y <;> try (cases he;done)
    cases he;simp only[av]at hx hy;obtain⟨a,cap,e,g1,g2,g4,g3⟩:=hx;obtain⟨b1,o1,_,_,e1,_⟩:=g3 (by simp);subst hy;subst e;subst e1;exact kz (fun op=>by cases op <;> simp[eqGuard]) rfl rfl (fun n=>by simp[Op.equalIn,run_underlying hu])
  all_goals cases y <;> try (cases he;done)
  ·cases he;simp only[av]at hx hy;subst hx;subst hy;exact kz (fun op=>by cases op <;> simp[eqGuard]) rfl rfl (fun n=>by simp[Op.equalIn,run_underlying hu])
  ·cases he;simp only[av]at hx hy;obtain⟨b1,_,e1,_⟩:=hy;subst hx;subst e1;exact kz (fun op=>by cases op <;> simp[eqGuard]) rfl rfl (fun n=>by simp[Op.equalIn,run_underlying hu])
  ·cases he;simp only[av]at hx hy;obtain⟨b1,_,e1,_⟩:=hx;subst hy;subst e1;exact kz (fun op=>by cases op <;> simp[eqGuard]) rfl rfl (fun n=>by simp[Op.equalIn,run_underlying hu])
 ·
  rename_i len elem;cases x <;> cases y <;> try (cases he;done)
  rename_i xs ys;cases eqs with
  |none=>cases he
  |some ks=>
   simp only at he;obtain⟨q1,q2⟩:=hq;simp only[av]at hx hy;obtain⟨XS,e1,r1⟩:=hx;obtain⟨YS,e2,r2⟩:=hy;subst e1;subst e2;have q3:=q2 σ xs ys XS YS b r1 r2 he w;have hg:∀op,(eqGuard op t xo yo (.agg XS.toArray) (.agg YS.toArray)).run P w=.ok () w:=fun op=>by cases op <;> simp[eqGuard,q1]
   have dG:binOp .eql t (.agg XS.toArray) (.agg YS.toArray)=(do pure (.bool (← Op.equal t (.agg XS.toArray) (.agg YS.toArray)))):=rfl;have EP:binOp .neq t (.agg XS.toArray) (.agg YS.toArray)=(do pure (.bool (!(← Op.equal t (.agg XS.toArray) (.agg YS.toArray))))):=rfl;rw[Sem.run_bind,Sem.run_bind,hg,hg,dG,EP];simp only[Result.andThen,Sem.run_bind,q3,Sem.run_pure];exact⟨trivial,trivial⟩
 ·
  cases x <;> cases y <;> try (cases he;done)
  ·cases he;simp only[av]at hx hy;subst hx;subst hy;exact kz (fun op=>by cases op <;> simp[eqGuard]) rfl rfl (fun n=>by simp[Op.equalIn,run_underlying hu])
  ·cases he;simp only[av]at hx hy;obtain⟨b1,_,e1⟩:=hy;subst hx;subst e1;exact kz (fun op=>by cases op <;> simp[eqGuard]) rfl rfl (fun n=>by simp[Op.equalIn,run_underlying hu])
  ·cases he;simp only[av]at hx hy;obtain⟨b1,_,e1⟩:=hx;subst hy;subst e1;exact kz (fun op=>by cases op <;> simp[eqGuard]) rfl rfl (fun n=>by simp[Op.equalIn,run_underlying hu])
 ·
  rename_i fields;cases x <;> cases y <;> try (cases he;done)
  rename_i xs ys;cases eqs with
  |none=>cases he
  |some ks=>
   simp only at he;obtain⟨q1,q2⟩:=hq;simp only[av]at hx hy;obtain⟨XS,e1,r1⟩:=hx;obtain⟨YS,e2,r2⟩:=hy;subst e1;subst e2;have q3:=q2 σ xs ys XS YS b r1 r2 he w;have hg:∀op,(eqGuard op t xo yo (.agg XS.toArray) (.agg YS.toArray)).run P w=.ok () w:=fun op=>by cases op <;> simp[eqGuard,q1]
   have dG:binOp .eql t (.agg XS.toArray) (.agg YS.toArray)=(do pure (.bool (← Op.equal t (.agg XS.toArray) (.agg YS.toArray)))):=rfl;have EP:binOp .neq t (.agg XS.toArray) (.agg YS.toArray)=(do pure (.bool (!(← Op.equal t (.agg XS.toArray) (.agg YS.toArray))))):=rfl;rw[Sem.run_bind,Sem.run_bind,hg,hg,dG,EP];simp only[Result.andThen,Sem.run_bind,q3,Sem.run_pure];exact⟨trivial,trivial⟩
 ·
  cases x <;> cases y <;> try (cases he;done)
  ·cases he;simp only[av]at hx hy;obtain⟨A,C,e1,_⟩:=hx;subst hy;subst e1;exact kz (fun op=>by cases op <;> simp[eqGuard]) rfl rfl (fun n=>by simp[Op.equalIn,run_underlying hu])
  ·cases he;simp only[av]at hx hy;obtain⟨A,C,e1,_⟩:=hy;subst hx;subst e1;exact kz (fun op=>by cases op <;> simp[eqGuard]) rfl rfl (fun n=>by simp[Op.equalIn,run_underlying hu])
  ·cases he;simp only[av]at hx hy;subst hx;subst hy;exact kz (fun op=>by cases op <;> simp[eqGuard]) rfl rfl (fun n=>by simp[Op.equalIn,run_underlying hu])
 ·
  cases x <;> cases y <;> try (cases he;done)
  ·rename_i t1 v1 t2 v2;simp only at he;cases FY:Nat.beq t1 t2 with
   |true=>rw[FY]at he;cases he
   |false=>
    rw[FY]at he;cases he;have aQ:=mX FY;simp only[av]at hx hy;obtain⟨V1,e1,_⟩:=hx;obtain⟨V2,e2,_⟩:=hy;subst e1;subst e2;exact kz (fun op=>by cases op <;> simp[eqGuard]) rfl rfl (fun n=>by simp[Op.equalIn,run_underlying hu,aQ])
  ·cases he;simp only[av]at hx hy;obtain⟨V1,e1,_⟩:=hx;subst hy;subst e1;exact kz (fun op=>by cases op <;> simp[eqGuard]) rfl rfl (fun n=>by simp[Op.equalIn,run_underlying hu])
  ·cases he;simp only[av]at hx hy;obtain⟨V1,e1,_⟩:=hy;subst hx;subst e1;exact kz (fun op=>by cases op <;> simp[eqGuard]) rfl rfl (fun n=>by simp[Op.equalIn,run_underlying hu])
  ·simp only at he;cases hc:(nP xo || nP yo) with
   |false=>rw[hc]at he;cases he
   |true=>
    rw[hc]at he;cases he;simp only[av]at hx hy;subst hx;subst hy;have hg:∀op,(eqGuard op t xo yo .nilIface .nilIface).run P w=.ok () w:=by
     intro op;cases op <;> first |rfl |(cases xo <;> cases yo <;> first |rfl |(exact absurd hc (by simp[nP])))
    exact kz hg rfl rfl (fun n=>by simp[Op.equalIn,run_underlying hu])
end
end Go.Ev
