/- Texts Sim Sim2. -/
import Derived.Attr
import Derived.IntWalk
import Derived.Test.YtjngkeajenankaaGreatDoorP08
set_option linter.unusedSimpArgs false
set_option linter.unusedVariables false
set_option maxRecDepth 100000
namespace Go.Ev
noncomputable section
theorem nble (a b:Nat):Nat.ble a b=decide (a≤b):=by
 cases e:Nat.ble a b with
 |true=>simp[Nat.le_of_ble_eq_true e]
 |false=>
  simp
  rcases Nat.lt_or_ge b a with h |h
  ·exact h
  ·rw[Nat.ble_eq_true_of_le h]at e;cases e
theorem nbeq (a b:Nat):Nat.beq a b=decide (a=b):=by
 cases e:Nat.beq a b with
 |true=>simp[Nat.eq_of_beq_eq_true e]
 |false=>simp[beq_false e]
theorem vBool_eq (b:Bool)(h:Tr ABlk) (nx:Nat):vBool b h nx=.val (.bool b) h nx:=by cases b <;> rfl
theorem vInt_eq (n:Nat)(h:Tr ABlk) (nx:Nat):vInt n h nx=.val (.int .i64 (n:Int)) h nx:=by simp[vInt,fN_eq]
theorem newK_eq (t:TypeId)(l:List AV)(h:Tr ABlk) (nx:Nat)(mk:Nat→AV):newK t l h nx mk=.val (mk nx) (h.put nx (some (bx t l false 0))) (nx+1):=by
 simp[newK,putNK_eq,fN_eq,Tr.putK_eq,bx]
theorem getN_putN (l:List AV) (n o:Nat)(h:o+n≤l.length):getN (putN l .nil 0) n o=some ((l.drop o).take n):=by
 refine getN_of (by simp;omega) fun k hk=>?_
 rw[get_putN,if_pos (by omega),Nat.sub_zero,List.getElem?_take,if_pos hk,List.getElem?_drop]
theorem evInt_add (k:IntKind) (a b:Int)(h:Tr ABlk) (nx:Nat):evInt .add k a b h nx=.val (.int k (k.wrap (a+b))) h nx:=by simp[evInt,fI_eq,wrapF_eq]
theorem evInt_sub (k:IntKind) (a b:Int)(h:Tr ABlk) (nx:Nat):evInt .sub k a b h nx=.val (.int k (k.wrap (a-b))) h nx:=by simp only[evInt,fI_eq,wrapF_eq];rfl
theorem evInt_mul (k:IntKind) (a b:Int)(h:Tr ABlk) (nx:Nat):evInt .mul k a b h nx=.val (.int k (k.wrap (a * b))) h nx:=by simp[evInt,fI_eq,wrapF_eq]
theorem evInt_eql (k:IntKind) (a b:Int)(h:Tr ABlk) (nx:Nat):evInt .eql k a b h nx=.val (.bool (decide (a=b))) h nx:=by
 simp only[evInt,ieq_eq]
 cases e:(a == b) <;> simp_all
theorem evInt_neq (k:IntKind) (a b:Int)(h:Tr ABlk) (nx:Nat):evInt .neq k a b h nx=.val (.bool (!decide (a=b))) h nx:=by
 simp only[evInt,ieq_eq]
 cases e:(a == b) <;> simp_all
theorem evInt_lss (k:IntKind) (a b:Int)(h:Tr ABlk) (nx:Nat):evInt .lss k a b h nx=.val (.bool (decide (a<b))) h nx:=by
 simp only[evInt,ilt_eq]
 by_cases e:a<b <;> simp[e]
theorem evInt_leq (k:IntKind) (a b:Int)(h:Tr ABlk) (nx:Nat):evInt .leq k a b h nx=.val (.bool (decide (a≤b))) h nx:=by
 simp only[evInt,ilt_eq]
 by_cases e:a≤b
 ·simp[e,show ¬b<a by omega]
 ·simp[e,show b<a by omega]
theorem evInt_gtr (k:IntKind) (a b:Int)(h:Tr ABlk) (nx:Nat):evInt .gtr k a b h nx=.val (.bool (decide (b<a))) h nx:=by
 simp only[evInt,ilt_eq]
 by_cases e:b<a <;> simp[e]
theorem evInt_geq (k:IntKind) (a b:Int)(h:Tr ABlk) (nx:Nat):evInt .geq k a b h nx=.val (.bool (decide (b≤a))) h nx:=by
 simp only[evInt,ilt_eq]
 by_cases e:b≤a
 ·simp[e,show ¬a<b by omega]
 ·simp[e,show a<b by omega]
theorem evMM_max (k k':IntKind) (a b:Int)(h:Tr ABlk) (nx:Nat):evMM true [.int k a,.int k' b] h nx=.val (.int k (max a b)) h nx:=by
 simp only[evMM,ilt_eq]
 by_cases e:a<b
 ·simp[e,Int.max_eq_right (Int.le_of_lt e)]
 ·simp[e,Int.max_eq_left (show b≤a by omega)]
theorem evMM_min (k k':IntKind) (a b:Int)(h:Tr ABlk) (nx:Nat):evMM false [.int k a,.int k' b] h nx=.val (.int k (min a b)) h nx:=by
 simp only[evMM,ilt_eq]
 by_cases e:b<a
 ·simp[e,Int.min_eq_right (Int.le_of_lt e)]
 ·simp[e,Int.min_eq_left (show a≤b by omega)]
theorem ikeq_refl (k:IntKind):ikeq k k=true:=by cases k <;> rfl
theorem idx_nat (k:IntKind) (n:Nat):idx (.int k (n:Int))=some n:=rfl
theorem evUn_not (b:Bool)(h:Tr ABlk) (nx:Nat):evUn .not (.bool b) h nx=.val (.bool (!b)) h nx:=by cases b <;> rfl
section walk
variable {P : Program} {c : Cx} {inr : Bool} {sz : Nat} {Q : AX → AS → Prop} {s : AS}
attribute [go_sem ↓] Nat.lt_irrefl
def condP (v:Option AV)(A B:AS→Prop)(s:AS):Prop:=match v with
 |some (.bool t)=>(t=true→A s)∧(t=false→B s)
 |_=>False
def goOn (sz:Nat)(d:Option Tmp)(tm:Tr AV)(ds:List DE)(K:AS→Prop)(v:AV)(h:Tr ABlk) (nx:Nat):Prop:=putS sz d v (.mk tm h nx ds) K
@[go_sem ↓] theorem aw_skip:aw P c inr sz .skip Q s=Q .norm s:=rfl
@[go_sem ↓] theorem aw_label (l:Nat):aw P c inr sz (.label l) Q s=Q .norm s:=rfl
@[go_sem ↓] theorem aw_region (id:Nat)(l:List Oper):aw P c inr sz (.region id l.toArray false) Q s=awO P c sz l (Q .norm) l s:=rfl
@[go_sem ↓] theorem aw_draw (id:Nat)(l:List Oper):aw P c inr sz (.region id l.toArray true) Q s=AW P c inr sz (.region id l.toArray true) Q s:=rfl
@[go_sem ↓] theorem aw_seq (a b:Code):aw P c inr sz (.seq a b) Q s=aw P c inr sz a (thenA (aw P c inr sz b Q) Q) s:=rfl
@[go_sem ↓] theorem aw_cond (x:Operand)(a b:Code):aw P c inr sz (.cond x a b) Q s=condP (evO c.G s.tm x) (aw P c inr sz a Q) (aw P c inr sz b Q) s:=by
 unfold aw condP
 rfl
@[go_sem ↓] theorem aw_block (id:Nat)(a:Code):aw P c inr sz (.block id a) Q s=aw P c inr sz a (inBlockA id Q) s:=rfl
@[go_sem ↓] theorem aw_scope (a:Code):aw P c inr sz (.scope a) Q s=aw P c inr sz a Q s:=rfl
@[go_sem ↓] theorem aw_exit (id:Nat):aw P c inr sz (.exit id) Q s=Q (.exit id) s:=rfl
@[go_sem ↓] theorem aw_ret:aw P c inr sz .ret Q s=Q .ret s:=rfl
@[go_sem ↓] theorem aw_loop (a:Code):aw P c inr sz (.loop a) Q s=AW P c inr sz (.loop a) Q s:=rfl
@[go_sem ↓] theorem aw_range (f:Operand)(ps:Array Tmp)(x y:Code):aw P c inr sz (.rangeFunc f ps x y) Q s=AW P c inr sz (.rangeFunc f ps x y) Q s:=rfl
@[go_sem] theorem condP_true (A B:AS→Prop):condP (some (.bool true)) A B s=A s:=by simp[condP]
@[go_sem] theorem condP_false (A B:AS→Prop):condP (some (.bool false)) A B s=B s:=by simp[condP]
@[go_sem ↓] theorem thenA_norm (K:AS→Prop):thenA K Q .norm s=K s:=rfl
@[go_sem ↓] theorem thenA_exit (K:AS→Prop) (id:Nat):thenA K Q (.exit id) s=Q (.exit id) s:=rfl
@[go_sem ↓] theorem thenA_ret (K:AS→Prop):thenA K Q .ret s=Q .ret s:=rfl
@[go_sem ↓] theorem inBlock_norm (id:Nat):inBlockA id Q .norm s=Q .norm s:=rfl
@[go_sem ↓] theorem inBlock_exit (id id':Nat):inBlockA id Q (.exit id') s=if id'=id then Q .norm s else Q (.exit id') s:=rfl
@[go_sem ↓] theorem inBlock_ret (id:Nat):inBlockA id Q .ret s=Q .ret s:=rfl
@[go_sem ↓] theorem awO_nil (ops:List Oper)(K:AS→Prop):awO P c sz ops K [] s=K s:=rfl
@[go_sem ↓] theorem awO_cons (ops:List Oper)(K:AS→Prop)(o:Oper)(l:List Oper):awO P c sz ops K (o::l) s=awS P c sz ops o (awO P c sz ops K l) s:=rfl
section ops
variable (ops : List Oper) (K : AS → Prop) (dst : Option Tmp) (ty : TypeId) (pos : String) (aft : Array Edge) (tm : Tr AV) (h : Tr ABlk) (nx : Nat) (ds : List DE)
@[go_sem ↓] theorem awS_call (f:Operand)(args:List Operand)(ats:Array TypeId):awS P c sz ops ⟨dst,.call ⟨.value f,args.toArray,ats⟩,ty,pos,aft,none⟩ K (.mk tm h nx ds)=callP P c sz dst tm h nx ds K (evO c.G tm f) (evOs c.G tm args):=by
 simp[awS,opW,wantA,callOf,invOf]
@[go_sem ↓] theorem awS_builtin (b:Builtin)(args ats:List _)(hb:b≠.append):awS P c sz ops ⟨dst,.call ⟨.builtin b,List.toArray args,List.toArray ats⟩,ty,pos,aft,none⟩ K (.mk tm h nx ds)=afterP sz dst tm ds K (bR (evOs c.G tm args) fun l=>bOf c b (List.toArray ats) l h nx):=by
 have:isAppend ⟨.builtin b,List.toArray args,List.toArray ats⟩=false:=by cases b <;> first |rfl |exact absurd rfl hb
 simp[awS,opW,wantA,callOf,invOf,evPlainS,this,pCall,pBuiltin]
@[go_sem ↓] theorem awS_append (args:List Operand)(ats:List TypeId):awS P c sz ops ⟨dst,.call ⟨.builtin .append,args.toArray,ats.toArray⟩,ty,pos,aft,none⟩ K (.mk tm h nx ds)=afterP sz dst tm ds K (pAppendS c ats args tm h nx):=by
 simp[awS,opW,wantA,callOf,invOf,evPlainS,isAppend]
@[go_sem ↓] theorem awS_move (x:Operand):awS P c sz ops ⟨dst,.move x,ty,pos,aft,none⟩ K (.mk tm h nx ds)=afterP sz dst tm ds K (pMove c x tm h nx):=rfl
@[go_sem ↓] theorem awS_assign (x:Operand):awS P c sz ops ⟨dst,.assign x,ty,pos,aft,none⟩ K (.mk tm h nx ds)=afterP sz dst tm ds K (pMove c x tm h nx):=rfl
@[go_sem ↓] theorem awS_alloc (e:TypeId):awS P c sz ops ⟨dst,.alloc e,ty,pos,aft,none⟩ K (.mk tm h nx ds)=afterP sz dst tm ds K (pAlloc c e tm h nx):=rfl
@[go_sem ↓] theorem awS_box (e:TypeId)(x:Operand):awS P c sz ops ⟨dst,.box e x,ty,pos,aft,none⟩ K (.mk tm h nx ds)=afterP sz dst tm ds K (pBox c e x tm h nx):=rfl
@[go_sem ↓] theorem awS_load (t:TypeId)(x:Operand):awS P c sz ops ⟨dst,.load t x,ty,pos,aft,none⟩ K (.mk tm h nx ds)=afterP sz dst tm ds K (pLoad c t x tm h nx):=rfl
@[go_sem ↓] theorem awS_store (t:TypeId)(x y:Operand):awS P c sz ops ⟨dst,.store t x y,ty,pos,aft,none⟩ K (.mk tm h nx ds)=afterP sz dst tm ds K (pStoreS c t x y tm h nx):=rfl
@[go_sem ↓] theorem awS_bin (op:BinOp)(t t':TypeId)(x y:Operand):awS P c sz ops ⟨dst,.binOp op t x y t',ty,pos,aft,none⟩ K (.mk tm h nx ds)=afterP sz dst tm ds K (pBin c op t x y tm h nx):=rfl
@[go_sem ↓] theorem awS_un (op:UnOp)(t:TypeId)(x:Operand):awS P c sz ops ⟨dst,.unOp op t x,ty,pos,aft,none⟩ K (.mk tm h nx ds)=afterP sz dst tm ds K (pUn c op x tm h nx):=rfl
@[go_sem ↓] theorem awS_fieldAddr (t:TypeId)(x:Operand) (k:Nat):awS P c sz ops ⟨dst,.fieldAddr t x k,ty,pos,aft,none⟩ K (.mk tm h nx ds)=afterP sz dst tm ds K (pFieldAddr c t x k tm h nx):=rfl
@[go_sem ↓] theorem awS_field (t:TypeId)(x:Operand) (k:Nat):awS P c sz ops ⟨dst,.field t x k,ty,pos,aft,none⟩ K (.mk tm h nx ds)=afterP sz dst tm ds K (pField c t x k tm h nx):=rfl
@[go_sem ↓] theorem awS_indexAddr (t:TypeId)(x i:Operand):awS P c sz ops ⟨dst,.indexAddr t x i,ty,pos,aft,none⟩ K (.mk tm h nx ds)=afterP sz dst tm ds K (pIndexAddr c t x i tm h nx):=rfl
@[go_sem ↓] theorem awS_index (t:TypeId)(x i:Operand):awS P c sz ops ⟨dst,.index t x i,ty,pos,aft,none⟩ K (.mk tm h nx ds)=afterP sz dst tm ds K (pIndex c t x i tm h nx):=rfl
@[go_sem ↓] theorem awS_extract (x:Operand) (k:Nat):awS P c sz ops ⟨dst,.extract x k,ty,pos,aft,none⟩ K (.mk tm h nx ds)=afterP sz dst tm ds K (pExtract c x k tm h nx):=rfl
@[go_sem ↓] theorem awS_build (t:TypeId)(ps:List (Nat×Operand)):awS P c sz ops ⟨dst,.build t ps.toArray,ty,pos,aft,none⟩ K (.mk tm h nx ds)=afterP sz dst tm ds K (bR (c.tt.get t) fun ti=>bR (evOps2 c.G tm ps) fun l=>evBuild ti l h nx):=rfl
@[go_sem ↓] theorem awS_buildSlice (t:TypeId) (n:Nat)(ps:List (Nat×Operand)):awS P c sz ops ⟨dst,.buildSlice t n ps.toArray,ty,pos,aft,none⟩ K (.mk tm h nx ds)=afterP sz dst tm ds K (bR (c.tt.get t) fun ti=>bR (evOps2 c.G tm ps) fun l=>evBuildSlice ti (c.tt.get (elemT ti)) (elemT ti) n l h nx):=rfl
@[go_sem ↓] theorem awS_nilCheck (x:Operand):awS P c sz ops ⟨dst,.nilCheck x,ty,pos,aft,none⟩ K (.mk tm h nx ds)=afterP sz dst tm ds K (pNil c x tm h nx):=rfl
@[go_sem ↓] theorem awS_conv (t u:TypeId)(x:Operand):awS P c sz ops ⟨dst,.convert t u x,ty,pos,aft,none⟩ K (.mk tm h nx ds)=afterP sz dst tm ds K (pConv c t u x tm h nx):=rfl
@[go_sem ↓] theorem awS_func (f:FuncId)(x y:List Operand):awS P c sz ops ⟨dst,.makeFunc (.func f) x.toArray y.toArray,ty,pos,aft,none⟩ K (.mk tm h nx ds)=afterP sz dst tm ds K (bR (evOs c.G tm x) fun a=>bR (evOs c.G tm y) fun b=>.val (.func f a b) h nx):=rfl
@[go_sem ↓] theorem awS_slice (t:TypeId)(x:Operand)(lo hi mx:Option Operand):awS P c sz ops ⟨dst,.slice t x lo hi mx,ty,pos,aft,none⟩ K (.mk tm h nx ds)=afterP sz dst tm ds K (pSlice c t x lo hi mx tm h nx):=rfl
@[go_sem ↓] theorem awS_makeMap (t:TypeId)(r:Option Operand):awS P c sz ops ⟨dst,.makeMap t r,ty,pos,aft,none⟩ K (.mk tm h nx ds)=afterP sz dst tm ds K (pMakeMap r tm h nx):=rfl
def keySel (b:Bool)(x y:R):R:=match b with
 |true=>x
 |false=>y
@[go_sem] theorem keySel_true (x y:R):keySel true x y=x:=rfl
@[go_sem] theorem keySel_false (x y:R):keySel false x y=y:=rfl
attribute [go_sem] isKeyT isArr evLookK evSetK keyI keyEq2
@[go_sem ↓] theorem awS_lookup (t:TypeId)(m k:Operand)(ok:Bool):awS P c sz ops ⟨dst,.lookup t m k ok,ty,pos,aft,none⟩ K (.mk tm h nx ds)=afterP sz dst tm ds K (keySel (isKeyT c t) (evLookK c t ok (evO c.G tm m) (evO c.G tm k) h nx) (pLookup c t m k ok tm h nx)):=rfl
@[go_sem ↓] theorem awS_mapUpdate (t:TypeId)(m k v:Operand):awS P c sz ops ⟨dst,.mapUpdate t m k v,ty,pos,aft,none⟩ K (.mk tm h nx ds)=afterP sz dst tm ds K (keySel (isKeyT c t) (evSetK c t (evO c.G tm m) (evO c.G tm k) (evO c.G tm v) h nx) (pMapSet c t m k v tm h nx)):=rfl
@[go_sem ↓] theorem awS_pick (x y z:Operand):awS P c sz ops ⟨dst,.pick x y z,ty,pos,aft,none⟩ K (.mk tm h nx ds)=afterP sz dst tm ds K (pPick c x y z tm h nx):=rfl
@[go_sem] theorem afterP_val (d:Nat)(v:AV):afterP sz (some d) tm ds K (.val v h nx)=(d<sz∧K (.mk (tm.put d (some v)) h nx ds)):=rfl
@[go_sem] theorem afterP_unit:afterP sz none tm ds K (.unit h nx)=K (.mk tm h nx ds):=rfl
@[go_sem] theorem afterP_val0 (v:AV):afterP sz none tm ds K (.val v h nx)=K (.mk tm h nx ds):=rfl
@[go_sem] theorem callP_eq (fid:FuncId)(first cap l:List AV):callP P c sz dst tm h nx ds K (some (.func fid first cap)) (some l)=ACall P c fid (first++(l++cap)) h nx (goOn sz dst tm ds K):=rfl
@[go_sem] theorem callP_yld (i:Nat)(l:List AV):callP P c sz dst tm h nx ds K (some (.yld i)) (some l)=AYld P c i l h nx (goOn sz dst tm ds K):=rfl
theorem goOn_some (d:Nat)(v:AV):goOn sz (some d) tm ds K v h nx=(d<sz∧K (.mk (tm.put d (some v)) h nx ds)):=rfl
end ops
@[go_sem] theorem AS_tm (tm:Tr AV)(h:Tr ABlk) (nx:Nat)(ds:List DE):(AS.mk tm h nx ds).tm=tm:=rfl
@[go_sem] theorem AS_h (tm:Tr AV)(h:Tr ABlk) (nx:Nat)(ds:List DE):(AS.mk tm h nx ds).h=h:=rfl
@[go_sem] theorem bR_some {α:Type}(a:α)(k:α→R):bR (some a) k=k a:=rfl
section ev
variable (G : Gl) (tm : Tr AV)
@[go_sem] theorem evO_tmp (t:Tmp):evO G tm (.tmp t)=tm.get t:=rfl
@[go_sem] theorem evO_func (f:FuncId):evO G tm (.func f)=some (.func f [] []):=rfl
theorem evO_const (v:Value)(hG:G.sym=true):evO G tm (.const v)=ofVS v:=by simp[evO,hG]
@[go_sem] theorem ofVS_int (k:IntKind) (n:Int):ofVS (.int k n)=some (.int k n):=rfl
@[go_sem] theorem ofVS_bool (b:Bool):ofVS (.bool b)=some (.bool b):=rfl
@[go_sem] theorem ofVS_str (b:ByteArray):ofVS (.string b)=some (.bs b):=rfl
@[go_sem] theorem ofVS_nilFunc:ofVS .nilFunc=some .nilFunc:=rfl
@[go_sem] theorem ofVS_sl0:ofVS (.slice none 0 0)=some .sl0:=rfl
@[go_sem] theorem ofVS_ptr0:ofVS (.pointer none)=some .ptr0:=rfl
@[go_sem] theorem ofVS_map0:ofVS (.map none)=some .map0:=rfl
@[go_sem] theorem ofVS_nilIface:ofVS .nilIface=some .nilIface:=rfl
@[go_sem] theorem evOs_nil:evOs G tm []=some []:=rfl
@[go_sem] theorem evOs_cons (o:Operand)(l:List Operand):evOs G tm (o::l)=match evO G tm o with
 |some a=>match evOs G tm l with
  |some l=>some (a::l)
  |none=>none
 |none=>none:=rfl
@[go_sem] theorem evOps2_nil:evOps2 G tm []=some []:=rfl
@[go_sem] theorem evOps2_cons (i:Nat)(o:Operand)(l:List (Nat×Operand)):evOps2 G tm ((i,o)::l)=match evO G tm o with
 |some a=>match evOps2 G tm l with
  |some l=>some ((i,a)::l)
  |none=>none
 |none=>none:=rfl
end ev
attribute [go_sem] pMove pAlloc pBox pLoad pStoreS pBin pUn pFieldAddr pField pIndexAddr pIndex pExtract pNil pSlice pMakeMap pLookup pMapSet pAppendS pPick pConv pConv1
attribute [go_sem] evInt_add evInt_sub evInt_mul evInt_eql evInt_neq evInt_lss evInt_leq evInt_gtr evInt_geq evMM_max evMM_min ikeq_refl idx_nat evUn_not vBool_eq vInt_eq newK_eq
attribute [go_sem] nble nbeq fN_eq fI_eq Tr.get_put Tr.putK_eq bOf bLen AV.cells evBox elemT keyT valT
@[go_sem] theorem tget_nil {α:Type}(k:Nat):(Tr.nil:Tr α).get k=none:=rfl
@[go_sem] theorem putN_nil (c:Tr AV) (o:Nat):putN [] c o=c:=rfl
@[go_sem] theorem putN_cons (v:AV)(l:List AV)(c:Tr AV) (o:Nat):putN (v::l) c o=putN l (c.put o (some v)) (o+1):=rfl
def loadB (B:Option ABlk)(ag:Bool) (size o:Nat)(h:Tr ABlk) (nx:Nat):R:=match B with
 |some (.cells _ n c _ _)=>
  match ag with
  |true=>
   match Nat.ble (Nat.add o size) n with
   |true=>match getN c size o with |some l=>.val (.agg l) h nx |none=>.fail
   |false=>.fail
  |false=>match Nat.ble (Nat.succ o) n with
   |true=>match c.get o with |some v=>.val v h nx |none=>.fail
   |false=>.fail
 |_=>.fail
@[go_sem] theorem evLoad_ptr (d:TypeDesc) (size b:Nat)(z:Option AV)(fs:List (Nat×Nat×Bool)) (i o:Nat)(h:Tr ABlk) (nx:Nat):evLoad (.mk d size b z fs) (.ptr i o) h nx=loadB (h.get i) (isA d) size o h nx:=rfl
@[go_sem] theorem loadB_agg (t:TypeId)(l:List AV)(opn:Bool) (esz size o:Nat)(h:Tr ABlk) (nx:Nat)(hl:o+size≤l.length):loadB (some (bx t l opn esz)) true size o h nx=.val (.agg ((l.drop o).take size)) h nx:=by
 simp[loadB,bx,nble,hl,getN_putN l size o hl]
@[go_sem] theorem loadB_one (t:TypeId)(l:List AV)(opn:Bool) (esz size o:Nat)(h:Tr ABlk) (nx:Nat)(hl:o<l.length):loadB (some (bx t l opn esz)) false size o h nx=.val (l[o]) h nx:=by
 simp[loadB,bx,nble,get_putN0,Nat.succ_le_of_lt hl,hl]
@[go_sem] theorem evLoad_ip_agg (fl:Array Field) (size b:Nat)(z:Option AV)(fs:List (Nat×Nat×Bool))(cs:List AV)(h:Tr ABlk) (nx:Nat)(hl:size≤cs.length):evLoad (.mk (.struct fl) size b z fs) (.ip cs) h nx=.val (.agg (cs.take size)) h nx:=by
 simp[evLoad,isA,nble,hl]
@[go_sem] theorem isA_struct (fl:Array Field):isA (.struct fl)=true:=rfl
@[go_sem] theorem isA_array (n:Nat)(e:TypeId):isA (.array n e)=true:=rfl
@[go_sem] theorem isA_int (k:IntKind):isA (.int k)=false:=rfl
@[go_sem] theorem isA_string:isA .string=false:=rfl
@[go_sem] theorem isA_bool:isA .bool=false:=rfl
@[go_sem] theorem isA_slice (e:TypeId):isA (.slice e)=false:=rfl
@[go_sem] theorem isA_pointer (e:TypeId):isA (.pointer e)=false:=rfl
@[go_sem] theorem isA_map (e k:TypeId):isA (.map e k)=false:=rfl
@[go_sem] theorem isA_func (x y:Array TypeId)(z:Bool):isA (.func x y z)=false:=rfl
theorem evLoad_ip_one (d:TypeDesc) (size b:Nat)(z:Option AV)(fs:List (Nat×Nat×Bool))(v:AV)(cs:List AV)(h:Tr ABlk) (nx:Nat)(hd:isA d=false):evLoad (.mk d size b z fs) (.ip (v::cs)) h nx=.val v h nx:=by
 simp[evLoad,hd]
attribute [go_sem] evLoad_ip_one
def storeB (B:Option ABlk) (i o size:Nat)(v:AV)(h:Tr ABlk) (nx:Nat):R:=
 match B with
 |some (.cells e n c opn esz)=>
  match allOne v.cells && Nat.beq v.cells.length size && Nat.ble (Nat.add o size) n with
  |true=>.unit (h.put i (some (bx e (segL (toL c n) o v.cells) opn esz))) nx
  |false=>.fail
 |_=>.fail
@[go_sem] theorem evStoreS_ptr (d:TypeDesc) (size b:Nat)(z:Option AV)(fs:List (Nat×Nat×Bool)) (i o:Nat)(v:AV)(h:Tr ABlk) (nx:Nat):evStoreS (.mk d size b z fs) (.ptr i o) v h nx=storeB (h.get i) i o size v h nx:=rfl
@[go_sem] theorem storeB_bx (t:TypeId)(l:List AV)(opn:Bool) (esz i o size:Nat)(v:AV)(h:Tr ABlk) (nx:Nat)(h1:allOne v.cells=true)(h2:v.cells.length=size)(h3:o+size≤l.length):
  storeB (some (bx t l opn esz)) i o size v h nx=.unit (h.put i (some (bx t (segL l o v.cells) opn esz))) nx:=by
 simp[storeB,bx,h1,h2,nble,h3,toL_putN]
@[go_sem] theorem segL_full (l c:List AV)(hl:c.length=l.length):segL l 0 c=c:=by
 show l.take 0++(c++l.drop (Nat.add 0 c.length))=c
 have:Nat.add 0 c.length=l.length:=by show 0+c.length=_;omega
 rw[this]
 simp
@[go_sem] theorem allOne_nil:allOne []=true:=rfl
@[go_sem] theorem allOne_cons (v:AV)(l:List AV):allOne (v::l)=(v.one && allOne l):=by
 show (match v.one with |true=>allOne l |false=>false)=_
 cases v.one <;> rfl
attribute [go_sem] AV.one
attribute [go_sem] evFieldAddr evField partL evExtract evAlloc evBuild evBuildSlice evIface evLookup evMapSet evSlice oidx bnds evConvS evBin evEq eqV scalEq evStrB elemT
attribute [go_sem] fillL_cons findA_cons snocK_eq setK_eq lookRes evMakeMap isU convT scal isConst
@[go_sem] theorem fillL_nil (place:Nat→Option (Nat×Nat))(l:List AV):fillL place [] l=some l:=rfl
@[go_sem] theorem findA_nil (d:TypeDesc)(k:AV) (i:Nat):findA d k [] i=some none:=rfl
@[go_sem] theorem repL_zero (z:List AV):repL z 0=[]:=rfl
@[go_sem] theorem repL_succ (z:List AV) (n:Nat):repL z (n+1)=z++repL z n:=rfl
@[go_sem] theorem evIndexAddr_sl (e:TypeId) (size b:Nat)(z:Option AV) (x:Nat) (s:Nat)(y:Bool)(fs:List (Nat×Nat×Bool)) (i o l cp:Nat)(opn:Bool)(k:IntKind) (n:Nat)(h:Tr ABlk) (nx:Nat)(hn:n<l):
  evIndexAddr (.mk (.slice e) size b z ((x,s,y)::fs)) (.sl i o l cp opn) (.int k (n:Int)) h nx=.val (.ptr i (o+n * s)) h nx:=by
 simp[evIndexAddr,idx_nat,nble,Nat.succ_le_of_lt hn,fN_eq]
@[go_sem] theorem evIndexAddr_fz (e:TypeId) (size b:Nat)(z:Option AV) (x:Nat) (s:Nat)(y:Bool)(fs:List (Nat×Nat×Bool))(full:Bool)(xs:List AV)(k:IntKind) (n:Nat)(h:Tr ABlk) (nx:Nat)(hn:n<xs.length):
  evIndexAddr (.mk (.slice e) size b z ((x,s,y)::fs)) (.fz s full xs) (.int k (n:Int)) h nx=.val (.ip (xs[n]).cells) h nx:=by
 simp[evIndexAddr,idx_nat,hn]
@[go_sem] theorem evLen_str (size b:Nat)(z:Option AV)(fs:List (Nat×Nat×Bool))(v:ByteArray)(h:Tr ABlk) (nx:Nat):evLen (.mk .string size b z fs) (.bs v) h nx=.val (.int .i64 (v.size:Int)) h nx:=rfl
@[go_sem] theorem evLen_fz (e:TypeId) (size b:Nat)(z:Option AV)(fs:List (Nat×Nat×Bool)) (es:Nat)(full:Bool)(xs:List AV)(h:Tr ABlk) (nx:Nat):evLen (.mk (.slice e) size b z fs) (.fz es full xs) h nx=.val (.int .i64 (xs.length:Int)) h nx:=rfl
@[go_sem] theorem evLen_sl (e:TypeId) (size b:Nat)(z:Option AV)(fs:List (Nat×Nat×Bool)) (i o l cp:Nat)(opn:Bool)(h:Tr ABlk) (nx:Nat):evLen (.mk (.slice e) size b z fs) (.sl i o l cp opn) h nx=.val (.int .i64 (l:Int)) h nx:=vInt_eq _ _ _
@[go_sem] theorem evLen_sl0 (e:TypeId) (size b:Nat)(z:Option AV)(fs:List (Nat×Nat×Bool))(h:Tr ABlk) (nx:Nat):evLen (.mk (.slice e) size b z fs) .sl0 h nx=.val (.int .i64 0) h nx:=vInt_eq _ _ _
@[go_sem] theorem evIndex_str (size b:Nat)(z:Option AV)(fs:List (Nat×Nat×Bool))(v:ByteArray)(k:IntKind) (n:Nat)(h:Tr ABlk) (nx:Nat)(hn:n<v.size):evIndex (.mk .string size b z fs) (.bs v) (.int k (n:Int)) h nx=.val (.int .u8 ((v[n]).toNat:Int)) h nx:=by
 have:v[n]?=some v[n]:=by simp[hn]
 simp[evIndex,idx_nat,this]
theorem i64wrap (x:Int)(h1:-9223372036854775808≤x)(h2:x≤9223372036854775807):IntKind.i64.wrap x=x:=by
 have:=IntWalk.i64_in x
 exact this (by omega)
def resP (r:Option (List AV))(R:AV→Tr ABlk→Nat→Prop)(h:Tr ABlk) (nx:Nat):Prop:=match r with
 |some l=>R (resV l) h nx
 |none=>False
@[go_sem] theorem exitP_ret (rs:List ResultVar)(R:AV→Tr ABlk→Nat→Prop)(tm:Tr AV)(h:Tr ABlk) (nx:Nat):exitP c rs R .ret (.mk tm h nx [])=resP (resL c tm h nx rs) R h nx:=by
 simp only[exitP,endP,resP,marksOk,eraseL,true_and]
 cases resL c tm h nx rs <;> rfl
@[go_sem] theorem exitP_norm (rs:List ResultVar)(R:AV→Tr ABlk→Nat→Prop)(tm:Tr AV)(h:Tr ABlk) (nx:Nat):exitP c rs R .norm (.mk tm h nx [])=resP (resL c tm h nx rs) R h nx:=by
 simp only[exitP,endP,resP,marksOk,eraseL,true_and]
 cases resL c tm h nx rs <;> rfl
@[go_sem] theorem exitP_ret1 (rs:List ResultVar)(R:AV→Tr ABlk→Nat→Prop)(tm:Tr AV)(h:Tr ABlk) (nx i:Nat)(hi:h.get i=some .dfr):exitP c rs R .ret (.mk tm h nx [.mark i])=resP (resL c tm (h.put i none) nx rs) R (h.put i none) nx:=by
 simp only[exitP,endP,resP,marksOk,eraseL,hi,true_and]
 cases resL c tm (h.put i none) nx rs <;> rfl
@[go_sem] theorem resL_nil (tm:Tr AV)(h:Tr ABlk) (nx:Nat):resL c tm h nx []=some []:=rfl
@[go_sem] theorem resL_tmp (tm:Tr AV)(h:Tr ABlk) (nx:Nat)(t:Tmp)(l:List ResultVar):resL c tm h nx (.tmp t::l)=match tm.get t with
 |some v=>match resL c tm h nx l with
  |some l=>some (v::l)
  |none=>none
 |none=>none:=rfl
def valR (r:R):Option AV:=match r with
 |.val v _ _=>some v
 |_=>none
@[go_sem] theorem valR_val (v:AV)(h:Tr ABlk) (nx:Nat):valR (.val v h nx)=some v:=rfl
@[go_sem] theorem resL_cell (tm:Tr AV)(h:Tr ABlk) (nx:Nat)(a:Tmp)(t:TypeId)(l:List ResultVar):resL c tm h nx (.cell a t::l)=match tm.get a with
 |some p=>match c.tt.get t with
  |some ti=>match valR (evLoad ti p h nx) with
   |some v=>match resL c tm h nx l with
    |some l=>some (v::l)
    |none=>none
   |none=>none
  |none=>none
 |none=>none:=by
 simp only[resL,res1]
 cases tm.get a with
 |none=>rfl
 |some p=>
  cases c.tt.get t with
  |none=>rfl
  |some ti=>
   simp only
   cases evLoad ti p h nx <;> rfl
@[go_sem] theorem resP_some (l:List AV)(R:AV→Tr ABlk→Nat→Prop)(h:Tr ABlk) (nx:Nat):resP (some l) R h nx=R (resV l) h nx:=rfl
@[go_sem] theorem resV_one (v:AV):resV [v]=v:=rfl
@[go_sem] theorem resV_two (u v:AV)(l:List AV):resV (u::v::l)=.tup (u::v::l):=rfl
@[go_sem] theorem resV_nil:resV []=.tup []:=rfl
mutual
def plain:AV→Bool
 |.ptr _ _=>false
 |.sl _ _ _ _ _=>false
 |.map _=>false
 |.yld _=>false
 |.agg l=>plainL l
 |.tup l=>plainL l
 |.iface _ v=>plain v
 |.func _ l m=>plainL l && plainL m
 |.ip l=>plainL l
 |.fz _ _ l=>plainL l
 |_=>true
def plainL:List AV→Bool
 |[]=>true
 |v::l=>plain v && plainL l
end
mutual
theorem Fz.same {g:Tr ABlk}{nx:Nat}:∀(v:AV),plain v=true→Fz g nx v v
 |.bool b,_=>.bool b
 |.int k n,_=>.int k n
 |.str l n,_=>.str l n
 |.bs b,_=>.bs b
 |.ptr0,_=>.ptr0
 |.sl0,_=>.sl0
 |.map0,_=>.map0
 |.nilFunc,_=>.nilFunc
 |.nilIface,_=>.nilIface
 |.opq n,_=>.opq n
 |.ptr _ _,h=>by simp[plain]at h
 |.sl _ _ _ _ _,h=>by simp[plain]at h
 |.map _,h=>by simp[plain]at h
 |.yld _,h=>by simp[plain]at h
 |.agg l,h=>.agg l l (FzL.same l (by simpa[plain]using h))
 |.tup l,h=>.tup l l (FzL.same l (by simpa[plain]using h))
 |.iface t v,h=>.iface t v v (Fz.same v (by simpa[plain]using h))
 |.func f l m,h=>by
  simp only[plain,Bool.and_eq_true]at h
  exact .func f l l m m (FzL.same l h.1) (FzL.same m h.2)
 |.ip l,h=>.ip l l (FzL.same l (by simpa[plain]using h))
 |.fz es full l,h=>.fz es full l l (FzL.same l (by simpa[plain]using h))
theorem FzL.same {g:Tr ABlk}{nx:Nat}:∀(l:List AV),plainL l=true→FzL g nx l l
 |[],_=>.nil
 |v::l,h=>by
  simp only[plainL,Bool.and_eq_true]at h
  exact .cons v v l l (Fz.same v h.1) (FzL.same l h.2)
end
theorem Fz.eq {g:Tr ABlk}{nx:Nat}{v u:AV}(hp:plain u=true)(e:v=u):Fz g nx v u:=by subst e;exact Fz.same v hp
end walk
end
end Go.Ev
namespace Go.Ev
noncomputable section
variable {P : Program} {c : Cx} {sz : Nat} {s : AS}
section
variable (ops : List Oper) (Wl Cl : List Nat) (U : List (Nat × Nat)) (K : AS → Prop) (i : Nat) (hs : Nat → Tr ABlk) (tm : Tr AV) (h : Tr ABlk) (nx : Nat) (ds : List DE)
@[go_sem ↓] theorem awD_nil:awD P c sz ops Wl Cl U K [] i hs s=K s:=rfl
@[go_sem ↓] theorem awD_cons (o:Oper)(l:List Oper):awD P c sz ops Wl Cl U K (o::l) i hs s=awDS P c sz ops Wl Cl U i hs o (awD P c sz ops Wl Cl U K l (i+1)) s:=rfl
def stepD (P:Program)(c:Cx) (sz:Nat)(ops:List Oper)(Wl:List Nat)(U:List (Nat×Nat)) (i:Nat)(hs:Nat→Tr ABlk)(dst:Option Tmp)(op:Op)(K:(Nat→Tr ABlk)→AS→Prop)(tm:Tr AV)(h:Tr ABlk) (nx:Nat)(ds:List DE)(C W:Bool):Prop:=match C with
 |true=>callD P c ops Wl i h nx (callOf op) tm fun u=>putS sz dst u (.mk tm h nx ds) (K fun j=>if j=i then h else hs j)
 |false=>match W with
  |true=>afterW c sz ops U i dst tm h ds (K fun j=>if j=i then h else hs j) (opD c op tm h nx)
  |false=>afterN c sz ops U i dst tm h nx ds hs (K fun j=>if j=i then h else hs j) (opD c op tm h nx)
@[go_sem ↓] theorem awDS_none (KK:(Nat→Tr ABlk)→AS→Prop)(dst:Option Tmp)(op:Op)(ty:TypeId)(pos:String)(aft:Array Edge):awDS P c sz ops Wl Cl U i hs ⟨dst,op,ty,pos,aft,none⟩ KK (.mk tm h nx ds)=stepD P c sz ops Wl U i hs dst op KK tm h nx ds (inL i Cl) (inL i Wl):=rfl
@[go_sem] theorem inL_nil (i:Nat):inL i []=false:=rfl
@[go_sem] theorem inL_cons (i a:Nat)(l:List Nat):inL i (a::l)=(decide (i=a) || inL i l):=by
 simp only[inL,nbeq]
 cases decide (i=a) <;> rfl
def retP (P:Program)(c:Cx)(ops:List Oper)(Wl:List Nat) (i:Nat)(h:Tr ABlk) (nx:Nat)(fid:FuncId)(args:List AV)(K:AV→Prop):Prop:=∃u,(Ret P c fid args u∨(ordW ops Wl i=true∧ACall P c fid args h nx fun v g ny=>v=u∧g=h∧ny=nx))∧K u
variable {ops Wl i h nx} in
theorem retP_mk {fid:FuncId}{args:List AV}{K':AV→Prop}{u:AV}(hr:Ret P c fid args u)(hK:K' u):retP P c ops Wl i h nx fid args K':=⟨u,.inl hr,hK⟩
variable {ops Wl i h nx} in
theorem retH_mk {fid:FuncId}{args:List AV}{K':AV→Prop}{u:AV}(ho:ordW ops Wl i=true)(hr:ACall P c fid args h nx fun v g ny=>v=u∧g=h∧ny=nx)(hK:K' u):retP P c ops Wl i h nx fid args K':=⟨u,.inr ⟨ho,hr⟩,hK⟩
def callK (P:Program)(c:Cx)(ops:List Oper)(Wl:List Nat) (i:Nat)(h:Tr ABlk) (nx:Nat)(f:Option AV)(l:Option (List AV))(K:AV→Prop):Prop:=match f with
 |some (.func fid first cap)=>match l with
  |some l=>retP P c ops Wl i h nx fid (first++(l++cap)) K
  |none=>False
 |_=>False
@[go_sem] theorem callK_eq (fid:FuncId)(first cap l:List AV)(K':AV→Prop):callK P c ops Wl i h nx (some (.func fid first cap)) (some l) K'=retP P c ops Wl i h nx fid (first++(l++cap)) K':=rfl
@[go_sem] theorem stepD_call (KK:(Nat→Tr ABlk)→AS→Prop)(dst:Option Tmp)(f:Operand)(args:List Operand)(ats:Array TypeId)(W:Bool):stepD P c sz ops Wl U i hs dst (.call ⟨.value f,args.toArray,ats⟩) KK tm h nx ds true W=callK P c ops Wl i h nx (evO c.G tm f) (evOs c.G tm args) (fun u=>putS sz dst u (.mk tm h nx ds) (KK fun j=>if j=i then h else hs j)):=by
 simp only[stepD,callD,callOf,callK]
 cases evO c.G tm f with
 |none=>rfl
 |some fv=>
  cases fv <;> first |rfl |(cases evOs c.G tm args <;> rfl)
@[go_sem] theorem stepD_W (KK:(Nat→Tr ABlk)→AS→Prop)(dst:Option Tmp)(op:Op):stepD P c sz ops Wl U i hs dst op KK tm h nx ds false true=afterW c sz ops U i dst tm h ds (KK fun j=>if j=i then h else hs j) (opD c op tm h nx):=rfl
@[go_sem] theorem stepD_N (KK:(Nat→Tr ABlk)→AS→Prop)(dst:Option Tmp)(op:Op):stepD P c sz ops Wl U i hs dst op KK tm h nx ds false false=afterN c sz ops U i dst tm h nx ds hs (KK fun j=>if j=i then h else hs j) (opD c op tm h nx):=rfl
@[go_sem] theorem afterN_some (d:Nat)(v:AV)(h':Tr ABlk) (nx':Nat):afterN c sz ops U i (some d) tm h nx ds hs K (.val v h' nx')=(seenU c ops i tm hs h U∧(d<sz∧K (.mk (tm.put d (some v)) h nx ds))):=rfl
@[go_sem] theorem afterN_none (v:AV)(h':Tr ABlk) (nx':Nat):afterN c sz ops U i none tm h nx ds hs K (.val v h' nx')=(seenU c ops i tm hs h U∧K (.mk tm h nx ds)):=rfl
@[go_sem] theorem afterW_some (d:Nat)(v:AV)(h':Tr ABlk) (nx':Nat):afterW c sz ops U i (some d) tm h ds K (.val v h' nx')=(keepsU c ops i tm h h' U∧(d<sz∧K (.mk (tm.put d (some v)) h' nx' ds))):=rfl
@[go_sem] theorem afterW_none (h':Tr ABlk) (nx':Nat):afterW c sz ops U i none tm h ds K (.unit h' nx')=(keepsU c ops i tm h h' U∧K (.mk tm h' nx' ds)):=rfl
@[go_sem] theorem seenU_nil:seenU c ops i tm hs h []=True:=rfl
@[go_sem] theorem keepsU_nil (h':Tr ABlk):keepsU c ops i tm h h' []=True:=rfl
theorem putS_some (d:Nat)(v:AV):putS sz (some d) v s K=(d<sz∧K (match s with |.mk tm h nx ds=>.mk (tm.put d (some v)) h nx ds)):=rfl
@[go_sem] theorem opD_move (x:Operand):opD c (.move x) tm h nx=pMove c x tm h nx:=rfl
@[go_sem] theorem opD_assign (x:Operand):opD c (.assign x) tm h nx=pMove c x tm h nx:=rfl
@[go_sem] theorem opD_alloc (e:TypeId):opD c (.alloc e) tm h nx=pAlloc c e tm h nx:=rfl
@[go_sem] theorem opD_box (e:TypeId)(x:Operand):opD c (.box e x) tm h nx=pBox c e x tm h nx:=rfl
@[go_sem] theorem opD_load (t:TypeId)(x:Operand):opD c (.load t x) tm h nx=pLoad c t x tm h nx:=rfl
@[go_sem] theorem opD_store (t:TypeId)(x y:Operand):opD c (.store t x y) tm h nx=pStoreS c t x y tm h nx:=rfl
@[go_sem] theorem opD_bin (op:BinOp)(t t':TypeId)(x y:Operand):opD c (.binOp op t x y t') tm h nx=pBin c op t x y tm h nx:=rfl
@[go_sem] theorem opD_un (op:UnOp)(t:TypeId)(x:Operand):opD c (.unOp op t x) tm h nx=pUn c op x tm h nx:=rfl
@[go_sem] theorem opD_fieldAddr (t:TypeId)(x:Operand) (k:Nat):opD c (.fieldAddr t x k) tm h nx=pFieldAddr c t x k tm h nx:=rfl
@[go_sem] theorem opD_field (t:TypeId)(x:Operand) (k:Nat):opD c (.field t x k) tm h nx=pField c t x k tm h nx:=rfl
@[go_sem] theorem opD_indexAddr (t:TypeId)(x i:Operand):opD c (.indexAddr t x i) tm h nx=pIndexAddr c t x i tm h nx:=rfl
@[go_sem] theorem opD_index (t:TypeId)(x i:Operand):opD c (.index t x i) tm h nx=pIndex c t x i tm h nx:=rfl
@[go_sem] theorem opD_extract (x:Operand) (k:Nat):opD c (.extract x k) tm h nx=pExtract c x k tm h nx:=rfl
@[go_sem] theorem opD_nilCheck (x:Operand):opD c (.nilCheck x) tm h nx=pNil c x tm h nx:=rfl
@[go_sem] theorem opD_conv (t u:TypeId)(x:Operand):opD c (.convert t u x) tm h nx=pConv c t u x tm h nx:=rfl
@[go_sem] theorem opD_slice (t:TypeId)(x:Operand)(lo hi mx:Option Operand):opD c (.slice t x lo hi mx) tm h nx=pSlice c t x lo hi mx tm h nx:=rfl
@[go_sem] theorem opD_lookup (t:TypeId)(m k:Operand)(ok:Bool):opD c (.lookup t m k ok) tm h nx=pLookup c t m k ok tm h nx:=rfl
@[go_sem] theorem opD_mapUpdate (t:TypeId)(m k v:Operand):opD c (.mapUpdate t m k v) tm h nx=pMapSet c t m k v tm h nx:=rfl
@[go_sem] theorem opD_pick (x y z:Operand):opD c (.pick x y z) tm h nx=pPick c x y z tm h nx:=rfl
@[go_sem] theorem opD_makeMap (t:TypeId)(q:Option Operand):opD c (.makeMap t q) tm h nx=pMakeMap q tm h nx:=rfl
@[go_sem] theorem opD_build (t:TypeId)(ps:List (Nat×Operand)):opD c (.build t ps.toArray) tm h nx=(bR (c.tt.get t) fun ti=>bR (evOps2 c.G tm ps) fun l=>evBuild ti l h nx):=rfl
@[go_sem] theorem opD_buildSlice (t:TypeId) (n:Nat)(ps:List (Nat×Operand)):opD c (.buildSlice t n ps.toArray) tm h nx=(bR (c.tt.get t) fun ti=>bR (evOps2 c.G tm ps) fun l=>evBuildV ti (c.tt.get (elemT ti)) (elemT ti) n l h nx):=rfl
@[go_sem] theorem opD_func (f:FuncId)(x y:List Operand):opD c (.makeFunc (.func f) x.toArray y.toArray) tm h nx=(bR (evOs c.G tm x) fun a=>bR (evOs c.G tm y) fun b=>.val (.func f a b) h nx):=rfl
@[go_sem] theorem opD_append (args:List Operand)(ats:List TypeId):opD c (.call ⟨.builtin .append,args.toArray,ats.toArray⟩) tm h nx=pAppendS c ats args tm h nx:=rfl
@[go_sem] theorem opD_builtin (b:Builtin)(args:List Operand)(ats:List TypeId)(hb:b≠.append):opD c (.call ⟨.builtin b,args.toArray,ats.toArray⟩) tm h nx=(bR (evOs c.G tm args) fun l=>bOf c b ats.toArray l h nx):=by
 have:isAppend ⟨.builtin b,args.toArray,ats.toArray⟩=false:=by cases b <;> first |rfl |exact absurd rfl hb
 simp[opD,evPlainS,this,pCall,pBuiltin]
attribute [go_sem] evBuildV valsV
def gslot (ops:List Oper) (j:Nat):Option Tmp:=(ops[j]?).bind (·.dst)
@[go_sem] theorem gslot_zero (dst:Option Tmp)(op:Op)(ty:TypeId)(pos:String)(aft:Array Edge)(gd:Option (Nat×Bool))(l:List Oper):gslot (⟨dst,op,ty,pos,aft,gd⟩::l) 0=dst:=rfl
@[go_sem] theorem gslot_succ (o:Oper)(l:List Oper) (j:Nat):gslot (o::l) (j+1)=gslot l j:=by simp[gslot]
theorem want_guard (j:Nat)(want:Bool)(dst:Option Tmp)(op:Op)(ty:TypeId)(pos:String)(aft:Array Edge)(F:Option Bool→Prop)(hF:F none=False):F (wantA ops tm ⟨dst,op,ty,pos,aft,some (j,want)⟩)=match gslot ops j with
  |none=>F (some false)
  |some d=>match tm.get d with
   |some (.bool b)=>if b=want then F (some true) else F (some false)
   |some (.tup _)=>F (some false)
   |_=>False:=by
 unfold wantA gslot
 simp only
 cases ops[j]? with
 |none=>rfl
 |some oj=>
  simp only[Option.bind_some]
  cases oj.dst with
  |none=>rfl
  |some d=>
   simp only
   cases tm.get d with
   |none=>exact hF
   |some v=>
    cases v <;> try exact hF
    ·rename_i b
     cases b <;> cases want <;> simp
    ·rfl
def guardS (P:Program)(c:Cx) (sz:Nat)(ops:List Oper)(d:Option Tmp)(want:Bool)(dst:Option Tmp)(op:Op)(ty:TypeId)(pos:String)(aft:Array Edge)(K:AS→Prop)(tm:Tr AV)(h:Tr ABlk) (nx:Nat)(ds:List DE):Prop:=match d with
 |none=>putS sz dst (.tup []) (.mk tm h nx ds) K
 |some d=>match tm.get d with
  |some (.bool b)=>if b=want then awS P c sz ops ⟨dst,op,ty,pos,aft,none⟩ K (.mk tm h nx ds) else putS sz dst (.tup []) (.mk tm h nx ds) K
  |some (.tup _)=>putS sz dst (.tup []) (.mk tm h nx ds) K
  |_=>False
def guardT (P:Program)(c:Cx) (sz:Nat)(ops:List Oper)(g:Option AV)(want:Bool)(dst:Option Tmp)(op:Op)(ty:TypeId)(pos:String)(aft:Array Edge)(K:AS→Prop)(tm:Tr AV)(h:Tr ABlk) (nx:Nat)(ds:List DE):Prop:=match g with
 |some (.bool b)=>if b=want then awS P c sz ops ⟨dst,op,ty,pos,aft,none⟩ K (.mk tm h nx ds) else putS sz dst (.tup []) (.mk tm h nx ds) K
 |some (.tup _)=>putS sz dst (.tup []) (.mk tm h nx ds) K
 |_=>False
@[go_sem ↓] theorem awS_guard (j:Nat)(want:Bool)(dst:Option Tmp)(op:Op)(ty:TypeId)(pos:String)(aft:Array Edge):awS P c sz ops ⟨dst,op,ty,pos,aft,some (j,want)⟩ K (.mk tm h nx ds)=guardS P c sz ops (gslot ops j) want dst op ty pos aft K tm h nx ds:=
 want_guard (ops:=ops) (tm:=tm) j want dst op ty pos aft (fun b=>match b with
  |none=>False
  |some false=>putS sz dst (.tup []) (.mk tm h nx ds) K
  |some true=>opW P c sz op dst tm h nx ds K) rfl
section
variable (want : Bool) (dst : Option Tmp) (op : Op) (ty : TypeId) (pos : String) (aft : Array Edge)
@[go_sem] theorem guardS_some (d:Nat):guardS P c sz ops (some d) want dst op ty pos aft K tm h nx ds=guardT P c sz ops (tm.get d) want dst op ty pos aft K tm h nx ds:=rfl
@[go_sem] theorem guardT_tt:guardT P c sz ops (some (.bool true)) true dst op ty pos aft K tm h nx ds=awS P c sz ops ⟨dst,op,ty,pos,aft,none⟩ K (.mk tm h nx ds):=by simp[guardT]
@[go_sem] theorem guardT_ff:guardT P c sz ops (some (.bool false)) false dst op ty pos aft K tm h nx ds=awS P c sz ops ⟨dst,op,ty,pos,aft,none⟩ K (.mk tm h nx ds):=by simp[guardT]
@[go_sem] theorem guardT_tf:guardT P c sz ops (some (.bool true)) false dst op ty pos aft K tm h nx ds=putS sz dst (.tup []) (.mk tm h nx ds) K:=by simp[guardT]
@[go_sem] theorem guardT_ft:guardT P c sz ops (some (.bool false)) true dst op ty pos aft K tm h nx ds=putS sz dst (.tup []) (.mk tm h nx ds) K:=by simp[guardT]
@[go_sem] theorem guardT_tup (l:List AV):guardT P c sz ops (some (.tup l)) want dst op ty pos aft K tm h nx ds=putS sz dst (.tup []) (.mk tm h nx ds) K:=rfl
end
def guardDS (P:Program)(c:Cx) (sz:Nat)(ops:List Oper)(Wl Cl:List Nat)(U:List (Nat×Nat)) (i:Nat)(hs:Nat→Tr ABlk)(d:Option Tmp)(want:Bool)(dst:Option Tmp)(op:Op)(ty:TypeId)(pos:String)(aft:Array Edge)(K:(Nat→Tr ABlk)→AS→Prop)(tm:Tr AV)(h:Tr ABlk) (nx:Nat)(ds:List DE):Prop:=match d with
 |none=>putS sz dst (.tup []) (.mk tm h nx ds) (K fun j=>if j=i then h else hs j)
 |some d=>match tm.get d with
  |some (.bool b)=>if b=want then awDS P c sz ops Wl Cl U i hs ⟨dst,op,ty,pos,aft,none⟩ K (.mk tm h nx ds) else putS sz dst (.tup []) (.mk tm h nx ds) (K fun j=>if j=i then h else hs j)
  |some (.tup _)=>putS sz dst (.tup []) (.mk tm h nx ds) (K fun j=>if j=i then h else hs j)
  |_=>False
def guardDT (P:Program)(c:Cx) (sz:Nat)(ops:List Oper)(Wl Cl:List Nat)(U:List (Nat×Nat)) (i:Nat)(hs:Nat→Tr ABlk)(g:Option AV)(want:Bool)(dst:Option Tmp)(op:Op)(ty:TypeId)(pos:String)(aft:Array Edge)(K:(Nat→Tr ABlk)→AS→Prop)(tm:Tr AV)(h:Tr ABlk) (nx:Nat)(ds:List DE):Prop:=match g with
 |some (.bool b)=>if b=want then awDS P c sz ops Wl Cl U i hs ⟨dst,op,ty,pos,aft,none⟩ K (.mk tm h nx ds) else putS sz dst (.tup []) (.mk tm h nx ds) (K fun j=>if j=i then h else hs j)
 |some (.tup _)=>putS sz dst (.tup []) (.mk tm h nx ds) (K fun j=>if j=i then h else hs j)
 |_=>False
@[go_sem ↓] theorem awDS_guard (j:Nat)(want:Bool)(KK:(Nat→Tr ABlk)→AS→Prop)(dst:Option Tmp)(op:Op)(ty:TypeId)(pos:String)(aft:Array Edge):awDS P c sz ops Wl Cl U i hs ⟨dst,op,ty,pos,aft,some (j,want)⟩ KK (.mk tm h nx ds)=guardDS P c sz ops Wl Cl U i hs (gslot ops j) want dst op ty pos aft KK tm h nx ds:=
 want_guard (ops:=ops) (tm:=tm) j want dst op ty pos aft (fun b=>match b with
  |none=>False
  |some false=>putS sz dst (.tup []) (.mk tm h nx ds) (KK fun j=>if j=i then h else hs j)
  |some true=>match inL i Cl with
   |true=>callD P c ops Wl i h nx (callOf op) tm fun u=>putS sz dst u (.mk tm h nx ds) (KK fun j=>if j=i then h else hs j)
   |false=>match inL i Wl with
    |true=>afterW c sz ops U i dst tm h ds (KK fun j=>if j=i then h else hs j) (opD c op tm h nx)
    |false=>afterN c sz ops U i dst tm h nx ds hs (KK fun j=>if j=i then h else hs j) (opD c op tm h nx)) rfl
section
variable (want : Bool) (dst : Option Tmp) (op : Op) (ty : TypeId) (pos : String) (aft : Array Edge) (KK : (Nat → Tr ABlk) → AS → Prop)
@[go_sem] theorem guardDS_some (d:Nat):guardDS P c sz ops Wl Cl U i hs (some d) want dst op ty pos aft KK tm h nx ds=guardDT P c sz ops Wl Cl U i hs (tm.get d) want dst op ty pos aft KK tm h nx ds:=rfl
@[go_sem] theorem guardDT_tt:guardDT P c sz ops Wl Cl U i hs (some (.bool true)) true dst op ty pos aft KK tm h nx ds=awDS P c sz ops Wl Cl U i hs ⟨dst,op,ty,pos,aft,none⟩ KK (.mk tm h nx ds):=by simp[guardDT]
@[go_sem] theorem guardDT_tup (l:List AV):guardDT P c sz ops Wl Cl U i hs (some (.tup l)) want dst op ty pos aft KK tm h nx ds=putS sz dst (.tup []) (.mk tm h nx ds) (KK fun j=>if j=i then h else hs j):=rfl
end
@[go_sem] theorem putS_tup (d:Nat):putS sz (some d) (.tup []) s K=(d<sz∧K (match s with |.mk tm h nx ds=>.mk (tm.put d (some (.tup []))) h nx ds)):=rfl
end
end
end Go.Ev
