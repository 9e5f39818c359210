/- Texts Sim Sim2 BR. -/
import Derived.Attr
import Derived.IntWalk
import Derived.Test.YtkdnmldmffkkoaaGreatDoorP09
import Derived.Test.YtkdnmldmffkkoaaGreatDoorP10
set_option linter.unusedSimpArgs false
set_option linter.unusedVariables false
set_option maxRecDepth 100000
namespace Go.Ev
noncomputable section
theorem zcl (a b:Nat):Nat.ble a b=decide (a≤b):=by
 cases e:Nat.ble a b with
 |true=>simp[Nat.le_of_ble_eq_true e]
 |false=>
  simp
  rcases Nat.lt_or_ge b a with h |h
  ·exact h
  ·rw[Nat.ble_eq_true_of_le h]at e;cases e
theorem zs5 (a b:Nat):Nat.beq a b=decide (a=b):=by
 cases e:Nat.beq a b with
 |true=>simp[Nat.eq_of_beq_eq_true e]
 |false=>simp[zea e]
theorem zGb (b:Bool)(h:Tr ABlk) (nx:Nat):vBool b h nx=.val (.bool b) h nx:=by cases b <;> rfl
theorem zwb (n:Nat)(h:Tr ABlk) (nx:Nat):vInt n h nx=.val (.int .i64 (n:Int)) h nx:=by simp[vInt,fN_eq]
theorem newK_eq (t:TypeId)(l:List AV)(h:Tr ABlk) (nx:Nat)(mk:Nat→AV):newK t l h nx mk=.val (mk nx) (h.put nx (some (bx t l false 0))) (nx+1):=by
 simp[newK,zdr,fN_eq,Tr.putK_eq,bx]
theorem zpj (l:List AV) (n o:Nat)(h:o+n≤l.length):zci (zbh l .nil 0) n o=some ((l.drop o).take n):=by
 refine zuq (by simp;omega) fun k hk=>?_
 rw[zf7,if_pos (by omega),Nat.sub_zero,List.getElem?_take,if_pos hk,List.getElem?_drop]
theorem zIl (k:IntKind) (a b:Int)(h:Tr ABlk) (nx:Nat):zc2 .add k a b h nx=.val (.int k (k.wrap (a+b))) h nx:=by simp[zc2,fI_eq,zfd]
theorem zN3 (k:IntKind) (a b:Int)(h:Tr ABlk) (nx:Nat):zc2 .sub k a b h nx=.val (.int k (k.wrap (a-b))) h nx:=by simp only[zc2,fI_eq,zfd];rfl
theorem zJ3 (k:IntKind) (a b:Int)(h:Tr ABlk) (nx:Nat):zc2 .mul k a b h nx=.val (.int k (k.wrap (a * b))) h nx:=by simp[zc2,fI_eq,zfd]
theorem zN1 (k:IntKind) (a b:Int)(h:Tr ABlk) (nx:Nat):zc2 .eql k a b h nx=.val (.bool (decide (a=b))) h nx:=by
 simp only[zc2,zgi]
 cases e:(a == b) <;> simp_all
theorem zUx (k:IntKind) (a b:Int)(h:Tr ABlk) (nx:Nat):zc2 .neq k a b h nx=.val (.bool (!decide (a=b))) h nx:=by
 simp only[zc2,zgi]
 cases e:(a == b) <;> simp_all
theorem zIy (k:IntKind) (a b:Int)(h:Tr ABlk) (nx:Nat):zc2 .lss k a b h nx=.val (.bool (decide (a<b))) h nx:=by
 simp only[zc2,zg9]
 by_cases e:a<b <;> simp[e]
theorem zOj (k:IntKind) (a b:Int)(h:Tr ABlk) (nx:Nat):zc2 .leq k a b h nx=.val (.bool (decide (a≤b))) h nx:=by
 simp only[zc2,zg9]
 by_cases e:a≤b
 ·simp[e,show ¬b<a by omega]
 ·simp[e,show b<a by omega]
theorem zO0 (k:IntKind) (a b:Int)(h:Tr ABlk) (nx:Nat):zc2 .gtr k a b h nx=.val (.bool (decide (b<a))) h nx:=by
 simp only[zc2,zg9]
 by_cases e:b<a <;> simp[e]
theorem zK1 (k:IntKind) (a b:Int)(h:Tr ABlk) (nx:Nat):zc2 .geq k a b h nx=.val (.bool (decide (b≤a))) h nx:=by
 simp only[zc2,zg9]
 by_cases e:b≤a
 ·simp[e,show ¬a<b by omega]
 ·simp[e,show a<b by omega]
theorem zRv (k k':IntKind) (a b:Int)(h:Tr ABlk) (nx:Nat):zfb true [.int k a,.int k' b] h nx=.val (.int k (max a b)) h nx:=by
 simp only[zfb,zg9]
 by_cases e:a<b
 ·simp[e,Int.max_eq_right (Int.le_of_lt e)]
 ·simp[e,Int.max_eq_left (show b≤a by omega)]
theorem zKo (k k':IntKind) (a b:Int)(h:Tr ABlk) (nx:Nat):zfb false [.int k a,.int k' b] h nx=.val (.int k (min a b)) h nx:=by
 simp only[zfb,zg9]
 by_cases e:b<a
 ·simp[e,Int.min_eq_right (Int.le_of_lt e)]
 ·simp[e,Int.min_eq_left (show a≤b by omega)]
theorem zuw (k:IntKind):zha k k=true:=by cases k <;> rfl
theorem zkj (k:IntKind) (n:Nat):idx (.int k (n:Int))=some n:=rfl
theorem zUp (b:Bool)(h:Tr ABlk) (nx:Nat):zhy .not (.bool b) h nx=.val (.bool (!b)) h nx:=by cases b <;> rfl
section walk
variable {P : Program} {c : Cx} {inr : Bool} {sz : Nat} {Q : AX → AS → Prop} {s : AS}
attribute [go_sem ↓] Nat.lt_irrefl
def zk9 (v:Option AV)(A B:AS→Prop)(s:AS):Prop:=match v with
 |some (.bool t)=>(t=true→A s)∧(t=false→B s)
 |_=>False
def zsu (sz:Nat)(d:Option Tmp)(tm:Tr AV)(ds:List DE)(K:AS→Prop)(v:AV)(h:Tr ABlk) (nx:Nat):Prop:=zb0 sz d v (.mk tm h nx ds) K
@[go_sem ↓] theorem yc9:aw P c inr sz .skip Q s=Q .norm s:=rfl
@[go_sem ↓] theorem zWb (l:Nat):aw P c inr sz (.label l) Q s=Q .norm s:=rfl
@[go_sem ↓] theorem ybs (id:Nat)(l:List Oper):aw P c inr sz (.region id l.toArray false) Q s=awO P c sz l (Q .norm) l s:=rfl
@[go_sem ↓] theorem zZ9 (id:Nat)(l:List Oper):aw P c inr sz (.region id l.toArray true) Q s=AW P c inr sz (.region id l.toArray true) Q s:=rfl
@[go_sem ↓] theorem zZv (a b:Code):aw P c inr sz (.seq a b) Q s=aw P c inr sz a (zjo (aw P c inr sz b Q) Q) s:=rfl
@[go_sem ↓] theorem zZz (x:Operand)(a b:Code):aw P c inr sz (.cond x a b) Q s=zk9 (evO c.G s.tm x) (aw P c inr sz a Q) (aw P c inr sz b Q) s:=by
 unfold aw zk9
 rfl
@[go_sem ↓] theorem yan (id:Nat)(a:Code):aw P c inr sz (.block id a) Q s=aw P c inr sz a (zi6 id Q) s:=rfl
@[go_sem ↓] theorem ydq (a:Code):aw P c inr sz (.scope a) Q s=aw P c inr sz a Q s:=rfl
@[go_sem ↓] theorem yaq (id:Nat):aw P c inr sz (.exit id) Q s=Q (.exit id) s:=rfl
@[go_sem ↓] theorem zYp:aw P c inr sz .ret Q s=Q .ret s:=rfl
@[go_sem ↓] theorem yax (a:Code):aw P c inr sz (.loop a) Q s=AW P c inr sz (.loop a) Q s:=rfl
@[go_sem ↓] theorem ye7 (f:Operand)(ps:Array Tmp)(x y:Code):aw P c inr sz (.rangeFunc f ps x y) Q s=AW P c inr sz (.rangeFunc f ps x y) Q s:=rfl
@[go_sem] theorem zVh (A B:AS→Prop):zk9 (some (.bool true)) A B s=A s:=by simp[zk9]
@[go_sem] theorem zZ1 (A B:AS→Prop):zk9 (some (.bool false)) A B s=B s:=by simp[zk9]
theorem zm6 {t:Bool}{A B:AS→Prop}(h1:t=true→A s)(h2:t=false→B s):zk9 (some (.bool t)) A B s:=⟨h1,h2⟩
@[go_sem ↓] theorem zXo (K:AS→Prop):zjo K Q .norm s=K s:=rfl
@[go_sem ↓] theorem zVp (K:AS→Prop) (id:Nat):zjo K Q (.exit id) s=Q (.exit id) s:=rfl
@[go_sem ↓] theorem ye2 (K:AS→Prop):zjo K Q .ret s=Q .ret s:=rfl
@[go_sem ↓] theorem zXe (id:Nat):zi6 id Q .norm s=Q .norm s:=rfl
@[go_sem ↓] theorem ybj (id id':Nat):zi6 id Q (.exit id') s=if id'=id then Q .norm s else Q (.exit id') s:=rfl
@[go_sem ↓] theorem ybp (id:Nat):zi6 id Q .ret s=Q .ret s:=rfl
@[go_sem ↓] theorem ydw (ops:List Oper)(K:AS→Prop):awO P c sz ops K [] s=K s:=rfl
@[go_sem ↓] theorem zVm (ops:List Oper)(K:AS→Prop)(o:Oper)(l:List Oper):awO P c sz ops K (o::l) s=awS P c sz ops o (awO P c sz ops K l) s:=rfl
section ops
variable (ops : List Oper) (K : AS → Prop) (dst : Option Tmp) (ty : TypeId) (pos : String) (aft : Array Edge) (tm : Tr AV) (h : Tr ABlk) (nx : Nat) (ds : List DE)
@[go_sem ↓] theorem zY8 (f:Operand)(args:List Operand)(ats:Array TypeId):awS P c sz ops ⟨dst,.call ⟨.value f,args.toArray,ats⟩,ty,pos,aft,none⟩ K (.mk tm h nx ds)=zgz P c sz dst tm h nx ds K (evO c.G tm f) (zb2 c.G tm args):=by
 simp[awS,opW,zbz,zdo]
@[go_sem ↓] theorem zV0 (b:Builtin)(args ats:List _)(hb:b≠.append):awS P c sz ops ⟨dst,.call ⟨.builtin b,List.toArray args,List.toArray ats⟩,ty,pos,aft,none⟩ K (.mk tm h nx ds)=zb7 sz dst tm ds K (bR (zb2 c.G tm args) fun l=>bOf c b (List.toArray ats) l h nx):=by
 have:zqx ⟨.builtin b,List.toArray args,List.toArray ats⟩=false:=by cases b <;> first |rfl |exact absurd rfl hb
 simp[awS,opW,zbz,zdo,zcp,this,zqv,zki]
@[go_sem ↓] theorem yc0 (args:List Operand)(ats:List TypeId):awS P c sz ops ⟨dst,.call ⟨.builtin .append,args.toArray,ats.toArray⟩,ty,pos,aft,none⟩ K (.mk tm h nx ds)=zb7 sz dst tm ds K (zi5 c ats args tm h nx):=by
 simp[awS,opW,zbz,zdo,zcp,zqx]
@[go_sem ↓] theorem zX5 (x:Operand):awS P c sz ops ⟨dst,.move x,ty,pos,aft,none⟩ K (.mk tm h nx ds)=zb7 sz dst tm ds K (zdl c x tm h nx):=rfl
@[go_sem ↓] theorem ye3 (x:Operand):awS P c sz ops ⟨dst,.assign x,ty,pos,aft,none⟩ K (.mk tm h nx ds)=zb7 sz dst tm ds K (zdl c x tm h nx):=rfl
@[go_sem ↓] theorem zYl (e:TypeId):awS P c sz ops ⟨dst,.alloc e,ty,pos,aft,none⟩ K (.mk tm h nx ds)=zb7 sz dst tm ds K (zq6 c e tm h nx):=rfl
@[go_sem ↓] theorem zZa (e:TypeId)(x:Operand):awS P c sz ops ⟨dst,.box e x,ty,pos,aft,none⟩ K (.mk tm h nx ds)=zb7 sz dst tm ds K (zkl c e x tm h nx):=rfl
@[go_sem ↓] theorem yba (t:TypeId)(x:Operand):awS P c sz ops ⟨dst,.load t x,ty,pos,aft,none⟩ K (.mk tm h nx ds)=zb7 sz dst tm ds K (zlc c t x tm h nx):=rfl
@[go_sem ↓] theorem ybi (t:TypeId)(x y:Operand):awS P c sz ops ⟨dst,.store t x y,ty,pos,aft,none⟩ K (.mk tm h nx ds)=zb7 sz dst tm ds K (zl0 c t x y tm h nx):=rfl
@[go_sem ↓] theorem yb1 (op:BinOp)(t t':TypeId)(x y:Operand):awS P c sz ops ⟨dst,.binOp op t x y t',ty,pos,aft,none⟩ K (.mk tm h nx ds)=zb7 sz dst tm ds K (zky c op t x y tm h nx):=rfl
@[go_sem ↓] theorem ya5 (op:UnOp)(t:TypeId)(x:Operand):awS P c sz ops ⟨dst,.unOp op t x,ty,pos,aft,none⟩ K (.mk tm h nx ds)=zb7 sz dst tm ds K (pUn c op x tm h nx):=rfl
@[go_sem ↓] theorem zXw (t:TypeId)(x:Operand) (k:Nat):awS P c sz ops ⟨dst,.fieldAddr t x k,ty,pos,aft,none⟩ K (.mk tm h nx ds)=zb7 sz dst tm ds K (zkn c t x k tm h nx):=rfl
@[go_sem ↓] theorem zWu (t:TypeId)(x:Operand) (k:Nat):awS P c sz ops ⟨dst,.field t x k,ty,pos,aft,none⟩ K (.mk tm h nx ds)=zb7 sz dst tm ds K (zkv c t x k tm h nx):=rfl
@[go_sem ↓] theorem zYu (t:TypeId)(x i:Operand):awS P c sz ops ⟨dst,.indexAddr t x i,ty,pos,aft,none⟩ K (.mk tm h nx ds)=zb7 sz dst tm ds K (zlg c t x i tm h nx):=rfl
@[go_sem ↓] theorem zWk (t:TypeId)(x i:Operand):awS P c sz ops ⟨dst,.index t x i,ty,pos,aft,none⟩ K (.mk tm h nx ds)=zb7 sz dst tm ds K (zle c t x i tm h nx):=rfl
@[go_sem ↓] theorem yb7 (x:Operand) (k:Nat):awS P c sz ops ⟨dst,.extract x k,ty,pos,aft,none⟩ K (.mk tm h nx ds)=zb7 sz dst tm ds K (zl2 c x k tm h nx):=rfl
@[go_sem ↓] theorem ydi (t:TypeId)(ps:List (Nat×Operand)):awS P c sz ops ⟨dst,.build t ps.toArray,ty,pos,aft,none⟩ K (.mk tm h nx ds)=zb7 sz dst tm ds K (bR (c.tt.get t) fun ti=>bR (ze7 c.G tm ps) fun l=>zh5 ti l h nx):=rfl
@[go_sem ↓] theorem zYv (t:TypeId) (n:Nat)(ps:List (Nat×Operand)):awS P c sz ops ⟨dst,.buildSlice t n ps.toArray,ty,pos,aft,none⟩ K (.mk tm h nx ds)=zb7 sz dst tm ds K (bR (c.tt.get t) fun ti=>bR (ze7 c.G tm ps) fun l=>zm5 ti (c.tt.get (zdk ti)) (zdk ti) n l h nx):=rfl
@[go_sem ↓] theorem zW1 (x:Operand):awS P c sz ops ⟨dst,.nilCheck x,ty,pos,aft,none⟩ K (.mk tm h nx ds)=zb7 sz dst tm ds K (zkd c x tm h nx):=rfl
@[go_sem ↓] theorem ycd (t u:TypeId)(x:Operand):awS P c sz ops ⟨dst,.convert t u x,ty,pos,aft,none⟩ K (.mk tm h nx ds)=zb7 sz dst tm ds K (zfz c t u x tm h nx):=rfl
@[go_sem ↓] theorem zZ5 (f:FuncId)(x y:List Operand):awS P c sz ops ⟨dst,.makeFunc (.func f) x.toArray y.toArray,ty,pos,aft,none⟩ K (.mk tm h nx ds)=zb7 sz dst tm ds K (bR (zb2 c.G tm x) fun a=>bR (zb2 c.G tm y) fun b=>.val (.func f a b) h nx):=rfl
@[go_sem ↓] theorem ydu (t:TypeId)(x:Operand)(lo hi mx:Option Operand):awS P c sz ops ⟨dst,.slice t x lo hi mx,ty,pos,aft,none⟩ K (.mk tm h nx ds)=zb7 sz dst tm ds K (zlj c t x lo hi mx tm h nx):=rfl
@[go_sem ↓] theorem zWg (t:TypeId)(r:Option Operand):awS P c sz ops ⟨dst,.makeMap t r,ty,pos,aft,none⟩ K (.mk tm h nx ds)=zb7 sz dst tm ds K (zqo r tm h nx):=rfl
def zre (b:Bool)(x y:R):R:=match b with
 |true=>x
 |false=>y
@[go_sem] theorem zZl (x y:R):zre true x y=x:=rfl
@[go_sem] theorem ycq (x y:R):zre false x y=y:=rfl
attribute [go_sem] zht zDy zm9 zm4 zon zfg
@[go_sem ↓] theorem zOx (t:TypeId)(m k:Operand)(ok:Bool):awS P c sz ops ⟨dst,.lookup t m k ok,ty,pos,aft,none⟩ K (.mk tm h nx ds)=zb7 sz dst tm ds K (zre (zht c t) (zm9 c t ok (evO c.G tm m) (evO c.G tm k) h nx) (zl9 c t m k ok tm h nx)):=rfl
@[go_sem ↓] theorem ycg (t:TypeId)(x:Operand):awS P c sz ops ⟨dst,.range t x,ty,pos,aft,none⟩ K (.mk tm h nx ds)=zD4 c sz dst t x tm h nx ds K:=by
 rfl
@[go_sem ↓] theorem ybt (x:Operand):awS P c sz ops ⟨dst,.next x false,ty,pos,aft,none⟩ K (.mk tm h nx ds)=zAg c sz dst x tm h nx ds K:=by
 rfl
@[go_sem ↓] theorem zZp (x:Operand):awS P c sz ops ⟨dst,.entry x,ty,pos,aft,none⟩ K (.mk tm h nx ds)=zCk c sz dst x tm h nx ds K:=by
 rfl
@[go_sem ↓] theorem yad (t:TypeId)(m k v:Operand):awS P c sz ops ⟨dst,.mapUpdate t m k v,ty,pos,aft,none⟩ K (.mk tm h nx ds)=zb7 sz dst tm ds K (zre (zht c t) (zm4 c t (evO c.G tm m) (evO c.G tm k) (evO c.G tm v) h nx) (zgt c t m k v tm h nx)):=rfl
@[go_sem ↓] theorem ybq (x y z:Operand):awS P c sz ops ⟨dst,.pick x y z,ty,pos,aft,none⟩ K (.mk tm h nx ds)=zb7 sz dst tm ds K (zaf c x y z tm h nx):=rfl
@[go_sem] theorem zVy (d:Nat)(v:AV):zb7 sz (some d) tm ds K (.val v h nx)=(d<sz∧K (.mk (tm.put d (some v)) h nx ds)):=rfl
@[go_sem] theorem ycw:zb7 sz none tm ds K (.unit h nx)=K (.mk tm h nx ds):=rfl
@[go_sem] theorem yc8 (v:AV):zb7 sz none tm ds K (.val v h nx)=K (.mk tm h nx ds):=rfl
@[go_sem] theorem zV8 (fid:FuncId)(first cap l:List AV):zgz P c sz dst tm h nx ds K (some (.func fid first cap)) (some l)=za7 P c fid (first++(l++cap)) h nx (zsu sz dst tm ds K):=rfl
@[go_sem] theorem zYo (i:Nat)(l:List AV):zgz P c sz dst tm h nx ds K (some (.yld i)) (some l)=zgp P c i l h nx (zsu sz dst tm ds K):=rfl
theorem za0 (d:Nat)(v:AV):zsu sz (some d) tm ds K v h nx=(d<sz∧K (.mk (tm.put d (some v)) h nx ds)):=rfl
end ops
@[go_sem] theorem zXp (tm:Tr AV)(h:Tr ABlk) (nx:Nat)(ds:List DE):(AS.mk tm h nx ds).tm=tm:=rfl
@[go_sem] theorem ybg (tm:Tr AV)(h:Tr ABlk) (nx:Nat)(ds:List DE):(AS.mk tm h nx ds).h=h:=rfl
@[go_sem] theorem yd4 {α:Type}(a:α)(k:α→R):bR (some a) k=k a:=rfl
section ev
variable (G : Gl) (tm : Tr AV)
@[go_sem] theorem zXm (t:Tmp):evO G tm (.tmp t)=tm.get t:=rfl
@[go_sem] theorem ycm (f:FuncId):evO G tm (.func f)=some (.func f [] []):=rfl
theorem zR4 (v:Value)(hG:G.sym=true):evO G tm (.const v)=zf8 v:=by simp[evO,hG]
@[go_sem] theorem zY5 (k:IntKind) (n:Int):zf8 (.int k n)=some (.int k n):=rfl
@[go_sem] theorem zWh (b:Bool):zf8 (.bool b)=some (.bool b):=rfl
@[go_sem] theorem yco (b:ByteArray):zf8 (.string b)=some (.bs b):=rfl
@[go_sem] theorem ye1:zf8 .nilFunc=some .nilFunc:=rfl
@[go_sem] theorem yak:zf8 (.slice none 0 0)=some .sl0:=rfl
@[go_sem] theorem zV3:zf8 (.pointer none)=some .ptr0:=rfl
@[go_sem] theorem ych:zf8 (.map none)=some .map0:=rfl
@[go_sem] theorem zXb:zf8 .nilIface=some .nilIface:=rfl
@[go_sem] theorem ya0:zb2 G tm []=some []:=rfl
@[go_sem] theorem yal (o:Operand)(l:List Operand):zb2 G tm (o::l)=match evO G tm o with
 |some a=>match zb2 G tm l with
  |some l=>some (a::l)
  |none=>none
 |none=>none:=rfl
@[go_sem] theorem zYe:ze7 G tm []=some []:=rfl
@[go_sem] theorem zZf (i:Nat)(o:Operand)(l:List (Nat×Operand)):ze7 G tm ((i,o)::l)=match evO G tm o with
 |some a=>match ze7 G tm l with
  |some l=>some ((i,a)::l)
  |none=>none
 |none=>none:=rfl
end ev
attribute [go_sem] zdl zq6 zkl zlc zl0 zky pUn zkn zkv zlg zle zl2 zkd zlj zqo zl9 zgt zi5 zaf zfz zno
attribute [go_sem] zIl zN3 zJ3 zN1 zUx zIy zOj zO0 zK1 zRv zKo zuw zkj zUp zGb zwb newK_eq
attribute [go_sem] zcl zs5 fN_eq fI_eq Tr.get_put Tr.putK_eq bOf zxj AV.cells zvk zdk zna zu8
@[go_sem] theorem zW5 {α:Type}(k:Nat):(Tr.nil:Tr α).get k=none:=rfl
@[go_sem] theorem yd0 (c:Tr AV) (o:Nat):zbh [] c o=c:=rfl
@[go_sem] theorem zXx (v:AV)(l:List AV)(c:Tr AV) (o:Nat):zbh (v::l) c o=zbh l (c.put o (some v)) (o+1):=rfl
def zo6 (B:Option ABlk)(ag:Bool) (size o:Nat)(h:Tr ABlk) (nx:Nat):R:=match B with
 |some (.cells _ n c _ _)=>
  match ag with
  |true=>
   match Nat.ble (Nat.add o size) n with
   |true=>match zci c size o with |some l=>.val (.agg l) h nx |none=>.fail
   |false=>.fail
  |false=>match Nat.ble (Nat.succ o) n with
   |true=>match c.get o with |some v=>.val v h nx |none=>.fail
   |false=>.fail
 |_=>.fail
@[go_sem] theorem yaf (d:TypeDesc) (size b:Nat)(z:Option AV)(fs:List (Nat×Nat×Bool)) (i o:Nat)(h:Tr ABlk) (nx:Nat):zcv (.mk d size b z fs) (.ptr i o) h nx=zo6 (h.get i) (isA d) size o h nx:=rfl
@[go_sem] theorem zWp (t:TypeId)(l:List AV)(opn:Bool) (esz size o:Nat)(h:Tr ABlk) (nx:Nat)(hl:o+size≤l.length):zo6 (some (bx t l opn esz)) true size o h nx=.val (.agg ((l.drop o).take size)) h nx:=by
 simp[zo6,bx,zcl,hl,zpj l size o hl]
@[go_sem] theorem zZm (t:TypeId)(l:List AV)(opn:Bool) (esz size o:Nat)(h:Tr ABlk) (nx:Nat)(hl:o<l.length):zo6 (some (bx t l opn esz)) false size o h nx=.val (l[o]) h nx:=by
 simp[zo6,bx,zcl,zbt,Nat.succ_le_of_lt hl,hl]
@[go_sem] theorem yed (fl:Array Field) (size b:Nat)(z:Option AV)(fs:List (Nat×Nat×Bool))(cs:List AV)(h:Tr ABlk) (nx:Nat)(hl:size≤cs.length):zcv (.mk (.struct fl) size b z fs) (.ip cs) h nx=.val (.agg (cs.take size)) h nx:=by
 simp[zcv,isA,zcl,hl]
@[go_sem] theorem ycp (fl:Array Field):isA (.struct fl)=true:=rfl
@[go_sem] theorem zWc (n:Nat)(e:TypeId):isA (.array n e)=true:=rfl
@[go_sem] theorem zX0 (k:IntKind):isA (.int k)=false:=rfl
@[go_sem] theorem zV6:isA .string=false:=rfl
@[go_sem] theorem yc7:isA .bool=false:=rfl
@[go_sem] theorem zZs (e:TypeId):isA (.slice e)=false:=rfl
@[go_sem] theorem zZn (e:TypeId):isA (.pointer e)=false:=rfl
@[go_sem] theorem ydd (e k:TypeId):isA (.map e k)=false:=rfl
@[go_sem] theorem zWj (x y:Array TypeId)(z:Bool):isA (.func x y z)=false:=rfl
theorem zTo (d:TypeDesc) (size b:Nat)(z:Option AV)(fs:List (Nat×Nat×Bool))(v:AV)(cs:List AV)(h:Tr ABlk) (nx:Nat)(hd:isA d=false):zcv (.mk d size b z fs) (.ip (v::cs)) h nx=.val v h nx:=by
 simp[zcv,hd]
attribute [go_sem] zTo
def zw5 (B:Option ABlk) (i o size:Nat)(v:AV)(h:Tr ABlk) (nx:Nat):R:=
 match B with
 |some (.cells e n c opn esz)=>
  match zba v.cells && Nat.beq v.cells.length size && Nat.ble (Nat.add o size) n with
  |true=>.unit (h.put i (some (bx e (za3 (toL c n) o v.cells) opn esz))) nx
  |false=>.fail
 |_=>.fail
@[go_sem] theorem zYk (d:TypeDesc) (size b:Nat)(z:Option AV)(fs:List (Nat×Nat×Bool)) (i o:Nat)(v:AV)(h:Tr ABlk) (nx:Nat):zq7 (.mk d size b z fs) (.ptr i o) v h nx=zw5 (h.get i) i o size v h nx:=rfl
@[go_sem] theorem zY7 (t:TypeId)(l:List AV)(opn:Bool) (esz i o size:Nat)(v:AV)(h:Tr ABlk) (nx:Nat)(h1:zba v.cells=true)(h2:v.cells.length=size)(h3:o+size≤l.length):
  zw5 (some (bx t l opn esz)) i o size v h nx=.unit (h.put i (some (bx t (za3 l o v.cells) opn esz))) nx:=by
 simp[zw5,bx,h1,h2,zs5,zcl,h3,zKg]
@[go_sem] theorem ya2 (l c:List AV)(hl:c.length=l.length):za3 l 0 c=c:=by
 show l.take 0++(c++l.drop (Nat.add 0 c.length))=c
 have:Nat.add 0 c.length=l.length:=by show 0+c.length=_;omega
 rw[this]
 simp
@[go_sem] theorem ydl:zba []=true:=rfl
@[go_sem] theorem zVn (v:AV)(l:List AV):zba (v::l)=(v.one && zba l):=by
 show (match v.one with |true=>zba l |false=>false)=_
 cases v.one <;> rfl
attribute [go_sem] AV.one
attribute [go_sem] zif zim zkx ziu zsv zh5 zm5 zir zic zpr zix zh6 zdj zay zj3 zis eqV zdz zbj zdk
theorem zQ9 (l:List AV) (o:Nat)(c:List AV):za3 l o c=l.take o++(c++l.drop (o+c.length)):=rfl
attribute [go_sem] zvh zmx zw7 zv7 zac zr0 isU zj7 scal zep
@[go_sem] theorem yee (place:Nat→Option (Nat×Nat))(l:List AV):zgj place [] l=some l:=rfl
@[go_sem] theorem zWl (d:TypeDesc)(k:AV) (i:Nat):ze8 d k [] i=some none:=rfl
@[go_sem] theorem zzh (z:List AV):zdi z 0=[]:=rfl
@[go_sem] theorem zyx (z:List AV) (n:Nat):zdi z (n+1)=z++zdi z n:=rfl
@[go_sem] theorem zD6 (e:TypeId) (size b:Nat)(z:Option AV) (x:Nat) (s:Nat)(y:Bool)(fs:List (Nat×Nat×Bool)) (i o l cp:Nat)(opn:Bool)(k:IntKind) (n:Nat)(h:Tr ABlk) (nx:Nat)(hn:n<l):
  zd3 (.mk (.slice e) size b z ((x,s,y)::fs)) (.sl i o l cp opn) (.int k (n:Int)) h nx=.val (.ptr i (o+n * s)) h nx:=by
 simp[zd3,zkj,zcl,Nat.succ_le_of_lt hn,fN_eq]
@[go_sem] theorem zvf (e:TypeId) (size b:Nat)(z:Option AV) (x:Nat) (s:Nat)(y:Bool)(fs:List (Nat×Nat×Bool))(full:Bool)(xs:List AV)(k:IntKind) (n:Nat)(h:Tr ABlk) (nx:Nat)(hn:n<xs.length):
  zd3 (.mk (.slice e) size b z ((x,s,y)::fs)) (.fz s full xs) (.int k (n:Int)) h nx=.val (.ip (xs[n]).cells) h nx:=by
 simp[zd3,zkj,zs5,hn]
@[go_sem] theorem zYr (size b:Nat)(z:Option AV)(fs:List (Nat×Nat×Bool))(v:ByteArray)(h:Tr ABlk) (nx:Nat):zdu (.mk .string size b z fs) (.bs v) h nx=.val (.int .i64 (v.size:Int)) h nx:=rfl
@[go_sem] theorem zYs (e:TypeId) (size b:Nat)(z:Option AV)(fs:List (Nat×Nat×Bool)) (es:Nat)(full:Bool)(xs:List AV)(h:Tr ABlk) (nx:Nat):zdu (.mk (.slice e) size b z fs) (.fz es full xs) h nx=.val (.int .i64 (xs.length:Int)) h nx:=rfl
@[go_sem] theorem zo8 (e:TypeId) (size b:Nat)(z:Option AV)(fs:List (Nat×Nat×Bool)) (i o l cp:Nat)(opn:Bool)(h:Tr ABlk) (nx:Nat):zdu (.mk (.slice e) size b z fs) (.sl i o l cp opn) h nx=.val (.int .i64 (l:Int)) h nx:=zwb _ _ _
@[go_sem] theorem znk (e:TypeId) (size b:Nat)(z:Option AV)(fs:List (Nat×Nat×Bool))(h:Tr ABlk) (nx:Nat):zdu (.mk (.slice e) size b z fs) .sl0 h nx=.val (.int .i64 0) h nx:=zwb _ _ _
@[go_sem] theorem zU3 (size b:Nat)(z:Option AV)(fs:List (Nat×Nat×Bool))(v:ByteArray)(k:IntKind) (n:Nat)(h:Tr ABlk) (nx:Nat)(hn:n<v.size):zh4 (.mk .string size b z fs) (.bs v) (.int k (n:Int)) h nx=.val (.int .u8 ((v[n]).toNat:Int)) h nx:=by
 have:v[n]?=some v[n]:=by simp[hn]
 simp[zh4,zkj,this]
theorem zab (x:Int)(h1:-9223372036854775808≤x)(h2:x≤9223372036854775807):IntKind.i64.wrap x=x:=by
 have:=IntWalk.i64_in x
 exact this (by omega)
def zkp (r:Option (List AV))(R:AV→Tr ABlk→Nat→Prop)(h:Tr ABlk) (nx:Nat):Prop:=match r with
 |some l=>R (zf3 l) h nx
 |none=>False
@[go_sem] theorem ybr (rs:List ResultVar)(R:AV→Tr ABlk→Nat→Prop)(tm:Tr AV)(h:Tr ABlk) (nx:Nat):zj8 c rs R .ret (.mk tm h nx [])=zkp (zco c tm h nx rs) R h nx:=by
 simp only[zj8,zl7,zkp,zks,zgb,true_and]
 cases zco c tm h nx rs <;> rfl
@[go_sem] theorem zZx (rs:List ResultVar)(R:AV→Tr ABlk→Nat→Prop)(tm:Tr AV)(h:Tr ABlk) (nx:Nat):zj8 c rs R .norm (.mk tm h nx [])=zkp (zco c tm h nx rs) R h nx:=by
 simp only[zj8,zl7,zkp,zks,zgb,true_and]
 cases zco c tm h nx rs <;> rfl
@[go_sem] theorem ydn (rs:List ResultVar)(R:AV→Tr ABlk→Nat→Prop)(tm:Tr AV)(h:Tr ABlk) (nx i:Nat)(hi:h.get i=some .dfr):zj8 c rs R .ret (.mk tm h nx [.mark i])=zkp (zco c tm (h.put i none) nx rs) R (h.put i none) nx:=by
 simp only[zj8,zl7,zkp,zks,zgb,hi,true_and]
 cases zco c tm (h.put i none) nx rs <;> rfl
@[go_sem] theorem yd6 (tm:Tr AV)(h:Tr ABlk) (nx:Nat):zco c tm h nx []=some []:=rfl
@[go_sem] theorem zWw (tm:Tr AV)(h:Tr ABlk) (nx:Nat)(t:Tmp)(l:List ResultVar):zco c tm h nx (.tmp t::l)=match tm.get t with
 |some v=>match zco c tm h nx l with
  |some l=>some (v::l)
  |none=>none
 |none=>none:=rfl
def zFe (r:R):Option AV:=match r with
 |.val v _ _=>some v
 |_=>none
@[go_sem] theorem ybb (v:AV)(h:Tr ABlk) (nx:Nat):zFe (.val v h nx)=some v:=rfl
@[go_sem] theorem yb9 (tm:Tr AV)(h:Tr ABlk) (nx:Nat)(a:Tmp)(t:TypeId)(l:List ResultVar):zco c tm h nx (.cell a t::l)=match tm.get a with
 |some p=>match c.tt.get t with
  |some ti=>match zFe (zcv ti p h nx) with
   |some v=>match zco c tm h nx l with
    |some l=>some (v::l)
    |none=>none
   |none=>none
  |none=>none
 |none=>none:=by
 simp only[zco,zok]
 cases tm.get a with
 |none=>rfl
 |some p=>
  cases c.tt.get t with
  |none=>rfl
  |some ti=>
   simp only
   cases zcv ti p h nx <;> rfl
@[go_sem] theorem ydh (l:List AV)(R:AV→Tr ABlk→Nat→Prop)(h:Tr ABlk) (nx:Nat):zkp (some l) R h nx=R (zf3 l) h nx:=rfl
@[go_sem] theorem zZ7 (v:AV):zf3 [v]=v:=rfl
@[go_sem] theorem ycy (u v:AV)(l:List AV):zf3 (u::v::l)=.tup (u::v::l):=rfl
@[go_sem] theorem yb6:zf3 []=.tup []:=rfl
mutual
def plain:AV→Bool
 |.ptr _ _=>false
 |.sl _ _ _ _ _=>false
 |.map _=>false
 |.yld _=>false
 |.agg l=>zah l
 |.tup l=>zah l
 |.iface _ v=>plain v
 |.func _ l m=>zah l && zah m
 |.ip l=>zah l
 |.fz _ _ l=>zah l
 |_=>true
def zah:List AV→Bool
 |[]=>true
 |v::l=>plain v && zah l
end
mutual
theorem Fz.same {g:Tr ABlk}{nx:Nat}:∀(v:AV),plain v=true→Fz g nx v v
 |.bool b,_=>.bool b
 |.int k n,_=>.int k n
 |.str l n,_=>.str l n
 |.bs b,_=>.bs b
 |.ptr0,_=>.ptr0
 |.sl0,_=>.sl0
 |.map0,_=>.map0
 |.nilFunc,_=>.nilFunc
 |.nilIface,_=>.nilIface
 |.opq n,_=>.opq n
 |.ptr _ _,h=>by simp[plain]at h
 |.sl _ _ _ _ _,h=>by simp[plain]at h
 |.map _,h=>by simp[plain]at h
 |.yld _,h=>by simp[plain]at h
 |.agg l,h=>.agg l l (FzL.same l (by simpa[plain]using h))
 |.tup l,h=>.tup l l (FzL.same l (by simpa[plain]using h))
 |.iface t v,h=>.iface t v v (Fz.same v (by simpa[plain]using h))
 |.func f l m,h=>by
  simp only[plain,Bool.and_eq_true]at h
  exact .func f l l m m (FzL.same l h.1) (FzL.same m h.2)
 |.ip l,h=>.ip l l (FzL.same l (by simpa[plain]using h))
 |.fz es full l,h=>.fz es full l l (FzL.same l (by simpa[plain]using h))
theorem FzL.same {g:Tr ABlk}{nx:Nat}:∀(l:List AV),zah l=true→FzL g nx l l
 |[],_=>.nil
 |v::l,h=>by
  simp only[zah,Bool.and_eq_true]at h
  exact .cons v v l l (Fz.same v h.1) (FzL.same l h.2)
end
theorem Fz.eq {g:Tr ABlk}{nx:Nat}{v u:AV}(hp:plain u=true)(e:v=u):Fz g nx v u:=by subst e;exact Fz.same v hp
end walk
end
end Go.Ev
namespace Go.Ev
noncomputable section
variable {P : Program} {c : Cx} {sz : Nat} {s : AS}
section
variable (ops : List Oper) (Wl Cl : List Nat) (U : List (Nat × Nat)) (K : AS → Prop) (i : Nat) (hs : Nat → Tr ABlk) (tm : Tr AV) (h : Tr ABlk) (nx : Nat) (ds : List DE)
@[go_sem ↓] theorem yaj:awD P c sz ops Wl Cl U K [] i hs s=K s:=rfl
@[go_sem ↓] theorem zXd (o:Oper)(l:List Oper):awD P c sz ops Wl Cl U K (o::l) i hs s=zf9 P c sz ops Wl Cl U i hs o (awD P c sz ops Wl Cl U K l (i+1)) s:=rfl
def znd (P:Program)(c:Cx) (sz:Nat)(ops:List Oper)(Wl:List Nat)(U:List (Nat×Nat)) (i:Nat)(hs:Nat→Tr ABlk)(dst:Option Tmp)(op:Op)(K:(Nat→Tr ABlk)→AS→Prop)(tm:Tr AV)(h:Tr ABlk) (nx:Nat)(ds:List DE)(C W:Bool):Prop:=match C with
 |true=>znl P c ops Wl i h nx (zdo op) tm fun u=>zb0 sz dst u (.mk tm h nx ds) (K fun j=>if j=i then h else hs j)
 |false=>match W with
  |true=>zlf c sz ops U i dst tm h ds (K fun j=>if j=i then h else hs j) (opD c op tm h nx)
  |false=>zkw c sz ops U i dst tm h nx ds hs (K fun j=>if j=i then h else hs j) (opD c op tm h nx)
@[go_sem ↓] theorem ycb (KK:(Nat→Tr ABlk)→AS→Prop)(dst:Option Tmp)(op:Op)(ty:TypeId)(pos:String)(aft:Array Edge):zf9 P c sz ops Wl Cl U i hs ⟨dst,op,ty,pos,aft,none⟩ KK (.mk tm h nx ds)=znd P c sz ops Wl U i hs dst op KK tm h nx ds (inL i Cl) (inL i Wl):=rfl
@[go_sem] theorem ybc (i:Nat):inL i []=false:=rfl
@[go_sem] theorem zYz (i a:Nat)(l:List Nat):inL i (a::l)=(decide (i=a) || inL i l):=by
 simp only[inL,zs5]
 cases decide (i=a) <;> rfl
def zq0 (P:Program)(c:Cx)(ops:List Oper)(Wl:List Nat) (i:Nat)(h:Tr ABlk) (nx:Nat)(fid:FuncId)(args:List AV)(K:AV→Prop):Prop:=∃u,(Ret P c fid args u∨(zgo ops Wl i=true∧za7 P c fid args h nx fun v g ny=>v=u∧g=h∧ny=nx))∧K u
variable {ops Wl i h nx} in
theorem zbm {fid:FuncId}{args:List AV}{K':AV→Prop}{u:AV}(hr:Ret P c fid args u)(hK:K' u):zq0 P c ops Wl i h nx fid args K':=⟨u,.inl hr,hK⟩
variable {ops Wl i h nx} in
theorem zKp {fid:FuncId}{args:List AV}{K':AV→Prop}{u:AV}(ho:zgo ops Wl i=true)(hr:za7 P c fid args h nx fun v g ny=>v=u∧g=h∧ny=nx)(hK:K' u):zq0 P c ops Wl i h nx fid args K':=⟨u,.inr ⟨ho,hr⟩,hK⟩
def ztj (P:Program)(c:Cx)(ops:List Oper)(Wl:List Nat) (i:Nat)(h:Tr ABlk) (nx:Nat)(f:Option AV)(l:Option (List AV))(K:AV→Prop):Prop:=match f with
 |some (.func fid first cap)=>match l with
  |some l=>zq0 P c ops Wl i h nx fid (first++(l++cap)) K
  |none=>False
 |_=>False
@[go_sem] theorem zZ3 (fid:FuncId)(first cap l:List AV)(K':AV→Prop):ztj P c ops Wl i h nx (some (.func fid first cap)) (some l) K'=zq0 P c ops Wl i h nx fid (first++(l++cap)) K':=rfl
@[go_sem] theorem zXy (KK:(Nat→Tr ABlk)→AS→Prop)(dst:Option Tmp)(f:Operand)(args:List Operand)(ats:Array TypeId)(W:Bool):znd P c sz ops Wl U i hs dst (.call ⟨.value f,args.toArray,ats⟩) KK tm h nx ds true W=ztj P c ops Wl i h nx (evO c.G tm f) (zb2 c.G tm args) (fun u=>zb0 sz dst u (.mk tm h nx ds) (KK fun j=>if j=i then h else hs j)):=by
 simp only[znd,znl,zdo,ztj]
 cases evO c.G tm f with
 |none=>rfl
 |some fv=>
  cases fv <;> first |rfl |(cases zb2 c.G tm args <;> rfl)
@[go_sem] theorem yc3 (KK:(Nat→Tr ABlk)→AS→Prop)(dst:Option Tmp)(op:Op):znd P c sz ops Wl U i hs dst op KK tm h nx ds false true=zlf c sz ops U i dst tm h ds (KK fun j=>if j=i then h else hs j) (opD c op tm h nx):=rfl
@[go_sem] theorem zX1 (KK:(Nat→Tr ABlk)→AS→Prop)(dst:Option Tmp)(op:Op):znd P c sz ops Wl U i hs dst op KK tm h nx ds false false=zkw c sz ops U i dst tm h nx ds hs (KK fun j=>if j=i then h else hs j) (opD c op tm h nx):=rfl
@[go_sem] theorem zYy (d:Nat)(v:AV)(h':Tr ABlk) (nx':Nat):zkw c sz ops U i (some d) tm h nx ds hs K (.val v h' nx')=(zjd c ops i tm hs h U∧(d<sz∧K (.mk (tm.put d (some v)) h nx ds))):=rfl
@[go_sem] theorem zWq (v:AV)(h':Tr ABlk) (nx':Nat):zkw c sz ops U i none tm h nx ds hs K (.val v h' nx')=(zjd c ops i tm hs h U∧K (.mk tm h nx ds)):=rfl
@[go_sem] theorem zV5 (d:Nat)(v:AV)(h':Tr ABlk) (nx':Nat):zlf c sz ops U i (some d) tm h ds K (.val v h' nx')=(zik c ops i tm h h' U∧(d<sz∧K (.mk (tm.put d (some v)) h' nx' ds))):=rfl
@[go_sem] theorem zYq (h':Tr ABlk) (nx':Nat):zlf c sz ops U i none tm h ds K (.unit h' nx')=(zik c ops i tm h h' U∧K (.mk tm h' nx' ds)):=rfl
@[go_sem] theorem ycx:zjd c ops i tm hs h []=True:=rfl
@[go_sem] theorem yd3 (h':Tr ABlk):zik c ops i tm h h' []=True:=rfl
theorem zas (d:Nat)(v:AV):zb0 sz (some d) v s K=(d<sz∧K (match s with |.mk tm h nx ds=>.mk (tm.put d (some v)) h nx ds)):=rfl
@[go_sem] theorem zYn (x:Operand):opD c (.move x) tm h nx=zdl c x tm h nx:=rfl
@[go_sem] theorem ydg (x:Operand):opD c (.assign x) tm h nx=zdl c x tm h nx:=rfl
@[go_sem] theorem zXk (e:TypeId):opD c (.alloc e) tm h nx=zq6 c e tm h nx:=rfl
@[go_sem] theorem ybl (e:TypeId)(x:Operand):opD c (.box e x) tm h nx=zkl c e x tm h nx:=rfl
@[go_sem] theorem yap (t:TypeId)(x:Operand):opD c (.load t x) tm h nx=zlc c t x tm h nx:=rfl
@[go_sem] theorem zY9 (t:TypeId)(x y:Operand):opD c (.store t x y) tm h nx=zl0 c t x y tm h nx:=rfl
@[go_sem] theorem zWy (op:BinOp)(t t':TypeId)(x y:Operand):opD c (.binOp op t x y t') tm h nx=zky c op t x y tm h nx:=rfl
@[go_sem] theorem zVl (op:UnOp)(t:TypeId)(x:Operand):opD c (.unOp op t x) tm h nx=pUn c op x tm h nx:=rfl
@[go_sem] theorem yc4 (t:TypeId)(x:Operand) (k:Nat):opD c (.fieldAddr t x k) tm h nx=zkn c t x k tm h nx:=rfl
@[go_sem] theorem zY4 (t:TypeId)(x:Operand) (k:Nat):opD c (.field t x k) tm h nx=zkv c t x k tm h nx:=rfl
@[go_sem] theorem yea (t:TypeId)(x i:Operand):opD c (.indexAddr t x i) tm h nx=zlg c t x i tm h nx:=rfl
@[go_sem] theorem ybw (t:TypeId)(x i:Operand):opD c (.index t x i) tm h nx=zle c t x i tm h nx:=rfl
@[go_sem] theorem zXj (x:Operand) (k:Nat):opD c (.extract x k) tm h nx=zl2 c x k tm h nx:=rfl
@[go_sem] theorem zZu (x:Operand):opD c (.nilCheck x) tm h nx=zkd c x tm h nx:=rfl
@[go_sem] theorem yac (t u:TypeId)(x:Operand):opD c (.convert t u x) tm h nx=zfz c t u x tm h nx:=rfl
@[go_sem] theorem yd7 (t:TypeId)(x:Operand)(lo hi mx:Option Operand):opD c (.slice t x lo hi mx) tm h nx=zlj c t x lo hi mx tm h nx:=rfl
@[go_sem] theorem yat (t:TypeId)(m k:Operand)(ok:Bool):opD c (.lookup t m k ok) tm h nx=zl9 c t m k ok tm h nx:=rfl
@[go_sem] theorem zXt (t:TypeId)(m k v:Operand):opD c (.mapUpdate t m k v) tm h nx=zgt c t m k v tm h nx:=rfl
@[go_sem] theorem yce (x y z:Operand):opD c (.pick x y z) tm h nx=zaf c x y z tm h nx:=rfl
@[go_sem] theorem zXu (t:TypeId)(q:Option Operand):opD c (.makeMap t q) tm h nx=zqo q tm h nx:=rfl
@[go_sem] theorem yar (t:TypeId)(ps:List (Nat×Operand)):opD c (.build t ps.toArray) tm h nx=(bR (c.tt.get t) fun ti=>bR (ze7 c.G tm ps) fun l=>zh5 ti l h nx):=rfl
@[go_sem] theorem ydr (t:TypeId) (n:Nat)(ps:List (Nat×Operand)):opD c (.buildSlice t n ps.toArray) tm h nx=(bR (c.tt.get t) fun ti=>bR (ze7 c.G tm ps) fun l=>zj1 ti (c.tt.get (zdk ti)) (zdk ti) n l h nx):=rfl
@[go_sem] theorem zV7 (f:FuncId)(x y:List Operand):opD c (.makeFunc (.func f) x.toArray y.toArray) tm h nx=(bR (zb2 c.G tm x) fun a=>bR (zb2 c.G tm y) fun b=>.val (.func f a b) h nx):=rfl
@[go_sem] theorem zZ6 (args:List Operand)(ats:List TypeId):opD c (.call ⟨.builtin .append,args.toArray,ats.toArray⟩) tm h nx=zi5 c ats args tm h nx:=rfl
@[go_sem] theorem ydx (b:Builtin)(args:List Operand)(ats:List TypeId)(hb:b≠.append):opD c (.call ⟨.builtin b,args.toArray,ats.toArray⟩) tm h nx=(bR (zb2 c.G tm args) fun l=>bOf c b ats.toArray l h nx):=by
 have:zqx ⟨.builtin b,args.toArray,ats.toArray⟩=false:=by cases b <;> first |rfl |exact absurd rfl hb
 simp[opD,zcp,this,zqv,zki]
attribute [go_sem] zj1 zm1
def zjv (ops:List Oper) (j:Nat):Option Tmp:=(ops[j]?).bind (·.dst)
@[go_sem] theorem zZq (dst:Option Tmp)(op:Op)(ty:TypeId)(pos:String)(aft:Array Edge)(gd:Option (Nat×Bool))(l:List Oper):zjv (⟨dst,op,ty,pos,aft,gd⟩::l) 0=dst:=rfl
@[go_sem] theorem zX9 (o:Oper)(l:List Oper) (j:Nat):zjv (o::l) (j+1)=zjv l j:=by simp[zjv]
theorem zDb (j:Nat)(want:Bool)(dst:Option Tmp)(op:Op)(ty:TypeId)(pos:String)(aft:Array Edge)(F:Option Bool→Prop)(hF:F none=False):F (zbz ops tm ⟨dst,op,ty,pos,aft,some (j,want)⟩)=match zjv ops j with
  |none=>F (some false)
  |some d=>match tm.get d with
   |some (.bool b)=>if b=want then F (some true) else F (some false)
   |some (.tup _)=>F (some false)
   |_=>False:=by
 unfold zbz zjv
 simp only
 cases ops[j]? with
 |none=>rfl
 |some oj=>
  simp only[Option.bind_some]
  cases oj.dst with
  |none=>rfl
  |some d=>
   simp only
   cases tm.get d with
   |none=>exact hF
   |some v=>
    cases v <;> try exact hF
    ·rename_i b
     cases b <;> cases want <;> simp
    ·rfl
def zxc (P:Program)(c:Cx) (sz:Nat)(ops:List Oper)(d:Option Tmp)(want:Bool)(dst:Option Tmp)(op:Op)(ty:TypeId)(pos:String)(aft:Array Edge)(K:AS→Prop)(tm:Tr AV)(h:Tr ABlk) (nx:Nat)(ds:List DE):Prop:=match d with
 |none=>zb0 sz dst (.tup []) (.mk tm h nx ds) K
 |some d=>match tm.get d with
  |some (.bool b)=>if b=want then awS P c sz ops ⟨dst,op,ty,pos,aft,none⟩ K (.mk tm h nx ds) else zb0 sz dst (.tup []) (.mk tm h nx ds) K
  |some (.tup _)=>zb0 sz dst (.tup []) (.mk tm h nx ds) K
  |_=>False
def zd6 (P:Program)(c:Cx) (sz:Nat)(ops:List Oper)(g:Option AV)(want:Bool)(dst:Option Tmp)(op:Op)(ty:TypeId)(pos:String)(aft:Array Edge)(K:AS→Prop)(tm:Tr AV)(h:Tr ABlk) (nx:Nat)(ds:List DE):Prop:=match g with
 |some (.bool b)=>if b=want then awS P c sz ops ⟨dst,op,ty,pos,aft,none⟩ K (.mk tm h nx ds) else zb0 sz dst (.tup []) (.mk tm h nx ds) K
 |some (.tup _)=>zb0 sz dst (.tup []) (.mk tm h nx ds) K
 |_=>False
@[go_sem ↓] theorem yds (j:Nat)(want:Bool)(dst:Option Tmp)(op:Op)(ty:TypeId)(pos:String)(aft:Array Edge):awS P c sz ops ⟨dst,op,ty,pos,aft,some (j,want)⟩ K (.mk tm h nx ds)=zxc P c sz ops (zjv ops j) want dst op ty pos aft K tm h nx ds:=
 zDb (ops:=ops) (tm:=tm) j want dst op ty pos aft (fun b=>match b with
  |none=>False
  |some false=>zb0 sz dst (.tup []) (.mk tm h nx ds) K
  |some true=>opW P c sz op dst tm h nx ds K) rfl
section
variable (want : Bool) (dst : Option Tmp) (op : Op) (ty : TypeId) (pos : String) (aft : Array Edge)
@[go_sem] theorem ydy (d:Nat):zxc P c sz ops (some d) want dst op ty pos aft K tm h nx ds=zd6 P c sz ops (tm.get d) want dst op ty pos aft K tm h nx ds:=rfl
@[go_sem] theorem yb3:zd6 P c sz ops (some (.bool true)) true dst op ty pos aft K tm h nx ds=awS P c sz ops ⟨dst,op,ty,pos,aft,none⟩ K (.mk tm h nx ds):=by simp[zd6]
@[go_sem] theorem zW3:zd6 P c sz ops (some (.bool false)) false dst op ty pos aft K tm h nx ds=awS P c sz ops ⟨dst,op,ty,pos,aft,none⟩ K (.mk tm h nx ds):=by simp[zd6]
@[go_sem] theorem zWv:zd6 P c sz ops (some (.bool true)) false dst op ty pos aft K tm h nx ds=zb0 sz dst (.tup []) (.mk tm h nx ds) K:=by simp[zd6]
@[go_sem] theorem yeb:zd6 P c sz ops (some (.bool false)) true dst op ty pos aft K tm h nx ds=zb0 sz dst (.tup []) (.mk tm h nx ds) K:=by simp[zd6]
@[go_sem] theorem yd2 (l:List AV):zd6 P c sz ops (some (.tup l)) want dst op ty pos aft K tm h nx ds=zb0 sz dst (.tup []) (.mk tm h nx ds) K:=rfl
end
def zC2 (P:Program)(c:Cx) (sz:Nat)(ops:List Oper)(Wl Cl:List Nat)(U:List (Nat×Nat)) (i:Nat)(hs:Nat→Tr ABlk)(d:Option Tmp)(want:Bool)(dst:Option Tmp)(op:Op)(ty:TypeId)(pos:String)(aft:Array Edge)(K:(Nat→Tr ABlk)→AS→Prop)(tm:Tr AV)(h:Tr ABlk) (nx:Nat)(ds:List DE):Prop:=match d with
 |none=>zb0 sz dst (.tup []) (.mk tm h nx ds) (K fun j=>if j=i then h else hs j)
 |some d=>match tm.get d with
  |some (.bool b)=>if b=want then zf9 P c sz ops Wl Cl U i hs ⟨dst,op,ty,pos,aft,none⟩ K (.mk tm h nx ds) else zb0 sz dst (.tup []) (.mk tm h nx ds) (K fun j=>if j=i then h else hs j)
  |some (.tup _)=>zb0 sz dst (.tup []) (.mk tm h nx ds) (K fun j=>if j=i then h else hs j)
  |_=>False
def zi0 (P:Program)(c:Cx) (sz:Nat)(ops:List Oper)(Wl Cl:List Nat)(U:List (Nat×Nat)) (i:Nat)(hs:Nat→Tr ABlk)(g:Option AV)(want:Bool)(dst:Option Tmp)(op:Op)(ty:TypeId)(pos:String)(aft:Array Edge)(K:(Nat→Tr ABlk)→AS→Prop)(tm:Tr AV)(h:Tr ABlk) (nx:Nat)(ds:List DE):Prop:=match g with
 |some (.bool b)=>if b=want then zf9 P c sz ops Wl Cl U i hs ⟨dst,op,ty,pos,aft,none⟩ K (.mk tm h nx ds) else zb0 sz dst (.tup []) (.mk tm h nx ds) (K fun j=>if j=i then h else hs j)
 |some (.tup _)=>zb0 sz dst (.tup []) (.mk tm h nx ds) (K fun j=>if j=i then h else hs j)
 |_=>False
@[go_sem ↓] theorem yaz (j:Nat)(want:Bool)(KK:(Nat→Tr ABlk)→AS→Prop)(dst:Option Tmp)(op:Op)(ty:TypeId)(pos:String)(aft:Array Edge):zf9 P c sz ops Wl Cl U i hs ⟨dst,op,ty,pos,aft,some (j,want)⟩ KK (.mk tm h nx ds)=zC2 P c sz ops Wl Cl U i hs (zjv ops j) want dst op ty pos aft KK tm h nx ds:=
 zDb (ops:=ops) (tm:=tm) j want dst op ty pos aft (fun b=>match b with
  |none=>False
  |some false=>zb0 sz dst (.tup []) (.mk tm h nx ds) (KK fun j=>if j=i then h else hs j)
  |some true=>match inL i Cl with
   |true=>znl P c ops Wl i h nx (zdo op) tm fun u=>zb0 sz dst u (.mk tm h nx ds) (KK fun j=>if j=i then h else hs j)
   |false=>match inL i Wl with
    |true=>zlf c sz ops U i dst tm h ds (KK fun j=>if j=i then h else hs j) (opD c op tm h nx)
    |false=>zkw c sz ops U i dst tm h nx ds hs (KK fun j=>if j=i then h else hs j) (opD c op tm h nx)) rfl
section
variable (want : Bool) (dst : Option Tmp) (op : Op) (ty : TypeId) (pos : String) (aft : Array Edge) (KK : (Nat → Tr ABlk) → AS → Prop)
@[go_sem] theorem yah (d:Nat):zC2 P c sz ops Wl Cl U i hs (some d) want dst op ty pos aft KK tm h nx ds=zi0 P c sz ops Wl Cl U i hs (tm.get d) want dst op ty pos aft KK tm h nx ds:=rfl
@[go_sem] theorem ya3:zi0 P c sz ops Wl Cl U i hs (some (.bool true)) true dst op ty pos aft KK tm h nx ds=zf9 P c sz ops Wl Cl U i hs ⟨dst,op,ty,pos,aft,none⟩ KK (.mk tm h nx ds):=by simp[zi0]
@[go_sem] theorem yc5:zi0 P c sz ops Wl Cl U i hs (some (.bool false)) false dst op ty pos aft KK tm h nx ds=zf9 P c sz ops Wl Cl U i hs ⟨dst,op,ty,pos,aft,none⟩ KK (.mk tm h nx ds):=by simp[zi0]
@[go_sem] theorem zXg:zi0 P c sz ops Wl Cl U i hs (some (.bool true)) false dst op ty pos aft KK tm h nx ds=zb0 sz dst (.tup []) (.mk tm h nx ds) (KK fun j=>if j=i then h else hs j):=by simp[zi0]
@[go_sem] theorem ycc:zi0 P c sz ops Wl Cl U i hs (some (.bool false)) true dst op ty pos aft KK tm h nx ds=zb0 sz dst (.tup []) (.mk tm h nx ds) (KK fun j=>if j=i then h else hs j):=by simp[zi0]
@[go_sem] theorem zW4 (l:List AV):zi0 P c sz ops Wl Cl U i hs (some (.tup l)) want dst op ty pos aft KK tm h nx ds=zb0 sz dst (.tup []) (.mk tm h nx ds) (KK fun j=>if j=i then h else hs j):=rfl
end
@[go_sem] theorem zWn (d:Nat):zb0 sz (some d) (.tup []) s K=(d<sz∧K (match s with |.mk tm h nx ds=>.mk (tm.put d (some (.tup []))) h nx ds)):=rfl
end
end
end Go.Ev
namespace Go.Ev
noncomputable section
variable {P : Program} {c : Cx} {σ τ υ : Sg} {h g f : Tr ABlk} {nx ny nz sz : Nat} {w x y : World} {G : Gl}
theorem Ok.frz0 (hG:∀g cs,G.tab g=some cs→∀h n,FzL h n cs cs)(hk:Ok G σ h nx w):Ok G (σ.frz w h G.n) .nil nx w:=by
 have hle:∀b C,σ.imm b=some C→(σ.frz w h G.n).imm b=some C:=fun b C hb=>by simp only[Sg.frz];rw[hb]
 refine⟨fun i hi=>?_,hk.le,fun i hi=>?_,(fun i j b B B' h1=>by cases h1),(fun i B h1=>by cases h1),fun b C hb=>⟨?_,fun i B h1=>by cases h1⟩,fun i cs hi=>?_⟩
 ·simp only[Sg.frz];rw[if_pos hi];exact hk.glob i hi
 ·simp only[Sg.frz];rw[if_neg (by have:=hk.le;omega)]
 ·simp only[Sg.frz]at hb
  cases hi:σ.imm b with
  |some D=>
   rw[hi]at hb
   have e:D=C:=by simpa using hb
   subst e
   exact(hk.imm b D hi).1
  |none=>
   rw[hi]at hb
   simp only at hb
   split at hb
   ·split at hb
    ·rename_i C' t fr hh
     cases hb
     exact⟨t,fr,by simpa using hh⟩
    ·cases hb
   ·cases hb
 ·have:=hk.gl i cs hi
  exact Fz.rel hk (.ip cs cs (hG i cs hi h G.n)) _ this
mutual
def zev:AV→Bool
 |.bool _=>true
 |.int _ _=>true
 |.str _ _=>true
 |.bs _=>true
 |.ptr0=>true
 |.sl0=>true
 |.map0=>true
 |.nilFunc=>true
 |.nilIface=>true
 |.agg l=>zne l
 |.tup l=>zne l
 |_=>false
def zne:List AV→Bool
 |[]=>true
 |v::l=>zev v && zne l
end
mutual
theorem Rel.scal {σ τ:Sg}:∀(v:AV)(V:Value),zev v=true→Rel σ v V→Rel τ v V
 |.bool _,V,_,h=>by simpa only[Rel]using h
 |.int _ _,V,_,h=>by simpa only[Rel]using h
 |.str _ _,V,_,h=>by simpa only[Rel]using h
 |.bs _,V,_,h=>by simpa only[Rel]using h
 |.ptr0,V,_,h=>by simpa only[Rel]using h
 |.sl0,V,_,h=>by simpa only[Rel]using h
 |.map0,V,_,h=>by simpa only[Rel]using h
 |.nilFunc,V,_,h=>by simpa only[Rel]using h
 |.nilIface,V,_,h=>by simpa only[Rel]using h
 |.agg l,V,hs,h=>by
  simp only[Rel]at h ⊢
  obtain⟨L,e,q⟩:=h
  exact⟨L,e,za1.scal l L (by simpa[zev]using hs) q⟩
 |.tup l,V,hs,h=>by
  simp only[Rel]at h ⊢
  obtain⟨L,e,q⟩:=h
  exact⟨L,e,za1.scal l L (by simpa[zev]using hs) q⟩
 |.ptr _ _,V,hs,_=>by simp[zev]at hs
 |.ip _,V,hs,_=>by simp[zev]at hs
 |.sl _ _ _ _ _,V,hs,_=>by simp[zev]at hs
 |.fz _ _ _,V,hs,_=>by simp[zev]at hs
 |.map _,V,hs,_=>by simp[zev]at hs
 |.func _ _ _,V,hs,_=>by simp[zev]at hs
 |.iface _ _,V,hs,_=>by simp[zev]at hs
 |.opq _,V,hs,_=>by simp[zev]at hs
 |.yld _,V,hs,_=>by simp[zev]at hs
theorem za1.scal {σ τ:Sg}:∀(l:List AV)(L:List Value),zne l=true→za1 σ l L→za1 τ l L
 |[],L,_,h=>by simpa only[za1]using h
 |v::l,L,hs,h=>by
  simp only[zne,Bool.and_eq_true]at hs
  simp only[za1]at h ⊢
  obtain⟨V,L',e,q1,q2⟩:=h
  exact⟨V,L',e,Rel.scal v V hs.1 q1,za1.scal l L' hs.2 q2⟩
end
theorem Post.same (hk:Ok G σ h nx w)(e1:x.os=w.os)(e2:x.tape=w.tape)(e3:x.output=w.output)(e4:w.heap.size≤x.heap.size)(e5:∀b,b<w.heap.size→x.heap[b]?=w.heap[b]?):Post G σ h nx w σ h nx x:=by
 refine⟨⟨hk.glob,hk.le,hk.fresh,hk.inj,fun i B h1=>?_,fun b C hb=>⟨?_,(hk.imm b C hb).2⟩,hk.gl⟩,.refl σ,⟨e1,e2,e3,e4,fun b hb _=>e5 b hb,fun i B b h1 h2=>.inr ⟨i,B,h1,h2⟩,fun _ _ h=>.inl h⟩,Nat.le_refl _⟩
 ·obtain⟨b,o,q1,q2,q3⟩:=hk.blk i B h1
  exact⟨b,o,q1,by rw[e5 b (zl1 q2)];exact q2,q3⟩
 ·obtain⟨t,fr,q⟩:=(hk.imm b C hb).1
  exact⟨t,fr,by rw[e5 b (zl1 q)];exact q⟩
theorem Ret.borrow (hG:∀g cs,c.G.tab g=some cs→∀h n,FzL h n cs cs){fid:FuncId}{args args':List AV}{u:AV}(hr:Ret P c fid args' u)(hs:zev u=true)(hf:FzL h c.G.n args args'):za7 P c fid args h nx fun v g ny=>v=u∧g=h∧ny=nx:=by
 intro σ w A hk hA
 refine(hr .nil nx _ w A (hk.frz0 hG) (FzL.rel hk hf A hA)).mono fun V x q=>?_
 obtain⟨τ,v,g,ny,q1,q2,q3,q4,q5⟩:=q
 subst q3
 subst q4
 subst q5
 exact⟨σ,v,h,ny,q1.scal v V hs,Post.same hk q2.fr.os q2.fr.tape q2.fr.output q2.fr.size (fun b hb=>q2.fr.keep b hb fun i B hi=>by cases hi),rfl,rfl,rfl⟩
theorem Ret.useB (hG:∀g cs,c.G.tab g=some cs→∀h n,FzL h n cs cs){fid:FuncId}{args args':List AV}{u:AV}(hr:Ret P c fid args' u)(hs:zev u=true)(hf:FzL h c.G.n args args'){R:AV→Tr ABlk→Nat→Prop}(hR:R u h nx):za7 P c fid args h nx R:=
 (hr.borrow (nx:=nx) hG hs hf).mono fun v g ny ⟨e1,e2,e3⟩=>by subst e1;subst e2;subst e3;exact hR
end
end Go.Ev
