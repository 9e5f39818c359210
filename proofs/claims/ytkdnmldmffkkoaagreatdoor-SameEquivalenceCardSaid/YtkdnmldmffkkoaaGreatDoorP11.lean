/- Texts. -/
import Derived.Attr
import Derived.IntWalk
import Derived.Test.YtkdnmldmffkkoaaGreatDoorP10
set_option linter.unusedSimpArgs false
set_option linter.unusedVariables false
set_option maxRecDepth 100000
namespace Go.Ev
noncomputable section
theorem iL (a b:Nat):Nat.ble a b=decide (a≤b):=by
 cases e:Nat.ble a b with
 |true=>simp[ah e]
 |false=>
  simp
  rcases Nat.lt_or_ge b a with h |h
  ·exact h
  ·rw[Nat.ble_eq_true_of_le h]at e;cases e
theorem ZW (a b:Nat):Nat.beq a b=decide (a=b):=by
 cases e:Nat.beq a b with
 |true=>simp[ad e]
 |false=>simp[mX e]
theorem zGb (b:Bool)(h:Tr ABlk) (nx:Nat):vBool b h nx=.val (.bool b) h nx:=by cases b <;> rfl
theorem R9 (n:Nat)(h:Tr ABlk) (nx:Nat):vInt n h nx=.val (.int .i64 (n:Int)) h nx:=by simp[vInt,fN_eq]
theorem newK_eq (t:TypeId)(l:List AV)(h:Tr ABlk) (nx:Nat)(mk:Nat→AV):newK t l h nx mk=.val (mk nx) (h.put nx (some (bx t l false 0))) (nx+1):=by
 simp[newK,kY,fN_eq,Tr.putK_eq,bx]
theorem JP (l:List AV) (n o:Nat)(h:o+n≤l.length):iI (ef l .nil 0) n o=some ((l.drop o).take n):=by
 refine Q1 (by simp;omega) fun k hk=>?_;rw[pz,if_pos (by omega),Nat.sub_zero,List.getElem?_take,if_pos hk,List.getElem?_drop]
theorem zIl (k:IntKind) (a b:Int)(h:Tr ABlk) (nx:Nat):gK .add k a b h nx=.val (.int k (k.wrap (a+b))) h nx:=by simp[gK,fI_eq,pE]
theorem zN3 (k:IntKind) (a b:Int)(h:Tr ABlk) (nx:Nat):gK .sub k a b h nx=.val (.int k (k.wrap (a-b))) h nx:=by simp only[gK,fI_eq,pE];rfl
theorem zJ3 (k:IntKind) (a b:Int)(h:Tr ABlk) (nx:Nat):gK .mul k a b h nx=.val (.int k (k.wrap (a * b))) h nx:=by simp[gK,fI_eq,pE]
theorem zN1 (k:IntKind) (a b:Int)(h:Tr ABlk) (nx:Nat):gK .eql k a b h nx=.val (.bool (decide (a=b))) h nx:=by
 simp only[gK,rC];cases e:(a == b) <;> simp_all
theorem zUx (k:IntKind) (a b:Int)(h:Tr ABlk) (nx:Nat):gK .neq k a b h nx=.val (.bool (!decide (a=b))) h nx:=by
 simp only[gK,rC];cases e:(a == b) <;> simp_all
theorem zIy (k:IntKind) (a b:Int)(h:Tr ABlk) (nx:Nat):gK .lss k a b h nx=.val (.bool (decide (a<b))) h nx:=by
 simp only[gK,rp]
 by_cases e:a<b <;> simp[e]
theorem zOj (k:IntKind) (a b:Int)(h:Tr ABlk) (nx:Nat):gK .leq k a b h nx=.val (.bool (decide (a≤b))) h nx:=by
 simp only[gK,rp]
 by_cases e:a≤b
 ·simp[e,show ¬b<a by omega]
 ·simp[e,show b<a by omega]
theorem zO0 (k:IntKind) (a b:Int)(h:Tr ABlk) (nx:Nat):gK .gtr k a b h nx=.val (.bool (decide (b<a))) h nx:=by
 simp only[gK,rp]
 by_cases e:b<a <;> simp[e]
theorem zK1 (k:IntKind) (a b:Int)(h:Tr ABlk) (nx:Nat):gK .geq k a b h nx=.val (.bool (decide (b≤a))) h nx:=by
 simp only[gK,rp]
 by_cases e:b≤a
 ·simp[e,show ¬a<b by omega]
 ·simp[e,show a<b by omega]
theorem zRv (k k':IntKind) (a b:Int)(h:Tr ABlk) (nx:Nat):pC true [.int k a,.int k' b] h nx=.val (.int k (max a b)) h nx:=by
 simp only[pC,rp]
 by_cases e:a<b
 ·simp[e,Int.max_eq_right (Int.le_of_lt e)]
 ·simp[e,Int.max_eq_left (show b≤a by omega)]
theorem zKo (k k':IntKind) (a b:Int)(h:Tr ABlk) (nx:Nat):pC false [.int k a,.int k' b] h nx=.val (.int k (min a b)) h nx:=by
 simp only[pC,rp]
 by_cases e:b<a
 ·simp[e,Int.min_eq_right (Int.le_of_lt e)]
 ·simp[e,Int.min_eq_left (show a≤b by omega)]
theorem Q7 (k:IntKind):uE k k=true:=by cases k <;> rfl
theorem A9 (k:IntKind) (n:Nat):nK (.int k (n:Int))=some n:=rfl
theorem zUp (b:Bool)(h:Tr ABlk) (nx:Nat):uY .not (.bool b) h nx=.val (.bool (!b)) h nx:=by cases b <;> rfl
section walk
variable {P : Program} {c : Cx} {inr : Bool} {sz : Nat} {Q : AX → AS → Prop} {s : AS}
attribute [go_sem ↓] Nat.lt_irrefl
def A1 (v:Option AV)(A B:AS→Prop)(s:AS):Prop:=match v with
 |some (.bool t)=>(t=true→A s)∧(t=false→B s)
 |_=>False
def P0 (sz:Nat)(d:Option Tmp)(tm:Tr AV)(ds:List DE)(K:AS→Prop)(v:AV)(h:Tr ABlk) (nx:Nat):Prop:=cT sz d v (.mk tm h nx ds) K
@[go_sem ↓] theorem yc9:aw P c inr sz .skip Q s=Q .norm s:=rfl
@[go_sem ↓] theorem zWb (l:Nat):aw P c inr sz (.label l) Q s=Q .norm s:=rfl
@[go_sem ↓] theorem ybs (id:Nat)(l:List Oper):aw P c inr sz (.region id l.toArray false) Q s=gw P c sz l (Q .norm) l s:=rfl
@[go_sem ↓] theorem zZ9 (id:Nat)(l:List Oper):aw P c inr sz (.region id l.toArray true) Q s=AW P c inr sz (.region id l.toArray true) Q s:=rfl
@[go_sem ↓] theorem zZv (a b:Code):aw P c inr sz (.seq a b) Q s=aw P c inr sz a (xm (aw P c inr sz b Q) Q) s:=rfl
@[go_sem ↓] theorem zZz (x:Operand)(a b:Code):aw P c inr sz (.cond x a b) Q s=A1 (aM c.G s.tm x) (aw P c inr sz a Q) (aw P c inr sz b Q) s:=by
 unfold aw A1;rfl
@[go_sem ↓] theorem yan (id:Nat)(a:Code):aw P c inr sz (.block id a) Q s=aw P c inr sz a (wE id Q) s:=rfl
@[go_sem ↓] theorem ydq (a:Code):aw P c inr sz (.scope a) Q s=aw P c inr sz a Q s:=rfl
@[go_sem ↓] theorem yaq (id:Nat):aw P c inr sz (.exit id) Q s=Q (.exit id) s:=rfl
@[go_sem ↓] theorem zYp:aw P c inr sz .ret Q s=Q .ret s:=rfl
@[go_sem ↓] theorem yax (a:Code):aw P c inr sz (.loop a) Q s=AW P c inr sz (.loop a) Q s:=rfl
@[go_sem ↓] theorem ye7 (f:Operand)(ps:Array Tmp)(x y:Code):aw P c inr sz (.rangeFunc f ps x y) Q s=AW P c inr sz (.rangeFunc f ps x y) Q s:=rfl
@[go_sem] theorem zVh (A B:AS→Prop):A1 (some (.bool true)) A B s=A s:=by simp[A1]
@[go_sem] theorem zZ1 (A B:AS→Prop):A1 (some (.bool false)) A B s=B s:=by simp[A1]
theorem BI {t:Bool}{A B:AS→Prop}(h1:t=true→A s)(h2:t=false→B s):A1 (some (.bool t)) A B s:=⟨h1,h2⟩
@[go_sem ↓] theorem zXo (K:AS→Prop):xm K Q .norm s=K s:=rfl
@[go_sem ↓] theorem zVp (K:AS→Prop) (id:Nat):xm K Q (.exit id) s=Q (.exit id) s:=rfl
@[go_sem ↓] theorem ye2 (K:AS→Prop):xm K Q .ret s=Q .ret s:=rfl
@[go_sem ↓] theorem zXe (id:Nat):wE id Q .norm s=Q .norm s:=rfl
@[go_sem ↓] theorem ybj (id iS:Nat):wE id Q (.exit iS) s=if iS=id then Q .norm s else Q (.exit iS) s:=rfl
@[go_sem ↓] theorem ybp (id:Nat):wE id Q .ret s=Q .ret s:=rfl
@[go_sem ↓] theorem ydw (ops:List Oper)(K:AS→Prop):gw P c sz ops K [] s=K s:=rfl
@[go_sem ↓] theorem zVm (ops:List Oper)(K:AS→Prop)(o:Oper)(l:List Oper):gw P c sz ops K (o::l) s=cz P c sz ops o (gw P c sz ops K l) s:=rfl
section ops
variable (ops : List Oper) (K : AS → Prop) (dst : Option Tmp) (ty : TypeId) (pos : String) (aZ : Array Edge) (tm : Tr AV) (h : Tr ABlk) (nx : Nat) (ds : List DE)
@[go_sem ↓] theorem zY8 (f:Operand)(args:List Operand)(gO:Array TypeId):cz P c sz ops ⟨dst,.call ⟨.value f,args.toArray,gO⟩,ty,pos,aZ,none⟩ K (.mk tm h nx ds)=tA P c sz dst tm h nx ds K (aM c.G tm f) (cZ c.G tm args):=by
 simp[cz,sX,fY,kA]
@[go_sem ↓] theorem zV0 (b:Builtin)(args gO:List _)(hb:b≠.append):cz P c sz ops ⟨dst,.call ⟨.builtin b,List.toArray args,List.toArray gO⟩,ty,pos,aZ,none⟩ K (.mk tm h nx ds)=dp sz dst tm ds K (bR (cZ c.G tm args) fun l=>HK c b (List.toArray gO) l h nx):=by
 have:KC ⟨.builtin b,List.toArray args,List.toArray gO⟩=false:=by cases b <;> first |rfl |exact absurd rfl hb
 simp[cz,sX,fY,kA,gU,this,Kz,A8]
@[go_sem ↓] theorem yc0 (args:List Operand)(gO:List TypeId):cz P c sz ops ⟨dst,.call ⟨.builtin .append,args.toArray,gO.toArray⟩,ty,pos,aZ,none⟩ K (.mk tm h nx ds)=dp sz dst tm ds K (wD c gO args tm h nx):=by
 simp[cz,sX,fY,kA,gU,KC]
@[go_sem ↓] theorem zX5 (x:Operand):cz P c sz ops ⟨dst,.move x,ty,pos,aZ,none⟩ K (.mk tm h nx ds)=dp sz dst tm ds K (ku c x tm h nx):=rfl
@[go_sem ↓] theorem ye3 (x:Operand):cz P c sz ops ⟨dst,.assign x,ty,pos,aZ,none⟩ K (.mk tm h nx ds)=dp sz dst tm ds K (ku c x tm h nx):=rfl
@[go_sem ↓] theorem zYl (e:TypeId):cz P c sz ops ⟨dst,.alloc e,ty,pos,aZ,none⟩ K (.mk tm h nx ds)=dp sz dst tm ds K (J9 c e tm h nx):=rfl
@[go_sem ↓] theorem zZa (e:TypeId)(x:Operand):cz P c sz ops ⟨dst,.box e x,ty,pos,aZ,none⟩ K (.mk tm h nx ds)=dp sz dst tm ds K (Bb c e x tm h nx):=rfl
@[go_sem ↓] theorem yba (t:TypeId)(x:Operand):cz P c sz ops ⟨dst,.load t x,ty,pos,aZ,none⟩ K (.mk tm h nx ds)=dp sz dst tm ds K (By c t x tm h nx):=rfl
@[go_sem ↓] theorem ybi (t:TypeId)(x y:Operand):cz P c sz ops ⟨dst,.store t x y,ty,pos,aZ,none⟩ K (.mk tm h nx ds)=dp sz dst tm ds K (Bp c t x y tm h nx):=rfl
@[go_sem ↓] theorem yb1 (op:BinOp)(t t':TypeId)(x y:Operand):cz P c sz ops ⟨dst,.binOp op t x y t',ty,pos,aZ,none⟩ K (.mk tm h nx ds)=dp sz dst tm ds K (Bn c op t x y tm h nx):=rfl
@[go_sem ↓] theorem ya5 (op:UnOp)(t:TypeId)(x:Operand):cz P c sz ops ⟨dst,.unOp op t x,ty,pos,aZ,none⟩ K (.mk tm h nx ds)=dp sz dst tm ds K (AH c op x tm h nx):=rfl
@[go_sem ↓] theorem zXw (t:TypeId)(x:Operand) (k:Nat):cz P c sz ops ⟨dst,.fieldAddr t x k,ty,pos,aZ,none⟩ K (.mk tm h nx ds)=dp sz dst tm ds K (Bd c t x k tm h nx):=rfl
@[go_sem ↓] theorem zWu (t:TypeId)(x:Operand) (k:Nat):cz P c sz ops ⟨dst,.field t x k,ty,pos,aZ,none⟩ K (.mk tm h nx ds)=dp sz dst tm ds K (Bk c t x k tm h nx):=rfl
@[go_sem ↓] theorem zYu (t:TypeId)(x i:Operand):cz P c sz ops ⟨dst,.indexAddr t x i,ty,pos,aZ,none⟩ K (.mk tm h nx ds)=dp sz dst tm ds K (BC c t x i tm h nx):=rfl
@[go_sem ↓] theorem zWk (t:TypeId)(x i:Operand):cz P c sz ops ⟨dst,.index t x i,ty,pos,aZ,none⟩ K (.mk tm h nx ds)=dp sz dst tm ds K (BA c t x i tm h nx):=rfl
@[go_sem ↓] theorem yb7 (x:Operand) (k:Nat):cz P c sz ops ⟨dst,.extract x k,ty,pos,aZ,none⟩ K (.mk tm h nx ds)=dp sz dst tm ds K (Br c x k tm h nx):=rfl
@[go_sem ↓] theorem ydi (t:TypeId)(ps:List (Nat×Operand)):cz P c sz ops ⟨dst,.build t ps.toArray,ty,pos,aZ,none⟩ K (.mk tm h nx ds)=dp sz dst tm ds K (bR (c.tt.get t) fun ti=>bR (mi c.G tm ps) fun l=>tF ti l h nx):=rfl
@[go_sem ↓] theorem zYv (t:TypeId) (n:Nat)(ps:List (Nat×Operand)):cz P c sz ops ⟨dst,.buildSlice t n ps.toArray,ty,pos,aZ,none⟩ K (.mk tm h nx ds)=dp sz dst tm ds K (bR (c.tt.get t) fun ti=>bR (mi c.G tm ps) fun l=>Dg ti (c.tt.get (kr ti)) (kr ti) n l h nx):=rfl
@[go_sem ↓] theorem zW1 (x:Operand):cz P c sz ops ⟨dst,.nilCheck x,ty,pos,aZ,none⟩ K (.mk tm h nx ds)=dp sz dst tm ds K (A4 c x tm h nx):=rfl
@[go_sem ↓] theorem ycd (t u:TypeId)(x:Operand):cz P c sz ops ⟨dst,.convert t u x,ty,pos,aZ,none⟩ K (.mk tm h nx ds)=dp sz dst tm ds K (ra c t u x tm h nx):=rfl
@[go_sem ↓] theorem zZ5 (f:FuncId)(x y:List Operand):cz P c sz ops ⟨dst,.makeFunc (.func f) x.toArray y.toArray,ty,pos,aZ,none⟩ K (.mk tm h nx ds)=dp sz dst tm ds K (bR (cZ c.G tm x) fun a=>bR (cZ c.G tm y) fun b=>.val (.func f a b) h nx):=rfl
@[go_sem ↓] theorem ydu (t:TypeId)(x:Operand)(lo hi mx:Option Operand):cz P c sz ops ⟨dst,.slice t x lo hi mx,ty,pos,aZ,none⟩ K (.mk tm h nx ds)=dp sz dst tm ds K (BG c t x lo hi mx tm h nx):=rfl
@[go_sem ↓] theorem zWg (t:TypeId)(r:Option Operand):cz P c sz ops ⟨dst,.makeMap t r,ty,pos,aZ,none⟩ K (.mk tm h nx ds)=dp sz dst tm ds K (Kt r tm h nx):=rfl
def KW (b:Bool)(x y:R):R:=match b with
 |true=>x
 |false=>y
@[go_sem] theorem zZl (x y:R):KW true x y=x:=rfl
@[go_sem] theorem ycq (x y:R):KW false x y=y:=rfl
attribute [go_sem] uU YM Dj Df Hv qA
@[go_sem ↓] theorem zOx (t:TypeId)(m k:Operand)(ok:Bool):cz P c sz ops ⟨dst,.lookup t m k ok,ty,pos,aZ,none⟩ K (.mk tm h nx ds)=dp sz dst tm ds K (KW (uU c t) (Dj c t ok (aM c.G tm m) (aM c.G tm k) h nx) (Bw c t m k ok tm h nx)):=rfl
@[go_sem ↓] theorem ycg (t:TypeId)(x:Operand):cz P c sz ops ⟨dst,.range t x,ty,pos,aZ,none⟩ K (.mk tm h nx ds)=Yk c sz dst t x tm h nx ds K:=by
 rfl
@[go_sem ↓] theorem ybt (x:Operand):cz P c sz ops ⟨dst,.next x false,ty,pos,aZ,none⟩ K (.mk tm h nx ds)=WL c sz dst x tm h nx ds K:=by
 rfl
@[go_sem ↓] theorem zZp (x:Operand):cz P c sz ops ⟨dst,.entry x,ty,pos,aZ,none⟩ K (.mk tm h nx ds)=X1 c sz dst x tm h nx ds K:=by
 rfl
@[go_sem ↓] theorem yad (t:TypeId)(m k v:Operand):cz P c sz ops ⟨dst,.mapUpdate t m k v,ty,pos,aZ,none⟩ K (.mk tm h nx ds)=dp sz dst tm ds K (KW (uU c t) (Df c t (aM c.G tm m) (aM c.G tm k) (aM c.G tm v) h nx) (tr c t m k v tm h nx)):=rfl
@[go_sem ↓] theorem ybq (x y z:Operand):cz P c sz ops ⟨dst,.pick x y z,ty,pos,aZ,none⟩ K (.mk tm h nx ds)=dp sz dst tm ds K (dw c x y z tm h nx):=rfl
@[go_sem] theorem zVy (d:Nat)(v:AV):dp sz (some d) tm ds K (.val v h nx)=(d<sz∧K (.mk (tm.put d (some v)) h nx ds)):=rfl
@[go_sem] theorem ycw:dp sz none tm ds K (.unit h nx)=K (.mk tm h nx ds):=rfl
@[go_sem] theorem yc8 (v:AV):dp sz none tm ds K (.val v h nx)=K (.mk tm h nx ds):=rfl
@[go_sem] theorem zV8 (fid:FuncId)(first cap l:List AV):tA P c sz dst tm h nx ds K (some (.func fid first cap)) (some l)=aN P c fid (first++(l++cap)) h nx (P0 sz dst tm ds K):=rfl
@[go_sem] theorem zYo (i:Nat)(l:List AV):tA P c sz dst tm h nx ds K (some (.yld i)) (some l)=tl P c i l h nx (P0 sz dst tm ds K):=rfl
theorem aB (d:Nat)(v:AV):P0 sz (some d) tm ds K v h nx=(d<sz∧K (.mk (tm.put d (some v)) h nx ds)):=rfl
end ops
@[go_sem] theorem zXp (tm:Tr AV)(h:Tr ABlk) (nx:Nat)(ds:List DE):(AS.mk tm h nx ds).tm=tm:=rfl
@[go_sem] theorem ybg (tm:Tr AV)(h:Tr ABlk) (nx:Nat)(ds:List DE):(AS.mk tm h nx ds).h=h:=rfl
@[go_sem] theorem yd4 {α:Type}(a:α)(k:α→R):bR (some a) k=k a:=rfl
section ev
variable (G : Gl) (tm : Tr AV)
@[go_sem] theorem zXm (t:Tmp):aM G tm (.tmp t)=tm.get t:=rfl
@[go_sem] theorem ycm (f:FuncId):aM G tm (.func f)=some (.func f [] []):=rfl
theorem zR4 (v:Value)(hG:G.sym=true):aM G tm (.const v)=pA v:=by simp[aM,hG]
@[go_sem] theorem zY5 (k:IntKind) (n:Int):pA (.int k n)=some (.int k n):=rfl
@[go_sem] theorem zWh (b:Bool):pA (.bool b)=some (.bool b):=rfl
@[go_sem] theorem yco (b:ByteArray):pA (.string b)=some (.bs b):=rfl
@[go_sem] theorem ye1:pA .nilFunc=some .nilFunc:=rfl
@[go_sem] theorem yak:pA (.slice none 0 0)=some .sl0:=rfl
@[go_sem] theorem zV3:pA (.pointer none)=some .ptr0:=rfl
@[go_sem] theorem ych:pA (.map none)=some .map0:=rfl
@[go_sem] theorem zXb:pA .nilIface=some .nilIface:=rfl
@[go_sem] theorem ya0:cZ G tm []=some []:=rfl
@[go_sem] theorem yal (o:Operand)(l:List Operand):cZ G tm (o::l)=match aM G tm o with
 |some a=>match cZ G tm l with
  |some l=>some (a::l)
  |none=>none
 |none=>none:=rfl
@[go_sem] theorem zYe:mi G tm []=some []:=rfl
@[go_sem] theorem zZf (i:Nat)(o:Operand)(l:List (Nat×Operand)):mi G tm ((i,o)::l)=match aM G tm o with
 |some a=>match mi G tm l with
  |some l=>some ((i,a)::l)
  |none=>none
 |none=>none:=rfl
end ev
attribute [go_sem] ku J9 Bb By Bp Bn AH Bd Bk BC BA Br A4 BG Kt Bw tr wD dw ra GP
attribute [go_sem] zIl zN3 zJ3 zN1 zUx zIy zOj zO0 zK1 zRv zKo Q7 A9 zUp zGb R9 newK_eq
attribute [go_sem] iL ZW fN_eq fI_eq Tr.get_put Tr.putK_eq HK zxj AV.cells Ru kr GA QM
@[go_sem] theorem zW5 {α:Type}(k:Nat):(Tr.nil:Tr α).get k=none:=rfl
@[go_sem] theorem yd0 (c:Tr AV) (o:Nat):ef [] c o=c:=rfl
@[go_sem] theorem zXx (v:AV)(l:List AV)(c:Tr AV) (o:Nat):ef (v::l) c o=ef l (c.put o (some v)) (o+1):=rfl
def He (B:Option ABlk)(ag:Bool) (size o:Nat)(h:Tr ABlk) (nx:Nat):R:=match B with
 |some (.cells _ n c _ _)=>
  match ag with
  |true=>
   match Nat.ble (Nat.add o size) n with
   |true=>match iI c size o with |some l=>.val (.agg l) h nx |none=>.fail
   |false=>.fail
  |false=>match Nat.ble (Nat.succ o) n with
   |true=>match c.get o with |some v=>.val v h nx |none=>.fail
   |false=>.fail
 |_=>.fail
@[go_sem] theorem yaf (d:TypeDesc) (size b:Nat)(z:Option AV)(fs:List (Nat×Nat×Bool)) (i o:Nat)(h:Tr ABlk) (nx:Nat):jm (.mk d size b z fs) (.ptr i o) h nx=He (h.get i) (jN d) size o h nx:=rfl
@[go_sem] theorem zWp (t:TypeId)(l:List AV)(opn:Bool) (esz size o:Nat)(h:Tr ABlk) (nx:Nat)(hl:o+size≤l.length):He (some (bx t l opn esz)) true size o h nx=.val (.agg ((l.drop o).take size)) h nx:=by
 simp[He,bx,iL,hl,JP l size o hl]
@[go_sem] theorem zZm (t:TypeId)(l:List AV)(opn:Bool) (esz size o:Nat)(h:Tr ABlk) (nx:Nat)(hl:o<l.length):He (some (bx t l opn esz)) false size o h nx=.val (l[o]) h nx:=by
 simp[He,bx,iL,fx,Nat.succ_le_of_lt hl,hl]
@[go_sem] theorem yed (fl:Array Field) (size b:Nat)(z:Option AV)(fs:List (Nat×Nat×Bool))(cs:List AV)(h:Tr ABlk) (nx:Nat)(hl:size≤cs.length):jm (.mk (.struct fl) size b z fs) (.ip cs) h nx=.val (.agg (cs.take size)) h nx:=by
 simp[jm,jN,iL,hl]
@[go_sem] theorem ycp (fl:Array Field):jN (.struct fl)=true:=rfl
@[go_sem] theorem zWc (n:Nat)(e:TypeId):jN (.array n e)=true:=rfl
@[go_sem] theorem zX0 (k:IntKind):jN (.int k)=false:=rfl
@[go_sem] theorem zV6:jN .string=false:=rfl
@[go_sem] theorem yc7:jN .bool=false:=rfl
@[go_sem] theorem zZs (e:TypeId):jN (.slice e)=false:=rfl
@[go_sem] theorem zZn (e:TypeId):jN (.pointer e)=false:=rfl
@[go_sem] theorem ydd (e k:TypeId):jN (.map e k)=false:=rfl
@[go_sem] theorem zWj (x y:Array TypeId)(z:Bool):jN (.func x y z)=false:=rfl
theorem zTo (d:TypeDesc) (size b:Nat)(z:Option AV)(fs:List (Nat×Nat×Bool))(v:AV)(cs:List AV)(h:Tr ABlk) (nx:Nat)(hd:jN d=false):jm (.mk d size b z fs) (.ip (v::cs)) h nx=.val v h nx:=by
 simp[jm,hd]
attribute [go_sem] zTo
def RY (B:Option ABlk) (i o size:Nat)(v:AV)(h:Tr ABlk) (nx:Nat):R:=
 match B with
 |some (.cells e n c opn esz)=>
  match dB v.cells && Nat.beq v.cells.length size && Nat.ble (Nat.add o size) n with
  |true=>.unit (h.put i (some (bx e (aG (toL c n) o v.cells) opn esz))) nx
  |false=>.fail
 |_=>.fail
@[go_sem] theorem zYk (d:TypeDesc) (size b:Nat)(z:Option AV)(fs:List (Nat×Nat×Bool)) (i o:Nat)(v:AV)(h:Tr ABlk) (nx:Nat):Ka (.mk d size b z fs) (.ptr i o) v h nx=RY (h.get i) i o size v h nx:=rfl
@[go_sem] theorem zY7 (t:TypeId)(l:List AV)(opn:Bool) (esz i o size:Nat)(v:AV)(h:Tr ABlk) (nx:Nat)(h1:dB v.cells=true)(h2:v.cells.length=size)(h3:o+size≤l.length):
  RY (some (bx t l opn esz)) i o size v h nx=.unit (h.put i (some (bx t (aG l o v.cells) opn esz))) nx:=by
 simp[RY,bx,h1,h2,iL,h3,zKg]
@[go_sem] theorem ya2 (l c:List AV)(hl:c.length=l.length):aG l 0 c=c:=by
 show l.take 0++(c++l.drop (Nat.add 0 c.length))=c;have:Nat.add 0 c.length=l.length:=by show 0+c.length=_;omega
 rw[this];simp
@[go_sem] theorem ydl:dB []=true:=rfl
@[go_sem] theorem zVn (v:AV)(l:List AV):dB (v::l)=(v.one && dB l):=by
 show (match v.one with |true=>dB l |false=>false)=_;cases v.one <;> rfl
attribute [go_sem] AV.one
attribute [go_sem] wM wR Bm wZ P1 tF Dg wW wJ JY w9 tG kp ep xf wX zc lR gH kr
theorem zQ9 (l:List AV) (o:Nat)(c:List AV):aG l o c=l.take o++(c++l.drop (o+c.length)):=rfl
attribute [go_sem] Rr DH R0 Rh bP KF Ay xl scal nP
@[go_sem] theorem yee (place:Nat→Option (Nat×Nat))(l:List AV):rD place [] l=some l:=rfl
@[go_sem] theorem zWl (d:TypeDesc)(k:AV) (i:Nat):mj d k [] i=some none:=rfl
@[go_sem] theorem zzh (z:List AV):ko z 0=[]:=rfl
@[go_sem] theorem zyx (z:List AV) (n:Nat):ko z (n+1)=z++ko z n:=rfl
@[go_sem] theorem Ym (e:TypeId) (size b:Nat)(z:Option AV) (x:Nat) (s:Nat)(y:Bool)(fs:List (Nat×Nat×Bool)) (i o l cp:Nat)(opn:Bool)(k:IntKind) (n:Nat)(h:Tr ABlk) (nx:Nat)(hn:n<l):
  jE (.mk (.slice e) size b z ((x,s,y)::fs)) (.sl i o l cp opn) (.int k (n:Int)) h nx=.val (.ptr i (o+n * s)) h nx:=by
 simp[jE,A9,iL,Nat.succ_le_of_lt hn,fN_eq]
@[go_sem] theorem Rp (e:TypeId) (size b:Nat)(z:Option AV) (x:Nat) (s:Nat)(y:Bool)(fs:List (Nat×Nat×Bool))(full:Bool)(xs:List AV)(k:IntKind) (n:Nat)(h:Tr ABlk) (nx:Nat)(hn:n<xs.length):
  jE (.mk (.slice e) size b z ((x,s,y)::fs)) (.fz s full xs) (.int k (n:Int)) h nx=.val (.ip (xs[n]).cells) h nx:=by
 simp[jE,A9,hn]
@[go_sem] theorem zYr (size b:Nat)(z:Option AV)(fs:List (Nat×Nat×Bool))(v:ByteArray)(h:Tr ABlk) (nx:Nat):lP (.mk .string size b z fs) (.bs v) h nx=.val (.int .i64 (v.size:Int)) h nx:=rfl
@[go_sem] theorem zYs (e:TypeId) (size b:Nat)(z:Option AV)(fs:List (Nat×Nat×Bool)) (es:Nat)(full:Bool)(xs:List AV)(h:Tr ABlk) (nx:Nat):lP (.mk (.slice e) size b z fs) (.fz es full xs) h nx=.val (.int .i64 (xs.length:Int)) h nx:=rfl
@[go_sem] theorem Hg (e:TypeId) (size b:Nat)(z:Option AV)(fs:List (Nat×Nat×Bool)) (i o l cp:Nat)(opn:Bool)(h:Tr ABlk) (nx:Nat):lP (.mk (.slice e) size b z fs) (.sl i o l cp opn) h nx=.val (.int .i64 (l:Int)) h nx:=R9 _ _ _
@[go_sem] theorem GL (e:TypeId) (size b:Nat)(z:Option AV)(fs:List (Nat×Nat×Bool))(h:Tr ABlk) (nx:Nat):lP (.mk (.slice e) size b z fs) .sl0 h nx=.val (.int .i64 0) h nx:=R9 _ _ _
@[go_sem] theorem zU3 (size b:Nat)(z:Option AV)(fs:List (Nat×Nat×Bool))(v:ByteArray)(k:IntKind) (n:Nat)(h:Tr ABlk) (nx:Nat)(hn:n<v.size):tE (.mk .string size b z fs) (.bs v) (.int k (n:Int)) h nx=.val (.int .u8 ((v[n]).toNat:Int)) h nx:=by
 have:v[n]?=some v[n]:=by simp[hn]
 simp[tE,A9,this]
theorem aY (x:Int)(h1:-9223372036854775808≤x)(h2:x≤9223372036854775807):IntKind.i64.wrap x=x:=by
 have:=IntWalk.i64_in x;exact this (by omega)
def Bf (r:Option (List AV))(R:AV→Tr ABlk→Nat→Prop)(h:Tr ABlk) (nx:Nat):Prop:=match r with
 |some l=>R (po l) h nx
 |none=>False
@[go_sem] theorem ybr (rs:List ResultVar)(R:AV→Tr ABlk→Nat→Prop)(tm:Tr AV)(h:Tr ABlk) (nx:Nat):yn c rs R .ret (.mk tm h nx [])=Bf (iU c tm h nx rs) R h nx:=by
 simp only[yn,Bu,Bf,Bh,ry,true_and];cases iU c tm h nx rs <;> rfl
@[go_sem] theorem zZx (rs:List ResultVar)(R:AV→Tr ABlk→Nat→Prop)(tm:Tr AV)(h:Tr ABlk) (nx:Nat):yn c rs R .norm (.mk tm h nx [])=Bf (iU c tm h nx rs) R h nx:=by
 simp only[yn,Bu,Bf,Bh,ry,true_and];cases iU c tm h nx rs <;> rfl
@[go_sem] theorem ydn (rs:List ResultVar)(R:AV→Tr ABlk→Nat→Prop)(tm:Tr AV)(h:Tr ABlk) (nx i:Nat)(hi:h.get i=some .dfr):yn c rs R .ret (.mk tm h nx [.mark i])=Bf (iU c tm (h.put i none) nx rs) R (h.put i none) nx:=by
 simp only[yn,Bu,Bf,Bh,ry,hi,true_and];cases iU c tm (h.put i none) nx rs <;> rfl
@[go_sem] theorem yd6 (tm:Tr AV)(h:Tr ABlk) (nx:Nat):iU c tm h nx []=some []:=rfl
@[go_sem] theorem zWw (tm:Tr AV)(h:Tr ABlk) (nx:Nat)(t:Tmp)(l:List ResultVar):iU c tm h nx (.tmp t::l)=match tm.get t with
 |some v=>match iU c tm h nx l with
  |some l=>some (v::l)
  |none=>none
 |none=>none:=rfl
def ZA (r:R):Option AV:=match r with
 |.val v _ _=>some v
 |_=>none
@[go_sem] theorem ybb (v:AV)(h:Tr ABlk) (nx:Nat):ZA (.val v h nx)=some v:=rfl
@[go_sem] theorem yb9 (tm:Tr AV)(h:Tr ABlk) (nx:Nat)(a:Tmp)(t:TypeId)(l:List ResultVar):iU c tm h nx (.cell a t::l)=match tm.get a with
 |some p=>match c.tt.get t with
  |some ti=>match ZA (jm ti p h nx) with
   |some v=>match iU c tm h nx l with
    |some l=>some (v::l)
    |none=>none
   |none=>none
  |none=>none
 |none=>none:=by
 simp only[iU,Hs];cases tm.get a with
 |none=>rfl
 |some p=>
  cases c.tt.get t with
  |none=>rfl
  |some ti=>
   simp only;cases jm ti p h nx <;> rfl
@[go_sem] theorem ydh (l:List AV)(R:AV→Tr ABlk→Nat→Prop)(h:Tr ABlk) (nx:Nat):Bf (some l) R h nx=R (po l) h nx:=rfl
@[go_sem] theorem zZ7 (v:AV):po [v]=v:=rfl
@[go_sem] theorem ycy (u v:AV)(l:List AV):po (u::v::l)=.tup (u::v::l):=rfl
@[go_sem] theorem yb6:po []=.tup []:=rfl
mutual
def plain:AV→Bool
 |.ptr _ _=>false
 |.sl _ _ _ _ _=>false
 |.map _=>false
 |.yld _=>false
 |.agg l=>bC l
 |.tup l=>bC l
 |.iface _ v=>plain v
 |.func _ l m=>bC l && bC m
 |.ip l=>bC l
 |.fz _ _ l=>bC l
 |_=>true
def bC:List AV→Bool
 |[]=>true
 |v::l=>plain v && bC l
end
mutual
theorem Fz.same {g:Tr ABlk}{nx:Nat}:∀(v:AV),plain v=true→Fz g nx v v
 |.bool b,_=>.bool b
 |.int k n,_=>.int k n
 |.str l n,_=>.str l n
 |.bs b,_=>.bs b
 |.ptr0,_=>.ptr0
 |.sl0,_=>.sl0
 |.map0,_=>.map0
 |.nilFunc,_=>.nilFunc
 |.nilIface,_=>.nilIface
 |.opq n,_=>.opq n
 |.ptr _ _,h=>by simp[plain]at h
 |.sl _ _ _ _ _,h=>by simp[plain]at h
 |.map _,h=>by simp[plain]at h
 |.yld _,h=>by simp[plain]at h
 |.agg l,h=>.agg l l (ct.same l (by simpa[plain]using h))
 |.tup l,h=>.tup l l (ct.same l (by simpa[plain]using h))
 |.iface t v,h=>.iface t v v (Fz.same v (by simpa[plain]using h))
 |.func f l m,h=>by
  simp only[plain,al]at h;exact .func f l l m m (ct.same l h.1) (ct.same m h.2)
 |.ip l,h=>.ip l l (ct.same l (by simpa[plain]using h))
 |.fz es full l,h=>.fz es full l l (ct.same l (by simpa[plain]using h))
theorem ct.same {g:Tr ABlk}{nx:Nat}:∀(l:List AV),bC l=true→ct g nx l l
 |[],_=>.nil
 |v::l,h=>by
  simp only[bC,al]at h;exact .cons v v l l (Fz.same v h.1) (ct.same l h.2)
end
theorem Fz.eq {g:Tr ABlk}{nx:Nat}{v u:AV}(hp:plain u=true)(e:v=u):Fz g nx v u:=by subst e;exact Fz.same v hp
end walk
end
end Go.Ev
namespace Go.Ev
noncomputable section
variable {P : Program} {c : Cx} {sz : Nat} {s : AS}
section
variable (ops : List Oper) (Wl Cl : List Nat) (U : List (Nat × Nat)) (K : AS → Prop) (i : Nat) (hs : Nat → Tr ABlk) (tm : Tr AV) (h : Tr ABlk) (nx : Nat) (ds : List DE)
@[go_sem ↓] theorem yaj:pK P c sz ops Wl Cl U K [] i hs s=K s:=rfl
@[go_sem ↓] theorem zXd (o:Oper)(l:List Oper):pK P c sz ops Wl Cl U K (o::l) i hs s=pB P c sz ops Wl Cl U i hs o (pK P c sz ops Wl Cl U K l (i+1)) s:=rfl
def GD (P:Program)(c:Cx) (sz:Nat)(ops:List Oper)(Wl:List Nat)(U:List (Nat×Nat)) (i:Nat)(hs:Nat→Tr ABlk)(dst:Option Tmp)(op:Op)(K:(Nat→Tr ABlk)→AS→Prop)(tm:Tr AV)(h:Tr ABlk) (nx:Nat)(ds:List DE)(C W:Bool):Prop:=match C with
 |true=>GM P c ops Wl i h nx (kA op) tm fun u=>cT sz dst u (.mk tm h nx ds) (K fun j=>if j=i then h else hs j)
 |false=>match W with
  |true=>BB c sz ops U i dst tm h ds (K fun j=>if j=i then h else hs j) (cv c op tm h nx)
  |false=>Bl c sz ops U i dst tm h nx ds hs (K fun j=>if j=i then h else hs j) (cv c op tm h nx)
@[go_sem ↓] theorem ycb (KK:(Nat→Tr ABlk)→AS→Prop)(dst:Option Tmp)(op:Op)(ty:TypeId)(pos:String)(aZ:Array Edge):pB P c sz ops Wl Cl U i hs ⟨dst,op,ty,pos,aZ,none⟩ KK (.mk tm h nx ds)=GD P c sz ops Wl U i hs dst op KK tm h nx ds (bq i Cl) (bq i Wl):=rfl
@[go_sem] theorem ybc (i:Nat):bq i []=false:=rfl
@[go_sem] theorem zYz (i a:Nat)(l:List Nat):bq i (a::l)=(decide (i=a) || bq i l):=by
 simp only[bq,ZW];cases decide (i=a) <;> rfl
def J6 (P:Program)(c:Cx)(ops:List Oper)(Wl:List Nat) (i:Nat)(h:Tr ABlk) (nx:Nat)(fid:FuncId)(args:List AV)(K:AV→Prop):Prop:=∃u,(ay P c fid args u∨(tj ops Wl i=true∧aN P c fid args h nx fun v g ny=>v=u∧g=h∧ny=nx))∧K u
variable {ops Wl i h nx} in
theorem gR {fid:FuncId}{args:List AV}{K':AV→Prop}{u:AV}(hr:ay P c fid args u)(hK:K' u):J6 P c ops Wl i h nx fid args K':=⟨u,.inl hr,hK⟩
variable {ops Wl i h nx} in
theorem zKp {fid:FuncId}{args:List AV}{K':AV→Prop}{u:AV}(ho:tj ops Wl i=true)(hr:aN P c fid args h nx fun v g ny=>v=u∧g=h∧ny=nx)(hK:K' u):J6 P c ops Wl i h nx fid args K':=⟨u,.inr ⟨ho,hr⟩,hK⟩
def Qn (P:Program)(c:Cx)(ops:List Oper)(Wl:List Nat) (i:Nat)(h:Tr ABlk) (nx:Nat)(f:Option AV)(l:Option (List AV))(K:AV→Prop):Prop:=match f with
 |some (.func fid first cap)=>match l with
  |some l=>J6 P c ops Wl i h nx fid (first++(l++cap)) K
  |none=>False
 |_=>False
@[go_sem] theorem zZ3 (fid:FuncId)(first cap l:List AV)(K':AV→Prop):Qn P c ops Wl i h nx (some (.func fid first cap)) (some l) K'=J6 P c ops Wl i h nx fid (first++(l++cap)) K':=rfl
@[go_sem] theorem zXy (KK:(Nat→Tr ABlk)→AS→Prop)(dst:Option Tmp)(f:Operand)(args:List Operand)(gO:Array TypeId)(W:Bool):GD P c sz ops Wl U i hs dst (.call ⟨.value f,args.toArray,gO⟩) KK tm h nx ds true W=Qn P c ops Wl i h nx (aM c.G tm f) (cZ c.G tm args) (fun u=>cT sz dst u (.mk tm h nx ds) (KK fun j=>if j=i then h else hs j)):=by
 simp only[GD,GM,kA,Qn];cases aM c.G tm f with
 |none=>rfl
 |some fv=>
  cases fv <;> first |rfl |(cases cZ c.G tm args <;> rfl)
@[go_sem] theorem yc3 (KK:(Nat→Tr ABlk)→AS→Prop)(dst:Option Tmp)(op:Op):GD P c sz ops Wl U i hs dst op KK tm h nx ds false true=BB c sz ops U i dst tm h ds (KK fun j=>if j=i then h else hs j) (cv c op tm h nx):=rfl
@[go_sem] theorem zX1 (KK:(Nat→Tr ABlk)→AS→Prop)(dst:Option Tmp)(op:Op):GD P c sz ops Wl U i hs dst op KK tm h nx ds false false=Bl c sz ops U i dst tm h nx ds hs (KK fun j=>if j=i then h else hs j) (cv c op tm h nx):=rfl
@[go_sem] theorem zYy (d:Nat)(v:AV)(h':Tr ABlk) (ax:Nat):Bl c sz ops U i (some d) tm h nx ds hs K (.val v h' ax)=(yu c ops i tm hs h U∧(d<sz∧K (.mk (tm.put d (some v)) h nx ds))):=rfl
@[go_sem] theorem zWq (v:AV)(h':Tr ABlk) (ax:Nat):Bl c sz ops U i none tm h nx ds hs K (.val v h' ax)=(yu c ops i tm hs h U∧K (.mk tm h nx ds)):=rfl
@[go_sem] theorem zV5 (d:Nat)(v:AV)(h':Tr ABlk) (ax:Nat):BB c sz ops U i (some d) tm h ds K (.val v h' ax)=(wP c ops i tm h h' U∧(d<sz∧K (.mk (tm.put d (some v)) h' ax ds))):=rfl
@[go_sem] theorem zYq (h':Tr ABlk) (ax:Nat):BB c sz ops U i none tm h ds K (.unit h' ax)=(wP c ops i tm h h' U∧K (.mk tm h' ax ds)):=rfl
@[go_sem] theorem ycx:yu c ops i tm hs h []=True:=rfl
@[go_sem] theorem yd3 (h':Tr ABlk):wP c ops i tm h h' []=True:=rfl
theorem fg (d:Nat)(v:AV):cT sz (some d) v s K=(d<sz∧K (match s with |.mk tm h nx ds=>.mk (tm.put d (some v)) h nx ds)):=rfl
@[go_sem] theorem zYn (x:Operand):cv c (.move x) tm h nx=ku c x tm h nx:=rfl
@[go_sem] theorem ydg (x:Operand):cv c (.assign x) tm h nx=ku c x tm h nx:=rfl
@[go_sem] theorem zXk (e:TypeId):cv c (.alloc e) tm h nx=J9 c e tm h nx:=rfl
@[go_sem] theorem ybl (e:TypeId)(x:Operand):cv c (.box e x) tm h nx=Bb c e x tm h nx:=rfl
@[go_sem] theorem yap (t:TypeId)(x:Operand):cv c (.load t x) tm h nx=By c t x tm h nx:=rfl
@[go_sem] theorem zY9 (t:TypeId)(x y:Operand):cv c (.store t x y) tm h nx=Bp c t x y tm h nx:=rfl
@[go_sem] theorem zWy (op:BinOp)(t t':TypeId)(x y:Operand):cv c (.binOp op t x y t') tm h nx=Bn c op t x y tm h nx:=rfl
@[go_sem] theorem zVl (op:UnOp)(t:TypeId)(x:Operand):cv c (.unOp op t x) tm h nx=AH c op x tm h nx:=rfl
@[go_sem] theorem yc4 (t:TypeId)(x:Operand) (k:Nat):cv c (.fieldAddr t x k) tm h nx=Bd c t x k tm h nx:=rfl
@[go_sem] theorem zY4 (t:TypeId)(x:Operand) (k:Nat):cv c (.field t x k) tm h nx=Bk c t x k tm h nx:=rfl
@[go_sem] theorem yea (t:TypeId)(x i:Operand):cv c (.indexAddr t x i) tm h nx=BC c t x i tm h nx:=rfl
@[go_sem] theorem ybw (t:TypeId)(x i:Operand):cv c (.index t x i) tm h nx=BA c t x i tm h nx:=rfl
@[go_sem] theorem zXj (x:Operand) (k:Nat):cv c (.extract x k) tm h nx=Br c x k tm h nx:=rfl
@[go_sem] theorem zZu (x:Operand):cv c (.nilCheck x) tm h nx=A4 c x tm h nx:=rfl
@[go_sem] theorem yac (t u:TypeId)(x:Operand):cv c (.convert t u x) tm h nx=ra c t u x tm h nx:=rfl
@[go_sem] theorem yd7 (t:TypeId)(x:Operand)(lo hi mx:Option Operand):cv c (.slice t x lo hi mx) tm h nx=BG c t x lo hi mx tm h nx:=rfl
@[go_sem] theorem yat (t:TypeId)(m k:Operand)(ok:Bool):cv c (.lookup t m k ok) tm h nx=Bw c t m k ok tm h nx:=rfl
@[go_sem] theorem zXt (t:TypeId)(m k v:Operand):cv c (.mapUpdate t m k v) tm h nx=tr c t m k v tm h nx:=rfl
@[go_sem] theorem yce (x y z:Operand):cv c (.pick x y z) tm h nx=dw c x y z tm h nx:=rfl
@[go_sem] theorem zXu (t:TypeId)(q:Option Operand):cv c (.makeMap t q) tm h nx=Kt q tm h nx:=rfl
@[go_sem] theorem yar (t:TypeId)(ps:List (Nat×Operand)):cv c (.build t ps.toArray) tm h nx=(bR (c.tt.get t) fun ti=>bR (mi c.G tm ps) fun l=>tF ti l h nx):=rfl
@[go_sem] theorem ydr (t:TypeId) (n:Nat)(ps:List (Nat×Operand)):cv c (.buildSlice t n ps.toArray) tm h nx=(bR (c.tt.get t) fun ti=>bR (mi c.G tm ps) fun l=>xd ti (c.tt.get (kr ti)) (kr ti) n l h nx):=rfl
@[go_sem] theorem zV7 (f:FuncId)(x y:List Operand):cv c (.makeFunc (.func f) x.toArray y.toArray) tm h nx=(bR (cZ c.G tm x) fun a=>bR (cZ c.G tm y) fun b=>.val (.func f a b) h nx):=rfl
@[go_sem] theorem zZ6 (args:List Operand)(gO:List TypeId):cv c (.call ⟨.builtin .append,args.toArray,gO.toArray⟩) tm h nx=wD c gO args tm h nx:=rfl
@[go_sem] theorem ydx (b:Builtin)(args:List Operand)(gO:List TypeId)(hb:b≠.append):cv c (.call ⟨.builtin b,args.toArray,gO.toArray⟩) tm h nx=(bR (cZ c.G tm args) fun l=>HK c b gO.toArray l h nx):=by
 have:KC ⟨.builtin b,args.toArray,gO.toArray⟩=false:=by cases b <;> first |rfl |exact absurd rfl hb
 simp[cv,gU,this,Kz,A8]
attribute [go_sem] xd Dc
def yK (ops:List Oper) (j:Nat):Option Tmp:=(ops[j]?).bind (·.dst)
@[go_sem] theorem zZq (dst:Option Tmp)(op:Op)(ty:TypeId)(pos:String)(aZ:Array Edge)(gd:Option (Nat×Bool))(l:List Oper):yK (⟨dst,op,ty,pos,aZ,gd⟩::l) 0=dst:=rfl
@[go_sem] theorem zX9 (o:Oper)(l:List Oper) (j:Nat):yK (o::l) (j+1)=yK l j:=by simp[yK]
theorem Yr (j:Nat)(want:Bool)(dst:Option Tmp)(op:Op)(ty:TypeId)(pos:String)(aZ:Array Edge)(F:Option Bool→Prop)(hF:F none=False):F (fY ops tm ⟨dst,op,ty,pos,aZ,some (j,want)⟩)=match yK ops j with
  |none=>F (some false)
  |some d=>match tm.get d with
   |some (.bool b)=>if b=want then F (some true) else F (some false)
   |some (.tup _)=>F (some false)
   |_=>False:=by
 unfold fY yK;simp only;cases ops[j]? with
 |none=>rfl
 |some oj=>
  simp only[Option.bind_some];cases oj.dst with
  |none=>rfl
  |some d=>
   simp only;cases tm.get d with
   |none=>exact hF
   |some v=>
    cases v <;> try exact hF
    ·rename_i b;cases b <;> cases want <;> simp
    ·rfl
def Z3 (P:Program)(c:Cx) (sz:Nat)(ops:List Oper)(d:Option Tmp)(want:Bool)(dst:Option Tmp)(op:Op)(ty:TypeId)(pos:String)(aZ:Array Edge)(K:AS→Prop)(tm:Tr AV)(h:Tr ABlk) (nx:Nat)(ds:List DE):Prop:=match d with
 |none=>cT sz dst (.tup []) (.mk tm h nx ds) K
 |some d=>match tm.get d with
  |some (.bool b)=>if b=want then cz P c sz ops ⟨dst,op,ty,pos,aZ,none⟩ K (.mk tm h nx ds) else cT sz dst (.tup []) (.mk tm h nx ds) K
  |some (.tup _)=>cT sz dst (.tup []) (.mk tm h nx ds) K
  |_=>False
def jP (P:Program)(c:Cx) (sz:Nat)(ops:List Oper)(g:Option AV)(want:Bool)(dst:Option Tmp)(op:Op)(ty:TypeId)(pos:String)(aZ:Array Edge)(K:AS→Prop)(tm:Tr AV)(h:Tr ABlk) (nx:Nat)(ds:List DE):Prop:=match g with
 |some (.bool b)=>if b=want then cz P c sz ops ⟨dst,op,ty,pos,aZ,none⟩ K (.mk tm h nx ds) else cT sz dst (.tup []) (.mk tm h nx ds) K
 |some (.tup _)=>cT sz dst (.tup []) (.mk tm h nx ds) K
 |_=>False
@[go_sem ↓] theorem yds (j:Nat)(want:Bool)(dst:Option Tmp)(op:Op)(ty:TypeId)(pos:String)(aZ:Array Edge):cz P c sz ops ⟨dst,op,ty,pos,aZ,some (j,want)⟩ K (.mk tm h nx ds)=Z3 P c sz ops (yK ops j) want dst op ty pos aZ K tm h nx ds:=
 Yr (ops:=ops) (tm:=tm) j want dst op ty pos aZ (fun b=>match b with
  |none=>False
  |some false=>cT sz dst (.tup []) (.mk tm h nx ds) K
  |some true=>sX P c sz op dst tm h nx ds K) rfl
section
variable (want : Bool) (dst : Option Tmp) (op : Op) (ty : TypeId) (pos : String) (aZ : Array Edge)
@[go_sem] theorem ydy (d:Nat):Z3 P c sz ops (some d) want dst op ty pos aZ K tm h nx ds=jP P c sz ops (tm.get d) want dst op ty pos aZ K tm h nx ds:=rfl
@[go_sem] theorem yb3:jP P c sz ops (some (.bool true)) true dst op ty pos aZ K tm h nx ds=cz P c sz ops ⟨dst,op,ty,pos,aZ,none⟩ K (.mk tm h nx ds):=by simp[jP]
@[go_sem] theorem zW3:jP P c sz ops (some (.bool false)) false dst op ty pos aZ K tm h nx ds=cz P c sz ops ⟨dst,op,ty,pos,aZ,none⟩ K (.mk tm h nx ds):=by simp[jP]
@[go_sem] theorem zWv:jP P c sz ops (some (.bool true)) false dst op ty pos aZ K tm h nx ds=cT sz dst (.tup []) (.mk tm h nx ds) K:=by simp[jP]
@[go_sem] theorem yeb:jP P c sz ops (some (.bool false)) true dst op ty pos aZ K tm h nx ds=cT sz dst (.tup []) (.mk tm h nx ds) K:=by simp[jP]
@[go_sem] theorem yd2 (l:List AV):jP P c sz ops (some (.tup l)) want dst op ty pos aZ K tm h nx ds=cT sz dst (.tup []) (.mk tm h nx ds) K:=rfl
end
def XJ (P:Program)(c:Cx) (sz:Nat)(ops:List Oper)(Wl Cl:List Nat)(U:List (Nat×Nat)) (i:Nat)(hs:Nat→Tr ABlk)(d:Option Tmp)(want:Bool)(dst:Option Tmp)(op:Op)(ty:TypeId)(pos:String)(aZ:Array Edge)(K:(Nat→Tr ABlk)→AS→Prop)(tm:Tr AV)(h:Tr ABlk) (nx:Nat)(ds:List DE):Prop:=match d with
 |none=>cT sz dst (.tup []) (.mk tm h nx ds) (K fun j=>if j=i then h else hs j)
 |some d=>match tm.get d with
  |some (.bool b)=>if b=want then pB P c sz ops Wl Cl U i hs ⟨dst,op,ty,pos,aZ,none⟩ K (.mk tm h nx ds) else cT sz dst (.tup []) (.mk tm h nx ds) (K fun j=>if j=i then h else hs j)
  |some (.tup _)=>cT sz dst (.tup []) (.mk tm h nx ds) (K fun j=>if j=i then h else hs j)
  |_=>False
def u9 (P:Program)(c:Cx) (sz:Nat)(ops:List Oper)(Wl Cl:List Nat)(U:List (Nat×Nat)) (i:Nat)(hs:Nat→Tr ABlk)(g:Option AV)(want:Bool)(dst:Option Tmp)(op:Op)(ty:TypeId)(pos:String)(aZ:Array Edge)(K:(Nat→Tr ABlk)→AS→Prop)(tm:Tr AV)(h:Tr ABlk) (nx:Nat)(ds:List DE):Prop:=match g with
 |some (.bool b)=>if b=want then pB P c sz ops Wl Cl U i hs ⟨dst,op,ty,pos,aZ,none⟩ K (.mk tm h nx ds) else cT sz dst (.tup []) (.mk tm h nx ds) (K fun j=>if j=i then h else hs j)
 |some (.tup _)=>cT sz dst (.tup []) (.mk tm h nx ds) (K fun j=>if j=i then h else hs j)
 |_=>False
@[go_sem ↓] theorem yaz (j:Nat)(want:Bool)(KK:(Nat→Tr ABlk)→AS→Prop)(dst:Option Tmp)(op:Op)(ty:TypeId)(pos:String)(aZ:Array Edge):pB P c sz ops Wl Cl U i hs ⟨dst,op,ty,pos,aZ,some (j,want)⟩ KK (.mk tm h nx ds)=XJ P c sz ops Wl Cl U i hs (yK ops j) want dst op ty pos aZ KK tm h nx ds:=
 Yr (ops:=ops) (tm:=tm) j want dst op ty pos aZ (fun b=>match b with
  |none=>False
  |some false=>cT sz dst (.tup []) (.mk tm h nx ds) (KK fun j=>if j=i then h else hs j)
  |some true=>match bq i Cl with
   |true=>GM P c ops Wl i h nx (kA op) tm fun u=>cT sz dst u (.mk tm h nx ds) (KK fun j=>if j=i then h else hs j)
   |false=>match bq i Wl with
    |true=>BB c sz ops U i dst tm h ds (KK fun j=>if j=i then h else hs j) (cv c op tm h nx)
    |false=>Bl c sz ops U i dst tm h nx ds hs (KK fun j=>if j=i then h else hs j) (cv c op tm h nx)) rfl
section
variable (want : Bool) (dst : Option Tmp) (op : Op) (ty : TypeId) (pos : String) (aZ : Array Edge) (KK : (Nat → Tr ABlk) → AS → Prop)
@[go_sem] theorem yah (d:Nat):XJ P c sz ops Wl Cl U i hs (some d) want dst op ty pos aZ KK tm h nx ds=u9 P c sz ops Wl Cl U i hs (tm.get d) want dst op ty pos aZ KK tm h nx ds:=rfl
@[go_sem] theorem ya3:u9 P c sz ops Wl Cl U i hs (some (.bool true)) true dst op ty pos aZ KK tm h nx ds=pB P c sz ops Wl Cl U i hs ⟨dst,op,ty,pos,aZ,none⟩ KK (.mk tm h nx ds):=by simp[u9]
@[go_sem] theorem yc5:u9 P c sz ops Wl Cl U i hs (some (.bool false)) false dst op ty pos aZ KK tm h nx ds=pB P c sz ops Wl Cl U i hs ⟨dst,op,ty,pos,aZ,none⟩ KK (.mk tm h nx ds):=by simp[u9]
@[go_sem] theorem zXg:u9 P c sz ops Wl Cl U i hs (some (.bool true)) false dst op ty pos aZ KK tm h nx ds=cT sz dst (.tup []) (.mk tm h nx ds) (KK fun j=>if j=i then h else hs j):=by simp[u9]
@[go_sem] theorem ycc:u9 P c sz ops Wl Cl U i hs (some (.bool false)) true dst op ty pos aZ KK tm h nx ds=cT sz dst (.tup []) (.mk tm h nx ds) (KK fun j=>if j=i then h else hs j):=by simp[u9]
@[go_sem] theorem zW4 (l:List AV):u9 P c sz ops Wl Cl U i hs (some (.tup l)) want dst op ty pos aZ KK tm h nx ds=cT sz dst (.tup []) (.mk tm h nx ds) (KK fun j=>if j=i then h else hs j):=rfl
end
@[go_sem] theorem zWn (d:Nat):cT sz (some d) (.tup []) s K=(d<sz∧K (match s with |.mk tm h nx ds=>.mk (tm.put d (some (.tup []))) h nx ds)):=rfl
end
end
end Go.Ev
namespace Go.Ev
noncomputable section
variable {P : Program} {c : Cx} {σ τ υ : Sg} {h g f : Tr ABlk} {nx ny nz sz : Nat} {w x y : World} {G : Gl}
theorem Ok.frz0 (hG:∀g cs,G.tab g=some cs→∀h n,ct h n cs cs)(hk:Ok G σ h nx w):Ok G (σ.frz w h G.n) .nil nx w:=by
 have hle:∀b C,σ.imm b=some C→(σ.frz w h G.n).imm b=some C:=fun b C hb=>by simp only[Sg.frz];rw[hb]
 refine⟨fun i hi=>?_,hk.le,fun i hi=>?_,(fun i j b B B' h1=>by cases h1),(fun i B h1=>by cases h1),fun b C hb=>⟨?_,fun i B h1=>by cases h1⟩,fun i cs hi=>?_⟩
 ·simp only[Sg.frz];rw[if_pos hi];exact hk.glob i hi
 ·simp only[Sg.frz];rw[if_neg (by have:=hk.le;omega)]
 ·simp only[Sg.frz]at hb;cases hi:σ.imm b with
  |some D=>
   rw[hi]at hb;have e:D=C:=by simpa using hb
   subst e;exact(hk.imm b D hi).1
  |none=>
   rw[hi]at hb;simp only at hb;split at hb
   ·split at hb
    ·rename_i C' t fr hh;cases hb;exact⟨t,fr,by simpa using hh⟩
    ·cases hb
   ·cases hb
 ·have:=hk.gl i cs hi;exact Fz.rel hk (.ip cs cs (hG i cs hi h G.n)) _ this
mutual
def oE:AV→Bool
 |.bool _=>true
 |.int _ _=>true
 |.str _ _=>true
 |.bs _=>true
 |.ptr0=>true
 |.sl0=>true
 |.map0=>true
 |.nilFunc=>true
 |.nilIface=>true
 |.agg l=>GF l
 |.tup l=>GF l
 |_=>false
def GF:List AV→Bool
 |[]=>true
 |v::l=>oE v && GF l
end
mutual
theorem av.scal {σ τ:Sg}:∀(v:AV)(V:Value),oE v=true→av σ v V→av τ v V
 |.bool _,V,_,h=>by simpa only[av]using h
 |.int _ _,V,_,h=>by simpa only[av]using h
 |.str _ _,V,_,h=>by simpa only[av]using h
 |.bs _,V,_,h=>by simpa only[av]using h
 |.ptr0,V,_,h=>by simpa only[av]using h
 |.sl0,V,_,h=>by simpa only[av]using h
 |.map0,V,_,h=>by simpa only[av]using h
 |.nilFunc,V,_,h=>by simpa only[av]using h
 |.nilIface,V,_,h=>by simpa only[av]using h
 |.agg l,V,hs,h=>by
  simp only[av]at h ⊢;obtain⟨L,e,q⟩:=h;exact⟨L,e,aC.scal l L (by simpa[oE]using hs) q⟩
 |.tup l,V,hs,h=>by
  simp only[av]at h ⊢;obtain⟨L,e,q⟩:=h;exact⟨L,e,aC.scal l L (by simpa[oE]using hs) q⟩
 |.ptr _ _,V,hs,_=>by simp[oE]at hs
 |.ip _,V,hs,_=>by simp[oE]at hs
 |.sl _ _ _ _ _,V,hs,_=>by simp[oE]at hs
 |.fz _ _ _,V,hs,_=>by simp[oE]at hs
 |.map _,V,hs,_=>by simp[oE]at hs
 |.func _ _ _,V,hs,_=>by simp[oE]at hs
 |.iface _ _,V,hs,_=>by simp[oE]at hs
 |.opq _,V,hs,_=>by simp[oE]at hs
 |.yld _,V,hs,_=>by simp[oE]at hs
theorem aC.scal {σ τ:Sg}:∀(l:List AV)(L:List Value),GF l=true→aC σ l L→aC τ l L
 |[],L,_,h=>by simpa only[aC]using h
 |v::l,L,hs,h=>by
  simp only[GF,al]at hs;simp only[aC]at h ⊢;obtain⟨V,L',e,q1,q2⟩:=h;exact⟨V,L',e,av.scal v V hs.1 q1,aC.scal l L' hs.2 q2⟩
end
theorem Post.same (hk:Ok G σ h nx w)(e1:x.os=w.os)(e2:x.tape=w.tape)(e3:x.output=w.output)(e4:w.heap.size≤x.heap.size)(e5:∀b,b<w.heap.size→x.heap[b]?=w.heap[b]?):Post G σ h nx w σ h nx x:=by
 refine⟨⟨hk.glob,hk.le,hk.fresh,hk.inj,fun i B h1=>?_,fun b C hb=>⟨?_,(hk.imm b C hb).2⟩,hk.gl⟩,.refl σ,⟨e1,e2,e3,e4,fun b hb _=>e5 b hb,fun i B b h1 h2=>.inr ⟨i,B,h1,h2⟩,fun _ _ h=>.inl h⟩,ae _⟩
 ·obtain⟨b,o,q1,q2,q3⟩:=hk.blk i B h1;exact⟨b,o,q1,by rw[e5 b (Bq q2)];exact q2,q3⟩
 ·obtain⟨t,fr,q⟩:=(hk.imm b C hb).1;exact⟨t,fr,by rw[e5 b (Bq q)];exact q⟩
theorem ay.borrow (hG:∀g cs,c.G.tab g=some cs→∀h n,ct h n cs cs){fid:FuncId}{args args':List AV}{u:AV}(hr:ay P c fid args' u)(hs:oE u=true)(hf:ct h c.G.n args args'):aN P c fid args h nx fun v g ny=>v=u∧g=h∧ny=nx:=by
 intro σ w A hk hA;refine(hr .nil nx _ w A (hk.frz0 hG) (ct.rel hk hf A hA)).mono fun V x q=>?_;obtain⟨τ,v,g,ny,q1,q2,q3,q4,q5⟩:=q;subst q3;subst q4;subst q5;exact⟨σ,v,h,ny,q1.scal v V hs,Post.same hk q2.fr.os q2.fr.tape q2.fr.output q2.fr.size (fun b hb=>q2.fr.keep b hb fun i B hi=>by cases hi),rfl,rfl,rfl⟩
theorem ay.useB (hG:∀g cs,c.G.tab g=some cs→∀h n,ct h n cs cs){fid:FuncId}{args args':List AV}{u:AV}(hr:ay P c fid args' u)(hs:oE u=true)(hf:ct h c.G.n args args'){R:AV→Tr ABlk→Nat→Prop}(hR:R u h nx):aN P c fid args h nx R:=
 (hr.borrow (nx:=nx) hG hs hf).mono fun v g ny ⟨e1,e2,e3⟩=>by subst e1;subst e2;subst e3;exact hR
end
end Go.Ev
