/- Texts. -/
import Derived.Test.YtkdnmldmffkkoaaGreatDoorP08
set_option linter.unusedSimpArgs false
set_option linter.unusedVariables false
set_option maxRecDepth 100000
namespace Go.Ev
noncomputable section
variable {P : Program} {c : Cx} {tm tm' : Tr AV} {h h' : Tr ABlk} {nx ax : Nat}
def R.rem (h:Tr ABlk) (nx:Nat):R→R
 |.val v _ _=>.val v h nx
 |.unit _ _=>.fail
 |.fail=>.fail
theorem YY {α:Type}(o:Option α)(k k':α→R)(hk:∀a,k' a=(k a).rem h nx):bR o k'=(bR o k).rem h nx:=by
 cases o with
 |none=>rfl
 |some a=>exact hk a
theorem zQg (b:Bool):vBool b h' ax=(vBool b h nx).rem h' ax:=by cases b <;> rfl
theorem Dq (n:Nat):vInt n h' ax=(vInt n h nx).rem h' ax:=by simp only[vInt,fN_eq];rfl
theorem zQz (op:BinOp)(k:IntKind) (a b:Int):gK op k a b h' ax=(gK op k a b h nx).rem h' ax:=by
 unfold gK;simp only[fI_eq];cases op <;> first |rfl |(repeat' split) <;> rfl
theorem zTu (op:BinOp)(k:IntKind) (a b:Int):tz op k a b h' ax=(tz op k a b h nx).rem h' ax:=by
 unfold tz;simp only[fI_eq,fN_eq]
 repeat' split
 all_goals rfl
theorem zTr (op:BinOp) (l n k m:Nat):yX op l n k m h' ax=(yX op l n k m h nx).rem h' ax:=by
 unfold yX;simp only[fN_eq]
 repeat' split
 all_goals rfl
theorem zT5 (op:BinOp)(a b:ByteArray):gH op a b h' ax=(gH op a b h nx).rem h' ax:=by
 unfold gH
 repeat' split
 all_goals rfl
theorem zI4 (ti:TI)(eqs:Option (List (Nat×TypeDesc)))(b:Bool)(op:BinOp)(x y:AV):wX ti eqs b op x y h' ax=(wX ti eqs b op x y h nx).rem h' ax:=by
 unfold wX
 repeat' split
 all_goals first |exact zQg _ |rfl
theorem zI1 (ti:TI)(eqs:Option (List (Nat×TypeDesc)))(b:Bool)(op:BinOp)(x y:AV):xf ti eqs b op x y h' ax=(xf ti eqs b op x y h nx).rem h' ax:=by
 unfold xf
 repeat' split
 all_goals first |exact zTu _ _ _ _ |exact zQz _ _ _ _ |exact zTr _ _ _ _ _ |exact zT5 _ _ _ |exact zI4 _ _ _ _ _ _ |rfl
theorem zG5 (op:UnOp)(x:AV):uY op x h' ax=(uY op x h nx).rem h' ax:=by
 unfold uY;simp only[fI_eq]
 repeat' split
 all_goals rfl
theorem zGj (ti:TI)(t:TypeId)(x:AV):wW ti t x h' ax=(wW ti t x h nx).rem h' ax:=by
 unfold wW
 repeat' split
 all_goals rfl
theorem zIi (ti:TI)(a:AV) (k:Nat):wM ti a k h' ax=(wM ti a k h nx).rem h' ax:=by
 unfold wM;simp only[fN_eq]
 repeat' split
 all_goals rfl
theorem zJ1 (ti:TI)(a:AV) (k:Nat):wR ti a k h' ax=(wR ti a k h nx).rem h' ax:=by
 unfold wR
 repeat' split
 all_goals rfl
theorem zPo (ti:TI)(a b:AV):jE ti a b h' ax=(jE ti a b h nx).rem h' ax:=by
 unfold jE;simp only[fN_eq]
 repeat' split
 all_goals rfl
theorem zR7 (ti:TI)(a b:AV):tE ti a b h' ax=(tE ti a b h nx).rem h' ax:=by
 unfold tE;simp only[fN_eq]
 repeat' split
 all_goals rfl
theorem zJi (a:AV) (k:Nat):wZ a k h' ax=(wZ a k h nx).rem h' ax:=by
 unfold wZ
 repeat' split
 all_goals rfl
theorem zHm (ti:TI)(a:AV)(lo hi mx:Option AV):w9 ti a lo hi mx h' ax=(w9 ti a lo hi mx h nx).rem h' ax:=by
 unfold w9;simp only[fN_eq]
 repeat' split
 all_goals rfl
theorem zMu (ti:TI)(t:TypeId)(ok:Bool)(a:AV):yU ti t ok a h' ax=(yU ti t ok a h nx).rem h' ax:=by
 unfold yU
 repeat' split
 all_goals rfl
theorem ZJ (ok:Bool)(z:AV)(r:Option (Nat×AV)):bP ok z r h' ax=(bP ok z r h nx).rem h' ax:=by
 unfold bP
 repeat' split
 all_goals rfl
theorem zT9 (ti:TI)(ps:List (Nat×AV)):tF ti ps h' ax=(tF ti ps h nx).rem h' ax:=by
 unfold tF
 repeat' split
 all_goals rfl
theorem zL9 (ti:TI)(a:AV):yG ti a h' ax=(yG ti a h nx).rem h' ax:=by
 unfold yG
 repeat' split
 all_goals first |exact Dq _ |rfl
theorem Yb (b:Bool)(l:List AV):pC b l h' ax=(pC b l h nx).rem h' ax:=by
 unfold pC
 repeat' split
 all_goals rfl
def zP6:AV→Option Nat
 |.ptr k _=>some k
 |.map k=>some k
 |.sl k _ _ _ _=>some k
 |_=>none
def fM (v:Option AV)(h h':Tr ABlk):Prop:=match v with
 |some v=>match zP6 v with
  |some k=>h'.get k=h.get k
  |none=>True
 |none=>True
theorem zN7 (ti:TI)(a:AV)(hk:fM (some a) h h'):jm ti a h' ax=(jm ti a h nx).rem h' ax:=by
 cases ti with
 |mk d size b z fs=>
 cases a <;> try rfl
 ·rename_i i o;have e:h'.get i=h.get i:=hk;unfold jm;simp only[e]
  repeat' split
  all_goals rfl
 ·rename_i cs;simp only[jm];cases jN d with
  |true=>simp only;split <;> rfl
  |false=>cases cs <;> rfl
theorem zNi (ti:TI)(tk te:Option TI)(kt et:TypeId)(ok:Bool)(m k:AV)(hk:fM (some m) h h'):wJ ti tk te kt et ok m k h' ax=(wJ ti tk te kt et ok m k h nx).rem h' ax:=by
 unfold wJ;cases m
 case map i=>
  have e:h'.get i=h.get i:=hk;simp only[e]
  repeat' split
  all_goals first |exact ZJ _ _ _ |rfl
 all_goals
  simp only
  repeat' split
  all_goals first |exact ZJ _ _ _ |rfl
theorem zQs (ti:TI)(a:AV)(hk:fM (some a) h h'):lP ti a h' ax=(lP ti a h nx).rem h' ax:=by
 cases ti with
 |mk d size b z fs=>
 cases d <;> try rfl
 ·cases a <;> first |rfl |exact Dq _
 ·cases a <;> first |rfl |exact Dq _
 ·exact Dq _
 ·cases a <;> try first |rfl |exact Dq _
  rename_i i;have e:h'.get i=h.get i:=hk;unfold lP;simp only[e]
  repeat' split
  all_goals first |exact Dq _ |rfl
theorem zJm (ts td:TI)(te:Option TI)(et:TypeId)(v:AV)(hs:∀e s b z f,td≠.mk (.slice e) s b z f)(hk:fM (some v) h h'):ep ts td te et v h' ax=(ep ts td te et v h nx).rem h' ax:=by
 cases ts with
 |mk ds s1 s2 s3 s4=>
 cases td with
 |mk dd d1 d2 d3 d4=>
 cases dd <;> try rfl
 ·cases v <;> rfl
 ·cases v <;> try rfl
  ·unfold ep;simp only
   repeat' split
   all_goals rfl
  ·rename_i i o l cp opn;have e:h'.get i=h.get i:=hk;unfold ep;simp only[e]
   repeat' split
   all_goals rfl
 ·exact absurd rfl (hs _ _ _ _ _)
def oN (op:Op):Option Operand:=match op with
 |.load _ x=>some x
 |.lookup _ m _ _=>some m
 |.convert _ _ x=>some x
 |.call cl=>cl.args.toList.head?
 |_=>none
def DL:Option TI→Bool
 |some (.mk (.slice _) _ _ _ _)=>true
 |some (.mk .unsafePointer _ _ _ _)=>true
 |_=>false
def Zp (c:Cx)(op:Op):Bool:=
 match op with
 |.move _=>false |.assign _=>false |.pick _ _ _=>false |.build _ _=>false |.load _ _=>false |.nilCheck _=>false |.binOp _ _ _ _ _=>false |.unOp _ _ _=>false
 |.convert s d _=>DL (c.tt.get d) || DL (c.tt.get s)
 |.makeInterface _ _=>false |.makeFunc _ _ _=>false |.slice _ _ _ _ _=>false |.fieldAddr _ _ _=>false |.field _ _ _=>false |.indexAddr _ _ _=>false |.index _ _ _=>false
 |.lookup _ _ _ _=>false |.typeAssert _ _ _ _=>false |.extract _ _=>false
 |.call cl=>match cl.callee with
  |.builtin .len=>false
  |.builtin .cap=>false
  |.builtin .max=>false
  |.builtin .min=>false
  |_=>true
 |_=>true
theorem zUk (hG:c.G.sym=true)(op:Op)(hw:Zp c op=false)(hk:fM ((oN op).bind (aM c.G tm)) h h'):gU c op tm h' ax=(gU c op tm h nx).rem h' ax:=by
 have cO:∀x a,(oN op).bind (aM c.G tm)=aM c.G tm x→aM c.G tm x=some a→fM (some a) h h':=fun x a e1 e2=>by rw[e1,e2]at hk;exact hk
 have cH:∀{α:Type} (o:Option α) (k k':α→R),(∀a,o=some a→k' a=(k a).rem h' ax)→bR o k'=(bR o k).rem h' ax:=by
  intro α o k k' hh;cases o with
  |none=>rfl
  |some a=>exact hh a rfl
 cases op <;> try (cases hw;done)
 ·exact cH _ _ _ fun _ _=>rfl
 ·exact cH _ _ _ fun _ _=>rfl
 ·refine cH _ _ _ fun v _=>?_;split
  ·exact cH _ _ _ fun _ _=>rfl
  ·exact cH _ _ _ fun _ _=>rfl
  ·rfl
 ·exact cH _ _ _ fun _ _=>cH _ _ _ fun _ _=>zT9 _ _
 ·exact cH _ _ _ fun _ _=>cH _ _ _ fun a ha=>zN7 _ _ (cO _ a rfl ha)
 ·refine cH _ _ _ fun v _=>?_;split <;> rfl
 ·exact cH _ _ _ fun _ _=>cH _ _ _ fun _ _=>cH _ _ _ fun _ _=>zI1 _ _ _ _ _ _
 ·exact cH _ _ _ fun _ _=>zG5 _ _
 ·rename_i s d x;show ra c s d x tm h' ax=(ra c s d x tm h nx).rem h' ax;unfold ra;refine cH _ _ _ fun ts eG=>cH _ _ _ fun td mO=>?_;have qQ:(DL (c.tt.get d) || DL (c.tt.get s))=false:=hw;rw[eG,mO,Bool.or_eq_false_iff]at qQ;have kQ:Ay td=false:=by
   have:=qQ.1;cases td with
   |mk dd _ _ _ _=>cases dd <;> first |rfl |(cases this;done)
  have kR:Ay ts=false:=by
   have:=qQ.2;cases ts with
   |mk dd _ _ _ _=>cases dd <;> first |rfl |(cases this;done)
  rw[kQ,kR];simp only;unfold GP;refine cH _ _ _ fun ts' qat=>cH _ _ _ fun td' FX=>cH _ _ _ fun a ha=>?_;rw[hG];simp only;refine zJm _ _ _ _ _ (fun e s b z f et=>?_) (cO _ a rfl ha);rw[mO]at FX;cases FX;rw[et]at qQ;cases qQ.1
 ·exact cH _ _ _ fun _ _=>cH _ _ _ fun _ _=>zGj _ _ _
 ·rename_i fn a b;show wS c fn a b tm h' ax=(wS c fn a b tm h nx).rem h' ax;unfold wS;cases fn <;> first |exact cH _ _ _ fun _ _=>cH _ _ _ fun _ _=>rfl |rfl
 ·exact cH _ _ _ fun _ _=>cH _ _ _ fun _ _=>cH _ _ _ fun _ _=>cH _ _ _ fun _ _=>cH _ _ _ fun _ _=>zHm _ _ _ _ _
 ·exact cH _ _ _ fun _ _=>cH _ _ _ fun _ _=>zIi _ _ _
 ·exact cH _ _ _ fun _ _=>cH _ _ _ fun _ _=>zJ1 _ _ _
 ·exact cH _ _ _ fun _ _=>cH _ _ _ fun _ _=>cH _ _ _ fun _ _=>zPo _ _ _
 ·exact cH _ _ _ fun _ _=>cH _ _ _ fun _ _=>cH _ _ _ fun _ _=>zR7 _ _ _
 ·exact cH _ _ _ fun _ _=>cH _ _ _ fun a ha=>cH _ _ _ fun _ _=>zNi _ _ _ _ _ _ _ _ (cO _ a rfl ha)
 ·exact cH _ _ _ fun _ _=>cH _ _ _ fun _ _=>zMu _ _ _ _
 ·exact cH _ _ _ fun _ _=>zJi _ _
 ·rename_i cl;obtain⟨callee,args,ts⟩:=cl;cases callee <;> try (cases hw;done)
  rename_i b;have hl:∀l a m,cZ c.G tm args.toList=some l→l=a::m→fM (some a) h h':=by
   intro l a m e1 e2;have aU:fM (args.toList.head?.bind (aM c.G tm)) h h':=hk;cases ju:args.toList with
   |nil=>rw[ju]at e1;cases e1;cases e2
   |cons x xs=>
    rw[ju]at e1 aU
    change (match aM c.G tm x with
     |some a=>match cZ c.G tm xs with
      |some l=>some (a::l)
      |none=>none
     |none=>none)=some l at e1
    change fM (aM c.G tm x) h h' at aU
    cases hx:aM c.G tm x with
    |none=>rw[hx]at e1;cases e1
    |some y=>
     rw[hx]at e1 aU;cases IM:cZ c.G tm xs with
     |none=>rw[IM]at e1;cases e1
     |some ys=>
      rw[IM]at e1;cases e1;cases e2;exact aU
  cases b <;> try (cases hw;done)
  ·refine cH _ _ _ fun l _=>cH _ _ _ fun _ _=>cH _ _ _ fun _ _=>?_;split <;> first |exact zL9 _ _ |rfl
  ·refine cH _ _ _ fun l l7=>cH _ _ _ fun _ _=>cH _ _ _ fun _ _=>?_;split
   ·exact zQs _ _ (hl _ _ _ l7 rfl)
   ·rfl
  ·exact cH _ _ _ fun l _=>Yb true l
  ·exact cH _ _ _ fun l _=>Yb false l
end
end Go.Ev
namespace Go.Ev
noncomputable section
variable {P : Program} {c : Cx} {σ τ υ : Sg} {h g f : Tr ABlk} {nx ny nz sz : Nat} {w x y : World} {tm tm' : Tr AV} {a : Act} {G : Gl}
mutual
theorem av.fz_self (hk:Ok G σ h nx w):∀(v:AV)(V:Value),av σ v V→Fz g nx v v
 |.bool b,V,_=>.bool b
 |.int k n,V,_=>.int k n
 |.str l n,V,_=>.str l n
 |.bs b,V,_=>.bs b
 |.ptr0,V,_=>.ptr0
 |.sl0,V,_=>.sl0
 |.map0,V,_=>.map0
 |.nilFunc,V,_=>.nilFunc
 |.nilIface,V,_=>.nilIface
 |.opq n,V,_=>.opq n
 |.ptr i o,V,h=>by
  simp only[av]at h;obtain⟨b,hb,_⟩:=h;exact .ptr i o (hk.nlt hb)
 |.sl i o l cp opn,V,h=>by
  simp only[av]at h;obtain⟨b,hb,_⟩:=h;exact .sl i o l cp opn (hk.nlt hb)
 |.map i,V,h=>by
  simp only[av]at h;obtain⟨b,hb,_⟩:=h;exact .map i (hk.nlt hb)
 |.yld i,V,h=>by
  simp only[av]at h;obtain⟨b,hb,_⟩:=h;exact .yld i (hk.nlt hb)
 |.agg l,V,h=>by
  simp only[av]at h;obtain⟨L,_,q⟩:=h;exact .agg l l (aC.fz_self hk l L q)
 |.tup l,V,h=>by
  simp only[av]at h;obtain⟨L,_,q⟩:=h;exact .tup l l (aC.fz_self hk l L q)
 |.iface t v,V,h=>by
  simp only[av]at h;obtain⟨U,_,q⟩:=h;exact .iface t v v (av.fz_self hk v U q)
 |.func fn l m,V,h=>by
  simp only[av]at h;obtain⟨A,C,_,p1,p2⟩:=h;exact .func fn l l m m (aC.fz_self hk l A p1) (aC.fz_self hk m C p2)
 |.ip l,V,h=>by
  simp only[av]at h;obtain⟨_,_,_,L,_,_,p2,_⟩:=h;exact .ip l l (aC.fz_self hk l L p2)
 |.fz es full l,V,h=>by
  simp only[av]at h;obtain⟨_,_,_,_,_,_,p3⟩:=h;cases l with
  |nil=>exact .fz es full [] [] .nil
  |cons z l=>
   obtain⟨_,_,_,L,_,_,p2,_⟩:=p3 (by simp);exact .fz es full _ _ (aC.fz_self hk (z::l) L p2)
theorem aC.fz_self (hk:Ok G σ h nx w):∀(l:List AV)(L:List Value),aC σ l L→ct g nx l l
 |[],L,_=>.nil
 |v::l,L,h=>by
  simp only[aC]at h;obtain⟨V,L',_,p1,p2⟩:=h;exact .cons v v l l (av.fz_self hk v V p1) (aC.fz_self hk l L' p2)
end
def Dc (s:Nat):Nat→List (Nat×AV)→Option (List AV)
 |_,[]=>some []
 |k,(i,v)::l=>match Nat.beq i k && Nat.beq v.cells.length s && (match v with |.agg _=>true |v=>v.one) with
  |true=>match Dc s (k+1) l with
   |some xs=>some (v::xs)
   |none=>none
  |false=>none
theorem Wx {s:Nat}:∀{k:Nat}{ps:List (Nat×AV)}{xs:List AV}{PS:List (Nat×Value)},Dc s k ps=some xs→rf σ ps PS→qG s xs (xs.flatMap AV.cells)∧(∃XS,aC σ xs XS)∧∀l l':List AV,(k+xs.length) * s≤l.length→rD (fun i=>some (Nat.mul i s,s)) ps l=some l'→l'=l.take (k * s)++(xs.flatMap AV.cells++l.drop ((k+xs.length) * s))
 |k,[],xs,PS,e,hr=>by
  cases e;refine⟨rfl,⟨[],by simp only[aC]⟩,fun l l' hl hf=>?_⟩;have:some l=some l':=hf;cases this;simp
 |k,(i,v)::ps,xs,PS,e,hr=>by
  simp only[Dc]at e;split at e
  ·rename_i hb;simp only[al]at hb;obtain⟨⟨b1,b2⟩,b3⟩:=hb;have D6:=ad b1;have vp:=ad b2;subst D6;cases hv:Dc s (i+1) ps with
   |none=>rw[hv]at e;cases e
   |some ys=>
    rw[hv]at e;cases e;simp only[rf]at hr;obtain⟨V,PS',_,r1,r2⟩:=hr;obtain⟨c1,⟨XS,c2⟩,c3⟩:=Wx hv r2;refine⟨⟨v.cells,ys.flatMap AV.cells,by simp,rfl,vp,?_,c1⟩,⟨V::XS,by simp only[aC];exact⟨_,_,rfl,r1,c2⟩⟩,fun l l' hl hf=>?_⟩
    ·cases v <;> first |exact .inl rfl |exact .inr b3
    ·rw[Rr]at hf;simp only[List.length_cons]at hl;have hle:i * s+s≤l.length:=by
      have:(i+1) * s≤(i+(ys.length+1)) * s:=Nat.mul_le_mul_right s (by omega);rw[Nat.add_mul]at this;omega
     have gZ:Nat.ble (Nat.add (Nat.mul i s) s) l.length=true:=Nat.ble_eq_true_of_le hle;simp only[b2,gZ]at hf;have N5:(aG l (i * s) v.cells).length=l.length:=P9 (by rw[vp];exact hle);have:=c3 (aG l (i * s) v.cells) l' (by rw[N5,show i+1+ys.length=i+(ys.length+1) by omega];exact hl) hf;rw[this];have hm:(i+1) * s=i * s+s:=by rw[Nat.add_mul,Nat.one_mul]
     have jc:(l.take (i * s)).length=i * s:=by rw[List.length_take,Nat.min_eq_left (by omega)]
     have vz:aG l (i * s) v.cells=l.take (i * s)++(v.cells++l.drop (i * s+v.cells.length)):=rfl;have ht:(aG l (i * s) v.cells).take ((i+1) * s)=l.take (i * s)++v.cells:=by
      have hlen:(i+1) * s=(l.take (i * s)++v.cells).length:=by rw[List.length_append,jc,vp,hm]
      rw[vz,← List.append_assoc,hlen,List.take_left]
     have hd:(aG l (i * s) v.cells).drop ((i+1+ys.length) * s)=l.drop ((i+(ys.length+1)) * s):=by
      rw[vz,← List.append_assoc,List.drop_append,List.length_append,jc,vp,aq (by rw[List.length_append,jc,vp,← hm];exact Nat.mul_le_mul_right s (by omega)),List.nil_append,List.drop_drop]
      congr 1
      rw[show i+(ys.length+1)=i+1+ys.length by omega,← hm];have:(i+1) * s≤(i+1+ys.length) * s:=Nat.mul_le_mul_right s (by omega);omega
     rw[ht,hd];simp
  ·cases e
def xd (ti:TI)(te:Option TI)(et:TypeId) (len:Nat)(ps:List (Nat×AV))(h:Tr ABlk) (nx:Nat):R:=
 match ti,te with
 |.mk (.slice e) _ _ _ _,some (.mk _ s _ (some z) _)=>match Nat.beq e et && Nat.ble (Nat.mul len s) 16777216 && Nat.ble 1 s with
  |true=>match rD (fun i=>some (Nat.mul i s,s)) ps (ko z.cells len) with
   |some _=>match Dc s 0 ps with
    |some xs=>match Nat.beq xs.length len with
     |true=>.val (.fz s false xs) h nx
     |false=>.fail
    |none=>.fail
   |none=>.fail
  |false=>.fail
 |_,_=>.fail
theorem zHh (hk:Ok G σ h nx w)(t:TypeId){ti:TI}(ht:cJ P t ti){te:Option TI}{et:TypeId}(iG:∀ti,te=some ti→cJ P et ti) (len:Nat){ps:List (Nat×AV)}{PS:Array (Nat×Value)}(hp:rf σ ps PS.toList):
  RV P G σ h nx w (Instr.buildSlice t len PS) (xd ti te et len ps h nx):=by
 have h0:=Y8 (P:=P) (w:=w) hk t ht iG len hp;unfold xd;split
 ·rename_i e q1 q2 q3 q4 de s b z fs;split
  ·rename_i fC;simp only[al]at fC;obtain⟨⟨b1,b2⟩,b3⟩:=fC;have b4:Nat.beq s 0=false:=by
    cases hs:Nat.beq s 0 with
    |false=>rfl
    |true=>
     have:=ad hs;subst this;cases b3
   split
   ·rename_i l' vJ;split
    ·rename_i xs IM;split
     ·rename_i hb;have aS:=ad hb;unfold Dg at h0;simp only[b1,b2,b4,vJ,newK,kY,fN_eq,Tr.putK_eq]at h0;obtain⟨V,τ,x,r1,r2,r3⟩:=h0;obtain⟨c1,⟨XS,c2⟩,c3⟩:=Wx IM hp;obtain⟨_,inf,_,oX,_,hz,_⟩:=iG _ rfl;obtain⟨Z,_,hZr,hZs⟩:=hz z rfl;have wg:z.cells.length=s:=by
       have:=(hZr σ).cells.length;simp at this;omega
      have gE:=c3 _ l' (by rw[Gv,wg,Nat.zero_add,aS];exact ae _) vJ;rw[Nat.zero_mul,List.take_zero,List.nil_append,Nat.zero_add,aq (by rw[Gv,wg,aS];exact ae _),List.append_nil]at gE;subst gE;have zF:∀i,i<nx→(h.put nx (some (ABlk.cells e (xs.flatMap AV.cells).length (ef (xs.flatMap AV.cells) .nil 0) false 0))).get i=h.get i:=fun i hi=>by rw[Tr.get_put,if_neg (by omega)]
      refine⟨V,_,x,r1,?_,Post.frz hk r3 zF⟩;refine Fz.rel r3.ok (.slz nx 0 len len false e (xs.flatMap AV.cells).length (ef (xs.flatMap AV.cells) .nil 0) false 0 s (xs.flatMap AV.cells) (xs.flatMap AV.cells) xs (ae _) (by rw[Tr.get_put,if_pos rfl]) (by omega) (fun j hj=>by rw[Nat.zero_add,fx]) (aC.fz_self hk _ _ c2.flat) c1 aS) V r2
     ·trivial
    ·trivial
   ·trivial
  ·trivial
 ·trivial
end
end Go.Ev
namespace Go.Ev
noncomputable section
variable {P : Program} {c : Cx} {σ τ υ : Sg} {h h' g f : Tr ABlk} {nx ax ny nz sz : Nat} {w x y : World} {tm tm' : Tr AV} {a : Act} {G : Gl} {r : Option Nat}
def uJ (tm tm':Tr AV)(l:List Operand):Prop:=∀t,Operand.tmp t∈l→tm.get t=tm'.get t
theorem yW {x:Operand}{l:List Operand}(hs:uJ tm tm' l)(hx:x∈l):aM G tm x=aM G tm' x:=by
 cases x <;> try rfl
 exact hs _ hx
theorem DA:∀{l m:List Operand},uJ tm tm' m→(∀x∈l,x∈m)→cZ G tm l=cZ G tm' l
 |[],m,_,_=>rfl
 |x::l,m,hs,hl=>by
  show (match aM G tm x with
   |some a=>match cZ G tm l with
    |some l=>some (a::l)
    |none=>none
   |none=>none)=(match aM G tm' x with
   |some a=>match cZ G tm' l with
    |some l=>some (a::l)
    |none=>none
   |none=>none)
  rw[yW hs (hl x (by simp)),DA hs fun y hy=>hl y (by simp[hy])]
theorem Jv:∀{l:List (Nat×Operand)}{m:List Operand},uJ tm tm' m→(∀p∈l,p.2∈m)→mi G tm l=mi G tm' l
 |[],m,_,_=>rfl
 |(i,x)::l,m,hs,hl=>by
  show (match aM G tm x with
   |some a=>match mi G tm l with
    |some l=>some ((i,a)::l)
    |none=>none
   |none=>none)=(match aM G tm' x with
   |some a=>match mi G tm' l with
    |some l=>some ((i,a)::l)
    |none=>none
   |none=>none)
  rw[yW hs (hl (i,x) (by simp)),Jv hs fun y hy=>hl y (by simp[hy])]
theorem RI {x:Option Operand}{l:List Operand}(hs:uJ tm tm' l)(hx:∀y,x=some y→y∈l):uH G tm x=uH G tm' x:=by
 cases x with
 |none=>rfl
 |some y=>unfold uH;simp only;rw[yW hs (hx y rfl)]
theorem YP (op:Op)(hs:uJ tm tm' op.operands.toList):jF c op tm h nx=jF c op tm' h nx:=by
 have e:∀x,x∈op.operands.toList→aM c.G tm x=aM c.G tm' x:=fun x hx=>yW hs hx;cases op <;> try rfl
 ·show ku c _ tm h nx=ku c _ tm' h nx;unfold ku;rw[e _ (by simp[Op.operands])]
 ·show ku c _ tm h nx=ku c _ tm' h nx;unfold ku;rw[e _ (by simp[Op.operands])]
 ·show dw c _ _ _ tm h nx=dw c _ _ _ tm' h nx;unfold dw ku;rw[e _ (by simp[Op.operands]),e _ (by simp[Op.operands]),e _ (by simp[Op.operands])]
 ·show Bb c _ _ tm h nx=Bb c _ _ tm' h nx;unfold Bb;rw[e _ (by simp[Op.operands])]
 ·show JA c _ _ tm h nx=JA c _ _ tm' h nx;unfold JA;rw[Jv hs (fun p hp=>by simp only[Op.operands];exact List.mem_map.2 ⟨p,hp,rfl⟩)]
 ·show Ko c _ _ _ tm h nx=Ko c _ _ _ tm' h nx;unfold Ko;rw[Jv hs (fun p hp=>by simp only[Op.operands];exact List.mem_map.2 ⟨p,hp,rfl⟩)]
 ·show tr c _ _ _ _ tm h nx=tr c _ _ _ _ tm' h nx;unfold tr;rw[e _ (by simp[Op.operands]),e _ (by simp[Op.operands]),e _ (by simp[Op.operands])]
 ·show By c _ _ tm h nx=By c _ _ tm' h nx;unfold By;rw[e _ (by simp[Op.operands])]
 ·show Kj c _ _ _ tm h nx=Kj c _ _ _ tm' h nx;unfold Kj;rw[e _ (by simp[Op.operands]),e _ (by simp[Op.operands])]
 ·show A4 c _ tm h nx=A4 c _ tm' h nx;unfold A4;rw[e _ (by simp[Op.operands])]
 ·show Bn c _ _ _ _ tm h nx=Bn c _ _ _ _ tm' h nx;unfold Bn;rw[e _ (by simp[Op.operands]),e _ (by simp[Op.operands])]
 ·show AH c _ _ tm h nx=AH c _ _ tm' h nx;unfold AH;rw[e _ (by simp[Op.operands])]
 ·show ra c _ _ _ tm h nx=ra c _ _ _ tm' h nx;unfold ra GP;rw[e _ (by simp[Op.operands])]
 ·show Kd c _ _ tm h nx=Kd c _ _ tm' h nx;unfold Kd;rw[e _ (by simp[Op.operands])]
 ·show wS c _ _ _ tm h nx=wS c _ _ _ tm' h nx;unfold wS;rw[DA hs (fun x hx=>by simp[Op.operands]at hx ⊢;exact .inl hx),DA hs (fun x hx=>by simp[Op.operands]at hx ⊢;exact .inr hx)]
 ·show Dt c _ _ _ tm h nx=Dt c _ _ _ tm' h nx;unfold Dt;rw[e _ (by simp[Op.operands]),e _ (by simp[Op.operands])]
 ·show BG c _ _ _ _ _ tm h nx=BG c _ _ _ _ _ tm' h nx;unfold BG;rw[e _ (by simp[Op.operands]),RI hs (fun y hy=>by subst hy;simp[Op.operands]),RI hs (fun y hy=>by subst hy;simp[Op.operands]),RI hs (fun y hy=>by subst hy;simp[Op.operands])]
 ·show Bd c _ _ _ tm h nx=Bd c _ _ _ tm' h nx;unfold Bd;rw[e _ (by simp[Op.operands])]
 ·show Bk c _ _ _ tm h nx=Bk c _ _ _ tm' h nx;unfold Bk;rw[e _ (by simp[Op.operands])]
 ·show BC c _ _ _ tm h nx=BC c _ _ _ tm' h nx;unfold BC;rw[e _ (by simp[Op.operands]),e _ (by simp[Op.operands])]
 ·show BA c _ _ _ tm h nx=BA c _ _ _ tm' h nx;unfold BA;rw[e _ (by simp[Op.operands]),e _ (by simp[Op.operands])]
 ·show Bw c _ _ _ _ tm h nx=Bw c _ _ _ _ tm' h nx;unfold Bw;rw[e _ (by simp[Op.operands]),e _ (by simp[Op.operands])]
 ·show tr c _ _ _ _ tm h nx=tr c _ _ _ _ tm' h nx;unfold tr;rw[e _ (by simp[Op.operands]),e _ (by simp[Op.operands]),e _ (by simp[Op.operands])]
 ·show IX c _ _ _ tm h nx=IX c _ _ _ tm' h nx;unfold IX;rw[e _ (by simp[Op.operands])]
 ·show Br c _ _ tm h nx=Br c _ _ tm' h nx;unfold Br;rw[e _ (by simp[Op.operands])]
 ·rename_i cl;obtain⟨callee,args,ts⟩:=cl;cases callee <;> try rfl
  show A8 c _ _ _ tm h nx=A8 c _ _ _ tm' h nx;unfold A8;rw[DA hs (fun x hx=>by simp[Op.operands,Call.operands]at hx ⊢;exact hx)]
theorem Zq (op:Op)(hs:uJ tm tm' op.operands.toList):gU c op tm h nx=gU c op tm' h nx:=by
 have e:∀x,x∈op.operands.toList→aM c.G tm x=aM c.G tm' x:=fun x hx=>yW hs hx;have h0:=YP (c:=c) (h:=h) (nx:=nx) op hs;cases op <;> try exact h0
 ·show Bp c _ _ _ tm h nx=Bp c _ _ _ tm' h nx;unfold Bp;rw[e _ (by simp[Op.operands]),e _ (by simp[Op.operands])]
 ·rename_i cl;obtain⟨callee,args,ts⟩:=cl;cases callee <;> try exact h0
  rename_i b;cases b <;> try exact h0
  show wD c _ args.toList tm h nx=wD c _ args.toList tm' h nx;have jf:∀x∈args.toList,aM c.G tm x=aM c.G tm' x:=fun x hx=>e x (by simp[Op.operands,Call.operands]at hx ⊢;exact hx);unfold wD;generalize args.toList=l at jf;split
  ·cases l with
   |nil=>rfl
   |cons x l=>
    cases l with
    |nil=>rfl
    |cons y l=>
     cases l with
     |nil=>simp only[jf x (by simp),jf y (by simp)]
     |cons z l=>rfl
  ·rfl
def cv (c:Cx)(op:Op)(tm:Tr AV)(h:Tr ABlk) (nx:Nat):R:=match op with
 |.buildSlice t n ps=>bR (c.tt.get t) fun ti=>bR (mi c.G tm ps.toList) fun l=>xd ti (c.tt.get (kr ti)) (kr ti) n l h nx
 |op=>gU c op tm h nx
def Xd:Op→Bool
 |.buildSlice _ _ _=>true
 |_=>false
theorem zTj {op:Op}(hb:Xd op=false):cv c op=gU c op:=by cases op <;> first |rfl |cases hb
theorem zzs (op:Op)(hs:uJ tm tm' op.operands.toList):cv c op tm h nx=cv c op tm' h nx:=by
 cases op <;> try first |exact Zq _ hs |rfl
 show (bR (c.tt.get _) fun ti=>bR (mi c.G tm _) fun l=>xd ti (c.tt.get (kr ti)) (kr ti) _ l h nx)=_;rw[Jv hs (fun p hp=>by simp only[Op.operands];exact List.mem_map.2 ⟨p,hp,rfl⟩)];rfl
theorem zza (hc:CxOk P c)(hk:Ok c.G σ h nx w)(ht:jQ σ tm a)(o:Oper):RO P c.G σ h nx w (execOp a.eval o) (cv c o.op tm h nx):=by
 have h0:=Qq hc hk ht o;obtain⟨dst,op,type,pos,after,guard⟩:=o;cases op <;> try exact h0
 refine bj fun ti e=>bj fun l e2=>RO.ofV (zHh hk _ (hc.tt _ _ e) (hc.tt _) _ ?_);have:=KV hk ht e2;simpa using this
def J3 (c:Cx)(op:Op):Bool:=match op with
 |.buildSlice _ _ _=>false
 |op=>Zp c op
theorem zPv (ti:TI)(te:Option TI)(et:TypeId) (len:Nat)(ps:List (Nat×AV)):xd ti te et len ps h' ax=(xd ti te et len ps h nx).rem h' ax:=by
 unfold xd
 repeat' split
 all_goals rfl
theorem XE (hG:c.G.sym=true)(op:Op)(hw:J3 c op=false)(hk:fM ((oN op).bind (aM c.G tm)) h h'):cv c op tm h' ax=(cv c op tm h nx).rem h' ax:=by
 cases hb:Xd op with
 |false=>
  rw[zTj hb];exact zUk hG op (by cases op <;> first |exact hw |cases hb) hk
 |true=>
  cases op <;> try (cases hb;done)
  exact YY _ _ _ fun _=>YY _ _ _ fun _=>zPv _ _ _ _ _
theorem RX {ops:List Oper}{o:Oper}:uJ (fX (eP ops o) tm) tm o.op.operands.toList:=fun t ht=>by
 rw[Dw,if_pos];unfold eP;rw[List.mem_append];exact .inl (List.mem_filterMap.2 ⟨.tmp t,ht,rfl⟩)
theorem Ke {ops:List Oper}{o:Oper}:fY ops (fX (eP ops o) tm) o=fY ops tm o:=by
 unfold fY;cases hg:o.guard with
 |none=>rfl
 |some p=>
  obtain⟨j,want⟩:=p;simp only;cases hj:ops[j]? with
  |none=>rfl
  |some oj=>
   simp only;cases hd:oj.dst with
   |none=>rfl
   |some d=>
    simp only;rw[Dw,if_pos];unfold eP;rw[List.mem_append,hg];simp only;rw[hj];simp[hd]
theorem gX.skip {ops:Array Oper}{o:Oper}(hw:fY ops.toList tm o=some false):gX P c r ops o (.tup []) (fX (eP ops.toList o) tm) h nx h nx:=by
 intro σ a w ok ht Q K hK;rw[← Ke (tm:=tm)]at hw;rw[yE ht hw];simp only[Bool.false_eq_true,if_false];exact⟨fun _ _=>trivial,hK σ w undef uR (.refl ok)⟩
theorem gX.val (hc:CxOk P c){ops:Array Oper}{o:Oper}(hw:fY ops.toList tm o=some true)(hd:qC o.op=false){v:AV}(he:cv c o.op tm h nx=.val v g ny):gX P c r ops o v (fX (eP ops.toList o) tm) h nx g ny:=by
 intro σ a w ok ht Q K hK;rw[← Ke (tm:=tm)]at hw;rw[yE ht hw];simp only[if_true];rw[← zzs _ RX]at he;have hp:=zza hc ok ht o;rw[he]at hp;obtain⟨V,τ,x,h1,h2,h3⟩:=hp;refine jS (fun cl e=>by rw[e]at hd;cases hd) ?_;rw[h1];exact hK τ x V h2 h3
theorem gX.unit (hc:CxOk P c){ops:Array Oper}{o:Oper}(hw:fY ops.toList tm o=some true)(hd:qC o.op=false)(he:cv c o.op tm h nx=.unit g ny):gX P c r ops o (.tup []) (fX (eP ops.toList o) tm) h nx g ny:=by
 intro σ a w ok ht Q K hK;rw[← Ke (tm:=tm)]at hw;rw[yE ht hw];simp only[if_true];rw[← zzs _ RX]at he;have hp:=zza hc ok ht o;rw[he]at hp;obtain⟨τ,x,h1,h3⟩:=hp;refine jS (fun cl e=>by rw[e]at hd;cases hd) ?_;rw[h1];exact hK τ x undef uR h3
theorem gX.call {ops:Array Oper}{o:Oper}(hw:fY ops.toList tm o=some true){fo:Operand}{args:Array Operand}(aX:kA o.op=some (fo,args)){fid:FuncId}{first cap l:List AV}(hf:aM c.G tm fo=some (.func fid first cap))(hl:cZ c.G tm args.toList=some l){u:AV}(hr:aN P c fid (first++(l++cap)) h nx fun v g ny=>v=u∧g=h∧ny=nx):
  gX P c r ops o u (fX (eP ops.toList o) tm) h nx h nx:=by
 intro σ a w ok ht Q K hK;have qo:=RX (tm:=tm) (ops:=ops.toList) (o:=o);rw[← Ke (tm:=tm)]at hw;rw[yE ht hw];simp only[if_true];obtain⟨dst,op,type,pos,after,guard⟩:=o;cases op <;> try (cases aX;done)
 rename_i cl;obtain⟨callee,args',argTypes⟩:=cl;cases callee <;> try (cases aX;done)
 cases aX
 rename Array Operand=>args
 have E9:aM c.G (fX (eP ops.toList ⟨dst,.call ⟨.value fo,args,argTypes⟩,type,pos,after,guard⟩) tm) fo=some (.func fid first cap):=by
  rw[yW qo (by simp[Op.operands,Call.operands])];exact hf
 have vJ:cZ c.G (fX (eP ops.toList ⟨dst,.call ⟨.value fo,args,argTypes⟩,type,pos,after,guard⟩) tm) args.toList=some l:=by
  rw[DA qo (fun x hx=>by simp[Op.operands,Call.operands]at hx ⊢;exact .inr hx)];exact hl
 have kK:=jT ok ht E9;have qf:=tB ok ht vJ;simp only[av]at kK;obtain⟨F,C,e1,r1,r2⟩:=kK;have fD:=hr σ w (F++(args.toList.map a.eval++C)) ok (r1.append (qf.append r2));have hex:(execOp a.eval ⟨dst,.call ⟨.value fo,args,argTypes⟩,type,pos,after,guard⟩).run P w=(callFunc fid (F++(args.toList.map a.eval++C)).toArray).run P w:=by
  have e2:execOp a.eval ⟨dst,.call ⟨.value fo,args,argTypes⟩,type,pos,after,guard⟩=(do let d ← Deferred.ofValue (a.eval fo) (args.map a.eval);invoke d.target d.args):=rfl;rw[e2,e1];show (callFunc fid (F.toArray++args.map a.eval++C.toArray)).run P w=_
  congr 2
  apply Array.ext';simp
 refine jS (fun _ e=>by cases e) ?_;rw[hex];unfold CR at fD;cases aO:(callFunc fid (F++(args.toList.map a.eval++C)).toArray).run P w with
 |halt hh w'=>rw[aO]at fD;exact fD.elim
 |ok AG w'=>
  rw[aO]at fD;cases AG <;> try exact fD.elim
  ·rename_i V;obtain⟨τ,v,g,ny,q1,q2,q3,q4,q5⟩:=fD;subst q3;subst q4;subst q5;exact hK τ _ V q1 q2
  ·refine⟨fun hh=>by simp[dD,Fence.wide]at hh,GZ (Calls.mono fD fun e x q=>?_)⟩;cases e with
   |returned V=>
    obtain⟨τ,v,g,ny,q1,q2,q3,q4,q5⟩:=q;subst q3;subst q4;subst q5;exact hK τ x V q1 q2
   |panicked ch=>exact q.elim
   |outgrown=>exact q.elim
def uw (acc:List Nat)(es:List Edge):Nat:=List.rec (motive:=fun _=>Nat) 0 (fun e _ ih=>match Region.binds .any e with
 |true=>Nat.lor (Nat.lor (Nat.pow 2 e.on) (acc.getD e.on 0)) ih
 |false=>ih) es
def bJ (l:List Oper):List Nat→List Nat:=List.rec (motive:=fun _=>List Nat→List Nat) (fun acc=>acc) (fun o _ ih acc=>ih (acc++[uw acc o.after.toList])) l
def tb (m i:Nat):Bool:=Nat.beq (Nat.mod (Nat.div m (Nat.pow 2 i)) 2) 1
theorem CV (m i:Nat):tb m i=m.testBit i:=by
 rw[Nat.testBit_eq_decide_div_mod_eq];unfold tb;show Nat.beq (m / 2 ^ i % 2) 1=_;cases h:Nat.beq (m / 2 ^ i % 2) 1 with
 |true=>simp[ad h]
 |false=>simp[mX h]
def cU (ms:List Nat) (i j:Nat):Bool:=tb (ms.getD j 0) i
def eg {α:Type}(l:List α)(f:α→Bool):Bool:=List.rec (motive:=fun _=>Bool) true (fun a _ ih=>match f a with |true=>ih |false=>false) l
def oJ (ms:List Nat) (i j:Nat):Bool:=match Nat.ble (Nat.succ j) i with
 |true=>cU ms j i
 |false=>cU ms i j
def tj (ops:List Oper)(Wl:List Nat) (i:Nat):Bool:=eg Wl fun j=>Nat.beq i j || oJ (bJ ops []) i j
def bq (i:Nat):List Nat→Bool
 |[]=>false
 |a::l=>match Nat.beq i a with
  |true=>true
  |false=>bq i l
def GM (P:Program)(c:Cx)(ops:List Oper)(Wl:List Nat) (i:Nat)(h:Tr ABlk) (nx:Nat)(cl:Option (Operand×Array Operand))(tm:Tr AV)(K:AV→Prop):Prop:=match cl with
 |some (f,args)=>match aM c.G tm f with
  |some (.func fid first cap)=>match cZ c.G tm args.toList with
   |some l=>∃u,(ay P c fid (first++(l++cap)) u∨(tj ops Wl i=true∧aN P c fid (first++(l++cap)) h nx fun v g ny=>v=u∧g=h∧ny=nx))∧K u
   |none=>False
  |_=>False
 |none=>False
def iZ (c:Cx)(ops:List Oper) (j:Nat)(tm:Tr AV):Option AV:=match ops[j]? with
 |some o=>(oN o.op).bind (aM c.G tm)
 |none=>none
def wP (c:Cx)(ops:List Oper) (j:Nat)(tm:Tr AV)(h h':Tr ABlk):List (Nat×Nat)→Prop
 |[]=>True
 |(a,b)::U=>(b=j→a<j→fM (iZ c ops a tm) h h')∧wP c ops j tm h h' U
def yu (c:Cx)(ops:List Oper) (i:Nat)(tm:Tr AV)(hs:Nat→Tr ABlk)(h:Tr ABlk):List (Nat×Nat)→Prop
 |[]=>True
 |(a,b)::U=>(a=i→b<i→fM (iZ c ops i tm) h (hs b))∧yu c ops i tm hs h U
theorem Sa {ops:List Oper}{j:Nat}:∀{U:List (Nat×Nat)},wP c ops j tm h h' U→∀a,(a,j)∈U→a<j→fM (iZ c ops a tm) h h'
 |[],_,a,hm,_=>by cases hm
 |(a',b)::U,hk,a,hm,hl=>by
  rcases List.mem_cons.1 hm with e |e
  ·cases e;exact hk.1 rfl hl
  ·exact Sa hk.2 a e hl
theorem XD {ops:List Oper}{i:Nat}{hs:Nat→Tr ABlk}:∀{U:List (Nat×Nat)},yu c ops i tm hs h U→∀b,(i,b)∈U→b<i→fM (iZ c ops i tm) h (hs b)
 |[],_,b,hm,_=>by cases hm
 |(a',b')::U,hk,b,hm,hl=>by
  rcases List.mem_cons.1 hm with e |e
  ·cases e;exact hk.1 rfl hl
  ·exact XD hk.2 b e hl
def BB (c:Cx) (sz:Nat)(ops:List Oper)(U:List (Nat×Nat)) (i:Nat)(d:Option Tmp)(tm:Tr AV)(h:Tr ABlk)(ds:List DE)(K:AS→Prop)(q:R):Prop:=match q with
 |.val v h' ax=>wP c ops i tm h h' U∧cT sz d v (.mk tm h' ax ds) K
 |.unit h' ax=>wP c ops i tm h h' U∧cT sz d (.tup []) (.mk tm h' ax ds) K
 |.fail=>False
def Bl (c:Cx) (sz:Nat)(ops:List Oper)(U:List (Nat×Nat)) (i:Nat)(d:Option Tmp)(tm:Tr AV)(h:Tr ABlk) (nx:Nat)(ds:List DE)(hs:Nat→Tr ABlk)(K:AS→Prop)(q:R):Prop:=match q with
 |.val v _ _=>yu c ops i tm hs h U∧cT sz d v (.mk tm h nx ds) K
 |_=>False
def pB (P:Program)(c:Cx) (sz:Nat)(ops:List Oper)(Wl Cl:List Nat)(U:List (Nat×Nat)) (i:Nat)(hs:Nat→Tr ABlk)(o:Oper)(K:(Nat→Tr ABlk)→AS→Prop)(s:AS):Prop:=
 match s with
 |.mk tm h nx ds=>match fY ops tm o with
  |none=>False
  |some false=>cT sz o.dst (.tup []) (.mk tm h nx ds) (K fun j=>if j=i then h else hs j)
  |some true=>match bq i Cl with
   |true=>GM P c ops Wl i h nx (kA o.op) tm fun u=>cT sz o.dst u (.mk tm h nx ds) (K fun j=>if j=i then h else hs j)
   |false=>match bq i Wl with
    |true=>BB c sz ops U i o.dst tm h ds (K fun j=>if j=i then h else hs j) (cv c o.op tm h nx)
    |false=>Bl c sz ops U i o.dst tm h nx ds hs (K fun j=>if j=i then h else hs j) (cv c o.op tm h nx)
def pK (P:Program)(c:Cx) (sz:Nat)(ops:List Oper)(Wl Cl:List Nat)(U:List (Nat×Nat))(K:AS→Prop):List Oper→Nat→(Nat→Tr ABlk)→AS→Prop
 |[],_,_,s=>K s
 |o::l,i,hs,s=>pB P c sz ops Wl Cl U i hs o (pK P c sz ops Wl Cl U K l (i+1)) s
def yM (P:Program)(c:Cx)(r:Option Nat) (sz:Nat)(ops:Array Oper)(Wl Cl:List Nat)(U:List (Nat×Nat))(S:Nat→Tr AV×Tr ABlk×Nat)(v:Nat→AV) (j:Nat):Prop:=
 ∃o,ops[j]?=some o∧gX P c r ops o (v j) (fX (eP ops.toList o) (S j).1) (S j).2.1 (S j).2.2 (S (j+1)).2.1 (S (j+1)).2.2∧(∀d,o.dst=some d→d<sz)∧
  (S (j+1)).1=(match o.dst with |none=>(S j).1 |some d=>(S j).1.put d (some (v j)))∧
  (bq j Wl=false→(S (j+1)).2=(S j).2∧((∀h' ax,gX P c r ops o (v j) (fX (eP ops.toList o) (S j).1) h' ax h' ax) ∨
   (bq j Cl=false∧(∀h' ax,fM (iZ c ops.toList j (S j).1) (S j).2.1 h'→gX P c r ops o (v j) (fX (eP ops.toList o) (S j).1) h' ax h' ax)∧∀b,(j,b)∈U→b<j→fM (iZ c ops.toList j (S j).1) (S j).2.1 (S b).2.1)∨tj ops.toList Wl j=true))∧
  (bq j Wl=true→∀a,(a,j)∈U→a<j→fM (iZ c ops.toList a (S j).1) (S j).2.1 (S (j+1)).2.1)
theorem GQ (v:Option AV)(h:Tr ABlk):fM v h h:=by
 unfold fM;split
 ·split
  ·rfl
  ·trivial
 ·trivial
def QC (c:Cx)(ops:List Oper)(Wl Cl:List Nat):Prop:=∀i o,ops[i]?=some o→bq i Cl=false→qC o.op=false∧(bq i Wl=false→J3 c o.op=false)
def tC (P:Program)(c:Cx) (sz:Nat)(ops:List Oper)(Wl Cl:List Nat)(U:List (Nat×Nat))(K:(Nat→Tr ABlk)→AS→Prop):List Oper→Nat→(Nat→Tr ABlk)→AS→Prop
 |[],_,hs,s=>K hs s
 |o::l,i,hs,s=>pB P c sz ops Wl Cl U i hs o (tC P c sz ops Wl Cl U K l (i+1)) s
theorem WD {ops:List Oper}{Wl Cl:List Nat}{U:List (Nat×Nat)}{K:AS→Prop}:∀(l:List Oper) (i:Nat),pK P c sz ops Wl Cl U K l i=tC P c sz ops Wl Cl U (fun _=>K) l i
 |[],i=>rfl
 |o::l,i=>by
  funext hs s
  show pB P c sz ops Wl Cl U i hs o (pK P c sz ops Wl Cl U K l (i+1)) s=pB P c sz ops Wl Cl U i hs o (tC P c sz ops Wl Cl U (fun _=>K) l (i+1)) s;rw[WD l (i+1)]
theorem Y2 (hc:CxOk P c)(hG:c.G.sym=true){ops:Array Oper}{Wl Cl:List Nat}{U:List (Nat×Nat)}{K:(Nat→Tr ABlk)→AS→Prop}(aX:QC c ops.toList Wl Cl)(ua:∀i,bq i Cl=true→bq i Wl=false):∀(l:List Oper) (i:Nat)(hs:Nat→Tr ABlk)(tm:Tr AV)(h:Tr ABlk) (nx:Nat)(ds:List DE),(∀k,k<l.length→l[k]?=ops[i+k]?)→
  tC P c sz ops.toList Wl Cl U K l i hs (.mk tm h nx ds)→∀(S0:Nat→Tr AV×Tr ABlk×Nat) (v0:Nat→AV),S0 i=(tm,h,nx)→(∀j,j<i→hs j=(S0 j).2.1)→
  ∃(S:Nat→Tr AV×Tr ABlk×Nat) (v:Nat→AV),(∀j,j≤i→S j=S0 j)∧(∀j,j<i→v j=v0 j)∧(∃jf,(∀j,j<i+l.length→jf j=(S j).2.1)∧K jf (.mk (S (i+l.length)).1 (S (i+l.length)).2.1 (S (i+l.length)).2.2 ds))∧∀j,i≤j→j<i+l.length→yM P c r sz ops Wl Cl U S v j:=by
 intro l
 induction l with
 |nil=>
  intro i hs tm h nx ds _ hw S0 v0 hS hh;refine⟨S0,v0,fun _ _=>rfl,fun _ _=>rfl,⟨hs,fun j hj=>hh j (by simpa using hj),?_⟩,fun j h1 h2=>by simp at h2;omega⟩;simp only[List.length_nil,Nat.add_zero,hS];exact hw
 |cons o l ih=>
  intro i hs tm h nx ds hl hw S0 v0 hS hh;have ho:ops[i]?=some o:=by simpa using (hl 0 (by simp)).symm
  have vJ:∀k,k<l.length→l[k]?=ops[i+1+k]?:=fun k hk=>by
   have:=hl (k+1) (by simpa using hk);rw[show i+(k+1)=i+1+k by omega]at this;simpa using this
  have key:∀(u:AV) (h1:Tr ABlk) (n1:Nat),cT sz o.dst u (.mk tm h1 n1 ds) (tC P c sz ops.toList Wl Cl U K l (i+1) fun j=>if j=i then h else hs j)→
    (∀(S:Nat→Tr AV×Tr ABlk×Nat) (v:Nat→AV) ,S i=(tm,h,nx)→(S (i+1)).2=(h1,n1)→v i=u→(S (i+1)).1=(match o.dst with |none=>tm |some d=>tm.put d (some u))→(∀j,j<i→hs j=(S j).2.1)→(∀d,o.dst=some d→d<sz)→yM P c r sz ops Wl Cl U S v i)→
    ∃(S:Nat→Tr AV×Tr ABlk×Nat) (v:Nat→AV),(∀j,j≤i→S j=S0 j)∧(∀j,j<i→v j=v0 j)∧(∃jf,(∀j,j<i+(o::l).length→jf j=(S j).2.1)∧K jf (.mk (S (i+(o::l).length)).1 (S (i+(o::l).length)).2.1 (S (i+(o::l).length)).2.2 ds))∧∀j,i≤j→j<i+(o::l).length→yM P c r sz ops Wl Cl U S v j:=by
   intro u h1 n1 hp eM;have An:∃ba,ba=(match o.dst with |none=>tm |some d=>tm.put d (some u))∧(∀d,o.dst=some d→d<sz)∧tC P c sz ops.toList Wl Cl U K l (i+1) (fun j=>if j=i then h else hs j) (.mk ba h1 n1 ds):=by
    unfold cT at hp;cases hd:o.dst with
    |none=>rw[hd]at hp;exact⟨tm,rfl,(fun d e=>by cases e),hp⟩
    |some d=>rw[hd]at hp;exact⟨_,rfl,(fun d' e=>by cases e;exact hp.1),hp.2⟩
   obtain⟨ba,e1,e2,e3⟩:=An;obtain⟨S,v,q1,q2,q3,q4⟩:=ih (i+1) _ ba h1 n1 ds vJ e3 (fun j=>if j≤i then S0 j else (ba,h1,n1)) (fun j=>if j<i then v0 j else u) (if_neg (by omega)) (fun j hj=>by
    by_cases e:j=i
    ·subst e;simp[hS]
    ·simp only[if_neg e];rw[if_pos (by omega)];exact hh j (by omega))
   have hSi:S i=(tm,h,nx):=by rw[q1 i (by omega),if_pos (ae _),hS]
   have EF:S (i+1)=(ba,h1,n1):=by rw[q1 (i+1) (ae _),if_neg (by omega)]
   refine⟨S,v,fun j hj=>by rw[q1 j (by omega),if_pos hj],fun j hj=>by rw[q2 j (by omega),if_pos hj],?_,fun j lG eK=>?_⟩
   ·rw[List.length_cons,show i+(l.length+1)=i+1+l.length by omega];exact q3
   ·by_cases e:j=i
    ·subst e;exact eM S v hSi (by rw[EF]) (by rw[q2 j (by omega),if_neg (by omega)]) (by rw[EF];exact e1) (fun b hb=>by rw[hh b hb,q1 b (by omega),if_pos (by omega)]) e2
    ·rw[List.length_cons]at eK;exact q4 j (by omega) (by omega)
  change pB P c sz ops.toList Wl Cl U i hs o (tC P c sz ops.toList Wl Cl U K l (i+1)) (.mk tm h nx ds) at hw
  unfold pB at hw;simp only at hw;cases cr:fY ops.toList tm o with
  |none=>rw[cr]at hw;exact hw.elim
  |some b=>
   rw[cr]at hw;cases b with
   |false=>
    refine key (.tup []) h nx hw fun S v eC kh hv pS B9 hd=>⟨o,ho,?_,hd,by rw[eC,hv];exact pS,fun _=>⟨by rw[kh,eC],.inl fun h' ax=>?_⟩,fun _ a _ _=>?_⟩
    ·rw[eC,kh,hv];exact gX.skip cr
    ·rw[eC,hv];exact gX.skip cr
    ·rw[eC,kh];exact GQ _ _
   |true=>
    simp only at hw;cases hC:bq i Cl with
    |true=>
     rw[hC]at hw;simp only at hw;unfold GM at hw;cases bg:kA o.op with
     |none=>rw[bg]at hw;exact hw.elim
     |some p=>
      obtain⟨fo,args⟩:=p;rw[bg]at hw;simp only at hw;cases hf:aM c.G tm fo with
      |none=>rw[hf]at hw;exact hw.elim
      |some fv=>
       rw[hf]at hw;cases fv <;> try exact hw.elim
       rename_i fid first cap
       simp only at hw;cases vK:cZ c.G tm args.toList with
       |none=>rw[vK]at hw;exact hw.elim
       |some la=>
        rw[vK]at hw;obtain⟨u,hr,hp⟩:=hw
        rcases hr with hr |⟨IB,hr⟩
        ·refine key u h nx hp fun S v eC kh hv pS B9 hd=>⟨o,ho,?_,hd,by rw[eC,hv];exact pS,fun _=>⟨by rw[kh,eC],.inl fun h' ax=>?_⟩,fun hW=>?_⟩
         ·rw[eC,kh,hv];exact gX.call cr bg hf vK (hr _ _)
         ·rw[eC,hv];exact gX.call cr bg hf vK (hr _ _)
         ·rw[ua i hC]at hW;cases hW
        ·refine key u h nx hp fun S v eC kh hv pS B9 hd=>⟨o,ho,?_,hd,by rw[eC,hv];exact pS,fun _=>⟨by rw[kh,eC],.inr (.inr IB)⟩,fun hW=>?_⟩
         ·rw[eC,kh,hv];exact gX.call cr bg hf vK hr
         ·rw[ua i hC]at hW;cases hW
    |false=>
     rw[hC]at hw;simp only at hw;obtain⟨qL,IA⟩:=aX i o (by simpa using ho) hC;cases oP:bq i Wl with
     |true=>
      rw[oP]at hw;simp only at hw;unfold BB at hw;cases eF:cv c o.op tm h nx with
      |fail=>rw[eF]at hw;exact hw.elim
      |val u h1 n1=>
       rw[eF]at hw;obtain⟨Nq,hp⟩:=hw;refine key u h1 n1 hp fun S v eC kh hv pS B9 hd=>⟨o,ho,?_,hd,by rw[eC,hv];exact pS,fun hW=>?_,fun _ a ha az=>?_⟩
       ·rw[eC,kh,hv];exact gX.val hc cr qL eF
       ·rw[oP]at hW;cases hW
       ·rw[eC,kh];exact Sa Nq a ha az
      |unit h1 n1=>
       rw[eF]at hw;obtain⟨Nq,hp⟩:=hw;refine key (.tup []) h1 n1 hp fun S v eC kh hv pS B9 hd=>⟨o,ho,?_,hd,by rw[eC,hv];exact pS,fun hW=>?_,fun _ a ha az=>?_⟩
       ·rw[eC,kh,hv];exact gX.unit hc cr qL eF
       ·rw[oP]at hW;cases hW
       ·rw[eC,kh];exact Sa Nq a ha az
     |false=>
      rw[oP]at hw;simp only at hw;unfold Bl at hw;have FQ:∀h' ax,fM (iZ c ops.toList i tm) h h'→cv c o.op tm h' ax=(cv c o.op tm h nx).rem h' ax:=fun h' ax hk=>XE hG _ (IA oP) (by
       unfold iZ at hk;rw[show ops.toList[i]?=some o by simpa using ho]at hk;exact hk)
      cases eF:cv c o.op tm h nx with
      |fail=>rw[eF]at hw;exact hw.elim
      |unit h1 n1=>rw[eF]at hw;exact hw.elim
      |val u h1 n1=>
       rw[eF]at hw;obtain⟨hsU,hp⟩:=hw;have sN:=FQ h nx (GQ _ _);rw[eF]at sN;have e1:h1=h∧n1=nx:=by
        simp only[R.rem]at sN;cases sN;exact⟨rfl,rfl⟩
       obtain⟨e1,jY⟩:=e1;subst e1;subst jY;refine key u h1 n1 hp fun S v eC kh hv pS B9 hd=>⟨o,ho,?_,hd,by rw[eC,hv];exact pS,fun _=>⟨by rw[kh,eC],.inr (.inl ⟨hC,fun h' ax hk=>?_,fun b hb az=>?_⟩)⟩,fun hW=>?_⟩
       ·rw[eC,kh,hv];exact gX.val hc cr qL eF
       ·rw[eC]at hk ⊢;rw[hv];refine gX.val hc cr qL ?_;rw[FQ h' ax hk,eF];rfl
       ·rw[eC,← B9 b az];exact XD hsU b hb az
       ·rw[oP]at hW;cases hW
theorem Rg (hc:CxOk P c)(hG:c.G.sym=true){ops:Array Oper}{Wl Cl:List Nat}{U:List (Nat×Nat)}{K:AS→Prop}(aX:QC c ops.toList Wl Cl)(ua:∀i,bq i Cl=true→bq i Wl=false)(l:List Oper) (i:Nat)(hs:Nat→Tr ABlk)(tm:Tr AV)(h:Tr ABlk) (nx:Nat)(ds:List DE)(hl:∀k,l[k]?=ops[i+k]?)
  (hw:pK P c sz ops.toList Wl Cl U K l i hs (.mk tm h nx ds)) (S0:Nat→Tr AV×Tr ABlk×Nat) (v0:Nat→AV) (hS:S0 i=(tm,h,nx)) (hh:∀j,j<i→hs j=(S0 j).2.1):
  ∃(S:Nat→Tr AV×Tr ABlk×Nat) (v:Nat→AV),(∀j,j≤i→S j=S0 j)∧(∀j,j<i→v j=v0 j)∧K (.mk (S (i+l.length)).1 (S (i+l.length)).2.1 (S (i+l.length)).2.2 ds)∧∀j,i≤j→j<i+l.length→yM P c r sz ops Wl Cl U S v j:=by
 rw[WD]at hw;obtain⟨S,v,q1,q2,⟨jf,_,q3⟩,q4⟩:=Y2 (r:=r) hc hG aX ua l i hs tm h nx ds (fun k _=>hl k) hw S0 v0 hS hh;exact⟨S,v,q1,q2,q3,q4⟩
end
end Go.Ev
