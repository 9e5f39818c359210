/- Texts DS DB DA DW. -/
import Derived.Test.YtkdnmldmffkkoaaGreatDoorP08
set_option linter.unusedSimpArgs false
set_option linter.unusedVariables false
set_option maxRecDepth 100000
namespace Go.Ev
noncomputable section
variable {P : Program} {c : Cx} {tm tm' : Tr AV} {h h' : Tr ABlk} {nx nx' : Nat}
def R.rem (h:Tr ABlk) (nx:Nat):R→R
 |.val v _ _=>.val v h nx
 |.unit _ _=>.fail
 |.fail=>.fail
theorem zEa {α:Type}(o:Option α)(k k':α→R)(hk:∀a,k' a=(k a).rem h nx):bR o k'=(bR o k).rem h nx:=by
 cases o with
 |none=>rfl
 |some a=>exact hk a
theorem zQg (b:Bool):vBool b h' nx'=(vBool b h nx).rem h' nx':=by cases b <;> rfl
theorem zmf (n:Nat):vInt n h' nx'=(vInt n h nx).rem h' nx':=by simp only[vInt,fN_eq];rfl
theorem zQz (op:BinOp)(k:IntKind) (a b:Int):zc2 op k a b h' nx'=(zc2 op k a b h nx).rem h' nx':=by
 unfold zc2
 simp only[fI_eq]
 cases op <;> first |rfl |(repeat' split) <;> rfl
theorem zTu (op:BinOp)(k:IntKind) (a b:Int):zgy op k a b h' nx'=(zgy op k a b h nx).rem h' nx':=by
 unfold zgy
 simp only[fI_eq,fN_eq]
 repeat' split
 all_goals rfl
theorem zTr (op:BinOp) (l n k m:Nat):zk8 op l n k m h' nx'=(zk8 op l n k m h nx).rem h' nx':=by
 unfold zk8
 simp only[fN_eq]
 repeat' split
 all_goals rfl
theorem zT5 (op:BinOp)(a b:ByteArray):zbj op a b h' nx'=(zbj op a b h nx).rem h' nx':=by
 unfold zbj
 repeat' split
 all_goals rfl
theorem zI4 (ti:TI)(eqs:Option (List (Nat×TypeDesc)))(b:Bool)(op:BinOp)(x y:AV):zis ti eqs b op x y h' nx'=(zis ti eqs b op x y h nx).rem h' nx':=by
 unfold zis
 repeat' split
 all_goals first |exact zQg _ |rfl
theorem zI1 (ti:TI)(eqs:Option (List (Nat×TypeDesc)))(b:Bool)(op:BinOp)(x y:AV):zj3 ti eqs b op x y h' nx'=(zj3 ti eqs b op x y h nx).rem h' nx':=by
 unfold zj3
 repeat' split
 all_goals first |exact zTu _ _ _ _ |exact zQz _ _ _ _ |exact zTr _ _ _ _ _ |exact zT5 _ _ _ |exact zI4 _ _ _ _ _ _ |rfl
theorem zG5 (op:UnOp)(x:AV):zhy op x h' nx'=(zhy op x h nx).rem h' nx':=by
 unfold zhy
 simp only[fI_eq]
 repeat' split
 all_goals rfl
theorem zGj (ti:TI)(t:TypeId)(x:AV):zir ti t x h' nx'=(zir ti t x h nx).rem h' nx':=by
 unfold zir
 repeat' split
 all_goals rfl
theorem zIi (ti:TI)(a:AV) (k:Nat):zif ti a k h' nx'=(zif ti a k h nx).rem h' nx':=by
 unfold zif
 simp only[fN_eq]
 repeat' split
 all_goals rfl
theorem zJ1 (ti:TI)(a:AV) (k:Nat):zim ti a k h' nx'=(zim ti a k h nx).rem h' nx':=by
 unfold zim
 repeat' split
 all_goals rfl
theorem zPo (ti:TI)(a b:AV):zd3 ti a b h' nx'=(zd3 ti a b h nx).rem h' nx':=by
 unfold zd3
 simp only[fN_eq]
 repeat' split
 all_goals rfl
theorem zR7 (ti:TI)(a b:AV):zh4 ti a b h' nx'=(zh4 ti a b h nx).rem h' nx':=by
 unfold zh4
 simp only[fN_eq]
 repeat' split
 all_goals rfl
theorem zJi (a:AV) (k:Nat):ziu a k h' nx'=(ziu a k h nx).rem h' nx':=by
 unfold ziu
 repeat' split
 all_goals rfl
theorem zHm (ti:TI)(a:AV)(lo hi mx:Option AV):zix ti a lo hi mx h' nx'=(zix ti a lo hi mx h nx).rem h' nx':=by
 unfold zix
 simp only[fN_eq]
 repeat' split
 all_goals rfl
theorem zMu (ti:TI)(t:TypeId)(ok:Bool)(a:AV):zk5 ti t ok a h' nx'=(zk5 ti t ok a h nx).rem h' nx':=by
 unfold zk5
 repeat' split
 all_goals rfl
theorem zFo (ok:Bool)(z:AV)(r:Option (Nat×AV)):zac ok z r h' nx'=(zac ok z r h nx).rem h' nx':=by
 unfold zac
 repeat' split
 all_goals rfl
theorem zT9 (ti:TI)(ps:List (Nat×AV)):zh5 ti ps h' nx'=(zh5 ti ps h nx).rem h' nx':=by
 unfold zh5
 repeat' split
 all_goals rfl
theorem zL9 (ti:TI)(a:AV):zjr ti a h' nx'=(zjr ti a h nx).rem h' nx':=by
 unfold zjr
 repeat' split
 all_goals first |exact zmf _ |rfl
theorem zCu (b:Bool)(l:List AV):zfb b l h' nx'=(zfb b l h nx).rem h' nx':=by
 unfold zfb
 repeat' split
 all_goals rfl
def zP6:AV→Option Nat
 |.ptr k _=>some k
 |.map k=>some k
 |.sl k _ _ _ _=>some k
 |_=>none
def zbu (v:Option AV)(h h':Tr ABlk):Prop:=match v with
 |some v=>match zP6 v with
  |some k=>h'.get k=h.get k
  |none=>True
 |none=>True
theorem zN7 (ti:TI)(a:AV)(hk:zbu (some a) h h'):zcv ti a h' nx'=(zcv ti a h nx).rem h' nx':=by
 cases ti with
 |mk d size b z fs=>
 cases a <;> try rfl
 ·rename_i i o
  have e:h'.get i=h.get i:=hk
  unfold zcv
  simp only[e]
  repeat' split
  all_goals rfl
 ·rename_i cs
  simp only[zcv]
  cases isA d with
  |true=>simp only;split <;> rfl
  |false=>cases cs <;> rfl
theorem zNi (ti:TI)(tk te:Option TI)(kt et:TypeId)(ok:Bool)(m k:AV)(hk:zbu (some m) h h'):zic ti tk te kt et ok m k h' nx'=(zic ti tk te kt et ok m k h nx).rem h' nx':=by
 unfold zic
 cases m
 case map i=>
  have e:h'.get i=h.get i:=hk
  simp only[e]
  repeat' split
  all_goals first |exact zFo _ _ _ |rfl
 all_goals
  simp only
  repeat' split
  all_goals first |exact zFo _ _ _ |rfl
theorem zQs (ti:TI)(a:AV)(hk:zbu (some a) h h'):zdu ti a h' nx'=(zdu ti a h nx).rem h' nx':=by
 cases ti with
 |mk d size b z fs=>
 cases d <;> try rfl
 ·cases a <;> first |rfl |exact zmf _
 ·cases a <;> first |rfl |exact zmf _
 ·exact zmf _
 ·cases a <;> try first |rfl |exact zmf _
  rename_i i
  have e:h'.get i=h.get i:=hk
  unfold zdu
  simp only[e]
  repeat' split
  all_goals first |exact zmf _ |rfl
theorem zJm (ts td:TI)(te:Option TI)(et:TypeId)(v:AV)(hs:∀e s b z f,td≠.mk (.slice e) s b z f)(hk:zbu (some v) h h'):zay ts td te et v h' nx'=(zay ts td te et v h nx).rem h' nx':=by
 cases ts with
 |mk ds s1 s2 s3 s4=>
 cases td with
 |mk dd d1 d2 d3 d4=>
 cases dd <;> try rfl
 ·cases v <;> rfl
 ·cases v <;> try rfl
  ·unfold zay
   simp only
   repeat' split
   all_goals rfl
  ·rename_i i o l cp opn
   have e:h'.get i=h.get i:=hk
   unfold zay
   simp only[e]
   repeat' split
   all_goals rfl
 ·exact absurd rfl (hs _ _ _ _ _)
def fpO (op:Op):Option Operand:=match op with
 |.load _ x=>some x
 |.lookup _ m _ _=>some m
 |.convert _ _ x=>some x
 |.call cl=>cl.args.toList.head?
 |_=>none
def zn1:Option TI→Bool
 |some (.mk (.slice _) _ _ _ _)=>true
 |some (.mk .unsafePointer _ _ _ _)=>true
 |_=>false
def zF3 (c:Cx)(op:Op):Bool:=
 match op with
 |.move _=>false |.assign _=>false |.pick _ _ _=>false |.build _ _=>false |.load _ _=>false |.nilCheck _=>false |.binOp _ _ _ _ _=>false |.unOp _ _ _=>false
 |.convert s d _=>zn1 (c.tt.get d) || zn1 (c.tt.get s)
 |.makeInterface _ _=>false |.makeFunc _ _ _=>false |.slice _ _ _ _ _=>false |.fieldAddr _ _ _=>false |.field _ _ _=>false |.indexAddr _ _ _=>false |.index _ _ _=>false
 |.lookup _ _ _ _=>false |.typeAssert _ _ _ _=>false |.extract _ _=>false
 |.call cl=>match cl.callee with
  |.builtin .len=>false
  |.builtin .cap=>false
  |.builtin .max=>false
  |.builtin .min=>false
  |_=>true
 |_=>true
theorem zUk (hG:c.G.sym=true)(op:Op)(hw:zF3 c op=false)(hk:zbu ((fpO op).bind (evO c.G tm)) h h'):zcp c op tm h' nx'=(zcp c op tm h nx).rem h' nx':=by
 have hk1:∀x a,(fpO op).bind (evO c.G tm)=evO c.G tm x→evO c.G tm x=some a→zbu (some a) h h':=fun x a e1 e2=>by rw[e1,e2]at hk;exact hk
 have bRe:∀{α:Type} (o:Option α) (k k':α→R),(∀a,o=some a→k' a=(k a).rem h' nx')→bR o k'=(bR o k).rem h' nx':=by
  intro α o k k' hh
  cases o with
  |none=>rfl
  |some a=>exact hh a rfl
 cases op <;> try (cases hw;done)
 ·exact bRe _ _ _ fun _ _=>rfl
 ·exact bRe _ _ _ fun _ _=>rfl
 ·refine bRe _ _ _ fun v _=>?_
  split
  ·exact bRe _ _ _ fun _ _=>rfl
  ·exact bRe _ _ _ fun _ _=>rfl
  ·rfl
 ·exact bRe _ _ _ fun _ _=>bRe _ _ _ fun _ _=>zT9 _ _
 ·exact bRe _ _ _ fun _ _=>bRe _ _ _ fun a ha=>zN7 _ _ (hk1 _ a rfl ha)
 ·refine bRe _ _ _ fun v _=>?_
  split <;> rfl
 ·exact bRe _ _ _ fun _ _=>bRe _ _ _ fun _ _=>bRe _ _ _ fun _ _=>zI1 _ _ _ _ _ _
 ·exact bRe _ _ _ fun _ _=>zG5 _ _
 ·rename_i s d x
  show zfz c s d x tm h' nx'=(zfz c s d x tm h nx).rem h' nx'
  unfold zfz
  refine bRe _ _ _ fun ts hts=>bRe _ _ _ fun td htd=>?_
  have hw':(zn1 (c.tt.get d) || zn1 (c.tt.get s))=false:=hw
  rw[hts,htd,Bool.or_eq_false_iff]at hw'
  have hud:isU td=false:=by
   have:=hw'.1
   cases td with
   |mk dd _ _ _ _=>cases dd <;> first |rfl |(cases this;done)
  have hus:isU ts=false:=by
   have:=hw'.2
   cases ts with
   |mk dd _ _ _ _=>cases dd <;> first |rfl |(cases this;done)
  rw[hud,hus]
  simp only
  unfold zno
  refine bRe _ _ _ fun ts' hts'=>bRe _ _ _ fun td' htd'=>bRe _ _ _ fun a ha=>?_
  rw[hG]
  simp only
  refine zJm _ _ _ _ _ (fun e s b z f et=>?_) (hk1 _ a rfl ha)
  rw[htd]at htd'
  cases htd'
  rw[et]at hw'
  cases hw'.1
 ·exact bRe _ _ _ fun _ _=>bRe _ _ _ fun _ _=>zGj _ _ _
 ·rename_i fn a b
  show zin c fn a b tm h' nx'=(zin c fn a b tm h nx).rem h' nx'
  unfold zin
  cases fn <;> first |exact bRe _ _ _ fun _ _=>bRe _ _ _ fun _ _=>rfl |rfl
 ·exact bRe _ _ _ fun _ _=>bRe _ _ _ fun _ _=>bRe _ _ _ fun _ _=>bRe _ _ _ fun _ _=>bRe _ _ _ fun _ _=>zHm _ _ _ _ _
 ·exact bRe _ _ _ fun _ _=>bRe _ _ _ fun _ _=>zIi _ _ _
 ·exact bRe _ _ _ fun _ _=>bRe _ _ _ fun _ _=>zJ1 _ _ _
 ·exact bRe _ _ _ fun _ _=>bRe _ _ _ fun _ _=>bRe _ _ _ fun _ _=>zPo _ _ _
 ·exact bRe _ _ _ fun _ _=>bRe _ _ _ fun _ _=>bRe _ _ _ fun _ _=>zR7 _ _ _
 ·exact bRe _ _ _ fun _ _=>bRe _ _ _ fun a ha=>bRe _ _ _ fun _ _=>zNi _ _ _ _ _ _ _ _ (hk1 _ a rfl ha)
 ·exact bRe _ _ _ fun _ _=>bRe _ _ _ fun _ _=>zMu _ _ _ _
 ·exact bRe _ _ _ fun _ _=>zJi _ _
 ·rename_i cl
  obtain⟨callee,args,ts⟩:=cl
  cases callee <;> try (cases hw;done)
  rename_i b
  have hl:∀l a m,zb2 c.G tm args.toList=some l→l=a::m→zbu (some a) h h':=by
   intro l a m e1 e2
   have hk':zbu (args.toList.head?.bind (evO c.G tm)) h h':=hk
   cases hargs:args.toList with
   |nil=>rw[hargs]at e1;cases e1;cases e2
   |cons x xs=>
    rw[hargs]at e1 hk'
    change (match evO c.G tm x with
     |some a=>match zb2 c.G tm xs with
      |some l=>some (a::l)
      |none=>none
     |none=>none)=some l at e1
    change zbu (evO c.G tm x) h h' at hk'
    cases hx:evO c.G tm x with
    |none=>rw[hx]at e1;cases e1
    |some y=>
     rw[hx]at e1 hk'
     cases hxs:zb2 c.G tm xs with
     |none=>rw[hxs]at e1;cases e1
     |some ys=>
      rw[hxs]at e1
      cases e1
      cases e2
      exact hk'
  cases b <;> try (cases hw;done)
  ·refine bRe _ _ _ fun l _=>bRe _ _ _ fun _ _=>bRe _ _ _ fun _ _=>?_
   split <;> first |exact zL9 _ _ |rfl
  ·refine bRe _ _ _ fun l hl0=>bRe _ _ _ fun _ _=>bRe _ _ _ fun _ _=>?_
   split
   ·exact zQs _ _ (hl _ _ _ hl0 rfl)
   ·rfl
  ·exact bRe _ _ _ fun l _=>zCu true l
  ·exact bRe _ _ _ fun l _=>zCu false l
end
end Go.Ev
namespace Go.Ev
noncomputable section
variable {P : Program} {c : Cx} {σ τ υ : Sg} {h g f : Tr ABlk} {nx ny nz sz : Nat} {w x y : World} {tm tm' : Tr AV} {a : Act} {G : Gl}
mutual
theorem Rel.fz_self (hk:Ok G σ h nx w):∀(v:AV)(V:Value),Rel σ v V→Fz g nx v v
 |.bool b,V,_=>.bool b
 |.int k n,V,_=>.int k n
 |.str l n,V,_=>.str l n
 |.bs b,V,_=>.bs b
 |.ptr0,V,_=>.ptr0
 |.sl0,V,_=>.sl0
 |.map0,V,_=>.map0
 |.nilFunc,V,_=>.nilFunc
 |.nilIface,V,_=>.nilIface
 |.opq n,V,_=>.opq n
 |.ptr i o,V,h=>by
  simp only[Rel]at h
  obtain⟨b,hb,_⟩:=h
  exact .ptr i o (hk.nlt hb)
 |.sl i o l cp opn,V,h=>by
  simp only[Rel]at h
  obtain⟨b,hb,_⟩:=h
  exact .sl i o l cp opn (hk.nlt hb)
 |.map i,V,h=>by
  simp only[Rel]at h
  obtain⟨b,hb,_⟩:=h
  exact .map i (hk.nlt hb)
 |.yld i,V,h=>by
  simp only[Rel]at h
  obtain⟨b,hb,_⟩:=h
  exact .yld i (hk.nlt hb)
 |.agg l,V,h=>by
  simp only[Rel]at h
  obtain⟨L,_,q⟩:=h
  exact .agg l l (za1.fz_self hk l L q)
 |.tup l,V,h=>by
  simp only[Rel]at h
  obtain⟨L,_,q⟩:=h
  exact .tup l l (za1.fz_self hk l L q)
 |.iface t v,V,h=>by
  simp only[Rel]at h
  obtain⟨U,_,q⟩:=h
  exact .iface t v v (Rel.fz_self hk v U q)
 |.func fn l m,V,h=>by
  simp only[Rel]at h
  obtain⟨A,C,_,p1,p2⟩:=h
  exact .func fn l l m m (za1.fz_self hk l A p1) (za1.fz_self hk m C p2)
 |.ip l,V,h=>by
  simp only[Rel]at h
  obtain⟨_,_,_,L,_,_,p2,_⟩:=h
  exact .ip l l (za1.fz_self hk l L p2)
 |.fz es full l,V,h=>by
  simp only[Rel]at h
  obtain⟨_,_,_,_,_,_,p3⟩:=h
  cases l with
  |nil=>exact .fz es full [] [] .nil
  |cons z l=>
   obtain⟨_,_,_,L,_,_,p2,_⟩:=p3 (by simp)
   exact .fz es full _ _ (za1.fz_self hk (z::l) L p2)
theorem za1.fz_self (hk:Ok G σ h nx w):∀(l:List AV)(L:List Value),za1 σ l L→FzL g nx l l
 |[],L,_=>.nil
 |v::l,L,h=>by
  simp only[za1]at h
  obtain⟨V,L',_,p1,p2⟩:=h
  exact .cons v v l l (Rel.fz_self hk v V p1) (za1.fz_self hk l L' p2)
end
def zm1 (s:Nat):Nat→List (Nat×AV)→Option (List AV)
 |_,[]=>some []
 |k,(i,v)::l=>match Nat.beq i k && Nat.beq v.cells.length s && (match v with |.agg _=>true |v=>v.one) with
  |true=>match zm1 s (k+1) l with
   |some xs=>some (v::xs)
   |none=>none
  |false=>none
theorem zA4 {s:Nat}:∀{k:Nat}{ps:List (Nat×AV)}{xs:List AV}{PS:List (Nat×Value)},zm1 s k ps=some xs→zg1 σ ps PS→zfr s xs (xs.flatMap AV.cells)∧(∃XS,za1 σ xs XS)∧∀l l':List AV,(k+xs.length) * s≤l.length→zgj (fun i=>some (Nat.mul i s,s)) ps l=some l'→l'=l.take (k * s)++(xs.flatMap AV.cells++l.drop ((k+xs.length) * s))
 |k,[],xs,PS,e,hr=>by
  cases e
  refine⟨rfl,⟨[],by simp only[za1]⟩,fun l l' hl hf=>?_⟩
  have:some l=some l':=hf
  cases this
  simp
 |k,(i,v)::ps,xs,PS,e,hr=>by
  simp only[zm1]at e
  split at e
  ·rename_i hb
   simp only[Bool.and_eq_true]at hb
   obtain⟨⟨b1,b2⟩,b3⟩:=hb
   have b1':=Nat.eq_of_beq_eq_true b1
   have b2':=Nat.eq_of_beq_eq_true b2
   subst b1'
   cases hv:zm1 s (i+1) ps with
   |none=>rw[hv]at e;cases e
   |some ys=>
    rw[hv]at e
    cases e
    simp only[zg1]at hr
    obtain⟨V,PS',_,r1,r2⟩:=hr
    obtain⟨c1,⟨XS,c2⟩,c3⟩:=zA4 hv r2
    refine⟨⟨v.cells,ys.flatMap AV.cells,by simp,rfl,b2',?_,c1⟩,⟨V::XS,by simp only[za1];exact⟨_,_,rfl,r1,c2⟩⟩,fun l l' hl hf=>?_⟩
    ·cases v <;> first |exact .inl rfl |exact .inr b3
    ·rw[zvh]at hf
     simp only[List.length_cons]at hl
     have hle:i * s+s≤l.length:=by
      have:(i+1) * s≤(i+(ys.length+1)) * s:=Nat.mul_le_mul_right s (by omega)
      rw[Nat.add_mul]at this
      omega
     have hb2:Nat.ble (Nat.add (Nat.mul i s) s) l.length=true:=Nat.ble_eq_true_of_le hle
     simp only[b2,hb2]at hf
     have hseg:(za3 l (i * s) v.cells).length=l.length:=zt5 (by rw[b2'];exact hle)
     have:=c3 (za3 l (i * s) v.cells) l' (by rw[hseg,show i+1+ys.length=i+(ys.length+1) by omega];exact hl) hf
     rw[this]
     have hm:(i+1) * s=i * s+s:=by rw[Nat.add_mul,Nat.one_mul]
     have hl1:(l.take (i * s)).length=i * s:=by rw[List.length_take,Nat.min_eq_left (by omega)]
     have hdef:za3 l (i * s) v.cells=l.take (i * s)++(v.cells++l.drop (i * s+v.cells.length)):=rfl
     have ht:(za3 l (i * s) v.cells).take ((i+1) * s)=l.take (i * s)++v.cells:=by
      have hlen:(i+1) * s=(l.take (i * s)++v.cells).length:=by rw[List.length_append,hl1,b2',hm]
      rw[hdef,← List.append_assoc,hlen,List.take_left]
     have hd:(za3 l (i * s) v.cells).drop ((i+1+ys.length) * s)=l.drop ((i+(ys.length+1)) * s):=by
      rw[hdef,← List.append_assoc,List.drop_append,List.length_append,hl1,b2',List.drop_of_length_le (by rw[List.length_append,hl1,b2',← hm];exact Nat.mul_le_mul_right s (by omega)),List.nil_append,List.drop_drop]
      congr 1
      rw[show i+(ys.length+1)=i+1+ys.length by omega,← hm]
      have:(i+1) * s≤(i+1+ys.length) * s:=Nat.mul_le_mul_right s (by omega)
      omega
     rw[ht,hd]
     simp
  ·cases e
def zj1 (ti:TI)(te:Option TI)(et:TypeId) (len:Nat)(ps:List (Nat×AV))(h:Tr ABlk) (nx:Nat):R:=
 match ti,te with
 |.mk (.slice e) _ _ _ _,some (.mk _ s _ (some z) _)=>match Nat.beq e et && Nat.ble (Nat.mul len s) 16777216 && Nat.ble 1 s with
  |true=>match zgj (fun i=>some (Nat.mul i s,s)) ps (zdi z.cells len) with
   |some _=>match zm1 s 0 ps with
    |some xs=>match Nat.beq xs.length len with
     |true=>.val (.fz s false xs) h nx
     |false=>.fail
    |none=>.fail
   |none=>.fail
  |false=>.fail
 |_,_=>.fail
theorem zHh (hk:Ok G σ h nx w)(t:TypeId){ti:TI}(ht:zav P t ti){te:Option TI}{et:TypeId}(hte:∀ti,te=some ti→zav P et ti) (len:Nat){ps:List (Nat×AV)}{PS:Array (Nat×Value)}(hp:zg1 σ ps PS.toList):
  RV P G σ h nx w (Instr.buildSlice t len PS) (zj1 ti te et len ps h nx):=by
 have h0:=zEl (P:=P) (w:=w) hk t ht hte len hp
 unfold zj1
 split
 ·rename_i e q1 q2 q3 q4 de s b z fs
  split
  ·rename_i hb0
   simp only[Bool.and_eq_true]at hb0
   obtain⟨⟨b1,b2⟩,b3⟩:=hb0
   have b4:Nat.beq s 0=false:=by
    cases hs:Nat.beq s 0 with
    |false=>rfl
    |true=>
     have:=Nat.eq_of_beq_eq_true hs
     subst this
     cases b3
   split
   ·rename_i l' hl'
    split
    ·rename_i xs hxs
     split
     ·rename_i hb
      have hb':=Nat.eq_of_beq_eq_true hb
      unfold zm5 at h0
      simp only[b1,b2,b4,hl',newK,zdr,fN_eq,Tr.putK_eq]at h0
      obtain⟨V,τ,x,r1,r2,r3⟩:=h0
      obtain⟨c1,⟨XS,c2⟩,c3⟩:=zA4 hxs hp
      obtain⟨_,inf,_,hs0,_,hz,_⟩:=hte _ rfl
      obtain⟨Z,_,hZr,hZs⟩:=hz z rfl
      have hzl:z.cells.length=s:=by
       have:=(hZr σ).cells.length
       simp at this
       omega
      have hfl:=c3 _ l' (by rw[zn3,hzl,Nat.zero_add,hb'];exact Nat.le_refl _) hl'
      rw[Nat.zero_mul,List.take_zero,List.nil_append,Nat.zero_add,List.drop_of_length_le (by rw[zn3,hzl,hb'];exact Nat.le_refl _),List.append_nil]at hfl
      subst hfl
      have hext:∀i,i<nx→(h.put nx (some (ABlk.cells e (xs.flatMap AV.cells).length (zbh (xs.flatMap AV.cells) .nil 0) false 0))).get i=h.get i:=fun i hi=>by rw[Tr.get_put,if_neg (by omega)]
      refine⟨V,_,x,r1,?_,Post.frz hk r3 hext⟩
      refine Fz.rel r3.ok (.slz nx 0 len len false e (xs.flatMap AV.cells).length (zbh (xs.flatMap AV.cells) .nil 0) false 0 s (xs.flatMap AV.cells) (xs.flatMap AV.cells) xs (Nat.le_refl _) (by rw[Tr.get_put,if_pos rfl]) (by omega) (fun j hj=>by rw[Nat.zero_add,zbt]) (za1.fz_self hk _ _ c2.flat) c1 hb') V r2
     ·trivial
    ·trivial
   ·trivial
  ·trivial
 ·trivial
end
end Go.Ev
namespace Go.Ev
noncomputable section
variable {P : Program} {c : Cx} {σ τ υ : Sg} {h h' g f : Tr ABlk} {nx nx' ny nz sz : Nat} {w x y : World} {tm tm' : Tr AV} {a : Act} {G : Gl} {r : Option Nat}
def zhf (tm tm':Tr AV)(l:List Operand):Prop:=∀t,Operand.tmp t∈l→tm.get t=tm'.get t
theorem zk7 {x:Operand}{l:List Operand}(hs:zhf tm tm' l)(hx:x∈l):evO G tm x=evO G tm' x:=by
 cases x <;> try rfl
 exact hs _ hx
theorem zmo:∀{l m:List Operand},zhf tm tm' m→(∀x∈l,x∈m)→zb2 G tm l=zb2 G tm' l
 |[],m,_,_=>rfl
 |x::l,m,hs,hl=>by
  show (match evO G tm x with
   |some a=>match zb2 G tm l with
    |some l=>some (a::l)
    |none=>none
   |none=>none)=(match evO G tm' x with
   |some a=>match zb2 G tm' l with
    |some l=>some (a::l)
    |none=>none
   |none=>none)
  rw[zk7 hs (hl x (by simp)),zmo hs fun y hy=>hl y (by simp[hy])]
theorem zp2:∀{l:List (Nat×Operand)}{m:List Operand},zhf tm tm' m→(∀p∈l,p.2∈m)→ze7 G tm l=ze7 G tm' l
 |[],m,_,_=>rfl
 |(i,x)::l,m,hs,hl=>by
  show (match evO G tm x with
   |some a=>match ze7 G tm l with
    |some l=>some ((i,a)::l)
    |none=>none
   |none=>none)=(match evO G tm' x with
   |some a=>match ze7 G tm' l with
    |some l=>some ((i,a)::l)
    |none=>none
   |none=>none)
  rw[zk7 hs (hl (i,x) (by simp)),zp2 hs fun y hy=>hl y (by simp[hy])]
theorem zvx {x:Option Operand}{l:List Operand}(hs:zhf tm tm' l)(hx:∀y,x=some y→y∈l):zhd G tm x=zhd G tm' x:=by
 cases x with
 |none=>rfl
 |some y=>unfold zhd;simp only;rw[zk7 hs (hx y rfl)]
theorem zE1 (op:Op)(hs:zhf tm tm' op.operands.toList):zdp c op tm h nx=zdp c op tm' h nx:=by
 have e:∀x,x∈op.operands.toList→evO c.G tm x=evO c.G tm' x:=fun x hx=>zk7 hs hx
 cases op <;> try rfl
 ·show zdl c _ tm h nx=zdl c _ tm' h nx
  unfold zdl;rw[e _ (by simp[Op.operands])]
 ·show zdl c _ tm h nx=zdl c _ tm' h nx
  unfold zdl;rw[e _ (by simp[Op.operands])]
 ·show zaf c _ _ _ tm h nx=zaf c _ _ _ tm' h nx
  unfold zaf zdl;rw[e _ (by simp[Op.operands]),e _ (by simp[Op.operands]),e _ (by simp[Op.operands])]
 ·show zkl c _ _ tm h nx=zkl c _ _ tm' h nx
  unfold zkl;rw[e _ (by simp[Op.operands])]
 ·show zp8 c _ _ tm h nx=zp8 c _ _ tm' h nx
  unfold zp8;rw[zp2 hs (fun p hp=>by simp only[Op.operands];exact List.mem_map.2 ⟨p,hp,rfl⟩)]
 ·show zqk c _ _ _ tm h nx=zqk c _ _ _ tm' h nx
  unfold zqk;rw[zp2 hs (fun p hp=>by simp only[Op.operands];exact List.mem_map.2 ⟨p,hp,rfl⟩)]
 ·show zgt c _ _ _ _ tm h nx=zgt c _ _ _ _ tm' h nx
  unfold zgt;rw[e _ (by simp[Op.operands]),e _ (by simp[Op.operands]),e _ (by simp[Op.operands])]
 ·show zlc c _ _ tm h nx=zlc c _ _ tm' h nx
  unfold zlc;rw[e _ (by simp[Op.operands])]
 ·show zqf c _ _ _ tm h nx=zqf c _ _ _ tm' h nx
  unfold zqf;rw[e _ (by simp[Op.operands]),e _ (by simp[Op.operands])]
 ·show zkd c _ tm h nx=zkd c _ tm' h nx
  unfold zkd;rw[e _ (by simp[Op.operands])]
 ·show zky c _ _ _ _ tm h nx=zky c _ _ _ _ tm' h nx
  unfold zky;rw[e _ (by simp[Op.operands]),e _ (by simp[Op.operands])]
 ·show pUn c _ _ tm h nx=pUn c _ _ tm' h nx
  unfold pUn;rw[e _ (by simp[Op.operands])]
 ·show zfz c _ _ _ tm h nx=zfz c _ _ _ tm' h nx
  unfold zfz zno;rw[e _ (by simp[Op.operands])]
 ·show zqa c _ _ tm h nx=zqa c _ _ tm' h nx
  unfold zqa;rw[e _ (by simp[Op.operands])]
 ·show zin c _ _ _ tm h nx=zin c _ _ _ tm' h nx
  unfold zin;rw[zmo hs (fun x hx=>by simp[Op.operands]at hx ⊢;exact .inl hx),zmo hs (fun x hx=>by simp[Op.operands]at hx ⊢;exact .inr hx)]
 ·show zmh c _ _ _ tm h nx=zmh c _ _ _ tm' h nx
  unfold zmh;rw[e _ (by simp[Op.operands]),e _ (by simp[Op.operands])]
 ·show zlj c _ _ _ _ _ tm h nx=zlj c _ _ _ _ _ tm' h nx
  unfold zlj;rw[e _ (by simp[Op.operands]),zvx hs (fun y hy=>by subst hy;simp[Op.operands]),zvx hs (fun y hy=>by subst hy;simp[Op.operands]),zvx hs (fun y hy=>by subst hy;simp[Op.operands])]
 ·show zkn c _ _ _ tm h nx=zkn c _ _ _ tm' h nx
  unfold zkn;rw[e _ (by simp[Op.operands])]
 ·show zkv c _ _ _ tm h nx=zkv c _ _ _ tm' h nx
  unfold zkv;rw[e _ (by simp[Op.operands])]
 ·show zlg c _ _ _ tm h nx=zlg c _ _ _ tm' h nx
  unfold zlg;rw[e _ (by simp[Op.operands]),e _ (by simp[Op.operands])]
 ·show zle c _ _ _ tm h nx=zle c _ _ _ tm' h nx
  unfold zle;rw[e _ (by simp[Op.operands]),e _ (by simp[Op.operands])]
 ·show zl9 c _ _ _ _ tm h nx=zl9 c _ _ _ _ tm' h nx
  unfold zl9;rw[e _ (by simp[Op.operands]),e _ (by simp[Op.operands])]
 ·show zgt c _ _ _ _ tm h nx=zgt c _ _ _ _ tm' h nx
  unfold zgt;rw[e _ (by simp[Op.operands]),e _ (by simp[Op.operands]),e _ (by simp[Op.operands])]
 ·show pTA c _ _ _ tm h nx=pTA c _ _ _ tm' h nx
  unfold pTA;rw[e _ (by simp[Op.operands])]
 ·show zl2 c _ _ tm h nx=zl2 c _ _ tm' h nx
  unfold zl2;rw[e _ (by simp[Op.operands])]
 ·rename_i cl
  obtain⟨callee,args,ts⟩:=cl
  cases callee <;> try rfl
  show zki c _ _ _ tm h nx=zki c _ _ _ tm' h nx
  unfold zki;rw[zmo hs (fun x hx=>by simp[Op.operands,Call.operands]at hx ⊢;exact hx)]
theorem zF4 (op:Op)(hs:zhf tm tm' op.operands.toList):zcp c op tm h nx=zcp c op tm' h nx:=by
 have e:∀x,x∈op.operands.toList→evO c.G tm x=evO c.G tm' x:=fun x hx=>zk7 hs hx
 have h0:=zE1 (c:=c) (h:=h) (nx:=nx) op hs
 cases op <;> try exact h0
 ·show zl0 c _ _ _ tm h nx=zl0 c _ _ _ tm' h nx
  unfold zl0;rw[e _ (by simp[Op.operands]),e _ (by simp[Op.operands])]
 ·rename_i cl
  obtain⟨callee,args,ts⟩:=cl
  cases callee <;> try exact h0
  rename_i b
  cases b <;> try exact h0
  show zi5 c _ args.toList tm h nx=zi5 c _ args.toList tm' h nx
  have hs':∀x∈args.toList,evO c.G tm x=evO c.G tm' x:=fun x hx=>e x (by simp[Op.operands,Call.operands]at hx ⊢;exact hx)
  unfold zi5
  generalize args.toList=l at hs'
  split
  ·cases l with
   |nil=>rfl
   |cons x l=>
    cases l with
    |nil=>rfl
    |cons y l=>
     cases l with
     |nil=>simp only[hs' x (by simp),hs' y (by simp)]
     |cons z l=>rfl
  ·rfl
def opD (c:Cx)(op:Op)(tm:Tr AV)(h:Tr ABlk) (nx:Nat):R:=match op with
 |.buildSlice t n ps=>bR (c.tt.get t) fun ti=>bR (ze7 c.G tm ps.toList) fun l=>zj1 ti (c.tt.get (zdk ti)) (zdk ti) n l h nx
 |op=>zcp c op tm h nx
def zB4:Op→Bool
 |.buildSlice _ _ _=>true
 |_=>false
theorem zTj {op:Op}(hb:zB4 op=false):opD c op=zcp c op:=by cases op <;> first |rfl |cases hb
theorem zzs (op:Op)(hs:zhf tm tm' op.operands.toList):opD c op tm h nx=opD c op tm' h nx:=by
 cases op <;> try first |exact zF4 _ hs |rfl
 show (bR (c.tt.get _) fun ti=>bR (ze7 c.G tm _) fun l=>zj1 ti (c.tt.get (zdk ti)) (zdk ti) _ l h nx)=_
 rw[zp2 hs (fun p hp=>by simp only[Op.operands];exact List.mem_map.2 ⟨p,hp,rfl⟩)]
 rfl
theorem zza (hc:CxOk P c)(hk:Ok c.G σ h nx w)(ht:zd8 σ tm a)(o:Oper):RO P c.G σ h nx w (execOp a.eval o) (opD c o.op tm h nx):=by
 have h0:=ztn hc hk ht o
 obtain⟨dst,op,type,pos,after,guard⟩:=o
 cases op <;> try exact h0
 refine zad fun ti e=>zad fun l e2=>RO.ofV (zHh hk _ (hc.tt _ _ e) (hc.tt _) _ ?_)
 have:=zrd hk ht e2
 simpa using this
def zpx (c:Cx)(op:Op):Bool:=match op with
 |.buildSlice _ _ _=>false
 |op=>zF3 c op
theorem zPv (ti:TI)(te:Option TI)(et:TypeId) (len:Nat)(ps:List (Nat×AV)):zj1 ti te et len ps h' nx'=(zj1 ti te et len ps h nx).rem h' nx':=by
 unfold zj1
 repeat' split
 all_goals rfl
theorem zBw (hG:c.G.sym=true)(op:Op)(hw:zpx c op=false)(hk:zbu ((fpO op).bind (evO c.G tm)) h h'):opD c op tm h' nx'=(opD c op tm h nx).rem h' nx':=by
 cases hb:zB4 op with
 |false=>
  rw[zTj hb]
  exact zUk hG op (by cases op <;> first |exact hw |cases hb) hk
 |true=>
  cases op <;> try (cases hb;done)
  exact zEa _ _ _ fun _=>zEa _ _ _ fun _=>zPv _ _ _ _ _
theorem zw4 {ops:List Oper}{o:Oper}:zhf (rst (zbl ops o) tm) tm o.op.operands.toList:=fun t ht=>by
 rw[zmk,if_pos]
 unfold zbl
 rw[List.mem_append]
 exact .inl (List.mem_filterMap.2 ⟨.tmp t,ht,rfl⟩)
theorem zqb {ops:List Oper}{o:Oper}:zbz ops (rst (zbl ops o) tm) o=zbz ops tm o:=by
 unfold zbz
 cases hg:o.guard with
 |none=>rfl
 |some p=>
  obtain⟨j,want⟩:=p
  simp only
  cases hj:ops[j]? with
  |none=>rfl
  |some oj=>
   simp only
   cases hd:oj.dst with
   |none=>rfl
   |some d=>
    simp only
    rw[zmk,if_pos]
    unfold zbl
    rw[List.mem_append,hg]
    simp only
    rw[hj]
    simp[hd]
theorem OpY.skip {ops:Array Oper}{o:Oper}(hw:zbz ops.toList tm o=some false):OpY P c r ops o (.tup []) (rst (zbl ops.toList o) tm) h nx h nx:=by
 intro σ a w ok ht Q K hK
 rw[← zqb (tm:=tm)]at hw
 rw[zjp ht hw]
 simp only[Bool.false_eq_true,if_false]
 exact⟨fun _ _=>trivial,hK σ w undef zhp (.refl ok)⟩
theorem OpY.val (hc:CxOk P c){ops:Array Oper}{o:Oper}(hw:zbz ops.toList tm o=some true)(hd:zfm o.op=false){v:AV}(he:opD c o.op tm h nx=.val v g ny):OpY P c r ops o v (rst (zbl ops.toList o) tm) h nx g ny:=by
 intro σ a w ok ht Q K hK
 rw[← zqb (tm:=tm)]at hw
 rw[zjp ht hw]
 simp only[if_true]
 rw[← zzs _ zw4]at he
 have hp:=zza hc ok ht o
 rw[he]at hp
 obtain⟨V,τ,x,h1,h2,h3⟩:=hp
 refine zdc (fun cl e=>by rw[e]at hd;cases hd) ?_
 rw[h1]
 exact hK τ x V h2 h3
theorem OpY.unit (hc:CxOk P c){ops:Array Oper}{o:Oper}(hw:zbz ops.toList tm o=some true)(hd:zfm o.op=false)(he:opD c o.op tm h nx=.unit g ny):OpY P c r ops o (.tup []) (rst (zbl ops.toList o) tm) h nx g ny:=by
 intro σ a w ok ht Q K hK
 rw[← zqb (tm:=tm)]at hw
 rw[zjp ht hw]
 simp only[if_true]
 rw[← zzs _ zw4]at he
 have hp:=zza hc ok ht o
 rw[he]at hp
 obtain⟨τ,x,h1,h3⟩:=hp
 refine zdc (fun cl e=>by rw[e]at hd;cases hd) ?_
 rw[h1]
 exact hK τ x undef zhp h3
theorem OpY.call {ops:Array Oper}{o:Oper}(hw:zbz ops.toList tm o=some true){fo:Operand}{args:Array Operand}(hcl:zdo o.op=some (fo,args)){fid:FuncId}{first cap l:List AV}(hf:evO c.G tm fo=some (.func fid first cap))(hl:zb2 c.G tm args.toList=some l){u:AV}(hr:za7 P c fid (first++(l++cap)) h nx fun v g ny=>v=u∧g=h∧ny=nx):
  OpY P c r ops o u (rst (zbl ops.toList o) tm) h nx h nx:=by
 intro σ a w ok ht Q K hK
 have hsee:=zw4 (tm:=tm) (ops:=ops.toList) (o:=o)
 rw[← zqb (tm:=tm)]at hw
 rw[zjp ht hw]
 simp only[if_true]
 obtain⟨dst,op,type,pos,after,guard⟩:=o
 cases op <;> try (cases hcl;done)
 rename_i cl
 obtain⟨callee,args',argTypes⟩:=cl
 cases callee <;> try (cases hcl;done)
 cases hcl
 rename Array Operand=>args
 have hf':evO c.G (rst (zbl ops.toList ⟨dst,.call ⟨.value fo,args,argTypes⟩,type,pos,after,guard⟩) tm) fo=some (.func fid first cap):=by
  rw[zk7 hsee (by simp[Op.operands,Call.operands])];exact hf
 have hl':zb2 c.G (rst (zbl ops.toList ⟨dst,.call ⟨.value fo,args,argTypes⟩,type,pos,after,guard⟩) tm) args.toList=some l:=by
  rw[zmo hsee (fun x hx=>by simp[Op.operands,Call.operands]at hx ⊢;exact .inr hx)];exact hl
 have hfv:=zde ok ht hf'
 have hlr:=zh1 ok ht hl'
 simp only[Rel]at hfv
 obtain⟨F,C,e1,r1,r2⟩:=hfv
 have hcr:=hr σ w (F++(args.toList.map a.eval++C)) ok (r1.append (hlr.append r2))
 have hex:(execOp a.eval ⟨dst,.call ⟨.value fo,args,argTypes⟩,type,pos,after,guard⟩).run P w=(callFunc fid (F++(args.toList.map a.eval++C)).toArray).run P w:=by
  have e2:execOp a.eval ⟨dst,.call ⟨.value fo,args,argTypes⟩,type,pos,after,guard⟩=(do let d ← Deferred.ofValue (a.eval fo) (args.map a.eval);invoke d.target d.args):=rfl
  rw[e2,e1]
  show (callFunc fid (F.toArray++args.map a.eval++C.toArray)).run P w=_
  congr 2
  apply Array.ext'
  simp
 refine zdc (fun _ e=>by cases e) ?_
 rw[hex]
 unfold CR at hcr
 cases hrun:(callFunc fid (F++(args.toList.map a.eval++C)).toArray).run P w with
 |halt hh w'=>rw[hrun]at hcr;exact hcr.elim
 |ok nxt w'=>
  rw[hrun]at hcr
  cases nxt <;> try exact hcr.elim
  ·rename_i V
   obtain⟨τ,v,g,ny,q1,q2,q3,q4,q5⟩:=hcr
   subst q3
   subst q4
   subst q5
   exact hK τ _ V q1 q2
  ·refine⟨fun hh=>by simp[zbb,Fence.wide]at hh,znv (Calls.mono hcr fun e x q=>?_)⟩
   cases e with
   |returned V=>
    obtain⟨τ,v,g,ny,q1,q2,q3,q4,q5⟩:=q
    subst q3
    subst q4
    subst q5
    exact hK τ x V q1 q2
   |panicked ch=>exact q.elim
   |outgrown=>exact q.elim
def moL (acc:List Nat)(es:List Edge):Nat:=List.rec (motive:=fun _=>Nat) 0 (fun e _ ih=>match Region.binds .any e with
 |true=>Nat.lor (Nat.lor (Nat.pow 2 e.on) (acc.getD e.on 0)) ih
 |false=>ih) es
def zak (l:List Oper):List Nat→List Nat:=List.rec (motive:=fun _=>List Nat→List Nat) (fun acc=>acc) (fun o _ ih acc=>ih (acc++[moL acc o.after.toList])) l
def tb (m i:Nat):Bool:=Nat.beq (Nat.mod (Nat.div m (Nat.pow 2 i)) 2) 1
theorem zln (m i:Nat):tb m i=m.testBit i:=by
 rw[Nat.testBit_eq_decide_div_mod_eq]
 unfold tb
 show Nat.beq (m / 2 ^ i % 2) 1=_
 cases h:Nat.beq (m / 2 ^ i % 2) 1 with
 |true=>simp[Nat.eq_of_beq_eq_true h]
 |false=>simp[zea h]
def zb1 (ms:List Nat) (i j:Nat):Bool:=tb (ms.getD j 0) i
def zbi {α:Type}(l:List α)(f:α→Bool):Bool:=List.rec (motive:=fun _=>Bool) true (fun a _ ih=>match f a with |true=>ih |false=>false) l
def zf2 (ms:List Nat) (i j:Nat):Bool:=match Nat.ble (Nat.succ j) i with
 |true=>zb1 ms j i
 |false=>zb1 ms i j
def zgo (ops:List Oper)(Wl:List Nat) (i:Nat):Bool:=zbi Wl fun j=>Nat.beq i j || zf2 (zak ops []) i j
def inL (i:Nat):List Nat→Bool
 |[]=>false
 |a::l=>match Nat.beq i a with
  |true=>true
  |false=>inL i l
def znl (P:Program)(c:Cx)(ops:List Oper)(Wl:List Nat) (i:Nat)(h:Tr ABlk) (nx:Nat)(cl:Option (Operand×Array Operand))(tm:Tr AV)(K:AV→Prop):Prop:=match cl with
 |some (f,args)=>match evO c.G tm f with
  |some (.func fid first cap)=>match zb2 c.G tm args.toList with
   |some l=>∃u,(Ret P c fid (first++(l++cap)) u∨(zgo ops Wl i=true∧za7 P c fid (first++(l++cap)) h nx fun v g ny=>v=u∧g=h∧ny=nx))∧K u
   |none=>False
  |_=>False
 |none=>False
def fpv (c:Cx)(ops:List Oper) (j:Nat)(tm:Tr AV):Option AV:=match ops[j]? with
 |some o=>(fpO o.op).bind (evO c.G tm)
 |none=>none
def zik (c:Cx)(ops:List Oper) (j:Nat)(tm:Tr AV)(h h':Tr ABlk):List (Nat×Nat)→Prop
 |[]=>True
 |(a,b)::U=>(b=j→a<j→zbu (fpv c ops a tm) h h')∧zik c ops j tm h h' U
def zjd (c:Cx)(ops:List Oper) (i:Nat)(tm:Tr AV)(hs:Nat→Tr ABlk)(h:Tr ABlk):List (Nat×Nat)→Prop
 |[]=>True
 |(a,b)::U=>(a=i→b<i→zbu (fpv c ops i tm) h (hs b))∧zjd c ops i tm hs h U
theorem zwc {ops:List Oper}{j:Nat}:∀{U:List (Nat×Nat)},zik c ops j tm h h' U→∀a,(a,j)∈U→a<j→zbu (fpv c ops a tm) h h'
 |[],_,a,hm,_=>by cases hm
 |(a',b)::U,hk,a,hm,hl=>by
  rcases List.mem_cons.1 hm with e |e
  ·cases e;exact hk.1 rfl hl
  ·exact zwc hk.2 a e hl
theorem zBv {ops:List Oper}{i:Nat}{hs:Nat→Tr ABlk}:∀{U:List (Nat×Nat)},zjd c ops i tm hs h U→∀b,(i,b)∈U→b<i→zbu (fpv c ops i tm) h (hs b)
 |[],_,b,hm,_=>by cases hm
 |(a',b')::U,hk,b,hm,hl=>by
  rcases List.mem_cons.1 hm with e |e
  ·cases e;exact hk.1 rfl hl
  ·exact zBv hk.2 b e hl
def zlf (c:Cx) (sz:Nat)(ops:List Oper)(U:List (Nat×Nat)) (i:Nat)(d:Option Tmp)(tm:Tr AV)(h:Tr ABlk)(ds:List DE)(K:AS→Prop)(q:R):Prop:=match q with
 |.val v h' nx'=>zik c ops i tm h h' U∧zb0 sz d v (.mk tm h' nx' ds) K
 |.unit h' nx'=>zik c ops i tm h h' U∧zb0 sz d (.tup []) (.mk tm h' nx' ds) K
 |.fail=>False
def zkw (c:Cx) (sz:Nat)(ops:List Oper)(U:List (Nat×Nat)) (i:Nat)(d:Option Tmp)(tm:Tr AV)(h:Tr ABlk) (nx:Nat)(ds:List DE)(hs:Nat→Tr ABlk)(K:AS→Prop)(q:R):Prop:=match q with
 |.val v _ _=>zjd c ops i tm hs h U∧zb0 sz d v (.mk tm h nx ds) K
 |_=>False
def zf9 (P:Program)(c:Cx) (sz:Nat)(ops:List Oper)(Wl Cl:List Nat)(U:List (Nat×Nat)) (i:Nat)(hs:Nat→Tr ABlk)(o:Oper)(K:(Nat→Tr ABlk)→AS→Prop)(s:AS):Prop:=
 match s with
 |.mk tm h nx ds=>match zbz ops tm o with
  |none=>False
  |some false=>zb0 sz o.dst (.tup []) (.mk tm h nx ds) (K fun j=>if j=i then h else hs j)
  |some true=>match inL i Cl with
   |true=>znl P c ops Wl i h nx (zdo o.op) tm fun u=>zb0 sz o.dst u (.mk tm h nx ds) (K fun j=>if j=i then h else hs j)
   |false=>match inL i Wl with
    |true=>zlf c sz ops U i o.dst tm h ds (K fun j=>if j=i then h else hs j) (opD c o.op tm h nx)
    |false=>zkw c sz ops U i o.dst tm h nx ds hs (K fun j=>if j=i then h else hs j) (opD c o.op tm h nx)
def awD (P:Program)(c:Cx) (sz:Nat)(ops:List Oper)(Wl Cl:List Nat)(U:List (Nat×Nat))(K:AS→Prop):List Oper→Nat→(Nat→Tr ABlk)→AS→Prop
 |[],_,_,s=>K s
 |o::l,i,hs,s=>zf9 P c sz ops Wl Cl U i hs o (awD P c sz ops Wl Cl U K l (i+1)) s
def zjx (P:Program)(c:Cx)(r:Option Nat) (sz:Nat)(ops:Array Oper)(Wl Cl:List Nat)(U:List (Nat×Nat))(S:Nat→Tr AV×Tr ABlk×Nat)(v:Nat→AV) (j:Nat):Prop:=
 ∃o,ops[j]?=some o∧OpY P c r ops o (v j) (rst (zbl ops.toList o) (S j).1) (S j).2.1 (S j).2.2 (S (j+1)).2.1 (S (j+1)).2.2∧(∀d,o.dst=some d→d<sz)∧
  (S (j+1)).1=(match o.dst with |none=>(S j).1 |some d=>(S j).1.put d (some (v j)))∧
  (inL j Wl=false→(S (j+1)).2=(S j).2∧((∀h' nx',OpY P c r ops o (v j) (rst (zbl ops.toList o) (S j).1) h' nx' h' nx') ∨
   (inL j Cl=false∧(∀h' nx',zbu (fpv c ops.toList j (S j).1) (S j).2.1 h'→OpY P c r ops o (v j) (rst (zbl ops.toList o) (S j).1) h' nx' h' nx')∧∀b,(j,b)∈U→b<j→zbu (fpv c ops.toList j (S j).1) (S j).2.1 (S b).2.1)∨zgo ops.toList Wl j=true))∧
  (inL j Wl=true→∀a,(a,j)∈U→a<j→zbu (fpv c ops.toList a (S j).1) (S j).2.1 (S (j+1)).2.1)
theorem znp (v:Option AV)(h:Tr ABlk):zbu v h h:=by
 unfold zbu
 split
 ·split
  ·rfl
  ·trivial
 ·trivial
def ztz (c:Cx)(ops:List Oper)(Wl Cl:List Nat):Prop:=∀i o,ops[i]?=some o→inL i Cl=false→zfm o.op=false∧(inL i Wl=false→zpx c o.op=false)
def zh2 (P:Program)(c:Cx) (sz:Nat)(ops:List Oper)(Wl Cl:List Nat)(U:List (Nat×Nat))(K:(Nat→Tr ABlk)→AS→Prop):List Oper→Nat→(Nat→Tr ABlk)→AS→Prop
 |[],_,hs,s=>K hs s
 |o::l,i,hs,s=>zf9 P c sz ops Wl Cl U i hs o (zh2 P c sz ops Wl Cl U K l (i+1)) s
theorem zAa {ops:List Oper}{Wl Cl:List Nat}{U:List (Nat×Nat)}{K:AS→Prop}:∀(l:List Oper) (i:Nat),awD P c sz ops Wl Cl U K l i=zh2 P c sz ops Wl Cl U (fun _=>K) l i
 |[],i=>rfl
 |o::l,i=>by
  funext hs s
  show zf9 P c sz ops Wl Cl U i hs o (awD P c sz ops Wl Cl U K l (i+1)) s=zf9 P c sz ops Wl Cl U i hs o (zh2 P c sz ops Wl Cl U (fun _=>K) l (i+1)) s
  rw[zAa l (i+1)]
theorem zEe (hc:CxOk P c)(hG:c.G.sym=true){ops:Array Oper}{Wl Cl:List Nat}{U:List (Nat×Nat)}{K:(Nat→Tr ABlk)→AS→Prop}(hcl:ztz c ops.toList Wl Cl)(hWC:∀i,inL i Cl=true→inL i Wl=false):∀(l:List Oper) (i:Nat)(hs:Nat→Tr ABlk)(tm:Tr AV)(h:Tr ABlk) (nx:Nat)(ds:List DE),(∀k,k<l.length→l[k]?=ops[i+k]?)→
  zh2 P c sz ops.toList Wl Cl U K l i hs (.mk tm h nx ds)→∀(S0:Nat→Tr AV×Tr ABlk×Nat) (v0:Nat→AV),S0 i=(tm,h,nx)→(∀j,j<i→hs j=(S0 j).2.1)→
  ∃(S:Nat→Tr AV×Tr ABlk×Nat) (v:Nat→AV),(∀j,j≤i→S j=S0 j)∧(∀j,j<i→v j=v0 j)∧(∃hs',(∀j,j<i+l.length→hs' j=(S j).2.1)∧K hs' (.mk (S (i+l.length)).1 (S (i+l.length)).2.1 (S (i+l.length)).2.2 ds))∧∀j,i≤j→j<i+l.length→zjx P c r sz ops Wl Cl U S v j:=by
 intro l
 induction l with
 |nil=>
  intro i hs tm h nx ds _ hw S0 v0 hS hh
  refine⟨S0,v0,fun _ _=>rfl,fun _ _=>rfl,⟨hs,fun j hj=>hh j (by simpa using hj),?_⟩,fun j h1 h2=>by simp at h2;omega⟩
  simp only[List.length_nil,Nat.add_zero,hS]
  exact hw
 |cons o l ih=>
  intro i hs tm h nx ds hl hw S0 v0 hS hh
  have ho:ops[i]?=some o:=by simpa using (hl 0 (by simp)).symm
  have hl':∀k,k<l.length→l[k]?=ops[i+1+k]?:=fun k hk=>by
   have:=hl (k+1) (by simpa using hk)
   rw[show i+(k+1)=i+1+k by omega]at this
   simpa using this
  have key:∀(u:AV) (h1:Tr ABlk) (n1:Nat),zb0 sz o.dst u (.mk tm h1 n1 ds) (zh2 P c sz ops.toList Wl Cl U K l (i+1) fun j=>if j=i then h else hs j)→
    (∀(S:Nat→Tr AV×Tr ABlk×Nat) (v:Nat→AV) ,S i=(tm,h,nx)→(S (i+1)).2=(h1,n1)→v i=u→(S (i+1)).1=(match o.dst with |none=>tm |some d=>tm.put d (some u))→(∀j,j<i→hs j=(S j).2.1)→(∀d,o.dst=some d→d<sz)→zjx P c r sz ops Wl Cl U S v i)→
    ∃(S:Nat→Tr AV×Tr ABlk×Nat) (v:Nat→AV),(∀j,j≤i→S j=S0 j)∧(∀j,j<i→v j=v0 j)∧(∃hs',(∀j,j<i+(o::l).length→hs' j=(S j).2.1)∧K hs' (.mk (S (i+(o::l).length)).1 (S (i+(o::l).length)).2.1 (S (i+(o::l).length)).2.2 ds))∧∀j,i≤j→j<i+(o::l).length→zjx P c r sz ops Wl Cl U S v j:=by
   intro u h1 n1 hp hstep
   have hput:∃tm1,tm1=(match o.dst with |none=>tm |some d=>tm.put d (some u))∧(∀d,o.dst=some d→d<sz)∧zh2 P c sz ops.toList Wl Cl U K l (i+1) (fun j=>if j=i then h else hs j) (.mk tm1 h1 n1 ds):=by
    unfold zb0 at hp
    cases hd:o.dst with
    |none=>rw[hd]at hp;exact⟨tm,rfl,(fun d e=>by cases e),hp⟩
    |some d=>rw[hd]at hp;exact⟨_,rfl,(fun d' e=>by cases e;exact hp.1),hp.2⟩
   obtain⟨tm1,e1,e2,e3⟩:=hput
   obtain⟨S,v,q1,q2,q3,q4⟩:=ih (i+1) _ tm1 h1 n1 ds hl' e3 (fun j=>if j≤i then S0 j else (tm1,h1,n1)) (fun j=>if j<i then v0 j else u) (if_neg (by omega)) (fun j hj=>by
    by_cases e:j=i
    ·subst e;simp[hS]
    ·simp only[if_neg e]
     rw[if_pos (by omega)]
     exact hh j (by omega))
   have hSi:S i=(tm,h,nx):=by rw[q1 i (by omega),if_pos (Nat.le_refl _),hS]
   have hSi1:S (i+1)=(tm1,h1,n1):=by rw[q1 (i+1) (Nat.le_refl _),if_neg (by omega)]
   refine⟨S,v,fun j hj=>by rw[q1 j (by omega),if_pos hj],fun j hj=>by rw[q2 j (by omega),if_pos hj],?_,fun j hj1 hj2=>?_⟩
   ·rw[List.length_cons,show i+(l.length+1)=i+1+l.length by omega];exact q3
   ·by_cases e:j=i
    ·subst e
     exact hstep S v hSi (by rw[hSi1]) (by rw[q2 j (by omega),if_neg (by omega)]) (by rw[hSi1];exact e1) (fun b hb=>by rw[hh b hb,q1 b (by omega),if_pos (by omega)]) e2
    ·rw[List.length_cons]at hj2
     exact q4 j (by omega) (by omega)
  change zf9 P c sz ops.toList Wl Cl U i hs o (zh2 P c sz ops.toList Wl Cl U K l (i+1)) (.mk tm h nx ds) at hw
  unfold zf9 at hw
  simp only at hw
  cases hwant:zbz ops.toList tm o with
  |none=>rw[hwant]at hw;exact hw.elim
  |some b=>
   rw[hwant]at hw
   cases b with
   |false=>
    refine key (.tup []) h nx hw fun S v hS1 hS2 hv hS3 hS4 hd=>⟨o,ho,?_,hd,by rw[hS1,hv];exact hS3,fun _=>⟨by rw[hS2,hS1],.inl fun h' nx'=>?_⟩,fun _ a _ _=>?_⟩
    ·rw[hS1,hS2,hv];exact OpY.skip hwant
    ·rw[hS1,hv];exact OpY.skip hwant
    ·rw[hS1,hS2];exact znp _ _
   |true=>
    simp only at hw
    cases hC:inL i Cl with
    |true=>
     rw[hC]at hw
     simp only at hw
     unfold znl at hw
     cases hcall:zdo o.op with
     |none=>rw[hcall]at hw;exact hw.elim
     |some p=>
      obtain⟨fo,args⟩:=p
      rw[hcall]at hw
      simp only at hw
      cases hf:evO c.G tm fo with
      |none=>rw[hf]at hw;exact hw.elim
      |some fv=>
       rw[hf]at hw
       cases fv <;> try exact hw.elim
       rename_i fid first cap
       simp only at hw
       cases hla:zb2 c.G tm args.toList with
       |none=>rw[hla]at hw;exact hw.elim
       |some la=>
        rw[hla]at hw
        obtain⟨u,hr,hp⟩:=hw
        rcases hr with hr |⟨hor,hr⟩
        ·refine key u h nx hp fun S v hS1 hS2 hv hS3 hS4 hd=>⟨o,ho,?_,hd,by rw[hS1,hv];exact hS3,fun _=>⟨by rw[hS2,hS1],.inl fun h' nx'=>?_⟩,fun hW=>?_⟩
         ·rw[hS1,hS2,hv];exact OpY.call hwant hcall hf hla (hr _ _)
         ·rw[hS1,hv];exact OpY.call hwant hcall hf hla (hr _ _)
         ·rw[hWC i hC]at hW;cases hW
        ·refine key u h nx hp fun S v hS1 hS2 hv hS3 hS4 hd=>⟨o,ho,?_,hd,by rw[hS1,hv];exact hS3,fun _=>⟨by rw[hS2,hS1],.inr (.inr hor)⟩,fun hW=>?_⟩
         ·rw[hS1,hS2,hv];exact OpY.call hwant hcall hf hla hr
         ·rw[hWC i hC]at hW;cases hW
    |false=>
     rw[hC]at hw
     simp only at hw
     obtain⟨hdf,hnw⟩:=hcl i o (by simpa using ho) hC
     cases hWi:inL i Wl with
     |true=>
      rw[hWi]at hw
      simp only at hw
      unfold zlf at hw
      cases hop:opD c o.op tm h nx with
      |fail=>rw[hop]at hw;exact hw.elim
      |val u h1 n1=>
       rw[hop]at hw
       obtain⟨hkU,hp⟩:=hw
       refine key u h1 n1 hp fun S v hS1 hS2 hv hS3 hS4 hd=>⟨o,ho,?_,hd,by rw[hS1,hv];exact hS3,fun hW=>?_,fun _ a ha hlt=>?_⟩
       ·rw[hS1,hS2,hv];exact OpY.val hc hwant hdf hop
       ·rw[hWi]at hW;cases hW
       ·rw[hS1,hS2];exact zwc hkU a ha hlt
      |unit h1 n1=>
       rw[hop]at hw
       obtain⟨hkU,hp⟩:=hw
       refine key (.tup []) h1 n1 hp fun S v hS1 hS2 hv hS3 hS4 hd=>⟨o,ho,?_,hd,by rw[hS1,hv];exact hS3,fun hW=>?_,fun _ a ha hlt=>?_⟩
       ·rw[hS1,hS2,hv];exact OpY.unit hc hwant hdf hop
       ·rw[hWi]at hW;cases hW
       ·rw[hS1,hS2];exact zwc hkU a ha hlt
     |false=>
      rw[hWi]at hw
      simp only at hw
      unfold zkw at hw
      have hrem:∀h' nx',zbu (fpv c ops.toList i tm) h h'→opD c o.op tm h' nx'=(opD c o.op tm h nx).rem h' nx':=fun h' nx' hk=>zBw hG _ (hnw hWi) (by
       unfold fpv at hk
       rw[show ops.toList[i]?=some o by simpa using ho]at hk
       exact hk)
      cases hop:opD c o.op tm h nx with
      |fail=>rw[hop]at hw;exact hw.elim
      |unit h1 n1=>rw[hop]at hw;exact hw.elim
      |val u h1 n1=>
       rw[hop]at hw
       obtain⟨hsU,hp⟩:=hw
       have hself:=hrem h nx (znp _ _)
       rw[hop]at hself
       have e1:h1=h∧n1=nx:=by
        simp only[R.rem]at hself
        cases hself
        exact⟨rfl,rfl⟩
       obtain⟨e1,e1'⟩:=e1
       subst e1
       subst e1'
       refine key u h1 n1 hp fun S v hS1 hS2 hv hS3 hS4 hd=>⟨o,ho,?_,hd,by rw[hS1,hv];exact hS3,fun _=>⟨by rw[hS2,hS1],.inr (.inl ⟨hC,fun h' nx' hk=>?_,fun b hb hlt=>?_⟩)⟩,fun hW=>?_⟩
       ·rw[hS1,hS2,hv];exact OpY.val hc hwant hdf hop
       ·rw[hS1]at hk ⊢
        rw[hv]
        refine OpY.val hc hwant hdf ?_
        rw[hrem h' nx' hk,hop]
        rfl
       ·rw[hS1,← hS4 b hlt]
        exact zBv hsU b hb hlt
       ·rw[hWi]at hW;cases hW
theorem zv5 (hc:CxOk P c)(hG:c.G.sym=true){ops:Array Oper}{Wl Cl:List Nat}{U:List (Nat×Nat)}{K:AS→Prop}(hcl:ztz c ops.toList Wl Cl)(hWC:∀i,inL i Cl=true→inL i Wl=false)(l:List Oper) (i:Nat)(hs:Nat→Tr ABlk)(tm:Tr AV)(h:Tr ABlk) (nx:Nat)(ds:List DE)(hl:∀k,l[k]?=ops[i+k]?)
  (hw:awD P c sz ops.toList Wl Cl U K l i hs (.mk tm h nx ds)) (S0:Nat→Tr AV×Tr ABlk×Nat) (v0:Nat→AV) (hS:S0 i=(tm,h,nx)) (hh:∀j,j<i→hs j=(S0 j).2.1):
  ∃(S:Nat→Tr AV×Tr ABlk×Nat) (v:Nat→AV),(∀j,j≤i→S j=S0 j)∧(∀j,j<i→v j=v0 j)∧K (.mk (S (i+l.length)).1 (S (i+l.length)).2.1 (S (i+l.length)).2.2 ds)∧∀j,i≤j→j<i+l.length→zjx P c r sz ops Wl Cl U S v j:=by
 rw[zAa]at hw
 obtain⟨S,v,q1,q2,⟨hs',_,q3⟩,q4⟩:=zEe (r:=r) hc hG hcl hWC l i hs tm h nx ds (fun k _=>hl k) hw S0 v0 hS hh
 exact⟨S,v,q1,q2,q3,q4⟩
end
end Go.Ev
