/- Texts T7 Sim5 T8 T9 T10 T11 T12 T13 T14 T15 T16. -/
import Derived.Test.YtkdnmldmffkkoaaGreatDoorP13
set_option linter.unusedSimpArgs false
set_option linter.unusedVariables false
set_option maxRecDepth 100000
namespace Go.Ev
open Go.Proofs
noncomputable section
structure Fc where
 name:ByteArray
 kind:Int
 lo:Int
 hi:Int
def Fc.cs (f:Fc):List AV:=[.bs f.name,.int .i64 f.kind,.int .i64 f.lo,.int .i64 f.hi]
def za8 (l:List Fc):List AV:=l.map fun f=>.agg f.cs
@[go_sem] theorem zwh (l:List Fc):(za8 l).length=l.length:=by simp[za8]
@[go_sem] theorem yab (l:List Fc) (k:Nat)(hk:k<(za8 l).length):(za8 l)[k]=.agg (l[k]'(by simpa[za8]using hk)).cs:=by simp[za8]
@[go_sem] theorem Fc.cs_len (f:Fc):f.cs.length=4:=by cases f;rfl
@[go_sem] theorem Fc.cs_take (f:Fc):f.cs.take 4=f.cs:=by cases f;rfl
theorem zji:∀l:List Fc,zah (za8 l)=true
 |[]=>rfl
 |f::l=>by
  have:=zji l
  rw[show za8 (f::l)=.agg f.cs::za8 l from rfl]
  simp[zah,plain,Fc.cs,this]
theorem zi7 {g:Tr ABlk}{nx i:Nat}{t:TypeId}{l:List AV}{opn:Bool}{esz:Nat}(hi:nx≤i)(hg:g.get i=some (bx t l opn esz))(hp:zah l=true):Fz g nx (.ptr i 0) (.ip l):=
 .pin i 0 t _ _ opn esz l l hi hg (by simp) (fun j hj=>by rw[Nat.zero_add,zbt]) (FzL.same _ hp)
def zb8 {α:Type}(p:α→Bool):List α→Int
 |[]=>-1
 |y::l=>if p y=true then 0 else (if zb8 p l<0 then -1 else zb8 p l+1)
def zge {α:Type}(p:α→Bool)(l:List α) (k:Nat):Int:=if zb8 p (l.drop k)<0 then -1 else zb8 p (l.drop k)+k
theorem zuv {α:Type}{p:α→Bool}{l:List α}{k:Nat}(hk:k<l.length)(e:p l[k]=true):zge p l k=k:=by
 unfold zge
 rw[List.drop_eq_getElem_cons hk,zb8,if_pos e]
 simp
theorem zt1 {α:Type}(p:α→Bool):∀l,-1≤zb8 p l∧(zb8 p l<0→zb8 p l=-1)
 |[]=>by simp[zb8]
 |y::l=>by
  have:=zt1 p l
  unfold zb8
  split
  ·omega
  ·split <;> omega
theorem ztl {α:Type}{p:α→Bool}{l:List α}{k:Nat}(hk:k<l.length)(e:¬p l[k]=true):zge p l k=zge p l (k+1):=by
 unfold zge
 rw[List.drop_eq_getElem_cons hk,zb8,if_neg e]
 have:=zt1 p (l.drop (k+1))
 repeat' split
 all_goals omega
theorem zsg {α:Type}{p:α→Bool}{l:List α}{k:Nat}(hk:l.length≤k):zge p l k=-1:=by
 unfold zge
 rw[List.drop_of_length_le hk,zb8]
 simp
theorem zv4 {α:Type}(p:α→Bool)(l:List α):zge p l 0=zb8 p l:=by
 have:=zt1 p l
 unfold zge
 rw[List.drop_zero]
 repeat' split
 all_goals omega
theorem zH2:cx.ft.get 42=some Tryz.f42:=za9 (by decide) (by kernel_rfl)
theorem zNs:cx.ft.get 89=some Tryz.f89:=za9 (by decide) (by kernel_rfl)
theorem zUt:cx.ft.get 90=some Tryz.f90:=za9 (by decide) (by kernel_rfl)
theorem zDx (f:Fc)(x:ByteArray):Ret Tryz.prog cx 90 [.agg f.cs,.ip [.bs x]] (.bool (decide (f.name=x))):=by
 refine Ret.mk fun h nx R hR=>zaa (sz:=8) (rs:=[.tmp 3]) za4 zUt rfl rfl rfl (by simp) ?_
 by_cases e:f.name=x
 ·simp[go_sem,Fc.cs,e]
  exact hR _ _ _ ((Ext.refl nx h).put (Nat.le_refl _) _) (Fz.eq rfl (by simp[e]))
 ·simp[go_sem,Fc.cs,e]
  exact hR _ _ _ ((Ext.refl nx h).put (Nat.le_refl _) _) (Fz.eq rfl (by simp[e]))
theorem zGh (full:Bool)(l:List Fc)(x:ByteArray)(hl:l.length≤1000000000):Ret Tryz.prog cx 89 [.fz 4 full (za8 l),.func 90 [] [.ip [.bs x]]] (.int .i64 (zb8 (fun f=>decide (f.name=x)) l)):=by
 refine Ret.mk fun h nx R hR=>zaa (sz:=19) (rs:=[.tmp 4]) za4 zNs rfl rfl rfl (by simp) ?_
 simp[go_sem]
 refine zap (fun mm st=>∃tm k,st=.mk tm h nx []∧mm=l.length-k∧k≤l.length∧tm.get 0=some (.fz 4 full (za8 l))∧tm.get 1=some (.func 90 [] [.ip [.bs x]])∧tm.get 7=some (.int .i64 (l.length:Int))∧tm.get 8=some (.int .i64 (k:Int))∧RowKit.Hid (zb8 (fun f=>decide (f.name=x)) l=zge (fun f=>decide (f.name=x)) l k)) ⟨l.length,_,0,rfl,by simp,by simp,?_⟩ ?_
 ·simp[go_sem]
  exact Lib.hid (zv4 _ l).symm
 ·rintro mm st ⟨tm,k,rfl,rfl,hk,t0,t1,t7,t8,hv⟩ J hJ
  refine zag za4 _ ?_
  by_cases hlt:k<l.length
  ·by_cases he:(l[k]).name=x
   ·have:=zuv (p:=fun f:Fc=>decide (f.name=x)) hlt (by simpa using he)
    simp[go_sem,t0,t1,t7,t8,hlt]
    refine Ret.use (zDx _ x) ?_
    simp[go_sem,za0,t0,t1,t7,t8,hlt,he]
    refine hR _ _ _ (Ext.refl _ _) (Fz.eq rfl ?_)
    rw[hv.out,this]
   ·have:=ztl (p:=fun f:Fc=>decide (f.name=x)) hlt (by simpa using he)
    have HM:=Lib.hid this
    clear this
    simp[go_sem,t0,t1,t7,t8,hlt]
    refine Ret.use (zDx _ x) ?_
    simp[go_sem,za0,t0,t1,t7,t8,hlt,he]
    refine hJ (l.length-(k+1)) _ (by omega) ⟨_,k+1,rfl,rfl,by omega,?_⟩
    simp(disch:=omega) [go_sem,t0,t1,t7,t8,zab]
    exact Lib.hid (by rw[hv.out,HM.out])
  ·have:=zsg (p:=fun f:Fc=>decide (f.name=x)) (l:=l) (k:=k) (by omega)
   simp[go_sem,t0,t1,t7,t8,hlt]
   refine hR _ _ _ (Ext.refl _ _) (Fz.eq rfl ?_)
   rw[hv.out,this]
theorem zxo (full:Bool)(l:List Fc)(x:ByteArray)(hl:l.length≤1000000000):Ret Tryz.prog cx 42 [.agg [.fz 4 full (za8 l)],.bs x] (.int .i64 (zb8 (fun f=>decide (f.name=x)) l)):=by
 refine Ret.mk fun h nx R hR=>za7.ofLe fun hG=>zaa (sz:=9) (rs:=[.tmp 4]) za4 zH2 rfl rfl rfl (by simp) ?_
 simp[go_sem]
 refine Ret.useB zgh (zGh full l x hl) rfl (.cons _ _ _ _ (Fz.eq (by simp[plain,zji]) rfl) (.cons _ _ _ _ (.func 90 _ _ _ _ .nil (.cons _ _ _ _ (zi7 (t:=9) (opn:=false) (esz:=0) (by omega) (by simp[go_sem]) (by simp[plain,zah])) .nil)) .nil)) ?_
 simp[go_sem,za0]
 exact hR _ _ _ (((Ext.refl nx h).put (Nat.le_refl _) _).put (by omega) _) (Fz.eq rfl rfl)
end
end Go.Ev
namespace Go.Ev
open Go
noncomputable section
variable {P : Program} {c : Cx}
def zgn (q:Prop):Prop:=¬q
@[go_sem] theorem yaw:zgn True=False:=by simp[zgn]
@[go_sem] theorem zXz:zgn False=True:=by simp[zgn]
def opt (q:Prop)(v:AV):AV:=@ite _ q (Classical.propDecidable q) v (.tup [])
def sel (q:Prop)(v u:AV):AV:=@ite _ q (Classical.propDecidable q) v u
def zg5 (q:Prop)(r:R)(h:Tr ABlk) (nx:Nat):R:=@ite _ q (Classical.propDecidable q) (r.rem h nx) (.val (.tup []) h nx)
def zlu (q:Prop)(r s:R)(h:Tr ABlk) (nx:Nat):R:=@ite _ q (Classical.propDecidable q) (r.rem h nx) (s.rem h nx)
section
variable {q : Prop} {v u : AV} {r s : R} {h : Tr ABlk} {nx : Nat}
theorem zmj (hq:q):opt q v=v:=if_pos hq
theorem zll (hq:¬q):opt q v=.tup []:=if_neg hq
theorem zvw (hq:q):sel q v u=v:=if_pos hq
theorem zvm (hq:¬q):sel q v u=u:=if_neg hq
theorem zqt (hq:q):zg5 q r h nx=r.rem h nx:=if_pos hq
theorem zmw (hq:¬q):zg5 q r h nx=.val (.tup []) h nx:=if_neg hq
theorem zpy (hq:q):zlu q r s h nx=r.rem h nx:=if_pos hq
theorem zox (hq:¬q):zlu q r s h nx=s.rem h nx:=if_neg hq
@[go_sem] theorem zV9:opt True v=v:=zmj trivial
@[go_sem] theorem zVs:opt False v=.tup []:=zll id
@[go_sem] theorem zZ2:sel True v u=v:=zvw trivial
@[go_sem] theorem zVf:sel False v u=u:=zvm id
@[go_sem] theorem zVw:zg5 False r h nx=.val (.tup []) h nx:=zmw id
@[congr] theorem zWt {q q':Prop}{r r':R}{h:Tr ABlk}{nx:Nat}(hq:q=q')(hr:q'→r=r'):zg5 q r h nx=zg5 q' r' h nx:=by
 subst hq
 by_cases hh:q
 ·rw[zqt hh,zqt hh,hr hh]
 ·rw[zmw hh,zmw hh]
@[congr] theorem zWa {q q':Prop}{r r' s s':R}{h:Tr ABlk}{nx:Nat}(hq:q=q')(hr:q'→r=r')(hs:zgn q'∧¬q'→s=s'):zlu q r s h nx=zlu q' r' s' h nx:=by
 subst hq
 by_cases hh:q
 ·rw[zpy hh,zpy hh,hr hh]
 ·rw[zox hh,zox hh,hs ⟨hh,hh⟩]
@[congr] theorem zY2 {q q':Prop}{r r':AV}(hq:q=q')(hr:q'→r=r'):opt q r=opt q' r':=by
 subst hq
 by_cases hh:q
 ·rw[zmj hh,zmj hh,hr hh]
 ·rw[zll hh,zll hh]
@[go_sem] theorem zXq (v:AV)(h':Tr ABlk) (nx':Nat):(R.val v h' nx').rem h nx=.val v h nx:=rfl
@[go_sem] theorem yau (v:AV)(h':Tr ABlk) (nx':Nat):zg5 q (.val v h' nx') h nx=.val (opt q v) h nx:=by
 by_cases hh:q
 ·rw[zqt hh,zmj hh];rfl
 ·rw[zmw hh,zll hh]
@[go_sem] theorem zVc (v u:AV)(h' h'':Tr ABlk) (nx' nx'':Nat):zlu q (.val v h' nx') (.val u h'' nx'') h nx=.val (sel q v u) h nx:=by
 by_cases hh:q
 ·rw[zpy hh,zvw hh];rfl
 ·rw[zox hh,zvm hh];rfl
open Classical in
@[go_sem] theorem yct (b d:Bool):sel q (.bool b) (.bool d)=.bool (decide ((q∧b=true)∨(¬q∧d=true))):=by
 by_cases hh:q
 ·rw[zvw hh];simp[hh]
 ·rw[zvm hh];simp[hh]
end
section
variable {sz : Nat} {ops : List Oper} {K : AS → Prop} {tm : Tr AV} {h : Tr ABlk} {nx : Nat} {ds : List DE} (want : Bool) (dst : Option Tmp) (op : Op) (ty : TypeId) (pos : String) (aft : Array Edge)
def zbv (c:Cx)(op:Op):Bool:=match op with
 |.move _=>true |.assign _=>true |.pick _ _ _=>true |.build _ _=>true |.load _ _=>true |.nilCheck _=>true |.binOp _ _ _ _ _=>true |.unOp _ _ _=>true
 |.makeInterface _ _=>true |.makeFunc _ _ _=>true |.slice _ _ _ _ _=>true |.fieldAddr _ _ _=>true |.field _ _ _=>true |.indexAddr _ _ _=>true |.index _ _ _=>true
 |.lookup t _ _ _=>!zht c t |.typeAssert _ _ _ _=>true |.extract _ _=>true
 |.call cl=>match cl.callee with
  |.builtin .len=>true
  |.builtin .cap=>true
  |_=>false
 |_=>false
@[go_sem] theorem ycz (x:Operand):zbv c (.move x)=true:=by simp[zbv]
@[go_sem] theorem zZd (t:TypeId)(x:Operand):zbv c (.load t x)=true:=by simp[zbv]
@[go_sem] theorem zYd (o:BinOp)(t t':TypeId)(x y:Operand):zbv c (.binOp o t x y t')=true:=by simp[zbv]
@[go_sem] theorem yaa (o:UnOp)(t:TypeId)(x:Operand):zbv c (.unOp o t x)=true:=by simp[zbv]
@[go_sem] theorem zXf (t:TypeId)(x:Operand) (k:Nat):zbv c (.fieldAddr t x k)=true:=by simp[zbv]
@[go_sem] theorem yai (t:TypeId)(x i:Operand):zbv c (.indexAddr t x i)=true:=by simp[zbv]
@[go_sem] theorem ydo (t:TypeId)(x i:Operand):zbv c (.index t x i)=true:=by simp[zbv]
@[go_sem] theorem zY0 (x:Operand):zbv c (.nilCheck x)=true:=by simp[zbv]
@[go_sem] theorem zYt (t:TypeId)(m k:Operand)(ok:Bool):zbv c (.lookup t m k ok)=!zht c t:=by simp[zbv]
@[go_sem] theorem zWm (x y z:Operand):zbv c (.pick x y z)=true:=by simp[zbv]
@[go_sem] theorem zZw (args:Array Operand)(ats:Array TypeId):zbv c (.call ⟨.builtin .len,args,ats⟩)=true:=by simp[zbv]
theorem zFl (v:AV)(h':Tr ABlk) (nx':Nat):zb7 sz dst tm ds K (.val v h' nx')=zb0 sz dst v (.mk tm h' nx' ds) K:=by cases dst <;> rfl
theorem zGu (hs:zbv c op=true):awS P c sz ops ⟨dst,op,ty,pos,aft,none⟩ K (.mk tm h nx ds)=zb7 sz dst tm ds K (opD c op tm h nx):=by
 cases op
 case lookup t x k ok=>
  have hk:zht c t=false:=by simpa[zbv]using hs
  rw[zOx,hk]
  rfl
 all_goals try (first |rfl |(cases hs;done))
 rename_i cl
 obtain⟨callee,args,ats⟩:=cl
 cases callee <;> try (cases hs;done)
 rfl
theorem zJe (hG:c.G.sym=true)(hs:zbv c op=true):(opD c op tm h nx).rem h nx=opD c op tm h nx:=by
 refine(zBw hG op ?_ (znp _ _)).symm
 cases op <;> try (first |rfl |(cases hs;done))
 rename_i cl
 obtain⟨callee,args,ats⟩:=cl
 cases callee <;> try (cases hs;done)
 rename_i b
 cases b <;> first |rfl |(cases hs;done)
theorem zsh (b:Bool)(hG:c.G.sym=true)(hs:zbv c op=true):zd6 P c sz ops (some (.bool b)) want dst op ty pos aft K tm h nx ds=zb7 sz dst tm ds K (zg5 (b=want) (opD c op tm h nx) h nx):=by
 by_cases e:b=want
 ·simp only[zd6]
  rw[if_pos e,zGu dst op ty pos aft hs,zqt e,zJe op hG hs]
 ·simp only[zd6]
  rw[if_neg e,zmw e,zFl]
theorem zvu (b:Bool):zgn (b=true)=(b=false):=by cases b <;> simp[zgn]
@[go_sem] theorem zWs (b:Bool)(hG:c.G.sym=true)(hs:zbv c op=true):zd6 P c sz ops (some (.bool b)) true dst op ty pos aft K tm h nx ds=zb7 sz dst tm ds K (zg5 (b=true) (opD c op tm h nx) h nx):=zsh true dst op ty pos aft b hG hs
@[go_sem] theorem zZ0 (b:Bool)(hG:c.G.sym=true)(hs:zbv c op=true):zd6 P c sz ops (some (.bool b)) false dst op ty pos aft K tm h nx ds=zb7 sz dst tm ds K (zg5 (zgn (b=true)) (opD c op tm h nx) h nx):=by
 rw[zvu];exact zsh false dst op ty pos aft b hG hs
theorem zA5 (p:Prop)(b:Bool)(hG:c.G.sym=true)(hs:zbv c op=true):zd6 P c sz ops (some (opt p (.bool b))) want dst op ty pos aft K tm h nx ds=zb7 sz dst tm ds K (zg5 (p∧b=want) (opD c op tm h nx) h nx):=by
 by_cases hp:p
 ·rw[zmj hp,zsh want dst op ty pos aft b hG hs]
  simp[hp]
 ·rw[zll hp,zmw (fun q=>hp q.1),zFl]
  rfl
@[go_sem] theorem zVd (p:Prop)(b:Bool)(hG:c.G.sym=true)(hs:zbv c op=true):zd6 P c sz ops (some (opt p (.bool b))) true dst op ty pos aft K tm h nx ds=zb7 sz dst tm ds K (zg5 (p∧b=true) (opD c op tm h nx) h nx):=zA5 true dst op ty pos aft p b hG hs
@[go_sem] theorem zZ8 (p:Prop)(b:Bool)(hG:c.G.sym=true)(hs:zbv c op=true):zd6 P c sz ops (some (opt p (.bool b))) false dst op ty pos aft K tm h nx ds=zb7 sz dst tm ds K (zg5 (p∧zgn (b=true)) (opD c op tm h nx) h nx):=by
 rw[zvu];exact zA5 false dst op ty pos aft p b hG hs
end
section
def zsi (v:Option AV)(a b:R)(h:Tr ABlk) (nx:Nat):R:=match v with
 |some (.bool true)=>a.rem h nx
 |some (.bool false)=>b.rem h nx
 |_=>.fail
end
section
variable {tm : Tr AV} {h : Tr ABlk} {nx : Nat}
@[go_sem high] theorem zZy (x a b:Operand):zaf c x a b tm h nx=zsi (evO c.G tm x) (zdl c a tm h nx) (zdl c b tm h nx) h nx:=by
 have hm:∀a,(zdl c a tm h nx).rem h nx=zdl c a tm h nx:=fun a=>by
  unfold zdl bR
  cases evO c.G tm a <;> rfl
 unfold zaf zsi
 simp only[hm]
 cases evO c.G tm x with
 |none=>rfl
 |some v=>
  cases v <;> try rfl
  rename_i b
  cases b <;> rfl
@[go_sem] theorem ydj (b:Bool)(r s:R):zsi (some (.bool b)) r s h nx=zlu (b=true) r s h nx:=by
 cases b
 ·rw[zox (by simp)];rfl
 ·rw[zpy rfl];rfl
end
@[go_sem] theorem ydf:cx.G.sym=true:=rfl
@[go_sem] theorem yas:G0.sym=true:=rfl
@[go_sem] theorem zXa (v:AV)(h h':Tr ABlk) (nx nx':Nat):(R.val v h' nx').rem h nx=.val v h nx:=rfl
theorem zDv {sz:Nat}{ops:List Oper}{K:AS→Prop}{tm:Tr AV}{h:Tr ABlk}{nx:Nat}{ds:List DE}{want b:Bool}{dst:Option Tmp}{f:Operand}{args:Array Operand}{ats:Array TypeId}{ty:TypeId}{pos:String}{aft:Array Edge}{fid:FuncId}{first cap l:List AV}{u:AV}{q:Prop}(e:(b=want)=q)
  (hf:evO c.G tm f=some (.func fid first cap)) (hl:q→zb2 c.G tm args.toList=some l) (hr:q→Ret P c fid (first++(l++cap)) u) (hk:zb0 sz dst (opt q u) (.mk tm h nx ds) K):
  zd6 P c sz ops (some (.bool b)) want dst (.call ⟨.value f,args,ats⟩) ty pos aft K tm h nx ds:=by
 subst e
 simp only[zd6]
 by_cases e:b=want
 ·rw[if_pos e]
  rw[zmj e]at hk
  simp only[awS,opW,zbz,zdo,hf,hl e,zgz]
  exact Ret.use (hr e) hk
 ·rw[if_neg e]
  rw[zll e]at hk
  exact hk
section
variable {sz : Nat} {ops : List Oper} {K : AS → Prop} {tm : Tr AV} {h : Tr ABlk} {nx : Nat} {ds : List DE} {b : Bool} {dst : Option Tmp} {f : Operand} {args : Array Operand} {ats : Array TypeId} {ty : TypeId} {pos : String} {aft : Array Edge} {fid : FuncId} {first cap l : List AV} {u : AV}
theorem zK0 (hf:evO c.G tm f=some (.func fid first cap))(hl:b=true→zb2 c.G tm args.toList=some l)(hr:Ret P c fid (first++(l++cap)) u)(hk:zb0 sz dst (opt (b=true) u) (.mk tm h nx ds) K):
  zd6 P c sz ops (some (.bool b)) true dst (.call ⟨.value f,args,ats⟩) ty pos aft K tm h nx ds:=zDv rfl hf hl (fun _=>hr) hk
theorem zsf (hf:evO c.G tm f=some (.func fid first cap))(hl:zgn (b=true)→zb2 c.G tm args.toList=some l)(hr:Ret P c fid (first++(l++cap)) u)(hk:zb0 sz dst (opt (zgn (b=true)) u) (.mk tm h nx ds) K):
  zd6 P c sz ops (some (.bool b)) false dst (.call ⟨.value f,args,ats⟩) ty pos aft K tm h nx ds:=zDv (zvu b).symm hf hl (fun _=>hr) hk
end
end
end Go.Ev
namespace Go.Ev
open Go.Proofs
noncomputable section
attribute [-go_sem] zaf
def zdw (i:Nat) (c:Int):Prop:=((97≤c∧c≤122)∨(65≤c∧c≤90))∨(i≠0∧((48≤c∧c≤57)∨c=95))
def zn2 (s:ByteArray):Prop:=(∀i (h:i<s.size),zdw i ((s[i]).toNat:Int))∧s≠.empty∧s.size≤24
def zi4 (s:ByteArray):Bool:=@decide (zn2 s) (Classical.propDecidable _)
theorem zqw {s:ByteArray}(h:zn2 s):zi4 s=true:=by unfold zi4;exact @decide_eq_true _ (Classical.propDecidable _) h
theorem zD2 {s:ByteArray}(h:¬zn2 s):zi4 s=false:=by unfold zi4;exact @decide_eq_false _ (Classical.propDecidable _) h
@[go_sem] theorem zWr (size b:Nat)(z:Option AV)(fs:List (Nat×Nat×Bool))(v:ByteArray)(k:IntKind)(h:Tr ABlk) (nx:Nat)(hn:0<v.size):zh4 (.mk .string size b z fs) (.bs v) (.int k 0) h nx=.val (.int .u8 ((v[0]).toNat:Int)) h nx:=
 zU3 size b z fs v k 0 h nx hn
theorem zTi:cx.ft.get 84=some Tryz.f84:=za9 (by decide) (by kernel_rfl)
set_option maxHeartbeats 1000000 in
theorem zSe (s:ByteArray)(hs:s.size≤1000000000):Ret Tryz.prog cx 84 [.bs s] (.bool (zi4 s)):=by
 refine Ret.mk fun h nx R hR=>zaa (sz:=57) (rs:=[.tmp 2]) za4 zTi rfl rfl rfl (by simp) ?_
 simp[go_sem]
 refine zap (fun mm st=>∃tm k,st=.mk tm h nx []∧mm=s.size-k∧k≤s.size∧tm.get 0=some (.bs s)∧tm.get 8=some (.int .i64 (s.size:Int))∧tm.get 9=some (.int .i64 (k:Int))∧RowKit.Hid (∀i (h:i<s.size),i<k→zdw i ((s[i]).toNat:Int))) ⟨s.size,_,0,rfl,by simp,by simp,?_⟩ ?_
 ·simp[go_sem]
  exact Lib.hid trivial
 ·rintro mm st ⟨tm,k,rfl,rfl,hk,t0,t8,t9,hv⟩ J hJ
  refine zag za4 _ ?_
  by_cases hlt:k<s.size
  ·obtain⟨c,hc⟩:∃c:Int,((s[k]).toNat:Int)=c:=⟨_,rfl⟩
   simp +contextual -implicitDefEqProofs[go_sem,t0,t8,t9,hlt,hc]
   refine zm6 (fun hb=>?_) (fun hb=>?_)
   ·simp[go_sem,t0,t8,t9]
    refine hR _ _ _ (Ext.refl _ _) (Fz.eq rfl ?_)
    rw[zD2 (fun hn=>?_)]
    have:=hn.1 k hlt
    rw[hc]at this
    unfold zdw at this
    simp at hb
    omega
   ·simp[go_sem,t0,t8,t9]
    refine hJ (s.size-(k+1)) _ (by omega) ⟨_,k+1,rfl,rfl,by omega,?_⟩
    simp(disch:=omega) [go_sem,t0,t8,t9,zab]
    refine Lib.hid (fun i h hi=>?_)
    by_cases e:i=k
    ·subst e
     rw[hc]
     unfold zdw
     simp at hb
     omega
    ·exact hv.out i h (by omega)
  ·have hall:∀i (h:i<s.size),zdw i ((s[i]).toNat:Int):=fun i h=>hv.out i h (by omega)
   simp +contextual -implicitDefEqProofs[go_sem,t0,t8,t9,hlt]
   refine hR _ _ _ (Ext.refl _ _) (Fz.eq rfl ?_)
   by_cases hn:zn2 s
   ·have e1:¬s=(⟨#[]⟩:ByteArray):=hn.2.1
    have e2:(s.size:Int)≤24:=by have:=hn.2.2;omega
    rw[zqw hn]
    simp[e1,e2]
   ·rw[zD2 hn]
    congr 1
    by_cases e1:s=(⟨#[]⟩:ByteArray)
    ·simp[e1]
    ·have e2:¬(s.size:Int)≤24:=fun h=>hn ⟨hall,e1,by omega⟩
     simp[e2]
end
end Go.Ev
namespace Go.Ev
open Go.Proofs
noncomputable section
attribute [-go_sem] zaf zac
def zc0:List ByteArray→Nat→List (AV×AV×Nat)
 |[],_=>[]
 |x::l,n=>(.bs x,.bool true,n)::zc0 l (n+1)
theorem zom (x:ByteArray):∀(l:List ByteArray) (n:Nat),zc0 l n++[(.bs x,.bool true,n+l.length)]=zc0 (l++[x]) n
 |[],n=>rfl
 |y::l,n=>by
  have:=zom x l (n+1)
  simp only[zc0,List.cons_append,List.length_cons]
  rw[← this,show n+(l.length+1)=n+1+l.length by omega]
def fnd (x:ByteArray):List ByteArray→Nat→Option (Nat×AV)
 |[],_=>none
 |y::l,i=>if x=y then some (i,.bool true) else fnd x l (i+1)
theorem zAq (x:ByteArray):∀(l:List ByteArray) (n i:Nat),ze8 .string (.bs x) (zc0 l n) i=some (fnd x l i)
 |[],n,i=>rfl
 |y::l,n,i=>by
  rw[zc0,zmx,fnd]
  by_cases e:x=y
  ·simp[zdz,e]
  ·simp[zdz,e,fN_eq,zAq x l (n+1) (i+1)]
attribute [go_sem] zAq
open Classical in
@[go_sem] theorem zTp (x:ByteArray)(h:Tr ABlk) (nx:Nat):∀(l:List ByteArray) (i:Nat),zac false (.bool false) (fnd x l i) h nx=.val (.bool (decide (x∈l))) h nx
 |[],i=>by simp[fnd,zac]
 |y::l,i=>by
  have:=zTp x h nx l (i+1)
  rw[fnd]
  by_cases e:x=y
  ·simp[e,zac]
  ·simp[e,this]
@[go_sem] theorem zzx {x:ByteArray}:∀{l:List ByteArray}(i:Nat),¬x∈l→fnd x l i=none
 |[],_,_=>rfl
 |y::l,i,h=>by
  simp at h
  rw[fnd,if_neg h.1,zzx (i+1) h.2]
def zo0 (f:Fc):Prop:=(f.kind=1∧f.lo=0∧f.hi=1)∨((f.kind=2∨f.kind=3)∧0≤f.lo∧f.lo≤f.hi∧f.hi≤1000000)
def zql (l:List Fc):Prop:=(∀f∈l,zo0 f∧zi4 f.name=true)∧(l.map Fc.name).Nodup
def zli (l:List Fc):Prop:=zql l∧l.length≤60
def zc5 (l:List Fc):Bool:=@decide (zli l) (Classical.propDecidable _)
theorem zu3 {s:List Fc}(h:zli s):zc5 s=true:=by unfold zc5;exact @decide_eq_true _ (Classical.propDecidable _) h
theorem zrf {s:List Fc}(h:¬zli s):zc5 s=false:=by unfold zc5;exact @decide_eq_false _ (Classical.propDecidable _) h
theorem zRe {α:Type}{m:List α}{k:Nat}(hn:m.Nodup)(hk:k<m.length):¬m[k]∈m.take k:=by
 intro hm
 have e:m=m.take k++m[k]::m.drop (k+1):=by
  rw[← List.drop_eq_getElem_cons hk,List.take_append_drop]
 rw[e,List.nodup_append]at hn
 exact hn.2.2 _ hm _ (List.mem_cons_self) rfl
theorem zKf {l:List Fc}{k:Nat}(hk:k<l.length)(hv:zql (l.take k))(h1:zo0 l[k])(h2:zi4 (l[k]).name=true)(h3:¬(l[k]).name∈(l.map Fc.name).take k):zql (l.take (k+1)):=by
 have e:l.take (k+1)=l.take k++[l[k]]:=List.take_succ_eq_append_getElem hk
 rw[e]
 refine⟨fun f hf=>?_,?_⟩
 ·rcases List.mem_append.1 hf with h |h
  ·exact hv.1 f h
  ·simp at h;subst h;exact⟨h1,h2⟩
 ·rw[List.map_append,List.nodup_append]
  refine⟨hv.2,by simp,?_⟩
  intro a ha b hb e
  simp at hb
  subst hb
  subst e
  rw[← List.map_take]at h3
  exact h3 ha
theorem zS6:cx.ft.get 37=some Tryz.f37:=za9 (by decide) (by kernel_rfl)
set_option maxHeartbeats 1000000 in
theorem zq1 (full:Bool)(l:List Fc)(hl:l.length≤1000000000)(hs:∀f∈l,f.name.size≤1000000000):Ret Tryz.prog cx 37 [.agg [.fz 4 full (za8 l)]] (.bool (zc5 l)):=by
 refine Ret.mk fun h nx R hR=>zaa (sz:=80) (rs:=[.tmp 2]) za4 zS6 rfl rfl rfl (by simp) ?_
 simp-implicitDefEqProofs[go_sem]
 refine zap (fun mm st=>∃tm h' nx' k,st=.mk tm h' nx' []∧mm=l.length-k∧k≤l.length∧tm.get 1=some (.ptr nx 0)∧tm.get 3=some (.map (nx+1))∧tm.get 10=some (.fz 4 full (za8 l))∧tm.get 11=some (.int .i64 (l.length:Int))∧tm.get 12=some (.int .i64 (k:Int))∧Ext nx h h'∧nx+2≤nx'∧h'.get nx=some (bx 35 [.fz 4 full (za8 l)] false 0)∧h'.get (nx+1)=some (.map (zc0 ((l.take k).map Fc.name) 0) k)∧RowKit.Hid (zql (l.take k))) ⟨l.length,_,_,_,0,rfl,by simp,by simp,?_⟩ ?_
 ·simp-implicitDefEqProofs[go_sem,zc0]
  exact⟨((Ext.refl nx h).put (Nat.le_refl _) _).put (by omega) _,Lib.hid ⟨by simp,by simp⟩⟩
 ·rintro mm st ⟨tm,h',nx',k,rfl,rfl,hk,t1,t3,t10,t11,t12,he,hn,g0,g1,hv⟩ J hJ
  refine zag za4 _ ?_
  have n0:¬nx=nx':=by omega
  have n1:¬nx+1=nx':=by omega
  by_cases hlt:k<l.length
  ·obtain⟨f,hf⟩:∃f,l[k]=f:=⟨_,rfl⟩
   simp +contextual -implicitDefEqProofs[go_sem,t1,t3,t10,t11,t12,hlt,g0,g1,n0,n1,hf,Fc.cs]
   have hfm:f∈l:=hf ▸ List.getElem_mem hlt
   refine zsf (fid:=84) (first:=[]) (cap:=[]) (l:=[.bs f.name]) (by simp[go_sem]) ?_ (zSe f.name (hs f hfm)) ?_
   ·simp +contextual -implicitDefEqProofs[go_sem]
   simp +contextual -implicitDefEqProofs[go_sem,zas,t1,t3,t10,t11,t12,hlt,g0,g1,n0,n1]
   refine zm6 (fun hb=>?_) (fun hb=>?_)
   ·simp-implicitDefEqProofs[go_sem]
    refine hR _ _ _ ((he.put (by omega) _).put (by omega) _) (Fz.eq rfl ?_)
    rw[zrf]
    intro hv2
    obtain⟨h1,h2⟩:=hv2.1.1 f hfm
    have h3:=zRe hv2.1.2 (k:=k) (by simpa using hlt)
    rw[List.getElem_map,hf]at h3
    unfold zo0 at h1
    simp[h2,h3]at hb
    omega
   ·have hb2:zo0 f∧zi4 f.name=true∧¬f.name∈List.take k (List.map Fc.name l):=by
     simp at hb
     unfold zo0
     by_cases e1:zi4 f.name=true
     ·by_cases e2:f.name∈List.take k (List.map Fc.name l)
      ·simp[e1,e2]at hb
       omega
      ·refine⟨?_,e1,e2⟩
       simp[e1,e2]at hb
       omega
     ·simp[e1]at hb
      omega
    obtain⟨b1,b2,b3⟩:=hb2
    clear hb
    simp-implicitDefEqProofs[go_sem,t1,t3,t10,t11,t12,g0,g1,n0,n1,b3]
    have hmap:zc0 (List.take k (List.map Fc.name l)) 0++[(.bs f.name,.bool true,k)]=zc0 ((l.take (k+1)).map Fc.name) 0:=by
     have h1:=zom f.name (List.take k (List.map Fc.name l)) 0
     have h2:(List.take k (List.map Fc.name l)).length=k:=by simp;omega
     rw[h2,Nat.zero_add]at h1
     rw[h1,List.take_succ_eq_append_getElem hlt,List.map_append,List.map_take,hf]
     rfl
    have HM:=Lib.hid hmap
    clear hmap
    have HV:=Lib.hid (zKf hlt hv.out (hf ▸ b1) (hf ▸ b2) (hf ▸ b3))
    refine hJ (l.length-(k+1)) _ (by omega) ⟨_,_,_,k+1,rfl,rfl,by omega,?_⟩
    simp(disch:=omega) [go_sem,t1,t3,t10,t11,t12,zab]
    refine⟨((he.put (by omega) _).put (by omega) _).put (by omega) _,by omega,by rw[if_neg n0,if_neg n0];exact g0,?_,HV⟩
    have:=HM.out
    rw[List.map_take]at this
    exact this
  ·simp +contextual -implicitDefEqProofs[go_sem,t1,t3,t10,t11,t12,hlt,g0,g1,n0,n1]
   refine hR _ _ _ he (Fz.eq rfl ?_)
   have:l.take k=l:=List.take_of_length_le (by omega)
   rw[this]at hv
   by_cases h6:l.length≤60
   ·have h7:(l.length:Int)≤60:=by omega
    rw[zu3 ⟨hv.out,h6⟩]
    simp[h7]
   ·have h7:¬(l.length:Int)≤60:=by omega
    rw[zrf (fun q=>h6 q.2)]
    simp[h7]
theorem zDc:cx.ft.get 86=some Tryz.f86:=za9 (by decide) (by kernel_rfl)
theorem zJl:cx.ft.get 92=some Tryz.f92:=za9 (by decide) (by kernel_rfl)
theorem zO4:cx.ft.get 136=some Tryz.f136:=za9 (by decide) (by kernel_rfl)
theorem zOb (l m:List Stt)(hl:l.length≤1000000000)(hm:m.length≤1000000000)(hp:∀a∈l,∀b∈m,Ret Tryz.prog cx 92 [.agg a.cs,.agg b.cs] (.bool (zaw a b))):Ret Tryz.prog cx 136 [.fz 4 false (zda l),.fz 4 false (zda m),.func 92 [] []] (.bool (zdm l m)):=by
 refine Ret.mk fun h nx R hR=>zaa (sz:=32) (rs:=[.tmp 6]) za4 zO4 rfl rfl rfl (by simp) ?_
 by_cases hlen:l.length=m.length
 ·simp-implicitDefEqProofs[go_sem,hlen]
  refine zap (fun mm st=>∃tm h' nx' k,st=.mk tm h' nx' []∧mm=m.length-k∧k≤m.length∧tm.get 1=some (.fz 4 false (zda m))∧tm.get 2=some (.func 92 [] [])∧tm.get 15=some (.fz 4 false (zda l))∧tm.get 16=some (.int .i64 (m.length:Int))∧tm.get 17=some (.int .i64 (k:Int))∧Ext nx h h'∧nx≤nx'∧RowKit.Hid (zdm l m=zdm (l.drop k) (m.drop k))) ⟨m.length,_,_,_,0,rfl,by simp,by simp,?_⟩ ?_
  ·simp-implicitDefEqProofs[go_sem]
   exact⟨Ext.refl _ _,Lib.hid trivial⟩
  ·rintro mm st ⟨tm,h',nx',k,rfl,rfl,hk,t1,t2,t15,t16,t17,he,hn,hv⟩ J hJ
   refine zag za4 _ ?_
   by_cases hlt:k<m.length
   ·have hlt':k<l.length:=by omega
    have HD:=Lib.hid (show zdm (l.drop k) (m.drop k)=(zaw l[k] m[k] && zdm (l.drop (k+1)) (m.drop (k+1))) by
     rw[List.drop_eq_getElem_cons hlt,List.drop_eq_getElem_cons hlt',zdm])
    simp-implicitDefEqProofs[go_sem,t1,t2,t15,t16,t17,hlt,hlt']
    refine Ret.use (hp _ (List.getElem_mem hlt') _ (List.getElem_mem hlt)) ?_
    by_cases hs:zaw l[k] m[k]=true
    ·simp-implicitDefEqProofs[go_sem,za0,t1,t2,t15,t16,t17,hs]
     refine hJ (m.length-(k+1)) _ (by omega) ⟨_,_,_,k+1,rfl,rfl,by omega,?_⟩
     simp(disch:=omega) [go_sem,t1,t2,t15,t16,t17,zab]
     have hd:=HD.out
     rw[hs,Bool.true_and]at hd
     refine⟨((((he.put (by omega) _).put (by omega) _).put (by omega) _).put (by omega) _),by omega,Lib.hid (by rw[hv.out,hd])⟩
    ·have hs':zaw l[k] m[k]=false:=by simpa using hs
     simp-implicitDefEqProofs[go_sem,za0,t1,t2,t15,t16,t17,hs']
     refine hR _ _ _ ((((he.put (by omega) _).put (by omega) _).put (by omega) _).put (by omega) _) (Fz.eq rfl ?_)
     rw[hv.out,HD.out,hs',Bool.false_and]
   ·simp-implicitDefEqProofs[go_sem,t1,t2,t15,t16,t17,hlt]
    refine hR _ _ _ he (Fz.eq rfl ?_)
    rw[hv.out,List.drop_of_length_le (by omega),List.drop_of_length_le (by omega),zdm]
 ·have hi:¬(l.length:Int)=(m.length:Int):=by omega
  simp-implicitDefEqProofs[go_sem,hlen,hi]
  refine hR _ _ _ (Ext.refl _ _) (Fz.eq rfl ?_)
  rw[zvp hlen]
theorem Stt.size_mem {a:Stt}:∀{l:List Stt},a∈l→a.size≤zbr l
 |b::l,h=>by
  simp only[zbr]
  rcases List.mem_cons.1 h with h |h
  ·subst h;omega
  ·have:=Stt.size_mem h
   omega
theorem zst (n:Nat):∀(a b:Stt),a.size≤n→n≤1000000000→b.size≤1000000000→Ret Tryz.prog cx 92 [.agg a.cs,.agg b.cs] (.bool (zaw a b)):=by
 induction n with
 |zero=>intro a b ha;cases a;simp[Stt.size]at ha
 |succ n ih=>
 rintro⟨o,nm,d,k⟩ ⟨o',nm',d',k'⟩ ha hn hb
 simp only[Stt.size]at ha hb
 have l1:=zs3 k
 have l2:=zs3 k'
 have hc:=zOb k k' (by omega) (by omega) (fun x hx y hy=>ih x y (by have:=Stt.size_mem hx;omega) (by omega) (by have:=Stt.size_mem hy;omega))
 refine Ret.mk fun h nx R hR=>zaa (sz:=31) (rs:=[.tmp 4]) za4 zJl rfl rfl rfl (by simp) ?_
 simp +contextual -implicitDefEqProofs[go_sem,Stt.cs]
 refine zK0 (fid:=136) (first:=[]) (cap:=[]) (l:=[.fz 4 false (zda k),.fz 4 false (zda k'),.func 92 [] []]) (by simp[go_sem]) ?_ hc ?_
 ·simp +contextual -implicitDefEqProofs[go_sem]
 simp +contextual -implicitDefEqProofs[go_sem,zas]
 refine hR _ _ _ (((Ext.refl nx h).put (Nat.le_refl _) _).put (by omega) _) (Fz.eq rfl ?_)
 simp[zaw]
structure Pv where
 id:ByteArray
 rank:Int
 kind:Int
 name:ByteArray
 value:Int
 when_:Fm
 except:List ByteArray
 begin_:Stt
 end_:Stt
 again:Stt
def Pv.cs (p:Pv):List AV:=[.bs p.id,.int .i64 p.rank,.int .i64 p.kind,.bs p.name,.int .i64 p.value]++(p.when_.cs++([.fz 1 false (zaj p.except)]++(p.begin_.cs++(p.end_.cs++p.again.cs))))
theorem zIt:cx.ft.get 44=some Tryz.f44:=za9 (by decide) (by kernel_rfl)
theorem zKw (a b:Pv)(v:AV)(ha:a.begin_.size≤1000000000∧a.end_.size≤1000000000∧a.again.size≤1000000000)(hb:b.begin_.size≤1000000000∧b.end_.size≤1000000000∧b.again.size≤1000000000):Ret Tryz.prog cx 44 [.ip (a.cs++(b.cs++[v]))] (.tup [.bool (!(zaw a.begin_ b.begin_ && zaw a.end_ b.end_ && zaw a.again b.again)),.sl0,.int .i64 0]):=by
 have c1:=zst 1000000000 a.begin_ b.begin_ ha.1 (Nat.le_refl _) hb.1
 have c2:=zst 1000000000 a.end_ b.end_ ha.2.1 (Nat.le_refl _) hb.2.1
 have c3:=zst 1000000000 a.again b.again ha.2.2 (Nat.le_refl _) hb.2.2
 rcases a with⟨id,rank,kind,name,value,⟨w1,w2,w3,w4,w5⟩,ex,⟨b1,b2,b3,b4⟩,⟨e1,e2,e3,e4⟩,⟨g1,g2,g3,g4⟩⟩
 rcases b with⟨id',rank',kind',name',value',⟨w1',w2',w3',w4',w5'⟩,ex',⟨b1',b2',b3',b4'⟩,⟨e1',e2',e3',e4'⟩,⟨g1',g2',g3',g4'⟩⟩
 dsimp only at c1 c2 c3 ⊢
 generalize hs1:zaw (.mk b1 b2 b3 b4) (.mk b1' b2' b3' b4')=s1 at c1 ⊢
 generalize hs2:zaw (.mk e1 e2 e3 e4) (.mk e1' e2' e3' e4')=s2 at c2 ⊢
 generalize hs3:zaw (.mk g1 g2 g3 g4) (.mk g1' g2' g3' g4')=s3 at c3 ⊢
 simp only[Stt.cs]at c1 c2 c3
 refine Ret.mk fun h nx R hR=>zaa (sz:=45) (rs:=[.tmp 2,.tmp 3,.tmp 4]) za4 zIt rfl rfl rfl (by simp) ?_
 simp-implicitDefEqProofs[go_sem]
 refine zbq mixed za4 zbe [] [10,22,35] [] (by kernel_rfl) ?_
 simp-implicitDefEqProofs[go_sem,Pv.cs,Fm.cs,Stt.cs]
 refine zbm c1 ?_
 have fin:∀x:Bool,x=!(s1 && s2 && s3)→R (.tup [.bool x,.sl0,.int .i64 0]) h nx:=fun x hx=>hR _ _ _ (Ext.refl _ _) (Fz.eq rfl (by rw[hx]))
 cases s1
 ·simp-implicitDefEqProofs[go_sem,zas]
  exact fin _ (by simp)
 ·simp-implicitDefEqProofs[go_sem,zas]
  refine zbm c2 ?_
  cases s2
  ·simp-implicitDefEqProofs[go_sem,zas]
   exact fin _ (by simp)
  ·simp-implicitDefEqProofs[go_sem,zas]
   refine zbm c3 ?_
   cases s3
   ·simp-implicitDefEqProofs[go_sem,zas]
    exact fin _ (by simp)
   ·simp-implicitDefEqProofs[go_sem,zas]
    exact fin _ (by simp)
def za5 (l:List Int):List AV:=l.map (.int .i64)
@[go_sem] theorem zp0 (l:List Int):(za5 l).length=l.length:=by simp[za5]
@[go_sem] theorem zYa (l:List Int) (k:Nat)(hk:k<(za5 l).length):(za5 l)[k]=.int .i64 (l[k]'(by simpa[za5]using hk)):=by simp[za5]
theorem zIs:cx.ft.get 20=some Tryz.f20:=za9 (by decide) (by kernel_rfl)
theorem zEi (u v:Bool)(l m:List Int)(hl:l.length≤1000000000):Ret Tryz.prog cx 20 [.fz 1 u (za5 l),.fz 1 v (za5 m)] (.bool (decide (l=m))):=by
 refine Ret.mk fun h nx R hR=>zaa (sz:=26) (rs:=[.tmp 4]) za4 zIs rfl rfl rfl (by simp) ?_
 by_cases hlen:l.length=m.length
 ·simp-implicitDefEqProofs[go_sem,hlen]
  refine zap (fun mm st=>∃tm k,st=.mk tm h nx []∧mm=l.length-k∧k≤l.length∧tm.get 0=some (.fz 1 u (za5 l))∧tm.get 1=some (.fz 1 v (za5 m))∧tm.get 5=some (.int .i64 (k:Int))∧RowKit.Hid (l.take k=m.take k)) ⟨l.length,_,0,rfl,by simp,by simp,?_⟩ ?_
  ·simp-implicitDefEqProofs[go_sem]
   exact Lib.hid trivial
  ·rintro mm st ⟨tm,k,rfl,rfl,hk,t0,t1,t5,hv⟩ J hJ
   refine zag za4 _ ?_
   by_cases hlt:k<l.length
   ·have hlt':k<m.length:=by omega
    simp-implicitDefEqProofs[go_sem,t0,t1,t5,hlt,hlt']
    refine zbq mixed za4 zbe [] [] [] (by kernel_rfl) ?_
    simp-implicitDefEqProofs[go_sem,t0,t1,t5,hlt,hlt']
    refine zm6 (fun hb=>?_) (fun hb=>?_)
    ·simp at hb
     simp-implicitDefEqProofs[go_sem]
     refine hR _ _ _ (Ext.refl _ _) (Fz.eq rfl ?_)
     have:¬l=m:=fun e=>hb (by subst e;rfl)
     simp[this]
    ·simp at hb
     simp-implicitDefEqProofs[go_sem,t0,t1,t5]
     refine hJ (l.length-(k+1)) _ (by omega) ⟨_,k+1,rfl,rfl,by omega,?_⟩
     simp(disch:=omega) [go_sem,t0,t1,t5,zab]
     refine Lib.hid ?_
     rw[List.take_succ_eq_append_getElem hlt,List.take_succ_eq_append_getElem hlt',hv.out,hb]
   ·have:=hv.out
    rw[List.take_of_length_le (by omega),List.take_of_length_le (by omega)]at this
    simp-implicitDefEqProofs[go_sem,t0,t1,t5,hlt]
    refine hR _ _ _ (Ext.refl _ _) (Fz.eq rfl ?_)
    simp[this]
 ·have hi:¬(l.length:Int)=(m.length:Int):=by omega
  simp-implicitDefEqProofs[go_sem,hlen,hi]
  refine hR _ _ _ (Ext.refl _ _) (Fz.eq rfl ?_)
  have:¬l=m:=fun e=>hlen (by rw[e])
  simp[this]
theorem zMg:cx.ft.get 114=some Tryz.f114:=za9 (by decide) (by kernel_rfl)
theorem zR8 (b:Nat):∀(f:Fm) (m:Nat),f.size≤b→m≤1000000000→Ret Tryz.prog cx 114 [.agg f.cs,.int .i64 (m:Int)] (.int .i64 ((min f.size (m+1):Nat):Int)):=by
 induction b with
 |zero=>intro f m hf;cases f;simp[Fm.size]at hf
 |succ b ih=>
 rintro⟨o,nm,cm,n,kids⟩ m hf hm
 simp only[Fm.size]at hf ⊢
 refine Ret.mk fun h nx R hR=>zaa (sz:=31) (rs:=[.tmp 4]) za4 zMg rfl rfl rfl (by simp) ?_
 simp-implicitDefEqProofs[go_sem,Fm.cs]
 refine zap (fun mm st=>∃tm h' nx' k z,st=.mk tm h' nx' []∧mm=kids.length-k∧k≤kids.length∧k≤z∧tm.get 1=some (.int .i64 (m:Int))∧tm.get 2=some (.ptr nx 0)∧tm.get 5=some (.int .i64 (z:Int))∧tm.get 6=some (.int .i64 (k:Int))∧RowKit.Hid (z=min (1+zae (kids.take k)) (m+1))∧h'.get nx=some (bx 24 [.int .i64 o,.bs nm,.int .i64 cm,.int .i64 n,.fz 5 false (zat kids)] false 0)∧Ext nx h h'∧nx<nx') ⟨kids.length,_,_,_,0,1,rfl,by simp,by simp,by simp,?_⟩ ?_
 ·simp-implicitDefEqProofs[go_sem,zae]
  exact⟨Lib.hid (by first |trivial |omega |(simp[Nat.min_def])),(Ext.refl nx h).put (Nat.le_refl _) _⟩
 ·rintro mm st ⟨tm,h',nx',k,z,rfl,rfl,hk,hz,t1,t2,t5,t6,hv,g0,he,hn⟩ J hJ
  refine zag za4 _ ?_
  have hzz:=hv.out
  by_cases hlt:k<kids.length
  ·by_cases hzm:z≤m
   ·obtain⟨s1,s2,s3⟩:=zfn hlt
    have e1:IntKind.i64.wrap ((m:Int)-(z:Int))=((m-z:Nat):Int):=by rw[zab _ (by omega) (by omega)];omega
    simp-implicitDefEqProofs[go_sem,t1,t2,t5,t6,g0,hlt,hzm,e1]
    refine Ret.use (ih _ (m-z) (by omega) (by omega)) ?_
    simp-implicitDefEqProofs[go_sem,za0,t1,t2,t5,t6,g0,hlt,hzm]
    have hpos:=size_pos kids[k]
    refine hJ (kids.length-(k+1)) _ (by omega) ⟨_,_,_,k+1,z+min kids[k].size (m-z+1),rfl,rfl,by omega,by omega,?_⟩
    simp(disch:=omega) [go_sem,t1,t2,t5,t6,zab]
    exact⟨Lib.hid (by omega),g0,he,hn⟩
   ·simp-implicitDefEqProofs[go_sem,t1,t2,t5,t6,g0,hlt,hzm]
    refine hR _ _ _ he (Fz.eq rfl ?_)
    have h2:zae kids=zae (kids.take k)+zae (kids.drop k):=by rw[← zrs,List.take_append_drop]
    congr 1
    omega
  ·simp-implicitDefEqProofs[go_sem,t1,t2,t5,t6,g0,hlt]
   refine hR _ _ _ he (Fz.eq rfl ?_)
   rw[List.take_of_length_le (by omega)]at hzz
   congr 1
   omega
theorem zrn (l m:List Stt):zbr (l++m)=zbr l+zbr m:=by
 induction l with
 |nil=>simp[zbr]
 |cons f l ih=>simp[zbr,ih];omega
theorem zK8 {l:List Stt}{k:Nat}(hk:k<l.length):zbr (l.take (k+1))=zbr (l.take k)+(l[k]).size∧zbr (l.take k)+(l[k]).size≤zbr l:=by
 have h1:l.take (k+1)=l.take k++[l[k]]:=List.take_succ_eq_append_getElem hk
 have h2:zbr l=zbr (l.take (k+1))+zbr (l.drop (k+1)):=by rw[← zrn,List.take_append_drop]
 rw[h1,zrn]at h2
 rw[h1,zrn]
 simp only[zbr,Nat.add_zero]at h2 ⊢
 exact⟨trivial,by omega⟩
theorem zLq:cx.ft.get 58=some Tryz.f58:=za9 (by decide) (by kernel_rfl)
theorem zHi:cx.ft.get 57=some Tryz.f57:=za9 (by decide) (by kernel_rfl)
theorem zts (b:Nat):∀(f:Stt) (m:Nat),f.size≤b→m≤1000000000→Ret Tryz.prog cx 58 [.agg f.cs,.int .i64 (m:Int)] (.int .i64 ((min f.size (m+1):Nat):Int)):=by
 induction b with
 |zero=>intro f m hf;cases f;simp[Stt.size]at hf
 |succ b ih=>
 rintro⟨o,nm,cm,kids⟩ m hf hm
 simp only[Stt.size]at hf ⊢
 refine Ret.mk fun h nx R hR=>zaa (sz:=31) (rs:=[.tmp 4]) za4 zLq rfl rfl rfl (by simp) ?_
 simp-implicitDefEqProofs[go_sem,Stt.cs]
 refine zap (fun mm st=>∃tm h' nx' k z,st=.mk tm h' nx' []∧mm=kids.length-k∧k≤kids.length∧k≤z∧tm.get 1=some (.int .i64 (m:Int))∧tm.get 2=some (.ptr nx 0)∧tm.get 5=some (.int .i64 (z:Int))∧tm.get 6=some (.int .i64 (k:Int))∧RowKit.Hid (z=min (1+zbr (kids.take k)) (m+1))∧h'.get nx=some (bx 28 [.int .i64 o,.bs nm,.int .i64 cm,.fz 4 false (zda kids)] false 0)∧Ext nx h h'∧nx<nx') ⟨kids.length,_,_,_,0,1,rfl,by simp,by simp,by simp,?_⟩ ?_
 ·simp-implicitDefEqProofs[go_sem,zbr]
  exact⟨Lib.hid (by first |trivial |omega |(simp[Nat.min_def])),(Ext.refl nx h).put (Nat.le_refl _) _⟩
 ·rintro mm st ⟨tm,h',nx',k,z,rfl,rfl,hk,hz,t1,t2,t5,t6,hv,g0,he,hn⟩ J hJ
  refine zag za4 _ ?_
  have hzz:=hv.out
  by_cases hlt:k<kids.length
  ·by_cases hzm:z≤m
   ·obtain⟨s1,s3⟩:=zK8 hlt
    have e1:IntKind.i64.wrap ((m:Int)-(z:Int))=((m-z:Nat):Int):=by rw[zab _ (by omega) (by omega)];omega
    simp-implicitDefEqProofs[go_sem,t1,t2,t5,t6,g0,hlt,hzm,e1]
    refine Ret.use (ih _ (m-z) (by omega) (by omega)) ?_
    simp-implicitDefEqProofs[go_sem,za0,t1,t2,t5,t6,g0,hlt,hzm]
    have hpos:=Stt.size_pos kids[k]
    refine hJ (kids.length-(k+1)) _ (by omega) ⟨_,_,_,k+1,z+min kids[k].size (m-z+1),rfl,rfl,by omega,by omega,?_⟩
    simp(disch:=omega) [go_sem,t1,t2,t5,t6,zab]
    exact⟨Lib.hid (by omega),g0,he,hn⟩
   ·simp-implicitDefEqProofs[go_sem,t1,t2,t5,t6,g0,hlt,hzm]
    refine hR _ _ _ he (Fz.eq rfl ?_)
    have h2:zbr kids=zbr (kids.take k)+zbr (kids.drop k):=by rw[← zrn,List.take_append_drop]
    congr 1
    omega
  ·simp-implicitDefEqProofs[go_sem,t1,t2,t5,t6,g0,hlt]
   refine hR _ _ _ he (Fz.eq rfl ?_)
   rw[List.take_of_length_le (by omega)]at hzz
   congr 1
   omega
theorem zJz (f:Fm) (m:Nat)(hm:m≤1000000000):Ret Tryz.prog cx 57 [.agg f.cs,.int .i64 (m:Int)] (.bool (decide (f.size≤m))):=by
 refine Ret.mk fun h nx R hR=>zaa (sz:=10) (rs:=[.tmp 4]) za4 zHi rfl rfl rfl (by simp) ?_
 simp-implicitDefEqProofs[go_sem]
 refine Ret.use (zR8 f.size f m (Nat.le_refl _) hm) ?_
 simp-implicitDefEqProofs[go_sem,za0]
 refine hR _ _ _ ((Ext.refl nx h).put (Nat.le_refl _) _) (Fz.eq rfl ?_)
 congr 1
 by_cases e:f.size≤m
 ·simp[e];omega
 ·simp[e];omega
theorem zL6:cx.ft.get 29=some Tryz.f29:=za9 (by decide) (by kernel_rfl)
def zii (l:List Fc) (m:Nat):Prop:=l.length≤m∧∀i (h:i<l.length),(l[i]).name.size≤100
open Classical in
theorem zIv (full:Bool)(l:List Fc) (m:Nat)(hm:m≤1000000000):Ret Tryz.prog cx 29 [.agg [.fz 4 full (za8 l)],.int .i64 (m:Int)] (.bool (decide (zii l m))):=by
 refine Ret.mk fun h nx R hR=>zaa (sz:=31) (rs:=[.tmp 4]) za4 zL6 rfl rfl rfl (by simp) ?_
 simp-implicitDefEqProofs[go_sem]
 obtain⟨H,hH⟩:∃H,H=h.put nx (some (bx 35 [.fz 4 full (za8 l)] false 0)):=⟨_,rfl⟩
 have g0:H.get nx=some (bx 35 [.fz 4 full (za8 l)] false 0):=by rw[hH];simp[go_sem]
 have he:Ext nx h H:=by rw[hH];exact(Ext.refl nx h).put (Nat.le_refl _) _
 rw[← hH]
 clear hH
 refine zap (fun mm st=>∃tm k,st=.mk tm H (nx+1) []∧mm=m-k∧k≤l.length∧k≤m∧tm.get 1=some (.int .i64 (m:Int))∧tm.get 2=some (.ptr nx 0)∧tm.get 5=some (.int .i64 (k:Int))∧RowKit.Hid (∀i (h:i<l.length),i<k→(l[i]).name.size≤100)) ⟨m,_,0,rfl,by simp,by simp,by simp,?_⟩ ?_
 ·simp-implicitDefEqProofs[go_sem]
  exact Lib.hid trivial
 ·rintro mm st ⟨tm,k,rfl,rfl,hk,hkm,t1,t2,t5,hv⟩ J hJ
  refine zag za4 _ ?_
  by_cases hlt:k<l.length
  ·by_cases hlm:k<m
   ·obtain⟨f,hf⟩:∃f,l[k]=f:=⟨_,rfl⟩
    simp-implicitDefEqProofs[go_sem,t1,t2,t5,g0,hlt,hlm,hf,Fc.cs]
    refine zm6 (fun hb=>?_) (fun hb=>?_)
    ·simp at hb
     simp-implicitDefEqProofs[go_sem]
     refine hR _ _ _ he (Fz.eq rfl ?_)
     have:¬zii l m:=fun q=>by have:=q.2 k hlt;rw[hf]at this;omega
     simp[this]
    ·simp at hb
     simp-implicitDefEqProofs[go_sem,t1,t2,t5,g0]
     refine hJ (m-(k+1)) _ (by omega) ⟨_,k+1,rfl,rfl,by omega,by omega,?_⟩
     simp(disch:=omega) [go_sem,t1,t2,t5,zab]
     refine Lib.hid (fun i h hi=>?_)
     by_cases e:i=k
     ·subst e;rw[hf];omega
     ·exact hv.out i h (by omega)
   ·simp-implicitDefEqProofs[go_sem,t1,t2,t5,g0,hlt,hlm]
    refine hR _ _ _ he (Fz.eq rfl ?_)
    have:¬zii l m:=fun q=>by have:=q.1;omega
    have h2:¬(l.length:Int)≤(m:Int):=by omega
    simp[this,h2]
    try omega
  ·simp-implicitDefEqProofs[go_sem,t1,t2,t5,g0,hlt]
   refine hR _ _ _ he (Fz.eq rfl ?_)
   have:zii l m:=⟨by omega,fun i h=>hv.out i h (by omega)⟩
   simp[this]
   try omega
theorem zHs:cx.ft.get 28=some Tryz.f28:=za9 (by decide) (by kernel_rfl)
def zd9 (p:Pv) (m:Nat):Prop:=(p.except.length≤30∧∀i (h:i<p.except.length),(p.except[i]).size≤60)∧p.when_.size≤m∧p.begin_.size≤m∧p.end_.size≤m∧p.again.size≤m
open Classical in
theorem zMw (p:Pv) (m:Nat)(hm:m≤1000000000):Ret Tryz.prog cx 28 [.agg p.cs,.int .i64 (m:Int)] (.bool (decide (zd9 p m))):=by
 have cw:=zJz p.when_ m hm
 have c1:=zts _ p.begin_ m (Nat.le_refl _) hm
 have c2:=zts _ p.end_ m (Nat.le_refl _) hm
 have c3:=zts _ p.again m (Nat.le_refl _) hm
 obtain⟨Q,hQ⟩:∃Q,Q=zd9 p m:=⟨_,rfl⟩
 rw[← hQ]
 unfold zd9 at hQ
 rcases p with⟨id,rank,kind,name,value,⟨w1,w2,w3,w4,w5⟩,ex,⟨b1,b2,b3,b4⟩,⟨e1,e2,e3,e4⟩,⟨g1,g2,g3,g4⟩⟩
 dsimp only at cw c1 c2 c3 hQ ⊢
 generalize (Fm.mk w1 w2 w3 w4 w5).size=sw at cw hQ
 generalize (Stt.mk b1 b2 b3 b4).size=s1 at c1 hQ
 generalize (Stt.mk e1 e2 e3 e4).size=s2 at c2 hQ
 generalize (Stt.mk g1 g2 g3 g4).size=s3 at c3 hQ
 simp only[Stt.cs,Fm.cs]at cw c1 c2 c3
 refine Ret.mk fun h nx R hR=>zaa (sz:=58) (rs:=[.tmp 4]) za4 zHs rfl rfl rfl (by simp) ?_
 simp-implicitDefEqProofs[go_sem,Pv.cs,Fm.cs,Stt.cs]
 generalize hB:bx 30 _ false 0=B
 have fin:∀(H:Tr ABlk) (ny:Nat) (x:Bool),Ext nx h H→(x=true↔Q)→R (.bool x) H ny:=fun H ny x he hx=>hR _ _ _ he (Fz.eq rfl (by congr 1;by_cases q:Q <;> simp[q]at hx ⊢ <;> exact hx))
 refine zap (fun mm st=>∃tm k,st=.mk tm (h.put nx (some B)) (nx+1) []∧mm=30-k∧k≤ex.length∧k≤30∧tm.get 1=some (.int .i64 (m:Int))∧tm.get 2=some (.ptr nx 0)∧tm.get 5=some (.int .i64 (k:Int))∧RowKit.Hid (∀i (h:i<ex.length),i<k→(ex[i]).size≤60)) ⟨30,_,0,rfl,by simp,by simp,by simp,?_⟩ ?_
 ·simp-implicitDefEqProofs[go_sem]
  exact Lib.hid trivial
 ·rintro mm st ⟨tm,k,rfl,rfl,hk,hkm,t1,t2,t5,hv⟩ J hJ
  refine zag za4 _ ?_
  have he:Ext nx h (h.put nx (some B)):=(Ext.refl nx h).put (Nat.le_refl _) _
  subst hB
  by_cases hlt:k<ex.length
  ·by_cases hlm:k<30
   ·have hlmI:(k:Int)<30:=by omega
    simp-implicitDefEqProofs[go_sem,t1,t2,t5,hlt,hlmI]
    refine zm6 (fun hb=>?_) (fun hb=>?_)
    ·simp at hb
     simp-implicitDefEqProofs[go_sem]
     refine fin _ _ _ he ?_
     rw[hQ]
     simp
     intro q1 q2
     have:=q2 k hlt
     omega
    ·simp at hb
     simp-implicitDefEqProofs[go_sem,t1,t2,t5]
     refine hJ (30-(k+1)) _ (by omega) ⟨_,k+1,rfl,rfl,by omega,by omega,?_⟩
     simp(disch:=omega) [go_sem,t1,t2,t5,zab]
     refine Lib.hid (fun i h hi=>?_)
     by_cases e:i=k
     ·subst e;omega
     ·exact hv.out i h (by omega)
   ·have h30:¬(ex.length:Int)≤30:=by omega
    have hlmI:¬(k:Int)<30:=by omega
    simp-implicitDefEqProofs[go_sem,t1,t2,t5,hlt,hlmI,h30]
    refine fin _ _ _ he ?_
    rw[hQ]
    simp
    intro q1
    omega
  ·have h30:(ex.length:Int)≤30:=by omega
   have hall:ex.length≤30∧∀i (h:i<ex.length),(ex[i]).size≤60:=⟨by omega,fun i h=>hv.out i h (by omega)⟩
   have hQ2:Q↔sw≤m∧s1≤m∧s2≤m∧s3≤m:=by rw[hQ];exact⟨fun q=>q.2,fun q=>⟨hall,q⟩⟩
   have HQ:=Lib.hid hQ2
   clear hQ2 hQ hall
   simp-implicitDefEqProofs[go_sem,t1,t2,t5,hlt,h30]
   refine Ret.use cw ?_
   by_cases d0:sw≤m
   ·simp-implicitDefEqProofs[go_sem,za0,t1,t2,t5,d0]
    refine Ret.use c1 ?_
    by_cases d1:min s1 (m+1)≤m
    ·simp-implicitDefEqProofs[go_sem,za0,t1,t2,t5,d0,d1]
     refine Ret.use c2 ?_
     by_cases d2:min s2 (m+1)≤m
     ·simp-implicitDefEqProofs[go_sem,za0,t1,t2,t5,d0,d1,d2]
      refine Ret.use c3 ?_
      by_cases d3:min s3 (m+1)≤m
      ·simp-implicitDefEqProofs[go_sem,za0,t1,t2,t5,d0,d1,d2,d3]
       refine fin _ _ _ he ?_
       rw[HQ.out]
       simp only[true_iff]
       omega
      ·simp-implicitDefEqProofs[go_sem,za0,t1,t2,t5,d0,d1,d2,d3]
       refine fin _ _ _ he ?_
       rw[HQ.out]
       simp only[Bool.false_eq_true,false_iff]
       omega
     ·simp-implicitDefEqProofs[go_sem,za0,t1,t2,t5,d0,d1,d2]
      refine fin _ _ _ he ?_
      rw[HQ.out]
      simp only[Bool.false_eq_true,false_iff]
      omega
    ·simp-implicitDefEqProofs[go_sem,za0,t1,t2,t5,d0,d1]
     refine fin _ _ _ he ?_
     rw[HQ.out]
     simp only[Bool.false_eq_true,false_iff]
     omega
   ·simp-implicitDefEqProofs[go_sem,za0,t1,t2,t5,d0]
    refine fin _ _ _ he ?_
    rw[HQ.out]
    simp[d0]
end
end Go.Ev
