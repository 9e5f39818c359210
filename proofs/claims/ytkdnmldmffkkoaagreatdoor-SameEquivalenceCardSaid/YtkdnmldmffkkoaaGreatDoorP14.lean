/- Texts. -/
import Derived.Test.YtkdnmldmffkkoaaGreatDoorP13
set_option linter.unusedSimpArgs false
set_option linter.unusedVariables false
set_option maxRecDepth 100000
set_option maxHeartbeats 8000000
namespace Go.Ev
open Go
noncomputable section
variable {P : Program} {c : Cx}
def th (q:Prop):Prop:=¬q
@[go_sem] theorem yaw:th True=False:=by simp[th]
@[go_sem] theorem zXz:th False=True:=by simp[th]
def qu (q:Prop)(v:AV):AV:=@ite _ q (Classical.propDecidable q) v (.tup [])
def CF (q:Prop)(v u:AV):AV:=@ite _ q (Classical.propDecidable q) v u
def rk (q:Prop)(r:R)(h:Tr ABlk) (nx:Nat):R:=@ite _ q (Classical.propDecidable q) (r.rem h nx) (.val (.tup []) h nx)
def C7 (q:Prop)(r s:R)(h:Tr ABlk) (nx:Nat):R:=@ite _ q (Classical.propDecidable q) (r.rem h nx) (s.rem h nx)
section
variable {q : Prop} {v u : AV} {r s : R} {h : Tr ABlk} {nx : Nat}
theorem Dv (hq:q):qu q v=v:=if_pos hq
theorem CT (hq:¬q):qu q v=.tup []:=if_neg hq
theorem RH (hq:q):CF q v u=v:=if_pos hq
theorem Rw (hq:¬q):CF q v u=u:=if_neg hq
theorem Kx (hq:q):rk q r h nx=r.rem h nx:=if_pos hq
theorem DG (hq:¬q):rk q r h nx=.val (.tup []) h nx:=if_neg hq
theorem J4 (hq:q):C7 q r s h nx=r.rem h nx:=if_pos hq
theorem Jq (hq:¬q):C7 q r s h nx=s.rem h nx:=if_neg hq
@[go_sem] theorem zV9:qu True v=v:=Dv trivial
@[go_sem] theorem zVs:qu False v=.tup []:=CT id
@[go_sem] theorem zZ2:CF True v u=v:=RH trivial
@[go_sem] theorem zVf:CF False v u=u:=Rw id
@[go_sem] theorem zVw:rk False r h nx=.val (.tup []) h nx:=DG id
@[congr] theorem zWt {q q':Prop}{r r':R}{h:Tr ABlk}{nx:Nat}(hq:q=q')(hr:q'→r=r'):rk q r h nx=rk q' r' h nx:=by
 subst hq
 by_cases hh:q
 ·rw[Kx hh,Kx hh,hr hh]
 ·rw[DG hh,DG hh]
@[congr] theorem zWa {q q':Prop}{r r' s s':R}{h:Tr ABlk}{nx:Nat}(hq:q=q')(hr:q'→r=r')(hs:th q'∧¬q'→s=s'):C7 q r s h nx=C7 q' r' s' h nx:=by
 subst hq
 by_cases hh:q
 ·rw[J4 hh,J4 hh,hr hh]
 ·rw[Jq hh,Jq hh,hs ⟨hh,hh⟩]
@[congr] theorem zY2 {q q':Prop}{r r':AV}(hq:q=q')(hr:q'→r=r'):qu q r=qu q' r':=by
 subst hq
 by_cases hh:q
 ·rw[Dv hh,Dv hh,hr hh]
 ·rw[CT hh,CT hh]
@[go_sem] theorem zXq (v:AV)(h':Tr ABlk) (ax:Nat):(R.val v h' ax).rem h nx=.val v h nx:=rfl
@[go_sem] theorem yau (v:AV)(h':Tr ABlk) (ax:Nat):rk q (.val v h' ax) h nx=.val (qu q v) h nx:=by
 by_cases hh:q
 ·rw[Kx hh,Dv hh];rfl
 ·rw[DG hh,CT hh]
@[go_sem] theorem zVc (v u:AV)(h' h'':Tr ABlk) (ax Oy:Nat):C7 q (.val v h' ax) (.val u h'' Oy) h nx=.val (CF q v u) h nx:=by
 by_cases hh:q
 ·rw[J4 hh,RH hh];rfl
 ·rw[Jq hh,Rw hh];rfl
open Classical in
@[go_sem] theorem yct (b d:Bool):CF q (.bool b) (.bool d)=.bool (decide ((q∧b=true)∨(¬q∧d=true))):=by
 by_cases hh:q
 ·rw[RH hh];simp[hh]
 ·rw[Rw hh];simp[hh]
end
section
variable {sz : Nat} {ops : List Oper} {K : AS → Prop} {tm : Tr AV} {h : Tr ABlk} {nx : Nat} {ds : List DE} (want : Bool) (dst : Option Tmp) (op : Op) (ty : TypeId) (pos : String) (aZ : Array Edge)
def fO (c:Cx)(op:Op):Bool:=match op with
 |.move _=>true |.assign _=>true |.pick _ _ _=>true |.build _ _=>true |.load _ _=>true |.nilCheck _=>true |.binOp _ _ _ _ _=>true |.unOp _ _ _=>true
 |.makeInterface _ _=>true |.makeFunc _ _ _=>true |.slice _ _ _ _ _=>true |.fieldAddr _ _ _=>true |.field _ _ _=>true |.indexAddr _ _ _=>true |.index _ _ _=>true
 |.lookup t _ _ _=>!uU c t |.typeAssert _ _ _ _=>true |.extract _ _=>true
 |.call cl=>match cl.callee with
  |.builtin .len=>true
  |.builtin .cap=>true
  |_=>false
 |_=>false
@[go_sem] theorem ycz (x:Operand):fO c (.move x)=true:=by simp[fO]
@[go_sem] theorem zZd (t:TypeId)(x:Operand):fO c (.load t x)=true:=by simp[fO]
@[go_sem] theorem zYd (o:BinOp)(t t':TypeId)(x y:Operand):fO c (.binOp o t x y t')=true:=by simp[fO]
@[go_sem] theorem yaa (o:UnOp)(t:TypeId)(x:Operand):fO c (.unOp o t x)=true:=by simp[fO]
@[go_sem] theorem zXf (t:TypeId)(x:Operand) (k:Nat):fO c (.fieldAddr t x k)=true:=by simp[fO]
@[go_sem] theorem yai (t:TypeId)(x i:Operand):fO c (.indexAddr t x i)=true:=by simp[fO]
@[go_sem] theorem ydo (t:TypeId)(x i:Operand):fO c (.index t x i)=true:=by simp[fO]
@[go_sem] theorem zY0 (x:Operand):fO c (.nilCheck x)=true:=by simp[fO]
@[go_sem] theorem zYt (t:TypeId)(m k:Operand)(ok:Bool):fO c (.lookup t m k ok)=!uU c t:=by simp[fO]
@[go_sem] theorem zWm (x y z:Operand):fO c (.pick x y z)=true:=by simp[fO]
@[go_sem] theorem zZw (args:Array Operand)(gO:Array TypeId):fO c (.call ⟨.builtin .len,args,gO⟩)=true:=by simp[fO]
theorem ZH (v:AV)(h':Tr ABlk) (ax:Nat):dp sz dst tm ds K (.val v h' ax)=cT sz dst v (.mk tm h' ax ds) K:=by cases dst <;> rfl
theorem zGu (hs:fO c op=true):cz P c sz ops ⟨dst,op,ty,pos,aZ,none⟩ K (.mk tm h nx ds)=dp sz dst tm ds K (cv c op tm h nx):=by
 cases op
 case lookup t x k ok=>
  have hk:uU c t=false:=by simpa[fO]using hs
  rw[zOx,hk];rfl
 all_goals try (first |rfl |(cases hs;done))
 rename_i cl;obtain⟨callee,args,gO⟩:=cl;cases callee <;> try (cases hs;done)
 rfl
theorem zJe (hG:c.G.sym=true)(hs:fO c op=true):(cv c op tm h nx).rem h nx=cv c op tm h nx:=by
 refine(XE hG op ?_ (GQ _ _)).symm;cases op <;> try (first |rfl |(cases hs;done))
 rename_i cl;obtain⟨callee,args,gO⟩:=cl;cases callee <;> try (cases hs;done)
 rename_i b;cases b <;> first |rfl |(cases hs;done)
theorem PK (b:Bool)(hG:c.G.sym=true)(hs:fO c op=true):jP P c sz ops (some (.bool b)) want dst op ty pos aZ K tm h nx ds=dp sz dst tm ds K (rk (b=want) (cv c op tm h nx) h nx):=by
 by_cases e:b=want
 ·simp only[jP];rw[if_pos e,zGu dst op ty pos aZ hs,Kx e,zJe op hG hs]
 ·simp only[jP];rw[if_neg e,DG e,ZH]
theorem RF (b:Bool):th (b=true)=(b=false):=by cases b <;> simp[th]
@[go_sem] theorem zWs (b:Bool)(hG:c.G.sym=true)(hs:fO c op=true):jP P c sz ops (some (.bool b)) true dst op ty pos aZ K tm h nx ds=dp sz dst tm ds K (rk (b=true) (cv c op tm h nx) h nx):=PK true dst op ty pos aZ b hG hs
@[go_sem] theorem zZ0 (b:Bool)(hG:c.G.sym=true)(hs:fO c op=true):jP P c sz ops (some (.bool b)) false dst op ty pos aZ K tm h nx ds=dp sz dst tm ds K (rk (th (b=true)) (cv c op tm h nx) h nx):=by
 rw[RF];exact PK false dst op ty pos aZ b hG hs
theorem Wy (p:Prop)(b:Bool)(hG:c.G.sym=true)(hs:fO c op=true):jP P c sz ops (some (qu p (.bool b))) want dst op ty pos aZ K tm h nx ds=dp sz dst tm ds K (rk (p∧b=want) (cv c op tm h nx) h nx):=by
 by_cases hp:p
 ·rw[Dv hp,PK want dst op ty pos aZ b hG hs];simp[hp]
 ·rw[CT hp,DG (fun q=>hp q.1),ZH];rfl
@[go_sem] theorem zVd (p:Prop)(b:Bool)(hG:c.G.sym=true)(hs:fO c op=true):jP P c sz ops (some (qu p (.bool b))) true dst op ty pos aZ K tm h nx ds=dp sz dst tm ds K (rk (p∧b=true) (cv c op tm h nx) h nx):=Wy true dst op ty pos aZ p b hG hs
@[go_sem] theorem zZ8 (p:Prop)(b:Bool)(hG:c.G.sym=true)(hs:fO c op=true):jP P c sz ops (some (qu p (.bool b))) false dst op ty pos aZ K tm h nx ds=dp sz dst tm ds K (rk (p∧th (b=true)) (cv c op tm h nx) h nx):=by
 rw[RF];exact Wy false dst op ty pos aZ p b hG hs
end
section
def PL (v:Option AV)(a b:R)(h:Tr ABlk) (nx:Nat):R:=match v with
 |some (.bool true)=>a.rem h nx
 |some (.bool false)=>b.rem h nx
 |_=>.fail
end
section
variable {tm : Tr AV} {h : Tr ABlk} {nx : Nat}
@[go_sem high] theorem zZy (x a b:Operand):dw c x a b tm h nx=PL (aM c.G tm x) (ku c a tm h nx) (ku c b tm h nx) h nx:=by
 have hm:∀a,(ku c a tm h nx).rem h nx=ku c a tm h nx:=fun a=>by
  unfold ku bR;cases aM c.G tm a <;> rfl
 unfold dw PL;simp only[hm];cases aM c.G tm x with
 |none=>rfl
 |some v=>
  cases v <;> try rfl
  rename_i b;cases b <;> rfl
@[go_sem] theorem ydj (b:Bool)(r s:R):PL (some (.bool b)) r s h nx=C7 (b=true) r s h nx:=by
 cases b
 ·rw[Jq (by simp)];rfl
 ·rw[J4 rfl];rfl
end
@[go_sem] theorem ydf:cx.G.sym=true:=rfl
@[go_sem] theorem yas:G0.sym=true:=rfl
@[go_sem] theorem zXa (v:AV)(h h':Tr ABlk) (nx ax:Nat):(R.val v h' ax).rem h nx=.val v h nx:=rfl
theorem YJ {sz:Nat}{ops:List Oper}{K:AS→Prop}{tm:Tr AV}{h:Tr ABlk}{nx:Nat}{ds:List DE}{want b:Bool}{dst:Option Tmp}{f:Operand}{args:Array Operand}{gO:Array TypeId}{ty:TypeId}{pos:String}{aZ:Array Edge}{fid:FuncId}{first cap l:List AV}{u:AV}{q:Prop}(e:(b=want)=q)
  (hf:aM c.G tm f=some (.func fid first cap)) (hl:q→cZ c.G tm args.toList=some l) (hr:q→ay P c fid (first++(l++cap)) u) (hk:cT sz dst (qu q u) (.mk tm h nx ds) K):
  jP P c sz ops (some (.bool b)) want dst (.call ⟨.value f,args,gO⟩) ty pos aZ K tm h nx ds:=by
 subst e;simp only[jP]
 by_cases e:b=want
 ·rw[if_pos e];rw[Dv e]at hk;simp only[cz,sX,fY,kA,hf,hl e,tA];exact ay.use (hr e) hk
 ·rw[if_neg e];rw[CT e]at hk;exact hk
section
variable {sz : Nat} {ops : List Oper} {K : AS → Prop} {tm : Tr AV} {h : Tr ABlk} {nx : Nat} {ds : List DE} {b : Bool} {dst : Option Tmp} {f : Operand} {args : Array Operand} {gO : Array TypeId} {ty : TypeId} {pos : String} {aZ : Array Edge} {fid : FuncId} {first cap l : List AV} {u : AV}
theorem zK0 (hf:aM c.G tm f=some (.func fid first cap))(hl:b=true→cZ c.G tm args.toList=some l)(hr:ay P c fid (first++(l++cap)) u)(hk:cT sz dst (qu (b=true) u) (.mk tm h nx ds) K):
  jP P c sz ops (some (.bool b)) true dst (.call ⟨.value f,args,gO⟩) ty pos aZ K tm h nx ds:=YJ rfl hf hl (fun _=>hr) hk
theorem PI (hf:aM c.G tm f=some (.func fid first cap))(hl:th (b=true)→cZ c.G tm args.toList=some l)(hr:ay P c fid (first++(l++cap)) u)(hk:cT sz dst (qu (th (b=true)) u) (.mk tm h nx ds) K):
  jP P c sz ops (some (.bool b)) false dst (.call ⟨.value f,args,gO⟩) ty pos aZ K tm h nx ds:=YJ (RF b).symm hf hl (fun _=>hr) hk
end
end
end Go.Ev
namespace Go.Ev
open Go.Proofs
noncomputable section
attribute [-go_sem] dw
def kB (i:Nat) (c:Int):Prop:=((97≤c∧c≤122)∨(65≤c∧c≤90))∨(i≠0∧((48≤c∧c≤57)∨c=95))
def xu (s:ByteArray):Prop:=(∀i (h:i<s.size),kB i ((s[i]).toNat:Int))∧s≠.empty∧s.size≤24
def vf (s:ByteArray):Bool:=@decide (xu s) (Classical.propDecidable _)
theorem KB {s:ByteArray}(h:xu s):vf s=true:=by unfold vf;exact @decide_eq_true _ (Classical.propDecidable _) h
theorem Yi {s:ByteArray}(h:¬xu s):vf s=false:=by unfold vf;exact @decide_eq_false _ (Classical.propDecidable _) h
@[go_sem] theorem zWr (size b:Nat)(z:Option AV)(fs:List (Nat×Nat×Bool))(v:ByteArray)(k:IntKind)(h:Tr ABlk) (nx:Nat)(hn:0<v.size):tE (.mk .string size b z fs) (.bs v) (.int k 0) h nx=.val (.int .u8 ((v[0]).toNat:Int)) h nx:=
 zU3 size b z fs v k 0 h nx hn
theorem zTi:cx.ft.get 84=some Tryz.f84:=aT (by decide) (by kernel_rfl)
theorem zSe (s:ByteArray)(hs:s.size≤1000000000):ay Tryz.prog cx 84 [.bs s] (.bool (vf s)):=by
 refine ay.mk fun h nx R hR=>aV (sz:=57) (rs:=[.tmp 2]) aE zTi rfl rfl rfl (by simp) ?_;simp[go_sem];refine bT (fun mm st=>∃tm k,st=.mk tm h nx []∧mm=s.size-k∧k≤s.size∧tm.get 0=some (.bs s)∧tm.get 8=some (.int .i64 (s.size:Int))∧tm.get 9=some (.int .i64 (k:Int))∧RowKit.Hid (∀i (h:i<s.size),i<k→kB i ((s[i]).toNat:Int))) ⟨s.size,_,0,rfl,by simp,by simp,?_⟩ ?_
 ·simp[go_sem];exact Lib.hid trivial
 ·rintro mm st ⟨tm,k,rfl,rfl,hk,t0,t8,t9,hv⟩ J hJ
  refine bt aE _ ?_
  by_cases az:k<s.size
  ·obtain⟨c,hc⟩:∃c:Int,((s[k]).toNat:Int)=c:=⟨_,rfl⟩;simp +contextual -implicitDefEqProofs[go_sem,t0,t8,t9,az,hc];refine BI (fun hb=>?_) (fun hb=>?_)
   ·simp[go_sem,t0,t8,t9];refine hR _ _ _ (aA.refl _ _) (Fz.eq rfl ?_);rw[Yi (fun hn=>?_)];have:=hn.1 k az;rw[hc]at this;unfold kB at this;simp at hb;omega
   ·simp[go_sem,t0,t8,t9];refine hJ (s.size-(k+1)) _ (by omega) ⟨_,k+1,rfl,rfl,by omega,?_⟩;simp(disch:=omega) [go_sem,t0,t8,t9,aY];refine Lib.hid (fun i h hi=>?_)
    by_cases e:i=k
    ·subst e;rw[hc];unfold kB;simp at hb;omega
    ·exact hv.out i h (by omega)
  ·have aR:∀i (h:i<s.size),kB i ((s[i]).toNat:Int):=fun i h=>hv.out i h (by omega);simp +contextual -implicitDefEqProofs[go_sem,t0,t8,t9,az];refine hR _ _ _ (aA.refl _ _) (Fz.eq rfl ?_)
   by_cases hn:xu s
   ·have e1:¬s=(⟨#[]⟩:ByteArray):=hn.2.1;have e2:(s.size:Int)≤24:=by have:=hn.2.2;omega
    rw[KB hn];simp[e1,e2]
   ·rw[Yi hn]
    congr 1
    by_cases e1:s=(⟨#[]⟩:ByteArray)
    ·simp[e1]
    ·have e2:¬(s.size:Int)≤24:=fun h=>hn ⟨aR,e1,by omega⟩;simp[e2]
end
end Go.Ev
namespace Go.Ev
open Go.Proofs
noncomputable section
attribute [-go_sem] dw bP
def fZ:List ByteArray→Nat→List (AV×AV×Nat)
 |[],_=>[]
 |x::l,n=>(.bs x,.bool true,n)::fZ l (n+1)
theorem Hu (x:ByteArray):∀(l:List ByteArray) (n:Nat),fZ l n++[(.bs x,.bool true,n+l.length)]=fZ (l++[x]) n
 |[],n=>rfl
 |y::l,n=>by
  have:=Hu x l (n+1);simp only[fZ,List.cons_append,List.length_cons];rw[← this,show n+(l.length+1)=n+1+l.length by omega]
def rN (x:ByteArray):List ByteArray→Nat→Option (Nat×AV)
 |[],_=>none
 |y::l,i=>if x=y then some (i,.bool true) else rN x l (i+1)
theorem WV (x:ByteArray):∀(l:List ByteArray) (n i:Nat),mj .string (.bs x) (fZ l n) i=some (rN x l i)
 |[],n,i=>rfl
 |y::l,n,i=>by
  rw[fZ,DH,rN]
  by_cases e:x=y
  ·simp[lR,e]
  ·simp[lR,e,fN_eq,WV x l (n+1) (i+1)]
attribute [go_sem] WV
open Classical in
@[go_sem] theorem zTp (x:ByteArray)(h:Tr ABlk) (nx:Nat):∀(l:List ByteArray) (i:Nat),bP false (.bool false) (rN x l i) h nx=.val (.bool (decide (x∈l))) h nx
 |[],i=>by simp[rN,bP]
 |y::l,i=>by
  have:=zTp x h nx l (i+1);rw[rN]
  by_cases e:x=y
  ·simp[e,bP]
  ·simp[e,this]
@[go_sem] theorem zzx {x:ByteArray}:∀{l:List ByteArray}(i:Nat),¬x∈l→rN x l i=none
 |[],_,_=>rfl
 |y::l,i,h=>by
  simp at h;rw[rN,if_neg h.1,zzx (i+1) h.2]
def G8 (f:Fc):Prop:=(f.kind=1∧f.lo=0∧f.hi=1)∨((f.kind=2∨f.kind=3)∧0≤f.lo∧f.lo≤f.hi∧f.hi≤1000000)
def Kq (l:List Fc):Prop:=(∀f∈l,G8 f∧vf f.name=true)∧(l.map Fc.name).Nodup
def BF (l:List Fc):Prop:=Kq l∧l.length≤60
def eQ (l:List Fc):Bool:=@decide (BF l) (Classical.propDecidable _)
theorem QH {s:List Fc}(h:BF s):eQ s=true:=by unfold eQ;exact @decide_eq_true _ (Classical.propDecidable _) h
theorem KX {s:List Fc}(h:¬BF s):eQ s=false:=by unfold eQ;exact @decide_eq_false _ (Classical.propDecidable _) h
theorem zRe {α:Type}{m:List α}{k:Nat}(hn:m.Nodup)(hk:k<m.length):¬m[k]∈m.take k:=by
 intro hm;have e:m=m.take k++m[k]::m.drop (k+1):=by
  rw[← aj hk,List.take_append_drop]
 rw[e,List.nodup_append]at hn;exact hn.2.2 _ hm _ (ao) rfl
theorem zKf {l:List Fc}{k:Nat}(hk:k<l.length)(hv:Kq (l.take k))(h1:G8 l[k])(h2:vf (l[k]).name=true)(h3:¬(l[k]).name∈(l.map Fc.name).take k):Kq (l.take (k+1)):=by
 have e:l.take (k+1)=l.take k++[l[k]]:=List.take_succ_eq_append_getElem hk;rw[e];refine⟨fun f hf=>?_,?_⟩
 ·rcases List.mem_append.1 hf with h |h
  ·exact hv.1 f h
  ·simp at h;subst h;exact⟨h1,h2⟩
 ·rw[List.map_append,List.nodup_append];refine⟨hv.2,by simp,?_⟩;intro a ha b hb e;simp at hb;subst hb;subst e;rw[← List.map_take]at h3;exact h3 ha
theorem zS6:cx.ft.get 37=some Tryz.f37:=aT (by decide) (by kernel_rfl)
theorem J7 (full:Bool)(l:List Fc)(hl:l.length≤1000000000)(hs:∀f∈l,f.name.size≤1000000000):ay Tryz.prog cx 37 [.agg [.fz 4 full (aP l)]] (.bool (eQ l)):=by
 refine ay.mk fun h nx R hR=>aV (sz:=80) (rs:=[.tmp 2]) aE zS6 rfl rfl rfl (by simp) ?_;simp-implicitDefEqProofs[go_sem];refine bT (fun mm st=>∃tm h' ax k,st=.mk tm h' ax []∧mm=l.length-k∧k≤l.length∧tm.get 1=some (.ptr nx 0)∧tm.get 3=some (.map (nx+1))∧tm.get 10=some (.fz 4 full (aP l))∧tm.get 11=some (.int .i64 (l.length:Int))∧tm.get 12=some (.int .i64 (k:Int))∧aA nx h h'∧nx+2≤ax∧h'.get nx=some (bx 35 [.fz 4 full (aP l)] false 0)∧h'.get (nx+1)=some (.map (fZ ((l.take k).map Fc.name) 0) k)∧RowKit.Hid (Kq (l.take k))) ⟨l.length,_,_,_,0,rfl,by simp,by simp,?_⟩ ?_
 ·simp-implicitDefEqProofs[go_sem,fZ];exact⟨((aA.refl nx h).put (ae _) _).put (by omega) _,Lib.hid ⟨by simp,by simp⟩⟩
 ·rintro mm st ⟨tm,h',ax,k,rfl,rfl,hk,t1,t3,t10,t11,t12,he,hn,g0,g1,hv⟩ J hJ
  refine bt aE _ ?_;have n0:¬nx=ax:=by omega
  have n1:¬nx+1=ax:=by omega
  by_cases az:k<l.length
  ·obtain⟨f,hf⟩:∃f,l[k]=f:=⟨_,rfl⟩;simp +contextual -implicitDefEqProofs[go_sem,t1,t3,t10,t11,t12,az,g0,g1,n0,n1,hf,Fc.cs];have zH:f∈l:=hf ▸ ai az;refine PI (fid:=84) (first:=[]) (cap:=[]) (l:=[.bs f.name]) (by simp[go_sem]) ?_ (zSe f.name (hs f zH)) ?_
   ·simp +contextual -implicitDefEqProofs[go_sem]
   simp +contextual -implicitDefEqProofs[go_sem,fg,t1,t3,t10,t11,t12,az,g0,g1,n0,n1];refine BI (fun hb=>?_) (fun hb=>?_)
   ·simp-implicitDefEqProofs[go_sem];refine hR _ _ _ ((he.put (by omega) _).put (by omega) _) (Fz.eq rfl ?_);rw[KX];intro bD;obtain⟨h1,h2⟩:=bD.1.1 f zH;have h3:=zRe bD.1.2 (k:=k) (by simpa using az);rw[List.getElem_map,hf]at h3;unfold G8 at h1;simp[h2,h3]at hb;omega
   ·have gZ:G8 f∧vf f.name=true∧¬f.name∈List.take k (List.map Fc.name l):=by
     simp at hb;unfold G8
     by_cases e1:vf f.name=true
     ·by_cases e2:f.name∈List.take k (List.map Fc.name l)
      ·simp[e1,e2]at hb;omega
      ·refine⟨?_,e1,e2⟩;simp[e1,e2]at hb;omega
     ·simp[e1]at hb;omega
    obtain⟨b1,b2,b3⟩:=gZ;clear hb;simp-implicitDefEqProofs[go_sem,t1,t3,t10,t11,t12,g0,g1,n0,n1,b3];have vP:fZ (List.take k (List.map Fc.name l)) 0++[(.bs f.name,.bool true,k)]=fZ ((l.take (k+1)).map Fc.name) 0:=by
     have h1:=Hu f.name (List.take k (List.map Fc.name l)) 0;have h2:(List.take k (List.map Fc.name l)).length=k:=by simp;omega
     rw[h2,Nat.zero_add]at h1;rw[h1,List.take_succ_eq_append_getElem az,List.map_append,List.map_take,hf];rfl
    have HM:=Lib.hid vP;clear vP;have HV:=Lib.hid (zKf az hv.out (hf ▸ b1) (hf ▸ b2) (hf ▸ b3));refine hJ (l.length-(k+1)) _ (by omega) ⟨_,_,_,k+1,rfl,rfl,by omega,?_⟩;simp(disch:=omega) [go_sem,t1,t3,t10,t11,t12,aY];refine⟨((he.put (by omega) _).put (by omega) _).put (by omega) _,by omega,by rw[if_neg n0,if_neg n0];exact g0,?_,HV⟩;have:=HM.out;rw[List.map_take]at this;exact this
  ·simp +contextual -implicitDefEqProofs[go_sem,t1,t3,t10,t11,t12,az,g0,g1,n0,n1];refine hR _ _ _ he (Fz.eq rfl ?_);have:l.take k=l:=ar (by omega);rw[this]at hv
   by_cases h6:l.length≤60
   ·have h7:(l.length:Int)≤60:=by omega
    rw[QH ⟨hv.out,h6⟩];simp[h7]
   ·have h7:¬(l.length:Int)≤60:=by omega
    rw[KX (fun q=>h6 q.2)];simp[h7]
theorem Ys:cx.ft.get 86=some Tryz.f86:=aT (by decide) (by kernel_rfl)
theorem zJl:cx.ft.get 92=some Tryz.f92:=aT (by decide) (by kernel_rfl)
theorem zO4:cx.ft.get 136=some Tryz.f136:=aT (by decide) (by kernel_rfl)
theorem zOb (l m:List br)(hl:l.length≤1000000000)(hm:m.length≤1000000000)(hp:∀a∈l,∀b∈m,ay Tryz.prog cx 92 [.agg a.cs,.agg b.cs] (.bool (eH a b))):ay Tryz.prog cx 136 [.fz 4 false (mf l),.fz 4 false (mf m),.func 92 [] []] (.bool (mg l m)):=by
 refine ay.mk fun h nx R hR=>aV (sz:=32) (rs:=[.tmp 6]) aE zO4 rfl rfl rfl (by simp) ?_
 by_cases hlen:l.length=m.length
 ·simp-implicitDefEqProofs[go_sem,hlen];refine bT (fun mm st=>∃tm h' ax k,st=.mk tm h' ax []∧mm=m.length-k∧k≤m.length∧tm.get 1=some (.fz 4 false (mf m))∧tm.get 2=some (.func 92 [] [])∧tm.get 15=some (.fz 4 false (mf l))∧tm.get 16=some (.int .i64 (m.length:Int))∧tm.get 17=some (.int .i64 (k:Int))∧aA nx h h'∧nx≤ax∧RowKit.Hid (mg l m=mg (l.drop k) (m.drop k))) ⟨m.length,_,_,_,0,rfl,by simp,by simp,?_⟩ ?_
  ·simp-implicitDefEqProofs[go_sem];exact⟨aA.refl _ _,Lib.hid trivial⟩
  ·rintro mm st ⟨tm,h',ax,k,rfl,rfl,hk,t1,t2,t15,t16,t17,he,hn,hv⟩ J hJ
   refine bt aE _ ?_
   by_cases az:k<m.length
   ·have dj:k<l.length:=by omega
    have HD:=Lib.hid (show mg (l.drop k) (m.drop k)=(eH l[k] m[k] && mg (l.drop (k+1)) (m.drop (k+1))) by
     rw[aj az,aj dj,mg])
    simp-implicitDefEqProofs[go_sem,t1,t2,t15,t16,t17,az,dj];refine ay.use (hp _ (ai dj) _ (ai az)) ?_
    by_cases hs:eH l[k] m[k]=true
    ·simp-implicitDefEqProofs[go_sem,aB,t1,t2,t15,t16,t17,hs];refine hJ (m.length-(k+1)) _ (by omega) ⟨_,_,_,k+1,rfl,rfl,by omega,?_⟩;simp(disch:=omega) [go_sem,t1,t2,t15,t16,t17,aY];have hd:=HD.out;rw[hs,Bool.true_and]at hd;refine⟨((((he.put (by omega) _).put (by omega) _).put (by omega) _).put (by omega) _),by omega,Lib.hid (by rw[hv.out,hd])⟩
    ·have jf:eH l[k] m[k]=false:=by simpa using hs
     simp-implicitDefEqProofs[go_sem,aB,t1,t2,t15,t16,t17,jf];refine hR _ _ _ ((((he.put (by omega) _).put (by omega) _).put (by omega) _).put (by omega) _) (Fz.eq rfl ?_);rw[hv.out,HD.out,jf,Bool.false_and]
   ·simp-implicitDefEqProofs[go_sem,t1,t2,t15,t16,t17,az];refine hR _ _ _ he (Fz.eq rfl ?_);rw[hv.out,aq (by omega),aq (by omega),mg]
 ·have hi:¬(l.length:Int)=(m.length:Int):=by omega
  simp-implicitDefEqProofs[go_sem,hlen,hi];refine hR _ _ _ (aA.refl _ _) (Fz.eq rfl ?_);rw[ZY hlen]
theorem br.size_mem {a:br}:∀{l:List br},a∈l→a.size≤gJ l
 |b::l,h=>by
  simp only[gJ]
  rcases List.mem_cons.1 h with h |h
  ·subst h;omega
  ·have:=br.size_mem h;omega
theorem PZ (n:Nat):∀(a b:br),a.size≤n→n≤1000000000→b.size≤1000000000→ay Tryz.prog cx 92 [.agg a.cs,.agg b.cs] (.bool (eH a b)):=by
 induction n with
 |zero=>intro a b ha;cases a;simp[br.size]at ha
 |succ n ih=>
 rintro⟨o,nm,d,k⟩ ⟨o',nm',d',k'⟩ ha hn hb
 simp only[br.size]at ha hb;have l1:=PB k;have l2:=PB k';have hc:=zOb k k' (by omega) (by omega) (fun x hx y hy=>ih x y (by have:=br.size_mem hx;omega) (by omega) (by have:=br.size_mem hy;omega));refine ay.mk fun h nx R hR=>aV (sz:=31) (rs:=[.tmp 4]) aE zJl rfl rfl rfl (by simp) ?_;simp +contextual -implicitDefEqProofs[go_sem,br.cs];refine zK0 (fid:=136) (first:=[]) (cap:=[]) (l:=[.fz 4 false (mf k),.fz 4 false (mf k'),.func 92 [] []]) (by simp[go_sem]) ?_ hc ?_
 ·simp +contextual -implicitDefEqProofs[go_sem]
 simp +contextual -implicitDefEqProofs[go_sem,fg];refine hR _ _ _ (((aA.refl nx h).put (ae _) _).put (by omega) _) (Fz.eq rfl ?_);simp[eH]
structure Pv where
 id:ByteArray
 rank:Int
 kind:Int
 name:ByteArray
 value:Int
 when_:Fm
 except:List ByteArray
 begin_:br
 end_:br
 again:br
def Pv.cs (p:Pv):List AV:=[.bs p.id,.int .i64 p.rank,.int .i64 p.kind,.bs p.name,.int .i64 p.value]++(p.when_.cs++([.fz 1 false (bf p.except)]++(p.begin_.cs++(p.end_.cs++p.again.cs))))
theorem zIt:cx.ft.get 44=some Tryz.f44:=aT (by decide) (by kernel_rfl)
theorem zKw (a b:Pv)(v:AV)(ha:a.begin_.size≤1000000000∧a.end_.size≤1000000000∧a.again.size≤1000000000)(hb:b.begin_.size≤1000000000∧b.end_.size≤1000000000∧b.again.size≤1000000000):ay Tryz.prog cx 44 [.ip (a.cs++(b.cs++[v]))] (.tup [.bool (!(eH a.begin_ b.begin_ && eH a.end_ b.end_ && eH a.again b.again)),.sl0,.int .i64 0]):=by
 have c1:=PZ 1000000000 a.begin_ b.begin_ ha.1 (ae _) hb.1;have c2:=PZ 1000000000 a.end_ b.end_ ha.2.1 (ae _) hb.2.1;have c3:=PZ 1000000000 a.again b.again ha.2.2 (ae _) hb.2.2
 rcases a with⟨id,rank,kind,name,value,⟨w1,w2,w3,w4,w5⟩,ex,⟨b1,b2,b3,b4⟩,⟨e1,e2,e3,e4⟩,⟨g1,g2,g3,g4⟩⟩
 rcases b with⟨iS,mU,mR,mS,jB,⟨s5,Vh,Vk,Vl,Vm⟩,tO,⟨D6,vp,Lu,D7⟩,⟨jY,rM,xw,tN⟩,⟨LH,xz,LI,LJ⟩⟩
 dsimp only at c1 c2 c3 ⊢
 generalize Aq:eH (.mk b1 b2 b3 b4) (.mk D6 vp Lu D7)=s1 at c1 ⊢;generalize l8:eH (.mk e1 e2 e3 e4) (.mk jY rM xw tN)=s2 at c2 ⊢;generalize UA:eH (.mk g1 g2 g3 g4) (.mk LH xz LI LJ)=s3 at c3 ⊢;simp only[br.cs]at c1 c2 c3;refine ay.mk fun h nx R hR=>aV (sz:=45) (rs:=[.tmp 2,.tmp 3,.tmp 4]) aE zIt rfl rfl rfl (by simp) ?_;simp-implicitDefEqProofs[go_sem];refine ik mixed aE eO [] [10,22,35] [] (by kernel_rfl) ?_;simp-implicitDefEqProofs[go_sem,Pv.cs,Fm.cs,br.cs];refine gR c1 ?_;have fin:∀x:Bool,x=!(s1 && s2 && s3)→R (.tup [.bool x,.sl0,.int .i64 0]) h nx:=fun x hx=>hR _ _ _ (aA.refl _ _) (Fz.eq rfl (by rw[hx]));cases s1
 ·simp-implicitDefEqProofs[go_sem,fg];exact fin _ (by simp)
 ·simp-implicitDefEqProofs[go_sem,fg];refine gR c2 ?_;cases s2
  ·simp-implicitDefEqProofs[go_sem,fg];exact fin _ (by simp)
  ·simp-implicitDefEqProofs[go_sem,fg];refine gR c3 ?_;cases s3
   ·simp-implicitDefEqProofs[go_sem,fg];exact fin _ (by simp)
   ·simp-implicitDefEqProofs[go_sem,fg];exact fin _ (by simp)
end
end Go.Ev
